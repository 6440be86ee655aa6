/-
  Bytes of the call's own; slices that read as numbers; their conversion to a string.
-/
import Derived.Test.YtiobnhdcapfhgaaWords
import Derived.Lib.SliceRun
import Derived.Laws.BytesArg
namespace Go.Proofs.Ytiobnhdcapfhgaa
open Go.RowKit
set_option linter.unusedVariables false

theorem byte_info : (Try.prog.info? 5).map (fun i => (i.zero, i.size, i.bytes)) = some (some (.int .u8 0), 1, 1) := by kernel_rfl
theorem own_head {w : World} {B : Nat} {e : TypeId} {v : Value} {n : Nat} {xs : List Value} (h : w.ownsRow B e 1 v (n + 1) xs) : ∃ g cap, v = .slice (some ⟨g, 0, none⟩) (n + 1) cap ∧ B ≤ g ∧ g < w.heap.size := by
  rcases h.2 with ⟨_, hn⟩ | ⟨g, cap, cur, rfl, h2, h3, _⟩
  · omega
  · exact ⟨g, cap, rfl, h2, lt_of_block h3⟩
theorem own_form {w : World} {B : Nat} {e : TypeId} {v : Value} {n : Nat} {xs : List Value} (h : w.ownsRow B e 1 v n xs) : (v = .slice none 0 0 ∧ n = 0) ∨ ∃ g cap, v = .slice (some ⟨g, 0, none⟩) n cap ∧ B ≤ g ∧ g < w.heap.size := by
  rcases h.2 with ⟨hv, hn⟩ | ⟨g, cap, cur, rfl, h2, h3, _⟩
  · exact .inl ⟨hv, hn⟩
  · exact .inr ⟨g, cap, rfl, h2, lt_of_block h3⟩
theorem bytes_one {L : List Int} : ∀ u ∈ L.map (Value.int .u8), u.oneCell' = true := by
  intro u hu
  obtain ⟨n, _, rfl⟩ := List.mem_map.1 hu
  rfl
theorem Reads.one (w : World) (e : TypeId) (u : Value) : Reads (w.alloc (.cells #[u] e)) (w.heap.size + 1) 1 (some ⟨w.heap.size, 0, none⟩) 1 [u] :=
  ⟨by simp, fun _ => ⟨_, rfl, by simp, fun j x hj => by
    match j, hj with
    | 0, hj => simp at hj; subst hj; simp [Addr.add]
    | j + 1, hj => simp at hj⟩⟩
/-- a slice of bytes of the call's own, from block B on -/
def IsB (w : World) (B : Nat) (v : Value) (L : List Int) : Prop := w.ownsRow B 5 1 v L.length (L.map (Value.int .u8))
theorem IsB.nil (w : World) (B : Nat) : IsB w B (.slice none 0 0) [] := World.ownsRow_nil _ _ _ _
theorem own_base {w : World} {B B' : Nat} {e : TypeId} {size n : Nat} {v : Value} {xs : List Value} (h : w.ownsRow B e size v n xs) (hB : B' ≤ B) : w.ownsRow B' e size v n xs := by
  refine ⟨h.1, ?_⟩
  rcases h.2 with hn | ⟨g, cap, cur, h1, h2, h3⟩
  · exact .inl hn
  · exact .inr ⟨g, cap, cur, h1, Nat.le_trans hB h2, h3⟩
theorem IsB.base {w : World} {B B' : Nat} {v : Value} {L : List Int} (h : IsB w B v L) (hB : B' ≤ B) : IsB w B' v L := own_base h hB
theorem IsB.below {w w' : World} {B B' : Nat} {v : Value} {L : List Int} (h : IsB w B v L) (hb : Below B' w w') (hk : ∀ k, v.ownBlock = some k → k < B') : IsB w' B v L := by
  rcases h.2 with hn | ⟨g, cap, cur, rfl, h2, h3, h4⟩
  · exact ⟨h.1, .inl hn⟩
  · exact ⟨h.1, .inr ⟨g, cap, cur, rfl, h2, (hb.block g (hk g rfl)).trans h3, h4⟩⟩
theorem IsB.later {w w' : World} {B : Nat} {v : Value} {L : List Int} (h : IsB w B v L) (hb : Below w.heap.size w w') : IsB w' B v L := h.below hb (fun k hk => (World.ownsRow.lt h k hk).2)
/-- a slice of bytes reads as a list: nil, or from some place on -/
def RB (w : World) (A : Option Addr) (M : List Int) : Prop :=
  (A = none ∧ M = []) ∨ ∃ b off : Nat, A = some ⟨b, off, none⟩ ∧ ∀ i, i < M.length → w.cell? ⟨b, off + i, none⟩ = some (.int .u8 (M.getD i 0))
theorem RB.of_own {w : World} {B : Nat} {v : Value} {M : List Int} (h : IsB w B v M) : ∃ A cap, v = .slice A M.length cap ∧ RB w A M := by
  rcases own_form h with ⟨rfl, hn⟩ | ⟨g, cap, rfl, hb, hlt⟩
  · have hM : M = [] := List.eq_nil_of_length_eq_zero hn
    subst hM
    exact ⟨none, 0, rfl, .inl ⟨rfl, rfl⟩⟩
  · refine ⟨_, cap, rfl, .inr ⟨g, 0, rfl, fun i hi => ?_⟩⟩
    have hc := World.ownsRow.cellAt h i (by omega)
    rw [Nat.zero_add, hc, List.getElem?_map, List.getElem?_eq_getElem hi, List.getD_eq_getElem?_getD, List.getElem?_eq_getElem hi]
    rfl
theorem RB.keep {w w' : World} {A : Option Addr} {M : List Int} {B : Nat} (h : RB w A M) (hb : Below B w w') (hk : ∀ b off : Nat, A = some ⟨b, off, none⟩ → b < B) : RB w' A M := by
  rcases h with h | ⟨b, off, rfl, hc⟩
  · exact .inl h
  · exact .inr ⟨b, off, rfl, fun i hi => (hb.cell (p := ⟨b, off + i, none⟩) (hk b off rfl)).trans (hc i hi)⟩
theorem conv_any {w : World} {A : Option Addr} {M : List Int} (h : RB w A M) (cap : Nat) : (convert 24 9 (.slice A M.length cap)).run Try.prog w = .ok (.string (strOfNums M)) w := by
  rcases h with ⟨rfl, rfl⟩ | ⟨b, off, rfl, hc⟩
  · exact run_convert_bytes_nil w _ _ Try.underlying24 Try.underlying5 _ _ _ Try.underlying9
  · exact run_convert_bytes_arg w _ _ Try.underlying24 Try.underlying5 b off _ cap M rfl hc _ Try.underlying9
end Go.Proofs.Ytiobnhdcapfhgaa
