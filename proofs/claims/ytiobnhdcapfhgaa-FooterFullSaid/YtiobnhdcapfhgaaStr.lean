/-
  Appending a string's bytes in a drawn region; bytes of the call's own that were clipped.
-/
import Derived.Test.YtiobnhdcapfhgaaRecp
import Derived.Lib.AppendStr
namespace Go.Proofs.Ytiobnhdcapfhgaa
open Go.RowKit
set_option linter.unusedVariables false
theorem step_append_str {P : Program} {w : World} {ops : Array Oper} {o : Oper} {a : Act} {K : Act → World → Prop} {Q : Exit → Act → World → Prop} {E : Prop} (hgd : o.guard = none) (s x : Operand) (t u : TypeId)
    (ho : o.op = .call { callee := .builtin .append, args := #[s, x], argTypes := #[t, u] })
    (base : Nat) (e : TypeId) (i : TypeInfo) (ht : P.underlying t = some (.slice e)) (hu : P.underlying u = some .string) (hi : P.info? e = some i) (hz : i.zero = some (.int .u8 0))
    (hsize : i.size = 1) (hby : i.bytes = 1)
    (v : Value) (n : Nat) (xs : List Value) (hs : a.eval s = v) (hown : w.ownsRow base e 1 v n xs) (str : ByteArray) (hx : a.eval x = .string str)
    (h63 : n + str.size ≤ maxLen) (hbytes : n + str.size ≤ 140737488355328) (hbase : base ≤ w.heap.size)
    (h : ∀ v' w', w'.ownsRow base e 1 v' (n + str.size) (xs ++ Lib.strCells str) → w.grownBy w' v.ownBlock → K (a.put o.dst v') w') :
    if Region.wanted o (yielded ops a.tmps) = true then Oper.wp P o a w K Q else E := by
  have hw : Region.wanted o (yielded ops a.tmps) = true := by simp [Region.wanted, hgd]
  rw [if_pos hw]
  obtain ⟨v', w', hrun, h2, h3, h4⟩ := Lib.run_append_own_string (P := P) w base t u o.type e i ht hu hi hz hsize hby v n xs hown str h63 hbytes hbase
  unfold Oper.wp execOp
  simp only [ho, resolve, invoke, builtin, Sem.run_bind, Sem.run_pure, Result.andThen_ok, List.map_toArray, List.map_cons, List.map_nil, hs, hx, hrun]
  exact h v' w' h2 h3
theorem own_str {w : World} {B : Nat} {v : Value} {L : List Int} {s : ByteArray} (h : w.ownsRow B 5 1 v (L.length + s.size) (L.map (Value.int .u8) ++ Lib.strCells s)) : IsB w B v (L ++ sb s) := by
  unfold IsB
  rw [List.length_append, sb_length, List.map_append, ← sb_cells]
  exact h
theorem RB.zero4 {w : World} {g : Nat} {M : List Int} (h : RB w (some ⟨g, 0, none⟩) M) (i : Nat) (hi : i ≤ M.length) : RB w (some ⟨g, i, none⟩) (M.drop i) := by
  rcases h with ⟨h, _⟩ | ⟨b', off', hq, hc⟩
  · cases h
  · injection hq with hq
    injection hq with hq1 hq2
    subst hq1 hq2
    refine .inr ⟨g, i, rfl, fun k hk => ?_⟩
    rw [List.length_drop] at hk
    have := hc (i + k) (by omega)
    rw [Nat.zero_add] at this
    rw [this, List.getD_eq_getElem?_getD, List.getD_eq_getElem?_getD, List.getElem?_drop]
theorem IsB.drew {w : World} {B : Nat} {v : Value} {L : List Int} (h : IsB w B v L) : IsB w.drew B v L := h.later (Below.drew (Below.refl _ _))
theorem IsB.head {w : World} {B : Nat} {v : Value} {L : List Int} (h : IsB w B v L) (hp : 0 < L.length) : ∃ g cap, v = .slice (some ⟨g, 0, none⟩) L.length cap ∧ B ≤ g ∧ g < w.heap.size ∧ L.length ≤ cap ∧ cap ≤ maxLen := by
  rcases h.2 with ⟨rfl, hn⟩ | ⟨g, cap, cur, rfl, h2, h3, h4, h5, _⟩
  · omega
  · exact ⟨g, cap, rfl, h2, lt_of_block h3, h4, h5⟩
theorem IsB.rb {w : World} {B g n cap : Nat} {L : List Int} (h : IsB w B (.slice (some ⟨g, 0, none⟩) n cap) L) : RB w (some ⟨g, 0, none⟩) L := by
  obtain ⟨A, c, hA, hR⟩ := RB.of_own h
  injection hA with h1 _ _
  rwa [← h1] at hR
theorem Reads.of_rb {w : World} {g off : Nat} {M : List Int} (h : RB w (some ⟨g, off, none⟩) M) (hg : g < w.heap.size) : Reads w w.heap.size 1 (some ⟨g, off, none⟩) M.length (M.map (Value.int .u8)) := by
  refine ⟨by simp, fun hp => ⟨⟨g, off, none⟩, rfl, hg, fun j u hj => ?_⟩⟩
  rcases h with ⟨h, _⟩ | ⟨b', off', hq, hc⟩
  · cases h
  · injection hq with hq
    injection hq with hq1 hq2
    subst hq1 hq2
    rw [List.getElem?_map] at hj
    have hl : j < M.length := by
      rcases Nat.lt_or_ge j M.length with h | h
      · exact h
      · rw [List.getElem?_eq_none h] at hj; cases hj
    rw [List.getElem?_eq_getElem hl] at hj
    injection hj with hj
    rw [Addr.add_lit, hc j hl, ← hj, List.getD_eq_getElem?_getD, List.getElem?_eq_getElem hl]
    rfl
/-- a value that was clipped: n bytes at the head of a block of the call's own -/
def Clip (w : World) (B g : Nat) (L : List Int) : Prop := ∃ cap, IsB w B (.slice (some ⟨g, 0, none⟩) L.length cap) L
theorem Clip.rb {w : World} {B g : Nat} {L : List Int} (h : Clip w B g L) : RB w (some ⟨g, 0, none⟩) L := by obtain ⟨c, h⟩ := h; exact h.rb
theorem Clip.lt {w : World} {B g : Nat} {L : List Int} (h : Clip w B g L) : B ≤ g ∧ g < w.heap.size := by obtain ⟨c, h⟩ := h; exact World.ownsRow.lt h g rfl
theorem Clip.later {w w' : World} {B g : Nat} {L : List Int} (h : Clip w B g L) (hb : Below w.heap.size w w') : Clip w' B g L := by obtain ⟨c, h⟩ := h; exact ⟨c, h.later hb⟩
theorem Clip.base {w : World} {B B' g : Nat} {L : List Int} (h : Clip w B g L) (hB : B' ≤ B) : Clip w B' g L := by obtain ⟨c, h⟩ := h; exact ⟨c, h.base hB⟩
end Go.Proofs.Ytiobnhdcapfhgaa
