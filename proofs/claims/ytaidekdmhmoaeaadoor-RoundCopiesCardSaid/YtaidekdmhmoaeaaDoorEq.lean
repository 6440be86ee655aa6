/-
  slices.Equal at slices that are alike.
-/
import Derived.Test.YtaidekdmhmoaeaaDoorOnl
namespace Go.Proofs.YtaidekdmhmoaeaaDoor
open Go.RowKit
set_option linter.unusedVariables false
set_option linter.unusedSimpArgs false

/-- a slice of one-cell values: it reads as a list -/
def RI (w : World) (A : Option Addr) (L : List Value) : Prop := L = [] ∨ ∃ b off : Nat, A = some ⟨b, off, none⟩ ∧ b < w.heap.size ∧ ∀ (i : Nat) (u : Value), L[i]? = some u → w.cell? ⟨b, off + i, none⟩ = some u
theorem RI.below {w w' : World} {A : Option Addr} {L : List Value} {B : Nat} (h : RI w A L) (hb : Below B w w') (hB : w.heap.size ≤ B) : RI w' A L := by
  rcases h with h | ⟨b, off, rfl, hlt, hc⟩
  · exact .inl h
  · exact .inr ⟨b, off, rfl, Nat.lt_of_lt_of_le hlt hb.size, fun i u hu => (hb.cell (p := ⟨b, off + i, none⟩) (Nat.lt_of_lt_of_le hlt hB)).trans (hc i u hu)⟩
theorem RI.later {w w' : World} {A : Option Addr} {L : List Value} (h : RI w A L) (hb : Below w.heap.size w w') : RI w' A L := h.below hb (Nat.le_refl _)
theorem RI.drewN {w : World} {A : Option Addr} {L : List Value} (h : RI w A L) (k : Nat) : RI (w.drewN k) A L := h
theorem RI.take_ {w : World} {A : Option Addr} {L : List Value} (h : RI w A L) (k : Nat) : RI w A (L.take k) := by
  rcases h with h | ⟨b, off, rfl, hlt, hc⟩
  · exact .inl (by rw [h]; simp)
  · refine .inr ⟨b, off, rfl, hlt, fun i u hu => hc i u ?_⟩
    rw [List.getElem?_take] at hu
    split at hu
    · exact hu
    · cases hu
theorem RI.of_row {w : World} {B n m cap : Nat} {e : TypeId} {A : Option Addr} {L : List Value} (h : w.ownsRow B e 1 (.slice A n cap) m L) : RI w A L := by
  rcases own_shape h with ⟨_, _, _, _, hx⟩ | ⟨g, rfl, hnm, _, hlt, _, _⟩
  · exact .inl hx
  · subst hnm
    exact .inr ⟨g, 0, rfl, hlt, fun i u hu => by
      have hl : i < n * 1 := by rw [← h.1]; exact (List.getElem?_eq_some_iff.1 hu).1
      rw [Nat.zero_add, World.ownsRow.cellAt h i hl, hu]⟩

theorem eqi_any (A1 A2 : Option Addr) (n c1 c2 : Nat) (L : List Int) (w : World) (hL : L.length = n) (h1 : RI w A1 (L.map (Value.int .i64))) (h2 : RI w A2 (L.map (Value.int .i64))) (hn : n ≤ maxLen) :
    Calls Tryd.prog 17 #[.slice A1 n c1, .slice A2 n c2] w fun e w' => e = .returned (.bool true) ∧ ∃ q, w' = w.drewN q := by
  unfold maxLen at hn
  have HL := Lib.hid hL
  clear hL
  have hne : ∀ (x : Int) (w : World), (binOp .neq 3 ((Value.int .i64) x) ((Value.int .i64) x)).run Tryd.prog w = .ok (.bool false) w := fun x w => by simp [binOp, go_sem, Op.stringOp]
  go_enter Tryd.func17, Tryd.ntmps17
  go_wp2_with fail
  go_loopw [13] (fun i wr => ∃ k q : Nat, k ≤ n ∧ i = .int .i64 k ∧ wr = w.drewN q) (fun i _ => n - (intOf i).toNat)
  case atStart => exact ⟨0, 0, Nat.zero_le _, rfl, rfl⟩
  case round =>
    obtain ⟨k, q, hk, rfl, rfl⟩ := hrel
    by_cases hlt : k < n
    · obtain ⟨x, hx⟩ : ∃ x, L[k]? = some x := ⟨_, List.getElem?_eq_getElem (by have := HL.out; omega)⟩
      obtain ⟨b1, o1, rfl, _, hc1⟩ := h1.resolve_left (by intro h; rw [List.map_eq_nil_iff] at h; subst h; simp at hx)
      obtain ⟨b2, o2, rfl, _, hc2⟩ := h2.resolve_left (by intro h; rw [List.map_eq_nil_iff] at h; subst h; simp at hx)
      have e1 : (w.drewN q).cell? ⟨b1, o1 + k, none⟩ = some ((Value.int .i64) x) := hc1 k _ (by rw [List.getElem?_map, hx]; rfl)
      have e2 : (w.drewN q).cell? ⟨b2, o2 + k, none⟩ = some ((Value.int .i64) x) := hc2 k _ (by rw [List.getElem?_map, hx]; rfl)
      have z0 : (0 : Int) ≤ (k : Int) := by omega
      have z1 : (k : Int) < (n : Int) := by omega
      clear hx h1 h2 hc1 hc2
      generalize hwq : w.drewN q = wq at e1 e2 ⊢
      have HW := Lib.hid hwq
      clear hwq
      go_wp2_with fail
      go_region
      all_goals
        (go_wp2_with fail
         go_roundw
         case rel => exact ⟨k + 1, q + 1, by omega, by go_num, by rw [← HW.out]; rfl⟩
         case measure => simp [intOf]; omega)
    · obtain rfl : k = n := by omega
      go_wp2_with fail
      go_ret
      exact ⟨rfl, q, rfl⟩

end Go.Proofs.YtaidekdmhmoaeaaDoor
