/-
  Plain: slots taken one by one, in any order.
-/
import Derived.Test.YtaidekdmhmoaeaaDoorBt
namespace Go.Proofs.YtaidekdmhmoaeaaDoor.Bt
set_option linter.unusedVariables false
theorem slots_nodup (M : Nat) : (slots M).Nodup := List.Pairwise.filter _ List.nodup_range
theorem slots_lt {M x : Nat} (h : x ∈ slots M) : x < 32 := (mem_slots.1 h).1
def delAll (M : Nat) (xs : List Nat) : Nat := xs.foldl (fun m x => m &&& (4294967295 - 2 ^ x)) M
theorem delAll_snoc (M : Nat) (xs : List Nat) (x : Nat) : delAll M (xs ++ [x]) = delAll M xs &&& (4294967295 - 2 ^ x) := by simp [delAll]
theorem delAll_le : ∀ (xs : List Nat) (M : Nat), delAll M xs ≤ M
  | [], M => Nat.le_refl _
  | x :: xs, M => Nat.le_trans (delAll_le xs (M &&& (4294967295 - 2 ^ x))) Nat.and_le_left
theorem delAll_bit : ∀ (xs : List Nat) (M i : Nat), M < 2 ^ 32 → (∀ x ∈ xs, x < 32) → (delAll M xs).testBit i = (M.testBit i && decide (i ∉ xs))
  | [], M, i, _, _ => by simp [delAll]
  | x :: xs, M, i, hM, hx => by
    have h := delAll_bit xs (M &&& (4294967295 - 2 ^ x)) i (Nat.lt_of_le_of_lt Nat.and_le_left hM) (fun y hy => hx y (List.mem_cons_of_mem _ hy))
    show (delAll (M &&& (4294967295 - 2 ^ x)) xs).testBit i = _
    rw [h, bit_del hM (hx x (List.mem_cons_self ..))]
    cases M.testBit i
    · simp
    · by_cases h1 : i = x <;> by_cases h2 : i ∈ xs <;> simp [h1, h2]
theorem del_len {M x : Nat} (hM : M < 2 ^ 32) (hx : x < 32) (hb : M.testBit x = true) : (slots (M &&& (4294967295 - 2 ^ x))).length + 1 = (slots M).length := by
  have hq : ∀ i, M.testBit i = ((M &&& (4294967295 - 2 ^ x)).testBit i || decide (i = x)) := by
    intro i
    rw [bit_del hM hx]
    by_cases h : i = x
    · subst h; simp [hb]
    · simp [h]
  have h := count_more hq 32
  have h0 : (M &&& (4294967295 - 2 ^ x)).testBit x = false := by rw [bit_del hM hx]; simp
  rw [if_pos ⟨hx, h0⟩] at h
  exact h.symm
theorem perm_or {M : Nat} {ks : List Nat} (h : ks.Perm (slots M)) (hM : M < 2 ^ 32) : orAll 0 ks = M := by
  apply Nat.eq_of_testBit_eq
  intro i
  rw [orAll_bit, Nat.zero_testBit, Bool.false_or]
  by_cases hi : i < 32
  · cases hb : M.testBit i
    · rw [decide_eq_false]
      intro hm
      have := (mem_slots.1 (h.mem_iff.1 hm)).2
      rw [hb] at this
      cases this
    · rw [decide_eq_true]
      exact h.mem_iff.2 (mem_slots.2 ⟨hi, hb⟩)
  · rw [Nat.testBit_lt_two_pow (Nat.lt_of_lt_of_le hM (Nat.pow_le_pow_right (by omega) (by omega))), decide_eq_false]
    intro hm
    exact hi (mem_slots.1 (h.mem_iff.1 hm)).1
theorem perm_dup {M : Nat} {ks : List Nat} (h : ks.Perm (slots M)) (hM : M < 2 ^ 32) : dup 0 ks = false := by
  have h1 := (or_bits ks 0 (fun x hx => slots_lt (h.mem_iff.1 hx))).2
  rw [perm_or h hM, slots_zero, h.length_eq] at h1
  exact h1.1 (by simp)
theorem perm_lt {M s : Nat} {ks : List Nat} (h : ks.Perm (slots M)) (hM : M < 2 ^ s) : ∀ k ∈ ks, k < s := by
  intro k hk
  have hb := (mem_slots.1 (h.mem_iff.1 hk)).2
  rcases Nat.lt_or_ge k s with h1 | h1
  · exact h1
  · rw [Nat.testBit_lt_two_pow (Nat.lt_of_lt_of_le hM (Nat.pow_le_pow_right (by omega) h1))] at hb
    cases hb
theorem perm_done {M : Nat} {ks : List Nat} (h : ks.Perm (slots M)) (hM : M < 2 ^ 32) : delAll M ks = 0 := by
  apply Nat.eq_of_testBit_eq
  intro i
  rw [delAll_bit ks M i hM (fun x hx => slots_lt (h.mem_iff.1 hx)), Nat.zero_testBit]
  cases hb : M.testBit i
  · rfl
  · have hi : i < 32 := by
      rcases Nat.lt_or_ge i 32 with h1 | h1
      · exact h1
      · rw [Nat.testBit_lt_two_pow (Nat.lt_of_lt_of_le hM (Nat.pow_le_pow_right (by omega) h1))] at hb
        cases hb
    have := h.mem_iff.2 (mem_slots.2 ⟨hi, hb⟩)
    simp [this]
/-- the next one is still there -/
theorem perm_next {M : Nat} {ks : List Nat} (h : ks.Perm (slots M)) (hM : M < 2 ^ 32) {j x : Nat} (hx : ks[j]? = some x) : x < 32 ∧ M.testBit x = true ∧ (delAll M (ks.take j)).testBit x = true ∧ delAll M (ks.take j) ≠ 0 ∧ ks.take (j + 1) = ks.take j ++ [x] ∧ delAll M (ks.take (j + 1)) = delAll M (ks.take j) &&& (4294967295 - 2 ^ x) := by
  have hm := mem_slots.1 (h.mem_iff.1 (List.mem_of_getElem? hx))
  have ht : ks.take (j + 1) = ks.take j ++ [x] := by rw [List.take_add_one, hx]; rfl
  have hnd : (ks.take j ++ [x]).Nodup := by
    rw [← ht]
    exact (h.nodup_iff.2 (slots_nodup M)).sublist (List.take_sublist ..)
  have hni : x ∉ ks.take j := by
    intro hin
    exact (List.nodup_append.1 hnd).2.2 x hin x (by simp) rfl
  have hb : (delAll M (ks.take j)).testBit x = true := by
    rw [delAll_bit _ M x hM (fun y hy => slots_lt (h.mem_iff.1 (List.mem_of_mem_take hy))), hm.2]
    simp [hni]
  refine ⟨hm.1, hm.2, hb, ?_, ht, by rw [ht, delAll_snoc]⟩
  intro h0
  rw [h0] at hb
  simp at hb
theorem perm_left {M : Nat} {ks : List Nat} (h : ks.Perm (slots M)) (hM : M < 2 ^ 32) : ∀ j, j ≤ ks.length → (slots (delAll M (ks.take j))).length + j = ks.length := by
  intro j
  induction j with
  | zero => intro _; simp [delAll, h.length_eq]
  | succ j ih =>
    intro hj
    have h1 := ih (by omega)
    obtain ⟨x, hx⟩ : ∃ x, ks[j]? = some x := ⟨_, List.getElem?_eq_getElem (by omega)⟩
    obtain ⟨a, b, c, d, e, f⟩ := perm_next h hM hx
    have h2 := del_len (Nat.lt_of_le_of_lt (delAll_le _ M) hM) a c
    rw [f]
    omega
end Go.Proofs.YtaidekdmhmoaeaaDoor.Bt
