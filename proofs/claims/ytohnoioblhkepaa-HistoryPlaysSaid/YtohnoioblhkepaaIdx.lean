/-
  Elements with their places, one by one.
-/
namespace Go.Proofs.Ytohnoioblhkepaa
set_option linter.unusedVariables false
/-- the first k elements with their places -/
def upto {α : Type} (xs : List α) (k : Nat) : List (Nat × α) := (xs.take k).mapIdx fun i x => (i, x)
theorem upto_zero {α : Type} (xs : List α) : upto xs 0 = [] := by simp [upto]
theorem upto_length {α : Type} (xs : List α) (k : Nat) (h : k ≤ xs.length) : (upto xs k).length = k := by simp [upto]; omega
theorem upto_succ {α : Type} (xs : List α) (k : Nat) (x : α) (h : xs[k]? = some x) : upto xs (k + 1) = upto xs k ++ [(k, x)] := by
  have hk := (List.getElem?_eq_some_iff.1 h).1
  have hx := (List.getElem?_eq_some_iff.1 h).2
  have : xs.take (k + 1) = xs.take k ++ [x] := by rw [List.take_succ_eq_append_getElem hk, hx]
  unfold upto
  rw [this, List.mapIdx_concat]
  simp
  omega
theorem upto_inv {α : Type} {xs : List α} {k j i : Nat} {x : α} (hk : k ≤ xs.length) (hj : j ≤ xs.length) (h : upto xs k ++ [(i, x)] = upto xs j) : k < xs.length ∧ i = k ∧ xs[k]? = some x ∧ upto xs (k + 1) = upto xs k ++ [(i, x)] := by
  have hl := congrArg List.length h
  rw [List.length_append, upto_length _ _ hk, upto_length _ _ hj] at hl
  simp at hl
  subst hl
  have hx : xs[k]? = some xs[k] := List.getElem?_eq_getElem (by omega)
  rw [upto_succ xs k _ hx] at h
  have h2 := List.append_cancel_left h
  simp at h2
  obtain ⟨rfl, rfl⟩ := h2
  exact ⟨by omega, rfl, hx, upto_succ xs i _ hx⟩
theorem upto_map {α β : Type} (xs : List α) (k : Nat) (f : α → β) : ((upto xs k).map fun x => f x.2) = (xs.take k).map f := by
  unfold upto
  apply List.ext_getElem?
  intro i
  rw [List.getElem?_map, List.getElem?_map, List.getElem?_mapIdx, Option.map_map]
  rfl
theorem upto_eq {α : Type} {xs : List α} {k : Nat} (hk : k ≤ xs.length) (h : upto xs k = upto xs xs.length) : k = xs.length := by
  have hl := congrArg List.length h
  rwa [upto_length _ _ hk, upto_length _ _ (Nat.le_refl _)] at hl
theorem cut_succ {α : Type} (xs : List α) (m k : Nat) (x : α) (h : xs[k]? = some x) (hm : m ≤ k) : (xs.take (k + 1)).drop m = (xs.take k).drop m ++ [x] := by
  have hk := (List.getElem?_eq_some_iff.1 h).1
  have hx := (List.getElem?_eq_some_iff.1 h).2
  rw [List.take_succ_eq_append_getElem hk, hx, List.drop_append_of_le_length (by simp; omega)]
theorem cut_none {α : Type} (xs : List α) (m k : Nat) (hm : k < m) : (xs.take (k + 1)).drop m = (xs.take k).drop m := by
  rw [List.drop_eq_nil_of_le (by simp; omega), List.drop_eq_nil_of_le (by simp; omega)]
theorem cut_zero {α : Type} (xs : List α) (m : Nat) : (xs.take 0).drop m = [] := by simp
/-- the rest, its first j -/
theorem cut_inv {α : Type} {xs : List α} {m k j : Nat} {x : α} (hm : m ≤ xs.length) (hk : k ≤ xs.length) (hmk : m ≤ k) (hj : j ≤ xs.length) (h : (xs.take k).drop m ++ [x] = (xs.take j).drop m) : k < xs.length ∧ xs[k]? = some x ∧ (xs.take (k + 1)).drop m = (xs.take k).drop m ++ [x] := by
  have hl := congrArg List.length h
  simp at hl
  have hjk : j = k + 1 := by omega
  subst hjk
  have hx : xs[k]? = some xs[k] := List.getElem?_eq_getElem (by omega)
  rw [cut_succ xs m k _ hx hmk] at h
  have h2 := List.append_cancel_left h
  simp at h2
  subst h2
  exact ⟨by omega, hx, cut_succ xs m k _ hx hmk⟩
end Go.Proofs.Ytohnoioblhkepaa
