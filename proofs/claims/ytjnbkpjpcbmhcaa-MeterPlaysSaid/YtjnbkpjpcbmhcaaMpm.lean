/-
  Plain: lists of numbers whose last one grows.
-/
import Derived.Test.YtjnbkpjpcbmhcaaSm
namespace Go.Proofs.Ytjnbkpjpcbmhcaa
set_option linter.unusedVariables false
def lastD (l : List Int) : Int := l.getLastD 0
def addLast (l : List Int) (x : Int) : List Int := l.dropLast ++ [lastD l + x]
theorem snoc_of {l : List Int} (h : l ≠ []) : ∃ d v, l = d ++ [v] := ⟨l.dropLast, l.getLast h, (List.dropLast_concat_getLast h).symm⟩
theorem lastD_snoc (d : List Int) (v : Int) : lastD (d ++ [v]) = v := by simp [lastD]
theorem addLast_snoc (d : List Int) (v x : Int) : addLast (d ++ [v]) x = d ++ [v + x] := by simp [addLast, lastD]
theorem lastD_add {l : List Int} (x : Int) (h : l ≠ []) : lastD (addLast l x) = lastD l + x := by
  obtain ⟨d, v, rfl⟩ := snoc_of h
  rw [addLast_snoc, lastD_snoc, lastD_snoc]
theorem len_add {l : List Int} (x : Int) (h : l ≠ []) : (addLast l x).length = l.length := by
  obtain ⟨d, v, rfl⟩ := snoc_of h
  rw [addLast_snoc]; simp
theorem sm_add {l : List Int} (x : Int) (h : l ≠ []) : sm (addLast l x) = sm l + x := by
  obtain ⟨d, v, rfl⟩ := snoc_of h
  rw [addLast_snoc, sm_append, sm_append]; simp only [sm]; omega
theorem mx_add {l : List Int} {x : Int} (h : l ≠ []) (hx : 0 ≤ x) (h0 : ∀ y ∈ l, 0 ≤ y) : mx (addLast l x) = max (mx l) (lastD l + x) := by
  obtain ⟨d, v, rfl⟩ := snoc_of h
  have := h0 v (by simp)
  rw [addLast_snoc, lastD_snoc, mx_append, mx_append]; simp only [mx]; omega
theorem nonneg_add {l : List Int} {x : Int} (h : l ≠ []) (hx : 0 ≤ x) (h0 : ∀ y ∈ l, 0 ≤ y) : ∀ y ∈ addLast l x, 0 ≤ y := by
  obtain ⟨d, v, rfl⟩ := snoc_of h
  have := h0 v (by simp)
  rw [addLast_snoc]
  intro y hy
  rcases List.mem_append.1 hy with hy | hy
  · exact h0 y (by simp [hy])
  · simp at hy; omega
theorem last_le {l : List Int} (h0 : ∀ y ∈ l, 0 ≤ y) : 0 ≤ lastD l ∧ lastD l ≤ sm l := by
  by_cases h : l = []
  · subst h; simp [lastD, sm]
  · obtain ⟨d, v, rfl⟩ := snoc_of h
    have := h0 v (by simp)
    have := sm_nonneg d (fun y hy => h0 y (by simp [hy]))
    rw [lastD_snoc, sm_append]; simp only [sm]; omega
theorem sm_begin (l : List Int) : sm (l ++ [0]) = sm l := by rw [sm_append]; simp [sm]
theorem mx_begin (l : List Int) : mx (l ++ [0]) = mx l := by rw [mx_append]; have := mx_nonneg l; simp only [mx]; omega
theorem lastD_begin (l : List Int) : lastD (l ++ [0]) = 0 := lastD_snoc l 0
theorem nonneg_begin {l : List Int} (h0 : ∀ y ∈ l, 0 ≤ y) : ∀ y ∈ l ++ [0], 0 ≤ y := by
  intro y hy
  rcases List.mem_append.1 hy with hy | hy
  · exact h0 y hy
  · simp at hy; omega
theorem set_last {l : List Int} (x : Int) (h : l ≠ []) : l.set (l.length - 1) (lastD l + x) = addLast l x := by
  obtain ⟨d, v, rfl⟩ := snoc_of h
  rw [addLast_snoc, lastD_snoc]
  simp
theorem at_last {l : List Int} (h : l ≠ []) : l[l.length - 1]? = some (lastD l) := by
  obtain ⟨d, v, rfl⟩ := snoc_of h
  rw [lastD_snoc]; simp
end Go.Proofs.Ytjnbkpjpcbmhcaa
