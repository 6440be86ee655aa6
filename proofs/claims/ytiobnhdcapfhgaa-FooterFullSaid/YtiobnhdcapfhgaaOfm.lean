/-
  Plain: the footer of a list of records.
-/
import Derived.Test.YtiobnhdcapfhgaaFtm
namespace Go.Proofs.Ytiobnhdcapfhgaa
set_option linter.unusedVariables false
def lastF (rs : List Rc) : Int := rs.foldl (fun m r => max m r.seq) 0
def allOk (rs : List Rc) : Bool := rs.all fun r => decide r.Ok
def ofF (rs : List Rc) : Int × Int × Int := if allOk rs = false then (0, 0, 2) else if 65535 < rs.length then (0, 0, 16) else ((rs.length : Int), lastF rs, 0)
theorem lastF_snoc (rs : List Rc) (r : Rc) : lastF (rs ++ [r]) = max (lastF rs) r.seq := by simp [lastF]
theorem allOk_snoc (rs : List Rc) (r : Rc) : allOk (rs ++ [r]) = (allOk rs && decide r.Ok) := by simp [allOk]
theorem allOk_app (a b : List Rc) : allOk (a ++ b) = (allOk a && allOk b) := by simp [allOk]
theorem allOk_mem {rs : List Rc} (h : allOk rs = true) : ∀ r ∈ rs, r.Ok := fun r hr => by
  have := List.all_eq_true.1 h r hr
  simpa using this
theorem take_snoc {rs : List Rc} {q : Nat} {r : Rc} (h : rs[q]? = some r) : rs.take (q + 1) = rs.take q ++ [r] := by
  have hl : q < rs.length := by
    rcases Nat.lt_or_ge q rs.length with hl | hl
    · exact hl
    · rw [List.getElem?_eq_none hl] at h; cases h
  rw [List.take_add_one, h]
  rfl
/-- one that is not valid -/
theorem allOk_bad {rs : List Rc} {q : Nat} {r : Rc} (h : rs[q]? = some r) (hr : ¬ r.Ok) : allOk rs = false := by
  cases hb : allOk rs with
  | false => rfl
  | true => exact absurd (allOk_mem hb r (List.mem_of_getElem? h)) hr
theorem lastF_bd {rs : List Rc} (h : allOk rs = true) : 0 ≤ lastF rs ∧ lastF rs ≤ 1099511627776 ∧ (rs = [] ∨ 1 ≤ lastF rs) := by
  have key : ∀ (l : List Rc) (m : Int), (∀ r ∈ l, r.Ok) → 0 ≤ m → m ≤ 1099511627776 → 0 ≤ l.foldl (fun m r => max m r.seq) m ∧ l.foldl (fun m r => max m r.seq) m ≤ 1099511627776 ∧ m ≤ l.foldl (fun m r => max m r.seq) m := by
    intro l
    induction l with
    | nil => intro m _ h0 h1; exact ⟨h0, h1, Int.le_refl _⟩
    | cons r l ih =>
      intro m hl h0 h1
      have hr := hl r (by simp)
      have hs := hr.2.1
      have hs2 := hr.2.2.1
      obtain ⟨a, b, c⟩ := ih (max m r.seq) (fun x hx => hl x (by simp [hx])) (by omega) (by omega)
      exact ⟨a, b, by simp only [List.foldl_cons]; omega⟩
  have hm := allOk_mem h
  obtain ⟨a, b, _⟩ := key rs 0 hm (by omega) (by omega)
  refine ⟨a, b, ?_⟩
  cases rs with
  | nil => exact .inl rfl
  | cons r l =>
    have hr := hm r (by simp)
    have hs := hr.2.1
    have hs2 := hr.2.2.1
    obtain ⟨_, _, c⟩ := key l (max 0 r.seq) (fun x hx => hm x (by simp [hx])) (by omega) (by omega)
    exact .inr (by show 1 ≤ (r :: l).foldl _ 0; simp only [List.foldl_cons]; omega)
theorem ofF_ok {rs : List Rc} (h : allOk rs = true) (hl : rs.length ≤ 65535) : FOk rs.length (lastF rs) ∧ ofF rs = ((rs.length : Int), lastF rs, 0) := by
  obtain ⟨a, b, c⟩ := lastF_bd h
  refine ⟨?_, ?_⟩
  · unfold FOk
    rcases c with rfl | c
    · simp [lastF]
    · have hn : rs ≠ [] := by
        rintro rfl
        simp [lastF] at c
      have := List.length_pos_iff.2 hn
      omega
  · unfold ofF
    rw [h, if_neg (by simp), if_neg (by omega)]
end Go.Proofs.Ytiobnhdcapfhgaa
