/-
  Which footers are valid: the program and the reference.
-/
import Derived.Test.YtiobnhdcapfhgaaFtm
import Derived.Test.YtiobnhdcapfhgaaRck
namespace Go.Proofs.Ytiobnhdcapfhgaa
open Go.RowKit
set_option linter.unusedVariables false

theorem fchk_yes {c l : Int} (h : FOk c l) (w : World) : Calls Try.prog 13 #[.agg #[.int .i64 c, .int .i64 l]] w fun e w' => e = .returned (.int .i64 0) ∧ Below w.heap.size w w' := by
  obtain ⟨h1, h2, h3, h4, h5⟩ := h
  rcases (show (c = 0 ∧ l = 0) ∨ (c ≠ 0 ∧ l ≠ 0) by omega) with ⟨rfl, rfl⟩ | ⟨h6, h7⟩
  · go_enter Try.func13, Try.ntmps13
    go_wp2_with fail
    go_ret
    exact ⟨rfl, b_alloc (Below.refl _ _) _⟩
  · have b1 : (c == 0) = false := by rw [beq_eq_false_iff_ne]; exact h6
    have b2 : (l == 0) = false := by rw [beq_eq_false_iff_ne]; exact h7
    clear h5 h6 h7
    go_enter Try.func13, Try.ntmps13
    go_wp2_with fail
    go_ret
    exact ⟨rfl, b_alloc (Below.refl _ _) _⟩
theorem fchk_no {c l : Int} (h : ¬ FOk c l) (w : World) : Calls Try.prog 13 #[.agg #[.int .i64 c, .int .i64 l]] w fun e w' => e = .returned (.int .i64 2) ∧ Below w.heap.size w w' := by
  unfold FOk at h
  rcases (show c < 0 ∨ (0 ≤ c ∧ 65535 < c) ∨ (0 ≤ c ∧ c ≤ 65535 ∧ l < 0) ∨ (0 ≤ c ∧ c ≤ 65535 ∧ 0 ≤ l ∧ 1099511627776 < l) ∨ (0 ≤ c ∧ c ≤ 65535 ∧ 0 ≤ l ∧ l ≤ 1099511627776 ∧ ((c = 0 ∧ l ≠ 0) ∨ (c ≠ 0 ∧ l = 0))) by omega) with h1 | ⟨h1, h2⟩ | ⟨h1, h2, h3⟩ | ⟨h1, h2, h3, h4⟩ | ⟨h1, h2, h3, h4, ⟨rfl, h5⟩ | ⟨h5, rfl⟩⟩
  iterate 4
    · clear h
      go_enter Try.func13, Try.ntmps13
      go_wp2_with fail
      go_ret
      exact ⟨rfl, b_alloc (Below.refl _ _) _⟩
  · have b2 : (l == 0) = false := by rw [beq_eq_false_iff_ne]; exact h5
    clear h h5
    go_enter Try.func13, Try.ntmps13
    go_wp2_with fail
    go_ret
    exact ⟨rfl, b_alloc (Below.refl _ _) _⟩
  · have b1 : (c == 0) = false := by rw [beq_eq_false_iff_ne]; exact h5
    clear h h5
    go_enter Try.func13, Try.ntmps13
    go_wp2_with fail
    go_ret
    exact ⟨rfl, b_alloc (Below.refl _ _) _⟩

theorem rfchk_yes {c l : Int} (h : FOk c l) (w : World) : Calls Try.prog 14 #[.agg #[.int .i64 c, .int .i64 l]] w fun e w' => e = .returned (.int .i64 0) ∧ Below w.heap.size w w' := by
  obtain ⟨h1, h2, h3, h4, h5⟩ := h
  rcases (show (c = 0 ∧ l = 0) ∨ (c ≠ 0 ∧ l ≠ 0) by omega) with ⟨rfl, rfl⟩ | ⟨h6, h7⟩
  · go_enter Try.func14, Try.ntmps14
    go_wp2_with fail
    go_ret
    exact ⟨rfl, b_alloc (Below.refl _ _) _⟩
  · have b1 : (c == 0) = false := by rw [beq_eq_false_iff_ne]; exact h6
    have b2 : (l == 0) = false := by rw [beq_eq_false_iff_ne]; exact h7
    clear h5 h6 h7
    go_enter Try.func14, Try.ntmps14
    go_wp2_with fail
    go_ret
    exact ⟨rfl, b_alloc (Below.refl _ _) _⟩
theorem rfchk_no {c l : Int} (h : ¬ FOk c l) (w : World) : Calls Try.prog 14 #[.agg #[.int .i64 c, .int .i64 l]] w fun e w' => e = .returned (.int .i64 2) ∧ Below w.heap.size w w' := by
  unfold FOk at h
  rcases (show c < 0 ∨ (0 ≤ c ∧ 65535 < c) ∨ (0 ≤ c ∧ c ≤ 65535 ∧ l < 0) ∨ (0 ≤ c ∧ c ≤ 65535 ∧ 0 ≤ l ∧ 1099511627776 < l) ∨ (0 ≤ c ∧ c ≤ 65535 ∧ 0 ≤ l ∧ l ≤ 1099511627776 ∧ ((c = 0 ∧ l ≠ 0) ∨ (c ≠ 0 ∧ l = 0))) by omega) with h1 | ⟨h1, h2⟩ | ⟨h1, h2, h3⟩ | ⟨h1, h2, h3, h4⟩ | ⟨h1, h2, h3, h4, ⟨rfl, h5⟩ | ⟨h5, rfl⟩⟩
  iterate 4
    · clear h
      go_enter Try.func14, Try.ntmps14
      go_wp2_with fail
      go_ret
      exact ⟨rfl, b_alloc (Below.refl _ _) _⟩
  · have b2 : (l == 0) = false := by rw [beq_eq_false_iff_ne]; exact h5
    clear h h5
    go_enter Try.func14, Try.ntmps14
    go_wp2_with fail
    go_ret
    exact ⟨rfl, b_alloc (Below.refl _ _) _⟩
  · have b1 : (c == 0) = false := by rw [beq_eq_false_iff_ne]; exact h5
    clear h h5
    go_enter Try.func14, Try.ntmps14
    go_wp2_with fail
    go_ret
    exact ⟨rfl, b_alloc (Below.refl _ _) _⟩
end Go.Proofs.Ytiobnhdcapfhgaa
