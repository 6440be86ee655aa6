/-
  A record by value, opened; which records are looked at.
-/
import Derived.Test.YtookgehccmcgcaaDft
import Derived.Test.YtookgehccmcgcaaRe4
import Derived.Test.YtookgehccmcgcaaRt4
namespace Go.Proofs.Ytookgehccmcgcaa
open Go.ChangeShapes Go.WideShapes Go.ChangeAt Go.RowKit Go.Joins Go.Deep
set_option linter.unusedVariables false
section
variable {H : Type} {enc : TypeId × Value → H} {w : World} {base b0 : Nat} {r : Reach} {v : Value} {d : DataW H} {p : List MemPlace}
theorem open_rec {spare : Nat → Bool} {held : Bool} (hv : Value.okWide Try.prog w r b0 23 v) (h : DataW.Trod enc Try.prog w base spare held 23 v d p) :
    ∃ (kind seq : Int) (key val : ByteArray), v = .agg #[.int .i64 kind, .int .i64 seq, .string key, .string val] ∧ key.size ≤ maxLen ∧ val.size ≤ maxLen := by
  obtain ⟨cs, rfl, hsz, hf⟩ := open_struct Try.underlying23 (by kernel_rfl) (by kernel_rfl) hv h
  obtain ⟨x0, n0, y0, e0, g0⟩ := hf 0 _ rfl
  obtain ⟨x1, n1, y1, e1, g1⟩ := hf 1 _ rfl
  obtain ⟨x2, n2, y2, e2, g2⟩ := hf 2 _ rfl
  obtain ⟨x3, n3, y3, e3, g3⟩ := hf 3 _ rfl
  obtain ⟨a0, q0, _, _⟩ := DataW.trod_int Try.underlying3 g0
  obtain ⟨a1, q1, _, _⟩ := DataW.trod_int Try.underlying2 g1
  obtain ⟨a2, q2, _, s2⟩ := DataW.trod_string Try.underlying9 g2
  obtain ⟨a3, q3, _, s3⟩ := DataW.trod_string Try.underlying9 g3
  simp only [List.cons.injEq, and_true] at q0 q1 q2 q3
  subst q0 q1 q2 q3
  exact ⟨a0, a1, a2, a3, by rw [eq4 hsz e0 e1 e2 e3], s2, s3⟩
end
theorem long_yes (kind seq : Int) (key val : ByteArray) (w : World) (hk : key.size ≤ maxLen) (hv : val.size ≤ maxLen) (h : 1000 < key.size ∨ 1000 < val.size) :
    Calls Try.prog 11 #[.agg #[.int .i64 kind, .int .i64 seq, .string key, .string val]] w fun e w' => e = .returned (.bool true) ∧ Below w.heap.size w w' := by
  unfold maxLen at hk hv
  have h' : (1000 : Int) < (key.size : Int) ∨ ((key.size : Int) ≤ 1000 ∧ (1000 : Int) < (val.size : Int)) := by omega
  rcases h' with h' | ⟨h', h2⟩
  all_goals
    go_enter Try.func11, Try.ntmps11
    go_wp2
    go_ret
    exact ⟨rfl, b_alloc (Below.refl _ _) _⟩
theorem long_no (kind seq : Int) (key val : ByteArray) (w : World) (hk : key.size ≤ 1000) (hv : val.size ≤ 1000) :
    Calls Try.prog 11 #[.agg #[.int .i64 kind, .int .i64 seq, .string key, .string val]] w fun e w' => e = .returned (.bool false) ∧ Below w.heap.size w w' := by
  have h1 : decide ((1000 : Int) < (key.size : Int)) = false := by rw [decide_eq_false_iff_not]; omega
  have h2 : decide ((1000 : Int) < (val.size : Int)) = false := by rw [decide_eq_false_iff_not]; omega
  have h3 : (key.size : Int) ≤ 1000 := by omega
  go_enter Try.func11, Try.ntmps11
  go_wp2
  go_ret
  exact ⟨rfl, b_alloc (Below.refl _ _) _⟩
end Go.Proofs.Ytookgehccmcgcaa
