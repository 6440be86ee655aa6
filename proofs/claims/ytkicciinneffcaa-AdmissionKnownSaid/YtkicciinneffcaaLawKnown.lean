/-
  AdmissionKnown: the law returns true and changes nothing. No condition.
-/
import Derived.Test.YtkicciinneffcaaOpen
import Derived.Test.YtkicciinneffcaaAdw
namespace Go.Proofs.Ytkicciinneffcaa.admissionKnown
open Go.ChangeShapes Go.WideShapes Go.ChangeAt Go.RowKit
open Go.ChangeMaps (open_string shut_string)
set_option linter.unusedVariables false

set_option maxHeartbeats 1600000 in
theorem walk {H : Type} {enc : TypeId × Value → H} (W : World) (base : Nat)   :
    Calls Try.prog 9 #[] W fun e W' => e = .returned (.bool true) ∧ Below W.heap.size W W' := by
  go_enter Try.func9, Try.ntmps9
  go_wp2_with fail
  refine (sample_any _).mono ?_
  rintro e w1 ⟨rfl, hb1⟩
  have hY1 : Below W.heap.size W w1 := b_then (by repeat first | exact Below.refl _ _ | apply Below.drew | apply b_alloc) hb1
  have bel1 := hY1
  clear hb1
  go_wp2_with fail
  refine (Left_at (s := 4) (z := 116) (r := 2) (wk := 200) (k := 10) (v := 20) (p := 1) (cost := 0) (a := 0) (q := 0) (lVal_of tOk (by decide) (by decide)).1 (lVal_of tOk (by decide) (by decide)).2 _).mono ?_
  rintro e w2 ⟨rfl, hb2⟩
  have hY2 : Below w1.heap.size w1 w2 := b_then (by repeat first | exact Below.refl _ _ | apply Below.drew | apply b_alloc) hb2
  have hS2 : Blk w2 (w1.heap.size) 23 #[.int .i64 6, .int .i64 116, .int .i64 2, .int .i64 200, .int .i64 10, .int .i64 20, .int .i64 1] := (hb2.block _ (by simp <;> omega)).trans (by repeat (first | ((with_reducible refine alloc_here' ?_); (simp; done)) | (with_reducible apply alloc_old') | (with_reducible apply drew_old)))
  have hT2 : Blk w2 (w1.heap.size + 1) 23 #[.int .i64 4, .int .i64 116, .int .i64 2, .int .i64 200, .int .i64 10, .int .i64 20, .int .i64 1] := (hb2.block _ (by simp <;> omega)).trans (by repeat (first | ((with_reducible refine alloc_here' ?_); (simp; done)) | (with_reducible apply alloc_old') | (with_reducible apply drew_old)))
  have bel2 := b_then bel1 hY2
  clear bel1 hb2 hY2
  have cS := hS2.cell
  have lS := hS2.lt
  have cT := hT2.cell
  have lT := hT2.lt
  go_wp2_with fail
  refine (After_at (cost := 262144) (old := 0) (key := ⟨#[107]⟩) (val := ⟨#[]⟩) (a := 262161) (q := 0) (by rw [aVal_of (aErr_of (by decide) kk (by decide))]; rfl) (aErr_of (by decide) kk (by decide)) _ (by decide) (by decide)).mono ?_
  rintro e w3 ⟨rfl, hb3⟩
  have hY3 : Below w2.heap.size w2 w3 := b_then (by repeat first | exact Below.refl _ _ | apply Below.drew | apply b_alloc) hb3
  have hS3 := hS2.below hY3 hS2.lt
  have hT3 := hT2.below hY3 hT2.lt
  have bel3 := b_then bel2 hY3
  clear hS2 hT2 bel2 hb3 cS lS cT lT hY3
  have cS := hS3.cell
  have lS := hS3.lt
  have cT := hT3.cell
  have lT := hT3.lt
  go_wp2_with fail
  refine (Check_at (key := ⟨#[107]⟩) (val := ⟨#[49, 50, 51, 52, 53, 54, 55, 56, 57, 48, 49, 50, 51, 52, 53, 54, 55, 56, 57, 48, 49]⟩) (aChk_v sOk fk (by decide)) _ (by decide) (by decide)).mono ?_
  rintro e w4 ⟨rfl, hb4⟩
  have hY4 : Below w3.heap.size w3 w4 := b_then (by repeat first | exact Below.refl _ _ | apply Below.drew | apply b_alloc) hb4
  have hS4 := hS3.below hY4 hS3.lt
  have hT4 := hT3.below hY4 hT3.lt
  have bel4 := b_then bel3 hY4
  clear hS3 hT3 bel3 hb4 cS lS cT lT hY4
  have cS := hS4.cell
  have lS := hS4.lt
  have cT := hT4.cell
  have lT := hT4.lt
  go_wp2_with fail
  refine (Put_at (cost := 50) (old := 51) (key := ⟨#[107]⟩) (val := ⟨#[97, 98]⟩) (aPut_n (aChk_of sOk fk (by decide)) (by decide)) _ (by decide) (by decide)).mono ?_
  rintro e w5 ⟨rfl, hb5⟩
  have hY5 : Below w4.heap.size w4 w5 := b_then (by repeat first | exact Below.refl _ _ | apply Below.drew | apply b_alloc) hb5
  have hS5 := hS4.below hY5 hS4.lt
  have hT5 := hT4.below hY5 hT4.lt
  have bel5 := b_then bel4 hY5
  clear hS4 hT4 bel4 hb5 cS lS cT lT hY5
  have cS := hS5.cell
  have lS := hS5.lt
  have cT := hT5.cell
  have lT := hT5.lt
  go_wp2_with fail
  refine (Put_at (cost := 101) (old := 0) (key := ⟨#[75]⟩) (val := ⟨#[97, 98]⟩) (aPut_e (aChk_f sOk fK (by decide)) (by decide)) _ (by decide) (by decide)).mono ?_
  rintro e w6 ⟨rfl, hb6⟩
  have hY6 : Below w5.heap.size w5 w6 := b_then (by repeat first | exact Below.refl _ _ | apply Below.drew | apply b_alloc) hb6
  have hS6 := hS5.below hY6 hS5.lt
  have hT6 := hT5.below hY6 hT5.lt
  have bel6 := b_then bel5 hY6
  clear hS5 hT5 bel5 hb6 cS lS cT lT hY6
  have cS := hS6.cell
  have lS := hS6.lt
  have cT := hT6.cell
  have lT := hT6.lt
  go_wp2_with fail
  refine (Put_at (cost := 0) (old := 0) (key := ⟨#[107]⟩) (val := ⟨#[]⟩) (aPut_f (aChk_of tOk fk (by decide)) (by decide) (by decide)) _ (by decide) (by decide)).mono ?_
  rintro e w7 ⟨rfl, hb7⟩
  have hY7 : Below w6.heap.size w6 w7 := b_then (by repeat first | exact Below.refl _ _ | apply Below.drew | apply b_alloc) hb7
  have hS7 := hS6.below hY7 hS6.lt
  have hT7 := hT6.below hY7 hT6.lt
  have bel7 := b_then bel6 hY7
  clear hS6 hT6 bel6 hb7 cS lS cT lT hY7
  have cS := hS7.cell
  have lS := hS7.lt
  have cT := hT7.cell
  have lT := hT7.lt
  go_wp2_with fail
  refine (works_true _).mono ?_
  rintro e w8 ⟨rfl, hb8⟩
  have hY8 : Below w7.heap.size w7 w8 := b_then (by repeat first | exact Below.refl _ _ | apply Below.drew | apply b_alloc) hb8
  have hS8 := hS7.below hY8 hS7.lt
  have hT8 := hT7.below hY8 hT7.lt
  have bel8 := b_then bel7 hY8
  clear hS7 hT7 bel7 hb8 cS lS cT lT hY8
  have cS := hS8.cell
  have lS := hS8.lt
  have cT := hT8.cell
  have lT := hT8.lt
  go_wp2_with fail
  go_ret
  exact ⟨rfl, bel8⟩

set_option maxRecDepth 100000 in
theorem lifted (os : Os) (started : os.Started) (H : Type) (enc : TypeId × Value → H) :
    ReturnsInHanded {} Try.checked os 9 .any (Rows.admissionKnownSpec.pre6 enc Try.prog Try.f9 Rows.admissionKnownRow.domain false) (Rows.admissionKnownSpec.post enc Try.prog Try.f9 false true false false) := by
  refine returnsInHanded_of_change (C := Try.checked) own started (by kernel_rfl) Try.func9
    (ChangeSpec.witness6 (enc := enc) (C := Try.checked) false ⟨#[], #[], []⟩ 8 (by kernel_rfl) (by kernel_rfl) (by kernel_rfl) (by kernel_rfl)) ?_
  intro W base args ds gs before hval0 hW hcnd _
  have hval : ∀ (j : Nat) t v, Try.f9.params[j]? = some t → args[j]? = some v → Value.okWide Try.prog W .any base t v := hval0
  have hW' := hW
  obtain ⟨p, q, hA0, hV, rfl, hfz, hnd⟩ := hW
  have hA : DataW.TrodAll enc Try.prog W 0 (fun _ => true) true Try.f9.params.toList args.toList ds p := hA0
  rw [Try.params9] at hA hval
  obtain ⟨rfl, rfl, rfl⟩ := trodAll_none hA
  obtain ⟨rfl, rfl⟩ := trodVars_none hV
  refine (walk (H := H) (enc := enc) W base ).mono fun e W' ⟨he, bel⟩ => ?_
  subst he
  exact ⟨_, rfl, _, _, _, [], _, [], hW', trodAll_mk1 (shut_bool Try.underlying4 _), rfl, rfl, bel.frame _, fun h => by cases h⟩

/-- AdmissionKnown: the law returns true and changes nothing. No condition. -/
theorem proved : Rows.AdmissionKnownSaid :=
  OpenClaim.holds_of_wide 9 Try.f9 rfl rfl rfl rfl rfl rfl rfl ⟨rfl, rfl, rfl, rfl, rfl⟩ rfl rfl rfl rfl rfl (by kernel_rfl) Try.func9 (by kernel_rfl)
    (of_decide_eq_true (by kernel_rfl)) (by unfold Func.isWrapper; first | (rw [if_pos (by decide +kernel)]; kernel_rfl) | (rw [if_neg (by decide +kernel)]; exact ⟨rfl, rfl⟩))
    (fun os started H enc _ => lifted os started H enc)
#print axioms proved
end Go.Proofs.Ytkicciinneffcaa.admissionKnown
