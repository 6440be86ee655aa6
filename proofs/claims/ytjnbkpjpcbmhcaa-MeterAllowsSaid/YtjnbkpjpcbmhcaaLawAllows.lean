/-
  MeterAllows: for every configuration by numbers the law returns true and changes nothing. No condition.
-/
import Derived.Test.YtjnbkpjpcbmhcaaOpen
import Derived.Test.YtjnbkpjpcbmhcaaWks
import Derived.Test.YtjnbkpjpcbmhcaaMade
namespace Go.Proofs.Ytjnbkpjpcbmhcaa.meterAllows
open Go.ChangeShapes Go.WideShapes Go.ChangeAt Go.RowKit
open Go.ChangeMaps (open_string shut_string)
set_option linter.unusedVariables false

set_option maxHeartbeats 1600000 in
theorem walk {H : Type} {enc : TypeId × Value → H} (W : World) (base : Nat) {v0 : Value} {d0 : DataW H} {p0 : List MemPlace} (o0 : Value.okWide Try.prog W .any base 47 v0) (h0 : DataW.Trod enc Try.prog W 0 (fun _ => true) true 47 v0 d0 p0) :
    Calls Try.prog 6 #[v0] W fun e W' => e = .returned (.bool true) ∧ Below W.heap.size W W' := by
  obtain ⟨a, b, c, d, e, f, g, rfl, wa, wb, wc, wd, we, wf, wg⟩ := open_u7 o0 h0
  clear h0 o0
  go_enter Try.func6, Try.ntmps6
  go_wp2_with fail
  refine (Made_any a b c d e f g _ (bounds_u32 wa) (bounds_u32 wb) (bounds_u32 wc) (bounds_u32 wd) (bounds_u32 we) (bounds_u32 wf) (bounds_u32 wg)).mono ?_
  rintro e1 w1 ⟨⟨s, z, r, wk, k, x, p, rfl, hok⟩, hb1⟩
  have hB1 := b_then (b_alloc (Below.refl _ W) _) hb1
  clear hb1
  go_wp2_with fail
  refine (Allowed_yes s z r wk k x p _ hok).mono ?_
  rintro e2 w2 ⟨rfl, hb2⟩
  have B2 := (Blk.new w1 23 #[.int .i64 s, .int .i64 z, .int .i64 r, .int .i64 wk, .int .i64 k, .int .i64 x, .int .i64 p]).below hb2 (by simp)
  have hB2 := b_then (b_alloc hB1 _) hb2
  clear hb2 hB1
  have c2 := B2.cell
  go_wp2_with fail
  refine (Record_yes s z r wk k x p _ hok).mono ?_
  rintro e3 w3 ⟨rfl, hb3⟩
  have B3 := B2.below hb3 B2.lt
  have hB3 := b_then hB2 hb3
  clear hb3 hB2 c2 B2
  have c3 := B3.cell
  have hlt := B3.lt
  go_wp2_with fail
  refine (Allowed_no s z r wk k x 0 _ (by unfold CfgOk; omega)).mono ?_
  rintro e4 w4 ⟨rfl, hb4⟩
  have B4 := (B3.alloc (.cells #[.int .i64 s, .int .i64 z, .int .i64 r, .int .i64 wk, .int .i64 k, .int .i64 x, .int .i64 0] 23)).below hb4 (by simp; omega)
  have hB4 := b_then (b_alloc hB3 _) hb4
  clear hb4 hB3 c3 B3 hlt
  have c4 := B4.cell
  obtain ⟨_, _, _, _, hk1, hk2, hv1, hv2, _, _, hw1, hw2, _, _⟩ := id hok
  go_wp2_with fail
  refine (works_any _).mono ?_
  rintro e5 w5 ⟨rfl, hb5⟩
  go_wp2_with fail
  go_ret
  exact ⟨rfl, b_then hB4 hb5⟩

set_option maxRecDepth 100000 in
theorem lifted (os : Os) (started : os.Started) (H : Type) (enc : TypeId × Value → H) :
    ReturnsInHanded {} Try.checked os 6 .any (Rows.meterAllowsSpec.pre6 enc Try.prog Try.f6 Rows.meterAllowsRow.domain false) (Rows.meterAllowsSpec.post enc Try.prog Try.f6 false true false false) := by
  refine returnsInHanded_of_change (C := Try.checked) own started (by kernel_rfl) Try.func6
    (ChangeSpec.witness6 (enc := enc) (C := Try.checked) false ⟨#[], #[.agg #[.int .u32 0, .int .u32 0, .int .u32 0, .int .u32 0, .int .u32 0, .int .u32 0, .int .u32 0]], []⟩ 8 (by kernel_rfl) (by kernel_rfl) (by kernel_rfl) (by kernel_rfl)) ?_
  intro W base args ds gs before hval0 hW hcnd _
  have hval : ∀ (j : Nat) t v, Try.f6.params[j]? = some t → args[j]? = some v → Value.okWide Try.prog W .any base t v := hval0
  have hW' := hW
  obtain ⟨p, q, hA0, hV, rfl, hfz, hnd⟩ := hW
  have hA : DataW.TrodAll enc Try.prog W 0 (fun _ => true) true Try.f6.params.toList args.toList ds p := hA0
  rw [Try.params6] at hA hval
  obtain ⟨v0, vs0, d0, ds0, p0, q0, hargs, rfl, rfl, h0, r0⟩ := trodAll_cons hA
  obtain ⟨rfl, rfl, rfl⟩ := trodAll_nil r0
  obtain rfl : args = #[v0] := by cases args; simp_all
  obtain ⟨rfl, rfl⟩ := trodVars_none hV
  refine (walk W base (hval 0 47 v0 rfl rfl) h0).mono fun e W' ⟨he, bel⟩ => ?_
  subst he
  exact ⟨_, rfl, _, _, _, [], _, [], hW', trodAll_mk1 (shut_bool Try.underlying4 _), (trodAll_cons_mk (Below.trod laidOut (by kernel_rfl) (of_decide_eq_true (by kernel_rfl)) h0 bel (lt_of_Trod h0)) trodAll_mk0), rfl, bel.frame _, fun h => by cases h⟩

/-- MeterAllows: for every configuration by numbers the law returns true and changes nothing. No condition. -/
theorem proved : Rows.MeterAllowsSaid :=
  OpenClaim.holds_of_wide 6 Try.f6 rfl rfl rfl rfl rfl rfl rfl ⟨rfl, rfl, rfl, rfl, rfl⟩ rfl rfl rfl rfl rfl (by kernel_rfl) Try.func6 (by kernel_rfl)
    (of_decide_eq_true (by kernel_rfl)) (by unfold Func.isWrapper; first | (rw [if_pos (by decide +kernel)]; kernel_rfl) | (rw [if_neg (by decide +kernel)]; exact ⟨rfl, rfl⟩))
    (fun os started H enc _ => lifted os started H enc)
#print axioms proved
end Go.Proofs.Ytjnbkpjpcbmhcaa.meterAllows
