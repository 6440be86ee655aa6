/-
  AdmissionChecks: for every configuration, two numbers and two strings the law returns true and changes nothing. No condition.
-/
import Derived.Test.YtkicciinneffcaaOpen
import Derived.Test.YtkicciinneffcaaAdw
namespace Go.Proofs.Ytkicciinneffcaa.admissionChecks
open Go.ChangeShapes Go.WideShapes Go.ChangeAt Go.RowKit
open Go.ChangeMaps (open_string shut_string)
set_option linter.unusedVariables false

def KHX (W : World) (g : Nat) (s z r wk k v p : Int) (w' : World) : Prop := Below W.heap.size W w' ∧ Blk w' g 23 #[.int .i64 s, .int .i64 z, .int .i64 r, .int .i64 wk, .int .i64 k, .int .i64 v, .int .i64 p]
abbrev HX (W : World) (g : Nat) (s z r wk k v p : Int) (w' : World) : Prop := w'.cell? ⟨g, 0, none⟩ = some (.int .i64 s) ∧ w'.cell? ⟨g, 1, none⟩ = some (.int .i64 z) ∧ w'.cell? ⟨g, 2, none⟩ = some (.int .i64 r) ∧ w'.cell? ⟨g, 3, none⟩ = some (.int .i64 wk) ∧ w'.cell? ⟨g, 4, none⟩ = some (.int .i64 k) ∧ w'.cell? ⟨g, 5, none⟩ = some (.int .i64 v) ∧ w'.cell? ⟨g, 6, none⟩ = some (.int .i64 p) ∧ KHX W g s z r wk k v p w'
theorem HX.mk {W : World} {g : Nat} {s z r wk k v p : Int} {w' : World} (h : KHX W g s z r wk k v p w') : HX W g s z r wk k v p w' := by
  obtain ⟨hB, h0⟩ := h
  exact ⟨h0.cell 0, h0.cell 1, h0.cell 2, h0.cell 3, h0.cell 4, h0.cell 5, h0.cell 6, ⟨hB, h0⟩⟩
theorem HX.bel {W : World} {g : Nat} {s z r wk k v p : Int} {w' : World} (h : HX W g s z r wk k v p w') : Below W.heap.size W w' := h.2.2.2.2.2.2.2.1
theorem HX.after {W : World} {g : Nat} {s z r wk k v p : Int} {w w' : World} (h : HX W g s z r wk k v p w) (hb : Below w.heap.size w w') : HX W g s z r wk k v p w' := by
  have hk := h.2.2.2.2.2.2.2
  obtain ⟨hB, h0⟩ := hk
  exact HX.mk ⟨b_then hB hb, h0.below hb h0.lt⟩

set_option maxHeartbeats 1600000 in
theorem walk {H : Type} {enc : TypeId × Value → H} (W : World) (base : Nat) {v0 v1 v2 v3 v4 : Value} {d0 d1 d2 d3 d4 : DataW H} {p0 p1 p2 p3 p4 : List MemPlace} (o0 : Value.okWide Try.prog W .any base 23 v0) (h0 : DataW.Trod enc Try.prog W 0 (fun _ => true) true 23 v0 d0 p0) (o1 : Value.okWide Try.prog W .any base 3 v1) (h1 : DataW.Trod enc Try.prog W 0 (fun _ => true) true 3 v1 d1 p1) (o2 : Value.okWide Try.prog W .any base 3 v2) (h2 : DataW.Trod enc Try.prog W 0 (fun _ => true) true 3 v2 d2 p2) (o3 : Value.okWide Try.prog W .any base 9 v3) (h3 : DataW.Trod enc Try.prog W 0 (fun _ => true) true 9 v3 d3 p3) (o4 : Value.okWide Try.prog W .any base 9 v4) (h4 : DataW.Trod enc Try.prog W 0 (fun _ => true) true 9 v4 d4 p4) :
    Calls Try.prog 3 #[v0, v1, v2, v3, v4] W fun e W' => e = .returned (.bool true) ∧ Below W.heap.size W W' := by
  obtain ⟨s, z, r, wk, k, v, p, rfl⟩ := open_cfg o0 h0
  obtain ⟨cost, rfl, rfl, rfl, _⟩ := open_int Try.underlying3 o1 h1
  obtain ⟨old, rfl, rfl, rfl, _⟩ := open_int Try.underlying3 o2 h2
  obtain ⟨key, rfl, rfl, rfl, hk⟩ := open_string Try.underlying9 o3 h3
  obtain ⟨val, rfl, rfl, rfl, hv⟩ := open_string Try.underlying9 o4 h4
  clear h0 o0 h1 o1 h2 o2 h3 o3 h4 o4
  have hk' : (key.size : Int) ≤ 9223372036854775807 := by unfold maxLen at hk; omega
  have hv' : (val.size : Int) ≤ 9223372036854775807 := by unfold maxLen at hv; omega
  by_cases h1 : 100 < key.size
  · go_enter Try.func3, Try.ntmps3
    go_wp2_with fail
    refine (works_true _).mono ?_
    rintro e w1 ⟨rfl, hb1⟩
    have hY1 : Below W.heap.size W w1 := b_then (by repeat first | exact Below.refl _ _ | apply Below.drew | apply b_alloc) hb1
    have bel1 := hY1
    clear hb1
    go_wp2_with fail
    go_ret
    exact ⟨rfl, bel1⟩
  have h0 := h1
  clear h1
  by_cases h1 : 1000 < val.size
  · have h1' : ¬ 100 < key.size := h0
    go_enter Try.func3, Try.ntmps3
    go_wp2_with fail
    refine (works_true _).mono ?_
    rintro e w1 ⟨rfl, hb1⟩
    have hY1 : Below W.heap.size W w1 := b_then (by repeat first | exact Below.refl _ _ | apply Below.drew | apply b_alloc) hb1
    have bel1 := hY1
    clear hb1
    go_wp2_with fail
    go_ret
    exact ⟨rfl, bel1⟩
  have h2 := h1
  clear h1
  go_enter Try.func3, Try.ntmps3
  go_wp2_with fail
  refine (After_any cost old key val _ hk hv).mono ?_
  rintro e w1 ⟨rfl, hb1⟩
  have hY1 : Below W.heap.size W w1 := b_then (by repeat first | exact Below.refl _ _ | apply Below.drew | apply b_alloc) hb1
  have hC1 : Blk w1 (W.heap.size) 23 #[.int .i64 s, .int .i64 z, .int .i64 r, .int .i64 wk, .int .i64 k, .int .i64 v, .int .i64 p] := (hb1.block _ (by simp <;> omega)).trans (by repeat (first | ((with_reducible refine alloc_here' ?_); (simp; done)) | (with_reducible apply alloc_old') | (with_reducible apply drew_old)))
  have bel1 := hY1
  clear hb1
  have cC := hC1.cell
  have lC := hC1.lt
  go_wp2_with fail
  refine (rAfter_any cost old key val _ hk hv).mono ?_
  rintro e w2 ⟨rfl, hb2⟩
  have hY2 : Below w1.heap.size w1 w2 := b_then (by repeat first | exact Below.refl _ _ | apply Below.drew | apply b_alloc) hb2
  have hC2 := hC1.below hY2 hC1.lt
  have bel2 := b_then bel1 hY2
  clear hC1 bel1 hb2 cC lC hY2
  have cC := hC2.cell
  have lC := hC2.lt
  have hS : HX W W.heap.size s z r wk k v p w2.drew := (HX.mk ⟨bel2, hC2⟩).after (Below.drew (Below.refl _ _))
  go_wp2_with fail
  go_region_held3 (fun w' => w'.cell? ⟨W.heap.size, 0, none⟩ = some (.int .i64 s) ∧ w'.cell? ⟨W.heap.size, 1, none⟩ = some (.int .i64 z) ∧ w'.cell? ⟨W.heap.size, 2, none⟩ = some (.int .i64 r) ∧ w'.cell? ⟨W.heap.size, 3, none⟩ = some (.int .i64 wk) ∧ w'.cell? ⟨W.heap.size, 4, none⟩ = some (.int .i64 k) ∧ w'.cell? ⟨W.heap.size, 5, none⟩ = some (.int .i64 v) ∧ w'.cell? ⟨W.heap.size, 6, none⟩ = some (.int .i64 p) ∧ KHX W W.heap.size s z r wk k v p w') (first | assumption) (first
      | (go_at_call 13; refine (aCheck_any s z r wk k v p key val _ hk hv).mono ?_; rintro e w' ⟨rfl, hbk⟩; have hSk := HX.after (by assumption) hbk)
      | (go_at_call 14; refine (rCheck_any s z r wk k v p key val _ hk hv).mono ?_; rintro e w' ⟨rfl, hbk⟩; have hSk := HX.after (by assumption) hbk)
      | (go_at_call 10; refine (works_true _).mono ?_; rintro e w' ⟨rfl, hbk⟩; have hSk := HX.after (by assumption) hbk))
  go_wp2_with fail
  go_ret
  exact ⟨rfl, HX.bel (by assumption)⟩

set_option maxRecDepth 100000 in
theorem lifted (os : Os) (started : os.Started) (H : Type) (enc : TypeId × Value → H) :
    ReturnsInHanded {} Try.checked os 3 .any (Rows.admissionChecksSpec.pre6 enc Try.prog Try.f3 Rows.admissionChecksRow.domain false) (Rows.admissionChecksSpec.post enc Try.prog Try.f3 false true false false) := by
  refine returnsInHanded_of_change (C := Try.checked) own started (by kernel_rfl) Try.func3
    (ChangeSpec.witness6 (enc := enc) (C := Try.checked) false ⟨#[], #[.agg #[.int .i64 0, .int .i64 0, .int .i64 0, .int .i64 0, .int .i64 0, .int .i64 0, .int .i64 0], .int .i64 0, .int .i64 0, .string ⟨#[]⟩, .string ⟨#[]⟩], []⟩ 8 (by kernel_rfl) (by kernel_rfl) (by kernel_rfl) (by kernel_rfl)) ?_
  intro W base args ds gs before hval0 hW hcnd _
  have hval : ∀ (j : Nat) t v, Try.f3.params[j]? = some t → args[j]? = some v → Value.okWide Try.prog W .any base t v := hval0
  have hW' := hW
  obtain ⟨p, q, hA0, hV, rfl, hfz, hnd⟩ := hW
  have hA : DataW.TrodAll enc Try.prog W 0 (fun _ => true) true Try.f3.params.toList args.toList ds p := hA0
  rw [Try.params3] at hA hval
  obtain ⟨v0, vs0, d0, ds0, p0, q0, hargs, rfl, rfl, h0, r0⟩ := trodAll_cons hA
  obtain ⟨v1, vs1, d1, ds1, p1, q1, rfl, rfl, rfl, h1, r1⟩ := trodAll_cons r0
  obtain ⟨v2, vs2, d2, ds2, p2, q2, rfl, rfl, rfl, h2, r2⟩ := trodAll_cons r1
  obtain ⟨v3, vs3, d3, ds3, p3, q3, rfl, rfl, rfl, h3, r3⟩ := trodAll_cons r2
  obtain ⟨v4, vs4, d4, ds4, p4, q4, rfl, rfl, rfl, h4, r4⟩ := trodAll_cons r3
  obtain ⟨rfl, rfl, rfl⟩ := trodAll_nil r4
  obtain rfl : args = #[v0, v1, v2, v3, v4] := by cases args; simp_all
  obtain ⟨rfl, rfl⟩ := trodVars_none hV
  refine (walk W base (hval 0 23 v0 rfl rfl) h0 (hval 1 3 v1 rfl rfl) h1 (hval 2 3 v2 rfl rfl) h2 (hval 3 9 v3 rfl rfl) h3 (hval 4 9 v4 rfl rfl) h4).mono fun e W' ⟨he, bel⟩ => ?_
  subst he
  exact ⟨_, rfl, _, _, _, [], _, [], hW', trodAll_mk1 (shut_bool Try.underlying4 _), (trodAll_cons_mk (Below.trod laidOut (by kernel_rfl) (of_decide_eq_true (by kernel_rfl)) h0 bel (lt_of_Trod h0)) (trodAll_cons_mk (Below.trod laidOut (by kernel_rfl) (of_decide_eq_true (by kernel_rfl)) h1 bel (lt_of_Trod h1)) (trodAll_cons_mk (Below.trod laidOut (by kernel_rfl) (of_decide_eq_true (by kernel_rfl)) h2 bel (lt_of_Trod h2)) (trodAll_cons_mk (Below.trod laidOut (by kernel_rfl) (of_decide_eq_true (by kernel_rfl)) h3 bel (lt_of_Trod h3)) (trodAll_cons_mk (Below.trod laidOut (by kernel_rfl) (of_decide_eq_true (by kernel_rfl)) h4 bel (lt_of_Trod h4)) trodAll_mk0))))), rfl, bel.frame _, fun h => by cases h⟩

/-- AdmissionChecks: for every configuration, two numbers and two strings the law returns true and changes nothing. No condition. -/
theorem proved : Rows.AdmissionChecksSaid :=
  OpenClaim.holds_of_wide 3 Try.f3 rfl rfl rfl rfl rfl rfl rfl ⟨rfl, rfl, rfl, rfl, rfl⟩ rfl rfl rfl rfl rfl (by kernel_rfl) Try.func3 (by kernel_rfl)
    (of_decide_eq_true (by kernel_rfl)) (by unfold Func.isWrapper; first | (rw [if_pos (by decide +kernel)]; kernel_rfl) | (rw [if_neg (by decide +kernel)]; exact ⟨rfl, rfl⟩))
    (fun os started H enc _ => lifted os started H enc)
#print axioms proved
end Go.Proofs.Ytkicciinneffcaa.admissionChecks
