/-
  FooterFull: for every two numbers the law returns true and changes nothing. No condition.
-/
import Derived.Test.YtiobnhdcapfhgaaOpen
import Derived.Test.YtiobnhdcapfhgaaFub
namespace Go.Proofs.Ytiobnhdcapfhgaa.footerFull
open Go.ChangeShapes Go.WideShapes Go.ChangeAt Go.RowKit
open Go.ChangeMaps (open_string shut_string)
set_option linter.unusedVariables false

set_option maxHeartbeats 40000000 in
set_option maxRecDepth 100000 in
theorem walk {H : Type} {enc : TypeId × Value → H} (W : World) (base : Nat) {v0 v1 : Value} {d0 d1 : DataW H} {p0 p1 : List MemPlace} (o0 : Value.okWide Try.prog W .any base 5 v0) (h0 : DataW.Trod enc Try.prog W 0 (fun _ => true) true 5 v0 d0 p0) (o1 : Value.okWide Try.prog W .any base 41 v1) (h1 : DataW.Trod enc Try.prog W 0 (fun _ => true) true 41 v1 d1 p1) :
    Calls Try.prog 7 #[v0, v1] W fun e W' => e = .returned (.bool true) ∧ Below W.heap.size W W' := by
  obtain ⟨what, rfl, rfl, rfl, wb⟩ := open_int Try.underlying5 o0 h0
  obtain ⟨far, rfl, rfl, rfl, wf⟩ := open_int Try.underlying41 o1 h1
  obtain ⟨bw0, bw1⟩ := bounds_u8 wb
  obtain ⟨bf0, bf1⟩ := bounds_u16 wf
  clear wb wf h0 o0 h1 o1
  have oA1 : ∀ w : World, Calls Try.prog 21 #[.agg #[.int .i64 65534, .int .i64 7], .agg #[.int .i64 1, .int .i64 5, .string ⟨#[107]⟩, .string ⟨#[118]⟩]] w fun e w' => e = .returned (.tuple #[.agg #[.int .i64 65535, .int .i64 7], .int .i64 0]) ∧ Below w.heap.size w w' := by
    intro w
    have h := fad_any 65534 7 (rc 5) (rc_sz 5).1 (rc_sz 5).2 w
    rw [show addF 65534 7 (rc 5) = (65535, 7, 0) by decide +kernel] at h
    exact h
  have oA2 : ∀ w : World, Calls Try.prog 21 #[.agg #[.int .i64 65535, .int .i64 7], .agg #[.int .i64 1, .int .i64 5, .string ⟨#[107]⟩, .string ⟨#[118]⟩]] w fun e w' => e = .returned (.tuple #[.agg #[.int .i64 0, .int .i64 0], .int .i64 16]) ∧ Below w.heap.size w w' := by
    intro w
    have h := fad_any 65535 7 (rc 5) (rc_sz 5).1 (rc_sz 5).2 w
    rw [show addF 65535 7 (rc 5) = (0, 0, 16) by decide +kernel] at h
    exact h
  go_enter Try.func7, Try.ntmps7
  go_wp2_with fail
  refine (put_any 5 _).mono ?_
  rintro e w1 ⟨rfl, hb1⟩
  have hF1 := (Blk.new W 23 #[.int .i64 65535, .int .i64 7]).below hb1 (Blk.new W _ _).lt
  have cF1 := hF1.cell
  have bel1 := b_then (b_alloc (Below.refl _ _) (.cells #[.int .i64 65535, .int .i64 7] 23)) hb1
  clear hb1
  go_wp2_with fail
  refine (oA1 _).mono ?_
  rintro e w2 ⟨rfl, hb2⟩
  have hF2 := hF1.below hb2 hF1.lt
  have hF3 := hF2.alloc (.cells #[.int .i64 65535, .int .i64 7] 23)
  have cF3 := hF3.cell
  have bel3 := b_alloc (b_then bel1 hb2) (.cells #[.int .i64 65535, .int .i64 7] 23)
  clear hb2 hF1 cF1 bel1 hF2 oA1
  go_wp2_with fail
  generalize w2.alloc (.cells #[.int .i64 65535, .int .i64 7] 23) = wq at hF3 cF3 bel3 ⊢
  obtain ⟨bs, hbs⟩ : ∃ bs : List (Nat × TypeId × Array Value), bs = [(W.heap.size, 23, #[.int .i64 65535, .int .i64 7])] := ⟨_, rfl⟩
  have hK : KB W bs wq := by rw [hbs]; exact KB.add ⟨bel3, fun x hx => by simp at hx⟩ hF3
  have m0 : (W.heap.size, 23, #[.int .i64 65535, .int .i64 7]) ∈ bs := by rw [hbs]; simp
  clear hF3 cF3 bel3 hbs
  have hD := hK.after (Below.drew (Below.refl _ wq))
  have ne0 := hK.ne
  have hA0 := hD.after (b_alloc (Below.refl _ wq.drew) (.cells #[.int .i64 0, .int .i64 0] 23))
  have hZ0 : Blk (wq.drew.alloc (.cells #[.int .i64 0, .int .i64 0] 23)) wq.heap.size 23 #[.int .i64 0, .int .i64 0] := Blk.new wq.drew 23 #[.int .i64 0, .int .i64 0]
  have cs0 : (wq.drew).cell? ⟨W.heap.size, 0, none⟩ = some (.int .i64 65535) := (hD.2 _ m0).cell 0
  have cs1 : (wq.drew).cell? ⟨W.heap.size, 1, none⟩ = some (.int .i64 7) := (hD.2 _ m0).cell 1
  have ca0 : (wq.drew.alloc (.cells #[.int .i64 0, .int .i64 0] 23)).cell? ⟨W.heap.size, 0, none⟩ = some (.int .i64 65535) := (hA0.2 _ m0).cell 0
  have ca1 : (wq.drew.alloc (.cells #[.int .i64 0, .int .i64 0] 23)).cell? ⟨W.heap.size, 1, none⟩ = some (.int .i64 7) := (hA0.2 _ m0).cell 1
  have cb0 : (wq.alloc (.cells #[.int .i64 0, .int .i64 0] 23)).cell? ⟨W.heap.size, 0, none⟩ = some (.int .i64 65535) := ((hK.after (b_alloc (Below.refl _ wq) (.cells #[.int .i64 0, .int .i64 0] 23))).2 _ m0).cell 0
  have cb1 : (wq.alloc (.cells #[.int .i64 0, .int .i64 0] 23)).cell? ⟨W.heap.size, 1, none⟩ = some (.int .i64 7) := ((hK.after (b_alloc (Below.refl _ wq) (.cells #[.int .i64 0, .int .i64 0] 23))).2 _ m0).cell 1
  have cd0 : ((wq.alloc (.cells #[.int .i64 0, .int .i64 0] 23)).drew).cell? ⟨W.heap.size, 0, none⟩ = some (.int .i64 65535) := (((hK.after (b_alloc (Below.refl _ wq) (.cells #[.int .i64 0, .int .i64 0] 23))).after (Below.drew (Below.refl _ _))).2 _ m0).cell 0
  have cd1 : ((wq.alloc (.cells #[.int .i64 0, .int .i64 0] 23)).drew).cell? ⟨W.heap.size, 1, none⟩ = some (.int .i64 7) := (((hK.after (b_alloc (Below.refl _ wq) (.cells #[.int .i64 0, .int .i64 0] 23))).after (Below.drew (Below.refl _ _))).2 _ m0).cell 1
  go_cut [8, 9] (fun sa sb wx => ∃ g : Nat, sa = .pointer (some ⟨g, 0, none⟩) ∧ sb = .int .i64 16 ∧ KB W bs wx ∧ Blk wx g 23 #[.int .i64 0, .int .i64 0] ∧ (W.heap.size ≤ g ∧ ∀ x ∈ bs, x.1 ≠ g))
  case first =>
    go_region_with (first
      | (go_at_call 22; (with_reducible refine (put_any 5 _).mono ?_); rintro e w7 ⟨rfl, hbk⟩; (first | (have hSk := hD.after hbk) | (have hSk := hA0.after hbk; have hNb := hZ0.below hbk hZ0.lt; have neN := ne0)); have ck0 : (w7).cell? ⟨W.heap.size, 0, none⟩ = some (.int .i64 65535) := (hSk.2 _ m0).cell 0; have ck1 : (w7).cell? ⟨W.heap.size, 1, none⟩ = some (.int .i64 7) := (hSk.2 _ m0).cell 1; have ne7 := hSk.ne; have hAk := hSk.after (b_alloc (Below.refl _ w7) (.cells #[.int .i64 0, .int .i64 0] 23)); have dk0 : (w7.alloc (.cells #[.int .i64 0, .int .i64 0] 23)).cell? ⟨W.heap.size, 0, none⟩ = some (.int .i64 65535) := (hAk.2 _ m0).cell 0; have dk1 : (w7.alloc (.cells #[.int .i64 0, .int .i64 0] 23)).cell? ⟨W.heap.size, 1, none⟩ = some (.int .i64 7) := (hAk.2 _ m0).cell 1; have hZk := Blk.new w7 23 #[.int .i64 0, .int .i64 0])
      | (go_at_call 21; (with_reducible refine (oA2 _).mono ?_); rintro e w8 ⟨rfl, hbk2⟩; (first | (have hSm := hSk.after hbk2; (try (have hNb := hNb.below hbk2 hNb.lt))) | (have hSm := hAk.after hbk2; have hNb := hZk.below hbk2 hZk.lt; have neN := ne7)); (try (have cNb := hNb.cell; have fNb := hNb.frozen))))
    all_goals (go_wp2_with fail; go_meet; (first | exact ⟨_, rfl, rfl, hSm.setN neN _ _, hNb.set2 _ _, neN⟩ | exact ⟨_, rfl, rfl, hSm.after (b_alloc (Below.refl _ _) _), Blk.new _ _ _, hSm.ne⟩))
  case rest =>
    obtain ⟨g8, rfl, rfl, hK8, hG8, _⟩ := hcut
    clear cs0 ca0 cs1 ca1 cb0 cb1 cd0 cd1 hZ0 hA0 ne0 hD hK oA2
    have c8 := hG8.cell
    obtain ⟨x1, hx1⟩ : ∃ x, x = -1 - far := ⟨_, rfl⟩
    obtain ⟨x2, hx2⟩ : ∃ x, x = 65536 + far := ⟨_, rfl⟩
    obtain ⟨x4, hx4⟩ : ∃ x, x = 1099511627777 + far := ⟨_, rfl⟩
    obtain ⟨x5, hx5⟩ : ∃ x, x = 1 + far := ⟨_, rfl⟩
    have u1 : IntKind.i64.wrap (-1 - far) = x1 := by rw [hx1, IntKind.wrap_i64]; omega
    have u2 : IntKind.i64.wrap (65536 + far) = x2 := by rw [hx2, IntKind.wrap_i64]; omega
    have u3 : IntKind.i64.wrap (1099511627777 + far) = x4 := by rw [hx4, IntKind.wrap_i64]; omega
    have u4 : IntKind.i64.wrap (1 + far) = x5 := by rw [hx5, IntKind.wrap_i64]; omega
    have u5 : IntKind.i64.wrap far = far := by rw [IntKind.wrap_i64]; omega
    have k0 : ¬ FOk x1 1 := by rw [hx1]; unfold FOk; omega
    have k1 : ¬ FOk x2 1 := by rw [hx2]; unfold FOk; omega
    have k2 : ¬ FOk 1 x1 := by rw [hx1]; unfold FOk; omega
    have k3 : ¬ FOk 1 x4 := by rw [hx4]; unfold FOk; omega
    have k4 : ¬ FOk x5 0 := by rw [hx5]; unfold FOk; omega
    have k5 : ¬ FOk 0 x5 := by rw [hx5]; unfold FOk; omega
    have K0 := Lib.hid k0
    have K1 := Lib.hid k1
    have K2 := Lib.hid k2
    have K3 := Lib.hid k3
    have K4 := Lib.hid k4
    have K5 := Lib.hid k5
    clear hx1 hx2 hx4 hx5 k0 k1 k2 k3 k4 k5
    have htm : what.tmod 6 = what % 6 := Int.tmod_eq_emod_of_nonneg bw0
    have hm : what % 6 = 0 ∨ what % 6 = 1 ∨ what % 6 = 2 ∨ what % 6 = 3 ∨ what % 6 = 4 ∨ what % 6 = 5 := by omega
    have HM := Lib.hid hm
    have HT := Lib.hid htm
    clear hm htm
    go_upto_region 9 with fail
    go_cut [11] (fun s11 wx => ∃ (g : Nat) (c l : Int), s11 = .pointer (some ⟨g, 0, none⟩) ∧ ¬ FOk c l ∧ KB W ((g, 23, #[.int .i64 c, .int .i64 l]) :: bs) wx)
    case first =>
      have hm := HM.out
      have htm := HT.out
      rcases hm with hm | hm | hm | hm | hm | hm
      · rw [hm] at htm
        go_wp2_with fail
        go_meet
        exact ⟨_, x1, 1, rfl, K0.out, (hK8.after (b_alloc (b_alloc (Below.refl _ _) _) _)).add (blk_new1 _ _ _ _)⟩
      · rw [hm] at htm
        go_wp2_with fail
        go_meet
        exact ⟨_, x2, 1, rfl, K1.out, (hK8.after (b_alloc (b_alloc (Below.refl _ _) _) _)).add (blk_new1 _ _ _ _)⟩
      · rw [hm] at htm
        go_wp2_with fail
        go_meet
        exact ⟨_, 1, x1, rfl, K2.out, (hK8.after (b_alloc (b_alloc (Below.refl _ _) _) _)).add (blk_new1 _ _ _ _)⟩
      · rw [hm] at htm
        go_wp2_with fail
        go_meet
        exact ⟨_, 1, x4, rfl, K3.out, (hK8.after (b_alloc (b_alloc (Below.refl _ _) _) _)).add (blk_new1 _ _ _ _)⟩
      · rw [hm] at htm
        go_wp2_with fail
        go_meet
        exact ⟨_, x5, 0, rfl, K4.out, (hK8.after (b_alloc (b_alloc (Below.refl _ _) _) _)).add (blk_new1 _ _ _ _)⟩
      · rw [hm] at htm
        go_wp2_with fail
        go_meet
        exact ⟨_, 0, x5, rfl, K5.out, (hK8.after (b_alloc (b_alloc (Below.refl _ _) _) _)).add (blk_new1 _ _ _ _)⟩
  
    case rest =>
      obtain ⟨g11, c, l, rfl, hno, hK11⟩ := hcut
      refine (show ∀ a w, Code.wp _ _ _ a w → _ from by assumption) _ _ ?_
      exact rest9 W wc what far c l g11 bs bw0 bw1 m0 HM HT hno hK11 _ _ _ _ _ _ _ _ _ _ _ _ _ _ _ _ _ _ _ _ _ _ _ _ _ _ _ _ _ _ _ _ _ _ _ _ _ _ _ _ _ _ _ _ _ _ _ _ _ _ _ _ _ _ _ _ _ _ _ _ _ _ _ _ _ _ _ _ _ _ _ _ _ _ _ _ _ _ _ _ _ _ _ _ _ _ _ _ _ _ _ _ _ _ _ _ _ _ _ _ _ _ _ _ _ _ _ _ _ _ _ _ _ _ _ _ _ _ _ _ _ _ _ _ _ _ _ _ _ _ _ _ _ _ _ _ _ _ _ _ _ _

set_option maxRecDepth 100000 in
theorem lifted (os : Os) (started : os.Started) (H : Type) (enc : TypeId × Value → H) :
    ReturnsInHanded {} Try.checked os 7 .any (Rows.footerFullSpec.pre6 enc Try.prog Try.f7 Rows.footerFullRow.domain false) (Rows.footerFullSpec.post enc Try.prog Try.f7 false true false false) := by
  refine returnsInHanded_of_change (C := Try.checked) own started (by kernel_rfl) Try.func7
    (ChangeSpec.witness6 (enc := enc) (C := Try.checked) false ⟨#[], #[.int .u8 0, .int .u16 0], []⟩ 8 (by kernel_rfl) (by kernel_rfl) (by kernel_rfl) (by kernel_rfl)) ?_
  intro W base args ds gs before hval0 hW hcnd _
  have hval : ∀ (j : Nat) t v, Try.f7.params[j]? = some t → args[j]? = some v → Value.okWide Try.prog W .any base t v := hval0
  have hW' := hW
  obtain ⟨p, q, hA0, hV, rfl, hfz, hnd⟩ := hW
  have hA : DataW.TrodAll enc Try.prog W 0 (fun _ => true) true Try.f7.params.toList args.toList ds p := hA0
  rw [Try.params7] at hA hval
  obtain ⟨v0, vs0, d0, ds0, p0, q0, hargs, rfl, rfl, h0, r0⟩ := trodAll_cons hA
  obtain ⟨v1, vs1, d1, ds1, p1, q1, rfl, rfl, rfl, h1, r1⟩ := trodAll_cons r0
  obtain ⟨rfl, rfl, rfl⟩ := trodAll_nil r1
  obtain rfl : args = #[v0, v1] := by cases args; simp_all
  obtain ⟨rfl, rfl⟩ := trodVars_none hV
  refine (walk (H := H) (enc := enc) W base (hval 0 5 v0 rfl rfl) h0 (hval 1 41 v1 rfl rfl) h1).mono fun e W' ⟨he, bel⟩ => ?_
  subst he
  exact ⟨_, rfl, _, _, _, [], _, [], hW', trodAll_mk1 (shut_bool Try.underlying4 _), (trodAll_cons_mk (Below.trod laidOut (by kernel_rfl) (of_decide_eq_true (by kernel_rfl)) h0 bel (lt_of_Trod h0)) (trodAll_cons_mk (Below.trod laidOut (by kernel_rfl) (of_decide_eq_true (by kernel_rfl)) h1 bel (lt_of_Trod h1)) trodAll_mk0)), rfl, bel.frame _, fun h => by cases h⟩

/-- FooterFull: for every two numbers the law returns true and changes nothing. No condition. -/
theorem proved : Rows.FooterFullSaid :=
  OpenClaim.holds_of_wide 7 Try.f7 rfl rfl rfl rfl rfl rfl rfl ⟨rfl, rfl, rfl, rfl, rfl⟩ rfl rfl rfl rfl rfl (by kernel_rfl) Try.func7 (by kernel_rfl)
    (of_decide_eq_true (by kernel_rfl)) (by unfold Func.isWrapper; first | (rw [if_pos (by decide +kernel)]; kernel_rfl) | (rw [if_neg (by decide +kernel)]; exact ⟨rfl, rfl⟩))
    (fun os started H enc _ => lifted os started H enc)
#print axioms proved
end Go.Proofs.Ytiobnhdcapfhgaa.footerFull
