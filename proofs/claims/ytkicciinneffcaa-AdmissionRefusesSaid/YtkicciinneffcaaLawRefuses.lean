/-
  AdmissionRefuses: for every configuration by numbers and two numbers the law returns true and changes nothing. No condition.
-/
import Derived.Test.YtkicciinneffcaaOpen
import Derived.Test.YtkicciinneffcaaNum
namespace Go.Proofs.Ytkicciinneffcaa.admissionRefuses
open Go.ChangeShapes Go.WideShapes Go.ChangeAt Go.RowKit
open Go.ChangeMaps (open_string shut_string)
set_option linter.unusedVariables false
theorem aErr_bad {cost old : Int} {key val : ByteArray} (h : ¬(0 ≤ cost ∧ cost ≤ 262144 ∧ 0 ≤ old ∧ old ≤ cost)) : aErr cost old key val = 2 := by unfold aErr; rw [if_pos h]
theorem aErr_big {cost old : Int} {key val : ByteArray} (hn : 0 ≤ cost ∧ cost ≤ 262144 ∧ 0 ≤ old ∧ old ≤ cost) (hk : kErr key = 0) (hv : 512 < val.size) : aErr cost old key val = 12 := by
  unfold aErr; rw [if_neg (by simpa using hn), if_neg (by simpa using hk), if_pos hv]

set_option maxHeartbeats 6400000 in
set_option maxRecDepth 100000 in
theorem walk {H : Type} {enc : TypeId × Value → H} (W : World) (base : Nat) {v0 v1 v2 : Value} {d0 d1 d2 : DataW H} {p0 p1 p2 : List MemPlace} (o0 : Value.okWide Try.prog W .any base 34 v0) (h0 : DataW.Trod enc Try.prog W 0 (fun _ => true) true 34 v0 d0 p0) (o1 : Value.okWide Try.prog W .any base 32 v1) (h1 : DataW.Trod enc Try.prog W 0 (fun _ => true) true 32 v1 d1 p1) (o2 : Value.okWide Try.prog W .any base 5 v2) (h2 : DataW.Trod enc Try.prog W 0 (fun _ => true) true 5 v2 d2 p2) :
    Calls Try.prog 8 #[v0, v1, v2] W fun e W' => e = .returned (.bool true) ∧ Below W.heap.size W W' := by
  obtain ⟨re, mo, ke, va, si, rfl, r0, m0, m1, k0, v0, s0, s1⟩ := open_beg o0 h0
  clear o0 h0
  obtain ⟨n, rfl, rfl, rfl, wn⟩ := open_int Try.underlying32 o1 h1
  obtain ⟨what, rfl, rfl, rfl, ww⟩ := open_int Try.underlying5 o2 h2
  have bn := bounds_u16 wn
  have bw := bounds_u8 ww
  obtain ⟨n0, n1⟩ := bn
  obtain ⟨w0, w1'⟩ := bw
  clear wn ww o1 h1 o2 h2
  have hm : ∀ w : World, (Instr.makeSlice 40 (.int .i64 513) (.int .i64 513)).run Try.prog w = .ok (.slice (some ⟨w.heap.size, 0, none⟩) 513 513) (w.alloc (.cells (zeros 513) 5)) := make_any 513 (by decide)
  have hcv := fun w => str_zeros w 513 513
  have hz513 := size_zeros 513
  generalize strOfNums (List.replicate 513 0) = zz at hcv hz513
  have HZ := Lib.hid hz513
  clear hz513
  go_enter Try.func8, Try.ntmps8
  go_wp2_with fail
  refine (Config_any re mo ke va si _ r0 m0 m1 k0 v0 s0 s1).mono ?_
  rintro e w1 ⟨⟨s, z, r, wk, k, v, p, rfl, hc⟩, hb1⟩
  have hY1 : Below W.heap.size W w1 := b_then (by repeat first | exact Below.refl _ _ | apply Below.drew | apply b_alloc) hb1
  have bel1 := hY1
  clear hb1
  have hW1 : W.heap.size ≤ w1.heap.size := bel1.size
  have hk1 : 1 ≤ k := by unfold CfgOk at hc; omega
  have hv0 : 0 ≤ v := by unfold CfgOk at hc; omega
  have hk32 : k ≤ 32 := by unfold CfgOk at hc; omega
  obtain ⟨L0, L1⟩ := climit_bds hc
  have hr2 : 2 ≤ r := by unfold CfgOk at hc; omega
  have hr8 : r ≤ 8 := by unfold CfgOk at hc; omega
  go_wp2_with fail
  refine (Limit_yes s z r wk k v p _ hc).mono ?_
  rintro e w2 ⟨rfl, hb2⟩
  have hY2 : Below w1.heap.size w1 w2 := b_then (by repeat first | exact Below.refl _ _ | apply Below.drew | apply b_alloc) hb2
  have hC2 : Blk w2 (w1.heap.size) 23 #[.int .i64 s, .int .i64 z, .int .i64 r, .int .i64 wk, .int .i64 k, .int .i64 v, .int .i64 p] := (hb2.block _ (by simp <;> omega)).trans (by repeat (first | ((with_reducible refine alloc_here' ?_); (simp; done)) | (with_reducible apply alloc_old') | (with_reducible apply drew_old)))
  have bel2 := b_then bel1 hY2
  clear bel1 hb2 hY2
  have cC := hC2.cell
  have lC := hC2.lt
  go_wp2_with fail
  refine (Left_at (cost := -1 - n) (a := 0) (q := 2) (lVal_no (fun h => by omega)).1 (lVal_no (fun h => by omega)).2 _).mono ?_
  rintro e w3 ⟨rfl, hb3⟩
  have hY3 : Below w2.heap.size w2 w3 := b_then (by repeat first | exact Below.refl _ _ | apply Below.drew | apply b_alloc) hb3
  have hC3 := hC2.below hY3 hC2.lt
  have bel3 := b_then bel2 hY3
  clear hC2 bel2 hb3 cC lC hY3
  have cC := hC3.cell
  have lC := hC3.lt
  go_wp2_with fail
  refine (Left_at (cost := climit s z r + 1 + n) (a := 0) (q := 2) (lVal_no (fun h => by omega)).1 (lVal_no (fun h => by omega)).2 _).mono ?_
  rintro e w4 ⟨rfl, hb4⟩
  have hY4 : Below w3.heap.size w3 w4 := b_then (by repeat first | exact Below.refl _ _ | apply Below.drew | apply b_alloc) hb4
  have hC4 := hC3.below hY4 hC3.lt
  have bel4 := b_then bel3 hY4
  clear hC3 bel3 hb4 cC lC hY4
  have cC := hC4.cell
  have lC := hC4.lt
  go_wp2_with fail
  refine (After_at (cost := -1 - n) (old := 0) (key := ⟨#[107]⟩) (val := ⟨#[]⟩) (a := 0) (q := 2) (by unfold aVal; rw [if_neg (by rw [aErr_bad (by omega)]; decide)]) (aErr_bad (by omega)) _ (by decide) (by decide)).mono ?_
  rintro e w5 ⟨rfl, hb5⟩
  have hY5 : Below w4.heap.size w4 w5 := b_then (by repeat first | exact Below.refl _ _ | apply Below.drew | apply b_alloc) hb5
  have hC5 := hC4.below hY5 hC4.lt
  have bel5 := b_then bel4 hY5
  clear hC4 bel4 hb5 cC lC hY5
  have cC := hC5.cell
  have lC := hC5.lt
  go_wp2_with fail
  refine (After_at (cost := 262145 + n) (old := 0) (key := ⟨#[107]⟩) (val := ⟨#[]⟩) (a := 0) (q := 2) (by unfold aVal; rw [if_neg (by rw [aErr_bad (by omega)]; decide)]) (aErr_bad (by omega)) _ (by decide) (by decide)).mono ?_
  rintro e w6 ⟨rfl, hb6⟩
  have hY6 : Below w5.heap.size w5 w6 := b_then (by repeat first | exact Below.refl _ _ | apply Below.drew | apply b_alloc) hb6
  have hC6 := hC5.below hY6 hC5.lt
  have bel6 := b_then bel5 hY6
  clear hC5 bel5 hb6 cC lC hY6
  have cC := hC6.cell
  have lC := hC6.lt
  go_wp2_with fail
  refine (After_at (cost := n) (old := n + 1) (key := ⟨#[107]⟩) (val := ⟨#[]⟩) (a := 0) (q := 2) (by unfold aVal; rw [if_neg (by rw [aErr_bad (by omega)]; decide)]) (aErr_bad (by omega)) _ (by decide) (by decide)).mono ?_
  rintro e w7 ⟨rfl, hb7⟩
  have hY7 : Below w6.heap.size w6 w7 := b_then (by repeat first | exact Below.refl _ _ | apply Below.drew | apply b_alloc) hb7
  have hC7 := hC6.below hY7 hC6.lt
  have bel7 := b_then bel6 hY7
  clear hC6 bel6 hb7 cC lC hY7
  have cC := hC7.cell
  have lC := hC7.lt
  go_wp2_with fail
  refine (After_at (cost := n) (old := -1 - n) (key := ⟨#[107]⟩) (val := ⟨#[]⟩) (a := 0) (q := 2) (by unfold aVal; rw [if_neg (by rw [aErr_bad (by omega)]; decide)]) (aErr_bad (by omega)) _ (by decide) (by decide)).mono ?_
  rintro e w8 ⟨rfl, hb8⟩
  have hY8 : Below w7.heap.size w7 w8 := b_then (by repeat first | exact Below.refl _ _ | apply Below.drew | apply b_alloc) hb8
  have hC8 := hC7.below hY8 hC7.lt
  have bel8 := b_then bel7 hY8
  clear hC7 bel7 hb8 cC lC hY8
  have cC := hC8.cell
  have lC := hC8.lt
  go_wp2_with fail
  refine (After_at (cost := n) (old := 0) (key := ⟨#[107]⟩) (val := zz) (a := 0) (q := 12) (by unfold aVal; rw [if_neg (by rw [aErr_big ⟨n0, by omega, by omega, n0⟩ kk (by rw [HZ.out]; decide)]; decide)]) (aErr_big ⟨n0, by omega, by omega, n0⟩ kk (by rw [HZ.out]; decide)) _ (by decide) (by rw [HZ.out]; decide)).mono ?_
  rintro e w9 ⟨rfl, hb9⟩
  have hY9 : Below w8.heap.size w8 w9 := b_then (by repeat first | exact Below.refl _ _ | apply Below.drew | apply b_alloc) hb9
  have hC9 := hC8.below hY9 hC8.lt
  have bel9 := b_then bel8 hY9
  clear hC8 bel8 hb9 cC lC hY9
  have cC := hC9.cell
  have lC := hC9.lt
  have hA : aChk s z r wk k v p ⟨#[107]⟩ ⟨#[]⟩ = 0 := aChk_of hc (fErr_of hk1 hk32 kk (by show (1 : Int) ≤ k; exact hk1)) (by show (0 : Int) ≤ v; exact hv0)
  have HA := Lib.hid hA
  clear hA
  go_wp2_with fail
  refine (Put_at (cost := climit s z r + 1 + n) (old := 0) (key := ⟨#[107]⟩) (val := ⟨#[]⟩) (aPut_n HA.out (by omega)) _ (by decide) (by decide)).mono ?_
  rintro e w10 ⟨rfl, hb10⟩
  have hY10 : Below w9.heap.size w9 w10 := b_then (by repeat first | exact Below.refl _ _ | apply Below.drew | apply b_alloc) hb10
  have hC10 := hC9.below hY10 hC9.lt
  have bel10 := b_then bel9 hY10
  clear hC9 bel9 hb10 cC lC hY10
  have cC := hC10.cell
  have lC := hC10.lt
  go_wp2_with fail
  refine (Put_at (cost := climit s z r) (old := -1 - n) (key := ⟨#[107]⟩) (val := ⟨#[]⟩) (aPut_n HA.out (by omega)) _ (by decide) (by decide)).mono ?_
  rintro e w11 ⟨rfl, hb11⟩
  have hY11 : Below w10.heap.size w10 w11 := b_then (by repeat first | exact Below.refl _ _ | apply Below.drew | apply b_alloc) hb11
  have hC11 := hC10.below hY11 hC10.lt
  have bel11 := b_then bel10 hY11
  clear hC10 bel10 hb11 cC lC hY11
  have cC := hC11.cell
  have lC := hC11.lt
  go_wp2_with fail
  refine (Put_at (cost := climit s z r) (old := climit s z r + 1 + n) (key := ⟨#[107]⟩) (val := ⟨#[]⟩) (aPut_n HA.out (by omega)) _ (by decide) (by decide)).mono ?_
  rintro e w12 ⟨rfl, hb12⟩
  have hY12 : Below w11.heap.size w11 w12 := b_then (by repeat first | exact Below.refl _ _ | apply Below.drew | apply b_alloc) hb12
  have hC12 := hC11.below hY12 hC11.lt
  have bel12 := b_then bel11 hY12
  clear hC11 bel11 hb12 cC lC hY12
  have cC := hC12.cell
  have lC := hC12.lt
  have hw6 : what.tmod 6 = what % 6 := Int.tmod_eq_emod_of_nonneg w0
  obtain ⟨j, hj⟩ : ∃ j, what % 6 = j := ⟨_, rfl⟩
  rw [hj] at hw6
  have hj6 : j = 0 ∨ j = 1 ∨ j = 2 ∨ j = 3 ∨ j = 4 ∨ j = 5 := by omega
  clear hj
  rcases hj6 with rfl | rfl | rfl | rfl | rfl | rfl
  · have fC := hC12.frozen
    go_wp2_with fail
    have hb0 : ¬CfgOk (r + 1 - n) (z) (r) (wk) (k) (v) (p) := by unfold CfgOk; omega
    have hNew : Blk (w12.setCell ⟨w1.heap.size, 0, none⟩ (.int .i64 (r + 1 - n))) w1.heap.size 23 #[.int .i64 (r + 1 - n), .int .i64 (z), .int .i64 (r), .int .i64 (wk), .int .i64 (k), .int .i64 (v), .int .i64 (p)] := by simpa using hC12.set_ 0 (.int .i64 (r + 1 - n))
    have hBel : Below W.heap.size W (w12.setCell ⟨w1.heap.size, 0, none⟩ (.int .i64 (r + 1 - n))) := bel12.setCell (p := ⟨w1.heap.size, 0, none⟩) hW1 _
    generalize w12.setCell ⟨w1.heap.size, 0, none⟩ (.int .i64 (r + 1 - n)) = wS at hNew hBel ⊢
    clear hC12 bel12 cC lC fC
    have cC := hNew.cell
    have lC := hNew.lt
    refine (Left_at (s := r + 1 - n) (z := z) (r := r) (wk := wk) (k := k) (v := v) (p := p) (cost := 0) (a := 0) (q := 2) (lVal_no (fun h => hb0 h.1)).1 (lVal_no (fun h => hb0 h.1)).2 _).mono ?_
    rintro e w13 ⟨rfl, hb13⟩
    have hY13 : Below wS.heap.size wS w13 := b_then (by repeat first | exact Below.refl _ _ | apply Below.drew | apply b_alloc) hb13
    have hC13 := hNew.below hY13 hNew.lt
    have bel13 := b_then hBel hY13
    clear hNew hBel hb13 cC lC hY13
    have cC := hC13.cell
    have lC := hC13.lt
    go_wp2_with fail
    refine (Check_at (s := r + 1 - n) (z := z) (r := r) (wk := wk) (k := k) (v := v) (p := p) (key := ⟨#[75]⟩) (val := ⟨#[]⟩) (aChk_c hb0) _ (by decide) (by decide)).mono ?_
    rintro e w14 ⟨rfl, hb14⟩
    have hY14 : Below w13.heap.size w13 w14 := b_then (by repeat first | exact Below.refl _ _ | apply Below.drew | apply b_alloc) hb14
    have hC14 := hC13.below hY14 hC13.lt
    have bel14 := b_then bel13 hY14
    clear hC13 bel13 hb14 cC lC hY14
    have cC := hC14.cell
    have lC := hC14.lt
    go_wp2_with fail
    refine (Check_at (s := r + 1 - n) (z := z) (r := r) (wk := wk) (k := k) (v := v) (p := p) (key := ⟨#[107]⟩) (val := ⟨#[]⟩) (aChk_c hb0) _ (by decide) (by decide)).mono ?_
    rintro e w15 ⟨rfl, hb15⟩
    have hY15 : Below w14.heap.size w14 w15 := b_then (by repeat first | exact Below.refl _ _ | apply Below.drew | apply b_alloc) hb15
    have hC15 := hC14.below hY15 hC14.lt
    have bel15 := b_then bel14 hY15
    clear hC14 bel14 hb15 cC lC hY15
    have cC := hC15.cell
    have lC := hC15.lt
    go_wp2_with fail
    refine (Put_at (s := r + 1 - n) (z := z) (r := r) (wk := wk) (k := k) (v := v) (p := p) (cost := 0) (old := 0) (key := ⟨#[107]⟩) (val := ⟨#[]⟩) (aPut_e (aChk_c hb0) (by decide)) _ (by decide) (by decide)).mono ?_
    rintro e w16 ⟨rfl, hb16⟩
    have hY16 : Below w15.heap.size w15 w16 := b_then (by repeat first | exact Below.refl _ _ | apply Below.drew | apply b_alloc) hb16
    have hC16 := hC15.below hY16 hC15.lt
    have bel16 := b_then bel15 hY16
    clear hC15 bel15 hb16 cC lC hY16
    have cC := hC16.cell
    have lC := hC16.lt
    go_wp2_with fail
    refine (works_true _).mono ?_
    rintro e w17 ⟨rfl, hb17⟩
    have hY17 : Below w16.heap.size w16 w17 := b_then (by repeat first | exact Below.refl _ _ | apply Below.drew | apply b_alloc) hb17
    have hC17 := hC16.below hY17 hC16.lt
    have bel17 := b_then bel16 hY17
    clear hC16 bel16 hb17 cC lC hY17
    have cC := hC17.cell
    have lC := hC17.lt
    go_wp2_with fail
    go_ret
    exact ⟨rfl, bel17⟩
  · have fC := hC12.frozen
    go_wp2_with fail
    have hb0 : ¬CfgOk (s) (z) (1 - n) (wk) (k) (v) (p) := by unfold CfgOk; omega
    have hNew : Blk (w12.setCell ⟨w1.heap.size, 2, none⟩ (.int .i64 (1 - n))) w1.heap.size 23 #[.int .i64 (s), .int .i64 (z), .int .i64 (1 - n), .int .i64 (wk), .int .i64 (k), .int .i64 (v), .int .i64 (p)] := by simpa using hC12.set_ 2 (.int .i64 (1 - n))
    have hBel : Below W.heap.size W (w12.setCell ⟨w1.heap.size, 2, none⟩ (.int .i64 (1 - n))) := bel12.setCell (p := ⟨w1.heap.size, 2, none⟩) hW1 _
    generalize w12.setCell ⟨w1.heap.size, 2, none⟩ (.int .i64 (1 - n)) = wS at hNew hBel ⊢
    clear hC12 bel12 cC lC fC
    have cC := hNew.cell
    have lC := hNew.lt
    refine (Left_at (s := s) (z := z) (r := 1 - n) (wk := wk) (k := k) (v := v) (p := p) (cost := 0) (a := 0) (q := 2) (lVal_no (fun h => hb0 h.1)).1 (lVal_no (fun h => hb0 h.1)).2 _).mono ?_
    rintro e w13 ⟨rfl, hb13⟩
    have hY13 : Below wS.heap.size wS w13 := b_then (by repeat first | exact Below.refl _ _ | apply Below.drew | apply b_alloc) hb13
    have hC13 := hNew.below hY13 hNew.lt
    have bel13 := b_then hBel hY13
    clear hNew hBel hb13 cC lC hY13
    have cC := hC13.cell
    have lC := hC13.lt
    go_wp2_with fail
    refine (Check_at (s := s) (z := z) (r := 1 - n) (wk := wk) (k := k) (v := v) (p := p) (key := ⟨#[75]⟩) (val := ⟨#[]⟩) (aChk_c hb0) _ (by decide) (by decide)).mono ?_
    rintro e w14 ⟨rfl, hb14⟩
    have hY14 : Below w13.heap.size w13 w14 := b_then (by repeat first | exact Below.refl _ _ | apply Below.drew | apply b_alloc) hb14
    have hC14 := hC13.below hY14 hC13.lt
    have bel14 := b_then bel13 hY14
    clear hC13 bel13 hb14 cC lC hY14
    have cC := hC14.cell
    have lC := hC14.lt
    go_wp2_with fail
    refine (Check_at (s := s) (z := z) (r := 1 - n) (wk := wk) (k := k) (v := v) (p := p) (key := ⟨#[107]⟩) (val := ⟨#[]⟩) (aChk_c hb0) _ (by decide) (by decide)).mono ?_
    rintro e w15 ⟨rfl, hb15⟩
    have hY15 : Below w14.heap.size w14 w15 := b_then (by repeat first | exact Below.refl _ _ | apply Below.drew | apply b_alloc) hb15
    have hC15 := hC14.below hY15 hC14.lt
    have bel15 := b_then bel14 hY15
    clear hC14 bel14 hb15 cC lC hY15
    have cC := hC15.cell
    have lC := hC15.lt
    go_wp2_with fail
    refine (Put_at (s := s) (z := z) (r := 1 - n) (wk := wk) (k := k) (v := v) (p := p) (cost := 0) (old := 0) (key := ⟨#[107]⟩) (val := ⟨#[]⟩) (aPut_e (aChk_c hb0) (by decide)) _ (by decide) (by decide)).mono ?_
    rintro e w16 ⟨rfl, hb16⟩
    have hY16 : Below w15.heap.size w15 w16 := b_then (by repeat first | exact Below.refl _ _ | apply Below.drew | apply b_alloc) hb16
    have hC16 := hC15.below hY16 hC15.lt
    have bel16 := b_then bel15 hY16
    clear hC15 bel15 hb16 cC lC hY16
    have cC := hC16.cell
    have lC := hC16.lt
    go_wp2_with fail
    refine (works_true _).mono ?_
    rintro e w17 ⟨rfl, hb17⟩
    have hY17 : Below w16.heap.size w16 w17 := b_then (by repeat first | exact Below.refl _ _ | apply Below.drew | apply b_alloc) hb17
    have hC17 := hC16.below hY17 hC16.lt
    have bel17 := b_then bel16 hY17
    clear hC16 bel16 hb17 cC lC hY17
    have cC := hC17.cell
    have lC := hC17.lt
    go_wp2_with fail
    go_ret
    exact ⟨rfl, bel17⟩
  · have fC := hC12.frozen
    go_wp2_with fail
    have hb0 : ¬CfgOk (s) (z) (r) (wk) (33 + n) (v) (p) := by unfold CfgOk; omega
    have hNew : Blk (w12.setCell ⟨w1.heap.size, 4, none⟩ (.int .i64 (33 + n))) w1.heap.size 23 #[.int .i64 (s), .int .i64 (z), .int .i64 (r), .int .i64 (wk), .int .i64 (33 + n), .int .i64 (v), .int .i64 (p)] := by simpa using hC12.set_ 4 (.int .i64 (33 + n))
    have hBel : Below W.heap.size W (w12.setCell ⟨w1.heap.size, 4, none⟩ (.int .i64 (33 + n))) := bel12.setCell (p := ⟨w1.heap.size, 4, none⟩) hW1 _
    generalize w12.setCell ⟨w1.heap.size, 4, none⟩ (.int .i64 (33 + n)) = wS at hNew hBel ⊢
    clear hC12 bel12 cC lC fC
    have cC := hNew.cell
    have lC := hNew.lt
    refine (Left_at (s := s) (z := z) (r := r) (wk := wk) (k := 33 + n) (v := v) (p := p) (cost := 0) (a := 0) (q := 2) (lVal_no (fun h => hb0 h.1)).1 (lVal_no (fun h => hb0 h.1)).2 _).mono ?_
    rintro e w13 ⟨rfl, hb13⟩
    have hY13 : Below wS.heap.size wS w13 := b_then (by repeat first | exact Below.refl _ _ | apply Below.drew | apply b_alloc) hb13
    have hC13 := hNew.below hY13 hNew.lt
    have bel13 := b_then hBel hY13
    clear hNew hBel hb13 cC lC hY13
    have cC := hC13.cell
    have lC := hC13.lt
    go_wp2_with fail
    refine (Check_at (s := s) (z := z) (r := r) (wk := wk) (k := 33 + n) (v := v) (p := p) (key := ⟨#[75]⟩) (val := ⟨#[]⟩) (aChk_c hb0) _ (by decide) (by decide)).mono ?_
    rintro e w14 ⟨rfl, hb14⟩
    have hY14 : Below w13.heap.size w13 w14 := b_then (by repeat first | exact Below.refl _ _ | apply Below.drew | apply b_alloc) hb14
    have hC14 := hC13.below hY14 hC13.lt
    have bel14 := b_then bel13 hY14
    clear hC13 bel13 hb14 cC lC hY14
    have cC := hC14.cell
    have lC := hC14.lt
    go_wp2_with fail
    refine (Check_at (s := s) (z := z) (r := r) (wk := wk) (k := 33 + n) (v := v) (p := p) (key := ⟨#[107]⟩) (val := ⟨#[]⟩) (aChk_c hb0) _ (by decide) (by decide)).mono ?_
    rintro e w15 ⟨rfl, hb15⟩
    have hY15 : Below w14.heap.size w14 w15 := b_then (by repeat first | exact Below.refl _ _ | apply Below.drew | apply b_alloc) hb15
    have hC15 := hC14.below hY15 hC14.lt
    have bel15 := b_then bel14 hY15
    clear hC14 bel14 hb15 cC lC hY15
    have cC := hC15.cell
    have lC := hC15.lt
    go_wp2_with fail
    refine (Put_at (s := s) (z := z) (r := r) (wk := wk) (k := 33 + n) (v := v) (p := p) (cost := 0) (old := 0) (key := ⟨#[107]⟩) (val := ⟨#[]⟩) (aPut_e (aChk_c hb0) (by decide)) _ (by decide) (by decide)).mono ?_
    rintro e w16 ⟨rfl, hb16⟩
    have hY16 : Below w15.heap.size w15 w16 := b_then (by repeat first | exact Below.refl _ _ | apply Below.drew | apply b_alloc) hb16
    have hC16 := hC15.below hY16 hC15.lt
    have bel16 := b_then bel15 hY16
    clear hC15 bel15 hb16 cC lC hY16
    have cC := hC16.cell
    have lC := hC16.lt
    go_wp2_with fail
    refine (works_true _).mono ?_
    rintro e w17 ⟨rfl, hb17⟩
    have hY17 : Below w16.heap.size w16 w17 := b_then (by repeat first | exact Below.refl _ _ | apply Below.drew | apply b_alloc) hb17
    have hC17 := hC16.below hY17 hC16.lt
    have bel17 := b_then bel16 hY17
    clear hC16 bel16 hb17 cC lC hY17
    have cC := hC17.cell
    have lC := hC17.lt
    go_wp2_with fail
    go_ret
    exact ⟨rfl, bel17⟩
  · have fC := hC12.frozen
    go_wp2_with fail
    have hb0 : ¬CfgOk (s) (z) (r) (wk) (k) (513 + n) (p) := by unfold CfgOk; omega
    have hNew : Blk (w12.setCell ⟨w1.heap.size, 5, none⟩ (.int .i64 (513 + n))) w1.heap.size 23 #[.int .i64 (s), .int .i64 (z), .int .i64 (r), .int .i64 (wk), .int .i64 (k), .int .i64 (513 + n), .int .i64 (p)] := by simpa using hC12.set_ 5 (.int .i64 (513 + n))
    have hBel : Below W.heap.size W (w12.setCell ⟨w1.heap.size, 5, none⟩ (.int .i64 (513 + n))) := bel12.setCell (p := ⟨w1.heap.size, 5, none⟩) hW1 _
    generalize w12.setCell ⟨w1.heap.size, 5, none⟩ (.int .i64 (513 + n)) = wS at hNew hBel ⊢
    clear hC12 bel12 cC lC fC
    have cC := hNew.cell
    have lC := hNew.lt
    refine (Left_at (s := s) (z := z) (r := r) (wk := wk) (k := k) (v := 513 + n) (p := p) (cost := 0) (a := 0) (q := 2) (lVal_no (fun h => hb0 h.1)).1 (lVal_no (fun h => hb0 h.1)).2 _).mono ?_
    rintro e w13 ⟨rfl, hb13⟩
    have hY13 : Below wS.heap.size wS w13 := b_then (by repeat first | exact Below.refl _ _ | apply Below.drew | apply b_alloc) hb13
    have hC13 := hNew.below hY13 hNew.lt
    have bel13 := b_then hBel hY13
    clear hNew hBel hb13 cC lC hY13
    have cC := hC13.cell
    have lC := hC13.lt
    go_wp2_with fail
    refine (Check_at (s := s) (z := z) (r := r) (wk := wk) (k := k) (v := 513 + n) (p := p) (key := ⟨#[75]⟩) (val := ⟨#[]⟩) (aChk_c hb0) _ (by decide) (by decide)).mono ?_
    rintro e w14 ⟨rfl, hb14⟩
    have hY14 : Below w13.heap.size w13 w14 := b_then (by repeat first | exact Below.refl _ _ | apply Below.drew | apply b_alloc) hb14
    have hC14 := hC13.below hY14 hC13.lt
    have bel14 := b_then bel13 hY14
    clear hC13 bel13 hb14 cC lC hY14
    have cC := hC14.cell
    have lC := hC14.lt
    go_wp2_with fail
    refine (Check_at (s := s) (z := z) (r := r) (wk := wk) (k := k) (v := 513 + n) (p := p) (key := ⟨#[107]⟩) (val := ⟨#[]⟩) (aChk_c hb0) _ (by decide) (by decide)).mono ?_
    rintro e w15 ⟨rfl, hb15⟩
    have hY15 : Below w14.heap.size w14 w15 := b_then (by repeat first | exact Below.refl _ _ | apply Below.drew | apply b_alloc) hb15
    have hC15 := hC14.below hY15 hC14.lt
    have bel15 := b_then bel14 hY15
    clear hC14 bel14 hb15 cC lC hY15
    have cC := hC15.cell
    have lC := hC15.lt
    go_wp2_with fail
    refine (Put_at (s := s) (z := z) (r := r) (wk := wk) (k := k) (v := 513 + n) (p := p) (cost := 0) (old := 0) (key := ⟨#[107]⟩) (val := ⟨#[]⟩) (aPut_e (aChk_c hb0) (by decide)) _ (by decide) (by decide)).mono ?_
    rintro e w16 ⟨rfl, hb16⟩
    have hY16 : Below w15.heap.size w15 w16 := b_then (by repeat first | exact Below.refl _ _ | apply Below.drew | apply b_alloc) hb16
    have hC16 := hC15.below hY16 hC15.lt
    have bel16 := b_then bel15 hY16
    clear hC15 bel15 hb16 cC lC hY16
    have cC := hC16.cell
    have lC := hC16.lt
    go_wp2_with fail
    refine (works_true _).mono ?_
    rintro e w17 ⟨rfl, hb17⟩
    have hY17 : Below w16.heap.size w16 w17 := b_then (by repeat first | exact Below.refl _ _ | apply Below.drew | apply b_alloc) hb17
    have hC17 := hC16.below hY17 hC16.lt
    have bel17 := b_then bel16 hY17
    clear hC16 bel16 hb17 cC lC hY17
    have cC := hC17.cell
    have lC := hC17.lt
    go_wp2_with fail
    go_ret
    exact ⟨rfl, bel17⟩
  · have fC := hC12.frozen
    go_wp2_with fail
    have hb0 : ¬CfgOk (s) (8193 + n) (r) (wk) (k) (v) (p) := by unfold CfgOk; omega
    have hNew : Blk (w12.setCell ⟨w1.heap.size, 1, none⟩ (.int .i64 (8193 + n))) w1.heap.size 23 #[.int .i64 (s), .int .i64 (8193 + n), .int .i64 (r), .int .i64 (wk), .int .i64 (k), .int .i64 (v), .int .i64 (p)] := by simpa using hC12.set_ 1 (.int .i64 (8193 + n))
    have hBel : Below W.heap.size W (w12.setCell ⟨w1.heap.size, 1, none⟩ (.int .i64 (8193 + n))) := bel12.setCell (p := ⟨w1.heap.size, 1, none⟩) hW1 _
    generalize w12.setCell ⟨w1.heap.size, 1, none⟩ (.int .i64 (8193 + n)) = wS at hNew hBel ⊢
    clear hC12 bel12 cC lC fC
    have cC := hNew.cell
    have lC := hNew.lt
    refine (Left_at (s := s) (z := 8193 + n) (r := r) (wk := wk) (k := k) (v := v) (p := p) (cost := 0) (a := 0) (q := 2) (lVal_no (fun h => hb0 h.1)).1 (lVal_no (fun h => hb0 h.1)).2 _).mono ?_
    rintro e w13 ⟨rfl, hb13⟩
    have hY13 : Below wS.heap.size wS w13 := b_then (by repeat first | exact Below.refl _ _ | apply Below.drew | apply b_alloc) hb13
    have hC13 := hNew.below hY13 hNew.lt
    have bel13 := b_then hBel hY13
    clear hNew hBel hb13 cC lC hY13
    have cC := hC13.cell
    have lC := hC13.lt
    go_wp2_with fail
    refine (Check_at (s := s) (z := 8193 + n) (r := r) (wk := wk) (k := k) (v := v) (p := p) (key := ⟨#[75]⟩) (val := ⟨#[]⟩) (aChk_c hb0) _ (by decide) (by decide)).mono ?_
    rintro e w14 ⟨rfl, hb14⟩
    have hY14 : Below w13.heap.size w13 w14 := b_then (by repeat first | exact Below.refl _ _ | apply Below.drew | apply b_alloc) hb14
    have hC14 := hC13.below hY14 hC13.lt
    have bel14 := b_then bel13 hY14
    clear hC13 bel13 hb14 cC lC hY14
    have cC := hC14.cell
    have lC := hC14.lt
    go_wp2_with fail
    refine (Check_at (s := s) (z := 8193 + n) (r := r) (wk := wk) (k := k) (v := v) (p := p) (key := ⟨#[107]⟩) (val := ⟨#[]⟩) (aChk_c hb0) _ (by decide) (by decide)).mono ?_
    rintro e w15 ⟨rfl, hb15⟩
    have hY15 : Below w14.heap.size w14 w15 := b_then (by repeat first | exact Below.refl _ _ | apply Below.drew | apply b_alloc) hb15
    have hC15 := hC14.below hY15 hC14.lt
    have bel15 := b_then bel14 hY15
    clear hC14 bel14 hb15 cC lC hY15
    have cC := hC15.cell
    have lC := hC15.lt
    go_wp2_with fail
    refine (Put_at (s := s) (z := 8193 + n) (r := r) (wk := wk) (k := k) (v := v) (p := p) (cost := 0) (old := 0) (key := ⟨#[107]⟩) (val := ⟨#[]⟩) (aPut_e (aChk_c hb0) (by decide)) _ (by decide) (by decide)).mono ?_
    rintro e w16 ⟨rfl, hb16⟩
    have hY16 : Below w15.heap.size w15 w16 := b_then (by repeat first | exact Below.refl _ _ | apply Below.drew | apply b_alloc) hb16
    have hC16 := hC15.below hY16 hC15.lt
    have bel16 := b_then bel15 hY16
    clear hC15 bel15 hb16 cC lC hY16
    have cC := hC16.cell
    have lC := hC16.lt
    go_wp2_with fail
    refine (works_true _).mono ?_
    rintro e w17 ⟨rfl, hb17⟩
    have hY17 : Below w16.heap.size w16 w17 := b_then (by repeat first | exact Below.refl _ _ | apply Below.drew | apply b_alloc) hb17
    have hC17 := hC16.below hY17 hC16.lt
    have bel17 := b_then bel16 hY17
    clear hC16 bel16 hb17 cC lC hY17
    have cC := hC17.cell
    have lC := hC17.lt
    go_wp2_with fail
    go_ret
    exact ⟨rfl, bel17⟩
  · have fC := hC12.frozen
    go_wp2_with fail
    have hb0 : ¬CfgOk (s) (z) (r) (wk) (k) (v) (3 + n) := by unfold CfgOk; omega
    have hNew : Blk (w12.setCell ⟨w1.heap.size, 6, none⟩ (.int .i64 (3 + n))) w1.heap.size 23 #[.int .i64 (s), .int .i64 (z), .int .i64 (r), .int .i64 (wk), .int .i64 (k), .int .i64 (v), .int .i64 (3 + n)] := by simpa using hC12.set_ 6 (.int .i64 (3 + n))
    have hBel : Below W.heap.size W (w12.setCell ⟨w1.heap.size, 6, none⟩ (.int .i64 (3 + n))) := bel12.setCell (p := ⟨w1.heap.size, 6, none⟩) hW1 _
    generalize w12.setCell ⟨w1.heap.size, 6, none⟩ (.int .i64 (3 + n)) = wS at hNew hBel ⊢
    clear hC12 bel12 cC lC fC
    have cC := hNew.cell
    have lC := hNew.lt
    refine (Left_at (s := s) (z := z) (r := r) (wk := wk) (k := k) (v := v) (p := 3 + n) (cost := 0) (a := 0) (q := 2) (lVal_no (fun h => hb0 h.1)).1 (lVal_no (fun h => hb0 h.1)).2 _).mono ?_
    rintro e w13 ⟨rfl, hb13⟩
    have hY13 : Below wS.heap.size wS w13 := b_then (by repeat first | exact Below.refl _ _ | apply Below.drew | apply b_alloc) hb13
    have hC13 := hNew.below hY13 hNew.lt
    have bel13 := b_then hBel hY13
    clear hNew hBel hb13 cC lC hY13
    have cC := hC13.cell
    have lC := hC13.lt
    go_wp2_with fail
    refine (Check_at (s := s) (z := z) (r := r) (wk := wk) (k := k) (v := v) (p := 3 + n) (key := ⟨#[75]⟩) (val := ⟨#[]⟩) (aChk_c hb0) _ (by decide) (by decide)).mono ?_
    rintro e w14 ⟨rfl, hb14⟩
    have hY14 : Below w13.heap.size w13 w14 := b_then (by repeat first | exact Below.refl _ _ | apply Below.drew | apply b_alloc) hb14
    have hC14 := hC13.below hY14 hC13.lt
    have bel14 := b_then bel13 hY14
    clear hC13 bel13 hb14 cC lC hY14
    have cC := hC14.cell
    have lC := hC14.lt
    go_wp2_with fail
    refine (Check_at (s := s) (z := z) (r := r) (wk := wk) (k := k) (v := v) (p := 3 + n) (key := ⟨#[107]⟩) (val := ⟨#[]⟩) (aChk_c hb0) _ (by decide) (by decide)).mono ?_
    rintro e w15 ⟨rfl, hb15⟩
    have hY15 : Below w14.heap.size w14 w15 := b_then (by repeat first | exact Below.refl _ _ | apply Below.drew | apply b_alloc) hb15
    have hC15 := hC14.below hY15 hC14.lt
    have bel15 := b_then bel14 hY15
    clear hC14 bel14 hb15 cC lC hY15
    have cC := hC15.cell
    have lC := hC15.lt
    go_wp2_with fail
    refine (Put_at (s := s) (z := z) (r := r) (wk := wk) (k := k) (v := v) (p := 3 + n) (cost := 0) (old := 0) (key := ⟨#[107]⟩) (val := ⟨#[]⟩) (aPut_e (aChk_c hb0) (by decide)) _ (by decide) (by decide)).mono ?_
    rintro e w16 ⟨rfl, hb16⟩
    have hY16 : Below w15.heap.size w15 w16 := b_then (by repeat first | exact Below.refl _ _ | apply Below.drew | apply b_alloc) hb16
    have hC16 := hC15.below hY16 hC15.lt
    have bel16 := b_then bel15 hY16
    clear hC15 bel15 hb16 cC lC hY16
    have cC := hC16.cell
    have lC := hC16.lt
    go_wp2_with fail
    refine (works_true _).mono ?_
    rintro e w17 ⟨rfl, hb17⟩
    have hY17 : Below w16.heap.size w16 w17 := b_then (by repeat first | exact Below.refl _ _ | apply Below.drew | apply b_alloc) hb17
    have hC17 := hC16.below hY17 hC16.lt
    have bel17 := b_then bel16 hY17
    clear hC16 bel16 hb17 cC lC hY17
    have cC := hC17.cell
    have lC := hC17.lt
    go_wp2_with fail
    go_ret
    exact ⟨rfl, bel17⟩

set_option maxRecDepth 100000 in
theorem lifted (os : Os) (started : os.Started) (H : Type) (enc : TypeId × Value → H) :
    ReturnsInHanded {} Try.checked os 8 .any (Rows.admissionRefusesSpec.pre6 enc Try.prog Try.f8 Rows.admissionRefusesRow.domain false) (Rows.admissionRefusesSpec.post enc Try.prog Try.f8 false true false false) := by
  refine returnsInHanded_of_change (C := Try.checked) own started (by kernel_rfl) Try.func8
    (ChangeSpec.witness6 (enc := enc) (C := Try.checked) false ⟨#[], #[.agg #[.int .u8 0, .int .u8 0, .int .u8 0, .int .u16 0, .int .u16 0], .int .u16 0, .int .u8 0], []⟩ 8 (by kernel_rfl) (by kernel_rfl) (by kernel_rfl) (by kernel_rfl)) ?_
  intro W base args ds gs before hval0 hW hcnd _
  have hval : ∀ (j : Nat) t v, Try.f8.params[j]? = some t → args[j]? = some v → Value.okWide Try.prog W .any base t v := hval0
  have hW' := hW
  obtain ⟨p, q, hA0, hV, rfl, hfz, hnd⟩ := hW
  have hA : DataW.TrodAll enc Try.prog W 0 (fun _ => true) true Try.f8.params.toList args.toList ds p := hA0
  rw [Try.params8] at hA hval
  obtain ⟨v0, vs0, d0, ds0, p0, q0, hargs, rfl, rfl, h0, r0⟩ := trodAll_cons hA
  obtain ⟨v1, vs1, d1, ds1, p1, q1, rfl, rfl, rfl, h1, r1⟩ := trodAll_cons r0
  obtain ⟨v2, vs2, d2, ds2, p2, q2, rfl, rfl, rfl, h2, r2⟩ := trodAll_cons r1
  obtain ⟨rfl, rfl, rfl⟩ := trodAll_nil r2
  obtain rfl : args = #[v0, v1, v2] := by cases args; simp_all
  obtain ⟨rfl, rfl⟩ := trodVars_none hV
  refine (walk (H := H) (enc := enc) W base (hval 0 34 v0 rfl rfl) h0 (hval 1 32 v1 rfl rfl) h1 (hval 2 5 v2 rfl rfl) h2).mono fun e W' ⟨he, bel⟩ => ?_
  subst he
  exact ⟨_, rfl, _, _, _, [], _, [], hW', trodAll_mk1 (shut_bool Try.underlying4 _), (trodAll_cons_mk (Below.trod laidOut (by kernel_rfl) (of_decide_eq_true (by kernel_rfl)) h0 bel (lt_of_Trod h0)) (trodAll_cons_mk (Below.trod laidOut (by kernel_rfl) (of_decide_eq_true (by kernel_rfl)) h1 bel (lt_of_Trod h1)) (trodAll_cons_mk (Below.trod laidOut (by kernel_rfl) (of_decide_eq_true (by kernel_rfl)) h2 bel (lt_of_Trod h2)) trodAll_mk0))), rfl, bel.frame _, fun h => by cases h⟩

/-- AdmissionRefuses: for every configuration by numbers and two numbers the law returns true and changes nothing. No condition. -/
theorem proved : Rows.AdmissionRefusesSaid :=
  OpenClaim.holds_of_wide 8 Try.f8 rfl rfl rfl rfl rfl rfl rfl ⟨rfl, rfl, rfl, rfl, rfl⟩ rfl rfl rfl rfl rfl (by kernel_rfl) Try.func8 (by kernel_rfl)
    (of_decide_eq_true (by kernel_rfl)) (by unfold Func.isWrapper; first | (rw [if_pos (by decide +kernel)]; kernel_rfl) | (rw [if_neg (by decide +kernel)]; exact ⟨rfl, rfl⟩))
    (fun os started H enc _ => lifted os started H enc)
#print axioms proved
end Go.Proofs.Ytkicciinneffcaa.admissionRefuses
