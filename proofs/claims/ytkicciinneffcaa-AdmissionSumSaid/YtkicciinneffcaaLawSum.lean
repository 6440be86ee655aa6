/-
  AdmissionSum: for every configuration by numbers and list of pairs of numbers the law returns true and changes nothing. No condition.
-/
import Derived.Test.YtkicciinneffcaaOpen
import Derived.Test.YtkicciinneffcaaPrs
namespace Go.Proofs.Ytkicciinneffcaa.admissionSum
open Go.ChangeShapes Go.WideShapes Go.ChangeAt Go.RowKit
open Go.ChangeMaps (open_string shut_string)
set_option linter.unusedVariables false
def KSM (W : World) (b off q g : Nat) (x y s z r wk k v p : Int) (w' : World) : Prop := Below W.heap.size W w' ∧ Blk w' g 23 #[.int .i64 s, .int .i64 z, .int .i64 r, .int .i64 wk, .int .i64 k, .int .i64 v, .int .i64 p] ∧ w'.cell? ⟨b, off + q * 2, none⟩ = some (.int .u16 x) ∧ w'.cell? ⟨b, off + q * 2 + 1, none⟩ = some (.int .u16 y) ∧ b < W.heap.size
abbrev SM (W : World) (b off q g : Nat) (x y s z r wk k v p : Int) (w' : World) : Prop := w'.cell? ⟨b, off + q * 2, none⟩ = some (.int .u16 x) ∧ w'.cell? ⟨b, off + q * 2 + 1, none⟩ = some (.int .u16 y) ∧ w'.cell? ⟨g, 0, none⟩ = some (.int .i64 s) ∧ w'.cell? ⟨g, 1, none⟩ = some (.int .i64 z) ∧ w'.cell? ⟨g, 2, none⟩ = some (.int .i64 r) ∧ w'.cell? ⟨g, 3, none⟩ = some (.int .i64 wk) ∧ w'.cell? ⟨g, 4, none⟩ = some (.int .i64 k) ∧ w'.cell? ⟨g, 5, none⟩ = some (.int .i64 v) ∧ w'.cell? ⟨g, 6, none⟩ = some (.int .i64 p) ∧ KSM W b off q g x y s z r wk k v p w'
theorem SM.mk {W : World} {b off q g : Nat} {x y s z r wk k v p : Int} {w' : World} (h : KSM W b off q g x y s z r wk k v p w') : SM W b off q g x y s z r wk k v p w' := by
  obtain ⟨hB, h0, hx, hy, hl⟩ := h
  exact ⟨hx, hy, h0.cell 0, h0.cell 1, h0.cell 2, h0.cell 3, h0.cell 4, h0.cell 5, h0.cell 6, ⟨hB, h0, hx, hy, hl⟩⟩
theorem SM.bel {W : World} {b off q g : Nat} {x y s z r wk k v p : Int} {w' : World} (h : SM W b off q g x y s z r wk k v p w') : Below W.heap.size W w' := h.2.2.2.2.2.2.2.2.2.1
theorem SM.after {W : World} {b off q g : Nat} {x y s z r wk k v p : Int} {w w' : World} (h : SM W b off q g x y s z r wk k v p w) (hb : Below w.heap.size w w') : SM W b off q g x y s z r wk k v p w' := by
  have hk := h.2.2.2.2.2.2.2.2.2
  obtain ⟨hB, h0, hx, hy, hl⟩ := hk
  have hl' := Nat.lt_of_lt_of_le hl hB.size
  exact SM.mk ⟨b_then hB hb, h0.below hb h0.lt, (hb.cell (p := ⟨b, off + q * 2, none⟩) hl').trans hx, (hb.cell (p := ⟨b, off + q * 2 + 1, none⟩) hl').trans hy, hl⟩
theorem SM.cy {W : World} {b off q g : Nat} {x y s z r wk k v p : Int} {w' : World} (h : SM W b off q g x y s z r wk k v p w') : w'.cell? ⟨b, off + q * 2 + 1, none⟩ = some (.int .u16 y) := h.2.1
theorem SM.cfg {W : World} {b off q g : Nat} {x y s z r wk k v p : Int} {w' : World} (h : SM W b off q g x y s z r wk k v p w') : Blk w' g 23 #[.int .i64 s, .int .i64 z, .int .i64 r, .int .i64 wk, .int .i64 k, .int .i64 v, .int .i64 p] := h.2.2.2.2.2.2.2.2.2.2.1

set_option maxHeartbeats 6400000 in
set_option maxRecDepth 100000 in
theorem walk {H : Type} {enc : TypeId × Value → H} (W : World) (base : Nat) {v0 v1 : Value} {d0 d1 : DataW H} {p0 p1 : List MemPlace} (o0 : Value.okWide Try.prog W .any base 34 v0) (h0 : DataW.Trod enc Try.prog W 0 (fun _ => true) true 34 v0 d0 p0) (o1 : Value.okWide Try.prog W .any base 35 v1) (h1 : DataW.Trod enc Try.prog W 0 (fun _ => true) true 35 v1 d1 p1) :
    Calls Try.prog 5 #[v0, v1] W fun e W' => e = .returned (.bool true) ∧ Below W.heap.size W W' := by
  obtain ⟨re, mo, ke, va, si, rfl, r0, m0, m1, k0, v0, s0, s1⟩ := open_beg o0 h0
  clear o0 h0
  obtain ⟨a, n, cap, X, Y, rfl, hl⟩ := open_pairs o1 h1
  clear o1 h1
  obtain ⟨hnc, hcm, hbd, hcell⟩ := hl
  have hn' : (n : Int) ≤ 9223372036854775807 := by unfold maxLen at hcm; omega
  by_cases hlong : 100 < n
  · clear hcell hbd
    go_enter Try.func5, Try.ntmps5
    go_wp2_with fail
    refine (works_true _).mono ?_
    rintro e w1 ⟨rfl, hb1⟩
    have hY1 : Below W.heap.size W w1 := b_then (by repeat first | exact Below.refl _ _ | apply Below.drew | apply b_alloc) hb1
    have bel1 := hY1
    clear hb1
    go_wp2_with fail
    go_ret
    exact ⟨rfl, bel1⟩
  have HBD := Lib.hid hbd
  have HCE := Lib.hid hcell
  clear hbd hcell
  go_enter Try.func5, Try.ntmps5
  go_wp2_with fail
  refine (Config_any re mo ke va si _ r0 m0 m1 k0 v0 s0 s1).mono ?_
  rintro e w1 ⟨⟨s, z, r, wk, k, v, p, rfl, hc⟩, hb1⟩
  have hY1 : Below W.heap.size W w1 := b_then (by repeat first | exact Below.refl _ _ | apply Below.drew | apply b_alloc) hb1
  have bel1 := hY1
  clear hb1
  have hk1 : 1 ≤ k := by unfold CfgOk at hc; omega
  have hv0 : 0 ≤ v := by unfold CfgOk at hc; omega
  have hk32 : k ≤ 32 := by unfold CfgOk at hc; omega
  have hv512 : v ≤ 512 := by unfold CfgOk at hc; omega
  obtain ⟨L0, L1⟩ := climit_bds hc
  have hgc : W.heap.size ≤ w1.heap.size := bel1.size
  go_wp2_with fail
  refine (Limit_yes s z r wk k v p _ hc).mono ?_
  rintro e w2 ⟨rfl, hb2⟩
  have hY2 : Below w1.heap.size w1 w2 := b_then (by repeat first | exact Below.refl _ _ | apply Below.drew | apply b_alloc) hb2
  have hC2 : Blk w2 (w1.heap.size) 23 #[.int .i64 s, .int .i64 z, .int .i64 r, .int .i64 wk, .int .i64 k, .int .i64 v, .int .i64 p] := (hb2.block _ (by simp <;> omega)).trans (by repeat (first | ((with_reducible refine alloc_here' ?_); (simp; done)) | (with_reducible apply alloc_old') | (with_reducible apply drew_old)))
  have bel2 := b_then bel1 hY2
  clear bel1 hb2 hY2
  have cC := hC2.cell
  have lC := hC2.lt
  go_wp2_with fail
  go_loopw [8, 9] (fun c i wr => ∃ (q : Nat) (co : Int), q ≤ n ∧ i = .int .i64 q ∧ c = .int .i64 co ∧ 0 ≤ co ∧ co ≤ climit s z r ∧ Blk wr w1.heap.size 23 #[.int .i64 s, .int .i64 z, .int .i64 r, .int .i64 wk, .int .i64 k, .int .i64 v, .int .i64 p] ∧ Below W.heap.size W wr) (fun _ i _ => n - (intOf i).toNat)
  case atStart => exact ⟨0, 0, by omega, rfl, rfl, by omega, L0, hC2, bel2⟩
  case round =>
    obtain ⟨q, co, hq, rfl, rfl, hc0, hc1, hC0, hB0⟩ := hrel
    clear hC2 bel2 cC lC
    by_cases hqn : q < n
    · obtain ⟨b, off, rfl, hbl, hcs⟩ := HCE.out (by omega)
      obtain ⟨hx, hy⟩ := hcs q hqn
      obtain ⟨x0, x1, y0, y1⟩ := HBD.out q hqn
      have hxw := (hB0.cell (p := ⟨b, off + q * 2, none⟩) hbl).trans hx
      have hyw := (hB0.cell (p := ⟨b, off + q * 2 + 1, none⟩) hbl).trans hy
      generalize X q = x at hxw x0 x1 hx
      generalize Y q = y at hyw y0 y1 hy
      clear hcs hx hy
      have i0 : (0 : Int) ≤ (q : Int) := by omega
      have i1 : (q : Int) < (n : Int) := by omega
      have hS1 : SM W b off q w1.heap.size x y s z r wk k v p wr.drew := SM.mk ⟨Below.drew hB0, hC0.drew, hxw, hyw, hbl⟩
      go_wp2
      have hu8 : IntKind.u8.wrap x = x % 256 := IntKind.wrap_u8 x
      go_region_held3 (fun w' => w'.cell? ⟨b, off + q * 2, none⟩ = some (.int .u16 x) ∧ w'.cell? ⟨b, off + q * 2 + 1, none⟩ = some (.int .u16 y) ∧ w'.cell? ⟨w1.heap.size, 0, none⟩ = some (.int .i64 s) ∧ w'.cell? ⟨w1.heap.size, 1, none⟩ = some (.int .i64 z) ∧ w'.cell? ⟨w1.heap.size, 2, none⟩ = some (.int .i64 r) ∧ w'.cell? ⟨w1.heap.size, 3, none⟩ = some (.int .i64 wk) ∧ w'.cell? ⟨w1.heap.size, 4, none⟩ = some (.int .i64 k) ∧ w'.cell? ⟨w1.heap.size, 5, none⟩ = some (.int .i64 v) ∧ w'.cell? ⟨w1.heap.size, 6, none⟩ = some (.int .i64 p) ∧ KSM W b off q w1.heap.size x y s z r wk k v p w') (first | assumption) (first | (go_at_call 21; refine (keyed_any (x % 256) k _ (by omega) (by omega) hk1 hk32).mono ?_; rintro e w' ⟨⟨ks, rfl, hks, hks1, hks2⟩, hbk⟩; have hSk := SM.after (by assumption) hbk))
      clear hu8 hS1 hxw
      obtain ⟨m, hm⟩ : ∃ m : Nat, y % (v + 1) = m := ⟨(y % (v + 1)).toNat, by have := Int.emod_nonneg y (show v + 1 ≠ 0 by omega); omega⟩
      have hmv : (m : Int) ≤ v := by have := Int.emod_lt_of_pos y (show 0 < v + 1 by omega); omega
      have tm : y.tmod (v + 1) = m := by rw [Int.tmod_eq_emod_of_nonneg y0, hm]
      have u1 : IntKind.i64.wrap (v + 1) = v + 1 := iw64 (by omega) (by omega)
      have u2 : (v + 1 == 0) = false := by rw [beq_eq_false_iff_ne]; omega
      have u3 : ¬ v + 1 = 0 := by omega
      have u4 : IntKind.i64.wrap y = y := iw64 (by omega) (by omega)
      have u5 : IntKind.i64.wrap (m : Int) = m := iw64 (by omega) (by omega)
      have hmk := fun w => make_any m (by omega) w
      have hcv : ∀ w : World, (convert 40 9 (.slice (some ⟨w.heap.size, 0, none⟩) m m)).run Try.prog (w.alloc (.cells (zeros m) 5)).drew = .ok (.string (strOfNums (List.replicate m 0))) (w.alloc (.cells (zeros m) 5)).drew := fun w => str_zeros w.drew m m
      have hzz := size_zeros m
      generalize strOfNums (List.replicate m 0) = zz at hcv hzz
      have HZ := Lib.hid hzz
      have hcy := SM.cy hSk
      have hCw : Blk w' w1.heap.size 23 #[.int .i64 s, .int .i64 z, .int .i64 r, .int .i64 wk, .int .i64 k, .int .i64 v, .int .i64 p] := (SM.cfg hSk)
      have hBw := SM.bel hSk
      have cC := hCw.cell
      have lC := hCw.lt
      clear hSk
      clear hm hzz
      go_wp2_with fail
      go_region
      clear hmk hcv tm u1 u2 u3 u4 u5 hcy
      have hzs : (zz.size : Int) ≤ v := by rw [HZ.out]; exact hmv
      have hzm : zz.size ≤ maxLen := by unfold maxLen; omega
      have hkm : ks.size ≤ maxLen := by unfold maxLen; omega
      go_wp2_with fail
      refine (cost_any ks zz _ (by omega) (by omega)).mono ?_
      rintro e w2 ⟨rfl, rfl⟩
      have hA : aChk s z r wk k v p ks zz = 0 := aChk_of hc (fErr_of hk1 hk32 (kErr_of hks hks1 (by omega)) hks2) hzs
      have HA := Lib.hid hA
      have HK := Lib.hid (kErr_of hks hks1 (by omega))
      clear hA
      by_cases hfit : co + (16 + ks.size + zz.size) ≤ climit s z r
      · have hd : decide (co + (16 + (ks.size : Int) + (zz.size : Int)) ≤ climit s z r) = true := decide_eq_true (by omega)
        go_wp2_with fail
        refine (Put_at (cost := co) (old := 0) (key := ks) (val := zz) (q := 0) (aPut_y HA.out ⟨hc0, hc1, by omega, hc0⟩ (by omega)) _ hkm hzm).mono ?_
        rintro e w3 ⟨rfl, hb3⟩
        have hY3 : Below w'.heap.size w' w3 := b_then (by repeat first | exact Below.refl _ _ | apply Below.drew | apply b_alloc) hb3
        have hC3 := hCw.below hY3 hCw.lt
        have bel3 := b_then hBw hY3
        clear hCw hBw hb3 cC lC hY3
        have cC := hC3.cell
        have lC := hC3.lt
        go_wp2_with fail
        refine (After_at (cost := co) (old := 0) (key := ks) (val := zz) (a := co + (16 + ks.size + zz.size)) (q := 0) (by rw [aVal_of (aErr_of ⟨hc0, by omega, by omega, hc0⟩ HK.out (by omega))]; omega) (aErr_of ⟨hc0, by omega, by omega, hc0⟩ HK.out (by omega)) _ hkm hzm).mono ?_
        rintro e w4 ⟨rfl, hb4⟩
        have hY4 : Below w3.heap.size w3 w4 := b_then (by repeat first | exact Below.refl _ _ | apply Below.drew | apply b_alloc) hb4
        have hC4 := hC3.below hY4 hC3.lt
        have bel4 := b_then bel3 hY4
        clear hC3 bel3 hb4 cC lC hY4
        have cC := hC4.cell
        have lC := hC4.lt
        go_wp2_with fail
        refine (Left_at (a := climit s z r - co) (q := 0) (lVal_of hc hc0 hc1).1 (lVal_of hc hc0 hc1).2 _).mono ?_
        rintro e w5 ⟨rfl, hb5⟩
        have hY5 : Below w4.heap.size w4 w5 := b_then (by repeat first | exact Below.refl _ _ | apply Below.drew | apply b_alloc) hb5
        have hC5 := hC4.below hY5 hC4.lt
        have bel5 := b_then bel4 hY5
        clear hC4 bel4 hb5 cC lC hY5
        have cC := hC5.cell
        have lC := hC5.lt
        go_wp2_with fail
        go_roundw
        case rel => exact ⟨q + 1, co + (16 + ks.size + zz.size), by omega, by go_num, rfl, by omega, by omega, hC5, bel5⟩
        case measure => simp [intOf]; omega
      · have hd : decide (co + (16 + (ks.size : Int) + (zz.size : Int)) ≤ climit s z r) = false := decide_eq_false (by omega)
        go_wp2_with fail
        refine (Put_at (cost := co) (old := 0) (key := ks) (val := zz) (q := 4) (aPut_f HA.out ⟨hc0, hc1, by omega, hc0⟩ (by omega)) _ hkm hzm).mono ?_
        rintro e w3 ⟨rfl, hb3⟩
        have hY3 : Below w'.heap.size w' w3 := b_then (by repeat first | exact Below.refl _ _ | apply Below.drew | apply b_alloc) hb3
        have hC3 := hCw.below hY3 hCw.lt
        have bel3 := b_then hBw hY3
        clear hCw hBw hb3 cC lC hY3
        have cC := hC3.cell
        have lC := hC3.lt
        go_wp2_with fail
        refine (After_at (cost := co) (old := 0) (key := ks) (val := zz) (a := co + (16 + ks.size + zz.size)) (q := 0) (by rw [aVal_of (aErr_of ⟨hc0, by omega, by omega, hc0⟩ HK.out (by omega))]; omega) (aErr_of ⟨hc0, by omega, by omega, hc0⟩ HK.out (by omega)) _ hkm hzm).mono ?_
        rintro e w4 ⟨rfl, hb4⟩
        have hY4 : Below w3.heap.size w3 w4 := b_then (by repeat first | exact Below.refl _ _ | apply Below.drew | apply b_alloc) hb4
        have hC4 := hC3.below hY4 hC3.lt
        have bel4 := b_then bel3 hY4
        clear hC3 bel3 hb4 cC lC hY4
        have cC := hC4.cell
        have lC := hC4.lt
        go_wp2_with fail
        refine (Left_at (a := climit s z r - co) (q := 0) (lVal_of hc hc0 hc1).1 (lVal_of hc hc0 hc1).2 _).mono ?_
        rintro e w5 ⟨rfl, hb5⟩
        have hY5 : Below w4.heap.size w4 w5 := b_then (by repeat first | exact Below.refl _ _ | apply Below.drew | apply b_alloc) hb5
        have hC5 := hC4.below hY5 hC4.lt
        have bel5 := b_then bel4 hY5
        clear hC4 bel4 hb5 cC lC hY5
        have cC := hC5.cell
        have lC := hC5.lt
        go_wp2_with fail
        go_roundw
        case rel => exact ⟨q + 1, co, by omega, by go_num, rfl, by omega, by omega, hC5, bel5⟩
        case measure => simp [intOf]; omega
    · have hge : ¬ (q : Int) < (n : Int) := by omega
      go_wp2_with fail
      refine (works_true _).mono ?_
      rintro e w1 ⟨rfl, hb1⟩
      have hY1 : Below wr.heap.size wr w1 := b_then (by repeat first | exact Below.refl _ _ | apply Below.drew | apply b_alloc) hb1
      have bel1 := b_then hB0 hY1
      clear hB0 hb1 hY1
      go_wp2_with fail
      go_ret
      exact ⟨rfl, bel1⟩

set_option maxRecDepth 100000 in
theorem lifted (os : Os) (started : os.Started) (H : Type) (enc : TypeId × Value → H) :
    ReturnsInHanded {} Try.checked os 5 .any (Rows.admissionSumSpec.pre6 enc Try.prog Try.f5 Rows.admissionSumRow.domain false) (Rows.admissionSumSpec.post enc Try.prog Try.f5 false true false false) := by
  refine returnsInHanded_of_change (C := Try.checked) own started (by kernel_rfl) Try.func5
    (ChangeSpec.witness6 (enc := enc) (C := Try.checked) false ⟨#[], #[.agg #[.int .u8 0, .int .u8 0, .int .u8 0, .int .u16 0, .int .u16 0], .slice none 0 0], []⟩ 8 (by kernel_rfl) (by kernel_rfl) (by kernel_rfl) (by kernel_rfl)) ?_
  intro W base args ds gs before hval0 hW hcnd _
  have hval : ∀ (j : Nat) t v, Try.f5.params[j]? = some t → args[j]? = some v → Value.okWide Try.prog W .any base t v := hval0
  have hW' := hW
  obtain ⟨p, q, hA0, hV, rfl, hfz, hnd⟩ := hW
  have hA : DataW.TrodAll enc Try.prog W 0 (fun _ => true) true Try.f5.params.toList args.toList ds p := hA0
  rw [Try.params5] at hA hval
  obtain ⟨v0, vs0, d0, ds0, p0, q0, hargs, rfl, rfl, h0, r0⟩ := trodAll_cons hA
  obtain ⟨v1, vs1, d1, ds1, p1, q1, rfl, rfl, rfl, h1, r1⟩ := trodAll_cons r0
  obtain ⟨rfl, rfl, rfl⟩ := trodAll_nil r1
  obtain rfl : args = #[v0, v1] := by cases args; simp_all
  obtain ⟨rfl, rfl⟩ := trodVars_none hV
  refine (walk (H := H) (enc := enc) W base (hval 0 34 v0 rfl rfl) h0 (hval 1 35 v1 rfl rfl) h1).mono fun e W' ⟨he, bel⟩ => ?_
  subst he
  exact ⟨_, rfl, _, _, _, [], _, [], hW', trodAll_mk1 (shut_bool Try.underlying4 _), (trodAll_cons_mk (Below.trod laidOut (by kernel_rfl) (of_decide_eq_true (by kernel_rfl)) h0 bel (lt_of_Trod h0)) (trodAll_cons_mk (Below.trod laidOut (by kernel_rfl) (of_decide_eq_true (by kernel_rfl)) h1 bel (lt_of_Trod h1)) trodAll_mk0)), rfl, bel.frame _, fun h => by cases h⟩

/-- AdmissionSum: for every configuration by numbers and list of pairs of numbers the law returns true and changes nothing. No condition. -/
theorem proved : Rows.AdmissionSumSaid :=
  OpenClaim.holds_of_wide 5 Try.f5 rfl rfl rfl rfl rfl rfl rfl ⟨rfl, rfl, rfl, rfl, rfl⟩ rfl rfl rfl rfl rfl (by kernel_rfl) Try.func5 (by kernel_rfl)
    (of_decide_eq_true (by kernel_rfl)) (by unfold Func.isWrapper; first | (rw [if_pos (by decide +kernel)]; kernel_rfl) | (rw [if_neg (by decide +kernel)]; exact ⟨rfl, rfl⟩))
    (fun os started H enc _ => lifted os started H enc)
#print axioms proved
end Go.Proofs.Ytkicciinneffcaa.admissionSum
