/-
  HeaderRefuses: for every seven numbers the law returns true and changes nothing. No condition.
-/
import Derived.Test.YtagcaepkbilpbaaOpen
import Derived.Test.YtagcaepkbilpbaaWks
import Derived.Test.YtagcaepkbilpbaaArg
import Derived.Test.YtagcaepkbilpbaaMd
import Derived.Test.YtagcaepkbilpbaaUp
namespace Go.Proofs.Ytagcaepkbilpbaa.headerRefuses
open Go.ChangeShapes Go.WideShapes Go.ChangeAt Go.RowKit
open Go.ChangeMaps (open_string shut_string)
set_option linter.unusedVariables false

theorem raw_bd (a b c d : Int) (ha : 0 ≤ a ∧ a ≤ 255) (hb : 0 ≤ b ∧ b ≤ 255) (hc : 0 ≤ c ∧ c ≤ 255) (hd : 0 ≤ d ∧ d ≤ 255) :
    ∀ i, i < ([0, 0, 0, 0, a, b, c, d, 1, 0, 0, 0, 0, 0, 0, 0] : List Int).length → 0 ≤ ([0, 0, 0, 0, a, b, c, d, 1, 0, 0, 0, 0, 0, 0, 0] : List Int).getD i 0 ∧ ([0, 0, 0, 0, a, b, c, d, 1, 0, 0, 0, 0, 0, 0, 0] : List Int).getD i 0 ≤ 255 := by
  intro i hi
  have hi' : i < 16 := hi
  have : i = 0 ∨ i = 1 ∨ i = 2 ∨ i = 3 ∨ i = 4 ∨ i = 5 ∨ i = 6 ∨ i = 7 ∨ i = 8 ∨ i = 9 ∨ i = 10 ∨ i = 11 ∨ i = 12 ∨ i = 13 ∨ i = 14 ∨ i = 15 := by omega
  rcases this with rfl | rfl | rfl | rfl | rfl | rfl | rfl | rfl | rfl | rfl | rfl | rfl | rfl | rfl | rfl | rfl <;> simp <;> omega
theorem wrap_u8' (n : Int) : IntKind.u8.wrap n = n % 256 := IntKind.wrap_u8 n

set_option maxHeartbeats 25600000 in
set_option maxRecDepth 100000 in
theorem walk {H : Type} {enc : TypeId × Value → H} (W : World) (base : Nat) {v0 v1 v2 v3 v4 v5 v6 : Value} {d0 d1 d2 d3 d4 d5 d6 : DataW H} {p0 p1 p2 p3 p4 p5 p6 : List MemPlace} (o0 : Value.okWide Try.prog W .any base 22 v0) (h0 : DataW.Trod enc Try.prog W 0 (fun _ => true) true 22 v0 d0 p0) (o1 : Value.okWide Try.prog W .any base 5 v1) (h1 : DataW.Trod enc Try.prog W 0 (fun _ => true) true 5 v1 d1 p1) (o2 : Value.okWide Try.prog W .any base 5 v2) (h2 : DataW.Trod enc Try.prog W 0 (fun _ => true) true 5 v2 d2 p2) (o3 : Value.okWide Try.prog W .any base 44 v3) (h3 : DataW.Trod enc Try.prog W 0 (fun _ => true) true 44 v3 d3 p3) (o4 : Value.okWide Try.prog W .any base 45 v4) (h4 : DataW.Trod enc Try.prog W 0 (fun _ => true) true 45 v4 d4 p4) (o5 : Value.okWide Try.prog W .any base 5 v5) (h5 : DataW.Trod enc Try.prog W 0 (fun _ => true) true 5 v5 d5 p5) (o6 : Value.okWide Try.prog W .any base 44 v6) (h6 : DataW.Trod enc Try.prog W 0 (fun _ => true) true 44 v6 d6 p6) :
    Calls Try.prog 8 #[v0, v1, v2, v3, v4, v5, v6] W fun e W' => e = .returned (.bool true) ∧ Below W.heap.size W W' := by
  obtain ⟨sum, rfl, rfl, rfl, ws⟩ := open_int Try.underlying22 o0 h0
  obtain ⟨kind, rfl, rfl, rfl, wk⟩ := open_int Try.underlying5 o1 h1
  obtain ⟨key, rfl, rfl, rfl, wy⟩ := open_int Try.underlying5 o2 h2
  obtain ⟨val, rfl, rfl, rfl, wv⟩ := open_int Try.underlying44 o3 h3
  obtain ⟨seq, rfl, rfl, rfl, wq⟩ := open_int Try.underlying45 o4 h4
  have bs := bounds_u32 ws
  have bk := bounds_u8 wk
  have by_ := bounds_u8 wy
  have bv := bounds_u16 wv
  have bq := bounds_u64 wq
  clear ws wk wy wv wq h0 o0 h1 o1 h2 o2 h3 o3 h4 o4
  obtain ⟨what, rfl, rfl, rfl, ww⟩ := open_int Try.underlying5 o5 h5
  obtain ⟨m, rfl, rfl, rfl, wm⟩ := open_int Try.underlying44 o6 h6
  obtain ⟨t0, t1⟩ := bounds_u8 ww
  obtain ⟨m0, m1⟩ := bounds_u16 wm
  clear ww wm o5 h5 o6 h6
  have hmk : ∀ w : World, (Instr.makeSlice 26 (.int .i64 16) (.int .i64 16)).run Try.prog w = .ok (.slice (some ⟨w.heap.size, 0, none⟩) 16 16) (w.alloc (.cells (zeros 16) 5)) := make_any 16 (by decide)
  go_enter Try.func8, Try.ntmps8
  go_wp2_with fail
  refine (Made_any sum kind key val seq _ (by omega) (by omega) (by omega) (by omega) (by omega) (by omega) (by omega) (by omega)).mono ?_
  rintro e w1 ⟨⟨K, Y, V, Q, rfl, hok⟩, hb1⟩
  have hY1 : Below W.heap.size W w1 := b_then (by repeat first | exact Below.refl _ _ | apply Below.drew | apply b_alloc) hb1
  have bel1 := hY1
  clear hb1
  have hk := hok_bounds hok
  have hW1 : W.heap.size ≤ w1.heap.size := bel1.size
  have hw8 : what.tmod 8 = what % 8 := Int.tmod_eq_emod_of_nonneg t0
  obtain ⟨j, hj⟩ : ∃ j, what % 8 = j := ⟨_, rfl⟩
  rw [hj] at hw8
  have hj8 : j = 0 ∨ j = 1 ∨ j = 2 ∨ j = 3 ∨ j = 4 ∨ j = 5 ∨ j = 6 ∨ j = 7 := by omega
  clear hj
  rcases hj8 with rfl | rfl | rfl | rfl | rfl | rfl | rfl | rfl
  · have hNew : Blk (w1.alloc (.cells #[.int .u32 sum, .int .i64 (4 + m), .int .i64 Y, .int .i64 V, .int .i64 Q] 24)) w1.heap.size 24 #[.int .u32 sum, .int .i64 (4 + m), .int .i64 Y, .int .i64 V, .int .i64 Q] := Blk.new w1 _ _
    have hBel : Below W.heap.size W (w1.alloc (.cells #[.int .u32 sum, .int .i64 (4 + m), .int .i64 Y, .int .i64 V, .int .i64 Q] 24)) := b_alloc bel1 _
    go_wp2_with fail
    generalize w1.alloc (.cells #[.int .u32 sum, .int .i64 (4 + m), .int .i64 Y, .int .i64 V, .int .i64 Q] 24) = wS at hNew hBel ⊢
    clear bel1
    obtain ⟨X, hX⟩ : ∃ X, X = 4 + m := ⟨_, rfl⟩
    rw [← hX] at hNew ⊢
    have hno : ¬HOk X Y V Q := by unfold HOk at hok ⊢; omega
    have hX1 := Lib.hid hX
    clear hX hok
    have cC := hNew.cell
    have lC := hNew.lt
    refine (enc_no sum X Y V Q _ hno).mono ?_
    rintro e w2 ⟨rfl, hb2⟩
    have hY2 : Below wS.heap.size wS w2 := b_then (by repeat first | exact Below.refl _ _ | apply Below.drew | apply b_alloc) hb2
    have hC2 := hNew.below hY2 hNew.lt
    have bel2 := b_then hBel hY2
    clear hNew hBel hb2 cC lC hY2
    have cC := hC2.cell
    have lC := hC2.lt
    go_wp2_with fail
    refine (size_no sum X Y V Q _ hno).mono ?_
    rintro e w3 ⟨rfl, hb3⟩
    have hY3 : Below w2.heap.size w2 w3 := b_then (by repeat first | exact Below.refl _ _ | apply Below.drew | apply b_alloc) hb3
    have hC3 := hC2.below hY3 hC2.lt
    have bel3 := b_then bel2 hY3
    clear hC2 bel2 hb3 cC lC hY3
    have cC := hC3.cell
    have lC := hC3.lt
    go_wp2_with fail
    refine (check_no sum X Y V Q _ hno).mono ?_
    rintro e w4 ⟨rfl, hb4⟩
    have hY4 : Below w3.heap.size w3 w4 := b_then (by repeat first | exact Below.refl _ _ | apply Below.drew | apply b_alloc) hb4
    have hC4 := hC3.below hY4 hC3.lt
    have bel4 := b_then bel3 hY4
    clear hC3 bel3 hb4 cC lC hY4
    have cC := hC4.cell
    have lC := hC4.lt
    have hw3s := bel4.size
    have hl3s := hC4.lt
    go_wp2_with fail
    have hR0 : Blk (w4.alloc (.cells (zeros 16) 5)) (w4.heap.size) 5 (zeros 16) := (by unfold Blk; repeat (first | ((with_reducible refine alloc_here' ?_); (simp; done)) | (with_reducible apply alloc_old') | (with_reducible apply drew_old)))
    have hYs : Below w4.heap.size w4 (w4.alloc (.cells (zeros 16) 5)) := (by repeat first | exact Below.refl _ _ | apply Below.drew | apply b_alloc)
    generalize w4.alloc (.cells (zeros 16) 5) = wM at hR0 hYs ⊢
    have hCs := hC4.below hYs hC4.lt
    have belwM := b_then bel4 hYs
    clear hC4 bel4 cC lC hYs
    clear hmk
    have hRx : Blk wM w4.heap.size 5 #[.int .u8 0, .int .u8 0, .int .u8 0, .int .u8 0, .int .u8 0, .int .u8 0, .int .u8 0, .int .u8 0, .int .u8 0, .int .u8 0, .int .u8 0, .int .u8 0, .int .u8 0, .int .u8 0, .int .u8 0, .int .u8 0] := hR0
    clear hR0
    have hWR : W.heap.size ≤ w4.heap.size := hw3s
    have hne : w1.heap.size ≠ w4.heap.size := Nat.ne_of_lt hl3s
    have cC := hCs.cell
    have cR := hRx.cell
    have fR := hRx.frozen
    have lC := hCs.lt
    have lR := hRx.lt
    have uK : IntKind.u8.wrap X = X % 256 := wrap_u8' _
    have uY : IntKind.u8.wrap Y = Y % 256 := wrap_u8' _
    have uV : IntKind.u8.wrap V = V % 256 := wrap_u8' _
    have uW : IntKind.u8.wrap (V / 256) = V / 256 % 256 := wrap_u8' _
    have z8 : IntKind.i64.wrap 8 = 8 := by decide
    have z9 : IntKind.u64.wrap 8 = 8 := by decide
    have z4 : IntKind.i64.wrap 4 = 4 := by decide
    have z5 : IntKind.i64.wrap 5 = 5 := by decide
    have z6 : IntKind.i64.wrap 6 = 6 := by decide
    have z7 : IntKind.i64.wrap 7 = 7 := by decide
    go_wp2_with fail
    go_region
    have hRw : Blk ((((((wM.setCell ⟨w4.heap.size, 4, none⟩ (.int .u8 (X % 256))).setCell ⟨w4.heap.size, 5, none⟩ (.int .u8 (Y % 256))).setCell ⟨w4.heap.size, 6, none⟩ (.int .u8 (V % 256))).setCell ⟨w4.heap.size, 7, none⟩ (.int .u8 (V / 256 % 256))).setCell ⟨w4.heap.size, 8, none⟩ (.int .u8 (1))).drew) w4.heap.size 5 (([0, 0, 0, 0, X % 256, Y % 256, V % 256, V / 256 % 256, 1, 0, 0, 0, 0, 0, 0, 0] : List Int).map (Value.int .u8)).toArray := by
      have h := (((((hRx.set_ 4 (.int .u8 (X % 256))).set_ 5 (.int .u8 (Y % 256))).set_ 6 (.int .u8 (V % 256))).set_ 7 (.int .u8 (V / 256 % 256))).set_ 8 (.int .u8 (1))).drew
      first | exact h | simpa using h
    have hCw : Blk ((((((wM.setCell ⟨w4.heap.size, 4, none⟩ (.int .u8 (X % 256))).setCell ⟨w4.heap.size, 5, none⟩ (.int .u8 (Y % 256))).setCell ⟨w4.heap.size, 6, none⟩ (.int .u8 (V % 256))).setCell ⟨w4.heap.size, 7, none⟩ (.int .u8 (V / 256 % 256))).setCell ⟨w4.heap.size, 8, none⟩ (.int .u8 (1))).drew) w1.heap.size 24 #[.int .u32 sum, .int .i64 X, .int .i64 Y, .int .i64 V, .int .i64 Q] := (((((hCs.far (p := ⟨w4.heap.size, 4, none⟩) hne (.int .u8 (X % 256))).far (p := ⟨w4.heap.size, 5, none⟩) hne (.int .u8 (Y % 256))).far (p := ⟨w4.heap.size, 6, none⟩) hne (.int .u8 (V % 256))).far (p := ⟨w4.heap.size, 7, none⟩) hne (.int .u8 (V / 256 % 256))).far (p := ⟨w4.heap.size, 8, none⟩) hne (.int .u8 (1))).drew
    have belE : Below W.heap.size W ((((((wM.setCell ⟨w4.heap.size, 4, none⟩ (.int .u8 (X % 256))).setCell ⟨w4.heap.size, 5, none⟩ (.int .u8 (Y % 256))).setCell ⟨w4.heap.size, 6, none⟩ (.int .u8 (V % 256))).setCell ⟨w4.heap.size, 7, none⟩ (.int .u8 (V / 256 % 256))).setCell ⟨w4.heap.size, 8, none⟩ (.int .u8 (1))).drew) := Below.drew (((((belwM.setCell (p := ⟨w4.heap.size, 4, none⟩) hWR (.int .u8 (X % 256))).setCell (p := ⟨w4.heap.size, 5, none⟩) hWR (.int .u8 (Y % 256))).setCell (p := ⟨w4.heap.size, 6, none⟩) hWR (.int .u8 (V % 256))).setCell (p := ⟨w4.heap.size, 7, none⟩) hWR (.int .u8 (V / 256 % 256))).setCell (p := ⟨w4.heap.size, 8, none⟩) hWR (.int .u8 (1)))
    generalize (((((wM.setCell ⟨w4.heap.size, 4, none⟩ (.int .u8 (X % 256))).setCell ⟨w4.heap.size, 5, none⟩ (.int .u8 (Y % 256))).setCell ⟨w4.heap.size, 6, none⟩ (.int .u8 (V % 256))).setCell ⟨w4.heap.size, 7, none⟩ (.int .u8 (V / 256 % 256))).setCell ⟨w4.heap.size, 8, none⟩ (.int .u8 (1))).drew = wE at hRw hCw belE ⊢
    clear hRx hCs belwM cC cR fR lC lR hw3s hl3s z8 z9 z4 z5 z6 z7
    have cC := hCw.cell
    by_cases hcc : 3 < X % 256
    · have hX2 := hX1.out
      have hby : Byts wE (some ⟨w4.heap.size, 0, none⟩) 16 16 (fun i => ([0, 0, 0, 0, X % 256, Y % 256, V % 256, V / 256 % 256, 1, 0, 0, 0, 0, 0, 0, 0] : List Int).getD i 0) := Byts.of_blk hRw (raw_bd _ _ _ _ (by omega) (by omega) (by omega) (by omega)) (show 16 ≤ maxLen by decide)
      have hnd : ¬DOk (fun i => ([0, 0, 0, 0, X % 256, Y % 256, V % 256, V / 256 % 256, 1, 0, 0, 0, 0, 0, 0, 0] : List Int).getD i 0) := by
        intro h
        have h' : HOk (X % 256) (Y % 256) (dV (fun i => ([0, 0, 0, 0, X % 256, Y % 256, V % 256, V / 256 % 256, 1, 0, 0, 0, 0, 0, 0, 0] : List Int).getD i 0)) (dQ (fun i => ([0, 0, 0, 0, X % 256, Y % 256, V % 256, V / 256 % 256, 1, 0, 0, 0, 0, 0, 0, 0] : List Int).getD i 0)) := h
        rcases h' with ⟨h1, _, h2, _⟩ | ⟨h1, _, h2, _⟩ | ⟨h1, h2, _⟩ <;> omega
      have hd : decide (3 < X % 256) = true := decide_eq_true hcc
      clear hX2 hcc
      go_wp2_with fail
      refine (dec_no (some ⟨w4.heap.size, 0, none⟩) 16 16 (fun i => ([0, 0, 0, 0, X % 256, Y % 256, V % 256, V / 256 % 256, 1, 0, 0, 0, 0, 0, 0, 0] : List Int).getD i 0) _ (by decide) hby hnd).mono ?_
      rintro e w11 ⟨rfl, hb11⟩
      have hY11 : Below wE.heap.size wE w11 := b_then (by repeat first | exact Below.refl _ _ | apply Below.drew | apply b_alloc) hb11
      have bel11 := b_then belE hY11
      clear belE hb11 hY11
      go_wp2_with fail
      refine (works_true _).mono ?_
      rintro e w12 ⟨rfl, hb12⟩
      have hY12 : Below w11.heap.size w11 w12 := b_then (by repeat first | exact Below.refl _ _ | apply Below.drew | apply b_alloc) hb12
      have bel12 := b_then bel11 hY12
      clear bel11 hb12 hY12
      go_wp2_with fail
      go_ret
      exact ⟨rfl, bel12⟩
    · have hd : decide (3 < X % 256) = false := decide_eq_false hcc
      clear hcc
      go_wp2_with fail
      refine (works_true _).mono ?_
      rintro e w11 ⟨rfl, hb11⟩
      have hY11 : Below wE.heap.size wE w11 := b_then (by repeat first | exact Below.refl _ _ | apply Below.drew | apply b_alloc) hb11
      have bel11 := b_then belE hY11
      clear belE hb11 hY11
      go_wp2_with fail
      go_ret
      exact ⟨rfl, bel11⟩
  · have hNew : Blk (w1.alloc (.cells #[.int .u32 sum, .int .i64 (-m), .int .i64 Y, .int .i64 V, .int .i64 Q] 24)) w1.heap.size 24 #[.int .u32 sum, .int .i64 (-m), .int .i64 Y, .int .i64 V, .int .i64 Q] := Blk.new w1 _ _
    have hBel : Below W.heap.size W (w1.alloc (.cells #[.int .u32 sum, .int .i64 (-m), .int .i64 Y, .int .i64 V, .int .i64 Q] 24)) := b_alloc bel1 _
    go_wp2_with fail
    generalize w1.alloc (.cells #[.int .u32 sum, .int .i64 (-m), .int .i64 Y, .int .i64 V, .int .i64 Q] 24) = wS at hNew hBel ⊢
    clear bel1
    obtain ⟨X, hX⟩ : ∃ X, X = -m := ⟨_, rfl⟩
    rw [← hX] at hNew ⊢
    have hno : ¬HOk X Y V Q := by unfold HOk at hok ⊢; omega
    have hX1 := Lib.hid hX
    clear hX hok
    have cC := hNew.cell
    have lC := hNew.lt
    refine (enc_no sum X Y V Q _ hno).mono ?_
    rintro e w2 ⟨rfl, hb2⟩
    have hY2 : Below wS.heap.size wS w2 := b_then (by repeat first | exact Below.refl _ _ | apply Below.drew | apply b_alloc) hb2
    have hC2 := hNew.below hY2 hNew.lt
    have bel2 := b_then hBel hY2
    clear hNew hBel hb2 cC lC hY2
    have cC := hC2.cell
    have lC := hC2.lt
    go_wp2_with fail
    refine (size_no sum X Y V Q _ hno).mono ?_
    rintro e w3 ⟨rfl, hb3⟩
    have hY3 : Below w2.heap.size w2 w3 := b_then (by repeat first | exact Below.refl _ _ | apply Below.drew | apply b_alloc) hb3
    have hC3 := hC2.below hY3 hC2.lt
    have bel3 := b_then bel2 hY3
    clear hC2 bel2 hb3 cC lC hY3
    have cC := hC3.cell
    have lC := hC3.lt
    go_wp2_with fail
    refine (check_no sum X Y V Q _ hno).mono ?_
    rintro e w4 ⟨rfl, hb4⟩
    have hY4 : Below w3.heap.size w3 w4 := b_then (by repeat first | exact Below.refl _ _ | apply Below.drew | apply b_alloc) hb4
    have hC4 := hC3.below hY4 hC3.lt
    have bel4 := b_then bel3 hY4
    clear hC3 bel3 hb4 cC lC hY4
    have cC := hC4.cell
    have lC := hC4.lt
    have hw3s := bel4.size
    have hl3s := hC4.lt
    go_wp2_with fail
    have hR0 : Blk (w4.alloc (.cells (zeros 16) 5)) (w4.heap.size) 5 (zeros 16) := (by unfold Blk; repeat (first | ((with_reducible refine alloc_here' ?_); (simp; done)) | (with_reducible apply alloc_old') | (with_reducible apply drew_old)))
    have hYs : Below w4.heap.size w4 (w4.alloc (.cells (zeros 16) 5)) := (by repeat first | exact Below.refl _ _ | apply Below.drew | apply b_alloc)
    generalize w4.alloc (.cells (zeros 16) 5) = wM at hR0 hYs ⊢
    have hCs := hC4.below hYs hC4.lt
    have belwM := b_then bel4 hYs
    clear hC4 bel4 cC lC hYs
    clear hmk
    have hRx : Blk wM w4.heap.size 5 #[.int .u8 0, .int .u8 0, .int .u8 0, .int .u8 0, .int .u8 0, .int .u8 0, .int .u8 0, .int .u8 0, .int .u8 0, .int .u8 0, .int .u8 0, .int .u8 0, .int .u8 0, .int .u8 0, .int .u8 0, .int .u8 0] := hR0
    clear hR0
    have hWR : W.heap.size ≤ w4.heap.size := hw3s
    have hne : w1.heap.size ≠ w4.heap.size := Nat.ne_of_lt hl3s
    have cC := hCs.cell
    have cR := hRx.cell
    have fR := hRx.frozen
    have lC := hCs.lt
    have lR := hRx.lt
    have uK : IntKind.u8.wrap X = X % 256 := wrap_u8' _
    have uY : IntKind.u8.wrap Y = Y % 256 := wrap_u8' _
    have uV : IntKind.u8.wrap V = V % 256 := wrap_u8' _
    have uW : IntKind.u8.wrap (V / 256) = V / 256 % 256 := wrap_u8' _
    have z8 : IntKind.i64.wrap 8 = 8 := by decide
    have z9 : IntKind.u64.wrap 8 = 8 := by decide
    have z4 : IntKind.i64.wrap 4 = 4 := by decide
    have z5 : IntKind.i64.wrap 5 = 5 := by decide
    have z6 : IntKind.i64.wrap 6 = 6 := by decide
    have z7 : IntKind.i64.wrap 7 = 7 := by decide
    go_wp2_with fail
    go_region
    have hRw : Blk ((((((wM.setCell ⟨w4.heap.size, 4, none⟩ (.int .u8 (X % 256))).setCell ⟨w4.heap.size, 5, none⟩ (.int .u8 (Y % 256))).setCell ⟨w4.heap.size, 6, none⟩ (.int .u8 (V % 256))).setCell ⟨w4.heap.size, 7, none⟩ (.int .u8 (V / 256 % 256))).setCell ⟨w4.heap.size, 8, none⟩ (.int .u8 (1))).drew) w4.heap.size 5 (([0, 0, 0, 0, X % 256, Y % 256, V % 256, V / 256 % 256, 1, 0, 0, 0, 0, 0, 0, 0] : List Int).map (Value.int .u8)).toArray := by
      have h := (((((hRx.set_ 4 (.int .u8 (X % 256))).set_ 5 (.int .u8 (Y % 256))).set_ 6 (.int .u8 (V % 256))).set_ 7 (.int .u8 (V / 256 % 256))).set_ 8 (.int .u8 (1))).drew
      first | exact h | simpa using h
    have hCw : Blk ((((((wM.setCell ⟨w4.heap.size, 4, none⟩ (.int .u8 (X % 256))).setCell ⟨w4.heap.size, 5, none⟩ (.int .u8 (Y % 256))).setCell ⟨w4.heap.size, 6, none⟩ (.int .u8 (V % 256))).setCell ⟨w4.heap.size, 7, none⟩ (.int .u8 (V / 256 % 256))).setCell ⟨w4.heap.size, 8, none⟩ (.int .u8 (1))).drew) w1.heap.size 24 #[.int .u32 sum, .int .i64 X, .int .i64 Y, .int .i64 V, .int .i64 Q] := (((((hCs.far (p := ⟨w4.heap.size, 4, none⟩) hne (.int .u8 (X % 256))).far (p := ⟨w4.heap.size, 5, none⟩) hne (.int .u8 (Y % 256))).far (p := ⟨w4.heap.size, 6, none⟩) hne (.int .u8 (V % 256))).far (p := ⟨w4.heap.size, 7, none⟩) hne (.int .u8 (V / 256 % 256))).far (p := ⟨w4.heap.size, 8, none⟩) hne (.int .u8 (1))).drew
    have belE : Below W.heap.size W ((((((wM.setCell ⟨w4.heap.size, 4, none⟩ (.int .u8 (X % 256))).setCell ⟨w4.heap.size, 5, none⟩ (.int .u8 (Y % 256))).setCell ⟨w4.heap.size, 6, none⟩ (.int .u8 (V % 256))).setCell ⟨w4.heap.size, 7, none⟩ (.int .u8 (V / 256 % 256))).setCell ⟨w4.heap.size, 8, none⟩ (.int .u8 (1))).drew) := Below.drew (((((belwM.setCell (p := ⟨w4.heap.size, 4, none⟩) hWR (.int .u8 (X % 256))).setCell (p := ⟨w4.heap.size, 5, none⟩) hWR (.int .u8 (Y % 256))).setCell (p := ⟨w4.heap.size, 6, none⟩) hWR (.int .u8 (V % 256))).setCell (p := ⟨w4.heap.size, 7, none⟩) hWR (.int .u8 (V / 256 % 256))).setCell (p := ⟨w4.heap.size, 8, none⟩) hWR (.int .u8 (1)))
    generalize (((((wM.setCell ⟨w4.heap.size, 4, none⟩ (.int .u8 (X % 256))).setCell ⟨w4.heap.size, 5, none⟩ (.int .u8 (Y % 256))).setCell ⟨w4.heap.size, 6, none⟩ (.int .u8 (V % 256))).setCell ⟨w4.heap.size, 7, none⟩ (.int .u8 (V / 256 % 256))).setCell ⟨w4.heap.size, 8, none⟩ (.int .u8 (1))).drew = wE at hRw hCw belE ⊢
    clear hRx hCs belwM cC cR fR lC lR hw3s hl3s z8 z9 z4 z5 z6 z7
    have cC := hCw.cell
    go_wp2_with fail
    refine (works_true _).mono ?_
    rintro e w11 ⟨rfl, hb11⟩
    have hY11 : Below wE.heap.size wE w11 := b_then (by repeat first | exact Below.refl _ _ | apply Below.drew | apply b_alloc) hb11
    have bel11 := b_then belE hY11
    clear belE hb11 hY11
    go_wp2_with fail
    go_ret
    exact ⟨rfl, bel11⟩
  · have hNew : Blk (w1.alloc (.cells #[.int .u32 sum, .int .i64 K, .int .i64 (33 + m), .int .i64 V, .int .i64 Q] 24)) w1.heap.size 24 #[.int .u32 sum, .int .i64 K, .int .i64 (33 + m), .int .i64 V, .int .i64 Q] := Blk.new w1 _ _
    have hBel : Below W.heap.size W (w1.alloc (.cells #[.int .u32 sum, .int .i64 K, .int .i64 (33 + m), .int .i64 V, .int .i64 Q] 24)) := b_alloc bel1 _
    go_wp2_with fail
    generalize w1.alloc (.cells #[.int .u32 sum, .int .i64 K, .int .i64 (33 + m), .int .i64 V, .int .i64 Q] 24) = wS at hNew hBel ⊢
    clear bel1
    obtain ⟨X, hX⟩ : ∃ X, X = 33 + m := ⟨_, rfl⟩
    rw [← hX] at hNew ⊢
    have hno : ¬HOk K X V Q := by unfold HOk at hok ⊢; omega
    have hX1 := Lib.hid hX
    clear hX hok
    have cC := hNew.cell
    have lC := hNew.lt
    refine (enc_no sum K X V Q _ hno).mono ?_
    rintro e w2 ⟨rfl, hb2⟩
    have hY2 : Below wS.heap.size wS w2 := b_then (by repeat first | exact Below.refl _ _ | apply Below.drew | apply b_alloc) hb2
    have hC2 := hNew.below hY2 hNew.lt
    have bel2 := b_then hBel hY2
    clear hNew hBel hb2 cC lC hY2
    have cC := hC2.cell
    have lC := hC2.lt
    go_wp2_with fail
    refine (size_no sum K X V Q _ hno).mono ?_
    rintro e w3 ⟨rfl, hb3⟩
    have hY3 : Below w2.heap.size w2 w3 := b_then (by repeat first | exact Below.refl _ _ | apply Below.drew | apply b_alloc) hb3
    have hC3 := hC2.below hY3 hC2.lt
    have bel3 := b_then bel2 hY3
    clear hC2 bel2 hb3 cC lC hY3
    have cC := hC3.cell
    have lC := hC3.lt
    go_wp2_with fail
    refine (check_no sum K X V Q _ hno).mono ?_
    rintro e w4 ⟨rfl, hb4⟩
    have hY4 : Below w3.heap.size w3 w4 := b_then (by repeat first | exact Below.refl _ _ | apply Below.drew | apply b_alloc) hb4
    have hC4 := hC3.below hY4 hC3.lt
    have bel4 := b_then bel3 hY4
    clear hC3 bel3 hb4 cC lC hY4
    have cC := hC4.cell
    have lC := hC4.lt
    have hw3s := bel4.size
    have hl3s := hC4.lt
    go_wp2_with fail
    have hR0 : Blk (w4.alloc (.cells (zeros 16) 5)) (w4.heap.size) 5 (zeros 16) := (by unfold Blk; repeat (first | ((with_reducible refine alloc_here' ?_); (simp; done)) | (with_reducible apply alloc_old') | (with_reducible apply drew_old)))
    have hYs : Below w4.heap.size w4 (w4.alloc (.cells (zeros 16) 5)) := (by repeat first | exact Below.refl _ _ | apply Below.drew | apply b_alloc)
    generalize w4.alloc (.cells (zeros 16) 5) = wM at hR0 hYs ⊢
    have hCs := hC4.below hYs hC4.lt
    have belwM := b_then bel4 hYs
    clear hC4 bel4 cC lC hYs
    clear hmk
    have hRx : Blk wM w4.heap.size 5 #[.int .u8 0, .int .u8 0, .int .u8 0, .int .u8 0, .int .u8 0, .int .u8 0, .int .u8 0, .int .u8 0, .int .u8 0, .int .u8 0, .int .u8 0, .int .u8 0, .int .u8 0, .int .u8 0, .int .u8 0, .int .u8 0] := hR0
    clear hR0
    have hWR : W.heap.size ≤ w4.heap.size := hw3s
    have hne : w1.heap.size ≠ w4.heap.size := Nat.ne_of_lt hl3s
    have cC := hCs.cell
    have cR := hRx.cell
    have fR := hRx.frozen
    have lC := hCs.lt
    have lR := hRx.lt
    have uK : IntKind.u8.wrap K = K % 256 := wrap_u8' _
    have uY : IntKind.u8.wrap X = X % 256 := wrap_u8' _
    have uV : IntKind.u8.wrap V = V % 256 := wrap_u8' _
    have uW : IntKind.u8.wrap (V / 256) = V / 256 % 256 := wrap_u8' _
    have z8 : IntKind.i64.wrap 8 = 8 := by decide
    have z9 : IntKind.u64.wrap 8 = 8 := by decide
    have z4 : IntKind.i64.wrap 4 = 4 := by decide
    have z5 : IntKind.i64.wrap 5 = 5 := by decide
    have z6 : IntKind.i64.wrap 6 = 6 := by decide
    have z7 : IntKind.i64.wrap 7 = 7 := by decide
    go_wp2_with fail
    go_region
    have hRw : Blk ((((((wM.setCell ⟨w4.heap.size, 4, none⟩ (.int .u8 (K % 256))).setCell ⟨w4.heap.size, 5, none⟩ (.int .u8 (X % 256))).setCell ⟨w4.heap.size, 6, none⟩ (.int .u8 (V % 256))).setCell ⟨w4.heap.size, 7, none⟩ (.int .u8 (V / 256 % 256))).setCell ⟨w4.heap.size, 8, none⟩ (.int .u8 (1))).drew) w4.heap.size 5 (([0, 0, 0, 0, K % 256, X % 256, V % 256, V / 256 % 256, 1, 0, 0, 0, 0, 0, 0, 0] : List Int).map (Value.int .u8)).toArray := by
      have h := (((((hRx.set_ 4 (.int .u8 (K % 256))).set_ 5 (.int .u8 (X % 256))).set_ 6 (.int .u8 (V % 256))).set_ 7 (.int .u8 (V / 256 % 256))).set_ 8 (.int .u8 (1))).drew
      first | exact h | simpa using h
    have hCw : Blk ((((((wM.setCell ⟨w4.heap.size, 4, none⟩ (.int .u8 (K % 256))).setCell ⟨w4.heap.size, 5, none⟩ (.int .u8 (X % 256))).setCell ⟨w4.heap.size, 6, none⟩ (.int .u8 (V % 256))).setCell ⟨w4.heap.size, 7, none⟩ (.int .u8 (V / 256 % 256))).setCell ⟨w4.heap.size, 8, none⟩ (.int .u8 (1))).drew) w1.heap.size 24 #[.int .u32 sum, .int .i64 K, .int .i64 X, .int .i64 V, .int .i64 Q] := (((((hCs.far (p := ⟨w4.heap.size, 4, none⟩) hne (.int .u8 (K % 256))).far (p := ⟨w4.heap.size, 5, none⟩) hne (.int .u8 (X % 256))).far (p := ⟨w4.heap.size, 6, none⟩) hne (.int .u8 (V % 256))).far (p := ⟨w4.heap.size, 7, none⟩) hne (.int .u8 (V / 256 % 256))).far (p := ⟨w4.heap.size, 8, none⟩) hne (.int .u8 (1))).drew
    have belE : Below W.heap.size W ((((((wM.setCell ⟨w4.heap.size, 4, none⟩ (.int .u8 (K % 256))).setCell ⟨w4.heap.size, 5, none⟩ (.int .u8 (X % 256))).setCell ⟨w4.heap.size, 6, none⟩ (.int .u8 (V % 256))).setCell ⟨w4.heap.size, 7, none⟩ (.int .u8 (V / 256 % 256))).setCell ⟨w4.heap.size, 8, none⟩ (.int .u8 (1))).drew) := Below.drew (((((belwM.setCell (p := ⟨w4.heap.size, 4, none⟩) hWR (.int .u8 (K % 256))).setCell (p := ⟨w4.heap.size, 5, none⟩) hWR (.int .u8 (X % 256))).setCell (p := ⟨w4.heap.size, 6, none⟩) hWR (.int .u8 (V % 256))).setCell (p := ⟨w4.heap.size, 7, none⟩) hWR (.int .u8 (V / 256 % 256))).setCell (p := ⟨w4.heap.size, 8, none⟩) hWR (.int .u8 (1)))
    generalize (((((wM.setCell ⟨w4.heap.size, 4, none⟩ (.int .u8 (K % 256))).setCell ⟨w4.heap.size, 5, none⟩ (.int .u8 (X % 256))).setCell ⟨w4.heap.size, 6, none⟩ (.int .u8 (V % 256))).setCell ⟨w4.heap.size, 7, none⟩ (.int .u8 (V / 256 % 256))).setCell ⟨w4.heap.size, 8, none⟩ (.int .u8 (1))).drew = wE at hRw hCw belE ⊢
    clear hRx hCs belwM cC cR fR lC lR hw3s hl3s z8 z9 z4 z5 z6 z7
    have cC := hCw.cell
    by_cases hcc : 32 < X % 256
    · have hX2 := hX1.out
      have hby : Byts wE (some ⟨w4.heap.size, 0, none⟩) 16 16 (fun i => ([0, 0, 0, 0, K % 256, X % 256, V % 256, V / 256 % 256, 1, 0, 0, 0, 0, 0, 0, 0] : List Int).getD i 0) := Byts.of_blk hRw (raw_bd _ _ _ _ (by omega) (by omega) (by omega) (by omega)) (show 16 ≤ maxLen by decide)
      have hnd : ¬DOk (fun i => ([0, 0, 0, 0, K % 256, X % 256, V % 256, V / 256 % 256, 1, 0, 0, 0, 0, 0, 0, 0] : List Int).getD i 0) := by
        intro h
        have h' : HOk (K % 256) (X % 256) (dV (fun i => ([0, 0, 0, 0, K % 256, X % 256, V % 256, V / 256 % 256, 1, 0, 0, 0, 0, 0, 0, 0] : List Int).getD i 0)) (dQ (fun i => ([0, 0, 0, 0, K % 256, X % 256, V % 256, V / 256 % 256, 1, 0, 0, 0, 0, 0, 0, 0] : List Int).getD i 0)) := h
        rcases h' with ⟨h1, _, h2, _⟩ | ⟨h1, _, h2, _⟩ | ⟨h1, h2, _⟩ <;> omega
      have hd : decide (32 < X % 256) = true := decide_eq_true hcc
      clear hX2 hcc
      go_wp2_with fail
      refine (dec_no (some ⟨w4.heap.size, 0, none⟩) 16 16 (fun i => ([0, 0, 0, 0, K % 256, X % 256, V % 256, V / 256 % 256, 1, 0, 0, 0, 0, 0, 0, 0] : List Int).getD i 0) _ (by decide) hby hnd).mono ?_
      rintro e w11 ⟨rfl, hb11⟩
      have hY11 : Below wE.heap.size wE w11 := b_then (by repeat first | exact Below.refl _ _ | apply Below.drew | apply b_alloc) hb11
      have bel11 := b_then belE hY11
      clear belE hb11 hY11
      go_wp2_with fail
      refine (works_true _).mono ?_
      rintro e w12 ⟨rfl, hb12⟩
      have hY12 : Below w11.heap.size w11 w12 := b_then (by repeat first | exact Below.refl _ _ | apply Below.drew | apply b_alloc) hb12
      have bel12 := b_then bel11 hY12
      clear bel11 hb12 hY12
      go_wp2_with fail
      go_ret
      exact ⟨rfl, bel12⟩
    · have hd : decide (32 < X % 256) = false := decide_eq_false hcc
      clear hcc
      go_wp2_with fail
      refine (works_true _).mono ?_
      rintro e w11 ⟨rfl, hb11⟩
      have hY11 : Below wE.heap.size wE w11 := b_then (by repeat first | exact Below.refl _ _ | apply Below.drew | apply b_alloc) hb11
      have bel11 := b_then belE hY11
      clear belE hb11 hY11
      go_wp2_with fail
      go_ret
      exact ⟨rfl, bel11⟩
  · have hNew : Blk (w1.alloc (.cells #[.int .u32 sum, .int .i64 K, .int .i64 (-1 - m), .int .i64 V, .int .i64 Q] 24)) w1.heap.size 24 #[.int .u32 sum, .int .i64 K, .int .i64 (-1 - m), .int .i64 V, .int .i64 Q] := Blk.new w1 _ _
    have hBel : Below W.heap.size W (w1.alloc (.cells #[.int .u32 sum, .int .i64 K, .int .i64 (-1 - m), .int .i64 V, .int .i64 Q] 24)) := b_alloc bel1 _
    go_wp2_with fail
    generalize w1.alloc (.cells #[.int .u32 sum, .int .i64 K, .int .i64 (-1 - m), .int .i64 V, .int .i64 Q] 24) = wS at hNew hBel ⊢
    clear bel1
    obtain ⟨X, hX⟩ : ∃ X, X = -1 - m := ⟨_, rfl⟩
    rw [← hX] at hNew ⊢
    have hno : ¬HOk K X V Q := by unfold HOk at hok ⊢; omega
    have hX1 := Lib.hid hX
    clear hX hok
    have cC := hNew.cell
    have lC := hNew.lt
    refine (enc_no sum K X V Q _ hno).mono ?_
    rintro e w2 ⟨rfl, hb2⟩
    have hY2 : Below wS.heap.size wS w2 := b_then (by repeat first | exact Below.refl _ _ | apply Below.drew | apply b_alloc) hb2
    have hC2 := hNew.below hY2 hNew.lt
    have bel2 := b_then hBel hY2
    clear hNew hBel hb2 cC lC hY2
    have cC := hC2.cell
    have lC := hC2.lt
    go_wp2_with fail
    refine (size_no sum K X V Q _ hno).mono ?_
    rintro e w3 ⟨rfl, hb3⟩
    have hY3 : Below w2.heap.size w2 w3 := b_then (by repeat first | exact Below.refl _ _ | apply Below.drew | apply b_alloc) hb3
    have hC3 := hC2.below hY3 hC2.lt
    have bel3 := b_then bel2 hY3
    clear hC2 bel2 hb3 cC lC hY3
    have cC := hC3.cell
    have lC := hC3.lt
    go_wp2_with fail
    refine (check_no sum K X V Q _ hno).mono ?_
    rintro e w4 ⟨rfl, hb4⟩
    have hY4 : Below w3.heap.size w3 w4 := b_then (by repeat first | exact Below.refl _ _ | apply Below.drew | apply b_alloc) hb4
    have hC4 := hC3.below hY4 hC3.lt
    have bel4 := b_then bel3 hY4
    clear hC3 bel3 hb4 cC lC hY4
    have cC := hC4.cell
    have lC := hC4.lt
    have hw3s := bel4.size
    have hl3s := hC4.lt
    go_wp2_with fail
    have hR0 : Blk (w4.alloc (.cells (zeros 16) 5)) (w4.heap.size) 5 (zeros 16) := (by unfold Blk; repeat (first | ((with_reducible refine alloc_here' ?_); (simp; done)) | (with_reducible apply alloc_old') | (with_reducible apply drew_old)))
    have hYs : Below w4.heap.size w4 (w4.alloc (.cells (zeros 16) 5)) := (by repeat first | exact Below.refl _ _ | apply Below.drew | apply b_alloc)
    generalize w4.alloc (.cells (zeros 16) 5) = wM at hR0 hYs ⊢
    have hCs := hC4.below hYs hC4.lt
    have belwM := b_then bel4 hYs
    clear hC4 bel4 cC lC hYs
    clear hmk
    have hRx : Blk wM w4.heap.size 5 #[.int .u8 0, .int .u8 0, .int .u8 0, .int .u8 0, .int .u8 0, .int .u8 0, .int .u8 0, .int .u8 0, .int .u8 0, .int .u8 0, .int .u8 0, .int .u8 0, .int .u8 0, .int .u8 0, .int .u8 0, .int .u8 0] := hR0
    clear hR0
    have hWR : W.heap.size ≤ w4.heap.size := hw3s
    have hne : w1.heap.size ≠ w4.heap.size := Nat.ne_of_lt hl3s
    have cC := hCs.cell
    have cR := hRx.cell
    have fR := hRx.frozen
    have lC := hCs.lt
    have lR := hRx.lt
    have uK : IntKind.u8.wrap K = K % 256 := wrap_u8' _
    have uY : IntKind.u8.wrap X = X % 256 := wrap_u8' _
    have uV : IntKind.u8.wrap V = V % 256 := wrap_u8' _
    have uW : IntKind.u8.wrap (V / 256) = V / 256 % 256 := wrap_u8' _
    have z8 : IntKind.i64.wrap 8 = 8 := by decide
    have z9 : IntKind.u64.wrap 8 = 8 := by decide
    have z4 : IntKind.i64.wrap 4 = 4 := by decide
    have z5 : IntKind.i64.wrap 5 = 5 := by decide
    have z6 : IntKind.i64.wrap 6 = 6 := by decide
    have z7 : IntKind.i64.wrap 7 = 7 := by decide
    go_wp2_with fail
    go_region
    have hRw : Blk ((((((wM.setCell ⟨w4.heap.size, 4, none⟩ (.int .u8 (K % 256))).setCell ⟨w4.heap.size, 5, none⟩ (.int .u8 (X % 256))).setCell ⟨w4.heap.size, 6, none⟩ (.int .u8 (V % 256))).setCell ⟨w4.heap.size, 7, none⟩ (.int .u8 (V / 256 % 256))).setCell ⟨w4.heap.size, 8, none⟩ (.int .u8 (1))).drew) w4.heap.size 5 (([0, 0, 0, 0, K % 256, X % 256, V % 256, V / 256 % 256, 1, 0, 0, 0, 0, 0, 0, 0] : List Int).map (Value.int .u8)).toArray := by
      have h := (((((hRx.set_ 4 (.int .u8 (K % 256))).set_ 5 (.int .u8 (X % 256))).set_ 6 (.int .u8 (V % 256))).set_ 7 (.int .u8 (V / 256 % 256))).set_ 8 (.int .u8 (1))).drew
      first | exact h | simpa using h
    have hCw : Blk ((((((wM.setCell ⟨w4.heap.size, 4, none⟩ (.int .u8 (K % 256))).setCell ⟨w4.heap.size, 5, none⟩ (.int .u8 (X % 256))).setCell ⟨w4.heap.size, 6, none⟩ (.int .u8 (V % 256))).setCell ⟨w4.heap.size, 7, none⟩ (.int .u8 (V / 256 % 256))).setCell ⟨w4.heap.size, 8, none⟩ (.int .u8 (1))).drew) w1.heap.size 24 #[.int .u32 sum, .int .i64 K, .int .i64 X, .int .i64 V, .int .i64 Q] := (((((hCs.far (p := ⟨w4.heap.size, 4, none⟩) hne (.int .u8 (K % 256))).far (p := ⟨w4.heap.size, 5, none⟩) hne (.int .u8 (X % 256))).far (p := ⟨w4.heap.size, 6, none⟩) hne (.int .u8 (V % 256))).far (p := ⟨w4.heap.size, 7, none⟩) hne (.int .u8 (V / 256 % 256))).far (p := ⟨w4.heap.size, 8, none⟩) hne (.int .u8 (1))).drew
    have belE : Below W.heap.size W ((((((wM.setCell ⟨w4.heap.size, 4, none⟩ (.int .u8 (K % 256))).setCell ⟨w4.heap.size, 5, none⟩ (.int .u8 (X % 256))).setCell ⟨w4.heap.size, 6, none⟩ (.int .u8 (V % 256))).setCell ⟨w4.heap.size, 7, none⟩ (.int .u8 (V / 256 % 256))).setCell ⟨w4.heap.size, 8, none⟩ (.int .u8 (1))).drew) := Below.drew (((((belwM.setCell (p := ⟨w4.heap.size, 4, none⟩) hWR (.int .u8 (K % 256))).setCell (p := ⟨w4.heap.size, 5, none⟩) hWR (.int .u8 (X % 256))).setCell (p := ⟨w4.heap.size, 6, none⟩) hWR (.int .u8 (V % 256))).setCell (p := ⟨w4.heap.size, 7, none⟩) hWR (.int .u8 (V / 256 % 256))).setCell (p := ⟨w4.heap.size, 8, none⟩) hWR (.int .u8 (1)))
    generalize (((((wM.setCell ⟨w4.heap.size, 4, none⟩ (.int .u8 (K % 256))).setCell ⟨w4.heap.size, 5, none⟩ (.int .u8 (X % 256))).setCell ⟨w4.heap.size, 6, none⟩ (.int .u8 (V % 256))).setCell ⟨w4.heap.size, 7, none⟩ (.int .u8 (V / 256 % 256))).setCell ⟨w4.heap.size, 8, none⟩ (.int .u8 (1))).drew = wE at hRw hCw belE ⊢
    clear hRx hCs belwM cC cR fR lC lR hw3s hl3s z8 z9 z4 z5 z6 z7
    have cC := hCw.cell
    go_wp2_with fail
    refine (works_true _).mono ?_
    rintro e w11 ⟨rfl, hb11⟩
    have hY11 : Below wE.heap.size wE w11 := b_then (by repeat first | exact Below.refl _ _ | apply Below.drew | apply b_alloc) hb11
    have bel11 := b_then belE hY11
    clear belE hb11 hY11
    go_wp2_with fail
    go_ret
    exact ⟨rfl, bel11⟩
  · have hNew : Blk (w1.alloc (.cells #[.int .u32 sum, .int .i64 K, .int .i64 Y, .int .i64 (65536 + m), .int .i64 Q] 24)) w1.heap.size 24 #[.int .u32 sum, .int .i64 K, .int .i64 Y, .int .i64 (65536 + m), .int .i64 Q] := Blk.new w1 _ _
    have hBel : Below W.heap.size W (w1.alloc (.cells #[.int .u32 sum, .int .i64 K, .int .i64 Y, .int .i64 (65536 + m), .int .i64 Q] 24)) := b_alloc bel1 _
    go_wp2_with fail
    generalize w1.alloc (.cells #[.int .u32 sum, .int .i64 K, .int .i64 Y, .int .i64 (65536 + m), .int .i64 Q] 24) = wS at hNew hBel ⊢
    clear bel1
    obtain ⟨X, hX⟩ : ∃ X, X = 65536 + m := ⟨_, rfl⟩
    rw [← hX] at hNew ⊢
    have hno : ¬HOk K Y X Q := by unfold HOk at hok ⊢; omega
    have hX1 := Lib.hid hX
    clear hX hok
    have cC := hNew.cell
    have lC := hNew.lt
    refine (enc_no sum K Y X Q _ hno).mono ?_
    rintro e w2 ⟨rfl, hb2⟩
    have hY2 : Below wS.heap.size wS w2 := b_then (by repeat first | exact Below.refl _ _ | apply Below.drew | apply b_alloc) hb2
    have hC2 := hNew.below hY2 hNew.lt
    have bel2 := b_then hBel hY2
    clear hNew hBel hb2 cC lC hY2
    have cC := hC2.cell
    have lC := hC2.lt
    go_wp2_with fail
    refine (size_no sum K Y X Q _ hno).mono ?_
    rintro e w3 ⟨rfl, hb3⟩
    have hY3 : Below w2.heap.size w2 w3 := b_then (by repeat first | exact Below.refl _ _ | apply Below.drew | apply b_alloc) hb3
    have hC3 := hC2.below hY3 hC2.lt
    have bel3 := b_then bel2 hY3
    clear hC2 bel2 hb3 cC lC hY3
    have cC := hC3.cell
    have lC := hC3.lt
    go_wp2_with fail
    refine (check_no sum K Y X Q _ hno).mono ?_
    rintro e w4 ⟨rfl, hb4⟩
    have hY4 : Below w3.heap.size w3 w4 := b_then (by repeat first | exact Below.refl _ _ | apply Below.drew | apply b_alloc) hb4
    have hC4 := hC3.below hY4 hC3.lt
    have bel4 := b_then bel3 hY4
    clear hC3 bel3 hb4 cC lC hY4
    have cC := hC4.cell
    have lC := hC4.lt
    have hw3s := bel4.size
    have hl3s := hC4.lt
    go_wp2_with fail
    have hR0 : Blk (w4.alloc (.cells (zeros 16) 5)) (w4.heap.size) 5 (zeros 16) := (by unfold Blk; repeat (first | ((with_reducible refine alloc_here' ?_); (simp; done)) | (with_reducible apply alloc_old') | (with_reducible apply drew_old)))
    have hYs : Below w4.heap.size w4 (w4.alloc (.cells (zeros 16) 5)) := (by repeat first | exact Below.refl _ _ | apply Below.drew | apply b_alloc)
    generalize w4.alloc (.cells (zeros 16) 5) = wM at hR0 hYs ⊢
    have hCs := hC4.below hYs hC4.lt
    have belwM := b_then bel4 hYs
    clear hC4 bel4 cC lC hYs
    clear hmk
    have hRx : Blk wM w4.heap.size 5 #[.int .u8 0, .int .u8 0, .int .u8 0, .int .u8 0, .int .u8 0, .int .u8 0, .int .u8 0, .int .u8 0, .int .u8 0, .int .u8 0, .int .u8 0, .int .u8 0, .int .u8 0, .int .u8 0, .int .u8 0, .int .u8 0] := hR0
    clear hR0
    have hWR : W.heap.size ≤ w4.heap.size := hw3s
    have hne : w1.heap.size ≠ w4.heap.size := Nat.ne_of_lt hl3s
    have cC := hCs.cell
    have cR := hRx.cell
    have fR := hRx.frozen
    have lC := hCs.lt
    have lR := hRx.lt
    have uK : IntKind.u8.wrap K = K % 256 := wrap_u8' _
    have uY : IntKind.u8.wrap Y = Y % 256 := wrap_u8' _
    have uV : IntKind.u8.wrap X = X % 256 := wrap_u8' _
    have uW : IntKind.u8.wrap (X / 256) = X / 256 % 256 := wrap_u8' _
    have z8 : IntKind.i64.wrap 8 = 8 := by decide
    have z9 : IntKind.u64.wrap 8 = 8 := by decide
    have z4 : IntKind.i64.wrap 4 = 4 := by decide
    have z5 : IntKind.i64.wrap 5 = 5 := by decide
    have z6 : IntKind.i64.wrap 6 = 6 := by decide
    have z7 : IntKind.i64.wrap 7 = 7 := by decide
    go_wp2_with fail
    go_region
    have hRw : Blk ((((((wM.setCell ⟨w4.heap.size, 4, none⟩ (.int .u8 (K % 256))).setCell ⟨w4.heap.size, 5, none⟩ (.int .u8 (Y % 256))).setCell ⟨w4.heap.size, 6, none⟩ (.int .u8 (X % 256))).setCell ⟨w4.heap.size, 7, none⟩ (.int .u8 (X / 256 % 256))).setCell ⟨w4.heap.size, 8, none⟩ (.int .u8 (1))).drew) w4.heap.size 5 (([0, 0, 0, 0, K % 256, Y % 256, X % 256, X / 256 % 256, 1, 0, 0, 0, 0, 0, 0, 0] : List Int).map (Value.int .u8)).toArray := by
      have h := (((((hRx.set_ 4 (.int .u8 (K % 256))).set_ 5 (.int .u8 (Y % 256))).set_ 6 (.int .u8 (X % 256))).set_ 7 (.int .u8 (X / 256 % 256))).set_ 8 (.int .u8 (1))).drew
      first | exact h | simpa using h
    have hCw : Blk ((((((wM.setCell ⟨w4.heap.size, 4, none⟩ (.int .u8 (K % 256))).setCell ⟨w4.heap.size, 5, none⟩ (.int .u8 (Y % 256))).setCell ⟨w4.heap.size, 6, none⟩ (.int .u8 (X % 256))).setCell ⟨w4.heap.size, 7, none⟩ (.int .u8 (X / 256 % 256))).setCell ⟨w4.heap.size, 8, none⟩ (.int .u8 (1))).drew) w1.heap.size 24 #[.int .u32 sum, .int .i64 K, .int .i64 Y, .int .i64 X, .int .i64 Q] := (((((hCs.far (p := ⟨w4.heap.size, 4, none⟩) hne (.int .u8 (K % 256))).far (p := ⟨w4.heap.size, 5, none⟩) hne (.int .u8 (Y % 256))).far (p := ⟨w4.heap.size, 6, none⟩) hne (.int .u8 (X % 256))).far (p := ⟨w4.heap.size, 7, none⟩) hne (.int .u8 (X / 256 % 256))).far (p := ⟨w4.heap.size, 8, none⟩) hne (.int .u8 (1))).drew
    have belE : Below W.heap.size W ((((((wM.setCell ⟨w4.heap.size, 4, none⟩ (.int .u8 (K % 256))).setCell ⟨w4.heap.size, 5, none⟩ (.int .u8 (Y % 256))).setCell ⟨w4.heap.size, 6, none⟩ (.int .u8 (X % 256))).setCell ⟨w4.heap.size, 7, none⟩ (.int .u8 (X / 256 % 256))).setCell ⟨w4.heap.size, 8, none⟩ (.int .u8 (1))).drew) := Below.drew (((((belwM.setCell (p := ⟨w4.heap.size, 4, none⟩) hWR (.int .u8 (K % 256))).setCell (p := ⟨w4.heap.size, 5, none⟩) hWR (.int .u8 (Y % 256))).setCell (p := ⟨w4.heap.size, 6, none⟩) hWR (.int .u8 (X % 256))).setCell (p := ⟨w4.heap.size, 7, none⟩) hWR (.int .u8 (X / 256 % 256))).setCell (p := ⟨w4.heap.size, 8, none⟩) hWR (.int .u8 (1)))
    generalize (((((wM.setCell ⟨w4.heap.size, 4, none⟩ (.int .u8 (K % 256))).setCell ⟨w4.heap.size, 5, none⟩ (.int .u8 (Y % 256))).setCell ⟨w4.heap.size, 6, none⟩ (.int .u8 (X % 256))).setCell ⟨w4.heap.size, 7, none⟩ (.int .u8 (X / 256 % 256))).setCell ⟨w4.heap.size, 8, none⟩ (.int .u8 (1))).drew = wE at hRw hCw belE ⊢
    clear hRx hCs belwM cC cR fR lC lR hw3s hl3s z8 z9 z4 z5 z6 z7
    have cC := hCw.cell
    go_wp2_with fail
    refine (works_true _).mono ?_
    rintro e w11 ⟨rfl, hb11⟩
    have hY11 : Below wE.heap.size wE w11 := b_then (by repeat first | exact Below.refl _ _ | apply Below.drew | apply b_alloc) hb11
    have bel11 := b_then belE hY11
    clear belE hb11 hY11
    go_wp2_with fail
    go_ret
    exact ⟨rfl, bel11⟩
  · have hNew : Blk (w1.alloc (.cells #[.int .u32 sum, .int .i64 K, .int .i64 Y, .int .i64 (-1 - m), .int .i64 Q] 24)) w1.heap.size 24 #[.int .u32 sum, .int .i64 K, .int .i64 Y, .int .i64 (-1 - m), .int .i64 Q] := Blk.new w1 _ _
    have hBel : Below W.heap.size W (w1.alloc (.cells #[.int .u32 sum, .int .i64 K, .int .i64 Y, .int .i64 (-1 - m), .int .i64 Q] 24)) := b_alloc bel1 _
    go_wp2_with fail
    generalize w1.alloc (.cells #[.int .u32 sum, .int .i64 K, .int .i64 Y, .int .i64 (-1 - m), .int .i64 Q] 24) = wS at hNew hBel ⊢
    clear bel1
    obtain ⟨X, hX⟩ : ∃ X, X = -1 - m := ⟨_, rfl⟩
    rw [← hX] at hNew ⊢
    have hno : ¬HOk K Y X Q := by unfold HOk at hok ⊢; omega
    have hX1 := Lib.hid hX
    clear hX hok
    have cC := hNew.cell
    have lC := hNew.lt
    refine (enc_no sum K Y X Q _ hno).mono ?_
    rintro e w2 ⟨rfl, hb2⟩
    have hY2 : Below wS.heap.size wS w2 := b_then (by repeat first | exact Below.refl _ _ | apply Below.drew | apply b_alloc) hb2
    have hC2 := hNew.below hY2 hNew.lt
    have bel2 := b_then hBel hY2
    clear hNew hBel hb2 cC lC hY2
    have cC := hC2.cell
    have lC := hC2.lt
    go_wp2_with fail
    refine (size_no sum K Y X Q _ hno).mono ?_
    rintro e w3 ⟨rfl, hb3⟩
    have hY3 : Below w2.heap.size w2 w3 := b_then (by repeat first | exact Below.refl _ _ | apply Below.drew | apply b_alloc) hb3
    have hC3 := hC2.below hY3 hC2.lt
    have bel3 := b_then bel2 hY3
    clear hC2 bel2 hb3 cC lC hY3
    have cC := hC3.cell
    have lC := hC3.lt
    go_wp2_with fail
    refine (check_no sum K Y X Q _ hno).mono ?_
    rintro e w4 ⟨rfl, hb4⟩
    have hY4 : Below w3.heap.size w3 w4 := b_then (by repeat first | exact Below.refl _ _ | apply Below.drew | apply b_alloc) hb4
    have hC4 := hC3.below hY4 hC3.lt
    have bel4 := b_then bel3 hY4
    clear hC3 bel3 hb4 cC lC hY4
    have cC := hC4.cell
    have lC := hC4.lt
    have hw3s := bel4.size
    have hl3s := hC4.lt
    go_wp2_with fail
    have hR0 : Blk (w4.alloc (.cells (zeros 16) 5)) (w4.heap.size) 5 (zeros 16) := (by unfold Blk; repeat (first | ((with_reducible refine alloc_here' ?_); (simp; done)) | (with_reducible apply alloc_old') | (with_reducible apply drew_old)))
    have hYs : Below w4.heap.size w4 (w4.alloc (.cells (zeros 16) 5)) := (by repeat first | exact Below.refl _ _ | apply Below.drew | apply b_alloc)
    generalize w4.alloc (.cells (zeros 16) 5) = wM at hR0 hYs ⊢
    have hCs := hC4.below hYs hC4.lt
    have belwM := b_then bel4 hYs
    clear hC4 bel4 cC lC hYs
    clear hmk
    have hRx : Blk wM w4.heap.size 5 #[.int .u8 0, .int .u8 0, .int .u8 0, .int .u8 0, .int .u8 0, .int .u8 0, .int .u8 0, .int .u8 0, .int .u8 0, .int .u8 0, .int .u8 0, .int .u8 0, .int .u8 0, .int .u8 0, .int .u8 0, .int .u8 0] := hR0
    clear hR0
    have hWR : W.heap.size ≤ w4.heap.size := hw3s
    have hne : w1.heap.size ≠ w4.heap.size := Nat.ne_of_lt hl3s
    have cC := hCs.cell
    have cR := hRx.cell
    have fR := hRx.frozen
    have lC := hCs.lt
    have lR := hRx.lt
    have uK : IntKind.u8.wrap K = K % 256 := wrap_u8' _
    have uY : IntKind.u8.wrap Y = Y % 256 := wrap_u8' _
    have uV : IntKind.u8.wrap X = X % 256 := wrap_u8' _
    have uW : IntKind.u8.wrap (X / 256) = X / 256 % 256 := wrap_u8' _
    have z8 : IntKind.i64.wrap 8 = 8 := by decide
    have z9 : IntKind.u64.wrap 8 = 8 := by decide
    have z4 : IntKind.i64.wrap 4 = 4 := by decide
    have z5 : IntKind.i64.wrap 5 = 5 := by decide
    have z6 : IntKind.i64.wrap 6 = 6 := by decide
    have z7 : IntKind.i64.wrap 7 = 7 := by decide
    go_wp2_with fail
    go_region
    have hRw : Blk ((((((wM.setCell ⟨w4.heap.size, 4, none⟩ (.int .u8 (K % 256))).setCell ⟨w4.heap.size, 5, none⟩ (.int .u8 (Y % 256))).setCell ⟨w4.heap.size, 6, none⟩ (.int .u8 (X % 256))).setCell ⟨w4.heap.size, 7, none⟩ (.int .u8 (X / 256 % 256))).setCell ⟨w4.heap.size, 8, none⟩ (.int .u8 (1))).drew) w4.heap.size 5 (([0, 0, 0, 0, K % 256, Y % 256, X % 256, X / 256 % 256, 1, 0, 0, 0, 0, 0, 0, 0] : List Int).map (Value.int .u8)).toArray := by
      have h := (((((hRx.set_ 4 (.int .u8 (K % 256))).set_ 5 (.int .u8 (Y % 256))).set_ 6 (.int .u8 (X % 256))).set_ 7 (.int .u8 (X / 256 % 256))).set_ 8 (.int .u8 (1))).drew
      first | exact h | simpa using h
    have hCw : Blk ((((((wM.setCell ⟨w4.heap.size, 4, none⟩ (.int .u8 (K % 256))).setCell ⟨w4.heap.size, 5, none⟩ (.int .u8 (Y % 256))).setCell ⟨w4.heap.size, 6, none⟩ (.int .u8 (X % 256))).setCell ⟨w4.heap.size, 7, none⟩ (.int .u8 (X / 256 % 256))).setCell ⟨w4.heap.size, 8, none⟩ (.int .u8 (1))).drew) w1.heap.size 24 #[.int .u32 sum, .int .i64 K, .int .i64 Y, .int .i64 X, .int .i64 Q] := (((((hCs.far (p := ⟨w4.heap.size, 4, none⟩) hne (.int .u8 (K % 256))).far (p := ⟨w4.heap.size, 5, none⟩) hne (.int .u8 (Y % 256))).far (p := ⟨w4.heap.size, 6, none⟩) hne (.int .u8 (X % 256))).far (p := ⟨w4.heap.size, 7, none⟩) hne (.int .u8 (X / 256 % 256))).far (p := ⟨w4.heap.size, 8, none⟩) hne (.int .u8 (1))).drew
    have belE : Below W.heap.size W ((((((wM.setCell ⟨w4.heap.size, 4, none⟩ (.int .u8 (K % 256))).setCell ⟨w4.heap.size, 5, none⟩ (.int .u8 (Y % 256))).setCell ⟨w4.heap.size, 6, none⟩ (.int .u8 (X % 256))).setCell ⟨w4.heap.size, 7, none⟩ (.int .u8 (X / 256 % 256))).setCell ⟨w4.heap.size, 8, none⟩ (.int .u8 (1))).drew) := Below.drew (((((belwM.setCell (p := ⟨w4.heap.size, 4, none⟩) hWR (.int .u8 (K % 256))).setCell (p := ⟨w4.heap.size, 5, none⟩) hWR (.int .u8 (Y % 256))).setCell (p := ⟨w4.heap.size, 6, none⟩) hWR (.int .u8 (X % 256))).setCell (p := ⟨w4.heap.size, 7, none⟩) hWR (.int .u8 (X / 256 % 256))).setCell (p := ⟨w4.heap.size, 8, none⟩) hWR (.int .u8 (1)))
    generalize (((((wM.setCell ⟨w4.heap.size, 4, none⟩ (.int .u8 (K % 256))).setCell ⟨w4.heap.size, 5, none⟩ (.int .u8 (Y % 256))).setCell ⟨w4.heap.size, 6, none⟩ (.int .u8 (X % 256))).setCell ⟨w4.heap.size, 7, none⟩ (.int .u8 (X / 256 % 256))).setCell ⟨w4.heap.size, 8, none⟩ (.int .u8 (1))).drew = wE at hRw hCw belE ⊢
    clear hRx hCs belwM cC cR fR lC lR hw3s hl3s z8 z9 z4 z5 z6 z7
    have cC := hCw.cell
    go_wp2_with fail
    refine (works_true _).mono ?_
    rintro e w11 ⟨rfl, hb11⟩
    have hY11 : Below wE.heap.size wE w11 := b_then (by repeat first | exact Below.refl _ _ | apply Below.drew | apply b_alloc) hb11
    have bel11 := b_then belE hY11
    clear belE hb11 hY11
    go_wp2_with fail
    go_ret
    exact ⟨rfl, bel11⟩
  · have hNew : Blk (w1.alloc (.cells #[.int .u32 sum, .int .i64 K, .int .i64 Y, .int .i64 V, .int .i64 (1099511627777 + m)] 24)) w1.heap.size 24 #[.int .u32 sum, .int .i64 K, .int .i64 Y, .int .i64 V, .int .i64 (1099511627777 + m)] := Blk.new w1 _ _
    have hBel : Below W.heap.size W (w1.alloc (.cells #[.int .u32 sum, .int .i64 K, .int .i64 Y, .int .i64 V, .int .i64 (1099511627777 + m)] 24)) := b_alloc bel1 _
    go_wp2_with fail
    generalize w1.alloc (.cells #[.int .u32 sum, .int .i64 K, .int .i64 Y, .int .i64 V, .int .i64 (1099511627777 + m)] 24) = wS at hNew hBel ⊢
    clear bel1
    obtain ⟨X, hX⟩ : ∃ X, X = 1099511627777 + m := ⟨_, rfl⟩
    rw [← hX] at hNew ⊢
    have hno : ¬HOk K Y V X := by unfold HOk at hok ⊢; omega
    have hX1 := Lib.hid hX
    clear hX hok
    have cC := hNew.cell
    have lC := hNew.lt
    refine (enc_no sum K Y V X _ hno).mono ?_
    rintro e w2 ⟨rfl, hb2⟩
    have hY2 : Below wS.heap.size wS w2 := b_then (by repeat first | exact Below.refl _ _ | apply Below.drew | apply b_alloc) hb2
    have hC2 := hNew.below hY2 hNew.lt
    have bel2 := b_then hBel hY2
    clear hNew hBel hb2 cC lC hY2
    have cC := hC2.cell
    have lC := hC2.lt
    go_wp2_with fail
    refine (size_no sum K Y V X _ hno).mono ?_
    rintro e w3 ⟨rfl, hb3⟩
    have hY3 : Below w2.heap.size w2 w3 := b_then (by repeat first | exact Below.refl _ _ | apply Below.drew | apply b_alloc) hb3
    have hC3 := hC2.below hY3 hC2.lt
    have bel3 := b_then bel2 hY3
    clear hC2 bel2 hb3 cC lC hY3
    have cC := hC3.cell
    have lC := hC3.lt
    go_wp2_with fail
    refine (check_no sum K Y V X _ hno).mono ?_
    rintro e w4 ⟨rfl, hb4⟩
    have hY4 : Below w3.heap.size w3 w4 := b_then (by repeat first | exact Below.refl _ _ | apply Below.drew | apply b_alloc) hb4
    have hC4 := hC3.below hY4 hC3.lt
    have bel4 := b_then bel3 hY4
    clear hC3 bel3 hb4 cC lC hY4
    have cC := hC4.cell
    have lC := hC4.lt
    have hw3s := bel4.size
    have hl3s := hC4.lt
    go_wp2_with fail
    have hR0 : Blk (w4.alloc (.cells (zeros 16) 5)) (w4.heap.size) 5 (zeros 16) := (by unfold Blk; repeat (first | ((with_reducible refine alloc_here' ?_); (simp; done)) | (with_reducible apply alloc_old') | (with_reducible apply drew_old)))
    have hYs : Below w4.heap.size w4 (w4.alloc (.cells (zeros 16) 5)) := (by repeat first | exact Below.refl _ _ | apply Below.drew | apply b_alloc)
    generalize w4.alloc (.cells (zeros 16) 5) = wM at hR0 hYs ⊢
    have hCs := hC4.below hYs hC4.lt
    have belwM := b_then bel4 hYs
    clear hC4 bel4 cC lC hYs
    clear hmk
    have hRx : Blk wM w4.heap.size 5 #[.int .u8 0, .int .u8 0, .int .u8 0, .int .u8 0, .int .u8 0, .int .u8 0, .int .u8 0, .int .u8 0, .int .u8 0, .int .u8 0, .int .u8 0, .int .u8 0, .int .u8 0, .int .u8 0, .int .u8 0, .int .u8 0] := hR0
    clear hR0
    have hWR : W.heap.size ≤ w4.heap.size := hw3s
    have hne : w1.heap.size ≠ w4.heap.size := Nat.ne_of_lt hl3s
    have cC := hCs.cell
    have cR := hRx.cell
    have fR := hRx.frozen
    have lC := hCs.lt
    have lR := hRx.lt
    have uK : IntKind.u8.wrap K = K % 256 := wrap_u8' _
    have uY : IntKind.u8.wrap Y = Y % 256 := wrap_u8' _
    have uV : IntKind.u8.wrap V = V % 256 := wrap_u8' _
    have uW : IntKind.u8.wrap (V / 256) = V / 256 % 256 := wrap_u8' _
    have z8 : IntKind.i64.wrap 8 = 8 := by decide
    have z9 : IntKind.u64.wrap 8 = 8 := by decide
    have z4 : IntKind.i64.wrap 4 = 4 := by decide
    have z5 : IntKind.i64.wrap 5 = 5 := by decide
    have z6 : IntKind.i64.wrap 6 = 6 := by decide
    have z7 : IntKind.i64.wrap 7 = 7 := by decide
    go_wp2_with fail
    go_region
    have hRw : Blk ((((((wM.setCell ⟨w4.heap.size, 4, none⟩ (.int .u8 (K % 256))).setCell ⟨w4.heap.size, 5, none⟩ (.int .u8 (Y % 256))).setCell ⟨w4.heap.size, 6, none⟩ (.int .u8 (V % 256))).setCell ⟨w4.heap.size, 7, none⟩ (.int .u8 (V / 256 % 256))).setCell ⟨w4.heap.size, 8, none⟩ (.int .u8 (1))).drew) w4.heap.size 5 (([0, 0, 0, 0, K % 256, Y % 256, V % 256, V / 256 % 256, 1, 0, 0, 0, 0, 0, 0, 0] : List Int).map (Value.int .u8)).toArray := by
      have h := (((((hRx.set_ 4 (.int .u8 (K % 256))).set_ 5 (.int .u8 (Y % 256))).set_ 6 (.int .u8 (V % 256))).set_ 7 (.int .u8 (V / 256 % 256))).set_ 8 (.int .u8 (1))).drew
      first | exact h | simpa using h
    have hCw : Blk ((((((wM.setCell ⟨w4.heap.size, 4, none⟩ (.int .u8 (K % 256))).setCell ⟨w4.heap.size, 5, none⟩ (.int .u8 (Y % 256))).setCell ⟨w4.heap.size, 6, none⟩ (.int .u8 (V % 256))).setCell ⟨w4.heap.size, 7, none⟩ (.int .u8 (V / 256 % 256))).setCell ⟨w4.heap.size, 8, none⟩ (.int .u8 (1))).drew) w1.heap.size 24 #[.int .u32 sum, .int .i64 K, .int .i64 Y, .int .i64 V, .int .i64 X] := (((((hCs.far (p := ⟨w4.heap.size, 4, none⟩) hne (.int .u8 (K % 256))).far (p := ⟨w4.heap.size, 5, none⟩) hne (.int .u8 (Y % 256))).far (p := ⟨w4.heap.size, 6, none⟩) hne (.int .u8 (V % 256))).far (p := ⟨w4.heap.size, 7, none⟩) hne (.int .u8 (V / 256 % 256))).far (p := ⟨w4.heap.size, 8, none⟩) hne (.int .u8 (1))).drew
    have belE : Below W.heap.size W ((((((wM.setCell ⟨w4.heap.size, 4, none⟩ (.int .u8 (K % 256))).setCell ⟨w4.heap.size, 5, none⟩ (.int .u8 (Y % 256))).setCell ⟨w4.heap.size, 6, none⟩ (.int .u8 (V % 256))).setCell ⟨w4.heap.size, 7, none⟩ (.int .u8 (V / 256 % 256))).setCell ⟨w4.heap.size, 8, none⟩ (.int .u8 (1))).drew) := Below.drew (((((belwM.setCell (p := ⟨w4.heap.size, 4, none⟩) hWR (.int .u8 (K % 256))).setCell (p := ⟨w4.heap.size, 5, none⟩) hWR (.int .u8 (Y % 256))).setCell (p := ⟨w4.heap.size, 6, none⟩) hWR (.int .u8 (V % 256))).setCell (p := ⟨w4.heap.size, 7, none⟩) hWR (.int .u8 (V / 256 % 256))).setCell (p := ⟨w4.heap.size, 8, none⟩) hWR (.int .u8 (1)))
    generalize (((((wM.setCell ⟨w4.heap.size, 4, none⟩ (.int .u8 (K % 256))).setCell ⟨w4.heap.size, 5, none⟩ (.int .u8 (Y % 256))).setCell ⟨w4.heap.size, 6, none⟩ (.int .u8 (V % 256))).setCell ⟨w4.heap.size, 7, none⟩ (.int .u8 (V / 256 % 256))).setCell ⟨w4.heap.size, 8, none⟩ (.int .u8 (1))).drew = wE at hRw hCw belE ⊢
    clear hRx hCs belwM cC cR fR lC lR hw3s hl3s z8 z9 z4 z5 z6 z7
    have cC := hCw.cell
    go_wp2_with fail
    refine (works_true _).mono ?_
    rintro e w11 ⟨rfl, hb11⟩
    have hY11 : Below wE.heap.size wE w11 := b_then (by repeat first | exact Below.refl _ _ | apply Below.drew | apply b_alloc) hb11
    have bel11 := b_then belE hY11
    clear belE hb11 hY11
    go_wp2_with fail
    go_ret
    exact ⟨rfl, bel11⟩
  · have hNew : Blk (w1.alloc (.cells #[.int .u32 sum, .int .i64 K, .int .i64 Y, .int .i64 V, .int .i64 (-1 - m)] 24)) w1.heap.size 24 #[.int .u32 sum, .int .i64 K, .int .i64 Y, .int .i64 V, .int .i64 (-1 - m)] := Blk.new w1 _ _
    have hBel : Below W.heap.size W (w1.alloc (.cells #[.int .u32 sum, .int .i64 K, .int .i64 Y, .int .i64 V, .int .i64 (-1 - m)] 24)) := b_alloc bel1 _
    go_wp2_with fail
    generalize w1.alloc (.cells #[.int .u32 sum, .int .i64 K, .int .i64 Y, .int .i64 V, .int .i64 (-1 - m)] 24) = wS at hNew hBel ⊢
    clear bel1
    obtain ⟨X, hX⟩ : ∃ X, X = -1 - m := ⟨_, rfl⟩
    rw [← hX] at hNew ⊢
    have hno : ¬HOk K Y V X := by unfold HOk at hok ⊢; omega
    have hX1 := Lib.hid hX
    clear hX hok
    have cC := hNew.cell
    have lC := hNew.lt
    refine (enc_no sum K Y V X _ hno).mono ?_
    rintro e w2 ⟨rfl, hb2⟩
    have hY2 : Below wS.heap.size wS w2 := b_then (by repeat first | exact Below.refl _ _ | apply Below.drew | apply b_alloc) hb2
    have hC2 := hNew.below hY2 hNew.lt
    have bel2 := b_then hBel hY2
    clear hNew hBel hb2 cC lC hY2
    have cC := hC2.cell
    have lC := hC2.lt
    go_wp2_with fail
    refine (size_no sum K Y V X _ hno).mono ?_
    rintro e w3 ⟨rfl, hb3⟩
    have hY3 : Below w2.heap.size w2 w3 := b_then (by repeat first | exact Below.refl _ _ | apply Below.drew | apply b_alloc) hb3
    have hC3 := hC2.below hY3 hC2.lt
    have bel3 := b_then bel2 hY3
    clear hC2 bel2 hb3 cC lC hY3
    have cC := hC3.cell
    have lC := hC3.lt
    go_wp2_with fail
    refine (check_no sum K Y V X _ hno).mono ?_
    rintro e w4 ⟨rfl, hb4⟩
    have hY4 : Below w3.heap.size w3 w4 := b_then (by repeat first | exact Below.refl _ _ | apply Below.drew | apply b_alloc) hb4
    have hC4 := hC3.below hY4 hC3.lt
    have bel4 := b_then bel3 hY4
    clear hC3 bel3 hb4 cC lC hY4
    have cC := hC4.cell
    have lC := hC4.lt
    have hw3s := bel4.size
    have hl3s := hC4.lt
    go_wp2_with fail
    have hR0 : Blk (w4.alloc (.cells (zeros 16) 5)) (w4.heap.size) 5 (zeros 16) := (by unfold Blk; repeat (first | ((with_reducible refine alloc_here' ?_); (simp; done)) | (with_reducible apply alloc_old') | (with_reducible apply drew_old)))
    have hYs : Below w4.heap.size w4 (w4.alloc (.cells (zeros 16) 5)) := (by repeat first | exact Below.refl _ _ | apply Below.drew | apply b_alloc)
    generalize w4.alloc (.cells (zeros 16) 5) = wM at hR0 hYs ⊢
    have hCs := hC4.below hYs hC4.lt
    have belwM := b_then bel4 hYs
    clear hC4 bel4 cC lC hYs
    clear hmk
    have hRx : Blk wM w4.heap.size 5 #[.int .u8 0, .int .u8 0, .int .u8 0, .int .u8 0, .int .u8 0, .int .u8 0, .int .u8 0, .int .u8 0, .int .u8 0, .int .u8 0, .int .u8 0, .int .u8 0, .int .u8 0, .int .u8 0, .int .u8 0, .int .u8 0] := hR0
    clear hR0
    have hWR : W.heap.size ≤ w4.heap.size := hw3s
    have hne : w1.heap.size ≠ w4.heap.size := Nat.ne_of_lt hl3s
    have cC := hCs.cell
    have cR := hRx.cell
    have fR := hRx.frozen
    have lC := hCs.lt
    have lR := hRx.lt
    have uK : IntKind.u8.wrap K = K % 256 := wrap_u8' _
    have uY : IntKind.u8.wrap Y = Y % 256 := wrap_u8' _
    have uV : IntKind.u8.wrap V = V % 256 := wrap_u8' _
    have uW : IntKind.u8.wrap (V / 256) = V / 256 % 256 := wrap_u8' _
    have z8 : IntKind.i64.wrap 8 = 8 := by decide
    have z9 : IntKind.u64.wrap 8 = 8 := by decide
    have z4 : IntKind.i64.wrap 4 = 4 := by decide
    have z5 : IntKind.i64.wrap 5 = 5 := by decide
    have z6 : IntKind.i64.wrap 6 = 6 := by decide
    have z7 : IntKind.i64.wrap 7 = 7 := by decide
    go_wp2_with fail
    go_region
    have hRw : Blk ((((((wM.setCell ⟨w4.heap.size, 4, none⟩ (.int .u8 (K % 256))).setCell ⟨w4.heap.size, 5, none⟩ (.int .u8 (Y % 256))).setCell ⟨w4.heap.size, 6, none⟩ (.int .u8 (V % 256))).setCell ⟨w4.heap.size, 7, none⟩ (.int .u8 (V / 256 % 256))).setCell ⟨w4.heap.size, 8, none⟩ (.int .u8 (1))).drew) w4.heap.size 5 (([0, 0, 0, 0, K % 256, Y % 256, V % 256, V / 256 % 256, 1, 0, 0, 0, 0, 0, 0, 0] : List Int).map (Value.int .u8)).toArray := by
      have h := (((((hRx.set_ 4 (.int .u8 (K % 256))).set_ 5 (.int .u8 (Y % 256))).set_ 6 (.int .u8 (V % 256))).set_ 7 (.int .u8 (V / 256 % 256))).set_ 8 (.int .u8 (1))).drew
      first | exact h | simpa using h
    have hCw : Blk ((((((wM.setCell ⟨w4.heap.size, 4, none⟩ (.int .u8 (K % 256))).setCell ⟨w4.heap.size, 5, none⟩ (.int .u8 (Y % 256))).setCell ⟨w4.heap.size, 6, none⟩ (.int .u8 (V % 256))).setCell ⟨w4.heap.size, 7, none⟩ (.int .u8 (V / 256 % 256))).setCell ⟨w4.heap.size, 8, none⟩ (.int .u8 (1))).drew) w1.heap.size 24 #[.int .u32 sum, .int .i64 K, .int .i64 Y, .int .i64 V, .int .i64 X] := (((((hCs.far (p := ⟨w4.heap.size, 4, none⟩) hne (.int .u8 (K % 256))).far (p := ⟨w4.heap.size, 5, none⟩) hne (.int .u8 (Y % 256))).far (p := ⟨w4.heap.size, 6, none⟩) hne (.int .u8 (V % 256))).far (p := ⟨w4.heap.size, 7, none⟩) hne (.int .u8 (V / 256 % 256))).far (p := ⟨w4.heap.size, 8, none⟩) hne (.int .u8 (1))).drew
    have belE : Below W.heap.size W ((((((wM.setCell ⟨w4.heap.size, 4, none⟩ (.int .u8 (K % 256))).setCell ⟨w4.heap.size, 5, none⟩ (.int .u8 (Y % 256))).setCell ⟨w4.heap.size, 6, none⟩ (.int .u8 (V % 256))).setCell ⟨w4.heap.size, 7, none⟩ (.int .u8 (V / 256 % 256))).setCell ⟨w4.heap.size, 8, none⟩ (.int .u8 (1))).drew) := Below.drew (((((belwM.setCell (p := ⟨w4.heap.size, 4, none⟩) hWR (.int .u8 (K % 256))).setCell (p := ⟨w4.heap.size, 5, none⟩) hWR (.int .u8 (Y % 256))).setCell (p := ⟨w4.heap.size, 6, none⟩) hWR (.int .u8 (V % 256))).setCell (p := ⟨w4.heap.size, 7, none⟩) hWR (.int .u8 (V / 256 % 256))).setCell (p := ⟨w4.heap.size, 8, none⟩) hWR (.int .u8 (1)))
    generalize (((((wM.setCell ⟨w4.heap.size, 4, none⟩ (.int .u8 (K % 256))).setCell ⟨w4.heap.size, 5, none⟩ (.int .u8 (Y % 256))).setCell ⟨w4.heap.size, 6, none⟩ (.int .u8 (V % 256))).setCell ⟨w4.heap.size, 7, none⟩ (.int .u8 (V / 256 % 256))).setCell ⟨w4.heap.size, 8, none⟩ (.int .u8 (1))).drew = wE at hRw hCw belE ⊢
    clear hRx hCs belwM cC cR fR lC lR hw3s hl3s z8 z9 z4 z5 z6 z7
    have cC := hCw.cell
    go_wp2_with fail
    refine (works_true _).mono ?_
    rintro e w11 ⟨rfl, hb11⟩
    have hY11 : Below wE.heap.size wE w11 := b_then (by repeat first | exact Below.refl _ _ | apply Below.drew | apply b_alloc) hb11
    have bel11 := b_then belE hY11
    clear belE hb11 hY11
    go_wp2_with fail
    go_ret
    exact ⟨rfl, bel11⟩

set_option maxRecDepth 100000 in
theorem lifted (os : Os) (started : os.Started) (H : Type) (enc : TypeId × Value → H) :
    ReturnsInHanded {} Try.checked os 8 .any (Rows.headerRefusesSpec.pre6 enc Try.prog Try.f8 Rows.headerRefusesRow.domain false) (Rows.headerRefusesSpec.post enc Try.prog Try.f8 false true false false) := by
  refine returnsInHanded_of_change (C := Try.checked) own started (by kernel_rfl) Try.func8
    (ChangeSpec.witness6 (enc := enc) (C := Try.checked) false ⟨#[], #[.int .u32 0, .int .u8 0, .int .u8 0, .int .u16 0, .int .u64 0, .int .u8 0, .int .u16 0], []⟩ 8 (by kernel_rfl) (by kernel_rfl) (by kernel_rfl) (by kernel_rfl)) ?_
  intro W base args ds gs before hval0 hW hcnd _
  have hval : ∀ (j : Nat) t v, Try.f8.params[j]? = some t → args[j]? = some v → Value.okWide Try.prog W .any base t v := hval0
  have hW' := hW
  obtain ⟨p, q, hA0, hV, rfl, hfz, hnd⟩ := hW
  have hA : DataW.TrodAll enc Try.prog W 0 (fun _ => true) true Try.f8.params.toList args.toList ds p := hA0
  rw [Try.params8] at hA hval
  obtain ⟨v0, vs0, d0, ds0, p0, q0, hargs, rfl, rfl, h0, r0⟩ := trodAll_cons hA
  obtain ⟨v1, vs1, d1, ds1, p1, q1, rfl, rfl, rfl, h1, r1⟩ := trodAll_cons r0
  obtain ⟨v2, vs2, d2, ds2, p2, q2, rfl, rfl, rfl, h2, r2⟩ := trodAll_cons r1
  obtain ⟨v3, vs3, d3, ds3, p3, q3, rfl, rfl, rfl, h3, r3⟩ := trodAll_cons r2
  obtain ⟨v4, vs4, d4, ds4, p4, q4, rfl, rfl, rfl, h4, r4⟩ := trodAll_cons r3
  obtain ⟨v5, vs5, d5, ds5, p5, q5, rfl, rfl, rfl, h5, r5⟩ := trodAll_cons r4
  obtain ⟨v6, vs6, d6, ds6, p6, q6, rfl, rfl, rfl, h6, r6⟩ := trodAll_cons r5
  obtain ⟨rfl, rfl, rfl⟩ := trodAll_nil r6
  obtain rfl : args = #[v0, v1, v2, v3, v4, v5, v6] := by cases args; simp_all
  obtain ⟨rfl, rfl⟩ := trodVars_none hV
  refine (walk (H := H) (enc := enc) W base (hval 0 22 v0 rfl rfl) h0 (hval 1 5 v1 rfl rfl) h1 (hval 2 5 v2 rfl rfl) h2 (hval 3 44 v3 rfl rfl) h3 (hval 4 45 v4 rfl rfl) h4 (hval 5 5 v5 rfl rfl) h5 (hval 6 44 v6 rfl rfl) h6).mono fun e W' ⟨he, bel⟩ => ?_
  subst he
  exact ⟨_, rfl, _, _, _, [], _, [], hW', trodAll_mk1 (shut_bool Try.underlying4 _), (trodAll_cons_mk (Below.trod laidOut (by kernel_rfl) (of_decide_eq_true (by kernel_rfl)) h0 bel (lt_of_Trod h0)) (trodAll_cons_mk (Below.trod laidOut (by kernel_rfl) (of_decide_eq_true (by kernel_rfl)) h1 bel (lt_of_Trod h1)) (trodAll_cons_mk (Below.trod laidOut (by kernel_rfl) (of_decide_eq_true (by kernel_rfl)) h2 bel (lt_of_Trod h2)) (trodAll_cons_mk (Below.trod laidOut (by kernel_rfl) (of_decide_eq_true (by kernel_rfl)) h3 bel (lt_of_Trod h3)) (trodAll_cons_mk (Below.trod laidOut (by kernel_rfl) (of_decide_eq_true (by kernel_rfl)) h4 bel (lt_of_Trod h4)) (trodAll_cons_mk (Below.trod laidOut (by kernel_rfl) (of_decide_eq_true (by kernel_rfl)) h5 bel (lt_of_Trod h5)) (trodAll_cons_mk (Below.trod laidOut (by kernel_rfl) (of_decide_eq_true (by kernel_rfl)) h6 bel (lt_of_Trod h6)) trodAll_mk0))))))), rfl, bel.frame _, fun h => by cases h⟩

/-- HeaderRefuses: for every seven numbers the law returns true and changes nothing. No condition. -/
theorem proved : Rows.HeaderRefusesSaid :=
  OpenClaim.holds_of_wide 8 Try.f8 rfl rfl rfl rfl rfl rfl rfl ⟨rfl, rfl, rfl, rfl, rfl⟩ rfl rfl rfl rfl rfl (by kernel_rfl) Try.func8 (by kernel_rfl)
    (of_decide_eq_true (by kernel_rfl)) (by unfold Func.isWrapper; first | (rw [if_pos (by decide +kernel)]; kernel_rfl) | (rw [if_neg (by decide +kernel)]; exact ⟨rfl, rfl⟩))
    (fun os started H enc _ => lifted os started H enc)
#print axioms proved
end Go.Proofs.Ytagcaepkbilpbaa.headerRefuses
