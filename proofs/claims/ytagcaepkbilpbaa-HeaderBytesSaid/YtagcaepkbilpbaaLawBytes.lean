/-
  HeaderBytes: for every five numbers the law returns true and changes nothing. No condition.
-/
import Derived.Test.YtagcaepkbilpbaaOpen
import Derived.Test.YtagcaepkbilpbaaWks
import Derived.Test.YtagcaepkbilpbaaArg
import Derived.Test.YtagcaepkbilpbaaMd
namespace Go.Proofs.Ytagcaepkbilpbaa.headerBytes
open Go.ChangeShapes Go.WideShapes Go.ChangeAt Go.RowKit
open Go.ChangeMaps (open_string shut_string)
set_option linter.unusedVariables false

theorem wrap_u8' (n : Int) : IntKind.u8.wrap n = n % 256 := IntKind.wrap_u8 n
theorem hb_cells {w : World} {g cap : Nat} {sum K Y V Q : Int} (h : Byts w (some ⟨g, 0, none⟩) 16 cap (fun i => (hbytes sum K Y V Q).getD i 0)) :
    w.cell? ⟨g, 0, none⟩ = some (.int .u8 (sum % 256)) ∧
    w.cell? ⟨g, 1, none⟩ = some (.int .u8 (sum / 256 % 256)) ∧
    w.cell? ⟨g, 2, none⟩ = some (.int .u8 (sum / 65536 % 256)) ∧
    w.cell? ⟨g, 3, none⟩ = some (.int .u8 (sum / 16777216 % 256)) ∧
    w.cell? ⟨g, 4, none⟩ = some (.int .u8 (K % 256)) ∧
    w.cell? ⟨g, 5, none⟩ = some (.int .u8 (Y % 256)) ∧
    w.cell? ⟨g, 6, none⟩ = some (.int .u8 (V % 256)) ∧
    w.cell? ⟨g, 7, none⟩ = some (.int .u8 (V / 256 % 256)) ∧
    w.cell? ⟨g, 8, none⟩ = some (.int .u8 (Q % 256)) ∧
    w.cell? ⟨g, 9, none⟩ = some (.int .u8 (Q / 256 % 256)) ∧
    w.cell? ⟨g, 10, none⟩ = some (.int .u8 (Q / 65536 % 256)) ∧
    w.cell? ⟨g, 11, none⟩ = some (.int .u8 (Q / 16777216 % 256)) ∧
    w.cell? ⟨g, 12, none⟩ = some (.int .u8 (Q / 4294967296 % 256)) ∧
    w.cell? ⟨g, 13, none⟩ = some (.int .u8 (Q / 1099511627776 % 256)) ∧
    w.cell? ⟨g, 14, none⟩ = some (.int .u8 (Q / 281474976710656 % 256)) ∧
    w.cell? ⟨g, 15, none⟩ = some (.int .u8 (Q / 72057594037927936 % 256)) := by
  obtain ⟨b, off, hq, _, hc⟩ := h.2.2.2 (by omega)
  injection hq with hq
  injection hq with hq1 hq2
  subst hq1 hq2
  have hc' : ∀ i, i < 16 → w.cell? ⟨g, i, none⟩ = some (.int .u8 ((hbytes sum K Y V Q).getD i 0)) := fun i hi => by have := hc i hi; rwa [Nat.zero_add] at this
  exact ⟨hc' 0 (by omega), hc' 1 (by omega), hc' 2 (by omega), hc' 3 (by omega), hc' 4 (by omega), hc' 5 (by omega), hc' 6 (by omega), hc' 7 (by omega), hc' 8 (by omega), hc' 9 (by omega), hc' 10 (by omega), hc' 11 (by omega), hc' 12 (by omega), hc' 13 (by omega), hc' 14 (by omega), hc' 15 (by omega)⟩

def KB (W : World) (g hb : Nat) (w' : World) : Prop := Below W.heap.size W w' ∧ g < w'.heap.size ∧ hb < w'.heap.size
abbrev CB (W : World) (g hb : Nat) (K Y V A B : Int) (w' : World) : Prop := w'.cell? ⟨g, 4, none⟩ = some (.int .u8 K) ∧ w'.cell? ⟨g, 5, none⟩ = some (.int .u8 Y) ∧ w'.cell? ⟨g, 6, none⟩ = some (.int .u8 A) ∧ w'.cell? ⟨g, 7, none⟩ = some (.int .u8 B) ∧ w'.cell? ⟨hb, 1, none⟩ = some (.int .i64 K) ∧ w'.cell? ⟨hb, 2, none⟩ = some (.int .i64 Y) ∧ w'.cell? ⟨hb, 3, none⟩ = some (.int .i64 V) ∧ KB W g hb w'
theorem CB.after {W : World} {g hb : Nat} {K Y V A B : Int} {w w' : World} (h : CB W g hb K Y V A B w) (hbl : Below w.heap.size w w') : CB W g hb K Y V A B w' := by
  obtain ⟨c0, c1, c2, c3, d0, d1, d2, hK, l1, l2⟩ := h
  exact ⟨(hbl.cell (p := ⟨g, 4, none⟩) l1).trans c0, (hbl.cell (p := ⟨g, 5, none⟩) l1).trans c1, (hbl.cell (p := ⟨g, 6, none⟩) l1).trans c2, (hbl.cell (p := ⟨g, 7, none⟩) l1).trans c3,
    (hbl.cell (p := ⟨hb, 1, none⟩) l2).trans d0, (hbl.cell (p := ⟨hb, 2, none⟩) l2).trans d1, (hbl.cell (p := ⟨hb, 3, none⟩) l2).trans d2, b_then hK hbl, Nat.lt_of_lt_of_le l1 hbl.size, Nat.lt_of_lt_of_le l2 hbl.size⟩
theorem CB.drew {W : World} {g hb : Nat} {K Y V A B : Int} {w : World} (h : CB W g hb K Y V A B w) : CB W g hb K Y V A B w.drew := h.after (Below.drew (Below.refl _ _))

set_option maxHeartbeats 6400000 in
theorem walk {H : Type} {enc : TypeId × Value → H} (W : World) (base : Nat) {v0 v1 v2 v3 v4 : Value} {d0 d1 d2 d3 d4 : DataW H} {p0 p1 p2 p3 p4 : List MemPlace} (o0 : Value.okWide Try.prog W .any base 22 v0) (h0 : DataW.Trod enc Try.prog W 0 (fun _ => true) true 22 v0 d0 p0) (o1 : Value.okWide Try.prog W .any base 5 v1) (h1 : DataW.Trod enc Try.prog W 0 (fun _ => true) true 5 v1 d1 p1) (o2 : Value.okWide Try.prog W .any base 5 v2) (h2 : DataW.Trod enc Try.prog W 0 (fun _ => true) true 5 v2 d2 p2) (o3 : Value.okWide Try.prog W .any base 44 v3) (h3 : DataW.Trod enc Try.prog W 0 (fun _ => true) true 44 v3 d3 p3) (o4 : Value.okWide Try.prog W .any base 45 v4) (h4 : DataW.Trod enc Try.prog W 0 (fun _ => true) true 45 v4 d4 p4) :
    Calls Try.prog 5 #[v0, v1, v2, v3, v4] W fun e W' => e = .returned (.bool true) ∧ Below W.heap.size W W' := by
  obtain ⟨sum, rfl, rfl, rfl, ws⟩ := open_int Try.underlying22 o0 h0
  obtain ⟨kind, rfl, rfl, rfl, wk⟩ := open_int Try.underlying5 o1 h1
  obtain ⟨key, rfl, rfl, rfl, wy⟩ := open_int Try.underlying5 o2 h2
  obtain ⟨val, rfl, rfl, rfl, wv⟩ := open_int Try.underlying44 o3 h3
  obtain ⟨seq, rfl, rfl, rfl, wq⟩ := open_int Try.underlying45 o4 h4
  have bs := bounds_u32 ws
  have bk := bounds_u8 wk
  have by_ := bounds_u8 wy
  have bv := bounds_u16 wv
  have bq := bounds_u64 wq
  clear ws wk wy wv wq h0 o0 h1 o1 h2 o2 h3 o3 h4 o4
  have z0 : IntKind.i64.wrap 0 = 0 := by decide
  have z8 : IntKind.i64.wrap 8 = 8 := by decide
  have z9 : IntKind.i64.wrap 9 = 9 := by decide
  have z10 : IntKind.i64.wrap 10 = 10 := by decide
  have z11 : IntKind.i64.wrap 11 = 11 := by decide
  have z12 : IntKind.i64.wrap 12 = 12 := by decide
  have z13 : IntKind.i64.wrap 13 = 13 := by decide
  have z14 : IntKind.i64.wrap 14 = 14 := by decide
  have z15 : IntKind.i64.wrap 15 = 15 := by decide
  have z16 : IntKind.i64.wrap 16 = 16 := by decide
  have z24 : IntKind.i64.wrap 24 = 24 := by decide
  have z32 : IntKind.i64.wrap 32 = 32 := by decide
  have z40 : IntKind.i64.wrap 40 = 40 := by decide
  have z48 : IntKind.i64.wrap 48 = 48 := by decide
  have z56 : IntKind.i64.wrap 56 = 56 := by decide
  go_enter Try.func5, Try.ntmps5
  go_wp2_with fail
  refine (Made_any sum kind key val seq W (by omega) (by omega) (by omega) (by omega) (by omega) (by omega) (by omega) (by omega)).mono ?_
  rintro e w1 ⟨⟨K, Y, V, Q, rfl, hok⟩, hb1⟩
  have hk := hok_bounds hok
  have u0 : IntKind.u8.wrap (sum) = sum % 256 := wrap_u8' _
  have u1 : IntKind.u8.wrap (sum / 256) = sum / 256 % 256 := wrap_u8' _
  have u2 : IntKind.u8.wrap (sum / 65536) = sum / 65536 % 256 := wrap_u8' _
  have u3 : IntKind.u8.wrap (sum / 16777216) = sum / 16777216 % 256 := wrap_u8' _
  have u4 : IntKind.u8.wrap (K) = K % 256 := wrap_u8' _
  have u5 : IntKind.u8.wrap (Y) = Y % 256 := wrap_u8' _
  have u6 : IntKind.u8.wrap (V) = V % 256 := wrap_u8' _
  have u7 : IntKind.u8.wrap (V / 256) = V / 256 % 256 := wrap_u8' _
  have u8 : IntKind.u8.wrap (Q) = Q % 256 := wrap_u8' _
  have u9 : IntKind.u8.wrap (Q / 256) = Q / 256 % 256 := wrap_u8' _
  have u10 : IntKind.u8.wrap (Q / 65536) = Q / 65536 % 256 := wrap_u8' _
  have u11 : IntKind.u8.wrap (Q / 16777216) = Q / 16777216 % 256 := wrap_u8' _
  have u12 : IntKind.u8.wrap (Q / 4294967296) = Q / 4294967296 % 256 := wrap_u8' _
  have u13 : IntKind.u8.wrap (Q / 1099511627776) = Q / 1099511627776 % 256 := wrap_u8' _
  have u14 : IntKind.u8.wrap (Q / 281474976710656) = Q / 281474976710656 % 256 := wrap_u8' _
  have u15 : IntKind.u8.wrap (Q / 72057594037927936) = Q / 72057594037927936 % 256 := wrap_u8' _
  go_wp2_with fail
  refine (enc_yes sum K Y V Q _ (by omega) (by omega) hok).mono ?_
  rintro e w2 ⟨⟨v2, rfl, o2⟩, hb2⟩
  have hH := (Blk.new w1 24 #[.int .u32 sum, .int .i64 K, .int .i64 Y, .int .i64 V, .int .i64 Q]).below hb2 (by simp)
  have hB2 := b_then (b_alloc hb1 (.cells #[.int .u32 sum, .int .i64 K, .int .i64 Y, .int .i64 V, .int .i64 Q] 24)) hb2
  obtain ⟨g, cap, rfl, hg, hgl, hc, hm, hby⟩ := Byts.of_own o2 (hbytes_bd sum K Y V Q) (show 0 < 16 by decide)
  obtain ⟨c0, c1, c2, c3, c4, c5, c6, c7, c8, c9, c10, c11, c12, c13, c14, c15⟩ := hb_cells hby
  have cH := hH.cell
  have hHl := hH.lt
  have hln : (hbytes sum K Y V Q).length = 16 := rfl
  rw [hln]
  rw [hln] at hc
  clear hH hb2 hby o2 hg
  go_wp2_with fail
  refine wp_loop_rounds 5 ?_
  rw [rounds_succ]
  go_wp2_with fail
  go_region_held3 (fun w' => w'.cell? ⟨g, 0, none⟩ = some (.int .u8 (sum % 256)) ∧ w'.cell? ⟨w1.heap.size, 0, none⟩ = some (.int .u32 sum)) (simp [*]) (fail)
  go_wp2_with fail
  rw [rounds_succ]
  go_wp2_with fail
  go_region_held3 (fun w' => w'.cell? ⟨g, 1, none⟩ = some (.int .u8 (sum / 256 % 256)) ∧ w'.cell? ⟨w1.heap.size, 0, none⟩ = some (.int .u32 sum)) (simp [*]) (fail)
  go_wp2_with fail
  rw [rounds_succ]
  go_wp2_with fail
  go_region_held3 (fun w' => w'.cell? ⟨g, 2, none⟩ = some (.int .u8 (sum / 65536 % 256)) ∧ w'.cell? ⟨w1.heap.size, 0, none⟩ = some (.int .u32 sum)) (simp [*]) (fail)
  go_wp2_with fail
  rw [rounds_succ]
  go_wp2_with fail
  go_region_held3 (fun w' => w'.cell? ⟨g, 3, none⟩ = some (.int .u8 (sum / 16777216 % 256)) ∧ w'.cell? ⟨w1.heap.size, 0, none⟩ = some (.int .u32 sum)) (simp [*]) (fail)
  go_wp2_with fail
  rw [rounds_succ]
  go_wp2_with fail
  refine wp_loop_rounds 9 ?_
  rw [rounds_succ]
  go_wp2_with fail
  go_region_held3 (fun w' => w'.cell? ⟨g, 8, none⟩ = some (.int .u8 (Q % 256)) ∧ w'.cell? ⟨w1.heap.size, 4, none⟩ = some (.int .i64 Q)) (simp [*]) (fail)
  go_wp2_with fail
  rw [rounds_succ]
  go_wp2_with fail
  go_region_held3 (fun w' => w'.cell? ⟨g, 9, none⟩ = some (.int .u8 (Q / 256 % 256)) ∧ w'.cell? ⟨w1.heap.size, 4, none⟩ = some (.int .i64 Q)) (simp [*]) (fail)
  go_wp2_with fail
  rw [rounds_succ]
  go_wp2_with fail
  go_region_held3 (fun w' => w'.cell? ⟨g, 10, none⟩ = some (.int .u8 (Q / 65536 % 256)) ∧ w'.cell? ⟨w1.heap.size, 4, none⟩ = some (.int .i64 Q)) (simp [*]) (fail)
  go_wp2_with fail
  rw [rounds_succ]
  go_wp2_with fail
  go_region_held3 (fun w' => w'.cell? ⟨g, 11, none⟩ = some (.int .u8 (Q / 16777216 % 256)) ∧ w'.cell? ⟨w1.heap.size, 4, none⟩ = some (.int .i64 Q)) (simp [*]) (fail)
  go_wp2_with fail
  rw [rounds_succ]
  go_wp2_with fail
  go_region_held3 (fun w' => w'.cell? ⟨g, 12, none⟩ = some (.int .u8 (Q / 4294967296 % 256)) ∧ w'.cell? ⟨w1.heap.size, 4, none⟩ = some (.int .i64 Q)) (simp [*]) (fail)
  go_wp2_with fail
  rw [rounds_succ]
  go_wp2_with fail
  go_region_held3 (fun w' => w'.cell? ⟨g, 13, none⟩ = some (.int .u8 (Q / 1099511627776 % 256)) ∧ w'.cell? ⟨w1.heap.size, 4, none⟩ = some (.int .i64 Q)) (simp [*]) (fail)
  go_wp2_with fail
  rw [rounds_succ]
  go_wp2_with fail
  go_region_held3 (fun w' => w'.cell? ⟨g, 14, none⟩ = some (.int .u8 (Q / 281474976710656 % 256)) ∧ w'.cell? ⟨w1.heap.size, 4, none⟩ = some (.int .i64 Q)) (simp [*]) (fail)
  go_wp2_with fail
  rw [rounds_succ]
  go_wp2_with fail
  go_region_held3 (fun w' => w'.cell? ⟨g, 15, none⟩ = some (.int .u8 (Q / 72057594037927936 % 256)) ∧ w'.cell? ⟨w1.heap.size, 4, none⟩ = some (.int .i64 Q)) (simp [*]) (fail)
  go_wp2_with fail
  rw [rounds_succ]
  go_wp2_with fail
  rw [show K % 256 = K by omega] at c4
  rw [show Y % 256 = Y by omega] at c5
  obtain ⟨A, hA⟩ : ∃ A, A = V % 256 := ⟨_, rfl⟩
  obtain ⟨B, hB⟩ : ∃ B, B = V / 256 % 256 := ⟨_, rfl⟩
  rw [← hA] at c6
  rw [← hB] at c7
  have a0 : 0 ≤ A := by omega
  have a1 : A ≤ 255 := by omega
  have e0 : 0 ≤ B := by omega
  have e1 : B ≤ 255 := by omega
  have wK : IntKind.i64.wrap K = K := by rw [IntKind.wrap_i64]; omega
  have wY : IntKind.i64.wrap Y = Y := by rw [IntKind.wrap_i64]; omega
  have wA : IntKind.i64.wrap A = A := by rw [IntKind.wrap_i64]; omega
  have wB : IntKind.i64.wrap B = B := by rw [IntKind.wrap_i64]; omega
  have wV : IntKind.i64.wrap (256 * B) = 256 * B := by rw [IntKind.wrap_i64]; omega
  have wW : IntKind.i64.wrap (A + 256 * B) = V := by rw [IntKind.wrap_i64]; omega
  have hEnd0 : CB W g w1.heap.size K Y V A B w2 := ⟨c4, c5, c6, c7, cH 1, cH 2, cH 3, hB2, hgl, hHl⟩
  clear hA hB c0 c1 c2 c3 c8 c9 c10 c11 c12 c13 c14 c15 u0 u1 u2 u3 u4 u5 u6 u7 u8 u9 u10 u11 u12 u13 u14 u15
  have hEnd1 := hEnd0.drew.drew.drew.drew.drew.drew.drew.drew.drew.drew.drew.drew.drew
  go_region_held3 (fun w' => w'.cell? ⟨g, 4, none⟩ = some (.int .u8 K) ∧ w'.cell? ⟨g, 5, none⟩ = some (.int .u8 Y) ∧ w'.cell? ⟨g, 6, none⟩ = some (.int .u8 A) ∧ w'.cell? ⟨g, 7, none⟩ = some (.int .u8 B) ∧ w'.cell? ⟨w1.heap.size, 1, none⟩ = some (.int .i64 K) ∧ w'.cell? ⟨w1.heap.size, 2, none⟩ = some (.int .i64 Y) ∧ w'.cell? ⟨w1.heap.size, 3, none⟩ = some (.int .i64 V) ∧ KB W g w1.heap.size w') (first | assumption | exact hEnd1) (first
      | (go_at_call 17; refine (works_true _).mono ?_; rintro e w' ⟨rfl, hbk⟩; have hSk := CB.after (by assumption) hbk))
  go_wp2_with fail
  go_ret
  rename_i hEnd
  exact ⟨rfl, hEnd.2.2.2.2.2.2.2.1⟩

set_option maxRecDepth 100000 in
theorem lifted (os : Os) (started : os.Started) (H : Type) (enc : TypeId × Value → H) :
    ReturnsInHanded {} Try.checked os 5 .any (Rows.headerBytesSpec.pre6 enc Try.prog Try.f5 Rows.headerBytesRow.domain false) (Rows.headerBytesSpec.post enc Try.prog Try.f5 false true false false) := by
  refine returnsInHanded_of_change (C := Try.checked) own started (by kernel_rfl) Try.func5
    (ChangeSpec.witness6 (enc := enc) (C := Try.checked) false ⟨#[], #[.int .u32 0, .int .u8 0, .int .u8 0, .int .u16 0, .int .u64 0], []⟩ 8 (by kernel_rfl) (by kernel_rfl) (by kernel_rfl) (by kernel_rfl)) ?_
  intro W base args ds gs before hval0 hW hcnd _
  have hval : ∀ (j : Nat) t v, Try.f5.params[j]? = some t → args[j]? = some v → Value.okWide Try.prog W .any base t v := hval0
  have hW' := hW
  obtain ⟨p, q, hA0, hV, rfl, hfz, hnd⟩ := hW
  have hA : DataW.TrodAll enc Try.prog W 0 (fun _ => true) true Try.f5.params.toList args.toList ds p := hA0
  rw [Try.params5] at hA hval
  obtain ⟨v0, vs0, d0, ds0, p0, q0, hargs, rfl, rfl, h0, r0⟩ := trodAll_cons hA
  obtain ⟨v1, vs1, d1, ds1, p1, q1, rfl, rfl, rfl, h1, r1⟩ := trodAll_cons r0
  obtain ⟨v2, vs2, d2, ds2, p2, q2, rfl, rfl, rfl, h2, r2⟩ := trodAll_cons r1
  obtain ⟨v3, vs3, d3, ds3, p3, q3, rfl, rfl, rfl, h3, r3⟩ := trodAll_cons r2
  obtain ⟨v4, vs4, d4, ds4, p4, q4, rfl, rfl, rfl, h4, r4⟩ := trodAll_cons r3
  obtain ⟨rfl, rfl, rfl⟩ := trodAll_nil r4
  obtain rfl : args = #[v0, v1, v2, v3, v4] := by cases args; simp_all
  obtain ⟨rfl, rfl⟩ := trodVars_none hV
  refine (walk W base (hval 0 22 v0 rfl rfl) h0 (hval 1 5 v1 rfl rfl) h1 (hval 2 5 v2 rfl rfl) h2 (hval 3 44 v3 rfl rfl) h3 (hval 4 45 v4 rfl rfl) h4).mono fun e W' ⟨he, bel⟩ => ?_
  subst he
  exact ⟨_, rfl, _, _, _, [], _, [], hW', trodAll_mk1 (shut_bool Try.underlying4 _), (trodAll_cons_mk (Below.trod laidOut (by kernel_rfl) (of_decide_eq_true (by kernel_rfl)) h0 bel (lt_of_Trod h0)) (trodAll_cons_mk (Below.trod laidOut (by kernel_rfl) (of_decide_eq_true (by kernel_rfl)) h1 bel (lt_of_Trod h1)) (trodAll_cons_mk (Below.trod laidOut (by kernel_rfl) (of_decide_eq_true (by kernel_rfl)) h2 bel (lt_of_Trod h2)) (trodAll_cons_mk (Below.trod laidOut (by kernel_rfl) (of_decide_eq_true (by kernel_rfl)) h3 bel (lt_of_Trod h3)) (trodAll_cons_mk (Below.trod laidOut (by kernel_rfl) (of_decide_eq_true (by kernel_rfl)) h4 bel (lt_of_Trod h4)) trodAll_mk0))))), rfl, bel.frame _, fun h => by cases h⟩

/-- HeaderBytes: for every five numbers the law returns true and changes nothing. No condition. -/
theorem proved : Rows.HeaderBytesSaid :=
  OpenClaim.holds_of_wide 5 Try.f5 rfl rfl rfl rfl rfl rfl rfl ⟨rfl, rfl, rfl, rfl, rfl⟩ rfl rfl rfl rfl rfl (by kernel_rfl) Try.func5 (by kernel_rfl)
    (of_decide_eq_true (by kernel_rfl)) (by unfold Func.isWrapper; first | (rw [if_pos (by decide +kernel)]; kernel_rfl) | (rw [if_neg (by decide +kernel)]; exact ⟨rfl, rfl⟩))
    (fun os started H enc _ => lifted os started H enc)
#print axioms proved
end Go.Proofs.Ytagcaepkbilpbaa.headerBytes
