/-
  HeaderSums: for every six numbers the law returns true and changes nothing. No condition.
-/
import Derived.Test.YtagcaepkbilpbaaOpen
import Derived.Test.YtagcaepkbilpbaaWks
import Derived.Test.YtagcaepkbilpbaaArg
import Derived.Test.YtagcaepkbilpbaaMd
namespace Go.Proofs.Ytagcaepkbilpbaa.headerSums
open Go.ChangeShapes Go.WideShapes Go.ChangeAt Go.RowKit
open Go.ChangeMaps (open_string shut_string)
set_option linter.unusedVariables false

def hrest (kind key val seq : Int) : List Int := [kind % 256, key % 256, val % 256, val / 256 % 256, seq % 256, seq / 256 % 256, seq / 65536 % 256, seq / 16777216 % 256, seq / 4294967296 % 256, seq / 1099511627776 % 256, seq / 281474976710656 % 256, seq / 72057594037927936 % 256]
theorem RB.from4 {w : World} {B g cap : Nat} {s K Y V Q : Int} (h : IsB w B (.slice (some ⟨g, 0, none⟩) 16 cap) (hbytes s K Y V Q)) : RB w (some ⟨g, 4, none⟩) (hrest K Y V Q) := by
  obtain ⟨A, c, hA, hR⟩ := RB.of_own h
  injection hA with hA1 hA2 hA3
  subst hA1
  rcases hR with ⟨h1, _⟩ | ⟨b, off, hq, hc⟩
  · cases h1
  · injection hq with hq
    injection hq with hq1 hq2
    subst hq1 hq2
    refine .inr ⟨g, 4, rfl, fun i hi => ?_⟩
    have hi' : i < 12 := hi
    have := hc (i + 4) (show i + 4 < 16 by omega)
    rw [show 0 + (i + 4) = 4 + i by omega] at this
    rw [this]
    rfl
def Ks (W : World) (g g' : Nat) (K Y V Q : Int) (w' : World) : Prop := Below W.heap.size W w' ∧ RB w' (some ⟨g, 4, none⟩) (hrest K Y V Q) ∧ RB w' (some ⟨g', 4, none⟩) (hrest K Y V Q) ∧ g < w'.heap.size ∧ g' < w'.heap.size
theorem Ks.after {W : World} {g g' : Nat} {K Y V Q : Int} {w w' : World} (h : Ks W g g' K Y V Q w) (hb : Below w.heap.size w w') : Ks W g g' K Y V Q w' := by
  obtain ⟨hB, r1, r2, l1, l2⟩ := h
  refine ⟨b_then hB hb, r1.keep hb ?_, r2.keep hb ?_, Nat.lt_of_lt_of_le l1 hb.size, Nat.lt_of_lt_of_le l2 hb.size⟩
  · intro b off hq; injection hq with hq; injection hq with hq; omega
  · intro b off hq; injection hq with hq; injection hq with hq; omega
theorem Ks.equal {W : World} (g g' c c' : Nat) (K Y V Q : Int) (w : World) (h : Ks W g g' K Y V Q w) :
    Calls Try.prog 16 #[.slice (some ⟨g, 4, none⟩) 12 c, .slice (some ⟨g', 4, none⟩) 12 c'] w fun e w' => e = .returned (.bool true) ∧ Ks W g g' K Y V Q w' :=
  (equal_same (some ⟨g, 4, none⟩) (some ⟨g', 4, none⟩) c c' (hrest K Y V Q) w h.2.1 h.2.2.1).mono fun e w' ⟨he, hw⟩ => ⟨he, hw ▸ h⟩
theorem Ks.bel {W : World} {g g' : Nat} {K Y V Q : Int} {w : World} (h : Ks W g g' K Y V Q w) : Below W.heap.size W w := h.1
theorem Ks.mk0 {W : World} {g g' : Nat} {K Y V Q : Int} {w : World} (h1 : Below W.heap.size W w) (h2 : RB w (some ⟨g, 4, none⟩) (hrest K Y V Q)) (h3 : RB w (some ⟨g', 4, none⟩) (hrest K Y V Q)) (h4 : g < w.heap.size) (h5 : g' < w.heap.size) : Ks W g g' K Y V Q w := ⟨h1, h2, h3, h4, h5⟩
attribute [irreducible] Ks

set_option maxHeartbeats 1600000 in
theorem walk {H : Type} {enc : TypeId × Value → H} (W : World) (base : Nat) {v0 v1 v2 v3 v4 v5 : Value} {d0 d1 d2 d3 d4 d5 : DataW H} {p0 p1 p2 p3 p4 p5 : List MemPlace} (o0 : Value.okWide Try.prog W .any base 22 v0) (h0 : DataW.Trod enc Try.prog W 0 (fun _ => true) true 22 v0 d0 p0) (o1 : Value.okWide Try.prog W .any base 5 v1) (h1 : DataW.Trod enc Try.prog W 0 (fun _ => true) true 5 v1 d1 p1) (o2 : Value.okWide Try.prog W .any base 5 v2) (h2 : DataW.Trod enc Try.prog W 0 (fun _ => true) true 5 v2 d2 p2) (o3 : Value.okWide Try.prog W .any base 44 v3) (h3 : DataW.Trod enc Try.prog W 0 (fun _ => true) true 44 v3 d3 p3) (o4 : Value.okWide Try.prog W .any base 45 v4) (h4 : DataW.Trod enc Try.prog W 0 (fun _ => true) true 45 v4 d4 p4) (o5 : Value.okWide Try.prog W .any base 22 v5) (h5 : DataW.Trod enc Try.prog W 0 (fun _ => true) true 22 v5 d5 p5) :
    Calls Try.prog 7 #[v0, v1, v2, v3, v4, v5] W fun e W' => e = .returned (.bool true) ∧ Below W.heap.size W W' := by
  obtain ⟨sum, rfl, rfl, rfl, ws⟩ := open_int Try.underlying22 o0 h0
  obtain ⟨kind, rfl, rfl, rfl, wk⟩ := open_int Try.underlying5 o1 h1
  obtain ⟨key, rfl, rfl, rfl, wy⟩ := open_int Try.underlying5 o2 h2
  obtain ⟨val, rfl, rfl, rfl, wv⟩ := open_int Try.underlying44 o3 h3
  obtain ⟨seq, rfl, rfl, rfl, wq⟩ := open_int Try.underlying45 o4 h4
  have bs := bounds_u32 ws
  have bk := bounds_u8 wk
  have by_ := bounds_u8 wy
  have bv := bounds_u16 wv
  have bq := bounds_u64 wq
  obtain ⟨other, rfl, rfl, rfl, wo⟩ := open_int Try.underlying22 o5 h5
  have bo := bounds_u32 wo
  clear wo h5 o5
  clear ws wk wy wv wq h0 o0 h1 o1 h2 o2 h3 o3 h4 o4
  go_enter Try.func7, Try.ntmps7
  go_wp2_with fail
  refine (Made_any sum kind key val seq W (by omega) (by omega) (by omega) (by omega) (by omega) (by omega) (by omega) (by omega)).mono ?_
  rintro e w1 ⟨⟨K, Y, V, Q, rfl, hok⟩, hb1⟩
  have hk := hok_bounds hok
  have hH := (Blk.new w1 24 #[.int .u32 sum, .int .i64 K, .int .i64 Y, .int .i64 V, .int .i64 Q]).alloc (.cells #[.int .u32 other, .int .i64 K, .int .i64 Y, .int .i64 V, .int .i64 Q] 24)
  have hX := Blk.new (w1.alloc (.cells #[.int .u32 sum, .int .i64 K, .int .i64 Y, .int .i64 V, .int .i64 Q] 24)) 24 #[.int .u32 other, .int .i64 K, .int .i64 Y, .int .i64 V, .int .i64 Q]
  rw [show (w1.alloc (.cells #[.int .u32 sum, .int .i64 K, .int .i64 Y, .int .i64 V, .int .i64 Q] 24)).heap.size = w1.heap.size + 1 from by simp] at hX
  have hB1 := b_alloc (b_alloc hb1 (.cells #[.int .u32 sum, .int .i64 K, .int .i64 Y, .int .i64 V, .int .i64 Q] 24)) (.cells #[.int .u32 other, .int .i64 K, .int .i64 Y, .int .i64 V, .int .i64 Q] 24)
  clear hb1
  obtain ⟨k1, k2, k3, k4, k5, k6, k7, k8⟩ := hk
  have y1 : IntKind.i64.wrap (16 + Y) = 16 + Y := by rw [IntKind.wrap_i64]; omega
  have y2 : IntKind.i64.wrap (16 + Y + V) = 16 + Y + V := by rw [IntKind.wrap_i64]; omega
  by_cases hK : K = 3
  · have HS : hsize K Y V = 16 := by simp [hsize, hK]
    have t3 : (K == 3) = true := by simp [hK]
    clear hK
    have HS := Lib.hid HS
    go_wp2_with fail
    refine (size_yes sum K Y V Q _ hok).mono ?_
    rintro e w2 ⟨rfl, hb2⟩
    have hH2 := hH.below hb2 hH.lt
    have hX2 := hX.below hb2 hX.lt
    have hB2 := b_then hB1 hb2
    have cH := hH2.cell
    have cX := hX2.cell
    clear hH hX hB1 hb2
    go_wp2_with fail
    refine (size_yes other K Y V Q _ hok).mono ?_
    rintro e w3 ⟨rfl, hb3⟩
    have hH3 := hH2.below hb3 hH2.lt
    have hX3 := hX2.below hb3 hX2.lt
    have hB3 := b_then hB2 hb3
    clear cH cX
    have cH := hH3.cell
    have cX := hX3.cell
    clear hH2 hX2 hB2 hb3
    go_wp2_with fail
    refine (enc_yes sum K Y V Q _ (by omega) (by omega) hok).mono ?_
    rintro e w4 ⟨⟨v4, rfl, o4⟩, hb4⟩
    have hX4 := hX3.below hb4 hX3.lt
    have hB4 := b_then hB3 hb4
    clear cH cX
    have cX := hX4.cell
    clear hH3 hX3 hB3 hb4
    go_wp2_with fail
    refine (enc_yes other K Y V Q _ (by omega) (by omega) hok).mono ?_
    rintro e w5 ⟨⟨v5, rfl, o5⟩, hb5⟩
    have o4 := o4.later hb5
    have hB5 := b_then hB4 hb5
    clear cX hX4 hB4 hb5
    obtain ⟨g, cap, rfl, _, _, hc, hm, _⟩ := Byts.of_own o4 (hbytes_bd sum K Y V Q) (show 0 < 16 by decide)
    obtain ⟨g', cap', rfl, _, _, hc', hm', _⟩ := Byts.of_own o5 (hbytes_bd other K Y V Q) (show 0 < 16 by decide)
    have hln : (hbytes sum K Y V Q).length = 16 := rfl
    have hln' : (hbytes other K Y V Q).length = 16 := rfl
    rw [hln] at hc o4
    rw [hln'] at hc' o5
    rw [hln, hln']
    have hR := RB.from4 o4
    have hR' := RB.from4 o5
    have hc4 : (16 : Int) ≤ cap := by omega
    have hS0 : Ks W g g' K Y V Q w5 := Ks.mk0 hB5 hR hR' (World.ownsRow.lt o4 g rfl).2 (World.ownsRow.lt o5 g' rfl).2
    have hS1 := hS0.after (Below.drew (Below.refl _ _))
    clear hS0
    have n4 : ¬ cap = 4 := by omega
    have n4x : ¬ cap' = 4 := by omega
    have hc4' : (16 : Int) ≤ cap' := by omega
    clear o4 o5 hln hln' hB5 hR hR'
    go_wp2_with fail
    go_region_held3 (fun w' => Ks W g g' K Y V Q w') (assumption) (first
        | (go_at_call 16; refine (Ks.equal (W := W) g g' _ _ K Y V Q _ (by assumption)).mono ?_; rintro e w' ⟨rfl, hSk⟩)
        | (go_at_call 17; refine (works_true _).mono ?_; rintro e w' ⟨rfl, hbk⟩; have hSk := Ks.after (by assumption) hbk))
    go_wp2_with fail
    go_ret
    rename_i hEnd
    exact ⟨rfl, hEnd.bel⟩
  · have HS : hsize K Y V = 16 + Y + V := by simp [hsize, hK]
    have t3 : (K == 3) = false := by simp [hK]
    clear hK
    have HS := Lib.hid HS
    go_wp2_with fail
    refine (size_yes sum K Y V Q _ hok).mono ?_
    rintro e w2 ⟨rfl, hb2⟩
    have hH2 := hH.below hb2 hH.lt
    have hX2 := hX.below hb2 hX.lt
    have hB2 := b_then hB1 hb2
    have cH := hH2.cell
    have cX := hX2.cell
    clear hH hX hB1 hb2
    go_wp2_with fail
    refine (size_yes other K Y V Q _ hok).mono ?_
    rintro e w3 ⟨rfl, hb3⟩
    have hH3 := hH2.below hb3 hH2.lt
    have hX3 := hX2.below hb3 hX2.lt
    have hB3 := b_then hB2 hb3
    clear cH cX
    have cH := hH3.cell
    have cX := hX3.cell
    clear hH2 hX2 hB2 hb3
    go_wp2_with fail
    refine (enc_yes sum K Y V Q _ (by omega) (by omega) hok).mono ?_
    rintro e w4 ⟨⟨v4, rfl, o4⟩, hb4⟩
    have hX4 := hX3.below hb4 hX3.lt
    have hB4 := b_then hB3 hb4
    clear cH cX
    have cX := hX4.cell
    clear hH3 hX3 hB3 hb4
    go_wp2_with fail
    refine (enc_yes other K Y V Q _ (by omega) (by omega) hok).mono ?_
    rintro e w5 ⟨⟨v5, rfl, o5⟩, hb5⟩
    have o4 := o4.later hb5
    have hB5 := b_then hB4 hb5
    clear cX hX4 hB4 hb5
    obtain ⟨g, cap, rfl, _, _, hc, hm, _⟩ := Byts.of_own o4 (hbytes_bd sum K Y V Q) (show 0 < 16 by decide)
    obtain ⟨g', cap', rfl, _, _, hc', hm', _⟩ := Byts.of_own o5 (hbytes_bd other K Y V Q) (show 0 < 16 by decide)
    have hln : (hbytes sum K Y V Q).length = 16 := rfl
    have hln' : (hbytes other K Y V Q).length = 16 := rfl
    rw [hln] at hc o4
    rw [hln'] at hc' o5
    rw [hln, hln']
    have hR := RB.from4 o4
    have hR' := RB.from4 o5
    have hc4 : (16 : Int) ≤ cap := by omega
    have hS0 : Ks W g g' K Y V Q w5 := Ks.mk0 hB5 hR hR' (World.ownsRow.lt o4 g rfl).2 (World.ownsRow.lt o5 g' rfl).2
    have hS1 := hS0.after (Below.drew (Below.refl _ _))
    clear hS0
    have n4 : ¬ cap = 4 := by omega
    have n4x : ¬ cap' = 4 := by omega
    have hc4' : (16 : Int) ≤ cap' := by omega
    clear o4 o5 hln hln' hB5 hR hR'
    go_wp2_with fail
    go_region_held3 (fun w' => Ks W g g' K Y V Q w') (assumption) (first
        | (go_at_call 16; refine (Ks.equal (W := W) g g' _ _ K Y V Q _ (by assumption)).mono ?_; rintro e w' ⟨rfl, hSk⟩)
        | (go_at_call 17; refine (works_true _).mono ?_; rintro e w' ⟨rfl, hbk⟩; have hSk := Ks.after (by assumption) hbk))
    go_wp2_with fail
    go_ret
    rename_i hEnd
    exact ⟨rfl, hEnd.bel⟩

set_option maxRecDepth 100000 in
theorem lifted (os : Os) (started : os.Started) (H : Type) (enc : TypeId × Value → H) :
    ReturnsInHanded {} Try.checked os 7 .any (Rows.headerSumsSpec.pre6 enc Try.prog Try.f7 Rows.headerSumsRow.domain false) (Rows.headerSumsSpec.post enc Try.prog Try.f7 false true false false) := by
  refine returnsInHanded_of_change (C := Try.checked) own started (by kernel_rfl) Try.func7
    (ChangeSpec.witness6 (enc := enc) (C := Try.checked) false ⟨#[], #[.int .u32 0, .int .u8 0, .int .u8 0, .int .u16 0, .int .u64 0, .int .u32 0], []⟩ 8 (by kernel_rfl) (by kernel_rfl) (by kernel_rfl) (by kernel_rfl)) ?_
  intro W base args ds gs before hval0 hW hcnd _
  have hval : ∀ (j : Nat) t v, Try.f7.params[j]? = some t → args[j]? = some v → Value.okWide Try.prog W .any base t v := hval0
  have hW' := hW
  obtain ⟨p, q, hA0, hV, rfl, hfz, hnd⟩ := hW
  have hA : DataW.TrodAll enc Try.prog W 0 (fun _ => true) true Try.f7.params.toList args.toList ds p := hA0
  rw [Try.params7] at hA hval
  obtain ⟨v0, vs0, d0, ds0, p0, q0, hargs, rfl, rfl, h0, r0⟩ := trodAll_cons hA
  obtain ⟨v1, vs1, d1, ds1, p1, q1, rfl, rfl, rfl, h1, r1⟩ := trodAll_cons r0
  obtain ⟨v2, vs2, d2, ds2, p2, q2, rfl, rfl, rfl, h2, r2⟩ := trodAll_cons r1
  obtain ⟨v3, vs3, d3, ds3, p3, q3, rfl, rfl, rfl, h3, r3⟩ := trodAll_cons r2
  obtain ⟨v4, vs4, d4, ds4, p4, q4, rfl, rfl, rfl, h4, r4⟩ := trodAll_cons r3
  obtain ⟨v5, vs5, d5, ds5, p5, q5, rfl, rfl, rfl, h5, r5⟩ := trodAll_cons r4
  obtain ⟨rfl, rfl, rfl⟩ := trodAll_nil r5
  obtain rfl : args = #[v0, v1, v2, v3, v4, v5] := by cases args; simp_all
  obtain ⟨rfl, rfl⟩ := trodVars_none hV
  refine (walk W base (hval 0 22 v0 rfl rfl) h0 (hval 1 5 v1 rfl rfl) h1 (hval 2 5 v2 rfl rfl) h2 (hval 3 44 v3 rfl rfl) h3 (hval 4 45 v4 rfl rfl) h4 (hval 5 22 v5 rfl rfl) h5).mono fun e W' ⟨he, bel⟩ => ?_
  subst he
  exact ⟨_, rfl, _, _, _, [], _, [], hW', trodAll_mk1 (shut_bool Try.underlying4 _), (trodAll_cons_mk (Below.trod laidOut (by kernel_rfl) (of_decide_eq_true (by kernel_rfl)) h0 bel (lt_of_Trod h0)) (trodAll_cons_mk (Below.trod laidOut (by kernel_rfl) (of_decide_eq_true (by kernel_rfl)) h1 bel (lt_of_Trod h1)) (trodAll_cons_mk (Below.trod laidOut (by kernel_rfl) (of_decide_eq_true (by kernel_rfl)) h2 bel (lt_of_Trod h2)) (trodAll_cons_mk (Below.trod laidOut (by kernel_rfl) (of_decide_eq_true (by kernel_rfl)) h3 bel (lt_of_Trod h3)) (trodAll_cons_mk (Below.trod laidOut (by kernel_rfl) (of_decide_eq_true (by kernel_rfl)) h4 bel (lt_of_Trod h4)) (trodAll_cons_mk (Below.trod laidOut (by kernel_rfl) (of_decide_eq_true (by kernel_rfl)) h5 bel (lt_of_Trod h5)) trodAll_mk0)))))), rfl, bel.frame _, fun h => by cases h⟩

/-- HeaderSums: for every six numbers the law returns true and changes nothing. No condition. -/
theorem proved : Rows.HeaderSumsSaid :=
  OpenClaim.holds_of_wide 7 Try.f7 rfl rfl rfl rfl rfl rfl rfl ⟨rfl, rfl, rfl, rfl, rfl⟩ rfl rfl rfl rfl rfl (by kernel_rfl) Try.func7 (by kernel_rfl)
    (of_decide_eq_true (by kernel_rfl)) (by unfold Func.isWrapper; first | (rw [if_pos (by decide +kernel)]; kernel_rfl) | (rw [if_neg (by decide +kernel)]; exact ⟨rfl, rfl⟩))
    (fun os started H enc _ => lifted os started H enc)
#print axioms proved
end Go.Proofs.Ytagcaepkbilpbaa.headerSums
