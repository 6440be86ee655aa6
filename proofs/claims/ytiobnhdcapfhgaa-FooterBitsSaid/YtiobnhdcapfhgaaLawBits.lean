/-
  FooterBits: for every four numbers the law returns true and changes nothing. No condition.
-/
import Derived.Test.YtiobnhdcapfhgaaOpen
import Derived.Test.YtiobnhdcapfhgaaArg
import Derived.Test.YtiobnhdcapfhgaaFmd
import Derived.Test.YtiobnhdcapfhgaaFdr
import Derived.Test.YtiobnhdcapfhgaaChgm
namespace Go.Proofs.Ytiobnhdcapfhgaa.footerBits
open Go.ChangeShapes Go.WideShapes Go.ChangeAt Go.RowKit
open Go.ChangeMaps (open_string shut_string)
set_option linter.unusedVariables false

set_option maxHeartbeats 6400000 in
set_option maxRecDepth 100000 in
theorem walk {H : Type} {enc : TypeId × Value → H} (W : World) (base : Nat) {v0 v1 v2 v3 : Value} {d0 d1 d2 d3 : DataW H} {p0 p1 p2 p3 : List MemPlace} (o0 : Value.okWide Try.prog W .any base 41 v0) (h0 : DataW.Trod enc Try.prog W 0 (fun _ => true) true 41 v0 d0 p0) (o1 : Value.okWide Try.prog W .any base 2 v1) (h1 : DataW.Trod enc Try.prog W 0 (fun _ => true) true 2 v1 d1 p1) (o2 : Value.okWide Try.prog W .any base 5 v2) (h2 : DataW.Trod enc Try.prog W 0 (fun _ => true) true 5 v2 d2 p2) (o3 : Value.okWide Try.prog W .any base 5 v3) (h3 : DataW.Trod enc Try.prog W 0 (fun _ => true) true 5 v3 d3 p3) :
    Calls Try.prog 5 #[v0, v1, v2, v3] W fun e W' => e = .returned (.bool true) ∧ Below W.heap.size W W' := by
  obtain ⟨ct, rfl, rfl, rfl, wc⟩ := open_int Try.underlying41 o0 h0
  obtain ⟨la, rfl, rfl, rfl, wl⟩ := open_int Try.underlying2 o1 h1
  obtain ⟨bit, rfl, rfl, rfl, wb⟩ := open_int Try.underlying5 o2 h2
  obtain ⟨lg, rfl, rfl, rfl, wg⟩ := open_int Try.underlying5 o3 h3
  obtain ⟨ct0, ct1⟩ := bounds_u16 wc
  obtain ⟨bit0, bit1⟩ := bounds_u8 wb
  obtain ⟨lg0, lg1⟩ := bounds_u8 wg
  clear wc wl wb wg h0 o0 h1 o1 h2 o2 h3 o3
  have hmd := fun w => made_any ct la w ct0 ct1
  have hok := made_ok (la := la) ct0 ct1
  obtain ⟨l, hl⟩ : ∃ l, l = madeL ct la := ⟨_, rfl⟩
  rw [← hl] at hok hmd
  clear hl
  have hen := fun w => fen_yes hok w
  have hbt := fun {k : Nat} (hk : k < 128) => fbit hok hk
  -- the length, the bit
  obtain ⟨n, hn⟩ : ∃ n : Nat, lg % 16 = (n : Int) := ⟨(lg % 16).toNat, by omega⟩
  have hn16 : n < 16 := by omega
  have t1 : lg.tmod 16 = (n : Int) := by rw [Int.tmod_eq_emod_of_nonneg lg0, hn]
  have t2 : IntKind.i64.wrap lg = lg := by rw [IntKind.wrap_i64]; omega
  obtain ⟨k, hk⟩ : ∃ k : Nat, bit % 128 = (k : Int) := ⟨(bit % 128).toNat, by omega⟩
  have hk128 : k < 128 := by omega
  have t3 : bit.tmod 128 = (k : Int) := by rw [Int.tmod_eq_emod_of_nonneg bit0, hk]
  have t4 : IntKind.i64.wrap bit = bit := by rw [IntKind.wrap_i64]; omega
  obtain ⟨kb, hkb⟩ : ∃ kb : Nat, kb = k / 8 := ⟨_, rfl⟩
  obtain ⟨kr, hkr⟩ : ∃ kr : Nat, kr = k % 8 := ⟨_, rfl⟩
  have hd8 : (k : Int).tdiv 8 = (kb : Int) := by rw [Int.tdiv_eq_ediv_of_nonneg (by omega)]; omega
  have hd8' : (k : Int) / 8 = (kb : Int) := by omega
  have hm8 : (k : Int).tmod 8 = (kr : Int) := by rw [Int.tmod_eq_emod_of_nonneg (by omega)]; omega
  have hm8' : (k : Int) % 8 = (kr : Int) := by omega
  have hr1 : (kr : Int) < 8 := by omega
  have hr2 : (0 : Int) ≤ (kr : Int) := by omega
  have hb1 : (kb : Int) < 16 := by omega
  have hb2 : (0 : Int) ≤ (kb : Int) := by omega
  have z1 : (n : Int) ≤ 16 := by omega
  have z2 : (0 : Int) ≤ (n : Int) := by omega
  have Hkb := Lib.hid hkb
  have Hkr := Lib.hid hkr
  have hFl : (fenc ct l).length = 16 := rfl
  have hFB := fenc_bb ct l
  have hfe := fun M => fdec_short (M := M)
  clear hkb hkr hok
  go_enter Try.func5, Try.ntmps5
  go_wp2_with fail
  refine (hmd _).mono ?_
  rintro e w1 ⟨rfl, hb_1⟩
  go_wp2_with fail
  refine (hen _).mono ?_
  rintro e w2 ⟨⟨g, cap, rfl, hle, hcm, hg, hI⟩, hb_2⟩
  have bel2 := b_then hb_1 hb_2
  have hge : W.heap.size ≤ g := Nat.le_trans hb_1.size hg
  have z3 : (n : Int) ≤ (cap : Int) := by omega
  have hR := hI.rb
  have hd1 := fde_any (some ⟨g, 0, none⟩) n cap ((fenc ct l).take n) w2 (fun _ => hR.cut_ n) (by rw [List.length_take]; omega) (hFB.take n) (by omega) hcm
  rw [fdec_short (by rw [List.length_take]; omega)] at hd1
  clear hmd hen hb_1 hb_2 hg hR hfe
  go_wp2_with fail
  (with_reducible refine hd1.mono ?_)
  rintro e w3 ⟨rfl, hb3⟩
  have hX3 := Blk.new w3 23 #[.int .i64 0, .int .i64 0]
  have cX3 := hX3.cell
  have bel3 := b_alloc (b_then bel2 hb3) (.cells #[.int .i64 0, .int .i64 0] 23)
  have hI3 := (hI.later hb3).later (b_alloc (Below.refl _ w3) (.cells #[.int .i64 0, .int .i64 0] 23))
  obtain ⟨V, hV⟩ : ∃ V, V = (fenc ct l).getD kb 0 := ⟨_, rfl⟩
  have hcl := hI3.rb.at_ kb V (by rw [hV, List.getD_eq_getElem?_getD, List.getElem?_eq_getElem (by omega)]; rfl)
  rw [Nat.zero_add] at hcl
  have hfr := ffrozen hI3 hFl kb
  have hVb := hFB.getD kb (by omega)
  rw [← hV] at hVb
  have hxb : bits BinOp.xor IntKind.u8 V (2 ^ kr % 256) = ((V.toNat ^^^ 2 ^ kr : Nat) : Int) := by
    have h2 : 2 ^ kr < 2 ^ 8 := Nat.pow_lt_pow_right (by decide) (show kr < 8 by omega)
    have e1 : ((2 : Int) ^ kr % 256) = ((2 ^ kr : Nat) : Int) := by
      have h3 : ((2 : Int) ^ kr) = ((2 ^ kr : Nat) : Int) := by simp
      rw [h3]
      obtain ⟨T, hT⟩ : ∃ T : Nat, T = 2 ^ kr := ⟨_, rfl⟩
      rw [← hT] at h2 ⊢
      omega
    rw [e1, u8_xor _ _ (by omega) (by omega) (by exact Int.natCast_nonneg _) (by exact_mod_cast h2), Int.toNat_natCast]
  obtain ⟨Y, hY⟩ : ∃ Y : Int, Y = ((V.toNat ^^^ 2 ^ kr : Nat) : Int) := ⟨_, rfl⟩
  rw [← hY] at hxb
  have hfl : flip (fenc ct l) k = (fenc ct l).set kb Y := by unfold flip; rw [← Hkb.out, ← Hkr.out, ← hV, hY]
  have hIF := fstored hI3 hFl kb Y
  rw [← hfl] at hIF
  have bF := bel3.setCell (p := ⟨g, kb, none⟩) (by exact hge) (.int .u8 Y)
  have hFB2 : BB (flip (fenc ct l) k) := flip_bb hFB k
  have hFl2 : (flip (fenc ct l) k).length = 16 := by rw [flip_length]; exact hFl
  have hq : ∃ q : Int, (q = 8 ∨ q = 15) ∧ fdec (flip (fenc ct l) k) = (0, 0, q) := by
    rcases hbt hk128 with h | h
    · exact ⟨8, .inl rfl, h⟩
    · exact ⟨15, .inr rfl, h⟩
  obtain ⟨q, hq, hfd⟩ := hq
  have hd2 := fde_any (some ⟨g, 0, none⟩) 16 cap (flip (fenc ct l) k) _ (fun _ => (hIF.later (Below.drew (Below.refl _ _))).rb) hFl2 hFB2 hle hcm
  rw [hfd] at hd2
  have bF2 := Below.drew bF
  have u8a : IntKind.u8.wrap ((2 : Int) ^ kr) = (2 : Int) ^ kr % 256 := by rw [IntKind.wrap_u8]
  clear hd1 bel2 hb3 hI hX3 hI3 bel3 hV hVb hY hfl hIF hFB hFl hFB2 hFl2 hfd hbt bF hge
  go_wp2_with fail
  go_region
  go_wp2_with fail
  (with_reducible refine hd2.mono ?_)
  rintro e w5 ⟨rfl, hb5⟩
  have hX5 := Blk.new w5 23 #[.int .i64 0, .int .i64 0]
  have cX5 := hX5.cell
  have bel6 := b_alloc (b_then bF2 hb5) (.cells #[.int .i64 0, .int .i64 0] 23)
  clear hd2 hb5 bF2
  rcases hq with rfl | rfl
  all_goals
    go_wp2_with fail
    refine (works_true _).mono ?_
    rintro e w9 ⟨rfl, hb9⟩
    go_wp2_with fail
    go_ret
    exact ⟨rfl, b_then bel6 hb9⟩

set_option maxRecDepth 100000 in
theorem lifted (os : Os) (started : os.Started) (H : Type) (enc : TypeId × Value → H) :
    ReturnsInHanded {} Try.checked os 5 .any (Rows.footerBitsSpec.pre6 enc Try.prog Try.f5 Rows.footerBitsRow.domain false) (Rows.footerBitsSpec.post enc Try.prog Try.f5 false true false false) := by
  refine returnsInHanded_of_change (C := Try.checked) own started (by kernel_rfl) Try.func5
    (ChangeSpec.witness6 (enc := enc) (C := Try.checked) false ⟨#[], #[.int .u16 0, .int .i64 0, .int .u8 0, .int .u8 0], []⟩ 8 (by kernel_rfl) (by kernel_rfl) (by kernel_rfl) (by kernel_rfl)) ?_
  intro W base args ds gs before hval0 hW hcnd _
  have hval : ∀ (j : Nat) t v, Try.f5.params[j]? = some t → args[j]? = some v → Value.okWide Try.prog W .any base t v := hval0
  have hW' := hW
  obtain ⟨p, q, hA0, hV, rfl, hfz, hnd⟩ := hW
  have hA : DataW.TrodAll enc Try.prog W 0 (fun _ => true) true Try.f5.params.toList args.toList ds p := hA0
  rw [Try.params5] at hA hval
  obtain ⟨v0, vs0, d0, ds0, p0, q0, hargs, rfl, rfl, h0, r0⟩ := trodAll_cons hA
  obtain ⟨v1, vs1, d1, ds1, p1, q1, rfl, rfl, rfl, h1, r1⟩ := trodAll_cons r0
  obtain ⟨v2, vs2, d2, ds2, p2, q2, rfl, rfl, rfl, h2, r2⟩ := trodAll_cons r1
  obtain ⟨v3, vs3, d3, ds3, p3, q3, rfl, rfl, rfl, h3, r3⟩ := trodAll_cons r2
  obtain ⟨rfl, rfl, rfl⟩ := trodAll_nil r3
  obtain rfl : args = #[v0, v1, v2, v3] := by cases args; simp_all
  obtain ⟨rfl, rfl⟩ := trodVars_none hV
  refine (walk (H := H) (enc := enc) W base (hval 0 41 v0 rfl rfl) h0 (hval 1 2 v1 rfl rfl) h1 (hval 2 5 v2 rfl rfl) h2 (hval 3 5 v3 rfl rfl) h3).mono fun e W' ⟨he, bel⟩ => ?_
  subst he
  exact ⟨_, rfl, _, _, _, [], _, [], hW', trodAll_mk1 (shut_bool Try.underlying4 _), (trodAll_cons_mk (Below.trod laidOut (by kernel_rfl) (of_decide_eq_true (by kernel_rfl)) h0 bel (lt_of_Trod h0)) (trodAll_cons_mk (Below.trod laidOut (by kernel_rfl) (of_decide_eq_true (by kernel_rfl)) h1 bel (lt_of_Trod h1)) (trodAll_cons_mk (Below.trod laidOut (by kernel_rfl) (of_decide_eq_true (by kernel_rfl)) h2 bel (lt_of_Trod h2)) (trodAll_cons_mk (Below.trod laidOut (by kernel_rfl) (of_decide_eq_true (by kernel_rfl)) h3 bel (lt_of_Trod h3)) trodAll_mk0)))), rfl, bel.frame _, fun h => by cases h⟩

/-- FooterBits: for every four numbers the law returns true and changes nothing. No condition. -/
theorem proved : Rows.FooterBitsSaid :=
  OpenClaim.holds_of_wide 5 Try.f5 rfl rfl rfl rfl rfl rfl rfl ⟨rfl, rfl, rfl, rfl, rfl⟩ rfl rfl rfl rfl rfl (by kernel_rfl) Try.func5 (by kernel_rfl)
    (of_decide_eq_true (by kernel_rfl)) (by unfold Func.isWrapper; first | (rw [if_pos (by decide +kernel)]; kernel_rfl) | (rw [if_neg (by decide +kernel)]; exact ⟨rfl, rfl⟩))
    (fun os started H enc _ => lifted os started H enc)
#print axioms proved
end Go.Proofs.Ytiobnhdcapfhgaa.footerBits
