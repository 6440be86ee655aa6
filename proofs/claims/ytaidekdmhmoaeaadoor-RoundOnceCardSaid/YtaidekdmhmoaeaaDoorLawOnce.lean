/-
  RoundOnce: for every number of slots, list of sets and order the law returns true and changes nothing. No condition but the library's table.
-/
import Derived.Test.YtaidekdmhmoaeaaDoorTab
import Derived.Test.YtaidekdmhmoaeaaDoorOnd
namespace Go.Proofs.YtaidekdmhmoaeaaDoor.roundOnce
open Go.ChangeShapes Go.WideShapes Go.ChangeAt Go.RowKit Bt
open Rd (ints)
open On (open_u32s)
set_option linter.unusedVariables false
set_option linter.unusedSimpArgs false

set_option maxHeartbeats 6400000 in
set_option maxRecDepth 100000 in
theorem walk {H : Type} {enc : TypeId × Value → H} (W : World) (base : Nat) (hT : Rd.Tab W) {v0 v1 v2 : Value} {d0 d1 d2 : DataW H} {p0 p1 p2 : List MemPlace} (o0 : Value.okWide Tryd.prog W .any base 5 v0) (h0 : DataW.Trod enc Tryd.prog W 0 (fun _ => true) true 5 v0 d0 p0) (o1 : Value.okWide Tryd.prog W .any base 47 v1) (h1 : DataW.Trod enc Tryd.prog W 0 (fun _ => true) true 47 v1 d1 p1) (o2 : Value.okWide Tryd.prog W .any base 48 v2) (h2 : DataW.Trod enc Tryd.prog W 0 (fun _ => true) true 48 v2 d2 p2) :
    Calls Tryd.prog 5 #[v0, v1, v2] W fun e W' => e = .returned (.bool true) ∧ Below W.heap.size W W' := by
  obtain ⟨nz, rfl, rfl, rfl, wn⟩ := open_int Tryd.underlying5 o0 h0
  have bn := bounds_u8 wn
  obtain ⟨nn, rfl⟩ : ∃ nn : Nat, nz = (nn : Int) := ⟨nz.toNat, by omega⟩
  clear wn o0 h0
  obtain ⟨s, hs⟩ : ∃ s, s = 1 + nn % 32 := ⟨_, rfl⟩
  have y1 : 1 + (nn : Int) % 32 = (s : Int) := by omega
  have y2 : 1 ≤ s := by omega
  have y3 : s ≤ 32 := by omega
  clear hs
  obtain ⟨am, lm, cm, U, rfl, hu⟩ := open_u32s o1 h1
  obtain ⟨bz, rfl, rfl, rfl, wb⟩ := open_int Tryd.underlying48 o2 h2
  clear wb o1 h1 o2 h2
  obtain ⟨pp, hpp⟩ : ∃ pp : Nat, pp = min lm 10 := ⟨_, rfl⟩
  have p1 : (if (10 : Int) < (lm : Int) then (10 : Int) else (lm : Int)) = (pp : Int) := by split <;> omega
  have p2 : pp ≤ 10 := by omega
  have p3 : pp ≤ lm := by omega
  have p4 : lm ≤ cm := hu.1
  have p5 : lm ≤ 9223372036854775807 := by have := hu.2.1; unfold maxLen at this; omega
  have HU := Lib.hid hu
  clear hpp hu
  go_enter Tryd.func5, Tryd.ntmps5
  go_wp2_with fail
  refine (Rd.New_ok s _ y2 y3).mono ?_
  rintro e w1 ⟨b, rfl, hR, hWb, hB1⟩
  go_wp2_with fail
  go_loopw [34] (fun i wr => ∃ k : Nat, k ≤ pp ∧ i = .int .i64 k ∧ Rd.Is wr b s 0 k ∧ Below W.heap.size W wr) (fun i _ => pp - (intOf i).toNat)
  case atStart => exact ⟨0, Nat.zero_le _, rfl, hR, hB1⟩
  case round =>
    clear hR hB1
    obtain ⟨k, hk, rfl, hR, hB⟩ := hrel
    have hRl := hR.lt
    by_cases hlt : k < pp
    · have z1 : (k : Int) < (pp : Int) := by omega
      have z2 : (0 : Int) ≤ (k : Int) := by omega
      obtain ⟨hu1, hu2, hu3, hu4⟩ := HU.out
      obtain ⟨bs, os, rfl, hbs, hcs⟩ := hu4 (by omega)
      have c0 : wr.cell? ⟨bs, os + k, none⟩ = some (.int .u32 (U k)) := (hB.cell hbs).trans (hcs k (by omega))
      have hUk := hu3 k (by omega)
      generalize U k = S at c0 hUk
      clear hu1 hu2 hu3 hu4 hcs hbs
      go_wp2_with fail
      refine (On.mem_ex S s _ y3 (by omega)).mono ?_
      rintro e w2 ⟨M, q, A, c, hM, hq, hq32, rfl, oA, hb2⟩
      have hR2 := hR.later hb2
      have hB2 := b_then hB hb2
      have hbA : b < wr.heap.size := hRl
      have HM := Lib.hid hM
      have HQ := Lib.hid hq
      clear hM hq hR hB c0 hb2 hRl hUk
      go_wp2_with fail
      refine (On.over_yes b s k _ hR2).mono ?_
      rintro e w' ⟨rfl, rfl⟩
      go_wp2_with fail
      refine (On.ord_ks A q c (slots M) _ _ (On.InS.of_own oA) (by omega) (On.u64_nonneg _)).mono ?_
      rintro e w3 ⟨A3, c3, ks, hp3, rfl, oK, hb3⟩
      have hR3 := hR2.later hb3
      have hB3 := b_then hB2 hb3
      have oA3 := own_later oA hb3
      have HP := Lib.hid hp3
      have hl3 : ks.length = q := by rw [hp3.length_eq]; exact HQ.out
      have HL := Lib.hid hl3
      clear hR2 hB2 oA hp3 hb3 hl3
      go_wp2_with fail
      refine (On.beg_perm b s M k _ hR3 (by omega) A3 q c3 ks HP.out HM.out (RI.of_row oK) HL.out).mono ?_
      rintro e w4 ⟨rfl, hR4, hO4⟩
      have hB4 := Rd.only_below hB3 hO4 hWb
      have oA4 := On.own_only oA3 hO4 hbA
      clear hR3 hB3 oA3 oK hO4 HP HL
      go_wp2_with fail
      refine (Rd.Count_any b s M _ _ hR4).mono ?_
      rintro e w' ⟨rfl, rfl⟩
      go_wp2_with fail
      refine (On.left_q b s M q _ _ hR4 (hT.later hB4) HQ.out).mono ?_
      rintro e w5 ⟨⟨A5, c5, rfl, o5⟩, hb5⟩
      have hR5 := hR4.later hb5
      have hB5 := b_then hB4 hb5
      have oA5 := own_later oA4 hb5
      have hlen : (ints (slots M)).length = q := by have := HQ.out; simpa [ints] using this
      have hq5 := eqi_any A5 A q c5 c (ints (slots M)) w5 hlen (RI.of_row o5) (RI.of_row oA5) (by unfold maxLen; omega)
      clear hR4 hB4 oA4 hb5 hlen o5
      go_wp2_with fail
      refine hq5.mono ?_
      rintro e w6 ⟨rfl, q6, rfl⟩
      have hR6 := hR5.later (below_drewN (Below.refl _ _) q6)
      have hB6 := below_drewN hB5 q6
      have oA6 := own_later oA5 (below_drewN (Below.refl _ _) q6)
      generalize World.drewN w5 q6 = w6 at hR6 hB6 oA6 ⊢
      clear hq5 hR5 hB5 oA5
      go_wp2_with fail
      refine (On.ord_ks A q c (slots M) _ _ (On.InS.of_own oA6) (by omega) (On.u64_nonneg _)).mono ?_
      rintro e w7 ⟨A7, c7, ks, hp7, rfl, oK, hb7⟩
      have hR7 := hR6.later hb7
      have hB7 := b_then hB6 hb7
      have hl7 : ks.length = q := by rw [hp7.length_eq]; exact HQ.out
      have hbK : b < w6.heap.size := hR6.lt
      have HP := Lib.hid hp7
      have HL := Lib.hid hl7
      clear hR6 hB6 oA6 hp7 hl7 hb7
      go_wp2_with fail
      go_loopw [13, 75] (fun dn i wr => ∃ j : Nat, j ≤ q ∧ dn = .int .i64 j ∧ i = .int .i64 j ∧ Rd.Is wr b s (delAll M (ks.take j)) (k + 1) ∧ wr.ownsRow w6.heap.size 3 1 (.slice A7 q c7) q ((ints ks).map (Value.int .i64)) ∧ Below W.heap.size W wr) (fun _ i _ => q - (intOf i).toNat)
      case atStart => exact ⟨0, Nat.zero_le _, rfl, rfl, hR7, oK, hB7⟩
      case round =>
        clear hR7 oK hB7
        rename_i wr2
        obtain ⟨j, hj, rfl, rfl, hR, oK, hB⟩ := hrel
        by_cases hjq : j < q
        · have x1 : (j : Int) < (q : Int) := by omega
          have x2 : (0 : Int) ≤ (j : Int) := by omega
          obtain ⟨x, hx⟩ : ∃ x, ks[j]? = some x := ⟨_, List.getElem?_eq_getElem (by have := HL.out; omega)⟩
          obtain ⟨a1, a2, a3, a4, a5, a6⟩ := perm_next HP.out (On.pow32 HM.out y3) hx
          have a7 := perm_lt HP.out HM.out x (List.mem_of_getElem? hx)
          have a8 := perm_left HP.out (On.pow32 HM.out y3) (j + 1) (by have := HL.out; omega)
          obtain ⟨g, rfl, hg1, hg2, cc, _⟩ := own_at oK (i := j) (u := .int .i64 x) (by rw [List.getElem?_map, show (ints ks)[j]? = some (x : Int) by unfold ints; rw [List.getElem?_map, hx]; rfl]; rfl)
          rw [a6] at a8
          have A6 := Lib.hid a6
          have A8 := Lib.hid a8
          have hM32 : delAll M (ks.take j) < 2 ^ 32 := Nat.lt_of_le_of_lt (delAll_le _ M) (On.pow32 HM.out y3)
          have hgone : ∀ y : Int, y = (x : Int) → 0 ≤ y → (delAll M (ks.take j) &&& (4294967295 - 2 ^ x)).testBit y.toNat = false := by
            rintro y rfl _
            rw [Int.toNat_natCast, bit_del hM32 a1]; simp
          have HGO := Lib.hid hgone
          have HM' := Lib.hid hM32
          obtain ⟨M', hM'⟩ : ∃ M', M' = delAll M (ks.take j) := ⟨_, rfl⟩
          rw [← hM'] at hR a3 a4 A6 A8 HGO HM'
          have HMM := Lib.hid hM'
          clear hx a2 a5 a6 a8 hgone hM32 hM' a1
          go_wp2_with fail
          refine (On.over_no b s M' _ _ hR a4).mono ?_
          rintro e w' ⟨rfl, rfl⟩
          go_wp2_with fail
          refine (Rd.beg_state b s M' _ _ hR a4 none 0 0).mono ?_
          rintro e w8 ⟨rfl, hb8⟩
          have hR8 := hR.later hb8
          have oK8 := own_later oK hb8
          have hB8 := b_then hB hb8
          clear hR oK hB hb8 cc
          go_wp2_with fail
          refine (On.has_yes b s M' x _ _ hR8 a7 a3).mono ?_
          rintro e w' ⟨rfl, rfl⟩
          go_wp2_with fail
          refine (Rd.Done_ok b s M' _ x _ hR8 a7 a3).mono ?_
          rintro e w9 ⟨rfl, hR9, hO9⟩
          have oK9 := On.own_only oK8 hO9 hbK
          have hB9 := Rd.only_below hB8 hO9 hWb
          clear hR8 oK8 hB8 hO9 a3 a4
          go_wp2_with fail
          refine (On.has_no b s _ x _ _ hR9 (HGO.out x rfl)).mono ?_
          rintro e w' ⟨rfl, rfl⟩
          go_wp2_with fail
          refine (On.done_no b s _ x _ _ hR9 (HGO.out x rfl)).mono ?_
          rintro e w' ⟨rfl, rfl⟩
          obtain ⟨r, hr⟩ : ∃ r, (slots (M' &&& (4294967295 - 2 ^ x))).length = r := ⟨_, rfl⟩
          have hrq : (r : Int) + ((j : Int) + 1) = (q : Int) := by have := A8.out; rw [hr, HL.out] at this; omega
          have hrr : ((r : Int) != (q : Int) - ((j : Int) + 1)) = false := by rw [bne_eq_false_iff_eq]; omega
          have HR := Lib.hid hr
          clear hr hrq
          go_wp2_with fail
          refine (On.left_q b s _ r _ _ hR9 (hT.later hB9) HR.out).mono ?_
          rintro e w10 ⟨⟨A10, c10, rfl, o10⟩, hb10⟩
          have hR10 := hR9.later hb10
          have oK10 := own_later oK9 hb10
          have hB10 := b_then hB9 hb10
          clear hR9 oK9 hB9 o10 hb10
          go_wp2_with fail
          go_roundw
          case rel => exact ⟨j + 1, by omega, by go_num, by go_num, by rw [A6.out]; exact hR10, oK10, hB10⟩
          case measure => simp [intOf]; omega
        · obtain rfl : j = q := by omega
          have hz : delAll M (ks.take j) = 0 := by
            rw [List.take_of_length_le (by have := HL.out; omega)]
            exact perm_done HP.out (On.pow32 HM.out y3)
          rw [hz] at hR
          clear oK hz
          go_wp2_with fail
          go_loopw [16] (fun i wr => ∃ z : Int, -1 ≤ z ∧ z ≤ (s : Int) + 1 ∧ i = .int .i64 z ∧ Rd.Is wr b s 0 (k + 1) ∧ Below W.heap.size W wr) (fun i _ => ((s : Int) + 1 - intOf i).toNat)
          case atStart => exact ⟨-1, by omega, by omega, rfl, hR, hB⟩
          case round =>
            clear hR hB
            rename_i wr3
            obtain ⟨z, hz1, hz2, rfl, hR, hB⟩ := hrel
            by_cases hzs : z ≤ (s : Int)
            · go_wp2_with fail
              refine (On.has_no b s 0 z _ _ hR (fun _ => Nat.zero_testBit _)).mono ?_
              rintro e w' ⟨rfl, rfl⟩
              go_wp2_with fail
              refine (On.done_no b s 0 z _ _ hR (fun _ => Nat.zero_testBit _)).mono ?_
              rintro e w' ⟨rfl, rfl⟩
              go_wp2_with fail
              go_roundw
              case rel => exact ⟨z + 1, by omega, by omega, rfl, hR, hB⟩
              case measure => simp [intOf]; omega
            · go_wp2_with fail
              go_roundw
              case rel => exact ⟨k + 1, by omega, by go_num, by rw [show ((k + 1 : Nat) : Int) = (k : Int) + 1 from by omega]; exact hR, hB⟩
              case measure => simp [intOf]; omega
    · obtain rfl : k = pp := by omega
      go_wp2_with fail
      refine (On.over_yes b s _ _ hR).mono ?_
      rintro e w' ⟨rfl, rfl⟩
      go_wp2_with fail
      refine (Rd.Count_any b s 0 _ _ hR).mono ?_
      rintro e w' ⟨rfl, rfl⟩
      go_wp2_with fail
      refine (Rd.works_true _ (hT.later hB)).mono ?_
      rintro e wz ⟨rfl, hbz⟩
      go_wp2_with fail
      go_ret
      exact ⟨rfl, b_then hB hbz⟩

set_option maxRecDepth 100000 in
theorem lifted (os : Os) (started : os.Started) (H : Type) (enc : TypeId × Value → H) :
    ReturnsInHanded {} Tryd.checked os 5 .any (fun w args => (Rows.roundOnceSpec.pre enc Tryd.prog Tryd.f5 [] false w args ∧ laidMetH Tryd.prog Rows.roundOnceRow.laid w) ∧ sizedMet enc Tryd.prog Tryd.f5 (OpenSpec.ofChange Rows.roundOnceSpec) false w args)
      (Rows.roundOnceSpec.post enc Tryd.prog Tryd.f5 false true false false) := by
  refine returnsInHanded_of_change_and (C := Tryd.checked) (X := fun w _ => laidMetH Tryd.prog Rows.roundOnceRow.laid w) (fun _ _ _ hh h => h.of_heap hh) own started (by kernel_rfl) Tryd.func5
    (ChangeSpec.witness_at (enc := enc) (C := Tryd.checked) (os := os) (X := fun w _ => laidMetH Tryd.prog Rows.roundOnceRow.laid w) false (Rd.laidWorld os) #[.int .u8 0, .slice none 0 0, .int .u64 0] 8 rfl (by kernel_rfl) (by kernel_rfl) (by kernel_rfl) (by kernel_rfl) (by kernel_rfl) (Rd.laidWorld_met os _)) ?_
  intro W base args ds gs before hval0 hW _ _ hL _
  have hval : ∀ (j : Nat) t v, Tryd.f5.params[j]? = some t → args[j]? = some v → Value.okWide Tryd.prog W .any base t v := hval0
  have hT := Rd.tab_of_laid hL
  have hW' := hW
  obtain ⟨p, q, hA0, hV, rfl, hfz, hnd⟩ := hW
  have hA : DataW.TrodAll enc Tryd.prog W 0 (fun _ => true) true Tryd.f5.params.toList args.toList ds p := hA0
  rw [Tryd.params5] at hA hval
  obtain ⟨v0, vs0, d0, ds0, p0, q0, hargs, rfl, rfl, h0, r0⟩ := trodAll_cons hA
  obtain ⟨v1, vs1, d1, ds1, p1, q1, rfl, rfl, rfl, h1, r1⟩ := trodAll_cons r0
  obtain ⟨v2, vs2, d2, ds2, p2, q2, rfl, rfl, rfl, h2, r2⟩ := trodAll_cons r1
  obtain ⟨rfl, rfl, rfl⟩ := trodAll_nil r2
  obtain rfl : args = #[v0, v1, v2] := by cases args; simp_all
  obtain ⟨rfl, rfl⟩ := trodVars_none hV
  refine (walk (H := H) (enc := enc) W base hT (hval 0 5 v0 rfl rfl) h0 (hval 1 47 v1 rfl rfl) h1 (hval 2 48 v2 rfl rfl) h2).mono fun e W' ⟨he, bel⟩ => ?_
  subst he
  exact ⟨_, rfl, _, _, _, [], _, [], hW', trodAll_mk1 (shut_bool Tryd.underlying4 _), (trodAll_cons_mk (Below.trod laidOut (by kernel_rfl) (of_decide_eq_true (by kernel_rfl)) h0 bel (lt_of_Trod h0)) (trodAll_cons_mk (Below.trod laidOut (by kernel_rfl) (of_decide_eq_true (by kernel_rfl)) h1 bel (lt_of_Trod h1)) (trodAll_cons_mk (Below.trod laidOut (by kernel_rfl) (of_decide_eq_true (by kernel_rfl)) h2 bel (lt_of_Trod h2)) trodAll_mk0))), rfl, bel.frame _, fun h => by cases h⟩

theorem row_holds : Rows.RoundOnceSaid :=
  OpenClaim.holds_of_wide 5 Tryd.f5 rfl rfl rfl rfl rfl rfl rfl ⟨rfl, rfl, rfl, rfl, rfl⟩ rfl rfl rfl rfl rfl (by kernel_rfl) Tryd.func5 (by kernel_rfl)
    (of_decide_eq_true (by kernel_rfl)) (by unfold Func.isWrapper; first | (rw [if_pos (by decide +kernel)]; kernel_rfl) | (rw [if_neg (by decide +kernel)]; exact ⟨rfl, rfl⟩))
    (fun os started H enc _ => lifted os started H enc)
set_option maxRecDepth 100000 in
/-- RoundOnce: for every number of slots, list of sets and order the law returns true and changes nothing. No condition but the library's table. -/
theorem proved : Rows.RoundOnceCardSaid :=
  Claim7.holds_tied_plain_at .later [] [.data] true (true, "78b4ba762495fc154c5a857764e62199e31d2c0b3599cef7315f08e2fe8f9bd5") false
    row_holds (fun _ h => by cases h) (by kernel_rfl) (fun _ h => by cases h) roundOnce_row_tie rfl ⟨rfl, rfl⟩ (by kernel_rfl) rfl
    (fun f fn hf hfn => by
      obtain rfl : f = 5 := Option.some.inj ((show Tryd.prog.funcNamed "drumlin/drumlinlaw27.RoundOnce" = some 5 by kernel_rfl).symm.trans hf) |>.symm
      obtain rfl : fn = Tryd.f5 := (Option.some.inj (Tryd.func5.symm.trans hfn)).symm
      exact ⟨by kernel_rfl, fun j t ht => by
        rw [Tryd.params5] at ht
        exact Rd.no_stand (l := [5, 47, 48]) (by kernel_rfl) j t (by simpa using ht)⟩)
    (by kernel_rfl)
#print axioms proved
end Go.Proofs.YtaidekdmhmoaeaaDoor.roundOnce
