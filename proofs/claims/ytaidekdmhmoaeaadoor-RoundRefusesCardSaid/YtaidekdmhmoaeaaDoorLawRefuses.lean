/-
  RoundRefuses: for every number of slots, set, slot and distance the law returns true and changes nothing. No condition but the library's table.
-/
import Derived.Test.YtaidekdmhmoaeaaDoorTab
import Derived.Test.YtaidekdmhmoaeaaDoorOnd
import Derived.Test.YtaidekdmhmoaeaaDoorOne
import Derived.Deep.CutBlock
import Derived.Deep.DeepCutAuto
namespace Go.Proofs.YtaidekdmhmoaeaaDoor.roundRefuses
open Go.ChangeShapes Go.WideShapes Go.ChangeAt Go.RowKit Bt
open Rd (ints)
open On (open_u32s)
set_option linter.unusedVariables false
set_option linter.unusedSimpArgs false

set_option maxHeartbeats 6400000 in
set_option maxRecDepth 100000 in
theorem walk {H : Type} {enc : TypeId × Value → H} (W : World) (base : Nat) (hT : Rd.Tab W) {v0 v1 v2 v3 : Value} {d0 d1 d2 d3 : DataW H} {p0 p1 p2 p3 : List MemPlace} (o0 : Value.okWide Tryd.prog W .any base 5 v0) (h0 : DataW.Trod enc Tryd.prog W 0 (fun _ => true) true 5 v0 d0 p0) (o1 : Value.okWide Tryd.prog W .any base 25 v1) (h1 : DataW.Trod enc Tryd.prog W 0 (fun _ => true) true 25 v1 d1 p1) (o2 : Value.okWide Tryd.prog W .any base 5 v2) (h2 : DataW.Trod enc Tryd.prog W 0 (fun _ => true) true 5 v2 d2 p2) (o3 : Value.okWide Tryd.prog W .any base 55 v3) (h3 : DataW.Trod enc Tryd.prog W 0 (fun _ => true) true 55 v3 d3 p3) :
    Calls Tryd.prog 6 #[v0, v1, v2, v3] W fun e W' => e = .returned (.bool true) ∧ Below W.heap.size W W' := by
  obtain ⟨nz, rfl, rfl, rfl, wn⟩ := open_int Tryd.underlying5 o0 h0
  have bn := bounds_u8 wn
  obtain ⟨nn, rfl⟩ : ∃ nn : Nat, nz = (nn : Int) := ⟨nz.toNat, by omega⟩
  clear wn o0 h0
  obtain ⟨s, hs⟩ : ∃ s, s = 1 + nn % 32 := ⟨_, rfl⟩
  have y1 : 1 + (nn : Int) % 32 = (s : Int) := by omega
  have y2 : 1 ≤ s := by omega
  have y3 : s ≤ 32 := by omega
  clear hs
  obtain ⟨Sz, rfl, rfl, rfl, wS⟩ := open_int Tryd.underlying25 o1 h1
  have bS := bounds_u32 wS
  obtain ⟨S, rfl⟩ : ∃ S : Nat, Sz = (S : Int) := ⟨Sz.toNat, by omega⟩
  obtain ⟨tz, rfl, rfl, rfl, wt⟩ := open_int Tryd.underlying5 o2 h2
  have bt := bounds_u8 wt
  obtain ⟨tw, rfl⟩ : ∃ tw : Nat, tz = (tw : Int) := ⟨tz.toNat, by omega⟩
  obtain ⟨fz, rfl, rfl, rfl, wf⟩ := open_int Tryd.underlying55 o3 h3
  have bf := bounds_u16 wf
  obtain ⟨m, rfl⟩ : ∃ m : Nat, fz = (m : Int) := ⟨fz.toNat, by omega⟩
  clear wS wt wf o1 h1 o2 h2 o3 h3
  have hor := Rd.or_bit' (M := S) (k := 0) (by omega) (by omega)
  have hor : bits BinOp.or IntKind.u32 (S : Int) 1 = ((S ||| 1 : Nat) : Int) := hor
  have hS1 : S ||| 1 < 2 ^ 32 := or_lt (x := 0) (by omega) (by omega)
  have hS1' : S ||| 1 ≤ 4294967295 := by omega
  generalize hG : S ||| 1 = S1 at hor hS1 hS1'
  have hb0 : S1.testBit 0 = true := by rw [← hG]; simp
  have HB0 := Lib.hid hb0
  have HS1 := Lib.hid hS1
  clear hG hb0 hS1
  have m1 : (m : Int) ≤ 65535 := by omega
  have m2 : (0 : Int) ≤ (m : Int) := by omega
  go_enter Tryd.func6, Tryd.ntmps6
  go_wp2_with fail
  refine (Rd.New_ok s _ y2 y3).mono ?_
  rintro e w1 ⟨b, rfl, hR, hWb, hB1⟩
  go_wp2_with fail
  refine (On.mem_any S1 s _ y3 HS1.out).mono ?_
  rintro e w2 ⟨⟨A, c, rfl, oA⟩, hb2⟩
  have hR2 := hR.later hb2
  have hB2 := b_then hB1 hb2
  have hbA : b < w1.heap.size := hR.lt
  obtain ⟨M, hMd⟩ : ∃ M, M = S1 % 2 ^ s := ⟨_, rfl⟩
  have hM : M < 2 ^ s := by rw [hMd]; exact Nat.mod_lt _ (Nat.pow_pos (by omega))
  have hM0 : M.testBit 0 = true := by rw [hMd, Nat.testBit_mod_two_pow, HB0.out]; simp; omega
  rw [← hMd] at oA ⊢
  obtain ⟨q, hq⟩ : ∃ q, q = (slots M).length := ⟨_, rfl⟩
  have hq32 : q ≤ 32 := by rw [hq]; exact On.slots_len32 M
  have hq1 : 0 < q := by
    rw [hq]
    exact List.length_pos_of_mem (mem_slots.2 ⟨by omega, hM0⟩)
  rw [← hq] at oA ⊢
  have hM0' : M ≠ 0 := by
    rintro rfl
    simp at hM0
  have HM0 := Lib.hid hM0'
  clear hMd hM0 hR hB1 hb2 hM0'
  obtain ⟨t, ht⟩ : ∃ t : Nat, (tw : Int) % (q : Int) = (t : Int) := ⟨tw % q, by omega⟩
  have ht1 : (t : Int) < (q : Int) := by have := Int.emod_lt_of_pos (tw : Int) (show (0 : Int) < (q : Int) by omega); omega
  have ht2 : (0 : Int) ≤ (t : Int) := by omega
  have hq0 : ¬ (q : Int) = 0 := by omega
  have hq0' : ((q : Int) == 0) = false := by rw [beq_eq_false_iff_ne]; omega
  obtain ⟨d, hd⟩ : ∃ d, (slots M)[t]? = some d := ⟨_, List.getElem?_eq_getElem (by omega)⟩
  have hdm := List.mem_of_getElem? hd
  obtain ⟨g, rfl, hg1, hg2, cc, _⟩ := own_at oA (i := t) (u := .int .i64 d) (by rw [List.getElem?_map, show (ints (slots M))[t]? = some (d : Int) by unfold ints; rw [List.getElem?_map, hd]; rfl]; rfl)
  obtain ⟨r1, r2, r3, r4, r5, r6⟩ := On.refs (m := m) hM hdm
  have hds := perm_lt (List.Perm.refl (slots M)) hM d hdm
  have HM := Lib.hid hM
  have HQ := Lib.hid hq
  have hI := On.InS.of_own oA
  have H1 := Lib.hid r1
  have H2 := Lib.hid r2
  have H3 := Lib.hid r3
  have H4 := Lib.hid r4
  have H5 := Lib.hid r5
  have H6 := Lib.hid r6
  have hdi : (d : Int) < (s : Int) := by omega
  clear hd hdm hM hq r1 r2 r3 r4 r5 r6
  go_wp2_with fail
  refine (On.cat_r _ _ _ _ _ _ hI (by omega)).mono ?_
  rintro e w3 ⟨A3, c3, rfl, p3, hb3⟩
  have I3 := On.InS.of_own p3
  have hI3 := hI.later hb3
  have hB3 := b_then hB2 hb3
  have hR3 := hR2.later hb3
  have oA3 := own_later oA hb3
  clear hI hB2 hR2 p3 oA cc hb3
  go_wp2_with fail
  refine (On.cat_l _ _ _ _ _ _ hI3 (by omega)).mono ?_
  rintro e w4 ⟨A4, c4, rfl, p4, hb4⟩
  have I4 := On.InS.of_own p4
  have I3 := I3.later hb4
  have hI4 := hI3.later hb4
  have hB4 := b_then hB3 hb4
  have hR4 := hR3.later hb4
  have oA4 := own_later oA3 hb4
  clear hI3 hB3 hR3 p4 oA3 hb4
  go_wp2_with fail
  refine (On.cat_r _ _ _ _ _ _ hI4 (by omega)).mono ?_
  rintro e w5 ⟨A5, c5, rfl, p5, hb5⟩
  have I5 := On.InS.of_own p5
  have I3 := I3.later hb5
  have I4 := I4.later hb5
  have hI5 := hI4.later hb5
  have hB5 := b_then hB4 hb5
  have hR5 := hR4.later hb5
  have oA5 := own_later oA4 hb5
  clear hI4 hB4 hR4 p5 oA4 hb5
  go_wp2_with fail
  refine (On.cat_l _ _ _ _ _ _ hI5 (by omega)).mono ?_
  rintro e w6 ⟨A6, c6, rfl, p6, hb6⟩
  have I6 := On.InS.of_own p6
  have I3 := I3.later hb6
  have I4 := I4.later hb6
  have I5 := I5.later hb6
  have hI6 := hI5.later hb6
  have hB6 := b_then hB5 hb6
  have hR6 := hR5.later hb6
  have oA6 := own_later oA5 hb6
  clear hI5 hB5 hR5 p6 oA5 hb6
  go_wp2_with fail
  refine (On.cat_r2 _ _ _ _ _ _ _ hI6 (by omega)).mono ?_
  rintro e w7 ⟨A7, c7, rfl, p7, hb7⟩
  have I7 := On.InS.of_own p7
  have I3 := I3.later hb7
  have I4 := I4.later hb7
  have I5 := I5.later hb7
  have I6 := I6.later hb7
  have hI7 := hI6.later hb7
  have hB7 := b_then hB6 hb7
  have hR7 := hR6.later hb7
  have oA7 := own_later oA6 hb7
  clear hI6 hB6 hR6 p7 oA6 hb7
  go_wp2_with fail
  refine (On.cat_d _ _ _ _ _ hI7 (by omega)).mono ?_
  rintro e w8 ⟨A8, c8, rfl, p8, hb8⟩
  have I8 := On.InS.of_own p8
  have I3 := I3.later hb8
  have I4 := I4.later hb8
  have I5 := I5.later hb8
  have I6 := I6.later hb8
  have I7 := I7.later hb8
  have hB8 := b_then hB7 hb8
  have hR8 := hR7.later hb8
  have oA8 := own_later oA7 hb8
  clear hI7 hB7 hR7 p8 oA7 hb8
  go_wp2_with fail
  obtain ⟨cs, hcs⟩ : ∃ cs : Array Value, cs = #[.slice A3 (q + 1) c3, .int .i64 3, .slice A4 (1 + q) c4, .int .i64 3, .slice A5 (q + 1) c5, .int .i64 6, .slice A6 (1 + q) c6, .int .i64 6, .slice A7 (q + 2) c7, .int .i64 3, .slice A8 (q + q) c8, .int .i64 6] := ⟨_, rfl⟩
  rw [← hcs]
  have ba := b_alloc (Below.refl w8.heap.size w8) (.cells cs 57)
  have hcv : ∀ k, k < 6 → ∃ v u, cs[k * 2]? = some v ∧ cs[k * 2 + 1]? = some u ∧ On.Bad s (w8.alloc (.cells cs 57)) v u := by
    intro k hk
    rw [hcs]
    rw [hcs] at ba
    match k, hk with
    | 0, _ => exact ⟨_, _, rfl, rfl, _, _, _, _, _, rfl, rfl, I3.later ba, by omega, H1.out⟩
    | 1, _ => exact ⟨_, _, rfl, rfl, _, _, _, _, _, rfl, rfl, I4.later ba, by omega, H2.out⟩
    | 2, _ => exact ⟨_, _, rfl, rfl, _, _, _, _, _, rfl, rfl, I5.later ba, by omega, H3.out⟩
    | 3, _ => exact ⟨_, _, rfl, rfl, _, _, _, _, _, rfl, rfl, I6.later ba, by omega, H4.out⟩
    | 4, _ => exact ⟨_, _, rfl, rfl, _, _, _, _, _, rfl, rfl, I7.later ba, by omega, H5.out⟩
    | 5, _ => exact ⟨_, _, rfl, rfl, _, _, _, _, _, rfl, rfl, I8.later ba, by omega, H6.out⟩
  have hT8 := Blk.new w8 57 cs
  have hR9 := hR8.later ba
  have hB9 := b_then hB8 ba
  have oA9 := own_later oA8 ba
  obtain ⟨ga, hga⟩ : ∃ ga, ga = w8.heap.size := ⟨_, rfl⟩
  rw [← hga] at hT8 ⊢
  generalize w8.alloc (.cells cs 57) = w9 at hcv hT8 hR9 hB9 oA9 ⊢
  have HCV := Lib.hid hcv
  clear I3 I4 I5 I6 I7 I8 H1 H2 H3 H4 H5 H6 hB8 hR8 oA8 hcs hcv ba hga
  go_loopw [91] (fun i wr => ∃ k : Nat, k ≤ 6 ∧ i = .int .i64 k ∧ Below w9.heap.size w9 wr) (fun i _ => 6 - (intOf i).toNat)
  case atStart => exact ⟨0, Nat.zero_le _, rfl, Below.refl _ _⟩
  case round =>
    obtain ⟨k, hk, rfl, hbr⟩ := hrel
    by_cases hlt : k < 6
    · have z1 : (k : Int) < 6 := by omega
      have z2 : (0 : Int) ≤ (k : Int) := by omega
      obtain ⟨v, u, e1, e2, A', n, c', xs, e0, rfl, rfl, hIn, hn, href⟩ := HCV.out k hlt
      have d0 : wr.cell? ⟨ga, k * 2, none⟩ = some (.slice A' n c') := (hbr.cell (p := ⟨ga, k * 2, none⟩) hT8.lt).trans ((hT8.cell _).trans e1)
      have d1 : wr.cell? ⟨ga, k * 2 + 1, none⟩ = some (.int .i64 e0) := (hbr.cell (p := ⟨ga, k * 2 + 1, none⟩) hT8.lt).trans ((hT8.cell _).trans e2)
      have hInr := hIn.later hbr
      have hRr := hR9.later hbr
      have HX := Lib.hid hT8
      have hgl : ga < wr.heap.size := Nat.lt_of_lt_of_le hT8.lt hbr.size
      clear e1 e2 hIn hT8
      go_upto_region 11 with fail
      have hBx := Blk.new wr 57 #[.slice A' n c', .int .i64 e0]
      have ba := b_alloc (Below.refl wr.heap.size wr) (.cells #[.slice A' n c', .int .i64 e0] 57)
      have hb1 := b_then hbr ba
      have hI1 := hInr.later ba
      have hR1 := hRr.later ba
      obtain ⟨bx, hbx⟩ : ∃ bx, bx = wr.heap.size := ⟨_, rfl⟩
      rw [← hbx] at hBx ⊢
      generalize wr.alloc (.cells #[.slice A' n c', .int .i64 e0] 57) = wA at hBx hb1 hI1 hR1 ⊢
      have hB1 := b_then hB9 hb1
      have hbeg : ∀ w, Below wA.heap.size wA w → _ := fun w hw => On.beg_refd b s 0 w (hR1.later hw) ⟨by omega, by omega⟩ A' n c' xs e0 (hI1.later hw) hn href
      have hov : ∀ w, Below wA.heap.size wA w → _ := fun w hw => On.over_yes b s 0 w (hR1.later hw)
      have hcn : ∀ w, Below wA.heap.size wA w → _ := fun w hw => Rd.Count_any b s 0 0 w (hR1.later hw)
      have hlf : ∀ w, Below wA.heap.size wA w → _ := fun w hw => On.left_q b s 0 0 0 w (hR1.later hw) (hT.later (b_then hB1 hw)) (by rw [slots_zero]; rfl)
      have HBEG := Lib.hid hbeg
      have HOV := Lib.hid hov
      have HCN := Lib.hid hcn
      have HLF := Lib.hid hlf
      have hltx := hBx.lt
      have hS0 : On.SW wA bx (.slice A' n c') (.int .i64 e0) wA.drew := ⟨hBx.cell 0, hBx.cell 1, Below.drew (Below.refl _ _)⟩
      clear hbeg hov hcn hlf hBx ba hI1 hR1 hInr hRr d0 d1 hbx hB1 href hbr hgl
      go_region_held3 (fun w' => w'.cell? ⟨bx, 0, none⟩ = some (.slice A' n c') ∧ w'.cell? ⟨bx, 1, none⟩ = some (.int .i64 e0) ∧ On.KW wA w') (first | (with_reducible assumption) | (with_reducible exact hS0) | go_keep) (first
        | (go_at_call 9; (with_reducible refine (HBEG.out _ (On.SW.bel (by assumption))).mono ?_); rintro e w2 ⟨rfl, hbk⟩; have hS2 := On.SW.after (by assumption) hltx hbk)
        | (go_at_call 21; (with_reducible refine (HOV.out _ (On.SW.bel (by assumption))).mono ?_); rintro e w' ⟨rfl, rfl⟩)
        | (go_at_call 23; (with_reducible refine (HCN.out _ (On.SW.bel (by assumption))).mono ?_); rintro e w' ⟨rfl, rfl⟩)
        | (go_at_call 24; (with_reducible refine (HLF.out _ (On.SW.bel (by assumption))).mono ?_); rintro e w3 ⟨⟨A9, c9, rfl, _⟩, hbk⟩; have hS3 := On.SW.after (by assumption) hltx hbk))
      rename_i hEnd
      obtain ⟨_, _, hbE⟩ := hEnd
      have hbE : Below wA.heap.size wA _ := hbE
      go_wp2_with fail
      go_roundw
      case rel => exact ⟨k + 1, by omega, by go_num, b_then hb1 hbE⟩
      case measure => simp [intOf]; omega
    · have z1 : ¬ (k : Int) < 6 := by omega
      have hR := hR9.later hbr
      have hB := b_then hB9 hbr
      have oA := own_later oA9 hbr
      clear hT8 hR9 hB9 oA9 hbr
      have HQ' := Lib.hid HQ.out.symm
      go_wp2_with fail
      refine (On.beg_perm b s M 0 _ hR ⟨by omega, by omega⟩ _ q c (slots M) (List.Perm.refl _) HM.out (RI.of_row oA) HQ'.out).mono ?_
      rintro e w10 ⟨rfl, hR10, hO10⟩
      have hR10 : Rd.Is w10 b s M 1 := hR10
      have oA10 := On.own_only oA hO10 hbA
      have hB10 := Rd.only_below hB hO10 hWb
      clear hR hB oA hO10
      go_wp2_with fail
      obtain ⟨wB, hwB⟩ : ∃ wB, wB = (((w10.alloc (.cells #[.int .i64 (-1 - (m : Int))] 3)).alloc (.cells #[.int .i64 d, .int .i64 d] 3)).alloc (.cells #[.int .i64 ((s : Int) + (m : Int))] 3)).alloc (.cells #[.slice none 0 0, .slice (some ⟨g, 0, none⟩) q c, .slice (some ⟨w10.heap.size, 0, none⟩) 1 1, .slice (some ⟨w10.heap.size + 1, 0, none⟩) 2 2, .slice (some ⟨w10.heap.size + 1 + 1, 0, none⟩) 1 1] 22) := ⟨_, rfl⟩
      have bb : Below w10.heap.size w10 wB := by rw [hwB]; exact b_alloc (b_alloc (b_alloc (b_alloc (Below.refl _ _) _) _) _) _
      have hT : Rd.Tab W := hT
      obtain ⟨gb, hgb, hTB⟩ : ∃ gb, gb = w10.heap.size + 1 + 1 + 1 ∧ Blk wB gb 22 #[.slice none 0 0, .slice (some ⟨g, 0, none⟩) q c, .slice (some ⟨w10.heap.size, 0, none⟩) 1 1, .slice (some ⟨w10.heap.size + 1, 0, none⟩) 2 2, .slice (some ⟨w10.heap.size + 1 + 1, 0, none⟩) 1 1] := by
        refine ⟨_, rfl, ?_⟩
        rw [hwB]
        unfold Blk
        (with_reducible refine alloc_here' ?_)
        simp
      have hsl : ∀ k, k < 5 → ∃ A n c, wB.cell? ⟨gb, k, none⟩ = some (.slice A n c) := by
        intro k hk
        rw [hTB.cell]
        match k, hk with
        | 0, _ => exact ⟨_, _, _, rfl⟩
        | 1, _ => exact ⟨_, _, _, rfl⟩
        | 2, _ => exact ⟨_, _, _, rfl⟩
        | 3, _ => exact ⟨_, _, _, rfl⟩
        | 4, _ => exact ⟨_, _, _, rfl⟩
      have hgbl := hTB.lt
      rw [← hwB, ← hgb]
      have HSL := Lib.hid hsl
      have hRB := hR10.later bb
      have oAB := own_later oA10 bb
      have hBB := b_then hB10 bb
      clear hwB bb hgb hTB hsl hR10 oA10 hB10
      go_loopw [136] (fun i wr => ∃ k : Nat, k ≤ 5 ∧ i = .int .i64 k ∧ Below wB.heap.size wB wr) (fun i _ => 5 - (intOf i).toNat)
      case atStart => exact ⟨0, Nat.zero_le _, rfl, Below.refl _ _⟩
      case round =>
        obtain ⟨k, hk, rfl, hbr⟩ := hrel
        have hR := hRB.later hbr
        have oA := own_later oAB hbr
        have hB := b_then hBB hbr
        by_cases hlt : k < 5
        · have z1 : (k : Int) < 5 := by omega
          have z2 : (0 : Int) ≤ (k : Int) := by omega
          obtain ⟨A', n', c', e1⟩ := HSL.out k hlt
          have d0 : wr.cell? ⟨gb, k, none⟩ = some (.slice A' n' c') := (hbr.cell (p := ⟨gb, k, none⟩) hgbl).trans e1
          clear e1
          go_wp2_with fail
          refine (Rd.beg_state b s M 1 _ hR HM0.out A' n' c').mono ?_
          rintro e w11 ⟨rfl, hb11⟩
          have hR11 := hR.later hb11
          have oA11 := own_later oA hb11
          have hB11 := b_then hB hb11
          have hbr11 := b_then hbr hb11
          clear hR oA hB hbr hb11 d0
          go_wp2_with fail
          refine (Rd.Count_any b s M 1 _ hR11).mono ?_
          rintro e w' ⟨rfl, rfl⟩
          go_wp2_with fail
          refine (On.left_q b s M q 1 _ hR11 (hT.later hB11) HQ'.out).mono ?_
          rintro e w12 ⟨⟨A12, c12, rfl, o12⟩, hb12⟩
          have oA12 := own_later oA11 hb12
          have hbr12 := b_then hbr11 hb12
          have hlen : (ints (slots M)).length = q := by have := HQ'.out; simpa [ints] using this
          have hq12 := eqi_any A12 _ q c12 c (ints (slots M)) w12 hlen (RI.of_row o12) (RI.of_row oA12) (by unfold maxLen; omega)
          clear hR11 oA11 hB11 hbr11 hb12 hlen o12 oA12
          go_wp2_with fail
          refine hq12.mono ?_
          rintro e w13 ⟨rfl, q13, rfl⟩
          have hbr13 := below_drewN hbr12 q13
          generalize World.drewN w12 q13 = w13 at hbr13 ⊢
          clear hq12 hbr12
          go_wp2_with fail
          go_roundw
          case rel => exact ⟨k + 1, by omega, by go_num, hbr13⟩
          case measure => simp [intOf]; omega
        · have z1 : ¬ (k : Int) < 5 := by omega
          clear oA hR hRB oAB hBB HSL
          go_wp2_with fail
          have hTC := Blk.new wr 3 #[.int .i64 (-(m : Int)), .int .i64 (33 + (m : Int))]
          have hBC := b_alloc hB (.cells #[.int .i64 (-(m : Int)), .int .i64 (33 + (m : Int))] 3)
          obtain ⟨gc, hgc⟩ : ∃ gc, gc = wr.heap.size := ⟨_, rfl⟩
          rw [← hgc] at hTC ⊢
          generalize wr.alloc (.cells #[.int .i64 (-(m : Int)), .int .i64 (33 + (m : Int))] 3) = wC at hTC hBC ⊢
          have hin : ∀ k, k < 2 → ∃ x : Int, wC.cell? ⟨gc, k, none⟩ = some (.int .i64 x) ∧ (x < 1 ∨ 32 < x) := by
            intro k hk
            rw [hTC.cell]
            match k, hk with
            | 0, _ => exact ⟨_, rfl, by omega⟩
            | 1, _ => exact ⟨_, rfl, by omega⟩
          have HIN := Lib.hid hin
          have hgl := hTC.lt
          clear hin hTC hgc hB hbr
          go_loopw [163] (fun i wr => ∃ k : Nat, k ≤ 2 ∧ i = .int .i64 k ∧ Below wC.heap.size wC wr) (fun i _ => 2 - (intOf i).toNat)
          case atStart => exact ⟨0, Nat.zero_le _, rfl, Below.refl _ _⟩
          case round =>
            obtain ⟨k, hk, rfl, hbr⟩ := hrel
            by_cases hlt : k < 2
            · have z1 : (k : Int) < 2 := by omega
              have z2 : (0 : Int) ≤ (k : Int) := by omega
              obtain ⟨x, e0, hx⟩ := HIN.out k hlt
              have e1 : wr.cell? ⟨gc, k, none⟩ = some (.int .i64 x) := (hbr.cell (p := ⟨gc, k, none⟩) hgl).trans e0
              clear e0
              go_wp2_with fail
              refine (Rd.New_err x _ hx).mono ?_
              rintro e w' ⟨rfl, rfl⟩
              clear hx
              go_wp2_with fail
              go_roundw
              case rel => exact ⟨k + 1, by omega, by go_num, hbr⟩
              case measure => simp [intOf]; omega
            · have z1 : ¬ (k : Int) < 2 := by omega
              have hBD := b_then hBC hbr
              go_wp2_with fail
              refine (Rd.works_true _ (hT.later hBD)).mono ?_
              rintro e wz ⟨rfl, hbz⟩
              go_wp2_with fail
              go_ret
              exact ⟨rfl, b_then hBD hbz⟩

set_option maxRecDepth 100000 in
theorem lifted (os : Os) (started : os.Started) (H : Type) (enc : TypeId × Value → H) :
    ReturnsInHanded {} Tryd.checked os 6 .any (fun w args => (Rows.roundRefusesSpec.pre enc Tryd.prog Tryd.f6 [] false w args ∧ laidMetH Tryd.prog Rows.roundRefusesRow.laid w) ∧ sizedMet enc Tryd.prog Tryd.f6 (OpenSpec.ofChange Rows.roundRefusesSpec) false w args)
      (Rows.roundRefusesSpec.post enc Tryd.prog Tryd.f6 false true false false) := by
  refine returnsInHanded_of_change_and (C := Tryd.checked) (X := fun w _ => laidMetH Tryd.prog Rows.roundRefusesRow.laid w) (fun _ _ _ hh h => h.of_heap hh) own started (by kernel_rfl) Tryd.func6
    (ChangeSpec.witness_at (enc := enc) (C := Tryd.checked) (os := os) (X := fun w _ => laidMetH Tryd.prog Rows.roundRefusesRow.laid w) false (Rd.laidWorld os) #[.int .u8 0, .int .u32 0, .int .u8 0, .int .u16 0] 8 rfl (by kernel_rfl) (by kernel_rfl) (by kernel_rfl) (by kernel_rfl) (by kernel_rfl) (Rd.laidWorld_met os _)) ?_
  intro W base args ds gs before hval0 hW _ _ hL _
  have hval : ∀ (j : Nat) t v, Tryd.f6.params[j]? = some t → args[j]? = some v → Value.okWide Tryd.prog W .any base t v := hval0
  have hT := Rd.tab_of_laid hL
  have hW' := hW
  obtain ⟨p, q, hA0, hV, rfl, hfz, hnd⟩ := hW
  have hA : DataW.TrodAll enc Tryd.prog W 0 (fun _ => true) true Tryd.f6.params.toList args.toList ds p := hA0
  rw [Tryd.params6] at hA hval
  obtain ⟨v0, vs0, d0, ds0, p0, q0, hargs, rfl, rfl, h0, r0⟩ := trodAll_cons hA
  obtain ⟨v1, vs1, d1, ds1, p1, q1, rfl, rfl, rfl, h1, r1⟩ := trodAll_cons r0
  obtain ⟨v2, vs2, d2, ds2, p2, q2, rfl, rfl, rfl, h2, r2⟩ := trodAll_cons r1
  obtain ⟨v3, vs3, d3, ds3, p3, q3, rfl, rfl, rfl, h3, r3⟩ := trodAll_cons r2
  obtain ⟨rfl, rfl, rfl⟩ := trodAll_nil r3
  obtain rfl : args = #[v0, v1, v2, v3] := by cases args; simp_all
  obtain ⟨rfl, rfl⟩ := trodVars_none hV
  refine (walk (H := H) (enc := enc) W base hT (hval 0 5 v0 rfl rfl) h0 (hval 1 25 v1 rfl rfl) h1 (hval 2 5 v2 rfl rfl) h2 (hval 3 55 v3 rfl rfl) h3).mono fun e W' ⟨he, bel⟩ => ?_
  subst he
  exact ⟨_, rfl, _, _, _, [], _, [], hW', trodAll_mk1 (shut_bool Tryd.underlying4 _), (trodAll_cons_mk (Below.trod laidOut (by kernel_rfl) (of_decide_eq_true (by kernel_rfl)) h0 bel (lt_of_Trod h0)) (trodAll_cons_mk (Below.trod laidOut (by kernel_rfl) (of_decide_eq_true (by kernel_rfl)) h1 bel (lt_of_Trod h1)) (trodAll_cons_mk (Below.trod laidOut (by kernel_rfl) (of_decide_eq_true (by kernel_rfl)) h2 bel (lt_of_Trod h2)) (trodAll_cons_mk (Below.trod laidOut (by kernel_rfl) (of_decide_eq_true (by kernel_rfl)) h3 bel (lt_of_Trod h3)) trodAll_mk0)))), rfl, bel.frame _, fun h => by cases h⟩

theorem row_holds : Rows.RoundRefusesSaid :=
  OpenClaim.holds_of_wide 6 Tryd.f6 rfl rfl rfl rfl rfl rfl rfl ⟨rfl, rfl, rfl, rfl, rfl⟩ rfl rfl rfl rfl rfl (by kernel_rfl) Tryd.func6 (by kernel_rfl)
    (of_decide_eq_true (by kernel_rfl)) (by unfold Func.isWrapper; first | (rw [if_pos (by decide +kernel)]; kernel_rfl) | (rw [if_neg (by decide +kernel)]; exact ⟨rfl, rfl⟩))
    (fun os started H enc _ => lifted os started H enc)
set_option maxRecDepth 100000 in
/-- RoundRefuses: for every number of slots, set, slot and distance the law returns true and changes nothing. No condition but the library's table. -/
theorem proved : Rows.RoundRefusesCardSaid :=
  Claim7.holds_tied_plain_at .later [] [.data] true (true, "78b4ba762495fc154c5a857764e62199e31d2c0b3599cef7315f08e2fe8f9bd5") false
    row_holds (fun _ h => by cases h) (by kernel_rfl) (fun _ h => by cases h) roundRefuses_row_tie rfl ⟨rfl, rfl⟩ (by kernel_rfl) rfl
    (fun f fn hf hfn => by
      obtain rfl : f = 6 := Option.some.inj ((show Tryd.prog.funcNamed "drumlin/drumlinlaw27.RoundRefuses" = some 6 by kernel_rfl).symm.trans hf) |>.symm
      obtain rfl : fn = Tryd.f6 := (Option.some.inj (Tryd.func6.symm.trans hfn)).symm
      exact ⟨by kernel_rfl, fun j t ht => by
        rw [Tryd.params6] at ht
        exact Rd.no_stand (l := [5, 25, 5, 55]) (by kernel_rfl) j t (by simpa using ht)⟩)
    (by kernel_rfl)
#print axioms proved
end Go.Proofs.YtaidekdmhmoaeaaDoor.roundRefuses
