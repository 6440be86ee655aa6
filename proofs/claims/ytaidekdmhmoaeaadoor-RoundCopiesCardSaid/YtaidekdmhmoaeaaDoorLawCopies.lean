/-
  RoundCopies: for every number of slots, set, order, number of slots done and place to stop the law returns true and changes nothing. No condition but the library's table.
-/
import Derived.Test.YtaidekdmhmoaeaaDoorTab
import Derived.Test.YtaidekdmhmoaeaaDoorOnd
import Derived.Test.YtaidekdmhmoaeaaDoorOne
import Derived.Test.YtaidekdmhmoaeaaDoorRgb
import Derived.Deep.CutBlock
import Derived.Deep.DeepCutAuto
namespace Go.Proofs.YtaidekdmhmoaeaaDoor.roundCopies
open Go.ChangeShapes Go.WideShapes Go.ChangeAt Go.RowKit Bt
open Rd (ints)
open On (open_u32s)
set_option linter.unusedVariables false
set_option linter.unusedSimpArgs false

open Go.Shelf
open Rd (sEnc aG left_iter)
attribute [local go_sem] Oper.semAt_some
/-- what a loop has collected between two rounds: at most lm slots, in the box fb -/
def FI (wS : World) (fb base lm : Nat) (s : List Int × Option Nat) (W : World) : Prop :=
  ∃ (A' : Option Addr) (cap' : Nat), s.2 = rowOf A' ∧ s.1.length ≤ lm ∧ W.ownsRow base 3 1 (.slice A' s.1.length cap') s.1.length (s.1.map (Value.int .i64)) ∧ Blk W fb 22 #[.slice A' s.1.length cap'] ∧ Below wS.heap.size wS W
/-- what it has collected when it has stopped -/
def FX (wS : World) (fb base lm id : Nat) (c : Code) (s : List Int × Option Nat) (W : World) : Prop :=
  c = .exit id ∧ s.1.length = lm + 1 ∧ ∃ (A' : Option Addr) (cap' : Nat), s.2 = rowOf A' ∧ W.ownsRow base 3 1 (.slice A' lm cap') lm ((s.1.take lm).map (Value.int .i64)) ∧ Blk W fb 22 #[.slice A' lm cap'] ∧ Below wS.heap.size wS W
/-- the loop's end: the first n slots -/
def FE (wS : World) (fb base n : Nat) (xs : List Int) (W : World) : Prop :=
  ∃ (A' : Option Addr) (cap' : Nat), W.ownsRow base 3 1 (.slice A' n cap') n (xs.map (Value.int .i64)) ∧ Blk W fb 22 #[.slice A' n cap'] ∧ Below wS.heap.size wS W
theorem FI.own {wS : World} {fb base lm C : Nat} (hC : wS.heap.size ≤ C) : OwnFrom C (FI wS fb base lm) := by
  rintro s A1 A2 row ⟨A', cap', h1, h1', h2, k0, h8⟩ hg hr
  have hr' := fun r e => (hr r e).2
  exact ⟨A', cap', h1, h1', own_turn' h2 hg hr', k0.turn hg hr', below_turn h8 hg (fun r e => by have := (hr r e).1; omega) h8.size⟩
theorem FX.own {wS : World} {fb base lm id C : Nat} (hC : wS.heap.size ≤ C) (c : Code) : OwnFrom C (FX wS fb base lm id c) := by
  rintro s A1 A2 row ⟨h0, h1', A', cap', h1, h2, k0, h8⟩ hg hr
  have hr' := fun r e => (hr r e).2
  exact ⟨h0, h1', A', cap', h1, own_turn' h2 hg hr', k0.turn hg hr', below_turn h8 hg (fun r e => by have := (hr r e).1; omega) h8.size⟩
theorem FI.done {wS : World} {fb base lm n : Nat} {xs : List Int} {r : Option Nat} {W : World} (h : FI wS fb base lm (xs, r) W) (hn : xs.length = n) : FE wS fb base n xs W := by
  subst hn
  obtain ⟨A', cap', _, _, h2, k0, h8⟩ := h
  exact ⟨A', cap', h2, k0, h8⟩
theorem FX.done {wS : World} {fb base lm id : Nat} {c : Code} {xs : List Int} {r : Option Nat} {W : World} (h : FX wS fb base lm id c (xs, r) W) : c = .exit id ∧ xs.length = lm + 1 ∧ FE wS fb base lm (xs.take lm) W := by
  obtain ⟨h0, h1', A', cap', h1, h2, k0, h8⟩ := h
  exact ⟨h0, h1', A', cap', h2, k0, h8⟩
abbrev S3 (a : World) (p1 : Nat) (v1 : Value) (p2 : Nat) (v2 : Value) (p3 : Nat) (v3 : Value) (w' : World) : Prop := w'.cell? ⟨p1, 0, none⟩ = some v1 ∧ w'.cell? ⟨p2, 0, none⟩ = some v2 ∧ w'.cell? ⟨p3, 0, none⟩ = some v3 ∧ On.KW a w'
section
variable {a w w' : World} {p1 p2 p3 : Nat} {v1 v2 v3 : Value}
theorem S3.bel (h : S3 a p1 v1 p2 v2 p3 v3 w') : Below a.heap.size a w' := h.2.2.2
theorem S3.after (h : S3 a p1 v1 p2 v2 p3 v3 w) (l1 : p1 < a.heap.size) (l2 : p2 < a.heap.size) (l3 : p3 < a.heap.size) (hb : Below w.heap.size w w') : S3 a p1 v1 p2 v2 p3 v3 w' := by
  have hs := h.bel.size
  exact ⟨(hb.cell (p := ⟨p1, 0, none⟩) (Nat.lt_of_lt_of_le l1 hs)).trans h.1, (hb.cell (p := ⟨p2, 0, none⟩) (Nat.lt_of_lt_of_le l2 hs)).trans h.2.1, (hb.cell (p := ⟨p3, 0, none⟩) (Nat.lt_of_lt_of_le l3 hs)).trans h.2.2.1, b_then h.bel hb⟩
end
theorem wp_noexit {P : Program} {c : Code} {K : Act → World → Prop} {Q' : Exit → Act → World → Prop} {a : Act} {w : World} (h : c.wp P (Exit.then K (fun _ _ _ => False)) a w) : c.wp P (Exit.then K Q') a w :=
  wp_mono h fun e a w hp => by cases e <;> first | exact hp | exact hp.elim

set_option maxHeartbeats 6400000 in
set_option maxRecDepth 100000 in
theorem walk {H : Type} {enc : TypeId × Value → H} (W : World) (base : Nat) (hT : Rd.Tab W) {v0 v1 v2 v3 v4 : Value} {d0 d1 d2 d3 d4 : DataW H} {p0 p1 p2 p3 p4 : List MemPlace} (o0 : Value.okWide Tryd.prog W .any base 5 v0) (h0 : DataW.Trod enc Tryd.prog W 0 (fun _ => true) true 5 v0 d0 p0) (o1 : Value.okWide Tryd.prog W .any base 25 v1) (h1 : DataW.Trod enc Tryd.prog W 0 (fun _ => true) true 25 v1 d1 p1) (o2 : Value.okWide Tryd.prog W .any base 48 v2) (h2 : DataW.Trod enc Tryd.prog W 0 (fun _ => true) true 48 v2 d2 p2) (o3 : Value.okWide Tryd.prog W .any base 5 v3) (h3 : DataW.Trod enc Tryd.prog W 0 (fun _ => true) true 5 v3 d3 p3) (o4 : Value.okWide Tryd.prog W .any base 5 v4) (h4 : DataW.Trod enc Tryd.prog W 0 (fun _ => true) true 5 v4 d4 p4) :
    Calls Tryd.prog 7 #[v0, v1, v2, v3, v4] W fun e W' => e = .returned (.bool true) ∧ Below W.heap.size W W' := by
  obtain ⟨nz, rfl, rfl, rfl, wn⟩ := open_int Tryd.underlying5 o0 h0
  have bn := bounds_u8 wn
  obtain ⟨nn, rfl⟩ : ∃ nn : Nat, nz = (nn : Int) := ⟨nz.toNat, by omega⟩
  clear wn o0 h0
  obtain ⟨s, hs⟩ : ∃ s, s = 1 + nn % 32 := ⟨_, rfl⟩
  have y1 : 1 + (nn : Int) % 32 = (s : Int) := by omega
  have y2 : 1 ≤ s := by omega
  have y3 : s ≤ 32 := by omega
  clear hs
  obtain ⟨Sz, rfl, rfl, rfl, wS⟩ := open_int Tryd.underlying25 o1 h1
  have bS := bounds_u32 wS
  obtain ⟨S, rfl⟩ : ∃ S : Nat, Sz = (S : Int) := ⟨Sz.toNat, by omega⟩
  obtain ⟨bz, rfl, rfl, rfl, wb⟩ := open_int Tryd.underlying48 o2 h2
  have hbz := (bounds_u64 wb).1
  obtain ⟨dz, rfl, rfl, rfl, wd⟩ := open_int Tryd.underlying5 o3 h3
  have bd := bounds_u8 wd
  obtain ⟨dn, rfl⟩ : ∃ dn : Nat, dz = (dn : Int) := ⟨dz.toNat, by omega⟩
  obtain ⟨sz, rfl, rfl, rfl, wst⟩ := open_int Tryd.underlying5 o4 h4
  have bst := bounds_u8 wst
  obtain ⟨st, rfl⟩ : ∃ st : Nat, sz = (st : Int) := ⟨sz.toNat, by omega⟩
  clear wS wb wd wst o1 h1 o2 h2 o3 h3 o4 h4
  refine (callsIn_wide (n := 9)).1 ?_
  refine callsIn_of_wp_marks Tryd.func7 rfl trivial ?_ rfl
  simp only [Tryd.ntmps7, List.size_toArray, List.length_cons, List.length_nil, Nat.reduceAdd, Nat.reduceSub, Array.replicate_succ, Array.replicate_zero, List.push_toArray, List.append_toArray, List.nil_append, List.cons_append]
  gi_wp2
  refine ⟨trivial, (callsIn_wide.2 (Rd.New_ok s _ y2 y3)).mono ?_⟩
  rintro e w1 ⟨b, rfl, hR, hWb, hb1⟩
  have x1 := (Blk.alloc (Blk.new W 5 #[.int .u8 st]) (.cells #[.bool false] 4)).below hb1 (by simp <;> omega)
  have x2 : Blk w1 (W.heap.size + 1) 4 #[.bool false] := by
    have h := Blk.new (W.alloc (.cells #[.int .u8 st] 5)) 4 #[.bool false]
    rw [World.size_alloc] at h
    exact h.below hb1 (by simp)
  have hB1 : Below W.heap.size W w1 := b_then (b_alloc (b_alloc (Below.refl _ _) _) _) hb1
  simp only [World.size_alloc] at hWb
  clear hb1
  gi_wp2
  refine ⟨trivial, (callsIn_wide.2 (On.mem_ex S s _ y3 (by omega))).mono ?_⟩
  rintro e w2 ⟨M, q, A, c, hM, hq, hq32, rfl, oA, hb2⟩
  have hR2 := hR.later hb2
  have hB2 := b_then hB1 hb2
  have x3 := x1.below hb2 x1.lt
  have x4 := x2.below hb2 x2.lt
  have hbA : b < w1.heap.size := hR.lt
  have HM := Lib.hid hM
  have HQ := Lib.hid hq
  clear hM hq hR hB1 x1 x2 hb2
  gi_wp2
  refine ⟨trivial, (callsIn_wide.2 (On.beg_perm b s M 0 _ hR2 ⟨by omega, by omega⟩ _ q c (slots M) (List.Perm.refl _) HM.out (RI.of_row oA) HQ.out)).mono ?_⟩
  rintro e w3 ⟨rfl, hR3, hO3⟩
  have hR3 : Rd.Is w3 b s M 1 := hR3
  have oA3 := On.own_only oA hO3 hbA
  have hB3 := b_then hB2 (Below.refl _ _)
  have hB3 : Below W.heap.size W w3 := Rd.only_below hB2 hO3 (by omega)
  have x5 := hO3.blk x3 (by omega) (fun e => by cases e)
  have x6 := hO3.blk x4 (by omega) (fun e => by cases e)
  clear hR2 hB2 oA hO3 x3 x4
  gi_wp2
  obtain ⟨t, ht⟩ : ∃ t : Nat, t = dn % (q + 1) := ⟨_, rfl⟩
  have htq : t ≤ q := by have := Nat.mod_lt dn (show 0 < q + 1 by omega); omega
  have e1 : (dn : Int).tmod ((q : Int) + 1) = (t : Int) := by rw [Int.tmod_eq_emod_of_nonneg (by omega), ht, Int.natCast_emod]; rfl
  have e2 : IntKind.i64.wrap (dn : Int) = (dn : Int) := by rw [IntKind.wrap_i64]; omega
  have e3 : IntKind.i64.wrap ((q : Int) + 1) = (q : Int) + 1 := by rw [IntKind.wrap_i64]; omega
  have e4 : IntKind.i64.wrap (t : Int) = (t : Int) := by rw [IntKind.wrap_i64]; omega
  have e5 : ¬ ((q : Int) + 1 = 0) := by omega
  have t1 : (0 : Int) ≤ (t : Int) := by omega
  have t2 : (t : Int) ≤ (q : Int) := by omega
  clear ht
  refine wpIn_wide.2 ?_
  go_cut [53, 54, 55] from 44 to 55 (fun s53 s54 s55 wx => ∃ (A8 : Option Addr) (c8 : Nat) (ks : List Nat), s53 = .slice A8 t c8 ∧ s54 = .int .i64 t ∧ s55 = .int .i64 0 ∧ ks.Perm (slots M) ∧ wx.ownsRow w3.heap.size 3 1 (.slice A8 q c8) q ((ints ks).map (Value.int .i64)) ∧ Below w3.heap.size w3 wx)
  case first =>
    refine wp_noexit ?_
    have hord : ∀ w, Below w3.heap.size w3 w → _ := fun w hw => On.ord_ks A q c (slots M) bz w ((On.InS.of_own oA3).later hw) (by omega) hbz
    have HORD := Lib.hid hord
    have hS0 : On.KW w3 w3.drew := Below.drew (Below.refl _ _)
    clear hord hR3 oA3 hB3 x5 x6 hWb
    go_region_held3 (fun w' => On.KW w3 w') (first | (with_reducible assumption) | (with_reducible exact hS0) | go_keep) (first
      | (go_at_call 22; (with_reducible refine (HORD.out _ (On.KW.bel (by assumption))).mono ?_); rintro e w4 ⟨A8, c8, ks, hp, rfl, oK, hbk⟩; have hcap := (own_cap oK).2.1; have hcm := (own_cap oK).2.2; have hc1 : (t : Int) ≤ (c8 : Int) := (by omega); have hc2 : (c8 : Int) ≤ 9223372036854775807 := (by unfold maxLen at hcm; omega); have hS4 : On.KW w3 w4 := b_then (On.KW.bel (by assumption)) hbk))
    rename_i hEnd
    go_wp2
    go_meet
    exact ⟨A8, c8, ks, rfl, rfl, rfl, hp, oK, On.KW.bel (by assumption)⟩
  case rest =>
    obtain ⟨A8, c8, ks, rfl, rfl, rfl, hp, oK, hbc⟩ := hcut
    have hR4 := hR3.later hbc
    have hB4 := b_then hB3 hbc
    have x7 := x5.below hbc x5.lt
    have x8 := x6.below hbc x6.lt
    have hb3 : b < w3.heap.size := hR3.lt
    have HP := Lib.hid hp
    have hl : ks.length = q := by rw [hp.length_eq]; exact HQ.out
    have HL := Lib.hid hl
    have hcap := (own_cap oK).2.1
    clear hR3 oA3 hB3 x5 x6 hbc hp hl e1 e2 e3 e4 e5
    gi_wp2
    gi_loopw [55] (fun i wr => ∃ j : Nat, j ≤ t ∧ i = .int .i64 j ∧ Rd.Is wr b s (delAll M (ks.take j)) 1 ∧ wr.ownsRow w3.heap.size 3 1 (.slice A8 q c8) q ((ints ks).map (Value.int .i64)) ∧ Blk wr W.heap.size 5 #[.int .u8 st] ∧ Blk wr (W.heap.size + 1) 4 #[.bool false] ∧ Below W.heap.size W wr) (fun i _ => t - (intOf i).toNat)
    case atStart => exact ⟨0, Nat.zero_le _, rfl, hR4, oK, x7, x8, hB4⟩
    case round =>
      clear hR4 oK x7 x8 hB4
      obtain ⟨j, hj, rfl, hR, oK, x5, x6, hB⟩ := hrel
      by_cases hjt : j < t
      · have z1 : (j : Int) < (t : Int) := by omega
        have z2 : (0 : Int) ≤ (j : Int) := by omega
        obtain ⟨x, hx⟩ : ∃ x, ks[j]? = some x := ⟨_, List.getElem?_eq_getElem (by have := HL.out; omega)⟩
        obtain ⟨a1, a2, a3, a4, a5, a6⟩ := perm_next HP.out (On.pow32 HM.out y3) hx
        have a7 := perm_lt HP.out HM.out x (List.mem_of_getElem? hx)
        obtain ⟨g, rfl, hg1, hg2, cc, _⟩ := own_at oK (i := j) (u := .int .i64 x) (by rw [List.getElem?_map, show (ints ks)[j]? = some (x : Int) by unfold ints; rw [List.getElem?_map, hx]; rfl]; rfl)
        have A6 := Lib.hid a6
        obtain ⟨M', hM'⟩ : ∃ M', M' = delAll M (ks.take j) := ⟨_, rfl⟩
        rw [← hM'] at hR a3 a4 A6
        clear hx a1 a2 a5 a6 hM' a4
        gi_wp2
        refine ⟨trivial, (callsIn_wide.2 (Rd.Done_ok b s M' _ x _ hR a7 a3)).mono ?_⟩
        rintro e w9 ⟨rfl, hR9, hO9⟩
        have oK9 := On.own_only oK hO9 hb3
        have hB9 := Rd.only_below hB hO9 (by omega)
        have x9 := hO9.blk x5 (by omega) (fun e => by cases e)
        have x10 := hO9.blk x6 (by omega) (fun e => by cases e)
        clear hR oK hB hO9 a3 x5 x6 cc
        gi_wp2
        go_roundw
        case rel => exact ⟨j + 1, by omega, by go_num, by rw [A6.out]; exact hR9, oK9, x9, x10, hB9⟩
        case measure => simp [intOf]; omega
      · have z1 : ¬ (j : Int) < (t : Int) := by omega
        have hMs : delAll M (ks.take j) < 2 ^ s := Nat.lt_of_le_of_lt (delAll_le _ M) HM.out
        obtain ⟨R, hRd⟩ : ∃ R, R = delAll M (ks.take j) := ⟨_, rfl⟩
        rw [← hRd] at hR hMs
        obtain ⟨r, hr⟩ : ∃ r, (slots R).length = r := ⟨_, rfl⟩
        have hr32 : r ≤ 32 := by rw [← hr]; exact On.slots_len32 R
        have HR := Lib.hid hr
        have HMS := Lib.hid hMs
        clear oK hRd hr hMs
        gi_wp2
        refine ⟨trivial, (callsIn_wide.2 (Rd.Copy_any b s R 1 _ hR)).mono ?_⟩
        rintro e vC ⟨b2, rfl, hCa, hbb2, hk⟩
        have hbne : b ≠ b2 := by have := hR.lt; omega
        have hWb2 : W.heap.size + 1 < b2 := by have := hR.lt; omega
        have hb2v : b2 < vC.heap.size := hCa.lt
        have hRa := hR.later hk
        have hBa := b_then hB hk
        have x5a := x5.below hk x5.lt
        have x6a := x6.below hk x6.lt
        clear hR hB x5 x6 hk
        gi_wp2
        refine ⟨trivial, (callsIn_wide.2 (On.left_q b s R r 1 _ hRa (hT.later hBa) HR.out)).mono ?_⟩
        rintro e v2 ⟨⟨A9, c9, rfl, o9b⟩, hk⟩
        have hRb := hRa.later hk
        have hBb := b_then hBa hk
        have x5b := x5a.below hk x5a.lt
        have x6b := x6a.below hk x6a.lt
        have hCb := hCa.later hk
        clear hRa hBa x5a x6a hCa hk
        gi_wp2
        refine ⟨trivial, (callsIn_wide.2 (On.left_q b2 s R r 1 _ hCb (hT.later hBb) HR.out)).mono ?_⟩
        rintro e v3 ⟨⟨A10, c10, rfl, o10⟩, hk⟩
        have hRc := hRb.later hk
        have hBc := b_then hBb hk
        have x5c := x5b.below hk x5b.lt
        have x6c := x6b.below hk x6b.lt
        have hCc := hCb.later hk
        have o9c := own_later o9b hk
        clear hRb hBb x5b x6b hCb o9b hk
        have hlen : (ints (slots R)).length = r := by have := HR.out; simpa [ints] using this
        have HLEN := Lib.hid hlen
        have hq := eqi_any A10 A9 r c10 c9 (ints (slots R)) v3 hlen (RI.of_row o10) (RI.of_row o9c) (by unfold maxLen; omega)
        clear hlen o10
        gi_wp2
        refine ⟨trivial, (callsIn_wide.2 (hq)).mono ?_⟩
        rintro e w' ⟨rfl, q4, rfl⟩
        have hk : Below v3.heap.size v3 (World.drewN v3 q4) := below_drewN (Below.refl _ _) q4
        generalize World.drewN v3 q4 = v4 at hk ⊢
        clear hq
        have hRd := hRc.later hk
        have hBd := b_then hBc hk
        have x5d := x5c.below hk x5c.lt
        have x6d := x6c.below hk x6c.lt
        have hCd := hCc.later hk
        have o9d := own_later o9c hk
        clear hRc hBc x5c x6c hCc o9c hk
        gi_wp2
        refine ⟨trivial, (callsIn_wide.2 (Rd.Count_any b2 s R 1 _ hCd)).mono ?_⟩
        rintro e w' ⟨rfl, rfl⟩
        have ho1 := Rd.Over_any b2 s R 1 _ hCd
        have ho2 := Rd.Over_any b s R 1 _ hRd
        generalize (R == 0) = ov at ho1 ho2
        gi_wp2
        refine ⟨trivial, (callsIn_wide.2 (ho1)).mono ?_⟩
        rintro e w' ⟨rfl, rfl⟩
        gi_wp2
        refine ⟨trivial, (callsIn_wide.2 (ho2)).mono ?_⟩
        rintro e w' ⟨rfl, rfl⟩
        clear ho1 ho2
        gi_wp2
        refine ⟨trivial, (callsIn_wide.2 (Rd.Left_any (some ⟨b2, 0, none⟩) _)).mono ?_⟩
        rintro e w' ⟨rfl, rfl⟩
        have hP := Blk.new v4 24 #[.pointer (some ⟨b2, 0, none⟩)]
        have hk := b_alloc (Below.refl v4.heap.size v4) (.cells #[.pointer (some ⟨b2, 0, none⟩)] 24)
        obtain ⟨pb, hpb⟩ : ∃ pb, pb = v4.heap.size := ⟨_, rfl⟩
        rw [← hpb] at hP ⊢
        have hpl : v4.heap.size < (v4.alloc (.cells #[.pointer (some ⟨b2, 0, none⟩)] 24)).heap.size := by simp
        rw [← hpb] at hpl
        generalize v4.alloc (.cells #[.pointer (some ⟨b2, 0, none⟩)] 24) = wS at hP hk hpl ⊢
        clear hpb
        have hRS := hRd.later hk
        have hBS := b_then hBd hk
        have x5S := x5d.below hk x5d.lt
        have x6S := x6d.below hk x6d.lt
        have hCS := hCd.later hk
        have o9S := own_later o9d hk
        clear hRd hBd x5d x6d hCd o9d hk
        have hPS := hP
        clear hP
        gi_wp2
        obtain ⟨lm, hlm⟩ : ∃ lm : Nat, lm = st % 33 := ⟨_, rfl⟩
        have hlm1 : (st : Int) % 33 = (lm : Int) := by omega
        have hlm2 : lm ≤ 32 := by omega
        clear hlm
        have HR' := HR.out
        obtain ⟨LL, hLL⟩ : ∃ LL, LL = ints (slots R) := ⟨_, rfl⟩
        have hLn : LL.length = r := by rw [hLL]; exact HLEN.out
        have HLL := Lib.hid hLL
        have HLN := Lib.hid hLn
        obtain ⟨i0, hi0, hz0, hz1, hz2⟩ := info_parts Rd.info
        obtain ⟨pn, hpn⟩ : ∃ pn, pn = min r lm := ⟨_, rfl⟩
        have HPN := Lib.hid hpn
        clear hLL hLn HR' hpn
        have be0 := Below.refl wS.heap.size wS
        have hX0 := Blk.new wS 22 #[.slice none 0 0]
        have hk0 := b_alloc (Below.refl wS.heap.size wS) (.cells #[.slice none 0 0] 22)
        have hsA0 : (wS.alloc (.cells #[.slice none 0 0] 22)).heap.size = wS.heap.size + 1 := World.size_alloc _ _
        obtain ⟨fb0, hfb0⟩ : ∃ fb, fb = wS.heap.size := ⟨_, rfl⟩
        rw [← hfb0] at hX0 hsA0 ⊢
        generalize wS.alloc (.cells #[.slice none 0 0] 22) = uA0 at hX0 hk0 hsA0 ⊢
        have HFB0 := Lib.hid hfb0
        have hFI0 : FI wS fb0 uA0.heap.size lm ([], none) uA0 := ⟨none, 0, rfl, Nat.zero_le _, World.ownsRow_nil _ _ _ _, hX0, hk0⟩
        have hszle : wS.heap.size ≤ uA0.heap.size := hk0.size
        have HSA0 := Lib.hid hsA0
        clear hfb0 hX0 hk0 hsA0
        refine range_brk rfl (by omega) (gf := 41) (lb := #[.pointer (some ⟨pb, 0, none⟩)]) rfl trivial (enters_of Tryd.func41 (by kernel_rfl) rfl)
          (encs := sEnc) (G := aG (some ⟨b2, 0, none⟩) LL pb) (S := fun ys => ys = LL) (Sp := fun ys => ∃ j, j ≤ LL.length ∧ ys = LL.take j) (fun _ => rfl) none (fun k hk => by cases hk)
          (fun W1 hW1 hs1 => left_iter _ (by omega) _ _ LL _ W1)
          (FI wS fb0 uA0.heap.size lm) (FX wS fb0 uA0.heap.size lm 2) (FE wS fb0 uA0.heap.size pn (LL.take pn))
          (FI.own hszle) (fun c => FX.own hszle c)
          (by
            rintro ss A1 ⟨A', cap', h1, h1', h2, k0, h8⟩
            have h9 := b_then be0 h8
            exact ⟨.inr ⟨b2, s, R, 1, rfl, hCS.later h9, HLL.out⟩, hT.later (b_then hBS h9), (hPS.below h9 hPS.lt).cell 0⟩)
          hFI0 ?round ?done ?stop ?rest
        case done =>
          rintro xs r' Wd hxs hI
          subst hxs
          have h1 : r ≤ lm := by obtain ⟨A', cap', _, h, _⟩ := hI; have h : xs.length ≤ lm := h; have := HLN.out; omega
          have h2 : pn = r := by have := HPN.out; omega
          rw [h2, List.take_of_length_le (by rw [HLN.out]; exact Nat.le_refl _)]
          exact hI.done HLN.out
        case stop =>
          rintro c pre r' Wd ⟨j, hj, rfl⟩ hX
          obtain ⟨h0, h1, h2⟩ := hX.done
          have h3 : pn = lm := by have := HPN.out; have := HLN.out; rw [List.length_take] at h1; omega
          rw [List.take_take] at h2
          rw [List.length_take] at h1
          rw [show min lm j = lm by omega] at h2
          rw [h3]
          exact ⟨h0, h2⟩
        case round =>
          clear hFI0
          rintro l pre x r' W1 hl1 hl2 hlr ⟨j, hj, hpre⟩ hI
          have hpl := congrArg List.length hpre
          have hltr : pre.length < r := by have := HLN.out; simp at hpl; omega
          obtain ⟨i, hi⟩ : ∃ i, i = pre.length := ⟨_, rfl⟩
          have hsl : (pre ++ [x]).length = i + 1 := by simp [hi]
          have hsm : ((pre ++ [x]).map (Value.int .i64)) = (pre.map (Value.int .i64)) ++ [(Value.int .i64) x] := by simp
          have htk : (pre ++ [x]).take i = pre := by rw [hi]; exact List.take_left
          obtain ⟨pr, hpr⟩ : ∃ pr, pr = pre ++ [x] := ⟨_, rfl⟩
          rw [← hpr] at hsl hsm htk ⊢
          obtain ⟨FL, hFL⟩ : ∃ FL, FL = pre.map (Value.int .i64) := ⟨_, rfl⟩
          rw [← hFL] at hsm
          rw [← hi] at hltr
          have HI := Lib.hid hi
          have HFL := Lib.hid hFL
          have HSL := Lib.hid hsl
          have HSM := Lib.hid hsm
          have HTK := Lib.hid htk
          clear hpre hpl hj hsl hsm htk hi hFL hpr
          simp only [sEnc, List.zip_toArray, List.zip_cons_cons, List.zip_nil_right, List.foldl_toArray, List.foldl_cons, List.foldl_nil, List.setIfInBounds_toArray, List.set_cons_zero, List.set_cons_succ]
          gi_wp2
          refine ⟨Rd.refl _ _ _, hI, fun o hIo => ?_⟩
          clear hI
          generalize W1.putObj l o = Wq at hIo ⊢
          obtain ⟨A', cap', h1, h1', h2, k0, h8⟩ := hIo
          have h1 : r' = rowOf A' := h1
          subst h1
          have h1' : pre.length ≤ lm := h1'
          have h2 : Wq.ownsRow uA0.heap.size 3 1 (.slice A' pre.length cap') pre.length (pre.map (Value.int .i64)) := h2
          have k0 : Blk Wq fb0 22 #[.slice A' pre.length cap'] := k0
          rw [← HI.out] at h1'
          rw [← HI.out, ← HFL.out] at h2
          rw [← HI.out] at k0
          have hro := own_row h2
          have hne : ∀ g, g < uA0.heap.size → some g ≠ (Value.slice A' i cap').ownBlock := by
            intro g hg e
            rw [rowOf_own] at e
            have := (hro g e.symm).1
            omega
          have cS := (x5S.below (b_then be0 h8) x5S.lt).cell
          have c0 := k0.cell
          by_cases hst : i = lm
          · have z2 : ((i : Int) == (lm : Int)) = true := by rw [beq_iff_eq]; omega
            gi_wp2
            refine ⟨rowOf A', Rd.refl _ _ _, rfl, by show pr.length = lm + 1; rw [HSL.out, hst], A', cap', rfl, ?_, by rw [← hst]; exact k0, h8⟩
            show Wq.ownsRow uA0.heap.size 3 1 (.slice A' lm cap') lm ((pr.take lm).map (Value.int .i64))
            rw [← hst, HTK.out, ← HFL.out]
            exact h2
          · have z2 : ((i : Int) == (lm : Int)) = false := by rw [beq_eq_false_iff_ne]; omega
            have hil : i < lm := by omega
            clear hst
            have hb8 := h8.size
            have o2 := own_later h2 (b_alloc (Below.refl _ Wq) (.cells #[(Value.int .i64) x] 3))
            have hrd := Reads.one Wq 3 ((Value.int .i64) x)
            have k4' : ∀ u ∈ [(Value.int .i64) x], u.oneCell' = true := by intro u hu; simp at hu; subst hu; rfl
            have k5' : i + 1 ≤ maxLen := by unfold maxLen; omega
            have k6' : (i + 1) * 8 ≤ 140737488355328 := by omega
            have hlq : uA0.heap.size ≤ Wq.heap.size := by have := k0.lt; have := HSA0.out; omega
            have k7' : uA0.heap.size ≤ (Wq.alloc (.cells #[(Value.int .i64) x] 3)).heap.size := by rw [World.size_alloc]; omega
            have g0 := k0.alloc (.cells #[(Value.int .i64) x] 3)
            have hfbl : fb0 < uA0.heap.size := by have := HSA0.out; omega
            clear h2
            gi_wp2_with (first
              | (gi_at_builtin; refine wpListIn_append_any _ rfl (.tmp 99) (.tmp 101) _ rfl uA0.heap.size 3 i0 _ 1 8 Tryd.underlying22 hi0 hz0 hz1 hz2 rfl (by omega) _ i _ rfl o2 (Wq.heap.size + 1) _ 1 1 _ rfl hrd k4' k5' k6' k7' ?_; intro v5 w5 o5 hg5 hat5; obtain ⟨g5', cap5, rfl, hbg5, hlg5⟩ := own_head o5; have qo := g0.grown hg5 (hne _ (by omega)); have f6 := qo.cell; have f6' := qo.frozen))
            have hg6 : (Wq.alloc (.cells #[(Value.int .i64) x] 3)).grownBy w5 ((Value.slice A' i cap').ownBlock) := hg5
            have hrow : NewRow Wq (rowOf A') (rowOf (some ⟨g5', 0, none⟩)) := by
              rcases hat5 with hq | hq
              · exact .inl ((rowOf_own _ (i + 1) cap5).symm.trans (hq.trans (rowOf_own A' i cap')))
              · injection hq with hq
                have hq' : g5' = (Wq.alloc (.cells #[(Value.int .i64) x] 3)).heap.size := hq
                exact NewRow.new (show Wq.heap.size ≤ g5' by rw [hq']; simp)
            have hRw : Rd uA0.heap.size (rowOf A') (rowOf (some ⟨g5', 0, none⟩)) Wq w5 :=
              ⟨Nat.le_trans (by simp) hg6.size, fun g hg1 hg2 hg3 => (hg6.block g (by simp; omega) (by rw [rowOf_own]; exact hg3)).trans (Below.heap_alloc _ _ g hg2), hrow⟩
            have hB5 : Below wS.heap.size wS w5 := (b_alloc h8 _).grown hg6 (by simp; omega) (fun k hk => by rw [rowOf_own] at hk; have := (hro k hk).1; omega)
            refine ⟨rowOf (some ⟨g5', 0, none⟩), hRw.set_ (p := ⟨fb0, 0, none⟩) (.inl (by show fb0 < uA0.heap.size; omega)) _, some ⟨g5', 0, none⟩, cap5, rfl, by show pr.length ≤ lm; rw [HSL.out]; omega, ?_, ?_, hB5.setCell (p := ⟨fb0, 0, none⟩) (by show wS.heap.size ≤ fb0; rw [HFB0.out]; exact Nat.le_refl _) _⟩
            · show (w5.setCell ⟨fb0, 0, none⟩ _).ownsRow uA0.heap.size 3 1 (.slice (some ⟨g5', 0, none⟩) pr.length cap5) pr.length (pr.map (Value.int .i64))
              rw [HSL.out, HSM.out]
              exact own_setFar o5 (by intro e; injection e with e; have e : g5' = fb0 := e; omega) _
            · show Blk _ _ _ #[.slice (some ⟨g5', 0, none⟩) pr.length cap5]
              rw [HSL.out]
              exact qo.set_ 0 _
        case rest =>
          rintro D0 v0 hD0 ⟨AF0, cF0, oF0, kF0, hkF0⟩ hdf0
          have be1 := hkF0
          gi_wp2
          have hX0 := Blk.new v0 22 #[.slice none 0 0]
          have hk1 := b_alloc (Below.refl v0.heap.size v0) (.cells #[.slice none 0 0] 22)
          have hsA1 : (v0.alloc (.cells #[.slice none 0 0] 22)).heap.size = v0.heap.size + 1 := World.size_alloc _ _
          obtain ⟨fb1, hfb1⟩ : ∃ fb, fb = v0.heap.size := ⟨_, rfl⟩
          rw [← hfb1] at hX0 hsA1 ⊢
          generalize v0.alloc (.cells #[.slice none 0 0] 22) = uA1 at hX0 hk1 hsA1 ⊢
          have HFB1 := Lib.hid hfb1
          have hFI0 : FI v0 fb1 uA1.heap.size 40 ([], none) uA1 := ⟨none, 0, rfl, Nat.zero_le _, World.ownsRow_nil _ _ _ _, hX0, hk1⟩
          have hszle : v0.heap.size ≤ uA1.heap.size := hk1.size
          have HSA1 := Lib.hid hsA1
          clear hfb1 hX0 hk1 hsA1
          refine range_brk rfl (by omega) (gf := 41) (lb := #[.pointer (some ⟨pb, 0, none⟩)]) rfl trivial (enters_of Tryd.func41 (by kernel_rfl) rfl)
            (encs := sEnc) (G := aG (some ⟨b2, 0, none⟩) LL pb) (S := fun ys => ys = LL) (Sp := fun ys => ∃ j, j ≤ LL.length ∧ ys = LL.take j) (fun _ => rfl) none (fun k hk => by cases hk)
            (fun W1 hW1 hs1 => left_iter _ (by omega) _ _ LL _ W1)
            (FI v0 fb1 uA1.heap.size 40) (fun _ _ _ => False) (FE v0 fb1 uA1.heap.size r (LL))
            (FI.own hszle) (fun _ _ _ _ _ h _ _ => h)
            (by
              rintro ss A1 ⟨A', cap', h1, h1', h2, k0, h8⟩
              have h9 := b_then be1 h8
              exact ⟨.inr ⟨b2, s, R, 1, rfl, hCS.later h9, HLL.out⟩, hT.later (b_then hBS h9), (hPS.below h9 hPS.lt).cell 0⟩)
            hFI0 ?round ?done ?stop ?rest
          case done =>
            rintro xs r' Wd hxs hI
            subst hxs
            exact hI.done HLN.out
          case stop =>
            exact fun c pre r' Wd _ h => h.elim
          case round =>
            clear hFI0
            rintro l pre x r' W1 hl1 hl2 hlr ⟨j, hj, hpre⟩ hI
            have hpl := congrArg List.length hpre
            have hltr : pre.length < r := by have := HLN.out; simp at hpl; omega
            obtain ⟨i, hi⟩ : ∃ i, i = pre.length := ⟨_, rfl⟩
            have hsl : (pre ++ [x]).length = i + 1 := by simp [hi]
            have hsm : ((pre ++ [x]).map (Value.int .i64)) = (pre.map (Value.int .i64)) ++ [(Value.int .i64) x] := by simp
            have htk : (pre ++ [x]).take i = pre := by rw [hi]; exact List.take_left
            obtain ⟨pr, hpr⟩ : ∃ pr, pr = pre ++ [x] := ⟨_, rfl⟩
            rw [← hpr] at hsl hsm htk ⊢
            obtain ⟨FL, hFL⟩ : ∃ FL, FL = pre.map (Value.int .i64) := ⟨_, rfl⟩
            rw [← hFL] at hsm
            rw [← hi] at hltr
            have HI := Lib.hid hi
            have HFL := Lib.hid hFL
            have HSL := Lib.hid hsl
            have HSM := Lib.hid hsm
            have HTK := Lib.hid htk
            clear hpre hpl hj hsl hsm htk hi hFL hpr
            simp only [sEnc, List.zip_toArray, List.zip_cons_cons, List.zip_nil_right, List.foldl_toArray, List.foldl_cons, List.foldl_nil, List.setIfInBounds_toArray, List.set_cons_zero, List.set_cons_succ]
            gi_wp2
            refine ⟨Rd.refl _ _ _, hI, fun o hIo => ?_⟩
            clear hI
            generalize W1.putObj l o = Wq at hIo ⊢
            obtain ⟨A', cap', h1, h1', h2, k0, h8⟩ := hIo
            have h1 : r' = rowOf A' := h1
            subst h1
            have h1' : pre.length ≤ 40 := h1'
            have h2 : Wq.ownsRow uA1.heap.size 3 1 (.slice A' pre.length cap') pre.length (pre.map (Value.int .i64)) := h2
            have k0 : Blk Wq fb1 22 #[.slice A' pre.length cap'] := k0
            rw [← HI.out] at h1'
            rw [← HI.out, ← HFL.out] at h2
            rw [← HI.out] at k0
            have hro := own_row h2
            have hne : ∀ g, g < uA1.heap.size → some g ≠ (Value.slice A' i cap').ownBlock := by
              intro g hg e
              rw [rowOf_own] at e
              have := (hro g e.symm).1
              omega
            have cS := (x5S.below (b_then be1 h8) x5S.lt).cell
            have c0 := k0.cell
            have z2 : ((i : Int) == 40) = false := by rw [beq_eq_false_iff_ne]; omega
            have hil : i < 40 := by omega
            have hb8 := h8.size
            have o2 := own_later h2 (b_alloc (Below.refl _ Wq) (.cells #[(Value.int .i64) x] 3))
            have hrd := Reads.one Wq 3 ((Value.int .i64) x)
            have k4' : ∀ u ∈ [(Value.int .i64) x], u.oneCell' = true := by intro u hu; simp at hu; subst hu; rfl
            have k5' : i + 1 ≤ maxLen := by unfold maxLen; omega
            have k6' : (i + 1) * 8 ≤ 140737488355328 := by omega
            have hlq : uA1.heap.size ≤ Wq.heap.size := by have := k0.lt; have := HSA1.out; omega
            have k7' : uA1.heap.size ≤ (Wq.alloc (.cells #[(Value.int .i64) x] 3)).heap.size := by rw [World.size_alloc]; omega
            have g0 := k0.alloc (.cells #[(Value.int .i64) x] 3)
            have hfbl : fb1 < uA1.heap.size := by have := HSA1.out; omega
            clear h2
            gi_wp2_with (first
              | (gi_at_builtin; refine wpListIn_append_any _ rfl (.tmp 108) (.tmp 110) _ rfl uA1.heap.size 3 i0 _ 1 8 Tryd.underlying22 hi0 hz0 hz1 hz2 rfl (by omega) _ i _ rfl o2 (Wq.heap.size + 1) _ 1 1 _ rfl hrd k4' k5' k6' k7' ?_; intro v5 w5 o5 hg5 hat5; obtain ⟨g5', cap5, rfl, hbg5, hlg5⟩ := own_head o5; have qo := g0.grown hg5 (hne _ (by omega)); have f6 := qo.cell; have f6' := qo.frozen))
            have hg6 : (Wq.alloc (.cells #[(Value.int .i64) x] 3)).grownBy w5 ((Value.slice A' i cap').ownBlock) := hg5
            have hrow : NewRow Wq (rowOf A') (rowOf (some ⟨g5', 0, none⟩)) := by
              rcases hat5 with hq | hq
              · exact .inl ((rowOf_own _ (i + 1) cap5).symm.trans (hq.trans (rowOf_own A' i cap')))
              · injection hq with hq
                have hq' : g5' = (Wq.alloc (.cells #[(Value.int .i64) x] 3)).heap.size := hq
                exact NewRow.new (show Wq.heap.size ≤ g5' by rw [hq']; simp)
            have hRw : Rd uA1.heap.size (rowOf A') (rowOf (some ⟨g5', 0, none⟩)) Wq w5 :=
              ⟨Nat.le_trans (by simp) hg6.size, fun g hg1 hg2 hg3 => (hg6.block g (by simp; omega) (by rw [rowOf_own]; exact hg3)).trans (Below.heap_alloc _ _ g hg2), hrow⟩
            have hB5 : Below v0.heap.size v0 w5 := (b_alloc h8 _).grown hg6 (by simp; omega) (fun k hk => by rw [rowOf_own] at hk; have := (hro k hk).1; omega)
            refine ⟨rowOf (some ⟨g5', 0, none⟩), hRw.set_ (p := ⟨fb1, 0, none⟩) (.inl (by show fb1 < uA1.heap.size; omega)) _, some ⟨g5', 0, none⟩, cap5, rfl, by show pr.length ≤ 40; rw [HSL.out]; omega, ?_, ?_, hB5.setCell (p := ⟨fb1, 0, none⟩) (by show v0.heap.size ≤ fb1; rw [HFB1.out]; exact Nat.le_refl _) _⟩
            · show (w5.setCell ⟨fb1, 0, none⟩ _).ownsRow uA1.heap.size 3 1 (.slice (some ⟨g5', 0, none⟩) pr.length cap5) pr.length (pr.map (Value.int .i64))
              rw [HSL.out, HSM.out]
              exact own_setFar o5 (by intro e; injection e with e; have e : g5' = fb1 := e; omega) _
            · show Blk _ _ _ #[.slice (some ⟨g5', 0, none⟩) pr.length cap5]
              rw [HSL.out]
              exact qo.set_ 0 _
          case rest =>
            rintro D1 v1 hD1 ⟨AF1, cF1, oF1, kF1, hkF1⟩ hdf1
            have oF0' := own_later oF0 hkF1
            have kF0' := kF0.below hkF1 kF0.lt
            have hdf0' := (hkF1.block D0 (Array.getElem?_eq_some_iff.1 hdf0).1).trans hdf0
            have be2 := b_then be1 hkF1
            have hRv := hRS.later be2
            have hCv := hCS.later be2
            have hBv := b_then hBS be2
            have x5v := x5S.below be2 x5S.lt
            have x6v := x6S.below be2 x6S.lt
            have o9v := own_later o9S be2
            rw [← HLL.out] at o9v
            have hD0b : b2 < D0 ∧ W.heap.size + 1 < D0 := by have := hCS.lt; have := x6S.lt; have := HSA0.out; have := HFB0.out; omega
            have hDD : D0 < D1 := by have := (Array.getElem?_eq_some_iff.1 hdf0).1; have := HSA1.out; have := HFB1.out; omega
            have hmi : ∀ (ts : Array TypeId) (t : TypeId) (w : World), (Builtin.min_ ts t #[.int .i64 (r : Int), .int .i64 (lm : Int)]).run Tryd.prog w = .ok (.int .i64 (pn : Int)) w := by
              intro ts t w
              have := HPN.out
              rw [run_min_int2, show (if (lm : Int) < (r : Int) then (lm : Int) else (r : Int)) = (pn : Int) from by split <;> omega]
            have hpr : pn ≤ r := by have := HPN.out; omega
            obtain ⟨_, hc9, hc9m⟩ := own_cap o9v
            have q1 : (pn : Int) ≤ (c9 : Int) := by omega
            have q2 : (c9 : Int) ≤ 9223372036854775807 := by unfold maxLen at hc9m; omega
            have q3 : (0 : Int) ≤ (pn : Int) := by omega
            have q4' : (pn : Int) ≤ (r : Int) := by omega
            have q5 : (st : Int).tmod 33 = (lm : Int) := by rw [Int.tmod_eq_emod_of_nonneg (by omega)]; omega
            have q6 : IntKind.u8.wrap (lm : Int) = (lm : Int) := by rw [IntKind.wrap_u8]; omega
            have q7 : IntKind.i64.wrap (lm : Int) = (lm : Int) := by rw [IntKind.wrap_i64]; omega
            have q8 : IntKind.i64.wrap (pn : Int) = (pn : Int) := by rw [IntKind.wrap_i64]; omega
            clear be0 be1 hkF0 hkF1 oF0 kF0 hdf0 hRS hCS hBS x5S x6S o9S hPS 
            gi_wp2
            refine wpIn_wide.2 ?_
            go_cut [128] from 112 to 128 (fun s128 wx => s128 = .bool false ∧ Below v1.heap.size v1 wx)
            case first =>
              refine wp_noexit ?_
              have he1 : ∀ w, Below v1.heap.size v1 w → Calls Tryd.prog 17 #[.slice AF1 r cF1, .slice A9 r c9] w fun e w' => e = .returned (.bool true) ∧ Below w.heap.size w w' := fun w hw => (eqi_any AF1 A9 r cF1 c9 LL w HLN.out ((RI.of_row oF1).later hw) ((RI.of_row o9v).later hw) (by unfold maxLen; omega)).mono (by rintro e w' ⟨he, q, rfl⟩; exact ⟨he, below_drewN (Below.refl _ _) q⟩)
              have he2 : ∀ w, Below v1.heap.size v1 w → Calls Tryd.prog 17 #[.slice AF0 pn cF0, .slice A9 pn c9] w fun e w' => e = .returned (.bool true) ∧ Below w.heap.size w w' := fun w hw => (eqi_any AF0 A9 pn cF0 c9 (LL.take pn) w (by rw [List.length_take, HLN.out]; omega) ((RI.of_row oF0').later hw) (by have h := ((RI.of_row o9v).later hw).take_ pn; rwa [← List.map_take] at h) (by unfold maxLen; omega)).mono (by rintro e w' ⟨he, q, rfl⟩; exact ⟨he, below_drewN (Below.refl _ _) q⟩)
              have HE1 := Lib.hid he1
              have HE2 := Lib.hid he2
              have l1 := kF1.lt
              have l0 := kF0'.lt
              have l5 := x5v.lt
              have hS0 : S3 v1 fb1 (.slice AF1 r cF1) fb0 (.slice AF0 pn cF0) W.heap.size (.int .u8 st) v1.drew := ⟨kF1.cell 0, kF0'.cell 0, x5v.cell 0, Below.drew (Below.refl _ _)⟩
              clear he1 he2 hRv hCv hBv x5v x6v o9v oF1 oF0' kF1 kF0' hdf0' hdf1 hc9 hc9m
              go_region_held3 (fun w' => w'.cell? ⟨fb1, 0, none⟩ = some (.slice AF1 r cF1) ∧ w'.cell? ⟨fb0, 0, none⟩ = some (.slice AF0 pn cF0) ∧ w'.cell? ⟨W.heap.size, 0, none⟩ = some (.int .u8 st) ∧ On.KW v1 w') (first | (with_reducible assumption) | (with_reducible exact hS0) | go_keep) (first
                | (go_at_call 17; (with_reducible refine (HE1.out _ (S3.bel (by assumption))).mono ?_); rintro e w2 ⟨rfl, hbk⟩; have hS2 := S3.after (by assumption) l1 l0 l5 hbk)
                | (go_at_call 17; (with_reducible refine (HE2.out _ (S3.bel (by assumption))).mono ?_); rintro e w3 ⟨rfl, hbk⟩; have hS3 := S3.after (by assumption) l1 l0 l5 hbk))
              rename_i hEnd
              go_wp2
              go_meet
              exact ⟨rfl, S3.bel (by assumption)⟩
            case rest =>
              obtain ⟨rfl, hbx⟩ := hcut
              have hR1 := hRv.later hbx
              have hC1 := hCv.later hbx
              have hB1 := b_then hBv hbx
              have x6w := x6v.below hbx x6v.lt
              have o9w := own_later o9v hbx
              have k0w := (hbx.block D0 (Array.getElem?_eq_some_iff.1 hdf0').1).trans hdf0'
              have k1w := (hbx.block D1 (Array.getElem?_eq_some_iff.1 hdf1).1).trans hdf1
              have hMS := HMS.out
              clear hRv hCv hBv x5v x6v o9v oF1 oF0' kF1 kF0' hdf0' hdf1 hbx q1 q3 q4' q5 q6 q7 q8 hmi
              gi_wp2
              gi_loopw [131] (fun i wr => ∃ j : Nat, j ≤ r ∧ i = .int .i64 j ∧ Rd.Is wr b2 s (delAll R ((slots R).take j)) 1 ∧ Rd.Is wr b s R 1 ∧ wr.ownsRow vC.heap.size 3 1 (.slice A9 r c9) r (LL.map (Value.int .i64)) ∧ Blk wr (W.heap.size + 1) 4 #[.bool false] ∧ wr.heap[D0]? = some (.deferred (some [])) ∧ wr.heap[D1]? = some (.deferred (some [])) ∧ Below W.heap.size W wr) (fun i _ => r - (intOf i).toNat)
              case atStart => exact ⟨0, Nat.zero_le _, rfl, hC1, hR1, o9w, x6w, k0w, k1w, hB1⟩
              case round =>
                clear hC1 hR1 o9w x6w k0w k1w hB1
                obtain ⟨j, hj, rfl, hC, hR, o9, x6, k0, k1, hB⟩ := hrel
                by_cases hjr : j < r
                · have z1 : (j : Int) < (r : Int) := by omega
                  have z2 : (0 : Int) ≤ (j : Int) := by omega
                  obtain ⟨x, hx⟩ : ∃ x, (slots R)[j]? = some x := ⟨_, List.getElem?_eq_getElem (by have := HR.out; omega)⟩
                  obtain ⟨a1, a2, a3, a4, a5, a6⟩ := perm_next (List.Perm.refl (slots R)) (On.pow32 HMS.out y3) hx
                  have a7 := perm_lt (List.Perm.refl (slots R)) HMS.out x (List.mem_of_getElem? hx)
                  obtain ⟨g, rfl, hg1, hg2, cc, _⟩ := own_at o9 (i := j) (u := .int .i64 x) (by rw [List.getElem?_map, HLL.out, show (ints (slots R))[j]? = some (x : Int) by unfold ints; rw [List.getElem?_map, hx]; rfl]; rfl)
                  have A6 := Lib.hid a6
                  obtain ⟨M', hM'⟩ : ∃ M', M' = delAll R ((slots R).take j) := ⟨_, rfl⟩
                  rw [← hM'] at hC a3 a4 A6
                  clear hx a1 a2 a5 a6 hM' a4
                  gi_wp2
                  refine ⟨trivial, (callsIn_wide.2 (Rd.Done_ok b2 s M' _ x _ hC a7 a3)).mono ?_⟩
                  rintro e w9 ⟨rfl, hC9, hO9⟩
                  have hR9 : Rd.Is w9 b s R 1 := ⟨hO9.blk hR.blk hbne (fun e => by cases e), hR.s1, hR.s2, hR.ml⟩
                  have o99 := On.own_only o9 hO9 hb2v
                  have hB9 := Rd.only_below hB hO9 (by omega)
                  have x69 := hO9.blk x6 (by omega) (fun e => by cases e)
                  have k09 := (hO9.block D0 (Array.getElem?_eq_some_iff.1 k0).1 (by omega) (fun e => by cases e)).trans k0
                  have k19 := (hO9.block D1 (Array.getElem?_eq_some_iff.1 k1).1 (by omega) (fun e => by cases e)).trans k1
                  clear hR hC o9 hB hO9 a3 x6 cc k0 k1
                  gi_wp2
                  go_roundw
                  case rel => exact ⟨j + 1, by omega, by go_num, by rw [A6.out]; exact hC9, hR9, o99, x69, k09, k19, hB9⟩
                  case measure => simp [intOf]; omega
                · have z1 : ¬ (j : Int) < (r : Int) := by omega
                  have hz : delAll R ((slots R).take j) = 0 := by
                    rw [List.take_of_length_le (by have := HR.out; omega)]
                    exact perm_done (List.Perm.refl _) (On.pow32 HMS.out y3)
                  rw [hz] at hC
                  clear hz
                  gi_wp2
                  refine ⟨trivial, (callsIn_wide.2 (On.over_yes b2 s 1 _ hC)).mono ?_⟩
                  rintro e w' ⟨rfl, rfl⟩
                  have hL := On.lit_in (w := wr) #[.int .i64 0] [0] 1 (by omega) rfl rfl
                  have ba := b_alloc (Below.refl wr.heap.size wr) (.cells #[.int .i64 0] 3)
                  have hC3 := hC.later ba
                  have hR3 := hR.later ba
                  have hB3 := b_then hB ba
                  have o93 := own_later o9 ba
                  have x63 := x6.below ba x6.lt
                  have k03 := (ba.block D0 (Array.getElem?_eq_some_iff.1 k0).1).trans k0
                  have k13 := (ba.block D1 (Array.getElem?_eq_some_iff.1 k1).1).trans k1
                  clear hC hR hB o9 x6 k0 k1 ba
                  gi_wp2
                  refine ⟨trivial, (callsIn_wide.2 (Rd.beg_any b2 s 1 _ hC3 ⟨by omega, by omega⟩ _ 1 1 [0] hL.ri rfl (by unfold maxLen; omega) (by simp; omega))).mono ?_⟩
                  rintro e w4 (⟨hd, _⟩ | ⟨_, rfl, hC4, hO4⟩)
                  · exact absurd hd (by decide)
                  have hC4 : Rd.Is w4 b2 s 1 2 := hC4
                  have hR4 : Rd.Is w4 b s R 1 := ⟨hO4.blk hR3.blk hbne (fun e => by cases e), hR3.s1, hR3.s2, hR3.ml⟩
                  have o94 := On.own_only o93 hO4 hb2v
                  have hB4 := Rd.only_below hB3 hO4 (by omega)
                  have x64 := hO4.blk x63 (by omega) (fun e => by cases e)
                  have k04 := (hO4.block D0 (Array.getElem?_eq_some_iff.1 k03).1 (by omega) (fun e => by cases e)).trans k03
                  have k14 := (hO4.block D1 (Array.getElem?_eq_some_iff.1 k13).1 (by omega) (fun e => by cases e)).trans k13
                  clear hC3 hR3 hB3 o93 x63 k03 k13 hO4 hL
                  gi_wp2
                  refine ⟨trivial, (callsIn_wide.2 (On.left_q b s R r 1 _ hR4 (hT.later hB4) HR.out)).mono ?_⟩
                  rintro e w5 ⟨⟨A12, c12, rfl, o12⟩, hk5⟩
                  have hC5 := hC4.later hk5
                  have hR5 := hR4.later hk5
                  have hB5 := b_then hB4 hk5
                  have o95 := own_later o94 hk5
                  have x65 := x64.below hk5 x64.lt
                  have k05 := (hk5.block D0 (Array.getElem?_eq_some_iff.1 k04).1).trans k04
                  have k15 := (hk5.block D1 (Array.getElem?_eq_some_iff.1 k14).1).trans k14
                  rw [← HLL.out] at o12
                  have hq := eqi_any A12 A9 r c12 c9 LL w5 HLN.out (RI.of_row o12) (RI.of_row o95) (by unfold maxLen; omega)
                  clear hC4 hR4 hB4 o94 x64 k04 k14 hk5 o12
                  gi_wp2
                  refine ⟨trivial, (callsIn_wide.2 (hq)).mono ?_⟩
                  rintro e w' ⟨rfl, q6, rfl⟩
                  have hk6 : Below w5.heap.size w5 (World.drewN w5 q6) := below_drewN (Below.refl _ _) q6
                  generalize World.drewN w5 q6 = w6 at hk6 ⊢
                  have hC6 := hC5.later hk6
                  have hR6 := hR5.later hk6
                  have hB6 := b_then hB5 hk6
                  have x66 := x65.below hk6 x65.lt
                  have k06 := (hk6.block D0 (Array.getElem?_eq_some_iff.1 k05).1).trans k05
                  have k16 := (hk6.block D1 (Array.getElem?_eq_some_iff.1 k15).1).trans k15
                  clear hq hC5 hR5 hB5 o95 x65 k05 k15 hk6
                  gi_wp2
                  refine ⟨trivial, (callsIn_wide.2 (Rd.Count_any b s R 1 _ hR6)).mono ?_⟩
                  rintro e w' ⟨rfl, rfl⟩
                  gi_wp2
                  refine ⟨trivial, (callsIn_wide.2 (Rd.Count_any b2 s 1 2 _ hC6)).mono ?_⟩
                  rintro e w' ⟨rfl, rfl⟩
                  gi_wp2
                  refine ⟨trivial, (callsIn_wide.2 (Rd.works_true _ (hT.later hB6))).mono ?_⟩
                  rintro e wz ⟨rfl, hbz9⟩
                  have hBz0 := b_then hB6 hbz9
                  have x69 := x66.below hbz9 x66.lt
                  have k09 := (hbz9.block D0 (Array.getElem?_eq_some_iff.1 k06).1).trans k06
                  have k19 := (hbz9.block D1 (Array.getElem?_eq_some_iff.1 k16).1).trans k16
                  have cx := x69.cell
                  have fx := x69.frozen
                  have lx := x69.lt
                  have eRz := x69.set_ 0 (.bool true)
                  have hBz := hBz0.setCell (p := ⟨W.heap.size + 1, 0, none⟩) (by show W.heap.size ≤ W.heap.size + 1; omega) (.bool true)
                  have kDa := (Below.heap_setCell wz ⟨W.heap.size + 1, 0, none⟩ (.bool true) D0 (by show D0 ≠ W.heap.size + 1; omega)).trans k09
                  have kDb := (Below.heap_setCell wz ⟨W.heap.size + 1, 0, none⟩ (.bool true) D1 (by show D1 ≠ W.heap.size + 1; omega)).trans k19
                  clear hC6 hR6 hB6 x66 k06 k16 hBz0 x69 k09 k19 hbz9
                  gi_wp2
                  generalize wz.setCell ⟨W.heap.size + 1, 0, none⟩ (.bool true) = wf at eRz hBz kDa kDb ⊢
                  have kDa' : (wf.putObj D1 (.deferred none)).heap[D0]? = some (.deferred (some [])) := (World.putObj_heap_other (show D0 ≠ D1 by omega)).trans kDa
                  refine ⟨by simp, .inl ⟨_, _, rfl, run_takeDeferred kDb, ?_⟩⟩
                  refine ⟨by simp, .inl ⟨_, _, rfl, run_takeDeferred kDa', ?_⟩⟩
                  have g4 := ((eRz.putObj (l := D1) (by omega) (.deferred none)).putObj (l := D0) (by omega) (.deferred none)).cell
                  exact ⟨_, by simp [results, Tryd.results7, go_sem, g4], rfl, (hBz.trans (below_putObj _ D1 (.deferred none) (by omega))).trans (below_putObj _ D0 (.deferred none) (by omega))⟩

set_option maxRecDepth 100000 in
theorem lifted (os : Os) (started : os.Started) (H : Type) (enc : TypeId × Value → H) :
    ReturnsInHanded {} Tryd.checked os 7 .any (fun w args => (Rows.roundCopiesSpec.pre enc Tryd.prog Tryd.f7 [] false w args ∧ laidMetH Tryd.prog Rows.roundCopiesRow.laid w) ∧ sizedMet enc Tryd.prog Tryd.f7 (OpenSpec.ofChange Rows.roundCopiesSpec) false w args)
      (Rows.roundCopiesSpec.post enc Tryd.prog Tryd.f7 false true false false) := by
  refine returnsInHanded_of_change_and (C := Tryd.checked) (X := fun w _ => laidMetH Tryd.prog Rows.roundCopiesRow.laid w) (fun _ _ _ hh h => h.of_heap hh) own started (by kernel_rfl) Tryd.func7
    (ChangeSpec.witness_at (enc := enc) (C := Tryd.checked) (os := os) (X := fun w _ => laidMetH Tryd.prog Rows.roundCopiesRow.laid w) false (Rd.laidWorld os) #[.int .u8 0, .int .u32 0, .int .u64 0, .int .u8 0, .int .u8 0] 8 rfl (by kernel_rfl) (by kernel_rfl) (by kernel_rfl) (by kernel_rfl) (by kernel_rfl) (Rd.laidWorld_met os _)) ?_
  intro W base args ds gs before hval0 hW _ _ hL _
  have hval : ∀ (j : Nat) t v, Tryd.f7.params[j]? = some t → args[j]? = some v → Value.okWide Tryd.prog W .any base t v := hval0
  have hT := Rd.tab_of_laid hL
  have hW' := hW
  obtain ⟨p, q, hA0, hV, rfl, hfz, hnd⟩ := hW
  have hA : DataW.TrodAll enc Tryd.prog W 0 (fun _ => true) true Tryd.f7.params.toList args.toList ds p := hA0
  rw [Tryd.params7] at hA hval
  obtain ⟨v0, vs0, d0, ds0, p0, q0, hargs, rfl, rfl, h0, r0⟩ := trodAll_cons hA
  obtain ⟨v1, vs1, d1, ds1, p1, q1, rfl, rfl, rfl, h1, r1⟩ := trodAll_cons r0
  obtain ⟨v2, vs2, d2, ds2, p2, q2, rfl, rfl, rfl, h2, r2⟩ := trodAll_cons r1
  obtain ⟨v3, vs3, d3, ds3, p3, q3, rfl, rfl, rfl, h3, r3⟩ := trodAll_cons r2
  obtain ⟨v4, vs4, d4, ds4, p4, q4, rfl, rfl, rfl, h4, r4⟩ := trodAll_cons r3
  obtain ⟨rfl, rfl, rfl⟩ := trodAll_nil r4
  obtain rfl : args = #[v0, v1, v2, v3, v4] := by cases args; simp_all
  obtain ⟨rfl, rfl⟩ := trodVars_none hV
  refine (walk (H := H) (enc := enc) W base hT (hval 0 5 v0 rfl rfl) h0 (hval 1 25 v1 rfl rfl) h1 (hval 2 48 v2 rfl rfl) h2 (hval 3 5 v3 rfl rfl) h3 (hval 4 5 v4 rfl rfl) h4).mono fun e W' ⟨he, bel⟩ => ?_
  subst he
  exact ⟨_, rfl, _, _, _, [], _, [], hW', trodAll_mk1 (shut_bool Tryd.underlying4 _), (trodAll_cons_mk (Below.trod laidOut (by kernel_rfl) (of_decide_eq_true (by kernel_rfl)) h0 bel (lt_of_Trod h0)) (trodAll_cons_mk (Below.trod laidOut (by kernel_rfl) (of_decide_eq_true (by kernel_rfl)) h1 bel (lt_of_Trod h1)) (trodAll_cons_mk (Below.trod laidOut (by kernel_rfl) (of_decide_eq_true (by kernel_rfl)) h2 bel (lt_of_Trod h2)) (trodAll_cons_mk (Below.trod laidOut (by kernel_rfl) (of_decide_eq_true (by kernel_rfl)) h3 bel (lt_of_Trod h3)) (trodAll_cons_mk (Below.trod laidOut (by kernel_rfl) (of_decide_eq_true (by kernel_rfl)) h4 bel (lt_of_Trod h4)) trodAll_mk0))))), rfl, bel.frame _, fun h => by cases h⟩

theorem row_holds : Rows.RoundCopiesSaid :=
  OpenClaim.holds_of_wide 7 Tryd.f7 rfl rfl rfl rfl rfl rfl rfl ⟨rfl, rfl, rfl, rfl, rfl⟩ rfl rfl rfl rfl rfl (by kernel_rfl) Tryd.func7 (by kernel_rfl)
    (of_decide_eq_true (by kernel_rfl)) (by unfold Func.isWrapper; first | (rw [if_pos (by decide +kernel)]; kernel_rfl) | (rw [if_neg (by decide +kernel)]; exact ⟨rfl, rfl⟩))
    (fun os started H enc _ => lifted os started H enc)
set_option maxRecDepth 100000 in
/-- RoundCopies: for every number of slots, set, order, number of slots done and place to stop the law returns true and changes nothing. No condition but the library's table. -/
theorem proved : Rows.RoundCopiesCardSaid :=
  Claim7.holds_tied_plain_at .later [] [.data] true (true, "78b4ba762495fc154c5a857764e62199e31d2c0b3599cef7315f08e2fe8f9bd5") false
    row_holds (fun _ h => by cases h) (by kernel_rfl) (fun _ h => by cases h) roundCopies_row_tie rfl ⟨rfl, rfl⟩ (by kernel_rfl) rfl
    (fun f fn hf hfn => by
      obtain rfl : f = 7 := Option.some.inj ((show Tryd.prog.funcNamed "drumlin/drumlinlaw27.RoundCopies" = some 7 by kernel_rfl).symm.trans hf) |>.symm
      obtain rfl : fn = Tryd.f7 := (Option.some.inj (Tryd.func7.symm.trans hfn)).symm
      exact ⟨by kernel_rfl, fun j t ht => by
        rw [Tryd.params7] at ht
        exact Rd.no_stand (l := [5, 25, 48, 5, 5]) (by kernel_rfl) j t (by simpa using ht)⟩)
    (by kernel_rfl)
#print axioms proved
end Go.Proofs.YtaidekdmhmoaeaaDoor.roundCopies
