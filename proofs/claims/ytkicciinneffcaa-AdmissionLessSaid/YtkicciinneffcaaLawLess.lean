/-
  AdmissionLess: for every configuration by numbers and seven numbers the law returns true and changes nothing. No condition.
-/
import Derived.Test.YtkicciinneffcaaOpen
import Derived.Deep.DeepCutAuto
import Derived.Test.YtkicciinneffcaaNum
namespace Go.Proofs.Ytkicciinneffcaa.admissionLess
open Go.ChangeShapes Go.WideShapes Go.ChangeAt Go.RowKit
open Go.ChangeMaps (open_string shut_string)
set_option linter.unusedVariables false
theorem arr_set (L : List Int) (q : Nat) (x : Int) : ((L.map (Value.int .u8)).toArray).setIfInBounds q (.int .u8 x) = ((L.set q x).map (Value.int .u8)).toArray := by
  apply Array.toList_inj.1
  simp [List.map_set]
theorem keyAll_app {a b : ByteArray} (ha : keyAll a) (hb : keyAll b) : keyAll (a ++ b) := by
  intro i hi
  by_cases h : i < a.size
  · rw [ByteArray.getElem_append_left h]; exact ha i h
  · have hs : (a ++ b).size = a.size + b.size := ByteArray.size_append
    rw [ByteArray.getElem_append_right (by omega)]; exact hb _ (by omega)
theorem RB.of_arr {w : World} {g : Nat} {M : List Int} (h : Blk w g 5 (M.map (Value.int .u8)).toArray) : RB w (some ⟨g, 0, none⟩) M :=
  .inr ⟨g, 0, rfl, fun i hi => by
    have hcell := h.cell i
    rw [Nat.zero_add, hcell, List.getElem?_toArray, List.getElem?_map, List.getElem?_eq_getElem hi, List.getD_eq_getElem?_getD, List.getElem?_eq_getElem hi]
    rfl⟩
theorem str_arr {w : World} {g n : Nat} {M : List Int} (h : Blk w g 5 (M.map (Value.int .u8)).toArray) (hn : M.length = n) (cap : Nat) : (convert 40 9 (.slice (some ⟨g, 0, none⟩) n cap)).run Try.prog w = .ok (.string (strOfNums M)) w := by
  have := conv_any (RB.of_arr h) cap
  rwa [hn] at this

theorem keyAll_ext {s : ByteArray} (h : keyAll s) (a b : Nat) : keyAll (s.extract a b) := by
  intro i hi
  rw [ByteArray.getElem_extract]
  exact h _ _
theorem str_take {w : World} {g m : Nat} {M : List Int} (h : Blk w g 5 (M.map (Value.int .u8)).toArray) (hm : m ≤ M.length) (cap : Nat) :
    (convert 40 9 (.slice (some ⟨g, 0, none⟩) m cap)).run Try.prog w = .ok (.string (strOfNums (M.take m))) w := by
  have hl : (M.take m).length = m := by rw [List.length_take]; omega
  have hr : RB w (some ⟨g, 0, none⟩) (M.take m) := .inr ⟨g, 0, rfl, fun i hi => by
    rw [hl] at hi
    have hcell := h.cell i
    rw [Nat.zero_add, hcell, List.getElem?_toArray, List.getElem?_map, List.getElem?_eq_getElem (by omega), List.getD_eq_getElem?_getD, List.getElem?_take_of_lt hi, List.getElem?_eq_getElem (by omega)]
    rfl⟩
  have := conv_any hr cap
  rwa [hl] at this
structure KL (W : World) (gC gG : Nat) (X Y : Array Value) (w : World) : Prop where
  c : Blk w gC 23 X
  g : Blk w gG 5 Y
  b : Below W.heap.size W w
theorem KL.after {W w w' : World} {gC gG : Nat} {X Y : Array Value} (h : KL W gC gG X Y w) (hb : Below w.heap.size w w') : KL W gC gG X Y w' :=
  ⟨h.c.below hb h.c.lt, h.g.below hb h.g.lt, b_then h.b hb⟩

def KX (W : World) (gC gG : Nat) (s z r wk k v p : Int) (MA : Array Value) (nn m : Nat) (vs ts : ByteArray) (w : World) : Prop := KL W gC gG #[.int .i64 s, .int .i64 z, .int .i64 r, .int .i64 wk, .int .i64 k, .int .i64 v, .int .i64 p] MA w ∧ (∀ w', KL W gC gG #[.int .i64 s, .int .i64 z, .int .i64 r, .int .i64 wk, .int .i64 k, .int .i64 v, .int .i64 p] MA w' → (convert 40 9 (.slice (some ⟨gG, 0, none⟩) nn nn)).run Try.prog w' = .ok (.string vs) w') ∧ (∀ w', KL W gC gG #[.int .i64 s, .int .i64 z, .int .i64 r, .int .i64 wk, .int .i64 k, .int .i64 v, .int .i64 p] MA w' → (convert 40 9 (.slice (some ⟨gG, 0, none⟩) m nn)).run Try.prog w' = .ok (.string ts) w')
abbrev LX (W : World) (gC gG : Nat) (s z r wk k v p : Int) (MA : Array Value) (nn m : Nat) (vs ts : ByteArray) (w' : World) : Prop := w'.cell? ⟨gC, 0, none⟩ = some (.int .i64 s) ∧ w'.cell? ⟨gC, 1, none⟩ = some (.int .i64 z) ∧ w'.cell? ⟨gC, 2, none⟩ = some (.int .i64 r) ∧ w'.cell? ⟨gC, 3, none⟩ = some (.int .i64 wk) ∧ w'.cell? ⟨gC, 4, none⟩ = some (.int .i64 k) ∧ w'.cell? ⟨gC, 5, none⟩ = some (.int .i64 v) ∧ w'.cell? ⟨gC, 6, none⟩ = some (.int .i64 p) ∧ (convert 40 9 (.slice (some ⟨gG, 0, none⟩) nn nn)).run Try.prog w' = .ok (.string vs) w' ∧ (convert 40 9 (.slice (some ⟨gG, 0, none⟩) m nn)).run Try.prog w' = .ok (.string ts) w' ∧ KX W gC gG s z r wk k v p MA nn m vs ts w'
theorem LX.mk {W : World} {gC gG : Nat} {s z r wk k v p : Int} {MA : Array Value} {nn m : Nat} {vs ts : ByteArray} {w' : World} (h : KX W gC gG s z r wk k v p MA nn m vs ts w') : LX W gC gG s z r wk k v p MA nn m vs ts w' :=
  ⟨h.1.c.cell 0, h.1.c.cell 1, h.1.c.cell 2, h.1.c.cell 3, h.1.c.cell 4, h.1.c.cell 5, h.1.c.cell 6, h.2.1 _ h.1, h.2.2 _ h.1, h⟩
theorem LX.kx {W : World} {gC gG : Nat} {s z r wk k v p : Int} {MA : Array Value} {nn m : Nat} {vs ts : ByteArray} {w' : World} (h : LX W gC gG s z r wk k v p MA nn m vs ts w') : KX W gC gG s z r wk k v p MA nn m vs ts w' := h.2.2.2.2.2.2.2.2.2
theorem LX.bel {W : World} {gC gG : Nat} {s z r wk k v p : Int} {MA : Array Value} {nn m : Nat} {vs ts : ByteArray} {w' : World} (h : LX W gC gG s z r wk k v p MA nn m vs ts w') : Below W.heap.size W w' := h.kx.1.b
theorem LX.after {W : World} {gC gG : Nat} {s z r wk k v p : Int} {MA : Array Value} {nn m : Nat} {vs ts : ByteArray} {w w' : World} (h : LX W gC gG s z r wk k v p MA nn m vs ts w) (hb : Below w.heap.size w w') : LX W gC gG s z r wk k v p MA nn m vs ts w' :=
  LX.mk ⟨h.kx.1.after hb, h.kx.2⟩

set_option maxHeartbeats 6400000 in
set_option maxRecDepth 100000 in
theorem walk {H : Type} {enc : TypeId × Value → H} (W : World) (base : Nat) {v0 v1 v2 v3 v4 v5 v6 v7 : Value} {d0 d1 d2 d3 d4 d5 d6 d7 : DataW H} {p0 p1 p2 p3 p4 p5 p6 p7 : List MemPlace} (o0 : Value.okWide Try.prog W .any base 34 v0) (h0 : DataW.Trod enc Try.prog W 0 (fun _ => true) true 34 v0 d0 p0) (o1 : Value.okWide Try.prog W .any base 32 v1) (h1 : DataW.Trod enc Try.prog W 0 (fun _ => true) true 32 v1 d1 p1) (o2 : Value.okWide Try.prog W .any base 32 v2) (h2 : DataW.Trod enc Try.prog W 0 (fun _ => true) true 32 v2 d2 p2) (o3 : Value.okWide Try.prog W .any base 32 v3) (h3 : DataW.Trod enc Try.prog W 0 (fun _ => true) true 32 v3 d3 p3) (o4 : Value.okWide Try.prog W .any base 32 v4) (h4 : DataW.Trod enc Try.prog W 0 (fun _ => true) true 32 v4 d4 p4) (o5 : Value.okWide Try.prog W .any base 32 v5) (h5 : DataW.Trod enc Try.prog W 0 (fun _ => true) true 32 v5 d5 p5) (o6 : Value.okWide Try.prog W .any base 5 v6) (h6 : DataW.Trod enc Try.prog W 0 (fun _ => true) true 5 v6 d6 p6) (o7 : Value.okWide Try.prog W .any base 5 v7) (h7 : DataW.Trod enc Try.prog W 0 (fun _ => true) true 5 v7 d7 p7) :
    Calls Try.prog 6 #[v0, v1, v2, v3, v4, v5, v6, v7] W fun e W' => e = .returned (.bool true) ∧ Below W.heap.size W W' := by
  obtain ⟨re, mo, ke, va, si, rfl, r0, m0, m1, k0, v0, s0, s1⟩ := open_beg o0 h0
  clear o0 h0
  obtain ⟨cost, rfl, rfl, rfl, wn1⟩ := open_int Try.underlying32 o1 h1
  obtain ⟨cost0, cost1⟩ := bounds_u16 wn1
  obtain ⟨old, rfl, rfl, rfl, wn2⟩ := open_int Try.underlying32 o2 h2
  obtain ⟨old0, old1⟩ := bounds_u16 wn2
  obtain ⟨less, rfl, rfl, rfl, wn3⟩ := open_int Try.underlying32 o3 h3
  obtain ⟨less0, less1⟩ := bounds_u16 wn3
  obtain ⟨val, rfl, rfl, rfl, wn4⟩ := open_int Try.underlying32 o4 h4
  obtain ⟨val0, val1⟩ := bounds_u16 wn4
  obtain ⟨sho, rfl, rfl, rfl, wn5⟩ := open_int Try.underlying32 o5 h5
  obtain ⟨sho0, sho1⟩ := bounds_u16 wn5
  obtain ⟨ky, rfl, rfl, rfl, wn6⟩ := open_int Try.underlying5 o6 h6
  obtain ⟨ky0, ky1⟩ := bounds_u8 wn6
  obtain ⟨ot, rfl, rfl, rfl, wn7⟩ := open_int Try.underlying5 o7 h7
  obtain ⟨ot0, ot1⟩ := bounds_u8 wn7
  clear wn1 wn2 wn3 wn4 wn5 wn6 wn7 o1 o2 o3 o4 o5 o6 o7 h1 h2 h3 h4 h5 h6 h7
  obtain ⟨on, rfl⟩ : ∃ on : Nat, ot = on := ⟨ot.toNat, by omega⟩
  go_enter Try.func6, Try.ntmps6
  go_wp2_with fail
  refine (Config_any re mo ke va si _ r0 m0 m1 k0 v0 s0 s1).mono ?_
  rintro e w1 ⟨⟨s, z, r, wk, k, v, p, rfl, hc⟩, hb1⟩
  have hY1 : Below W.heap.size W w1 := b_then (by repeat first | exact Below.refl _ _ | apply Below.drew | apply b_alloc) hb1
  have bel1 := hY1
  clear hb1
  have hk1 : 1 ≤ k := by unfold CfgOk at hc; omega
  have hk32 : k ≤ 32 := by unfold CfgOk at hc; omega
  have hv0 : 0 ≤ v := by unfold CfgOk at hc; omega
  have hv512 : v ≤ 512 := by unfold CfgOk at hc; omega
  have hgc : W.heap.size ≤ w1.heap.size := bel1.size
  go_wp2_with fail
  refine (Limit_yes s z r wk k v p _ hc).mono ?_
  rintro e w2 ⟨rfl, hb2⟩
  have hY2 : Below w1.heap.size w1 w2 := b_then (by repeat first | exact Below.refl _ _ | apply Below.drew | apply b_alloc) hb2
  have hC2 : Blk w2 (w1.heap.size) 23 #[.int .i64 s, .int .i64 z, .int .i64 r, .int .i64 wk, .int .i64 k, .int .i64 v, .int .i64 p] := (hb2.block _ (by simp <;> omega)).trans (by repeat (first | ((with_reducible refine alloc_here' ?_); (simp; done)) | (with_reducible apply alloc_old') | (with_reducible apply drew_old)))
  have bel2 := b_then bel1 hY2
  clear bel1 hb2 hY2
  have cC := hC2.cell
  have lC := hC2.lt
  have hg2 : w1.heap.size < w2.heap.size := lC
  obtain ⟨L0, L1⟩ := climit_bds hc
  obtain ⟨al, hal⟩ : ∃ al : Nat, cost % (climit s z r + 1) = al := ⟨(cost % (climit s z r + 1)).toNat, by have := Int.emod_nonneg cost (show climit s z r + 1 ≠ 0 by omega); omega⟩
  have al1 : (al : Int) ≤ climit s z r := by have := Int.emod_lt_of_pos cost (show 0 < climit s z r + 1 by omega); omega
  have ta : cost.tmod (climit s z r + 1) = (al : Int) := by rw [Int.tmod_eq_emod_of_nonneg cost0, hal]
  obtain ⟨wa, hwa⟩ : ∃ wa : Nat, old % ((al : Int) + 1) = wa := ⟨(old % ((al : Int) + 1)).toNat, by have := Int.emod_nonneg old (show (al : Int) + 1 ≠ 0 by omega); omega⟩
  have wa1 : (wa : Int) ≤ (al : Int) := by have := Int.emod_lt_of_pos old (show 0 < (al : Int) + 1 by omega); omega
  have tw : old.tmod ((al : Int) + 1) = (wa : Int) := by rw [Int.tmod_eq_emod_of_nonneg old0, hwa]
  obtain ⟨nn, hnn⟩ : ∃ nn : Nat, val % (v + 1) = nn := ⟨(val % (v + 1)).toNat, by have := Int.emod_nonneg val (show v + 1 ≠ 0 by omega); omega⟩
  have nn1 : (nn : Int) ≤ v := by have := Int.emod_lt_of_pos val (show 0 < v + 1 by omega); omega
  have tn : val.tmod (v + 1) = (nn : Int) := by rw [Int.tmod_eq_emod_of_nonneg val0, hnn]
  have ua1 : IntKind.i64.wrap (climit s z r + 1) = climit s z r + 1 := iw64 (by omega) (by omega)
  have ua2 : (climit s z r + 1 == 0) = false := by rw [beq_eq_false_iff_ne]; omega
  have ua3 : ¬ climit s z r + 1 = 0 := by omega
  have ua4 : IntKind.i64.wrap cost = cost := iw64 (by omega) (by omega)
  have ua5 : IntKind.i64.wrap (al : Int) = al := iw64 (by omega) (by omega)
  have ub1 : IntKind.i64.wrap ((al : Int) + 1) = (al : Int) + 1 := iw64 (by omega) (by omega)
  have ub2 : ((al : Int) + 1 == 0) = false := by rw [beq_eq_false_iff_ne]; omega
  have ub3 : ¬ (al : Int) + 1 = 0 := by omega
  have ub4 : IntKind.i64.wrap old = old := iw64 (by omega) (by omega)
  have ub5 : IntKind.i64.wrap (wa : Int) = wa := iw64 (by omega) (by omega)
  have uc1 : IntKind.i64.wrap (v + 1) = v + 1 := iw64 (by omega) (by omega)
  have uc2 : (v + 1 == 0) = false := by rw [beq_eq_false_iff_ne]; omega
  have uc3 : ¬ v + 1 = 0 := by omega
  have uc4 : IntKind.i64.wrap val = val := iw64 (by omega) (by omega)
  have uc5 : IntKind.i64.wrap (nn : Int) = nn := iw64 (by omega) (by omega)
  have hmk := fun w => make_any nn (by omega) w
  clear hal hwa hnn
  go_wp2_with fail
  have hG0 : Blk (w2.alloc (.cells (zeros nn) 5)) (w2.heap.size) 5 (zeros nn) := (by unfold Blk; repeat (first | ((with_reducible refine alloc_here' ?_); (simp; done)) | (with_reducible apply alloc_old') | (with_reducible apply drew_old)))
  have hYs : Below w2.heap.size w2 (w2.alloc (.cells (zeros nn) 5)) := (by repeat first | exact Below.refl _ _ | apply Below.drew | apply b_alloc)
  generalize w2.alloc (.cells (zeros nn) 5) = wa2 at hG0 hYs ⊢
  have hCs := hC2.below hYs hC2.lt
  have belwa2 := b_then bel2 hYs
  clear hC2 bel2 cC lC hYs
  clear hmk ta ua1 ua2 ua3 ua4 ua5 tw ub1 ub2 ub3 ub4 ub5 tn uc1 uc2 uc3 uc4 uc5
  have hgG : W.heap.size ≤ w2.heap.size := by omega
  go_loopw [24] (fun i wr => ∃ (q : Nat) (M : List Int), q ≤ nn ∧ i = .int .i64 q ∧ M.length = nn ∧ Blk wr w2.heap.size 5 (M.map (Value.int .u8)).toArray ∧ Blk wr w1.heap.size 23 #[.int .i64 s, .int .i64 z, .int .i64 r, .int .i64 wk, .int .i64 k, .int .i64 v, .int .i64 p] ∧ Below W.heap.size W wr) (fun i _ => nn - (intOf i).toNat)
  case atStart => exact ⟨0, List.replicate nn 0, by omega, rfl, by simp, hG0, hCs, belwa2⟩
  case round =>
    obtain ⟨q, M, hq, rfl, hM, hG, hC, hB⟩ := hrel
    clear hG0 hCs belwa2
    have HM := Lib.hid hM
    clear hM
    by_cases hqn : q < nn
    · have i0 : (0 : Int) ≤ (q : Int) := by omega
      have i1 : (q : Int) < (nn : Int) := by omega
      have cq : wr.cell? ⟨w2.heap.size, q, none⟩ = some (.int .u8 (M.getD q 0)) := by
        rw [hG.cell q]
        have hql : q < M.length := by rw [HM.out]; exact hqn
        rw [List.getElem?_toArray, List.getElem?_map, List.getElem?_eq_getElem hql, List.getD_eq_getElem?_getD, List.getElem?_eq_getElem hql]
        rfl
      have fq := hG.frozen q
      have uq : IntKind.i64.wrap ((q : Int) * 7) = (q : Int) * 7 := iw64 (by omega) (by omega)
      have uq2 : IntKind.u8.wrap ((q : Int) * 7) = (q : Int) * 7 % 256 := by rw [IntKind.wrap_u8]
      have hG2 := hG.set_ q (.int .u8 ((q : Int) * 7 % 256))
      rw [arr_set] at hG2
      have hC2 := hC.far (p := ⟨w2.heap.size, q, none⟩) (by show w1.heap.size ≠ w2.heap.size; omega) (.int .u8 ((q : Int) * 7 % 256))
      have hB2 := hB.setCell (p := ⟨w2.heap.size, q, none⟩) (by show W.heap.size ≤ w2.heap.size; omega) (.int .u8 ((q : Int) * 7 % 256))
      go_wp2
      go_roundw
      case rel =>
        exact ⟨q + 1, M.set q ((q : Int) * 7 % 256), by omega, by go_num, by rw [List.length_set]; exact HM.out, hG2, hC2, hB2⟩
      case measure => simp [intOf]; omega
    · have hge : ¬ (q : Int) < (nn : Int) := by omega
      clear hqn
      have cC := hC.cell
      have lC := hC.lt
      go_wp2_with fail
      refine (keyed_any ky k _ ky0 ky1 hk1 hk32).mono ?_
      rintro e w3 ⟨⟨a, rfl, hka, hka1, hka2⟩, hb3⟩
      have hY3 : Below wr.heap.size wr w3 := b_then (by repeat first | exact Below.refl _ _ | apply Below.drew | apply b_alloc) hb3
      have hC3 := hC.below hY3 hC.lt
      have hG3 := hG.below hY3 hG.lt
      have bel3 := b_then hB hY3
      clear hC hG hB hb3 cC lC hY3
      have cC := hC3.cell
      have lC := hC3.lt
      have cv := str_arr hG3 HM.out nn
      have hms : (strOfNums M).size = nn := by rw [strOfNums_size]; exact HM.out
      have hp : ∃ f : Int, ((f = 0 ∧ (al : Int) - wa + (16 + a.size + nn) ≤ climit s z r) ∨ (f = 4 ∧ climit s z r < (al : Int) - wa + (16 + a.size + nn))) ∧ ∀ key val : ByteArray, keyAll key → key.size = a.size → val.size = nn → aPut s z r wk k v p al wa key val = f := by
        have hchk : ∀ key val : ByteArray, keyAll key → key.size = a.size → val.size = nn → aChk s z r wk k v p key val = 0 := fun key val hkey hs hv =>
          aChk_of hc (fErr_of hk1 hk32 (kErr_of hkey (by omega) (by omega)) (by omega)) (by omega)
        by_cases hl : (al : Int) - wa + (16 + a.size + nn) ≤ climit s z r
        · exact ⟨0, .inl ⟨rfl, hl⟩, fun key val hkey hs hv => aPut_y (hchk key val hkey hs hv) (by omega) (by omega)⟩
        · exact ⟨4, .inr ⟨rfl, by omega⟩, fun key val hkey hs hv => aPut_f (hchk key val hkey hs hv) (by omega) (by omega)⟩
      obtain ⟨f, hf, hpf⟩ := hp
      have HF := Lib.hid hf
      have HP := Lib.hid hpf
      have HK := Lib.hid hka
      have HS := Lib.hid hms
      have HC := Lib.hid hc
      have am : a.size ≤ maxLen := by unfold maxLen; omega
      have sm : (strOfNums M).size ≤ maxLen := by rw [HS.out]; unfold maxLen; omega
      have AM := Lib.hid am
      have SMx := Lib.hid sm
      clear hf hpf hka hms hc am sm
      go_wp2_with fail
      refine (Put_at (HP.out a (strOfNums M) HK.out rfl HS.out) _ AM.out SMx.out).mono ?_
      rintro e w4 ⟨rfl, hb4⟩
      have hY4 : Below w3.heap.size w3 w4 := b_then (by repeat first | exact Below.refl _ _ | apply Below.drew | apply b_alloc) hb4
      have hC4 := hC3.below hY4 hC3.lt
      have hG4 := hG3.below hY4 hG3.lt
      have bel4 := b_then bel3 hY4
      clear hC3 hG3 bel3 hb4 cC lC hY4
      have cC := hC4.cell
      have lC := hC4.lt
      clear cv
      go_wp2_with fail
      go_loopw [27, 28] (fun d i wz => ∃ (j : Nat) (L : ByteArray), j ≤ on ∧ d = .string L ∧ i = .int .i64 j ∧ keyAll L ∧ L.size = a.size ∧ Blk wz w1.heap.size 23 #[.int .i64 s, .int .i64 z, .int .i64 r, .int .i64 wk, .int .i64 k, .int .i64 v, .int .i64 p] ∧ Blk wz w2.heap.size 5 (M.map (Value.int .u8)).toArray ∧ Below W.heap.size W wz) (fun _ i _ => on - (intOf i).toNat)
      case atStart => exact ⟨0, a, by omega, rfl, rfl, HK.out, rfl, hC4, hG4, bel4⟩
      case round =>
        obtain ⟨j, D, hj, rfl, rfl, hLA, hLS, hC9, hG9, hB9⟩ := hrel
        clear hC4 hG4 bel4 cC lC
        have HLA := Lib.hid hLA
        have HLS := Lib.hid hLS
        clear hLA hLS
        by_cases hjn : j < on
        · have j1 : (j : Int) < (on : Int) := by omega
          have dm : (1 : Int) ≤ (D.size : Int) := by rw [HLS.out]; omega
          have s1 : (D.extract 1 D.size).size = D.size - 1 := by rw [ByteArray.size_extract]; omega
          have s2 : (D.extract 0 1).size = 1 := by rw [ByteArray.size_extract]; omega
          have k1 := keyAll_ext HLA.out 1 D.size
          have k2 := keyAll_ext HLA.out 0 1
          obtain ⟨d1, hd1⟩ : ∃ d1, D.extract 1 D.size = d1 := ⟨_, rfl⟩
          obtain ⟨d2, hd2⟩ : ∃ d2, D.extract 0 1 = d2 := ⟨_, rfl⟩
          rw [hd1] at s1 k1
          rw [hd2] at s2 k2
          have hcat : ¬ (9223372036854775807 : Nat) < d1.size + d2.size := by rw [s1, s2, HLS.out]; omega
          have S1 := Lib.hid s1
          have S2 := Lib.hid s2
          have K1 := Lib.hid k1
          have K2 := Lib.hid k2
          clear s1 s2 k1 k2
          go_wp2
          go_region
          go_wp2
          go_roundw
          case rel =>
            refine ⟨j + 1, d1 ++ d2, by omega, rfl, by go_num, keyAll_app K1.out K2.out, ?_, hC9, hG9, Below.drew hB9⟩
            rw [ByteArray.size_append, S1.out, S2.out, HLS.out]
            omega
          case measure => simp [intOf]; omega
        · have hjn' : ¬ (j : Int) < (on : Int) := by omega
          clear hjn
          have hzz := size_zeros nn
          have hmk := fun w => make_any nn (by omega) w
          have c3 : ∀ w : World, (convert 40 9 (.slice (some ⟨w.heap.size, 0, none⟩) nn nn)).run Try.prog (w.alloc (.cells (zeros nn) 5)).drew = .ok (.string (strOfNums (List.replicate nn 0))) (w.alloc (.cells (zeros nn) 5)).drew := fun w => str_zeros w.drew nn nn
          generalize strOfNums (List.replicate nn 0) = zz at c3 hzz
          have hPd := fun w => Put_at (HP.out D zz HLA.out HLS.out hzz) w (by rw [HLS.out]; exact AM.out) (by rw [hzz]; unfold maxLen; omega)
          clear hzz
          have uc5 : IntKind.i64.wrap (nn : Int) = nn := iw64 (by omega) (by omega)
          have cC := hC9.cell
          have lC := hC9.lt
          go_upto_region 20 with fail
          go_cut [100] (fun s100 wx => s100 = .bool false ∧ KL W w1.heap.size w2.heap.size #[.int .i64 s, .int .i64 z, .int .i64 r, .int .i64 wk, .int .i64 k, .int .i64 v, .int .i64 p] ((M.map (Value.int .u8)).toArray) wx)
          case first =>
            go_region_with (first | (go_at_call 17; refine (hPd _).mono ?_; rintro e w' ⟨rfl, hbk⟩; have hbz : Below wr.heap.size wr w' := b_then (by repeat first | exact Below.refl _ _ | apply Below.drew | apply b_alloc) hbk; have hSk : KL W w1.heap.size w2.heap.size #[.int .i64 s, .int .i64 z, .int .i64 r, .int .i64 wk, .int .i64 k, .int .i64 v, .int .i64 p] ((M.map (Value.int .u8)).toArray) w' := KL.after ⟨hC9, hG9, hB9⟩ hbz))
            all_goals (go_wp2_with fail; go_meet; exact ⟨by simp, hSk⟩)
          case rest =>
            obtain ⟨rfl, hS0⟩ := hcut
            clear hC9 hG9 hB9 cC lC c3 hmk hPd
            rcases HF.out with ⟨rfl, hl⟩ | ⟨rfl, hl⟩
            · have hSb := hS0.b
              have hs0 := HS.out
              have hck : ∀ val : ByteArray, (val.size : Int) ≤ nn → aChk s z r wk k v p a val = 0 := fun val hv => aChk_of HC.out (fErr_of hk1 hk32 (kErr_of HK.out (by omega) (by omega)) (by omega)) (by omega)
              obtain ⟨dn, hdn⟩ : ∃ dn : Nat, less % ((al : Int) - wa + 1) = dn := ⟨(less % ((al : Int) - wa + 1)).toNat, by have := Int.emod_nonneg less (show (al : Int) - wa + 1 ≠ 0 by omega); omega⟩
              have dn1 : (dn : Int) ≤ (al : Int) - wa := by have := Int.emod_lt_of_pos less (show 0 < (al : Int) - wa + 1 by omega); omega
              obtain ⟨m, hm⟩ : ∃ m : Nat, sho % ((nn : Int) + 1) = m := ⟨(sho % ((nn : Int) + 1)).toNat, by have := Int.emod_nonneg sho (show (nn : Int) + 1 ≠ 0 by omega); omega⟩
              have m1 : (m : Int) ≤ (nn : Int) := by have := Int.emod_lt_of_pos sho (show 0 < (nn : Int) + 1 by omega); omega
              have m0 : (0 : Int) ≤ (m : Int) := by omega
              have hts : (strOfNums (M.take m)).size = m := by have := HM.out; rw [strOfNums_size, List.length_take]; omega
              have P1 := fun w => Put_at (aPut_y (cost := (al : Int) - dn) (old := wa) (hck (strOfNums M) (by omega)) (by omega) (by omega)) w AM.out SMx.out
              have P2 := fun w => Put_at (aPut_y (cost := al) (old := wa) (hck (strOfNums (M.take m)) (by omega)) (by omega) (by omega)) w AM.out (by rw [hts]; unfold maxLen; omega)
              have tl : less.tmod ((al : Int) - wa + 1) = (dn : Int) := by rw [Int.tmod_eq_emod_of_nonneg less0, hdn]
              have tm : sho.tmod ((nn : Int) + 1) = (m : Int) := by rw [Int.tmod_eq_emod_of_nonneg sho0, hm]
              have ud1 : IntKind.i64.wrap ((al : Int) - wa) = (al : Int) - wa := iw64 (by omega) (by omega)
              have ud2 : IntKind.i64.wrap ((al : Int) - wa + 1) = (al : Int) - wa + 1 := iw64 (by omega) (by omega)
              have ud3 : ((al : Int) - wa + 1 == 0) = false := by rw [beq_eq_false_iff_ne]; omega
              have ud4 : ¬ (al : Int) - wa + 1 = 0 := by omega
              have ud5 : IntKind.i64.wrap less = less := iw64 (by omega) (by omega)
              have ud6 : IntKind.i64.wrap (dn : Int) = dn := iw64 (by omega) (by omega)
              have ud7 : IntKind.i64.wrap ((al : Int) - dn) = (al : Int) - dn := iw64 (by omega) (by omega)
              have ue1 : IntKind.i64.wrap ((nn : Int) + 1) = (nn : Int) + 1 := iw64 (by omega) (by omega)
              have ue2 : ((nn : Int) + 1 == 0) = false := by rw [beq_eq_false_iff_ne]; omega
              have ue3 : ¬ (nn : Int) + 1 = 0 := by omega
              have ue4 : IntKind.i64.wrap sho = sho := iw64 (by omega) (by omega)
              have ue5 : IntKind.i64.wrap (m : Int) = m := iw64 (by omega) (by omega)
              have hmM : m ≤ M.length := by rw [HM.out]; omega
              have HMM := Lib.hid hmM
              clear hdn hm hts hmM hs0 hck
              have cv1 : ∀ w, KL W w1.heap.size w2.heap.size #[.int .i64 s, .int .i64 z, .int .i64 r, .int .i64 wk, .int .i64 k, .int .i64 v, .int .i64 p] ((M.map (Value.int .u8)).toArray) w → (convert 40 9 (.slice (some ⟨w2.heap.size, 0, none⟩) nn nn)).run Try.prog w = .ok (.string (strOfNums M)) w := fun w h => str_arr h.g HM.out nn
              have cv2 : ∀ w, KL W w1.heap.size w2.heap.size #[.int .i64 s, .int .i64 z, .int .i64 r, .int .i64 wk, .int .i64 k, .int .i64 v, .int .i64 p] ((M.map (Value.int .u8)).toArray) w → (convert 40 9 (.slice (some ⟨w2.heap.size, 0, none⟩) m nn)).run Try.prog w = .ok (.string (strOfNums (M.take m))) w := fun w h => str_take h.g HMM.out nn
              have CV1 := Lib.hid cv1
              have CV2 := Lib.hid cv2
              have HP1 := Lib.hid P1
              have HP2 := Lib.hid P2
              have hcC := hS0.c.cell
              clear cv1 cv2 P1 P2
              go_wp2_with fail
              clear tl ud1 ud2 ud3 ud4 ud5 ud6 ud7
              generalize (al : Int) - (dn : Int) = dw at HP1 ⊢
              generalize strOfNums (M.take m) = ts at HP2 CV2
              clear HS HP SMx HF
              generalize strOfNums M = vs at HP1 CV1
              generalize ((M.map (Value.int .u8)).toArray) = MA at hS0 CV1 CV2
              have hS1 : LX W w1.heap.size w2.heap.size s z r wk k v p MA nn m vs ts wc.drew := LX.mk ⟨hS0.after (Below.drew (Below.refl _ _)), CV1.out, CV2.out⟩
              clear hS0 CV1 CV2 hcC
              go_region_held3 (fun w' => w'.cell? ⟨w1.heap.size, 0, none⟩ = some (.int .i64 s) ∧ w'.cell? ⟨w1.heap.size, 1, none⟩ = some (.int .i64 z) ∧ w'.cell? ⟨w1.heap.size, 2, none⟩ = some (.int .i64 r) ∧ w'.cell? ⟨w1.heap.size, 3, none⟩ = some (.int .i64 wk) ∧ w'.cell? ⟨w1.heap.size, 4, none⟩ = some (.int .i64 k) ∧ w'.cell? ⟨w1.heap.size, 5, none⟩ = some (.int .i64 v) ∧ w'.cell? ⟨w1.heap.size, 6, none⟩ = some (.int .i64 p) ∧ (convert 40 9 (.slice (some ⟨w2.heap.size, 0, none⟩) nn nn)).run Try.prog w' = .ok (.string vs) w' ∧ (convert 40 9 (.slice (some ⟨w2.heap.size, 0, none⟩) m nn)).run Try.prog w' = .ok (.string ts) w' ∧ KX W w1.heap.size w2.heap.size s z r wk k v p MA nn m vs ts w') (first | assumption) (first
                | (go_at_call 17; (with_reducible refine (HP1.out _).mono ?_); rintro e w' ⟨rfl, hbk⟩; have hSk := LX.after (by assumption) hbk)
                | (go_at_call 17; (with_reducible refine (HP2.out _).mono ?_); rintro e w' ⟨rfl, hbk⟩; have hSk := LX.after (by assumption) hbk)
                | (go_at_call 10; refine (works_true _).mono ?_; rintro e w' ⟨rfl, hbk⟩; have hSk := LX.after (by assumption) hbk))
              go_wp2_with fail
              go_ret
              exact ⟨rfl, LX.bel (by assumption)⟩
            · have hSb := hS0.b
              go_wp2_with fail
              refine (works_true _).mono ?_
              rintro e w1 ⟨rfl, hb1⟩
              have hY1 : Below wc.heap.size wc w1 := b_then (by repeat first | exact Below.refl _ _ | apply Below.drew | apply b_alloc) hb1
              have bel1 := b_then hSb hY1
              clear hSb hb1 hY1
              go_wp2_with fail
              go_ret
              exact ⟨rfl, bel1⟩

set_option maxRecDepth 100000 in
theorem lifted (os : Os) (started : os.Started) (H : Type) (enc : TypeId × Value → H) :
    ReturnsInHanded {} Try.checked os 6 .any (Rows.admissionLessSpec.pre6 enc Try.prog Try.f6 Rows.admissionLessRow.domain false) (Rows.admissionLessSpec.post enc Try.prog Try.f6 false true false false) := by
  refine returnsInHanded_of_change (C := Try.checked) own started (by kernel_rfl) Try.func6
    (ChangeSpec.witness6 (enc := enc) (C := Try.checked) false ⟨#[], #[.agg #[.int .u8 0, .int .u8 0, .int .u8 0, .int .u16 0, .int .u16 0], .int .u16 0, .int .u16 0, .int .u16 0, .int .u16 0, .int .u16 0, .int .u8 0, .int .u8 0], []⟩ 8 (by kernel_rfl) (by kernel_rfl) (by kernel_rfl) (by kernel_rfl)) ?_
  intro W base args ds gs before hval0 hW hcnd _
  have hval : ∀ (j : Nat) t v, Try.f6.params[j]? = some t → args[j]? = some v → Value.okWide Try.prog W .any base t v := hval0
  have hW' := hW
  obtain ⟨p, q, hA0, hV, rfl, hfz, hnd⟩ := hW
  have hA : DataW.TrodAll enc Try.prog W 0 (fun _ => true) true Try.f6.params.toList args.toList ds p := hA0
  rw [Try.params6] at hA hval
  obtain ⟨v0, vs0, d0, ds0, p0, q0, hargs, rfl, rfl, h0, r0⟩ := trodAll_cons hA
  obtain ⟨v1, vs1, d1, ds1, p1, q1, rfl, rfl, rfl, h1, r1⟩ := trodAll_cons r0
  obtain ⟨v2, vs2, d2, ds2, p2, q2, rfl, rfl, rfl, h2, r2⟩ := trodAll_cons r1
  obtain ⟨v3, vs3, d3, ds3, p3, q3, rfl, rfl, rfl, h3, r3⟩ := trodAll_cons r2
  obtain ⟨v4, vs4, d4, ds4, p4, q4, rfl, rfl, rfl, h4, r4⟩ := trodAll_cons r3
  obtain ⟨v5, vs5, d5, ds5, p5, q5, rfl, rfl, rfl, h5, r5⟩ := trodAll_cons r4
  obtain ⟨v6, vs6, d6, ds6, p6, q6, rfl, rfl, rfl, h6, r6⟩ := trodAll_cons r5
  obtain ⟨v7, vs7, d7, ds7, p7, q7, rfl, rfl, rfl, h7, r7⟩ := trodAll_cons r6
  obtain ⟨rfl, rfl, rfl⟩ := trodAll_nil r7
  obtain rfl : args = #[v0, v1, v2, v3, v4, v5, v6, v7] := by cases args; simp_all
  obtain ⟨rfl, rfl⟩ := trodVars_none hV
  refine (walk (H := H) (enc := enc) W base (hval 0 34 v0 rfl rfl) h0 (hval 1 32 v1 rfl rfl) h1 (hval 2 32 v2 rfl rfl) h2 (hval 3 32 v3 rfl rfl) h3 (hval 4 32 v4 rfl rfl) h4 (hval 5 32 v5 rfl rfl) h5 (hval 6 5 v6 rfl rfl) h6 (hval 7 5 v7 rfl rfl) h7).mono fun e W' ⟨he, bel⟩ => ?_
  subst he
  exact ⟨_, rfl, _, _, _, [], _, [], hW', trodAll_mk1 (shut_bool Try.underlying4 _), (trodAll_cons_mk (Below.trod laidOut (by kernel_rfl) (of_decide_eq_true (by kernel_rfl)) h0 bel (lt_of_Trod h0)) (trodAll_cons_mk (Below.trod laidOut (by kernel_rfl) (of_decide_eq_true (by kernel_rfl)) h1 bel (lt_of_Trod h1)) (trodAll_cons_mk (Below.trod laidOut (by kernel_rfl) (of_decide_eq_true (by kernel_rfl)) h2 bel (lt_of_Trod h2)) (trodAll_cons_mk (Below.trod laidOut (by kernel_rfl) (of_decide_eq_true (by kernel_rfl)) h3 bel (lt_of_Trod h3)) (trodAll_cons_mk (Below.trod laidOut (by kernel_rfl) (of_decide_eq_true (by kernel_rfl)) h4 bel (lt_of_Trod h4)) (trodAll_cons_mk (Below.trod laidOut (by kernel_rfl) (of_decide_eq_true (by kernel_rfl)) h5 bel (lt_of_Trod h5)) (trodAll_cons_mk (Below.trod laidOut (by kernel_rfl) (of_decide_eq_true (by kernel_rfl)) h6 bel (lt_of_Trod h6)) (trodAll_cons_mk (Below.trod laidOut (by kernel_rfl) (of_decide_eq_true (by kernel_rfl)) h7 bel (lt_of_Trod h7)) trodAll_mk0)))))))), rfl, bel.frame _, fun h => by cases h⟩

/-- AdmissionLess: for every configuration by numbers and seven numbers the law returns true and changes nothing. No condition. -/
theorem proved : Rows.AdmissionLessSaid :=
  OpenClaim.holds_of_wide 6 Try.f6 rfl rfl rfl rfl rfl rfl rfl ⟨rfl, rfl, rfl, rfl, rfl⟩ rfl rfl rfl rfl rfl (by kernel_rfl) Try.func6 (by kernel_rfl)
    (of_decide_eq_true (by kernel_rfl)) (by unfold Func.isWrapper; first | (rw [if_pos (by decide +kernel)]; kernel_rfl) | (rw [if_neg (by decide +kernel)]; exact ⟨rfl, rfl⟩))
    (fun os started H enc _ => lifted os started H enc)
#print axioms proved
end Go.Proofs.Ytkicciinneffcaa.admissionLess
