/-
  ScannerChanged: for every slice of items and every two numbers the law returns true and changes nothing. No condition.
-/
import Derived.Test.YtjcdflohkajbcaaOpen
import Derived.Test.YtjcdflohkajbcaaSC
namespace Go.Proofs.Ytjcdflohkajbcaa.scannerChanged
open Go.ChangeShapes Go.WideShapes Go.ChangeAt Go.RowKit
open Go.ChangeMaps (open_string shut_string)
set_option linter.unusedVariables false

theorem recs_at (A : Option Addr) (n cap : Nat) (its : List It) (w : World) (h : IsIt w A its) (hn : its.length = n) (hn2 : n ≤ 1000) :
    Calls Try.prog 18 #[.slice A n cap] w fun e w' => (∃ A' c', e = .returned (.slice A' n c') ∧ IsRs w' A' (rsI its)) ∧ Below w.heap.size w w' := by
  refine (recs_any A n cap its w h hn hn2).mono ?_
  rintro e w' ⟨⟨v, rfl, ho⟩, hb⟩
  have hl : (rsI its).length = n := by rw [rsI, List.length_map, hn]
  obtain ⟨A', c', rfl, hR, _⟩ := IsRs.of_own (rs := rsI its) (by rw [hl]; exact ho) (rsI_sz h.1)
  rw [hl]
  exact ⟨⟨A', c', rfl, hR⟩, hb⟩

def KT (w1 w' : World) : Prop := Below w1.heap.size w1 w'
abbrev ST (w1 : World) (b o S : Nat) (w' : World) : Prop := w'.cell? ⟨b, o, none⟩ = some (.int .i64 (S : Nat)) ∧ KT w1 w'
theorem ST.bel {w1 : World} {b o S : Nat} {w' : World} (h : ST w1 b o S w') : Below w1.heap.size w1 w' := h.2
theorem ST.after {w1 : World} {b o S : Nat} {w w' : World} (h : ST w1 b o S w) (hb : b < w1.heap.size) (hk : Below w.heap.size w w') : ST w1 b o S w' :=
  ⟨(hk.cell (p := ⟨b, o, none⟩) (Nat.lt_of_lt_of_le hb (show Below w1.heap.size w1 w from h.2).size)).trans h.1, b_then h.2 hk⟩

theorem sizeL_pos {rs : List Rc} (hok : ∀ r ∈ rs, r.Ok) (h : 0 < rs.length) : 0 < sizeL rs := by
  cases rs with
  | nil => exact absurd h (by simp)
  | cons r rest =>
    have h2 := (hok r (List.mem_cons_self ..)).2.2.2.2.1
    show 0 < (encL (r :: rest)).length
    rw [encL_cons, List.length_append, encF_length]
    unfold Rc.size
    omega
theorem bytes_at2 (A : Option Addr) (n cap : Nat) (its : List It) (w : World) (h : IsIt w A its) (hn : its.length = n) (hn2 : n ≤ 100) (T : Nat) (hT : T = sizeL (rsI its)) (h0 : 0 < T) :
    Calls Try.prog 12 #[.slice A n cap] w fun e w' => (∃ g d1 b2 o2 c2, e = .returned (.tuple #[.slice (some ⟨g, 0, none⟩) T d1, .slice (some ⟨b2, o2, none⟩) (n + 1) c2]) ∧ IsB w' w.heap.size (.slice (some ⟨g, 0, none⟩) T d1) (encL (rsI its)) ∧ RI w' (some ⟨b2, o2, none⟩) (atQ (rsI its) n) ∧ g ≠ b2 ∧ w.heap.size ≤ g ∧ T ≤ d1 ∧ d1 ≤ maxLen ∧ n + 1 ≤ c2 ∧ c2 ≤ maxLen ∧ b2 < w'.heap.size) ∧ Below w.heap.size w w' := by
  subst hT
  refine (bytes_any A n cap its w h hn hn2).mono ?_
  rintro e w' ⟨⟨v1, v2, rfl, hI, oa⟩, hb⟩
  obtain ⟨A2, c2, e2, hRI, h1, h2⟩ := RI.of_own oa
  rcases hI.2 with ⟨_, hz⟩ | ⟨g, d1, cur, rfl, hg0, hg1, hg2, hg3, _⟩
  · exact absurd hz (by show ¬ sizeL (rsI its) = 0; omega)
  rcases oa.2 with ⟨_, hz⟩ | ⟨b2, d2, cur2, rfl, hh0, hh1, _⟩
  · exact absurd hz (by omega)
  injection e2 with e2 e3 e4
  subst e2 e4
  have hne : g ≠ b2 := by
    rintro rfl
    have := hg1.symm.trans hh1
    simp at this
  exact ⟨⟨g, d1, b2, 0, d2, rfl, hI, hRI, hne, hg0, hg2, hg3, h1, h2, lt_of_block hh1⟩, hb⟩
theorem store_ba {w : World} {B g cap T : Nat} {M : List Int} (h : IsB w B (.slice (some ⟨g, 0, none⟩) T cap) M) (hB : BB M) (hT : M.length = T) (j how : Nat) (hh : how < 256) (Y : Int) (hY : Y = (((M.getD j 0).toNat ^^^ how : Nat) : Int)) :
    BA (w.setCell ⟨g, j, none⟩ (.int .u8 Y)) (some ⟨g, 0, none⟩) T cap (chg M j how) ∧ w.grownBy (w.setCell ⟨g, j, none⟩ (.int .u8 Y)) (some g) ∧ w.frozen? ⟨g, j, none⟩ = false := by
  subst hT
  have h1 := World.ownsRow.stored h j (.int .u8 Y)
  refine ⟨?_, h1.2, World.ownsRow.frozenAt h j⟩
  have h2 : IsB (w.setCell ⟨g, j, none⟩ (.int .u8 Y)) B (.slice (some ⟨g, 0, none⟩) M.length cap) (chg M j how) := by
    unfold IsB chg
    rw [List.length_set, List.map_set, ← hY]
    exact h1.1
  obtain ⟨A, c, e, hBA⟩ := BA.of_own h2 (chg_bb hB j how hh)
  injection e with e1 e2 e3
  subst e1 e3
  rw [chg_length] at hBA
  exact hBA
theorem RI.grown {w w' : World} {g b o : Nat} {L : List Value} (h : RI w (some ⟨b, o, none⟩) L) (hg : w.grownBy w' (some g)) (hne : g ≠ b) : RI w' (some ⟨b, o, none⟩) L := by
  rcases h with h | ⟨b2, o2, e, hlt, h⟩
  · exact .inl h
  · injection e with e
    injection e with e1 e2
    subst e1 e2
    exact .inr ⟨_, _, rfl, Nat.lt_of_lt_of_le hlt hg.size, fun i u hu => hg.cell (h i u hu) (by simp; omega)⟩

set_option maxHeartbeats 6400000 in
set_option maxRecDepth 100000 in
theorem walk {H : Type} {enc : TypeId × Value → H} (W : World) (base : Nat) {v0 v1 v2 : Value} {d0 d1 d2 : DataW H} {p0 p1 p2 : List MemPlace} (o0 : Value.okWide Try.prog W .any base 22 v0) (h0 : DataW.Trod enc Try.prog W 0 (fun _ => true) true 22 v0 d0 p0) (o1 : Value.okWide Try.prog W .any base 23 v1) (h1 : DataW.Trod enc Try.prog W 0 (fun _ => true) true 23 v1 d1 p1) (o2 : Value.okWide Try.prog W .any base 5 v2) (h2 : DataW.Trod enc Try.prog W 0 (fun _ => true) true 5 v2 d2 p2) :
    Calls Try.prog 9 #[v0, v1, v2] W fun e W' => e = .returned (.bool true) ∧ Below W.heap.size W W' := by
  obtain ⟨a1, c1, its, rfl, hlc, hcm, hIt⟩ := open_items o0 h0
  clear o0 h0
  obtain ⟨n1, hn1⟩ : ∃ n1, its.length = n1 := ⟨_, rfl⟩
  rw [hn1] at hlc ⊢
  unfold maxLen at hcm
  obtain ⟨sm, rfl, rfl, rfl, ws⟩ := open_int Try.underlying23 o1 h1
  obtain ⟨hw, rfl, rfl, rfl, wh⟩ := open_int Try.underlying5 o2 h2
  obtain ⟨sm0, sm1⟩ := bounds_u16 ws
  obtain ⟨hw0, hw1⟩ := bounds_u8 wh
  clear ws h1 o1 wh h2 o2
  by_cases g0 : n1 = 0
  · subst g0
    clear hIt hn1
    go_enter Try.func9, Try.ntmps9
    go_wp2_with fail
    refine (works_true _).mono ?_
    rintro e w9 ⟨rfl, hb9⟩
    go_wp2_with fail
    go_ret
    exact ⟨rfl, hb9⟩
  have g0' : ((n1 : Int) == 0) = false := by rw [beq_eq_false_iff_ne]; omega
  by_cases g1 : 30 < n1
  · have g1' : (30 : Int) < (n1 : Int) := by omega
    clear hIt hn1
    go_enter Try.func9, Try.ntmps9
    go_wp2_with fail
    refine (works_true _).mono ?_
    rintro e w9 ⟨rfl, hb9⟩
    go_wp2_with fail
    go_ret
    exact ⟨rfl, hb9⟩
  · have g1' : (n1 : Int) ≤ 30 := by omega
    have hok := rsI_ok hIt.1
    have hsz := sizeL_its hIt.1
    have hrl : (rsI its).length = n1 := by rw [rsI, List.length_map, hn1]
    rw [hn1] at hsz
    obtain ⟨T, hT⟩ : ∃ T, T = sizeL (rsI its) := ⟨_, rfl⟩
    have hT0 : 0 < T := by rw [hT]; exact sizeL_pos hok (by omega)
    have c_by := bytes_at2 a1 n1 c1 its W hIt hn1 (by omega) T hT hT0
    rw [← hT] at hsz
    have hTl : (encL (rsI its)).length = T := by rw [hT]; rfl
    have HT := Lib.hid hT
    clear hT
    obtain ⟨nn, hnn⟩ : ∃ nn : Nat, sm % (T : Int) = (nn : Int) := ⟨(sm % (T : Int)).toNat, by have := Int.emod_nonneg sm (b := (T : Int)) (by omega); omega⟩
    have hnT : nn < T := by have := Int.emod_lt_of_pos sm (b := (T : Int)) (by omega); omega
    have htm : sm.tmod (T : Int) = (nn : Int) := by rw [Int.tmod_eq_emod_of_nonneg sm0]; exact hnn
    have hTb : (T : Int) ≤ 10000 := by omega
    have hTp : (0 : Int) < (T : Int) := by omega
    have hTn : ¬ (T : Int) = 0 := by omega
    go_enter Try.func9, Try.ntmps9
    go_wp2_with fail
    refine c_by.mono ?_
    rintro e w1 ⟨⟨g, d1, b2, o2, d2, rfl, hI, hRI, hne, hgs, hTd, hd1m, hd2, hd2m, hlt2⟩, hb1⟩
    unfold maxLen at hd1m hd2m
    clear c_by
    obtain ⟨_, hc⟩ : ∃ x : Unit, ∀ (i : Nat) (u : Value), (atQ (rsI its) n1)[i]? = some u → w1.cell? ⟨b2, o2 + i, none⟩ = some u := ⟨(), fun i u hu => by
      obtain ⟨b, o, e1, _, h⟩ := hRI.cell hu
      injection e1 with e1
      injection e1 with e1 e2
      subst e1 e2
      exact h⟩
    have HC := Lib.hid hc
    clear hc
    go_wp2_with fail
    clear hnn htm
    go_loop [10] (fun k => ∃ q : Nat, k = .int .i64 q ∧ q < n1 ∧ sizeL ((rsI its).take q) ≤ nn) (fun k => n1 - (intOf k).toNat)
    case atStart => exact ⟨0, rfl, by omega, Nat.zero_le _⟩
    case round =>
      obtain ⟨q, rfl, hq, hle⟩ := hrel
      have hc := HC.out
      obtain ⟨S, hS⟩ : ∃ S, S = sizeL ((rsI its).take q) := ⟨_, rfl⟩
      have HS := Lib.hid hS
      rw [← hS] at hle
      clear hS
      have z2 : (0 : Int) ≤ (q : Int) := by omega
      have z3 : (q : Int) ≤ 100 := by omega
      have z1 : (q : Int) < (n1 : Int) := by omega
      have cB := hc (q + 1) _ (atQ_at (rsI its) (n := n1) (k := q + 1) (by omega))
      obtain ⟨S2, hS2⟩ : ∃ S2, S2 = sizeL ((rsI its).take (q + 1)) := ⟨_, rfl⟩
      rw [← hS2] at cB
      have HS2 := Lib.hid hS2
      clear hS2
      by_cases hgo : S2 ≤ nn
      · have y1 : decide ((S2 : Int) ≤ (nn : Int)) = true := by rw [decide_eq_true_iff]; omega
        have y2 : decide (S2 ≤ nn) = true := by rw [decide_eq_true_iff]; omega
        clear hc
        have hq1 : q + 1 < n1 := by
          rcases (show q + 1 < n1 ∨ q + 1 = n1 by omega) with h | h
          · exact h
          · have e1 : S2 = T := by rw [HS2.out, HT.out, h, ← hrl, List.take_length]
            omega
        go_wp2_with fail
        go_round
        case rel => exact ⟨q + 1, by go_num, hq1, by rw [← HS2.out]; exact hgo⟩
        case measure => simp [intOf]; omega
      · have x2 : decide ((S2 : Int) ≤ (nn : Int)) = false := by rw [decide_eq_false_iff_not]; omega
        have x3 : decide (S2 ≤ nn) = false := by rw [decide_eq_false_iff_not]; omega
        have cA := hc q _ (atQ_at (rsI its) (n := n1) (k := q) (by omega))
        rw [← HS.out] at cA
        clear hc
        obtain ⟨dd, hd⟩ : ∃ dd : Nat, dd = nn - S := ⟨_, rfl⟩
        have hdd : (nn : Int) - (S : Int) = (dd : Int) := by omega
        have Hd := Lib.hid hd
        have hd5 : (dd : Int) ≤ 10000 := by omega
        clear hd
        have hsI := fun w => slice_toI (A := some ⟨b2, o2, none⟩) (len := n1 + 1) (cap := d2) (k := q) (by omega) w
        have hsT := fun w => slice_toT (A := a1) (len := n1) (cap := c1) (k := q) (by omega) w
        by_cases h5 : 5 ≤ dd
        · by_cases h7 : dd ≤ 7
          · have y1 : decide ((5 : Int) ≤ (dd : Int)) = true := by rw [decide_eq_true_iff]; omega
            have y2 : decide (5 ≤ dd) = true := by rw [decide_eq_true_iff]; omega
            have y3 : decide ((dd : Int) ≤ 7) = true := by rw [decide_eq_true_iff]; omega
            have y4 : decide (dd ≤ 7) = true := by rw [decide_eq_true_iff]; omega
            clear HT HS HC hI hRI hIt hok hTl hrl hn1 HS2
            go_wp2_with fail
            refine (works_true _).mono ?_
            rintro e w9 ⟨rfl, hb9⟩
            go_wp2_with fail
            go_ret
            exact ⟨rfl, b_then hb1 hb9⟩
          · by_cases hh : hw = 0
            · subst hh
              have y1 : decide ((5 : Int) ≤ (dd : Int)) = true := by rw [decide_eq_true_iff]; omega
              have y2 : decide (5 ≤ dd) = true := by rw [decide_eq_true_iff]; omega
              have y3 : decide ((dd : Int) ≤ 7) = false := by rw [decide_eq_false_iff_not]; omega
              have y4 : decide (dd ≤ 7) = false := by rw [decide_eq_false_iff_not]; omega
              clear HT HS HC hI hRI hIt hok hTl hrl hn1 HS2
              go_wp2_with fail
              refine (works_true _).mono ?_
              rintro e w9 ⟨rfl, hb9⟩
              go_wp2_with fail
              go_ret
              exact ⟨rfl, b_then hb1 hb9⟩
            · have x1 : (hw == 0) = false := by rw [beq_eq_false_iff_ne]; exact hh
              have y1 : decide ((5 : Int) ≤ (dd : Int)) = true := by rw [decide_eq_true_iff]; omega
              have y2 : decide (5 ≤ dd) = true := by rw [decide_eq_true_iff]; omega
              have y3 : decide ((dd : Int) ≤ 7) = false := by rw [decide_eq_false_iff_not]; omega
              have y4 : decide (dd ≤ 7) = false := by rw [decide_eq_false_iff_not]; omega
              obtain ⟨hf1, hf2, hf3⟩ := changed_facts hok (n := nn) (k := q) (h := hw.toNat) (by omega) (by rw [← HS.out]; exact hle) (by rw [← HS2.out]; omega) (by rw [← HS.out]; omega) (by omega) (by omega)
              rw [← HS.out] at hf1 hf2 hf3
              obtain ⟨V, hV⟩ : ∃ V, V = (encL (rsI its)).getD nn 0 := ⟨_, rfl⟩
              have hVb := (encL_bb (rsI its)).getD nn (by rw [hTl]; exact hnT)
              rw [← hV] at hVb
              have hcl := (IsB.rb hI).at_ nn V (by rw [hV, List.getD_eq_getElem?_getD, List.getElem?_eq_getElem (by rw [hTl]; exact hnT)]; rfl)
              rw [Nat.zero_add] at hcl
              obtain ⟨Y, hY⟩ : ∃ Y : Int, Y = ((V.toNat ^^^ hw.toNat : Nat) : Int) := ⟨_, rfl⟩
              have hxb : bits BinOp.xor IntKind.u8 V hw = Y := by rw [u8_xor _ _ (by omega) (by omega) (by omega) (by omega), hY]
              obtain ⟨hBA, hgr, hfr⟩ := store_ba hI (encL_bb _) hTl nn hw.toNat (by omega) Y (by rw [hY, hV])
              have hRI2 := RI.grown hRI hgr hne
              have cA2 := hgr.cell cA (by simp; omega)
              have hbS := hb1.setCell (p := ⟨g, nn, none⟩) (by exact hgs) (.int .u8 Y)
              have hlt3 : b2 < (w1.setCell ⟨g, nn, none⟩ (.int .u8 Y)).heap.size := Nat.lt_of_lt_of_le hlt2 hgr.size
              obtain ⟨wS, hwS⟩ : ∃ wS, wS = w1.setCell ⟨g, nn, none⟩ (.int .u8 Y) := ⟨_, rfl⟩
              rw [← hwS] at hBA hRI2 cA2 hbS hlt3
              have HWS := Lib.hid hwS
              clear hwS hgr hV hY
              obtain ⟨R, hR⟩ : ∃ R, R = reasonF (chg (encL (rsI its)) nn hw.toNat) ((rsI its).take q) S := ⟨_, rfl⟩
              rw [← hR] at hf3
              have c_rc := fun (w : World) (hb : Below wS.heap.size wS w) => recs_at a1 q c1 (its.take q) w ((hIt.take_ q).later (b_then hbS hb)) (by rw [List.length_take]; omega) (by omega)
              have c_sc := fun (w : World) (hb : Below wS.heap.size wS w) (A3 : Option Addr) (d3 : Nat) (h : IsRs w A3 (rsI (its.take q))) => scanned_true (some ⟨g, 0, none⟩) T d1 _ (some ⟨b2, o2, none⟩) q d2 A3 d3 w _ S (hBA.later hb) (by omega) hf1 (by rw [pairsF_length, List.length_take]; omega) (by have h2 := (hRI2.later hb).take_ q; rw [atQ_take _ (by omega) hrl] at h2; exact h2) (by rw [pairsF_snd, ← rsI_take]; exact h)
              have c_en := fun (w : World) (hb : Below wS.heap.size wS w) => end_any (some ⟨g, 0, none⟩) T d1 _ w _ S (hBA.later hb) (by omega) hf1
              have c_se := fun (w : World) (hb : Below wS.heap.size wS w) => sealed_any (some ⟨g, 0, none⟩) T d1 _ w _ S (hBA.later hb) (by omega) hf1
              have c_re := fun (w : World) (hb : Below wS.heap.size wS w) => reason_any (some ⟨g, 0, none⟩) T d1 _ w _ S (hBA.later hb) (by omega) hf1
              rw [pairsF_snd] at c_se c_re
              rw [hf2] at c_se
              rw [← hR] at c_re
              have HRC := Lib.hid c_rc
              have HSC := Lib.hid c_sc
              have HEN := Lib.hid c_en
              have HSE := Lib.hid c_se
              have HRE := Lib.hid c_re
              clear c_rc c_sc c_en c_se c_re hf1 hf2 hBA hRI hRI2 hIt hok hTl hrl hn1 HC HT HS hI hR
              have r1 : (R == 0) = false := by rw [beq_eq_false_iff_ne]; exact hf3
              have r2 : (R != 0) = true := by rw [bne_iff_ne]; exact hf3
              clear hf3
              have i1 : (q : Int) < (n1 : Int) + 1 := by omega
              have i2 : q < n1 + 1 := by omega
              have i3 : (q : Int) < ((n1 + 1 : Nat) : Int) := by omega
              have i4 : (nn : Int) < (T : Int) := by omega
              go_wp2_with fail
              rw [← HWS.out]
              clear HWS hb1 cA
              try clear y1
              try clear y2
              try clear y3
              try clear y4
              try clear y5
              try clear y6
              try clear y7
              try clear y8
              try clear x1
              try clear x2
              try clear x3
              try clear x4
              try clear x5
              try clear z1
              try clear z2
              try clear z3
              try clear hdd
              try clear Hdd
              try clear hle
              try clear hq
              try clear HS2
              try clear cB
              try clear hnT
              try clear hTb
              try clear hTp
              try clear hTn
              try clear hT0
              try clear sm0
              try clear sm1
              try clear hw0
              try clear hw1
              try clear hh
              try clear hhz
              try clear hcl
              try clear hfr
              try clear hxb
              try clear hsz
              try clear hcm
              try clear hlc
              try clear hd2
              try clear hd2m
              try clear hTd
              try clear hd1m
              try clear g0
              try clear g0'
              try clear g1
              try clear g1'
              try clear hnn
              try clear htm
              try clear hgs
              try clear hne
              try clear hVb
              try clear HV
              try clear HY
              have hS0 : ST wS b2 (o2 + q) S wS.drew := ⟨cA2, Below.drew (Below.refl _ _)⟩
              go_region_held3 (fun w' => w'.cell? ⟨b2, o2 + q, none⟩ = some (.int .i64 (S : Nat)) ∧ KT wS w') (first | (with_reducible assumption) | (with_reducible exact hS0) | go_keep) (first
                | (go_at_call 18; (with_reducible refine (HRC.out _ (ST.bel (by assumption))).mono ?_); rintro e w2 ⟨⟨A3, d3, rfl, hRS⟩, hbk⟩; have hS2 := ST.after (by assumption) hlt3 hbk)
                | (go_at_call 17; (with_reducible refine (HSC.out _ (ST.bel (by assumption)) _ _ hRS).mono ?_); rintro e w3 ⟨rfl, hbk⟩; have hS3 := ST.after (by assumption) hlt3 hbk)
                | (go_at_call 26; (with_reducible refine (HEN.out _ (ST.bel (by assumption))).mono ?_); rintro e w4 ⟨rfl, hbk⟩; have hS4 := ST.after (by assumption) hlt3 hbk)
                | (go_at_call 27; (with_reducible refine (HSE.out _ (ST.bel (by assumption))).mono ?_); rintro e w5 ⟨rfl, hbk⟩; have hS5 := ST.after (by assumption) hlt3 hbk)
                | (go_at_call 28; (with_reducible refine (HRE.out _ (ST.bel (by assumption))).mono ?_); rintro e w6 ⟨rfl, hbk⟩; have hS6 := ST.after (by assumption) hlt3 hbk)
                | (go_at_call 11; (with_reducible refine (works_true _).mono ?_); rintro e w9 ⟨rfl, hbk⟩; have hS9 := ST.after (by assumption) hlt3 hbk))
              rename_i hEnd
              obtain ⟨_, hbE⟩ := hEnd
              have hbE : Below wS.heap.size wS _ := hbE
              go_wp2_with fail
              go_ret
              exact ⟨rfl, b_then hbS hbE⟩
        · by_cases hh : hw = 0
          · subst hh
            have y1 : decide ((5 : Int) ≤ (dd : Int)) = false := by rw [decide_eq_false_iff_not]; omega
            have y2 : decide (5 ≤ dd) = false := by rw [decide_eq_false_iff_not]; omega
            clear HT HS HC hI hRI hIt hok hTl hrl hn1 HS2
            go_wp2_with fail
            refine (works_true _).mono ?_
            rintro e w9 ⟨rfl, hb9⟩
            go_wp2_with fail
            go_ret
            exact ⟨rfl, b_then hb1 hb9⟩
          · have x1 : (hw == 0) = false := by rw [beq_eq_false_iff_ne]; exact hh
            have y1 : decide ((5 : Int) ≤ (dd : Int)) = false := by rw [decide_eq_false_iff_not]; omega
            have y2 : decide (5 ≤ dd) = false := by rw [decide_eq_false_iff_not]; omega
            obtain ⟨hf1, hf2, hf3⟩ := changed_facts hok (n := nn) (k := q) (h := hw.toNat) (by omega) (by rw [← HS.out]; exact hle) (by rw [← HS2.out]; omega) (by rw [← HS.out]; omega) (by omega) (by omega)
            rw [← HS.out] at hf1 hf2 hf3
            obtain ⟨V, hV⟩ : ∃ V, V = (encL (rsI its)).getD nn 0 := ⟨_, rfl⟩
            have hVb := (encL_bb (rsI its)).getD nn (by rw [hTl]; exact hnT)
            rw [← hV] at hVb
            have hcl := (IsB.rb hI).at_ nn V (by rw [hV, List.getD_eq_getElem?_getD, List.getElem?_eq_getElem (by rw [hTl]; exact hnT)]; rfl)
            rw [Nat.zero_add] at hcl
            obtain ⟨Y, hY⟩ : ∃ Y : Int, Y = ((V.toNat ^^^ hw.toNat : Nat) : Int) := ⟨_, rfl⟩
            have hxb : bits BinOp.xor IntKind.u8 V hw = Y := by rw [u8_xor _ _ (by omega) (by omega) (by omega) (by omega), hY]
            obtain ⟨hBA, hgr, hfr⟩ := store_ba hI (encL_bb _) hTl nn hw.toNat (by omega) Y (by rw [hY, hV])
            have hRI2 := RI.grown hRI hgr hne
            have cA2 := hgr.cell cA (by simp; omega)
            have hbS := hb1.setCell (p := ⟨g, nn, none⟩) (by exact hgs) (.int .u8 Y)
            have hlt3 : b2 < (w1.setCell ⟨g, nn, none⟩ (.int .u8 Y)).heap.size := Nat.lt_of_lt_of_le hlt2 hgr.size
            obtain ⟨wS, hwS⟩ : ∃ wS, wS = w1.setCell ⟨g, nn, none⟩ (.int .u8 Y) := ⟨_, rfl⟩
            rw [← hwS] at hBA hRI2 cA2 hbS hlt3
            have HWS := Lib.hid hwS
            clear hwS hgr hV hY
            obtain ⟨R, hR⟩ : ∃ R, R = reasonF (chg (encL (rsI its)) nn hw.toNat) ((rsI its).take q) S := ⟨_, rfl⟩
            rw [← hR] at hf3
            have c_rc := fun (w : World) (hb : Below wS.heap.size wS w) => recs_at a1 q c1 (its.take q) w ((hIt.take_ q).later (b_then hbS hb)) (by rw [List.length_take]; omega) (by omega)
            have c_sc := fun (w : World) (hb : Below wS.heap.size wS w) (A3 : Option Addr) (d3 : Nat) (h : IsRs w A3 (rsI (its.take q))) => scanned_true (some ⟨g, 0, none⟩) T d1 _ (some ⟨b2, o2, none⟩) q d2 A3 d3 w _ S (hBA.later hb) (by omega) hf1 (by rw [pairsF_length, List.length_take]; omega) (by have h2 := (hRI2.later hb).take_ q; rw [atQ_take _ (by omega) hrl] at h2; exact h2) (by rw [pairsF_snd, ← rsI_take]; exact h)
            have c_en := fun (w : World) (hb : Below wS.heap.size wS w) => end_any (some ⟨g, 0, none⟩) T d1 _ w _ S (hBA.later hb) (by omega) hf1
            have c_se := fun (w : World) (hb : Below wS.heap.size wS w) => sealed_any (some ⟨g, 0, none⟩) T d1 _ w _ S (hBA.later hb) (by omega) hf1
            have c_re := fun (w : World) (hb : Below wS.heap.size wS w) => reason_any (some ⟨g, 0, none⟩) T d1 _ w _ S (hBA.later hb) (by omega) hf1
            rw [pairsF_snd] at c_se c_re
            rw [hf2] at c_se
            rw [← hR] at c_re
            have HRC := Lib.hid c_rc
            have HSC := Lib.hid c_sc
            have HEN := Lib.hid c_en
            have HSE := Lib.hid c_se
            have HRE := Lib.hid c_re
            clear c_rc c_sc c_en c_se c_re hf1 hf2 hBA hRI hRI2 hIt hok hTl hrl hn1 HC HT HS hI hR
            have r1 : (R == 0) = false := by rw [beq_eq_false_iff_ne]; exact hf3
            have r2 : (R != 0) = true := by rw [bne_iff_ne]; exact hf3
            clear hf3
            have i1 : (q : Int) < (n1 : Int) + 1 := by omega
            have i2 : q < n1 + 1 := by omega
            have i3 : (q : Int) < ((n1 + 1 : Nat) : Int) := by omega
            have i4 : (nn : Int) < (T : Int) := by omega
            go_wp2_with fail
            rw [← HWS.out]
            clear HWS hb1 cA
            try clear y1
            try clear y2
            try clear y3
            try clear y4
            try clear y5
            try clear y6
            try clear y7
            try clear y8
            try clear x1
            try clear x2
            try clear x3
            try clear x4
            try clear x5
            try clear z1
            try clear z2
            try clear z3
            try clear hdd
            try clear Hdd
            try clear hle
            try clear hq
            try clear HS2
            try clear cB
            try clear hnT
            try clear hTb
            try clear hTp
            try clear hTn
            try clear hT0
            try clear sm0
            try clear sm1
            try clear hw0
            try clear hw1
            try clear hh
            try clear hhz
            try clear hcl
            try clear hfr
            try clear hxb
            try clear hsz
            try clear hcm
            try clear hlc
            try clear hd2
            try clear hd2m
            try clear hTd
            try clear hd1m
            try clear g0
            try clear g0'
            try clear g1
            try clear g1'
            try clear hnn
            try clear htm
            try clear hgs
            try clear hne
            try clear hVb
            try clear HV
            try clear HY
            have hS0 : ST wS b2 (o2 + q) S wS.drew := ⟨cA2, Below.drew (Below.refl _ _)⟩
            go_region_held3 (fun w' => w'.cell? ⟨b2, o2 + q, none⟩ = some (.int .i64 (S : Nat)) ∧ KT wS w') (first | (with_reducible assumption) | (with_reducible exact hS0) | go_keep) (first
              | (go_at_call 18; (with_reducible refine (HRC.out _ (ST.bel (by assumption))).mono ?_); rintro e w2 ⟨⟨A3, d3, rfl, hRS⟩, hbk⟩; have hS2 := ST.after (by assumption) hlt3 hbk)
              | (go_at_call 17; (with_reducible refine (HSC.out _ (ST.bel (by assumption)) _ _ hRS).mono ?_); rintro e w3 ⟨rfl, hbk⟩; have hS3 := ST.after (by assumption) hlt3 hbk)
              | (go_at_call 26; (with_reducible refine (HEN.out _ (ST.bel (by assumption))).mono ?_); rintro e w4 ⟨rfl, hbk⟩; have hS4 := ST.after (by assumption) hlt3 hbk)
              | (go_at_call 27; (with_reducible refine (HSE.out _ (ST.bel (by assumption))).mono ?_); rintro e w5 ⟨rfl, hbk⟩; have hS5 := ST.after (by assumption) hlt3 hbk)
              | (go_at_call 28; (with_reducible refine (HRE.out _ (ST.bel (by assumption))).mono ?_); rintro e w6 ⟨rfl, hbk⟩; have hS6 := ST.after (by assumption) hlt3 hbk)
              | (go_at_call 11; (with_reducible refine (works_true _).mono ?_); rintro e w9 ⟨rfl, hbk⟩; have hS9 := ST.after (by assumption) hlt3 hbk))
            rename_i hEnd
            obtain ⟨_, hbE⟩ := hEnd
            have hbE : Below wS.heap.size wS _ := hbE
            go_wp2_with fail
            go_ret
            exact ⟨rfl, b_then hbS hbE⟩

set_option maxRecDepth 100000 in
theorem lifted (os : Os) (started : os.Started) (H : Type) (enc : TypeId × Value → H) :
    ReturnsInHanded {} Try.checked os 9 .any (Rows.scannerChangedSpec.pre6 enc Try.prog Try.f9 Rows.scannerChangedRow.domain false) (Rows.scannerChangedSpec.post enc Try.prog Try.f9 false true false false) := by
  refine returnsInHanded_of_change (C := Try.checked) own started (by kernel_rfl) Try.func9
    (ChangeSpec.witness6 (enc := enc) (C := Try.checked) false ⟨#[], #[.slice none 0 0, .int .u16 0, .int .u8 0], []⟩ 8 (by kernel_rfl) (by kernel_rfl) (by kernel_rfl) (by kernel_rfl)) ?_
  intro W base args ds gs before hval0 hW hcnd _
  have hval : ∀ (j : Nat) t v, Try.f9.params[j]? = some t → args[j]? = some v → Value.okWide Try.prog W .any base t v := hval0
  have hW' := hW
  obtain ⟨p, q, hA0, hV, rfl, hfz, hnd⟩ := hW
  have hA : DataW.TrodAll enc Try.prog W 0 (fun _ => true) true Try.f9.params.toList args.toList ds p := hA0
  rw [Try.params9] at hA hval
  obtain ⟨v0, vs0, d0, ds0, p0, q0, hargs, rfl, rfl, h0, r0⟩ := trodAll_cons hA
  obtain ⟨v1, vs1, d1, ds1, p1, q1, rfl, rfl, rfl, h1, r1⟩ := trodAll_cons r0
  obtain ⟨v2, vs2, d2, ds2, p2, q2, rfl, rfl, rfl, h2, r2⟩ := trodAll_cons r1
  obtain ⟨rfl, rfl, rfl⟩ := trodAll_nil r2
  obtain rfl : args = #[v0, v1, v2] := by cases args; simp_all
  obtain ⟨rfl, rfl⟩ := trodVars_none hV
  refine (walk (H := H) (enc := enc) W base (hval 0 22 v0 rfl rfl) h0 (hval 1 23 v1 rfl rfl) h1 (hval 2 5 v2 rfl rfl) h2).mono fun e W' ⟨he, bel⟩ => ?_
  subst he
  exact ⟨_, rfl, _, _, _, [], _, [], hW', trodAll_mk1 (shut_bool Try.underlying4 _), (trodAll_cons_mk (Below.trod laidOut (by kernel_rfl) (of_decide_eq_true (by kernel_rfl)) h0 bel (lt_of_Trod h0)) (trodAll_cons_mk (Below.trod laidOut (by kernel_rfl) (of_decide_eq_true (by kernel_rfl)) h1 bel (lt_of_Trod h1)) (trodAll_cons_mk (Below.trod laidOut (by kernel_rfl) (of_decide_eq_true (by kernel_rfl)) h2 bel (lt_of_Trod h2)) trodAll_mk0))), rfl, bel.frame _, fun h => by cases h⟩

/-- ScannerChanged: for every slice of items and every two numbers the law returns true and changes nothing. No condition. -/
theorem proved : Rows.ScannerChangedSaid :=
  OpenClaim.holds_of_wide 9 Try.f9 rfl rfl rfl rfl rfl rfl rfl ⟨rfl, rfl, rfl, rfl, rfl⟩ rfl rfl rfl rfl rfl (by kernel_rfl) Try.func9 (by kernel_rfl)
    (of_decide_eq_true (by kernel_rfl)) (by unfold Func.isWrapper; first | (rw [if_pos (by decide +kernel)]; kernel_rfl) | (rw [if_neg (by decide +kernel)]; exact ⟨rfl, rfl⟩))
    (fun os started H enc _ => lifted os started H enc)
#print axioms proved
end Go.Proofs.Ytjcdflohkajbcaa.scannerChanged
