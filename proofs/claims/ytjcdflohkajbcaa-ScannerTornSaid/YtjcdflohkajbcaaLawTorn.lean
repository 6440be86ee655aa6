/-
  ScannerTorn: for every slice of items and every number the law returns true and changes nothing. No condition.
-/
import Derived.Test.YtjcdflohkajbcaaOpen
import Derived.Test.YtjcdflohkajbcaaSC
namespace Go.Proofs.Ytjcdflohkajbcaa.scannerTorn
open Go.ChangeShapes Go.WideShapes Go.ChangeAt Go.RowKit
open Go.ChangeMaps (open_string shut_string)
set_option linter.unusedVariables false

theorem recs_at (A : Option Addr) (n cap : Nat) (its : List It) (w : World) (h : IsIt w A its) (hn : its.length = n) (hn2 : n ≤ 1000) :
    Calls Try.prog 18 #[.slice A n cap] w fun e w' => (∃ A' c', e = .returned (.slice A' n c') ∧ IsRs w' A' (rsI its)) ∧ Below w.heap.size w w' := by
  refine (recs_any A n cap its w h hn hn2).mono ?_
  rintro e w' ⟨⟨v, rfl, ho⟩, hb⟩
  have hl : (rsI its).length = n := by rw [rsI, List.length_map, hn]
  obtain ⟨A', c', rfl, hR, _⟩ := IsRs.of_own (rs := rsI its) (by rw [hl]; exact ho) (rsI_sz h.1)
  rw [hl]
  exact ⟨⟨A', c', rfl, hR⟩, hb⟩
theorem bytes_at (A : Option Addr) (n cap : Nat) (its : List It) (w : World) (h : IsIt w A its) (hn : its.length = n) (hn2 : n ≤ 100) :
    Calls Try.prog 12 #[.slice A n cap] w fun e w' => (∃ v1 A2 b2 o2 c2, e = .returned (.tuple #[v1, .slice A2 (n + 1) c2]) ∧ A2 = some ⟨b2, o2, none⟩ ∧ w'.ownsRow w.heap.size 5 1 v1 (sizeL (rsI its)) ((encL (rsI its)).map (Value.int .u8)) ∧ RI w' A2 (atQ (rsI its) n) ∧ n + 1 ≤ c2 ∧ c2 ≤ maxLen ∧ b2 < w'.heap.size) ∧ Below w.heap.size w w' := by
  refine (bytes_any A n cap its w h hn hn2).mono ?_
  rintro e w' ⟨⟨v1, v2, rfl, hI, oa⟩, hb⟩
  obtain ⟨A2, c2, rfl, hRI, h1, h2⟩ := RI.of_own oa
  obtain ⟨b2, o2, e2, hlt, _⟩ := hRI.cell (atQ_at (rsI its) (n := n) (k := 0) (by omega))
  exact ⟨⟨v1, A2, b2, o2, c2, rfl, e2, hI, hRI, h1, h2, hlt⟩, hb⟩

def KT (w1 w' : World) : Prop := Below w1.heap.size w1 w'
abbrev ST (w1 : World) (b o S : Nat) (w' : World) : Prop := w'.cell? ⟨b, o, none⟩ = some (.int .i64 (S : Nat)) ∧ KT w1 w'
theorem ST.bel {w1 : World} {b o S : Nat} {w' : World} (h : ST w1 b o S w') : Below w1.heap.size w1 w' := h.2
theorem ST.after {w1 : World} {b o S : Nat} {w w' : World} (h : ST w1 b o S w) (hb : b < w1.heap.size) (hk : Below w.heap.size w w') : ST w1 b o S w' :=
  ⟨(hk.cell (p := ⟨b, o, none⟩) (Nat.lt_of_lt_of_le hb (show Below w1.heap.size w1 w from h.2).size)).trans h.1, b_then h.2 hk⟩

set_option maxHeartbeats 6400000 in
set_option maxRecDepth 100000 in
theorem walk {H : Type} {enc : TypeId × Value → H} (W : World) (base : Nat) {v0 v1 : Value} {d0 d1 : DataW H} {p0 p1 : List MemPlace} (o0 : Value.okWide Try.prog W .any base 22 v0) (h0 : DataW.Trod enc Try.prog W 0 (fun _ => true) true 22 v0 d0 p0) (o1 : Value.okWide Try.prog W .any base 23 v1) (h1 : DataW.Trod enc Try.prog W 0 (fun _ => true) true 23 v1 d1 p1) :
    Calls Try.prog 8 #[v0, v1] W fun e W' => e = .returned (.bool true) ∧ Below W.heap.size W W' := by
  obtain ⟨a1, c1, its, rfl, hlc, hcm, hIt⟩ := open_items o0 h0
  clear o0 h0
  obtain ⟨n1, hn1⟩ : ∃ n1, its.length = n1 := ⟨_, rfl⟩
  rw [hn1] at hlc ⊢
  unfold maxLen at hcm
  obtain ⟨sm, rfl, rfl, rfl, ws⟩ := open_int Try.underlying23 o1 h1
  obtain ⟨sm0, sm1⟩ := bounds_u16 ws
  clear ws h1 o1
  by_cases g1 : 30 < n1
  · have g1' : (30 : Int) < (n1 : Int) := by omega
    clear hIt hn1
    go_enter Try.func8, Try.ntmps8
    go_wp2_with fail
    refine (works_true _).mono ?_
    rintro e w9 ⟨rfl, hb9⟩
    go_wp2_with fail
    go_ret
    exact ⟨rfl, hb9⟩
  · have g1' : (n1 : Int) ≤ 30 := by omega
    have hok := rsI_ok hIt.1
    have hsz := sizeL_its hIt.1
    have hrl : (rsI its).length = n1 := by rw [rsI, List.length_map, hn1]
    rw [hn1] at hsz
    have c_by := bytes_at a1 n1 c1 its W hIt hn1 (by omega)
    obtain ⟨T, hT⟩ : ∃ T, T = sizeL (rsI its) := ⟨_, rfl⟩
    rw [← hT] at c_by hsz
    have hTl : (encL (rsI its)).length = T := by rw [hT]; rfl
    have HT := Lib.hid hT
    clear hT
    obtain ⟨nn, hnn⟩ : ∃ nn : Nat, sm % ((T : Int) + 1) = (nn : Int) := ⟨(sm % ((T : Int) + 1)).toNat, by have := Int.emod_nonneg sm (b := (T : Int) + 1) (by omega); omega⟩
    have hnT : nn ≤ T := by have := Int.emod_lt_of_pos sm (b := (T : Int) + 1) (by omega); omega
    have htm : sm.tmod ((T : Int) + 1) = (nn : Int) := by rw [Int.tmod_eq_emod_of_nonneg sm0]; exact hnn
    have hTb : (T : Int) ≤ 10000 := by omega
    go_enter Try.func8, Try.ntmps8
    go_wp2_with fail
    refine c_by.mono ?_
    rintro e w1 ⟨⟨v1, A2, b2, o2, d2, rfl, hA2, hI, hRI, hd2, hd2m, hlt2⟩, hb1⟩
    subst hA2
    obtain ⟨A1, d1, rfl, hBA⟩ := BA.of_own (v := v1) (M := encL (rsI its)) (by unfold IsB; rw [hTl]; exact hI) (encL_bb _)
    rw [hTl] at hBA ⊢
    have hTd := hBA.2.2.2.1
    have hd1m := hBA.2.2.2.2
    unfold maxLen at hd1m hd2m
    clear c_by hI
    obtain ⟨_, hc⟩ : ∃ x : Unit, ∀ (i : Nat) (u : Value), (atQ (rsI its) n1)[i]? = some u → w1.cell? ⟨b2, o2 + i, none⟩ = some u := ⟨(), fun i u hu => by
      obtain ⟨b, o, e1, _, h⟩ := hRI.cell hu
      injection e1 with e1
      injection e1 with e1 e2
      subst e1 e2
      exact h⟩
    have HC := Lib.hid hc
    clear hc
    go_wp2_with fail
    clear hnn htm
    go_loop [8] (fun k => ∃ q : Nat, k = .int .i64 q ∧ q ≤ n1 ∧ sizeL ((rsI its).take q) ≤ nn) (fun k => n1 - (intOf k).toNat)
    case atStart => exact ⟨0, rfl, Nat.zero_le _, Nat.zero_le _⟩
    case round =>
      obtain ⟨q, rfl, hq, hle⟩ := hrel
      have hc := HC.out
      obtain ⟨S, hS⟩ : ∃ S, S = sizeL ((rsI its).take q) := ⟨_, rfl⟩
      have HS := Lib.hid hS
      rw [← hS] at hle
      clear hS
      have z2 : (0 : Int) ≤ (q : Int) := by omega
      have z3 : (q : Int) ≤ 100 := by omega
      by_cases hlt : q < n1
      · have z1 : (q : Int) < (n1 : Int) := by omega
        have cB := hc (q + 1) _ (atQ_at (rsI its) (n := n1) (k := q + 1) (by omega))
        obtain ⟨S2, hS2⟩ : ∃ S2, S2 = sizeL ((rsI its).take (q + 1)) := ⟨_, rfl⟩
        rw [← hS2] at cB
        have HS2 := Lib.hid hS2
        clear hS2
        by_cases hgo : S2 ≤ nn
        · have y1 : decide ((S2 : Int) ≤ (nn : Int)) = true := by rw [decide_eq_true_iff]; omega
          have y2 : decide (S2 ≤ nn) = true := by rw [decide_eq_true_iff]; omega
          clear hc
          go_wp2_with fail
          go_round
          case rel => exact ⟨q + 1, by go_num, by omega, by rw [← HS2.out]; exact hgo⟩
          case measure => simp [intOf]; omega
        · have y3 : decide ((S2 : Int) ≤ (nn : Int)) = false := by rw [decide_eq_false_iff_not]; omega
          have y4 : decide (S2 ≤ nn) = false := by rw [decide_eq_false_iff_not]; omega
          have hex : q < n1 → nn < sizeL ((rsI its).take (q + 1)) := fun _ => by rw [← HS2.out]; omega
          have hS := HS.out
          obtain ⟨hf1, hf2, hf3⟩ := torn_facts hok (n := nn) (k := q) (by omega) (by rw [← hS]; exact hle) (by intro h; exact hex (by omega)) (by rw [← HT.out]; exact hnT)
          rw [← hS] at hf1 hf2 hf3
          have cA := hc q _ (atQ_at (rsI its) (n := n1) (k := q) (by omega))
          rw [← hS] at cA
          clear hc hS
          have hs8 := fun w => slice_to8 (A := A1) (len := T) (cap := d1) (k := nn) (by omega) w
          have hsI := fun w => slice_toI (A := some ⟨b2, o2, none⟩) (len := n1 + 1) (cap := d2) (k := q) (by omega) w
          have hsT := fun w => slice_toT (A := a1) (len := n1) (cap := c1) (k := q) (by omega) w
          by_cases heq : S = nn
          · have y1 : ((S : Int) == (nn : Int)) = true := by rw [beq_iff_eq]; omega
            rw [if_pos (by omega)] at hf3
            have c_rc := fun (w : World) (hb : Below w1.heap.size w1 w) => recs_at a1 q c1 (its.take q) w ((hIt.take_ q).later (b_then hb1 hb)) (by rw [List.length_take]; omega) (by omega)
            have c_sc := fun (w : World) (hb : Below w1.heap.size w1 w) (A3 : Option Addr) (d3 : Nat) (h : IsRs w A3 (rsI (its.take q))) => scanned_true A1 nn d1 _ (some ⟨b2, o2, none⟩) q d2 A3 d3 w _ S ((hBA.take_ nn (by omega)).later hb) (by omega) hf1 (by rw [pairsF_length, List.length_take]; omega) (by have h2 := (hRI.later hb).take_ q; rw [atQ_take _ (by omega) hrl] at h2; exact h2) (by rw [pairsF_snd, ← rsI_take]; exact h)
            have c_sa := fun (w : World) (hb : Below w1.heap.size w1 w) => says_true A1 nn d1 _ w _ S false 0 ((hBA.take_ nn (by omega)).later hb) (by omega) hf1 (by rw [pairsF_snd]; exact hf2) (by rw [pairsF_snd]; exact hf3)
            have HRC := Lib.hid c_rc
            have HSC := Lib.hid c_sc
            have HSA := Lib.hid c_sa
            clear c_rc c_sc c_sa hf1 hf2 hf3 hBA hRI hIt hok hTl hrl hn1 HC HT HS
            have i1 : (q : Int) < (n1 : Int) + 1 := by omega
            have i2 : q < n1 + 1 := by omega
            have i3 : (q : Int) < ((n1 + 1 : Nat) : Int) := by omega
            go_wp2_with fail
            try clear y1
            try clear y2
            try clear y3
            try clear y4
            try clear heq
            try clear hgo
            try clear hlt
            try clear z1
            try clear z2
            try clear z3
            try clear hle
            try clear hq
            try clear hex
            try clear HS2
            try clear cB
            try clear hnT
            try clear hTb
            try clear sm0
            try clear sm1
            try clear hsz
            try clear hcm
            try clear hlc
            try clear hd2
            try clear hd2m
            try clear hTd
            try clear hd1m
            try clear g1
            try clear g1'
            try clear hlt_
            try clear hn1
            have hS0 : ST w1 b2 (o2 + q) S w1.drew := ⟨cA, Below.drew (Below.refl _ _)⟩
            go_region_held3 (fun w' => w'.cell? ⟨b2, o2 + q, none⟩ = some (.int .i64 (S : Nat)) ∧ KT w1 w') (first | (with_reducible assumption) | (with_reducible exact hS0) | go_keep) (first
              | (go_at_call 18; (with_reducible refine (HRC.out _ (ST.bel (by assumption))).mono ?_); rintro e w2 ⟨⟨A3, d3, rfl, hRS⟩, hbk⟩; have hS2 := ST.after (by assumption) hlt2 hbk)
              | (go_at_call 17; (with_reducible refine (HSC.out _ (ST.bel (by assumption)) _ _ hRS).mono ?_); rintro e w3 ⟨rfl, hbk⟩; have hS3 := ST.after (by assumption) hlt2 hbk)
              | (go_at_call 19; (with_reducible refine (HSA.out _ (ST.bel (by assumption))).mono ?_); rintro e w4 ⟨rfl, hbk⟩; have hS4 := ST.after (by assumption) hlt2 hbk)
              | (go_at_call 11; (with_reducible refine (works_true _).mono ?_); rintro e w9 ⟨rfl, hbk⟩; have hS9 := ST.after (by assumption) hlt2 hbk))
            rename_i hEnd
            obtain ⟨_, hbE⟩ := hEnd
            have hbE : Below w1.heap.size w1 _ := hbE
            go_wp2_with fail
            go_ret
            exact ⟨rfl, b_then hb1 hbE⟩
          · have y1 : ((S : Int) == (nn : Int)) = false := by rw [beq_eq_false_iff_ne]; omega
            rw [if_neg (by omega)] at hf3
            have c_rc := fun (w : World) (hb : Below w1.heap.size w1 w) => recs_at a1 q c1 (its.take q) w ((hIt.take_ q).later (b_then hb1 hb)) (by rw [List.length_take]; omega) (by omega)
            have c_sc := fun (w : World) (hb : Below w1.heap.size w1 w) (A3 : Option Addr) (d3 : Nat) (h : IsRs w A3 (rsI (its.take q))) => scanned_true A1 nn d1 _ (some ⟨b2, o2, none⟩) q d2 A3 d3 w _ S ((hBA.take_ nn (by omega)).later hb) (by omega) hf1 (by rw [pairsF_length, List.length_take]; omega) (by have h2 := (hRI.later hb).take_ q; rw [atQ_take _ (by omega) hrl] at h2; exact h2) (by rw [pairsF_snd, ← rsI_take]; exact h)
            have c_sa := fun (w : World) (hb : Below w1.heap.size w1 w) => says_true A1 nn d1 _ w _ S false 14 ((hBA.take_ nn (by omega)).later hb) (by omega) hf1 (by rw [pairsF_snd]; exact hf2) (by rw [pairsF_snd]; exact hf3)
            have HRC := Lib.hid c_rc
            have HSC := Lib.hid c_sc
            have HSA := Lib.hid c_sa
            clear c_rc c_sc c_sa hf1 hf2 hf3 hBA hRI hIt hok hTl hrl hn1 HC HT HS
            have i1 : (q : Int) < (n1 : Int) + 1 := by omega
            have i2 : q < n1 + 1 := by omega
            have i3 : (q : Int) < ((n1 + 1 : Nat) : Int) := by omega
            go_wp2_with fail
            try clear y1
            try clear y2
            try clear y3
            try clear y4
            try clear heq
            try clear hgo
            try clear hlt
            try clear z1
            try clear z2
            try clear z3
            try clear hle
            try clear hq
            try clear hex
            try clear HS2
            try clear cB
            try clear hnT
            try clear hTb
            try clear sm0
            try clear sm1
            try clear hsz
            try clear hcm
            try clear hlc
            try clear hd2
            try clear hd2m
            try clear hTd
            try clear hd1m
            try clear g1
            try clear g1'
            try clear hlt_
            try clear hn1
            have hS0 : ST w1 b2 (o2 + q) S w1.drew := ⟨cA, Below.drew (Below.refl _ _)⟩
            go_region_held3 (fun w' => w'.cell? ⟨b2, o2 + q, none⟩ = some (.int .i64 (S : Nat)) ∧ KT w1 w') (first | (with_reducible assumption) | (with_reducible exact hS0) | go_keep) (first
              | (go_at_call 18; (with_reducible refine (HRC.out _ (ST.bel (by assumption))).mono ?_); rintro e w2 ⟨⟨A3, d3, rfl, hRS⟩, hbk⟩; have hS2 := ST.after (by assumption) hlt2 hbk)
              | (go_at_call 17; (with_reducible refine (HSC.out _ (ST.bel (by assumption)) _ _ hRS).mono ?_); rintro e w3 ⟨rfl, hbk⟩; have hS3 := ST.after (by assumption) hlt2 hbk)
              | (go_at_call 19; (with_reducible refine (HSA.out _ (ST.bel (by assumption))).mono ?_); rintro e w4 ⟨rfl, hbk⟩; have hS4 := ST.after (by assumption) hlt2 hbk)
              | (go_at_call 11; (with_reducible refine (works_true _).mono ?_); rintro e w9 ⟨rfl, hbk⟩; have hS9 := ST.after (by assumption) hlt2 hbk))
            rename_i hEnd
            obtain ⟨_, hbE⟩ := hEnd
            have hbE : Below w1.heap.size w1 _ := hbE
            go_wp2_with fail
            go_ret
            exact ⟨rfl, b_then hb1 hbE⟩
      · have z1 : (n1 : Int) ≤ (q : Int) := by omega
        have hex : q < n1 → nn < sizeL ((rsI its).take (q + 1)) := fun h => absurd h hlt
        have hS := HS.out
        obtain ⟨hf1, hf2, hf3⟩ := torn_facts hok (n := nn) (k := q) (by omega) (by rw [← hS]; exact hle) (by intro h; exact hex (by omega)) (by rw [← HT.out]; exact hnT)
        rw [← hS] at hf1 hf2 hf3
        have cA := hc q _ (atQ_at (rsI its) (n := n1) (k := q) (by omega))
        rw [← hS] at cA
        clear hc hS
        have hs8 := fun w => slice_to8 (A := A1) (len := T) (cap := d1) (k := nn) (by omega) w
        have hsI := fun w => slice_toI (A := some ⟨b2, o2, none⟩) (len := n1 + 1) (cap := d2) (k := q) (by omega) w
        have hsT := fun w => slice_toT (A := a1) (len := n1) (cap := c1) (k := q) (by omega) w
        by_cases heq : S = nn
        · have y1 : ((S : Int) == (nn : Int)) = true := by rw [beq_iff_eq]; omega
          rw [if_pos (by omega)] at hf3
          have c_rc := fun (w : World) (hb : Below w1.heap.size w1 w) => recs_at a1 q c1 (its.take q) w ((hIt.take_ q).later (b_then hb1 hb)) (by rw [List.length_take]; omega) (by omega)
          have c_sc := fun (w : World) (hb : Below w1.heap.size w1 w) (A3 : Option Addr) (d3 : Nat) (h : IsRs w A3 (rsI (its.take q))) => scanned_true A1 nn d1 _ (some ⟨b2, o2, none⟩) q d2 A3 d3 w _ S ((hBA.take_ nn (by omega)).later hb) (by omega) hf1 (by rw [pairsF_length, List.length_take]; omega) (by have h2 := (hRI.later hb).take_ q; rw [atQ_take _ (by omega) hrl] at h2; exact h2) (by rw [pairsF_snd, ← rsI_take]; exact h)
          have c_sa := fun (w : World) (hb : Below w1.heap.size w1 w) => says_true A1 nn d1 _ w _ S false 0 ((hBA.take_ nn (by omega)).later hb) (by omega) hf1 (by rw [pairsF_snd]; exact hf2) (by rw [pairsF_snd]; exact hf3)
          have HRC := Lib.hid c_rc
          have HSC := Lib.hid c_sc
          have HSA := Lib.hid c_sa
          clear c_rc c_sc c_sa hf1 hf2 hf3 hBA hRI hIt hok hTl hrl hn1 HC HT HS
          have i1 : (q : Int) < (n1 : Int) + 1 := by omega
          have i2 : q < n1 + 1 := by omega
          have i3 : (q : Int) < ((n1 + 1 : Nat) : Int) := by omega
          go_wp2_with fail
          try clear y1
          try clear y2
          try clear y3
          try clear y4
          try clear heq
          try clear hgo
          try clear hlt
          try clear z1
          try clear z2
          try clear z3
          try clear hle
          try clear hq
          try clear hex
          try clear HS2
          try clear cB
          try clear hnT
          try clear hTb
          try clear sm0
          try clear sm1
          try clear hsz
          try clear hcm
          try clear hlc
          try clear hd2
          try clear hd2m
          try clear hTd
          try clear hd1m
          try clear g1
          try clear g1'
          try clear hlt_
          try clear hn1
          have hS0 : ST w1 b2 (o2 + q) S w1.drew := ⟨cA, Below.drew (Below.refl _ _)⟩
          go_region_held3 (fun w' => w'.cell? ⟨b2, o2 + q, none⟩ = some (.int .i64 (S : Nat)) ∧ KT w1 w') (first | (with_reducible assumption) | (with_reducible exact hS0) | go_keep) (first
            | (go_at_call 18; (with_reducible refine (HRC.out _ (ST.bel (by assumption))).mono ?_); rintro e w2 ⟨⟨A3, d3, rfl, hRS⟩, hbk⟩; have hS2 := ST.after (by assumption) hlt2 hbk)
            | (go_at_call 17; (with_reducible refine (HSC.out _ (ST.bel (by assumption)) _ _ hRS).mono ?_); rintro e w3 ⟨rfl, hbk⟩; have hS3 := ST.after (by assumption) hlt2 hbk)
            | (go_at_call 19; (with_reducible refine (HSA.out _ (ST.bel (by assumption))).mono ?_); rintro e w4 ⟨rfl, hbk⟩; have hS4 := ST.after (by assumption) hlt2 hbk)
            | (go_at_call 11; (with_reducible refine (works_true _).mono ?_); rintro e w9 ⟨rfl, hbk⟩; have hS9 := ST.after (by assumption) hlt2 hbk))
          rename_i hEnd
          obtain ⟨_, hbE⟩ := hEnd
          have hbE : Below w1.heap.size w1 _ := hbE
          go_wp2_with fail
          go_ret
          exact ⟨rfl, b_then hb1 hbE⟩
        · have y1 : ((S : Int) == (nn : Int)) = false := by rw [beq_eq_false_iff_ne]; omega
          rw [if_neg (by omega)] at hf3
          have c_rc := fun (w : World) (hb : Below w1.heap.size w1 w) => recs_at a1 q c1 (its.take q) w ((hIt.take_ q).later (b_then hb1 hb)) (by rw [List.length_take]; omega) (by omega)
          have c_sc := fun (w : World) (hb : Below w1.heap.size w1 w) (A3 : Option Addr) (d3 : Nat) (h : IsRs w A3 (rsI (its.take q))) => scanned_true A1 nn d1 _ (some ⟨b2, o2, none⟩) q d2 A3 d3 w _ S ((hBA.take_ nn (by omega)).later hb) (by omega) hf1 (by rw [pairsF_length, List.length_take]; omega) (by have h2 := (hRI.later hb).take_ q; rw [atQ_take _ (by omega) hrl] at h2; exact h2) (by rw [pairsF_snd, ← rsI_take]; exact h)
          have c_sa := fun (w : World) (hb : Below w1.heap.size w1 w) => says_true A1 nn d1 _ w _ S false 14 ((hBA.take_ nn (by omega)).later hb) (by omega) hf1 (by rw [pairsF_snd]; exact hf2) (by rw [pairsF_snd]; exact hf3)
          have HRC := Lib.hid c_rc
          have HSC := Lib.hid c_sc
          have HSA := Lib.hid c_sa
          clear c_rc c_sc c_sa hf1 hf2 hf3 hBA hRI hIt hok hTl hrl hn1 HC HT HS
          have i1 : (q : Int) < (n1 : Int) + 1 := by omega
          have i2 : q < n1 + 1 := by omega
          have i3 : (q : Int) < ((n1 + 1 : Nat) : Int) := by omega
          go_wp2_with fail
          try clear y1
          try clear y2
          try clear y3
          try clear y4
          try clear heq
          try clear hgo
          try clear hlt
          try clear z1
          try clear z2
          try clear z3
          try clear hle
          try clear hq
          try clear hex
          try clear HS2
          try clear cB
          try clear hnT
          try clear hTb
          try clear sm0
          try clear sm1
          try clear hsz
          try clear hcm
          try clear hlc
          try clear hd2
          try clear hd2m
          try clear hTd
          try clear hd1m
          try clear g1
          try clear g1'
          try clear hlt_
          try clear hn1
          have hS0 : ST w1 b2 (o2 + q) S w1.drew := ⟨cA, Below.drew (Below.refl _ _)⟩
          go_region_held3 (fun w' => w'.cell? ⟨b2, o2 + q, none⟩ = some (.int .i64 (S : Nat)) ∧ KT w1 w') (first | (with_reducible assumption) | (with_reducible exact hS0) | go_keep) (first
            | (go_at_call 18; (with_reducible refine (HRC.out _ (ST.bel (by assumption))).mono ?_); rintro e w2 ⟨⟨A3, d3, rfl, hRS⟩, hbk⟩; have hS2 := ST.after (by assumption) hlt2 hbk)
            | (go_at_call 17; (with_reducible refine (HSC.out _ (ST.bel (by assumption)) _ _ hRS).mono ?_); rintro e w3 ⟨rfl, hbk⟩; have hS3 := ST.after (by assumption) hlt2 hbk)
            | (go_at_call 19; (with_reducible refine (HSA.out _ (ST.bel (by assumption))).mono ?_); rintro e w4 ⟨rfl, hbk⟩; have hS4 := ST.after (by assumption) hlt2 hbk)
            | (go_at_call 11; (with_reducible refine (works_true _).mono ?_); rintro e w9 ⟨rfl, hbk⟩; have hS9 := ST.after (by assumption) hlt2 hbk))
          rename_i hEnd
          obtain ⟨_, hbE⟩ := hEnd
          have hbE : Below w1.heap.size w1 _ := hbE
          go_wp2_with fail
          go_ret
          exact ⟨rfl, b_then hb1 hbE⟩

set_option maxRecDepth 100000 in
theorem lifted (os : Os) (started : os.Started) (H : Type) (enc : TypeId × Value → H) :
    ReturnsInHanded {} Try.checked os 8 .any (Rows.scannerTornSpec.pre6 enc Try.prog Try.f8 Rows.scannerTornRow.domain false) (Rows.scannerTornSpec.post enc Try.prog Try.f8 false true false false) := by
  refine returnsInHanded_of_change (C := Try.checked) own started (by kernel_rfl) Try.func8
    (ChangeSpec.witness6 (enc := enc) (C := Try.checked) false ⟨#[], #[.slice none 0 0, .int .u16 0], []⟩ 8 (by kernel_rfl) (by kernel_rfl) (by kernel_rfl) (by kernel_rfl)) ?_
  intro W base args ds gs before hval0 hW hcnd _
  have hval : ∀ (j : Nat) t v, Try.f8.params[j]? = some t → args[j]? = some v → Value.okWide Try.prog W .any base t v := hval0
  have hW' := hW
  obtain ⟨p, q, hA0, hV, rfl, hfz, hnd⟩ := hW
  have hA : DataW.TrodAll enc Try.prog W 0 (fun _ => true) true Try.f8.params.toList args.toList ds p := hA0
  rw [Try.params8] at hA hval
  obtain ⟨v0, vs0, d0, ds0, p0, q0, hargs, rfl, rfl, h0, r0⟩ := trodAll_cons hA
  obtain ⟨v1, vs1, d1, ds1, p1, q1, rfl, rfl, rfl, h1, r1⟩ := trodAll_cons r0
  obtain ⟨rfl, rfl, rfl⟩ := trodAll_nil r1
  obtain rfl : args = #[v0, v1] := by cases args; simp_all
  obtain ⟨rfl, rfl⟩ := trodVars_none hV
  refine (walk (H := H) (enc := enc) W base (hval 0 22 v0 rfl rfl) h0 (hval 1 23 v1 rfl rfl) h1).mono fun e W' ⟨he, bel⟩ => ?_
  subst he
  exact ⟨_, rfl, _, _, _, [], _, [], hW', trodAll_mk1 (shut_bool Try.underlying4 _), (trodAll_cons_mk (Below.trod laidOut (by kernel_rfl) (of_decide_eq_true (by kernel_rfl)) h0 bel (lt_of_Trod h0)) (trodAll_cons_mk (Below.trod laidOut (by kernel_rfl) (of_decide_eq_true (by kernel_rfl)) h1 bel (lt_of_Trod h1)) trodAll_mk0)), rfl, bel.frame _, fun h => by cases h⟩

/-- ScannerTorn: for every slice of items and every number the law returns true and changes nothing. No condition. -/
theorem proved : Rows.ScannerTornSaid :=
  OpenClaim.holds_of_wide 8 Try.f8 rfl rfl rfl rfl rfl rfl rfl ⟨rfl, rfl, rfl, rfl, rfl⟩ rfl rfl rfl rfl rfl (by kernel_rfl) Try.func8 (by kernel_rfl)
    (of_decide_eq_true (by kernel_rfl)) (by unfold Func.isWrapper; first | (rw [if_pos (by decide +kernel)]; kernel_rfl) | (rw [if_neg (by decide +kernel)]; exact ⟨rfl, rfl⟩))
    (fun os started H enc _ => lifted os started H enc)
#print axioms proved
end Go.Proofs.Ytjcdflohkajbcaa.scannerTorn
