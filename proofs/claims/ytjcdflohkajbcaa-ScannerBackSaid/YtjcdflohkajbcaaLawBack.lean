/-
  ScannerBack: for every slice of items and every number of zeros the law returns true and changes nothing. No condition.
-/
import Derived.Test.YtjcdflohkajbcaaOpen
import Derived.Test.YtjcdflohkajbcaaAz
namespace Go.Proofs.Ytjcdflohkajbcaa.scannerBack
open Go.ChangeShapes Go.WideShapes Go.ChangeAt Go.RowKit
open Go.ChangeMaps (open_string shut_string)
set_option linter.unusedVariables false

attribute [local go_sem] undef
theorem skip_op {c : Bool} {A B : Prop} (hc : c = false) (h : B) : if c = true then A else B := by
  subst hc
  exact h

theorem recs_at (A : Option Addr) (n cap : Nat) (its : List It) (w : World) (h : IsIt w A its) (hn : its.length = n) (hn2 : n ≤ 1000) :
    Calls Try.prog 18 #[.slice A n cap] w fun e w' => (∃ A' c', e = .returned (.slice A' n c') ∧ IsRs w' A' (rsI its)) ∧ Below w.heap.size w w' := by
  refine (recs_any A n cap its w h hn hn2).mono ?_
  rintro e w' ⟨⟨v, rfl, ho⟩, hb⟩
  have hl : (rsI its).length = n := by rw [rsI, List.length_map, hn]
  obtain ⟨A', c', rfl, hR, _⟩ := IsRs.of_own (rs := rsI its) (by rw [hl]; exact ho) (rsI_sz h.1)
  rw [hl]
  exact ⟨⟨A', c', rfl, hR⟩, hb⟩

def KT (w1 w' : World) : Prop := Below w1.heap.size w1 w'
abbrev ST (w1 : World) (b o S : Nat) (w' : World) : Prop := w'.cell? ⟨b, o, none⟩ = some (.int .i64 (S : Nat)) ∧ KT w1 w'
theorem ST.bel {w1 : World} {b o S : Nat} {w' : World} (h : ST w1 b o S w') : Below w1.heap.size w1 w' := h.2
theorem ST.after {w1 : World} {b o S : Nat} {w w' : World} (h : ST w1 b o S w) (hb : b < w1.heap.size) (hk : Below w.heap.size w w') : ST w1 b o S w' :=
  ⟨(hk.cell (p := ⟨b, o, none⟩) (Nat.lt_of_lt_of_le hb (show Below w1.heap.size w1 w from h.2).size)).trans h.1, b_then h.2 hk⟩

set_option maxHeartbeats 6400000 in
set_option maxRecDepth 100000 in
theorem walk {H : Type} {enc : TypeId × Value → H} (W : World) (base : Nat) {v0 v1 : Value} {d0 d1 : DataW H} {p0 p1 : List MemPlace} (o0 : Value.okWide Try.prog W .any base 22 v0) (h0 : DataW.Trod enc Try.prog W 0 (fun _ => true) true 22 v0 d0 p0) (o1 : Value.okWide Try.prog W .any base 5 v1) (h1 : DataW.Trod enc Try.prog W 0 (fun _ => true) true 5 v1 d1 p1) :
    Calls Try.prog 7 #[v0, v1] W fun e W' => e = .returned (.bool true) ∧ Below W.heap.size W W' := by
  obtain ⟨a1, c1, its, rfl, hlc, hcm, hIt⟩ := open_items o0 h0
  clear o0 h0
  obtain ⟨n1, hn1⟩ : ∃ n1, its.length = n1 := ⟨_, rfl⟩
  rw [hn1] at hlc ⊢
  unfold maxLen at hcm
  obtain ⟨zr, rfl, rfl, rfl, wz⟩ := open_int Try.underlying5 o1 h1
  obtain ⟨zr0, zr1⟩ := bounds_u8 wz
  clear wz h1 o1
  obtain ⟨m, rfl⟩ : ∃ m : Nat, zr = (m : Int) := ⟨zr.toNat, by omega⟩
  by_cases g1 : 30 < n1
  · have g1' : (30 : Int) < (n1 : Int) := by omega
    clear hIt hn1
    go_enter Try.func7, Try.ntmps7
    go_wp2_with fail
    refine (works_true _).mono ?_
    rintro e w9 ⟨rfl, hb9⟩
    go_wp2_with fail
    go_ret
    exact ⟨rfl, hb9⟩
  · have g1' : (n1 : Int) ≤ 30 := by omega
    have hok := rsI_ok hIt.1
    have hsz := sizeL_its hIt.1
    have hrl : (rsI its).length = n1 := by rw [rsI, List.length_map, hn1]
    rw [hn1] at hsz
    obtain ⟨hf1, hfm⟩ := back_facts hok m
    have c_by := bytes_any a1 n1 c1 its W hIt hn1 (by omega)
    obtain ⟨T, hT⟩ : ∃ T, T = sizeL (rsI its) := ⟨_, rfl⟩
    have hTl : (encL (rsI its)).length = T := by rw [hT]; rfl
    rw [← hT] at hsz hf1 hfm
    obtain ⟨M, hM⟩ : ∃ M, M = encL (rsI its) ++ List.replicate m 0 := ⟨_, rfl⟩
    rw [← hM] at hf1 hfm
    have hMl : M.length = T + m := by rw [hM, List.length_append, hTl, List.length_replicate]
    have hMb : BB M := by rw [hM]; exact BB.app (encL_bb _) (zeros_bb m)
    have hMm : M.map (Value.int .u8) = (encL (rsI its)).map (Value.int .u8) ++ List.replicate m (.int .u8 0) := by rw [hM, List.map_append, List.map_replicate]
    clear hM
    obtain ⟨L, hL⟩ : ∃ L, L = T + m := ⟨_, rfl⟩
    rw [← hL] at hMl
    have hL8 : L ≤ 8192 := by omega
    have hT10 : (T : Int) ≤ 10000 := by omega
    have hatn := atQ_at (rsI its) (n := n1) (k := n1) (Nat.le_refl _)
    rw [← hrl, List.take_length, ← hT, hrl] at hatn
    obtain ⟨R, hR⟩ : ∃ R, R = reasonF M (rsI its) T := ⟨_, rfl⟩
    obtain ⟨sb, hsb⟩ : ∃ sb, sb = sealB M (rsI its) T := ⟨_, rfl⟩
    rw [← hR, ← hsb] at hfm
    have HT := Lib.hid hT
    have HL := Lib.hid hL
    have HTl := Lib.hid hTl
    have hm255 : (m : Int) ≤ 255 := by omega
    have hm0 : (0 : Int) ≤ (m : Int) := by omega
    clear hT hL
    go_enter Try.func7, Try.ntmps7
    go_wp2_with fail
    refine c_by.mono ?_
    rintro e w1 ⟨⟨v1, v2, rfl, hI, oa⟩, hb1⟩
    have o1 : w1.ownsRow W.heap.size 5 1 v1 T ((encL (rsI its)).map (Value.int .u8)) := by rw [← hTl]; exact hI
    have k7 := hb1.size
    have hT1 : T ≤ 100000 := by omega
    have hm1 : m ≤ 100000 := by omega
    clear c_by hI hTl
    go_wp2_with (first
      | (at_builtin; refine wpList_append_zeros _ rfl (.tmp 20) (.tmp 22) rfl W.heap.size _ T m _ rfl rfl o1 hT1 hm1 k7 ?_; intro v5 w5 o5 hg5 hat5; have a5 := own_grown oa hg5 (fun k hk => own_types oa o1 (by decide) k hk); have hb5 := hb1.grown hg5 k7 (fun k hk => (World.ownsRow.lt o1 k hk).1); clear hg5 hat5 oa o1))
    have IB5 : IsB w5 W.heap.size v5 M := by unfold IsB; rw [hMl, hMm, HL.out]; exact o5
    obtain ⟨A1, d1, rfl, hBA⟩ := BA.of_own IB5 hMb
    rw [hMl] at hBA ⊢
    obtain ⟨A2, d2, rfl, hRI, hd2, hd2m⟩ := RI.of_own a5
    obtain ⟨b2, o2, hA2, hlt2, _⟩ := hRI.cell hatn
    subst hA2
    have cA := hRI.cellAt (Below.refl _ _) hatn
    have hsI := fun w => slice_toI (A := some ⟨b2, o2, none⟩) (len := n1 + 1) (cap := d2) (k := n1) (by omega) w
    have hd1m := hBA.2.2.2.2
    unfold maxLen at hd1m hd2m
    have hLd := hBA.2.2.2.1
    clear IB5 o5 a5 hatn
    have h10 : L ≤ 100000 := by omega
    have c_rc := fun (w : World) (hb : Below w5.heap.size w5 w) => recs_at a1 n1 c1 its w (hIt.later (b_then hb5 hb)) hn1 (by omega)
    have c_sc := fun (w : World) (hb : Below w5.heap.size w5 w) (A3 : Option Addr) (d3 : Nat) (h : IsRs w A3 (rsI its)) => scanned_true A1 L d1 M (some ⟨b2, o2, none⟩) n1 d2 A3 d3 w _ T (hBA.later hb) h10 hf1 (by rw [pairsF_length, hrl]) (by have h2 := (hRI.later hb).take_ n1; rw [atQ_take _ (Nat.le_refl _) hrl, ← hrl, List.take_length] at h2; exact h2) (by rw [pairsF_snd]; exact h)
    have c_en := fun (w : World) (hb : Below w5.heap.size w5 w) => end_any A1 L d1 M w _ T (hBA.later hb) h10 hf1
    have c_se := fun (w : World) (hb : Below w5.heap.size w5 w) => sealed_any A1 L d1 M w _ T (hBA.later hb) h10 hf1
    have c_re := fun (w : World) (hb : Below w5.heap.size w5 w) => reason_any A1 L d1 M w _ T (hBA.later hb) h10 hf1
    rw [pairsF_snd] at c_se c_re
    rw [← hR] at c_re
    have c_et := fun (w : World) (hb : Below w5.heap.size w5 w) => entries_yes A1 L d1 M 5 w _ T (hBA.later hb) (by omega) (by omega) hL8 hf1
    rw [pairsF_length, hrl] at c_et
    have HRC := Lib.hid c_rc
    have HSC := Lib.hid c_sc
    have HEN := Lib.hid c_en
    have HRE := Lib.hid c_re
    have HET := Lib.hid c_et
    have HRI := Lib.hid hRI
    have HIT := Lib.hid hIt
    have HRL := Lib.hid hrl
    have HN1 := Lib.hid hn1
    clear c_rc c_sc c_en c_re c_et hf1 hBA hRI hIt hok hrl hn1 hR hMl hMb hMm
    have i1 : (n1 : Int) < (n1 : Int) + 1 := by omega
    have i2 : n1 < n1 + 1 := by omega
    have i3 : (n1 : Int) < ((n1 + 1 : Nat) : Int) := by omega
    have i4 : (n1 : Int) ≤ (d2 : Int) := by omega
    have i5 : (0 : Int) ≤ (n1 : Int) := by omega
    go_upto_region 5 with fail
    have hS0 : ST w5 b2 (o2 + n1) T w5.drew := ⟨cA, Below.drew (Below.refl _ _)⟩
    go_cut [55] (fun s55 wx => s55 = .bool false ∧ Below w5.heap.size w5 wx)
    case first =>
      by_cases hm : 0 < m
      · obtain ⟨hsf, hrf⟩ := hfm hm
        rw [hsf] at hsb
        have r1 : (R == 0) = false := by rw [beq_eq_false_iff_ne]; exact hrf
        clear hrf hsf hfm
        have m1 : decide ((0 : Int) < (m : Int)) = true := by rw [decide_eq_true_iff]; omega
        have m2 : decide (0 < m) = true := by rw [decide_eq_true_iff]; omega
        have m3 : (0 : Int) < (m : Int) := by omega
        rw [← hsb] at c_se
        have HSE := Lib.hid c_se
        clear c_se hsb
        (go_region_held3 (fun w' => w'.cell? ⟨b2, o2 + n1, none⟩ = some (.int .i64 (T : Nat)) ∧ KT w5 w') (first | (with_reducible assumption) | (with_reducible exact hS0) | go_keep) (first
          | (go_at_call 18; (with_reducible refine (HRC.out _ (ST.bel (by assumption))).mono ?_); rintro e w2 ⟨⟨A3, d3, rfl, hRS⟩, hbk⟩; have hS2 := ST.after (by assumption) hlt2 hbk)
          | (go_at_call 17; (with_reducible refine (HSC.out _ (ST.bel (by assumption)) _ _ hRS).mono ?_); rintro e w3 ⟨rfl, hbk⟩; have hS3 := ST.after (by assumption) hlt2 hbk)
          | (go_at_call 26; (with_reducible refine (HEN.out _ (ST.bel (by assumption))).mono ?_); rintro e w4 ⟨rfl, hbk⟩; have hS4 := ST.after (by assumption) hlt2 hbk)
          | (go_at_call 27; (with_reducible refine (HSE.out _ (ST.bel (by assumption))).mono ?_); rintro e w6 ⟨rfl, hbk⟩; have hS5 := ST.after (by assumption) hlt2 hbk)
          | (go_at_call 28; (with_reducible refine (HRE.out _ (ST.bel (by assumption))).mono ?_); rintro e w7 ⟨rfl, hbk⟩; have hS6 := ST.after (by assumption) hlt2 hbk)))
        rename_i hEnd
        all_goals (go_wp2_with fail; go_meet; exact ⟨rfl, ST.bel (by assumption)⟩)
      · obtain rfl : m = 0 := by omega
        clear hfm c_se hsb
        have cS0 := hS0.1
        first
         | (go_region_with (first
          | (go_at_call 18; (with_reducible refine (HRC.out _ (ST.bel (by assumption))).mono ?_); rintro e w2 ⟨⟨A3, d3, rfl, hRS⟩, hbk⟩; have hS2 := ST.after (by assumption) hlt2 hbk; have cS2 := hS2.1)
          | (go_at_call 17; (with_reducible refine (HSC.out _ (ST.bel (by assumption)) _ _ hRS).mono ?_); rintro e w3 ⟨rfl, hbk⟩; have hS3 := ST.after (by assumption) hlt2 hbk; have cS3 := hS3.1)
          | (go_at_call 26; (with_reducible refine (HEN.out _ (ST.bel (by assumption))).mono ?_); rintro e w4 ⟨rfl, hbk⟩; have hS4 := ST.after (by assumption) hlt2 hbk; have cS4 := hS4.1)))
         | fail
        all_goals (go_wp2_with fail; go_meet; exact ⟨rfl, ST.bel (by assumption)⟩)
    case rest =>
      obtain ⟨rfl, hbE⟩ := hcut
      have hce := HET.out _ hbE
      clear HRC HSC HEN HRE HET cA hS0 hsI c_se hsb hfm
      try clear m1
      try clear m2
      try clear m3
      try clear r1
      go_wp2_with fail
      refine hce.mono ?_
      rintro e w6 ⟨⟨v6, rfl, o6⟩, hb6⟩
      obtain ⟨A6, d6, rfl, hR6, hd6, hd6m⟩ := RI.of_ownk o6
      unfold maxLen at hd6m
      have bel6 := b_then hbE hb6
      have belW := b_then hb5 bel6
      have HR6 := Lib.hid hR6
      clear hce o6 hb6 hR6 hbE
      go_wp2_with fail
      go_loopw [9] (fun i wr => ∃ q : Nat, q ≤ n1 ∧ i = .int .i64 q ∧ Below w6.heap.size w6 wr) (fun i _ => n1 - (intOf i).toNat)
      case atStart => exact ⟨0, Nat.zero_le _, rfl, Below.refl _ _⟩
      case round =>
        obtain ⟨q, hq, rfl, hB⟩ := hrel
        by_cases hlt : q < n1
        · obtain ⟨t, hx⟩ : ∃ t, its[q]? = some t := ⟨_, List.getElem?_eq_getElem (by have := HN1.out; omega)⟩
          have hIn := HIT.out.1 t (List.mem_of_getElem? hx)
          have hr := fun w => itrec_any t hIn w
          have hrx : (rsI its)[q]? = some t.r := by rw [rsI, List.getElem?_map, hx]; rfl
          have hpx := pairsF_at (rsI its) 0 q _ hrx
          have hss := sizeL_take_succ hrx
          have hsm := sizeL_mono (rsI its) (i := q + 1) (k := n1) (by omega)
          rw [show (rsI its).take n1 = rsI its by rw [← HRL.out, List.take_length], ← HT.out] at hsm
          have q1 := atQ_at (rsI its) (n := n1) (k := q) (by omega)
          have q2 := atQ_at (rsI its) (n := n1) (k := q + 1) (by omega)
          obtain ⟨S1, hS1⟩ : ∃ S1, S1 = sizeL ((rsI its).take q) := ⟨_, rfl⟩
          obtain ⟨S2, hS2⟩ : ∃ S2, S2 = sizeL ((rsI its).take (q + 1)) := ⟨_, rfl⟩
          rw [← hS1] at hpx hss q1
          rw [← hS2] at hss q2 hsm
          rw [Nat.zero_add] at hpx
          clear hS1 hS2 hrx
          have hkd : (t.r.kind == 2) = t.del := by
            obtain ⟨del, key, val, seq⟩ := t
            cases del <;> rfl
          obtain ⟨b, off, hA, hltb, k0, k1, k2, k3⟩ := HIT.out.at_ hx
          have hbw := b_then belW hB
          have h6n : flatE 5 (pairsF 0 (rsI its)) ≠ [] := by
            intro h
            have := flatE_at 5 _ q _ hpx 0 _ rfl
            rw [h] at this
            simp at this
          obtain ⟨rr, hrr⟩ : ∃ rr, rr = t.r := ⟨_, rfl⟩
          rw [← hrr] at hr hpx hss hkd
          obtain ⟨N, hN⟩ : ∃ N, N = rr.size := ⟨_, rfl⟩
          obtain ⟨b6, o6, hA6, _⟩ := id (HR6.out.resolve_left h6n)
          obtain ⟨kind, sq, ky, vl⟩ := rr
          obtain ⟨del, key, val, seq⟩ := t
          subst hA hA6
          have hr : ∀ w : World, Calls Try.prog 29 #[.agg #[.bool del, .int .u8 key, .int .u8 val, .int .u16 seq]] w fun e w' => e = .returned (.agg #[.int .i64 kind, .int .i64 sq, .string ky, .string vl]) ∧ Below w.heap.size w w' := hr
          have p0 : wr.cell? ⟨b, off + q * 4, none⟩ = some (.bool del) := (hbw.cell (p := ⟨b, off + q * 4, none⟩) hltb).trans k0
          have p1 : wr.cell? ⟨b, off + q * 4 + 1, none⟩ = some (.int .u8 key) := (hbw.cell (p := ⟨b, off + q * 4 + 1, none⟩) hltb).trans k1
          have p2 : wr.cell? ⟨b, off + q * 4 + 2, none⟩ = some (.int .u8 val) := (hbw.cell (p := ⟨b, off + q * 4 + 2, none⟩) hltb).trans k2
          have p3 : wr.cell? ⟨b, off + q * 4 + 3, none⟩ = some (.int .u16 seq) := (hbw.cell (p := ⟨b, off + q * 4 + 3, none⟩) hltb).trans k3
          have hsub : (S2 : Int) - (S1 : Int) = (N : Int) := by rw [hN]; omega
          have hS2b : (S2 : Int) ≤ 10000 := by omega
          have hS12 : (S1 : Int) ≤ (S2 : Int) := by omega
          have z1 : (q : Int) < (n1 : Int) := by omega
          have z2 : (0 : Int) ≤ (q : Int) := by omega
          have z3 : (q : Int) ≤ 100 := by omega
          have z4 : (q : Int) < (n1 : Int) + 1 := by omega
          obtain ⟨p, hp⟩ : ∃ p, p = q + 1 := ⟨_, rfl⟩
          have hqp : (q : Int) + 1 = (p : Int) := by omega
          have z5 : (p : Int) < ((n1 + 1 : Nat) : Int) := by omega
          have z6 : (0 : Int) ≤ (p : Int) := by omega
          have z7 : (p : Int) < (n1 : Int) + 1 := by omega
          have z9 : p < n1 + 1 := by omega
          have z8 : IntKind.i64.wrap (p : Int) = (p : Int) := by rw [IntKind.wrap_i64]; omega
          rw [← hp] at q2
          have HP := Lib.hid hp
          have HK0 := Lib.hid k0
          have HN := Lib.hid hN
          have HKD := Lib.hid hkd
          have HPX := Lib.hid hpx
          clear hp k0 k1 k2 k3 hrr hx hIn hss hsm hN hkd hpx h6n
          go_wp2_with fail
          refine (hr _).mono ?_
          rintro e w7 ⟨rfl, hb7⟩
          have y1 := Blk.new w7 34 #[.int .i64 kind, .int .i64 sq, .string ky, .string vl]
          have j6 := b_alloc (b_then hB hb7) (.cells #[.int .i64 kind, .int .i64 sq, .string ky, .string vl] 34)
          have j5 := b_then bel6 j6
          have jW := b_then hb5 j5
          obtain ⟨e0, e1, e2, e3, e4, e5⟩ := HR6.out.ent HPX.out j6
          replace e0 : _ = some (Value.int .i64 sq) := e0
          replace e1 : _ = some (Value.string ky) := e1
          replace e2 : _ = some (Value.bool (kind == 2)) := e2
          replace e4 : _ = some (Value.int .i64 (S1 : Nat)) := e4
          replace e5 : _ = some (Value.int .i64 (Rc.size ⟨kind, sq, ky, vl⟩ : Nat)) := e5
          rw [← HN.out] at e5
          have hkd : (kind == 2) = del := HKD.out
          rw [hkd] at e2
          have g1 := HRI.out.cellAt j5 q1
          have g2 := HRI.out.cellAt j5 q2
          have g3 := (jW.cell (p := ⟨b, off + q * 4, none⟩) hltb).trans HK0.out
          replace g3 : (w7.alloc (.cells #[.int .i64 kind, .int .i64 sq, .string ky, .string vl] 34)).cell? ⟨b, off + q * 4, none⟩ = some (.bool del) := g3
          have y0 := y1.cell
          clear hkd y1 p0 p1 p2 p3 hr HK0 HKD HPX HN j5 jW q1 q2 hb7
          go_wp2_with fail
          go_quiet (fail)
          go_wp2_with fail
          go_roundw
          case rel => exact ⟨p, by have := HP.out; omega, by first | rfl | go_num, (by repeat first | exact j6 | apply Below.drew | apply below_drewN)⟩
          case measure => have := HP.out; simp [intOf]; omega
        · obtain rfl : n1 = q := by omega
          have hbw := b_then belW hB
          go_wp2_with fail
          refine (works_true _).mono ?_
          rintro e w9 ⟨rfl, hb9⟩
          go_wp2_with fail
          go_ret
          exact ⟨rfl, b_then hbw hb9⟩

set_option maxRecDepth 100000 in
theorem lifted (os : Os) (started : os.Started) (H : Type) (enc : TypeId × Value → H) :
    ReturnsInHanded {} Try.checked os 7 .any (Rows.scannerBackSpec.pre6 enc Try.prog Try.f7 Rows.scannerBackRow.domain false) (Rows.scannerBackSpec.post enc Try.prog Try.f7 false true false false) := by
  refine returnsInHanded_of_change (C := Try.checked) own started (by kernel_rfl) Try.func7
    (ChangeSpec.witness6 (enc := enc) (C := Try.checked) false ⟨#[], #[.slice none 0 0, .int .u8 0], []⟩ 8 (by kernel_rfl) (by kernel_rfl) (by kernel_rfl) (by kernel_rfl)) ?_
  intro W base args ds gs before hval0 hW hcnd _
  have hval : ∀ (j : Nat) t v, Try.f7.params[j]? = some t → args[j]? = some v → Value.okWide Try.prog W .any base t v := hval0
  have hW' := hW
  obtain ⟨p, q, hA0, hV, rfl, hfz, hnd⟩ := hW
  have hA : DataW.TrodAll enc Try.prog W 0 (fun _ => true) true Try.f7.params.toList args.toList ds p := hA0
  rw [Try.params7] at hA hval
  obtain ⟨v0, vs0, d0, ds0, p0, q0, hargs, rfl, rfl, h0, r0⟩ := trodAll_cons hA
  obtain ⟨v1, vs1, d1, ds1, p1, q1, rfl, rfl, rfl, h1, r1⟩ := trodAll_cons r0
  obtain ⟨rfl, rfl, rfl⟩ := trodAll_nil r1
  obtain rfl : args = #[v0, v1] := by cases args; simp_all
  obtain ⟨rfl, rfl⟩ := trodVars_none hV
  refine (walk (H := H) (enc := enc) W base (hval 0 22 v0 rfl rfl) h0 (hval 1 5 v1 rfl rfl) h1).mono fun e W' ⟨he, bel⟩ => ?_
  subst he
  exact ⟨_, rfl, _, _, _, [], _, [], hW', trodAll_mk1 (shut_bool Try.underlying4 _), (trodAll_cons_mk (Below.trod laidOut (by kernel_rfl) (of_decide_eq_true (by kernel_rfl)) h0 bel (lt_of_Trod h0)) (trodAll_cons_mk (Below.trod laidOut (by kernel_rfl) (of_decide_eq_true (by kernel_rfl)) h1 bel (lt_of_Trod h1)) trodAll_mk0)), rfl, bel.frame _, fun h => by cases h⟩

/-- ScannerBack: for every slice of items and every number of zeros the law returns true and changes nothing. No condition. -/
theorem proved : Rows.ScannerBackSaid :=
  OpenClaim.holds_of_wide 7 Try.f7 rfl rfl rfl rfl rfl rfl rfl ⟨rfl, rfl, rfl, rfl, rfl⟩ rfl rfl rfl rfl rfl (by kernel_rfl) Try.func7 (by kernel_rfl)
    (of_decide_eq_true (by kernel_rfl)) (by unfold Func.isWrapper; first | (rw [if_pos (by decide +kernel)]; kernel_rfl) | (rw [if_neg (by decide +kernel)]; exact ⟨rfl, rfl⟩))
    (fun os started H enc _ => lifted os started H enc)
#print axioms proved
end Go.Proofs.Ytjcdflohkajbcaa.scannerBack
