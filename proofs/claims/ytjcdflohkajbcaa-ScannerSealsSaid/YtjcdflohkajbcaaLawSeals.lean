/-
  ScannerSeals: for every slice of items and every three numbers the law returns true and changes nothing. No condition.
-/
import Derived.Test.YtjcdflohkajbcaaOpen
import Derived.Test.YtjcdflohkajbcaaSlj
namespace Go.Proofs.Ytjcdflohkajbcaa.scannerSeals
open Go.ChangeShapes Go.WideShapes Go.ChangeAt Go.RowKit
open Go.ChangeMaps (open_string shut_string)
set_option linter.unusedVariables false

theorem recs_at (A : Option Addr) (n cap : Nat) (its : List It) (w : World) (h : IsIt w A its) (hn : its.length = n) (hn2 : n ≤ 1000) :
    Calls Try.prog 18 #[.slice A n cap] w fun e w' => (∃ A' c', e = .returned (.slice A' n c') ∧ IsRs w' A' (rsI its)) ∧ Below w.heap.size w w' := by
  refine (recs_any A n cap its w h hn hn2).mono ?_
  rintro e w' ⟨⟨v, rfl, ho⟩, hb⟩
  have hl : (rsI its).length = n := by rw [rsI, List.length_map, hn]
  obtain ⟨A', c', rfl, hR, _⟩ := IsRs.of_own (rs := rsI its) (by rw [hl]; exact ho) (rsI_sz h.1)
  rw [hl]
  exact ⟨⟨A', c', rfl, hR⟩, hb⟩
theorem bytes_at (A : Option Addr) (n cap : Nat) (its : List It) (w : World) (h : IsIt w A its) (hn : its.length = n) (hn2 : n ≤ 100) :
    Calls Try.prog 12 #[.slice A n cap] w fun e w' => (∃ v1 A2 b2 o2 c2, e = .returned (.tuple #[v1, .slice A2 (n + 1) c2]) ∧ A2 = some ⟨b2, o2, none⟩ ∧ w'.ownsRow w.heap.size 5 1 v1 (sizeL (rsI its)) ((encL (rsI its)).map (Value.int .u8)) ∧ RI w' A2 (atQ (rsI its) n) ∧ n + 1 ≤ c2 ∧ c2 ≤ maxLen ∧ b2 < w'.heap.size) ∧ Below w.heap.size w w' := by
  refine (bytes_any A n cap its w h hn hn2).mono ?_
  rintro e w' ⟨⟨v1, v2, rfl, hI, oa⟩, hb⟩
  obtain ⟨A2, c2, rfl, hRI, h1, h2⟩ := RI.of_own oa
  obtain ⟨b2, o2, e2, hlt, _⟩ := hRI.cell (atQ_at (rsI its) (n := n) (k := 0) (by omega))
  exact ⟨⟨v1, A2, b2, o2, c2, rfl, e2, hI, hRI, h1, h2, hlt⟩, hb⟩

def KT (w1 w' : World) : Prop := Below w1.heap.size w1 w'
abbrev ST (w1 : World) (b o S : Nat) (w' : World) : Prop := w'.cell? ⟨b, o, none⟩ = some (.int .i64 (S : Nat)) ∧ KT w1 w'
theorem ST.bel {w1 : World} {b o S : Nat} {w' : World} (h : ST w1 b o S w') : Below w1.heap.size w1 w' := h.2
theorem ST.after {w1 : World} {b o S : Nat} {w w' : World} (h : ST w1 b o S w) (hb : b < w1.heap.size) (hk : Below w.heap.size w w') : ST w1 b o S w' :=
  ⟨(hk.cell (p := ⟨b, o, none⟩) (Nat.lt_of_lt_of_le hb (show Below w1.heap.size w1 w from h.2).size)).trans h.1, b_then h.2 hk⟩

set_option maxHeartbeats 6400000 in
set_option maxRecDepth 100000 in
theorem walk {H : Type} {enc : TypeId × Value → H} (W : World) (base : Nat) {v0 v1 v2 v3 : Value} {d0 d1 d2 d3 : DataW H} {p0 p1 p2 p3 : List MemPlace} (o0 : Value.okWide Try.prog W .any base 22 v0) (h0 : DataW.Trod enc Try.prog W 0 (fun _ => true) true 22 v0 d0 p0) (o1 : Value.okWide Try.prog W .any base 5 v1) (h1 : DataW.Trod enc Try.prog W 0 (fun _ => true) true 5 v1 d1 p1) (o2 : Value.okWide Try.prog W .any base 5 v2) (h2 : DataW.Trod enc Try.prog W 0 (fun _ => true) true 5 v2 d2 p2) (o3 : Value.okWide Try.prog W .any base 23 v3) (h3 : DataW.Trod enc Try.prog W 0 (fun _ => true) true 23 v3 d3 p3) :
    Calls Try.prog 10 #[v0, v1, v2, v3] W fun e W' => e = .returned (.bool true) ∧ Below W.heap.size W W' := by
  obtain ⟨a1, c1, its, rfl, hlc, hcm, hIt⟩ := open_items o0 h0
  clear o0 h0
  obtain ⟨n1, hn1⟩ : ∃ n1, its.length = n1 := ⟨_, rfl⟩
  rw [hn1] at hlc ⊢
  unfold maxLen at hcm
  obtain ⟨mo, rfl, rfl, rfl, wm⟩ := open_int Try.underlying5 o1 h1
  obtain ⟨mo0, mo1⟩ := bounds_u8 wm
  obtain ⟨cz, rfl, rfl, rfl, wc⟩ := open_int Try.underlying5 o2 h2
  obtain ⟨cz0, cz1⟩ := bounds_u8 wc
  obtain ⟨la, rfl, rfl, rfl, wl⟩ := open_int Try.underlying23 o3 h3
  obtain ⟨la0, la1⟩ := bounds_u16 wl
  clear wm h1 o1 wc h2 o2 wl h3 o3
  by_cases g1 : 30 < n1
  · have g1' : (30 : Int) < (n1 : Int) := by omega
    clear hIt hn1
    go_enter Try.func10, Try.ntmps10
    go_wp2_with fail
    refine (works_true _).mono ?_
    rintro e w9 ⟨rfl, hb9⟩
    go_wp2_with fail
    go_ret
    exact ⟨rfl, hb9⟩
  · have g1' : (n1 : Int) ≤ 30 := by omega
    have hok := rsI_ok hIt.1
    have hsz := sizeL_its hIt.1
    have hrl : (rsI its).length = n1 := by rw [rsI, List.length_map, hn1]
    rw [hn1] at hsz
    have c_by := bytes_at a1 n1 c1 its W hIt hn1 (by omega)
    obtain ⟨T, hT⟩ : ∃ T, T = sizeL (rsI its) := ⟨_, rfl⟩
    rw [← hT] at c_by hsz
    have hTl : (encL (rsI its)).length = T := by rw [hT]; rfl
    obtain ⟨hf, ho⟩ := ofF_ok (allOk_of hok) (by rw [hrl]; omega)
    have hsy := seal_yes hok (by rw [hrl]; omega)
    have hsc := scan_foot0 hok hf
    obtain ⟨ht1, ht2, ht3⟩ := foot_torn hok (rsI its).length (lastF (rsI its))
    obtain ⟨G, hG⟩ : ∃ G, G = lastF (rsI its) := ⟨_, rfl⟩
    have hatn := atQ_at (rsI its) (n := n1) (k := n1) (Nat.le_refl _)
    rw [← hrl, List.take_length, ← hT, hrl] at hatn
    rw [hrl, ← hG] at hf hsy hsc ht1 ht2 ht3
    rw [← hT] at hsy hsc ht1 ht2 ht3
    have hry := reason_yes hsy
    obtain ⟨E, hE⟩ : ∃ E, E = encL (rsI its) := ⟨_, rfl⟩
    obtain ⟨Fo, hFo⟩ : ∃ Fo, Fo = fenc n1 G := ⟨_, rfl⟩
    rw [← hE, ← hFo] at hsy hsc ht1 ht2 ht3 hry
    have hf' := hf
    have hF16 : Fo.length = 16 := by rw [hFo]; exact fenc_length _ _
    obtain ⟨La, hLa⟩ : ∃ La, La = T + 16 := ⟨_, rfl⟩
    obtain ⟨Lt, hLt⟩ : ∃ Lt, Lt = T + 15 := ⟨_, rfl⟩
    rw [← hLt] at ht1 ht2 ht3
    have HT := Lib.hid hT
    have HG := Lib.hid hG
    have HE := Lib.hid hE
    have HFo := Lib.hid hFo
    clear hT hG hE hFo ho
    go_enter Try.func10, Try.ntmps10
    go_wp2_with fail
    refine c_by.mono ?_
    rintro e w1 ⟨⟨v1, A2, b2, o2, d2, rfl, hA2, hI, hRI, hd2, hd2m, hlt2⟩, hb1⟩
    subst hA2
    obtain ⟨A1, d1, rfl, hBA⟩ := BA.of_own (v := v1) (M := encL (rsI its)) (by unfold IsB; rw [hTl]; exact hI) (encL_bb _)
    rw [hTl] at hBA ⊢
    have hTd := hBA.2.2.2.1
    have hd1m := hBA.2.2.2.2
    unfold maxLen at hd1m hd2m
    clear c_by hI
    rw [← HE.out] at hBA
    obtain ⟨_, hc⟩ : ∃ x : Unit, ∀ w : World, Below w1.heap.size w1 w → w.cell? ⟨b2, o2 + n1, none⟩ = some (.int .i64 (T : Nat)) := ⟨(), fun w hb => by
      obtain ⟨b, o, e1, _, h⟩ := (hRI.later hb).cell hatn
      injection e1 with e1
      injection e1 with e1 e2
      subst e1 e2
      exact h⟩
    have HC := Lib.hid hc
    have HIT := Lib.hid hIt
    have HN1 := Lib.hid hn1
    have HB1 := Lib.hid hb1
    have HRL := Lib.hid hrl
    clear hc hatn hn1 hb1 hrl
    go_wp2_with fail
    go_loopw [11, 12] (fun g i wr => ∃ q : Nat, q ≤ n1 ∧ i = .int .i64 q ∧ g = .int .i64 (lastF ((rsI its).take q)) ∧ Below w1.heap.size w1 wr) (fun _ i _ => n1 - (intOf i).toNat)
    case atStart => exact ⟨0, Nat.zero_le _, rfl, rfl, Below.refl _ _⟩
    case round =>
      obtain ⟨q, hq, rfl, rfl, hB⟩ := hrel
      by_cases hlt : q < n1
      · obtain ⟨t, hx⟩ : ∃ t, its[q]? = some t := ⟨_, List.getElem?_eq_getElem (by have := HN1.out; omega)⟩
        have hIn := HIT.out.1 t (List.mem_of_getElem? hx)
        have hr := fun w => itrec_any t hIn w
        have hmx0 : lastF ((rsI its).take (q + 1)) = max (lastF ((rsI its).take q)) t.r.seq := by
          rw [List.take_add_one, show (rsI its)[q]? = some t.r by rw [rsI, List.getElem?_map, hx]; rfl]
          exact lastF_snoc _ _
        obtain ⟨b, off, rfl, _, k0, k1, k2, k3⟩ := (HIT.out.later (b_then HB1.out hB)).at_ hx
        obtain ⟨rr, hrr⟩ : ∃ rr, rr = t.r := ⟨_, rfl⟩
        rw [← hrr] at hr hmx0
        obtain ⟨kind, sq, ky, vl⟩ := rr
        obtain ⟨del, key, val, seq⟩ := t
        have hr : ∀ w : World, Calls Try.prog 29 #[.agg #[.bool del, .int .u8 key, .int .u8 val, .int .u16 seq]] w fun e w' => e = .returned (.agg #[.int .i64 kind, .int .i64 sq, .string ky, .string vl]) ∧ Below w.heap.size w w' := hr
        have k0 : wr.cell? ⟨b, off + q * 4, none⟩ = some (.bool del) := k0
        have k1 : wr.cell? ⟨b, off + q * 4 + 1, none⟩ = some (.int .u8 key) := k1
        have k2 : wr.cell? ⟨b, off + q * 4 + 2, none⟩ = some (.int .u8 val) := k2
        have k3 : wr.cell? ⟨b, off + q * 4 + 3, none⟩ = some (.int .u16 seq) := k3
        obtain ⟨G0, hG0⟩ : ∃ G0, G0 = lastF ((rsI its).take q) := ⟨_, rfl⟩
        rw [← hG0] at hmx0 ⊢
        have hmx0 : lastF ((rsI its).take (q + 1)) = max G0 sq := hmx0
        obtain ⟨G1, hG1⟩ : ∃ G1, G1 = max G0 sq := ⟨_, rfl⟩
        have hmx : ∀ (ts : Array TypeId) (t : TypeId) (w : World), (Builtin.max_ ts t #[.int .i64 G0, .int .i64 sq]).run Try.prog w = .ok (.int .i64 G1) w := by
          intro ts t w
          rw [run_max_int2, show (if sq > G0 then sq else G0) = G1 from by rw [hG1]; split <;> omega]
        have HM := Lib.hid (hmx0.trans hG1.symm)
        have z1 : (q : Int) < (n1 : Int) := by omega
        have z2 : (0 : Int) ≤ (q : Int) := by omega
        have z3 : (q : Int) ≤ 100 := by omega
        have hfd : ∀ w : World, (Instr.field 34 (.agg #[.int .i64 kind, .int .i64 sq, .string ky, .string vl]) 1).run Try.prog w = .ok (.int .i64 sq) w := fun w => by kernel_rfl
        clear hrr hx hIn hG0 hmx0 hG1 hsy hsc ht1 ht2 ht3 hry hok hf hf'
        go_wp2_with fail
        refine (hr _).mono ?_
        rintro e w2 ⟨rfl, hb2⟩
        have hB2 := b_then hB hb2
        clear k0 k1 k2 k3 hr hB hb2
        go_wp2_with fail
        go_roundw
        case rel => exact ⟨q + 1, by omega, by go_num, by rw [HM.out], hB2⟩
        case measure => simp [intOf]; omega
      · obtain rfl : n1 = q := by omega
        rw [List.take_of_length_le (by rw [HRL.out]; exact Nat.le_refl _), ← HG.out]
        have cA := HC.out _ hB
        have hBAr := hBA.later hB
        have hRIr := hRI.later hB
        have hbWr := b_then HB1.out hB
        have hItr := HIT.out.later hbWr
        have hltr := Nat.lt_of_lt_of_le hlt2 hB.size
        have z4 : (n1 : Int) < (n1 : Int) + 1 := by omega
        have z5 : n1 < n1 + 1 := by omega
        have z6 : (n1 : Int) < ((n1 + 1 : Nat) : Int) := by omega
        clear hBA hRI hB hlt2 HC HIT HB1
        go_wp2_with fail
        refine (sealing_ba hf _).mono ?_
        rintro e w2 ⟨⟨g5, c5, rfl, hF⟩, hb2⟩
        rw [← HFo.out] at hF
        have hF16d := hF.2.2.2
        unfold maxLen at hF16d
        have hBA2 := hBAr.later hb2
        clear cA
        go_wp2_with fail
        refine (joined2 La _ hBA2 hF (by omega) (by omega)).mono ?_
        rintro e w3 ⟨⟨Aa, ca, rfl, hAll⟩, hb3⟩
        have hbr3 := b_then hb2 hb3
        have hBA3 := hBA2.later hb3
        have hF3 := hF.later hb3
        have hRI3 := hRIr.later hbr3
        have hbW3 := b_then hbWr hbr3
        have hIt3 := hItr.later hbr3
        have hlt3 := Nat.lt_of_lt_of_le hltr hbr3.size
        have hca := hAll.2.2.2
        unfold maxLen at hca
        have hca1 := hca.1
        have hca2 := hca.2
        clear hBAr hRIr hItr hltr hbWr hb2 hBA2 hF hb3 hbr3 hca
        have c_s1 := fun (w : World) (hb : Below w3.heap.size w3 w) => says_true Aa La ca (E ++ Fo) w _ T true 0 (hAll.later hb) (by omega) hsc (by rw [pairsF_snd]; exact hsy) (by rw [pairsF_snd]; exact hry)
        have c_rc := fun (w : World) (hb : Below w3.heap.size w3 w) => recs_at a1 n1 c1 its w (hIt3.later hb) HN1.out (by omega)
        have c_sc := fun (w : World) (hb : Below w3.heap.size w3 w) (A3 : Option Addr) (d3 : Nat) (h : IsRs w A3 (rsI its)) => scanned_true Aa La ca (E ++ Fo) (some ⟨b2, o2, none⟩) n1 d2 A3 d3 w _ T (hAll.later hb) (by omega) hsc (by rw [pairsF_length, HRL.out]) (by have h2 := (hRI3.later hb).take_ n1; rw [atQ_take _ (Nat.le_refl _) HRL.out, List.take_of_length_le (by rw [HRL.out]; exact Nat.le_refl _)] at h2; exact h2) (by rw [pairsF_snd]; exact h)
        have c_s2 := fun (w : World) (hb : Below w3.heap.size w3 w) => says_true Aa Lt ca ((E ++ Fo).take Lt) w _ T false 14 ((hAll.take_ Lt (by omega)).later hb) (by omega) ht1 (by rw [pairsF_snd]; exact ht2) (by rw [pairsF_snd]; exact ht3)
        have c_jb := fun (w : World) (hb : Below w3.heap.size w3 w) => joined_byte (La + 1) mo w (hAll.later hb) mo0 mo1 rfl (by omega)
        have c_sb := fun (A : Option Addr) (c : Nat) (w : World) (h : BA w A (La + 1) c (E ++ Fo ++ [mo])) => sealed_is A (La + 1) c (E ++ Fo ++ [mo]) w (rsI its) false h (by omega) (by rw [HE.out, HFo.out, List.append_assoc]; exact scan_foot hok hf' [mo]) (by rw [HE.out, HFo.out, List.append_assoc]; exact seal_more (by simp))
        have HS1 := Lib.hid c_s1
        have HRC := Lib.hid c_rc
        have HSC := Lib.hid c_sc
        have HS2 := Lib.hid c_s2
        have HJB := Lib.hid c_jb
        have HSB := Lib.hid c_sb
        have HBA := Lib.hid hBA3
        have HF := Lib.hid hF3
        have HALL := Lib.hid hAll
        have HBW := Lib.hid hbW3
        have HSZ := Lib.hid hsz
        have HOK := Lib.hid hok
        have HFK := Lib.hid hf'
        have y1 : (La : Int) - 1 = (Lt : Int) := by omega
        have y2 : IntKind.i64.wrap (Lt : Int) = (Lt : Int) := by rw [IntKind.wrap_i64]; omega
        have hs8 := fun w => slice_to8 (A := Aa) (len := La) (cap := ca) (k := Lt) (by omega) w
        have hsI := fun w => slice_toI (A := some ⟨b2, o2, none⟩) (len := n1 + 1) (cap := d2) (k := n1) (by omega) w
        have HLA := Lib.hid hLa
        have hS0 : KWs w3 w3.drew := Below.drew (Below.refl _ _)
        clear c_s1 c_rc c_sc c_s2 c_jb c_sb hBA3 hF3 hAll hbW3 hRI3 hIt3 hsz hok hf hf' hsy hsc ht1 ht2 ht3 hry hTl hF16 hLa hLt z4 z5 z6
        go_upto_region 14 with fail
        go_cut [90] (fun s90 wx => s90 = .bool false ∧ Below w3.heap.size w3 wx)
        case first =>
          go_region_held3 (fun w' => KWs w3 w') (first | (with_reducible assumption) | (with_reducible exact hS0) | exact b_then (KWs.bel (by assumption)) (b_alloc (Below.refl _ _) _)) (first
            | (go_at_call 18; (with_reducible refine (HRC.out _ (KWs.bel (by assumption))).mono ?_); rintro e w4 ⟨⟨A3, d3, rfl, hRS⟩, hbk⟩; have hS4 := KWs.after (by assumption) hbk)
            | (go_at_call 17; (with_reducible refine (HSC.out _ (KWs.bel (by assumption)) _ _ hRS).mono ?_); rintro e w5 ⟨rfl, hbk⟩; have hS5 := KWs.after (by assumption) hbk)
            | (go_at_call 19; (with_reducible refine (HS1.out _ (KWs.bel (by assumption))).mono ?_); rintro e w6 ⟨rfl, hbk⟩; have hS6 := KWs.after (by assumption) hbk)
            | (go_at_call 19; (with_reducible refine (HS2.out _ (KWs.bel (by assumption))).mono ?_); rintro e w7 ⟨rfl, hbk⟩; have hS7 := KWs.after (by assumption) hbk)
            | (go_at_call 16; (refine (HJB.out w7 (KWs.bel hS7)).mono ?_); rintro e w8 ⟨⟨A8, c8, rfl, hJ8⟩, hbk⟩; have hS8 := KWs.after hS7 hbk)
            | (go_at_call 27; (with_reducible refine (HSB.out _ _ _ hJ8).mono ?_); rintro e w9 ⟨rfl, hbk⟩; have hS9 := KWs.after (by assumption) hbk))
          all_goals (rename_i hEnd; go_wp2_with fail; go_meet; exact ⟨rfl, KWs.bel (by assumption)⟩)
        case rest =>
          obtain ⟨rfl, hbc⟩ := hcut
          have hBAc := HBA.out.later hbc
          have hFc := HF.out.later hbc
          have hAc := HALL.out.later hbc
          have hbWc := b_then HBW.out hbc
          clear HBA HF HALL HBW hbc HS1 HRC HSC HS2 HJB HSB hs8 hsI y1 y2 hS0
          have u1 : IntKind.i64.wrap cz = cz := by rw [IntKind.wrap_i64]; omega
          have u2 : IntKind.i64.wrap la = la := by rw [IntKind.wrap_i64]; omega
          go_wp2_with fail
          refine (sealing_u cz la _).mono ?_
          rintro e wA ⟨⟨Ao, no, co, Mo, rfl, hO, hno, hOr⟩, hbA⟩
          have hBAd := hBAc.later hbA
          have hFd := hFc.later hbA
          have hAd := hAc.later hbA
          have hbWd := b_then hbWc hbA
          have hjo := fun w hb => joined2 (T + no) w (hBAd.later hb) (hO.later hb) rfl (by have := HSZ.out; omega)
          have hso : (cz ≠ (n1 : Int) ∨ la ≠ G) → Scanned (E ++ Mo) (pairsF 0 (rsI its)) T ∧ sealB (E ++ Mo) (rsI its) T = false := by
            intro hne
            rw [HE.out, HT.out]
            rcases hOr with ⟨hfo, rfl⟩ | rfl
            · exact ⟨scan_foot0 HOK.out hfo, seal_other HOK.out (by rw [HRL.out]; omega) hfo (by rw [HRL.out, ← HG.out]; exact hne)⟩
            · rw [List.append_nil]
              exact ⟨scan_none HOK.out, seal_bare _⟩
          have HBA := Lib.hid hBAd
          have HF := Lib.hid hFd
          have HALL := Lib.hid hAd
          have HBW := Lib.hid hbWd
          have HJO := Lib.hid hjo
          have HSO := Lib.hid hso
          clear hBAc hFc hAc hbWc hBAd hFd hAd hbWd hO hOr hjo hso hbA
          go_upto_region 17 with fail
          go_cut [113] from 96 to 113 (fun s113 wx => s113 = .bool false ∧ Below wA.heap.size wA wx)
          case first =>
            by_cases h1 : cz = (n1 : Int)
            · subst h1
              by_cases h2 : la = G
              · subst h2
                go_wp2_with fail
                go_meet
                exact ⟨rfl, Below.refl _ _⟩
              · have n2 : (n1 : Int) ≠ (n1 : Int) ∨ la ≠ G := .inr h2
                obtain ⟨hs1, hs2⟩ := HSO.out (n2)
                have c_sl := fun (A : Option Addr) (c : Nat) (w : World) (h : BA w A (T + no) c (E ++ Mo)) => sealed_is A (T + no) c (E ++ Mo) w (rsI its) false h (by have := HSZ.out; omega) (by rw [← HT.out]; exact hs1) (by rw [← HT.out]; exact hs2)
                have HSL := Lib.hid c_sl
                clear hs1 hs2 c_sl
                go_wp2_with fail
                refine (HJO.out wA (Below.refl _ _)).mono ?_
                rintro e wJ ⟨⟨AJ, dJ, rfl, hJ⟩, hbJ⟩
                go_wp2_with fail
                refine (HSL.out _ _ _ hJ).mono ?_
                rintro e wK ⟨rfl, hbK⟩
                have hbJK := b_then hbJ hbK
                clear hJ hbJ hbK HSL
                go_wp2_with fail
                go_meet
                exact ⟨rfl, hbJK⟩
            · have n2 : cz ≠ (n1 : Int) ∨ la ≠ G := .inl h1
              obtain ⟨hs1, hs2⟩ := HSO.out (n2)
              have c_sl := fun (A : Option Addr) (c : Nat) (w : World) (h : BA w A (T + no) c (E ++ Mo)) => sealed_is A (T + no) c (E ++ Mo) w (rsI its) false h (by have := HSZ.out; omega) (by rw [← HT.out]; exact hs1) (by rw [← HT.out]; exact hs2)
              have HSL := Lib.hid c_sl
              clear hs1 hs2 c_sl
              go_wp2_with fail
              refine (HJO.out wA (Below.refl _ _)).mono ?_
              rintro e wJ ⟨⟨AJ, dJ, rfl, hJ⟩, hbJ⟩
              go_wp2_with fail
              refine (HSL.out _ _ _ hJ).mono ?_
              rintro e wK ⟨rfl, hbK⟩
              have hbJK := b_then hbJ hbK
              clear hJ hbJ hbK HSL
              go_wp2_with fail
              go_meet
              exact ⟨rfl, hbJK⟩
          case rest =>
            obtain ⟨rfl, hbc⟩ := hcut
            have hBAc := HBA.out.later hbc
            have hFc := HF.out.later hbc
            have hAc := HALL.out.later hbc
            have hbWc := b_then HBW.out hbc
            clear HBA HF HALL HBW hbc HJO HSO
            have hI1 := one_item cz cz0 cz1 wc
            have hb0 := b_alloc (Below.refl wc.heap.size wc) (.cells #[.bool false, .int .u8 cz, .int .u8 0, .int .u16 0] 54)
            have c_b1 := bytes_at (some ⟨wc.heap.size, 0, none⟩) 1 1 [⟨false, cz, 0, 0⟩] _ hI1 rfl (by omega)
            have hrk : ∀ r ∈ rsI [(⟨false, cz, 0, 0⟩ : It)], r.Ok := rsI_ok hI1.1
            obtain ⟨r1, hr1⟩ : ∃ r1, r1 = It.r ⟨false, cz, 0, 0⟩ := ⟨_, rfl⟩
            have hr2 : rsI [(⟨false, cz, 0, 0⟩ : It)] = [r1] := by rw [hr1]; rfl
            have hsx := (sizeL_its hI1.1).2
            rw [hr2] at c_b1 hrk hsx
            have hsx : sizeL [r1] ≤ 78 := hsx
            have hrok := hrk r1 (by simp)
            obtain ⟨X, hX⟩ : ∃ X, X = sizeL [r1] := ⟨_, rfl⟩
            have hXl : (encL [r1]).length = X := by rw [hX]; rfl
            rw [← hX] at c_b1 hsx
            clear hr1 hr2 hrk hI1 hX
            go_wp2_with fail
            refine c_b1.mono ?_
            rintro e wB ⟨⟨v9, A9, b9, o9, d9, rfl, hA9, hI9, _, _, _, _⟩, hbB⟩
            obtain ⟨Ax, dx, rfl, hXB⟩ := BA.of_own (v := v9) (M := encL [r1]) (by unfold IsB; rw [hXl]; exact hI9) (encL_bb _)
            rw [hXl] at hXB ⊢
            have hbk := b_then hb0 hbB
            have hBAd := hBAc.later hbk
            have hFd := hFc.later hbk
            have hAd := hAc.later hbk
            have hbWd := b_then hbWc hbk
            obtain ⟨E9, hE9⟩ : ∃ E9, E9 = encL [r1] := ⟨_, rfl⟩
            rw [← hE9] at hXB
            have HE9 := Lib.hid hE9
            have hT3 := HSZ.out
            clear hBAc hFc hAc hbWc c_b1 hb0 hbB hbk hI9 hE9
            go_wp2_with fail
            refine (joined2 (La + X) _ hAd hXB rfl (by have := HLA.out; omega)).mono ?_
            rintro e wC ⟨⟨A10, d10, rfl, hJ⟩, hbC⟩
            have hBA4 := hBAd.later hbC
            have hF4 := hFd.later hbC
            have hX4 := hXB.later hbC
            have hbW4 := b_then hbWd hbC
            clear hBAd hFd hXB hbWd hbC hAd
            go_wp2_with fail
            refine (sealed_is A10 (La + X) d10 _ _ (rsI its) false hJ (by have := HLA.out; omega) (by rw [HE.out, HFo.out, List.append_assoc]; exact scan_foot HOK.out HFK.out _) (by rw [HE.out, HFo.out, List.append_assoc]; exact seal_more (by rw [HE9.out]; exact encF_ne r1))).mono ?_
            rintro e wD ⟨rfl, hbD⟩
            have hBA5 := hBA4.later hbD
            have hF5 := hF4.later hbD
            have hX5 := hX4.later hbD
            have hbW5 := b_then hbW4 hbD
            clear hBA4 hF4 hX4 hbW4 hbD hJ
            go_wp2_with fail
            refine (joined3 (T + (X + 16)) _ hBA5 hX5 hF5 rfl (by omega)).mono ?_
            rintro e wE ⟨⟨A11, d11, rfl, hJ⟩, hbE⟩
            have hBA6 := hBA5.later hbE
            have hF6 := hF5.later hbE
            have hbW6 := b_then hbW5 hbE
            obtain ⟨hsb1, hsb2⟩ := seal_between (l := G) HOK.out (by rw [HRL.out]; omega) hrok (by rw [HRL.out]; exact HFK.out)
            rw [HRL.out, ← HE.out, ← HE9.out, ← HFo.out] at hsb1 hsb2
            clear hBA5 hF5 hX5 hbW5 hbE
            go_wp2_with fail
            refine (sealed_is A11 (T + (X + 16)) d11 _ _ _ false hJ (by omega) hsb1 hsb2).mono ?_
            rintro e wG ⟨rfl, hbG⟩
            have hBA7 := hBA6.later hbG
            have hF7 := hF6.later hbG
            have hbW7 := b_then hbW6 hbG
            clear hBA6 hF6 hbW6 hbG hJ hsb1 hsb2
            go_wp2_with fail
            refine (joined3 (T + (16 + 16)) _ hBA7 hF7 hF7 rfl (by omega)).mono ?_
            rintro e wH ⟨⟨A12, d12, rfl, hJ⟩, hbH⟩
            have hbW8 := b_then hbW7 hbH
            clear hBA7 hF7 hbW7 hbH
            go_wp2_with fail
            refine (sealed_is A12 (T + (16 + 16)) d12 _ _ (rsI its) false hJ (by omega) (by rw [HE.out, HFo.out]; exact scan_foot HOK.out HFK.out _) (by rw [HE.out, HFo.out]; exact seal_more (by intro h; have h2 := congrArg List.length h; rw [fenc_length] at h2; simp at h2))).mono ?_
            rintro e wI ⟨rfl, hbI⟩
            have hbW9 := b_then hbW8 hbI
            clear hbW8 hbI hJ
            go_wp2_with fail
            refine (works_true _).mono ?_
            rintro e w9 ⟨rfl, hb9⟩
            go_wp2_with fail
            go_ret
            exact ⟨rfl, b_then hbW9 hb9⟩

set_option maxRecDepth 100000 in
theorem lifted (os : Os) (started : os.Started) (H : Type) (enc : TypeId × Value → H) :
    ReturnsInHanded {} Try.checked os 10 .any (Rows.scannerSealsSpec.pre6 enc Try.prog Try.f10 Rows.scannerSealsRow.domain false) (Rows.scannerSealsSpec.post enc Try.prog Try.f10 false true false false) := by
  refine returnsInHanded_of_change (C := Try.checked) own started (by kernel_rfl) Try.func10
    (ChangeSpec.witness6 (enc := enc) (C := Try.checked) false ⟨#[], #[.slice none 0 0, .int .u8 0, .int .u8 0, .int .u16 0], []⟩ 8 (by kernel_rfl) (by kernel_rfl) (by kernel_rfl) (by kernel_rfl)) ?_
  intro W base args ds gs before hval0 hW hcnd _
  have hval : ∀ (j : Nat) t v, Try.f10.params[j]? = some t → args[j]? = some v → Value.okWide Try.prog W .any base t v := hval0
  have hW' := hW
  obtain ⟨p, q, hA0, hV, rfl, hfz, hnd⟩ := hW
  have hA : DataW.TrodAll enc Try.prog W 0 (fun _ => true) true Try.f10.params.toList args.toList ds p := hA0
  rw [Try.params10] at hA hval
  obtain ⟨v0, vs0, d0, ds0, p0, q0, hargs, rfl, rfl, h0, r0⟩ := trodAll_cons hA
  obtain ⟨v1, vs1, d1, ds1, p1, q1, rfl, rfl, rfl, h1, r1⟩ := trodAll_cons r0
  obtain ⟨v2, vs2, d2, ds2, p2, q2, rfl, rfl, rfl, h2, r2⟩ := trodAll_cons r1
  obtain ⟨v3, vs3, d3, ds3, p3, q3, rfl, rfl, rfl, h3, r3⟩ := trodAll_cons r2
  obtain ⟨rfl, rfl, rfl⟩ := trodAll_nil r3
  obtain rfl : args = #[v0, v1, v2, v3] := by cases args; simp_all
  obtain ⟨rfl, rfl⟩ := trodVars_none hV
  refine (walk (H := H) (enc := enc) W base (hval 0 22 v0 rfl rfl) h0 (hval 1 5 v1 rfl rfl) h1 (hval 2 5 v2 rfl rfl) h2 (hval 3 23 v3 rfl rfl) h3).mono fun e W' ⟨he, bel⟩ => ?_
  subst he
  exact ⟨_, rfl, _, _, _, [], _, [], hW', trodAll_mk1 (shut_bool Try.underlying4 _), (trodAll_cons_mk (Below.trod laidOut (by kernel_rfl) (of_decide_eq_true (by kernel_rfl)) h0 bel (lt_of_Trod h0)) (trodAll_cons_mk (Below.trod laidOut (by kernel_rfl) (of_decide_eq_true (by kernel_rfl)) h1 bel (lt_of_Trod h1)) (trodAll_cons_mk (Below.trod laidOut (by kernel_rfl) (of_decide_eq_true (by kernel_rfl)) h2 bel (lt_of_Trod h2)) (trodAll_cons_mk (Below.trod laidOut (by kernel_rfl) (of_decide_eq_true (by kernel_rfl)) h3 bel (lt_of_Trod h3)) trodAll_mk0)))), rfl, bel.frame _, fun h => by cases h⟩

/-- ScannerSeals: for every slice of items and every three numbers the law returns true and changes nothing. No condition. -/
theorem proved : Rows.ScannerSealsSaid :=
  OpenClaim.holds_of_wide 10 Try.f10 rfl rfl rfl rfl rfl rfl rfl ⟨rfl, rfl, rfl, rfl, rfl⟩ rfl rfl rfl rfl rfl (by kernel_rfl) Try.func10 (by kernel_rfl)
    (of_decide_eq_true (by kernel_rfl)) (by unfold Func.isWrapper; first | (rw [if_pos (by decide +kernel)]; kernel_rfl) | (rw [if_neg (by decide +kernel)]; exact ⟨rfl, rfl⟩))
    (fun os started H enc _ => lifted os started H enc)
#print axioms proved
end Go.Proofs.Ytjcdflohkajbcaa.scannerSeals
