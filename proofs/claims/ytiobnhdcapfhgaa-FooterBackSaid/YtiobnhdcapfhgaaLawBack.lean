/-
  FooterBack: for every four numbers and slice of bytes the law returns true and changes nothing. No condition.
-/
import Derived.Test.YtiobnhdcapfhgaaOpen
import Derived.Test.YtiobnhdcapfhgaaArg
import Derived.Test.YtiobnhdcapfhgaaFmd
import Derived.Test.YtiobnhdcapfhgaaFdr
import Derived.Test.YtiobnhdcapfhgaaCab
import Derived.Lib.SliceRun
import Derived.Deep.CutBlock
import Derived.Deep.DeepCutAuto
namespace Go.Proofs.Ytiobnhdcapfhgaa.footerBack
open Go.ChangeShapes Go.WideShapes Go.ChangeAt Go.RowKit
open Go.ChangeMaps (open_string shut_string)
set_option linter.unusedVariables false

def KWb (a w : World) : Prop := Below a.heap.size a w
abbrev S4 (a : World) (p q : Nat) (v1 v2 v3 v4 : Value) (w' : World) : Prop := w'.cell? ⟨p, 0, none⟩ = some v1 ∧ w'.cell? ⟨p, 1, none⟩ = some v2 ∧ w'.cell? ⟨q, 0, none⟩ = some v3 ∧ w'.cell? ⟨q, 1, none⟩ = some v4 ∧ KWb a w'
section
variable {a w w' : World} {p q : Nat} {v1 v2 v3 v4 : Value}
theorem S4.bel (h : S4 a p q v1 v2 v3 v4 w') : Below a.heap.size a w' := h.2.2.2.2
theorem S4.after (h : S4 a p q v1 v2 v3 v4 w) (l1 : p < a.heap.size) (l2 : q < a.heap.size) (hb : Below w.heap.size w w') : S4 a p q v1 v2 v3 v4 w' := by
  have hs := h.bel.size
  exact ⟨(hb.cell (p := ⟨p, 0, none⟩) (Nat.lt_of_lt_of_le l1 hs)).trans h.1, (hb.cell (p := ⟨p, 1, none⟩) (Nat.lt_of_lt_of_le l1 hs)).trans h.2.1, (hb.cell (p := ⟨q, 0, none⟩) (Nat.lt_of_lt_of_le l2 hs)).trans h.2.2.1, (hb.cell (p := ⟨q, 1, none⟩) (Nat.lt_of_lt_of_le l2 hs)).trans h.2.2.2.1, b_then h.bel hb⟩
end
theorem grown_setCells {g : Nat} {a : World} : ∀ (vs : List Value) (o : Nat) (w : World), a.grownBy w (some g) → a.grownBy (w.setCells g o vs) (some g)
  | [], _, _, h => h
  | v :: vs, o, w, h => grown_setCells vs (o + 1) _ (g_set h (.inl rfl) v)
theorem isb_far {w w' : World} {B g n cap : Nat} {L : List Int} (h : IsB w B (.slice (some ⟨g, 0, none⟩) n cap) L) (hk : w'.heap[g]? = w.heap[g]?) : IsB w' B (.slice (some ⟨g, 0, none⟩) n cap) L := by
  refine ⟨h.1, ?_⟩
  rcases h.2 with ⟨h1, h2⟩ | ⟨g', cap', cur, h1, h2, h3, h4⟩
  · cases h1
  · have e : g = g' := by injection h1 with h1; injection h1 with h1; injection h1
    subst e
    exact .inr ⟨g, cap', cur, h1, h2, hk.trans h3, h4⟩
theorem bs_take {w : World} {a : Option Addr} {n c : Nat} {M : List Int} (h : BS w a n c M) {k : Nat} (hk : k ≤ n) : BS w a k c (M.take k) :=
  ⟨by rw [List.length_take, h.1]; omega, fun hp => RB.cut_ (h.2.1 (by omega)) k, BB.take h.2.2.1 k, Nat.le_trans hk h.2.2.2.1, h.2.2.2.2⟩

set_option maxHeartbeats 6400000 in
set_option maxRecDepth 100000 in
theorem walk {H : Type} {enc : TypeId × Value → H} (W : World) (base : Nat) {v0 v1 v2 v3 v4 : Value} {d0 d1 d2 d3 d4 : DataW H} {p0 p1 p2 p3 p4 : List MemPlace} (o0 : Value.okWide Try.prog W .any base 41 v0) (h0 : DataW.Trod enc Try.prog W 0 (fun _ => true) true 41 v0 d0 p0) (o1 : Value.okWide Try.prog W .any base 2 v1) (h1 : DataW.Trod enc Try.prog W 0 (fun _ => true) true 2 v1 d1 p1) (o2 : Value.okWide Try.prog W .any base 41 v2) (h2 : DataW.Trod enc Try.prog W 0 (fun _ => true) true 41 v2 d2 p2) (o3 : Value.okWide Try.prog W .any base 2 v3) (h3 : DataW.Trod enc Try.prog W 0 (fun _ => true) true 2 v3 d3 p3) (o4 : Value.okWide Try.prog W .any base 24 v4) (h4 : DataW.Trod enc Try.prog W 0 (fun _ => true) true 24 v4 d4 p4) :
    Calls Try.prog 9 #[v0, v1, v2, v3, v4] W fun e W' => e = .returned (.bool true) ∧ Below W.heap.size W W' := by
  obtain ⟨ca, rfl, rfl, rfl, wa⟩ := open_int Try.underlying41 o0 h0
  obtain ⟨ka, rfl, rfl, rfl, wka⟩ := open_int Try.underlying2 o1 h1
  obtain ⟨cb, rfl, rfl, rfl, wb⟩ := open_int Try.underlying41 o2 h2
  obtain ⟨kb, rfl, rfl, rfl, wkb⟩ := open_int Try.underlying2 o3 h3
  obtain ⟨am, nm, cm, M, rfl, hm1, hm2, hm3, hm4, hm5⟩ := open_bytes o4 h4
  have hM : BS W am nm cm M := ⟨hm1, hm2, hm3, hm4, hm5⟩
  obtain ⟨ca0, ca1⟩ := bounds_u16 wa
  obtain ⟨cb0, cb1⟩ := bounds_u16 wb
  have hmc : (cm : Int) ≤ 9223372036854775807 := by unfold maxLen at hm5; omega
  have hnc : (nm : Int) ≤ (cm : Int) := by omega
  clear wa wka wb wkb o0 h0 o1 h1 o2 h2 o3 h3 o4 h4 hm1 hm2 hm3 hm4 hm5
  obtain ⟨pp, hpp⟩ : ∃ pp : Nat, pp = min nm 100 := ⟨_, rfl⟩
  have p1 : min (nm : Int) 100 = (pp : Int) := by omega
  have p2 : pp ≤ 100 := by omega
  have p3 : (pp : Int) ≤ (nm : Int) := by omega
  have p4 : (0 : Int) ≤ (pp : Int) := by omega
  have p5 : (pp : Int) ≤ (cm : Int) := by omega
  have hMp := bs_take hM (k := pp) (by omega)
  have HMP := Lib.hid hMp
  clear hpp hM hMp
  have hmda := fun w => made_any ca ka w ca0 ca1
  have hmdb := fun w => made_any cb kb w cb0 cb1
  have hoka := made_ok (la := ka) ca0 ca1
  have hokb := made_ok (la := kb) cb0 cb1
  obtain ⟨la, hla⟩ : ∃ l, l = madeL ca ka := ⟨_, rfl⟩
  obtain ⟨lb, hlb⟩ : ∃ l, l = madeL cb kb := ⟨_, rfl⟩
  rw [← hla] at hoka hmda
  rw [← hlb] at hokb hmdb
  clear hla hlb
  have hena := fun w => fen_yes hoka w
  have henb := fun w => fen_yes hokb w
  have HOA := Lib.hid hoka
  have HOB := Lib.hid hokb
  clear hoka hokb
  go_enter Try.func9, Try.ntmps9
  go_wp2_with fail
  refine (hmda _).mono ?_
  rintro e w1 ⟨rfl, hb1⟩
  go_wp2_with fail
  refine (hmdb _).mono ?_
  rintro e w2 ⟨rfl, hb2⟩
  have hB2 := b_then hb1 hb2
  clear hmda hmdb hb1 hb2
  go_upto_region 2 with fail
  have hFa := (Blk.new w2 23 #[.int .i64 ca, .int .i64 la]).alloc (.cells #[.int .i64 cb, .int .i64 lb] 23)
  have hFb : Blk ((w2.alloc (.cells #[.int .i64 ca, .int .i64 la] 23)).alloc (.cells #[.int .i64 cb, .int .i64 lb] 23)) (w2.heap.size + 1) 23 #[.int .i64 cb, .int .i64 lb] := by
    have h := Blk.new (w2.alloc (.cells #[.int .i64 ca, .int .i64 la] 23)) 23 #[.int .i64 cb, .int .i64 lb]
    rwa [World.size_alloc] at h
  have hB3 := b_alloc (b_alloc hB2 (.cells #[.int .i64 ca, .int .i64 la] 23)) (.cells #[.int .i64 cb, .int .i64 lb] 23)
  have hWf : W.heap.size ≤ w2.heap.size := hB2.size
  obtain ⟨fa, hfa⟩ : ∃ fa, fa = w2.heap.size := ⟨_, rfl⟩
  rw [← hfa] at hFa hFb hWf ⊢
  generalize (w2.alloc (.cells #[.int .i64 ca, .int .i64 la] 23)).alloc (.cells #[.int .i64 cb, .int .i64 lb] 23) = w3 at hFa hFb hB3 ⊢
  clear hB2 hfa
  have la3 := hFa.lt
  have cFa := hFa.cell
  go_wp2_with fail
  refine (hena _).mono ?_
  rintro e w4 ⟨⟨ga, cpa, rfl, hla, hma, hga, hIa⟩, hb4⟩
  have hFa4 := hFa.below hb4 hFa.lt
  have hFb4 := hFb.below hb4 hFb.lt
  have hB4 := b_then hB3 hb4
  have hWg : W.heap.size ≤ ga := Nat.le_trans hB3.size hga
  have hfga : fa < ga := by omega
  clear hFa hFb hB3 hb4 cFa
  have cFb := hFb4.cell
  go_wp2_with fail
  refine (henb _).mono ?_
  rintro e w5 ⟨⟨gb, cpb, rfl, hlb, hmb, hgb, hIb⟩, hb5⟩
  have hFa5 := hFa4.below hb5 hFa4.lt
  have hFb5 := hFb4.below hb5 hFb4.lt
  have hB5 := b_then hB4 hb5
  have hIa5 := hIa.later hb5
  clear hFa4 hFb4 hB4 hb5 hIa cFb henb
  go_upto_region 4 with fail
  go_cut [63] from 39 to 63 (fun s63 wx => s63 = .bool false ∧ Below w5.heap.size w5 wx)
  case first =>
    have hE : ∀ w, Below w5.heap.size w5 w → Calls Try.prog 15 #[.slice (some ⟨ga, 0, none⟩) 16 cpa, .slice (some ⟨gb, 0, none⟩) 16 cpb] w fun e w' => e = .returned (.bool (decide (fenc ca la = fenc cb lb))) ∧ Below w.heap.size w w' := fun w hw => seq_any (some ⟨ga, 0, none⟩) (some ⟨gb, 0, none⟩) 16 16 cpa cpb (fenc ca la) (fenc cb lb) w (fun _ => (hIa5.later hw).rb) (fun _ => (hIb.later hw).rb) rfl rfl (by unfold maxLen; omega) (by unfold maxLen; omega)
    have l1 := hFa5.lt
    have l2 := hFb5.lt
    have hS0 : S4 w5 fa (fa + 1) (.int .i64 ca) (.int .i64 la) (.int .i64 cb) (.int .i64 lb) w5.drew := ⟨hFa5.cell 0, hFa5.cell 1, hFb5.cell 0, hFb5.cell 1, Below.drew (Below.refl _ _)⟩
    by_cases heq : ca = cb ∧ la = lb
    · obtain ⟨rfl, rfl⟩ := heq
      simp only [decide_true] at hE
      have HE := Lib.hid hE
      clear hE hFa5 hFb5 hB5 hIa5 hIb
      go_region_held3 (fun w' => w'.cell? ⟨fa, 0, none⟩ = some (.int .i64 ca) ∧ w'.cell? ⟨fa, 1, none⟩ = some (.int .i64 la) ∧ w'.cell? ⟨fa + 1, 0, none⟩ = some (.int .i64 ca) ∧ w'.cell? ⟨fa + 1, 1, none⟩ = some (.int .i64 la) ∧ KWb w5 w') (first | (with_reducible assumption) | (with_reducible exact hS0) | go_keep) (first
        | (go_at_call 15; (with_reducible refine (HE.out _ (S4.bel (by assumption))).mono ?_); rintro e w6 ⟨rfl, hbk⟩; have hS6 := S4.after (by assumption) l1 l2 hbk))
      go_wp2
      go_meet
      exact ⟨rfl, S4.bel (by assumption)⟩
    · have hd : decide (fenc ca la = fenc cb lb) = false := decide_eq_false (fun e => heq (fenc_inj HOA.out HOB.out e))
      rw [hd] at hE
      have HE := Lib.hid hE
      clear hE hFa5 hFb5 hB5 hIa5 hIb hd
      by_cases hc : ca = cb
      · subst hc
        have hl : (la == lb) = false := by rw [beq_eq_false_iff_ne]; exact fun e => heq ⟨rfl, e⟩
        have hl' : ¬ la = lb := fun e => heq ⟨rfl, e⟩
        clear heq
        go_region_held3 (fun w' => w'.cell? ⟨fa, 0, none⟩ = some (.int .i64 ca) ∧ w'.cell? ⟨fa, 1, none⟩ = some (.int .i64 la) ∧ w'.cell? ⟨fa + 1, 0, none⟩ = some (.int .i64 ca) ∧ w'.cell? ⟨fa + 1, 1, none⟩ = some (.int .i64 lb) ∧ KWb w5 w') (first | (with_reducible assumption) | (with_reducible exact hS0) | go_keep) (first
          | (go_at_call 15; (with_reducible refine (HE.out _ (S4.bel (by assumption))).mono ?_); rintro e w6 ⟨rfl, hbk⟩; have hS6 := S4.after (by assumption) l1 l2 hbk))
        go_wp2
        go_meet
        exact ⟨rfl, S4.bel (by assumption)⟩
      · have hl : (ca == cb) = false := by rw [beq_eq_false_iff_ne]; exact hc
        clear heq
        go_region_held3 (fun w' => w'.cell? ⟨fa, 0, none⟩ = some (.int .i64 ca) ∧ w'.cell? ⟨fa, 1, none⟩ = some (.int .i64 la) ∧ w'.cell? ⟨fa + 1, 0, none⟩ = some (.int .i64 cb) ∧ w'.cell? ⟨fa + 1, 1, none⟩ = some (.int .i64 lb) ∧ KWb w5 w') (first | (with_reducible assumption) | (with_reducible exact hS0) | go_keep) (first
          | (go_at_call 15; (with_reducible refine (HE.out _ (S4.bel (by assumption))).mono ?_); rintro e w6 ⟨rfl, hbk⟩; have hS6 := S4.after (by assumption) l1 l2 hbk))
        go_wp2
        go_meet
        exact ⟨rfl, S4.bel (by assumption)⟩
  case rest =>
    obtain ⟨rfl, hbx⟩ := hcut
    have hFa6 := hFa5.below hbx hFa5.lt
    have hB6 := b_then hB5 hbx
    have hIa6 := hIa5.later hbx
    have hMp := (HMP.out.later hB6)
    have hAa : BS wc (some ⟨ga, 0, none⟩) 16 cpa (fenc ca la) := ⟨rfl, fun _ => hIa6.rb, fenc_bb ca la, hla, hma⟩
    have ba := b_alloc (Below.refl wc.heap.size wc) (.cells #[.slice (some ⟨ga, 0, none⟩) 16 cpa, .slice am pp cm] 24)
    have hcat := concat_two wc.heap.size (some ⟨ga, 0, none⟩) am 16 cpa pp cm (fenc ca la) (M.take pp) _ (Blk.new wc 24 #[.slice (some ⟨ga, 0, none⟩) 16 cpa, .slice am pp cm]) (hAa.later ba) (hMp.later ba) (by omega) (by omega)
    have hFa7 := hFa6.below ba hFa6.lt
    have hB7 := b_then hB6 ba
    have hIa7 := hIa6.later ba
    clear hFa5 hFb5 hB5 hIa5 hIb hbx hFa6 hB6 hIa6 hAa hMp ba
    go_wp2_with fail
    refine hcat.mono ?_
    rintro e w7 ⟨⟨A7, c7, rfl, hS7⟩, hb7⟩
    have hd7 := fde_any A7 (16 + pp) c7 (fenc ca la ++ M.take pp) w7 hS7.2.1 hS7.1 hS7.2.2.1 hS7.2.2.2.1 hS7.2.2.2.2
    rw [fdec_enc HOA.out] at hd7
    have hFa8 := hFa7.below hb7 hFa7.lt
    have hB8 := b_then hB7 hb7
    have hIa8 := hIa7.later hb7
    clear hcat hS7 hb7 hFa7 hB7 hIa7
    go_wp2_with fail
    (with_reducible refine hd7.mono ?_)
    rintro e w8 ⟨rfl, hb8⟩
    have hFa9 := (hFa8.below hb8 hFa8.lt).alloc (.cells #[.int .i64 ca, .int .i64 la] 23)
    have hBk := Blk.new w8 23 #[.int .i64 ca, .int .i64 la]
    have hB9 := b_alloc (b_then hB8 hb8) (.cells #[.int .i64 ca, .int .i64 la] 23)
    have hIa9 := (hIa8.later hb8).later (b_alloc (Below.refl w8.heap.size w8) (.cells #[.int .i64 ca, .int .i64 la] 23))
    have hgk : ga < w8.heap.size := by have := (World.ownsRow.lt (hIa8.later hb8) ga rfl).2; exact this
    clear hd7 hb8 hFa8 hB8 hIa8
    obtain ⟨bk, hbk⟩ : ∃ bk, bk = w8.heap.size := ⟨_, rfl⟩
    go_upto_region 7 with fail
    rw [← hbk] at hBk hgk ⊢
    generalize w8.alloc (.cells #[.int .i64 ca, .int .i64 la] 23) = w9 at hFa9 hBk hB9 hIa9 ⊢
    clear hbk
    have cFa := hFa9.cell
    go_wp2_with fail
    refine (hena _).mono ?_
    rintro e w10 ⟨⟨gg, cpg, rfl, hlg, hmg, hgg, hIg⟩, hb10⟩
    have hFa10 := hFa9.below hb10 hFa9.lt
    have hBk10 := hBk.below hb10 hBk.lt
    have hB10 := b_then hB9 hb10
    have hIa10 := hIa9.later hb10
    have hggk : ga < gg := by have := hBk.lt; omega
    clear hFa9 hBk hB9 hIa9 hb10 cFa
    have hcl : ∀ ty, (Builtin.clear_ #[24] ty #[.slice (some ⟨ga, 0, none⟩) 16 cpa]).run Try.prog w10 = .ok (.tuple #[]) (w10.setCells ga 0 (List.replicate 16 (.int .u8 0))) := fun ty =>
      Lib.run_clear_slice w10 _ _ ty _ Try.underlying24 Try.zeroValue5 rfl rfl ga 0 16 cpa (by omega)
        (fun t ht => by rw [Nat.zero_add, World.ownsRow.cellAt hIa10 t (by omega), List.getElem?_eq_getElem (by rw [List.length_map, fenc_length]; omega)]; rfl)
        (fun t ht => World.ownsRow.frozenAt hIa10 _)
    have hg10 : w10.grownBy (w10.setCells ga 0 (List.replicate 16 (.int .u8 0))) (some ga) := grown_setCells _ _ _ (g_refl _ _)
    obtain ⟨w11, hw11⟩ : ∃ w11, w11 = w10.setCells ga 0 (List.replicate 16 (.int .u8 0)) := ⟨_, rfl⟩
    rw [← hw11] at hcl hg10
    have hFa11 := hFa10.grown hg10 (by intro e; injection e with e; omega)
    have hBk11 := hBk10.grown hg10 (by intro e; injection e with e; omega)
    have hB11 := b_g hB10 hg10 hWg
    have hIg11 : IsB w11 w9.heap.size (.slice (some ⟨gg, 0, none⟩) 16 cpg) (fenc ca la) := isb_far hIg (hg10.block gg (World.ownsRow.lt hIg gg rfl).2 (by intro e; injection e with e; omega))
    clear hFa10 hBk10 hB10 hIa10 hIg hg10 hw11
    have cFa := hFa11.cell
    go_wp2_with fail
    refine (hena _).mono ?_
    rintro e w12 ⟨⟨gt, cpt, rfl, hlt, hmt, hgt, hIt⟩, hb12⟩
    have hFa12 := hFa11.below hb12 hFa11.lt
    have hBk12 := hBk11.below hb12 hBk11.lt
    have hB12 := b_then hB11 hb12
    have hIg12 := hIg11.later hb12
    have heq := seq_any (some ⟨gg, 0, none⟩) (some ⟨gt, 0, none⟩) 16 16 cpg cpt (fenc ca la) (fenc ca la) w12 (fun _ => hIg12.rb) (fun _ => hIt.rb) rfl rfl (by unfold maxLen; omega) (by unfold maxLen; omega)
    rw [show decide (fenc ca la = fenc ca la) = true from decide_eq_true rfl] at heq
    clear hFa11 hBk11 hB11 hIg11 hb12 cFa hena hcl hIg12 hIt
    have cFa := hFa12.cell
    have cBk := hBk12.cell
    go_wp2_with fail
    refine heq.mono ?_
    rintro e w13 ⟨rfl, hb13⟩
    have hB13 := b_then hB12 hb13
    clear heq hFa12 hBk12 cFa cBk hB12 hb13
    go_wp2_with fail
    refine (works_true _).mono ?_
    rintro e wz ⟨rfl, hbz⟩
    go_wp2_with fail
    go_ret
    exact ⟨rfl, b_then hB13 hbz⟩

set_option maxRecDepth 100000 in
theorem lifted (os : Os) (started : os.Started) (H : Type) (enc : TypeId × Value → H) :
    ReturnsInHanded {} Try.checked os 9 .any (Rows.footerBackSpec.pre6 enc Try.prog Try.f9 Rows.footerBackRow.domain false) (Rows.footerBackSpec.post enc Try.prog Try.f9 false true false false) := by
  refine returnsInHanded_of_change (C := Try.checked) own started (by kernel_rfl) Try.func9
    (ChangeSpec.witness6 (enc := enc) (C := Try.checked) false ⟨#[], #[.int .u16 0, .int .i64 0, .int .u16 0, .int .i64 0, .slice none 0 0], []⟩ 8 (by kernel_rfl) (by kernel_rfl) (by kernel_rfl) (by kernel_rfl)) ?_
  intro W base args ds gs before hval0 hW hcnd _
  have hval : ∀ (j : Nat) t v, Try.f9.params[j]? = some t → args[j]? = some v → Value.okWide Try.prog W .any base t v := hval0
  have hW' := hW
  obtain ⟨p, q, hA0, hV, rfl, hfz, hnd⟩ := hW
  have hA : DataW.TrodAll enc Try.prog W 0 (fun _ => true) true Try.f9.params.toList args.toList ds p := hA0
  rw [Try.params9] at hA hval
  obtain ⟨v0, vs0, d0, ds0, p0, q0, hargs, rfl, rfl, h0, r0⟩ := trodAll_cons hA
  obtain ⟨v1, vs1, d1, ds1, p1, q1, rfl, rfl, rfl, h1, r1⟩ := trodAll_cons r0
  obtain ⟨v2, vs2, d2, ds2, p2, q2, rfl, rfl, rfl, h2, r2⟩ := trodAll_cons r1
  obtain ⟨v3, vs3, d3, ds3, p3, q3, rfl, rfl, rfl, h3, r3⟩ := trodAll_cons r2
  obtain ⟨v4, vs4, d4, ds4, p4, q4, rfl, rfl, rfl, h4, r4⟩ := trodAll_cons r3
  obtain ⟨rfl, rfl, rfl⟩ := trodAll_nil r4
  obtain rfl : args = #[v0, v1, v2, v3, v4] := by cases args; simp_all
  obtain ⟨rfl, rfl⟩ := trodVars_none hV
  refine (walk (H := H) (enc := enc) W base (hval 0 41 v0 rfl rfl) h0 (hval 1 2 v1 rfl rfl) h1 (hval 2 41 v2 rfl rfl) h2 (hval 3 2 v3 rfl rfl) h3 (hval 4 24 v4 rfl rfl) h4).mono fun e W' ⟨he, bel⟩ => ?_
  subst he
  exact ⟨_, rfl, _, _, _, [], _, [], hW', trodAll_mk1 (shut_bool Try.underlying4 _), (trodAll_cons_mk (Below.trod laidOut (by kernel_rfl) (of_decide_eq_true (by kernel_rfl)) h0 bel (lt_of_Trod h0)) (trodAll_cons_mk (Below.trod laidOut (by kernel_rfl) (of_decide_eq_true (by kernel_rfl)) h1 bel (lt_of_Trod h1)) (trodAll_cons_mk (Below.trod laidOut (by kernel_rfl) (of_decide_eq_true (by kernel_rfl)) h2 bel (lt_of_Trod h2)) (trodAll_cons_mk (Below.trod laidOut (by kernel_rfl) (of_decide_eq_true (by kernel_rfl)) h3 bel (lt_of_Trod h3)) (trodAll_cons_mk (Below.trod laidOut (by kernel_rfl) (of_decide_eq_true (by kernel_rfl)) h4 bel (lt_of_Trod h4)) trodAll_mk0))))), rfl, bel.frame _, fun h => by cases h⟩

/-- FooterBack: for every four numbers and slice of bytes the law returns true and changes nothing. No condition. -/
theorem proved : Rows.FooterBackSaid :=
  OpenClaim.holds_of_wide 9 Try.f9 rfl rfl rfl rfl rfl rfl rfl ⟨rfl, rfl, rfl, rfl, rfl⟩ rfl rfl rfl rfl rfl (by kernel_rfl) Try.func9 (by kernel_rfl)
    (of_decide_eq_true (by kernel_rfl)) (by unfold Func.isWrapper; first | (rw [if_pos (by decide +kernel)]; kernel_rfl) | (rw [if_neg (by decide +kernel)]; exact ⟨rfl, rfl⟩))
    (fun os started H enc _ => lifted os started H enc)
#print axioms proved
end Go.Proofs.Ytiobnhdcapfhgaa.footerBack
