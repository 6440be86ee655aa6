/-
  HistoryStops: for every limit, list of moves, place to stop and number the law returns true and changes nothing. No condition.
-/
import Derived.Test.YtohnoioblhkepaaOpen
import Derived.Test.YtohnoioblhkepaaWks
import Derived.Test.YtohnoioblhkepaaMvd
import Derived.Test.YtohnoioblhkepaaCoi
import Derived.Test.YtohnoioblhkepaaMov
namespace Go.Proofs.Ytohnoioblhkepaa.historyStops
open Go.ChangeShapes Go.WideShapes Go.ChangeAt Go.RowKit
open Go.ChangeMaps (open_string shut_string)
set_option linter.unusedSimpArgs false
set_option linter.unusedVariables false

open Go.Proofs.Ytohnoioblhkepaa.Hi (Is aG sEnc since_iter)
open Go.Shelf
attribute [local go_sem] Oper.semAt_some
/-- the list between two moves; the law's two boxes -/
def CRel (W : World) (b most st p : Nat) (i : Value) (wr : World) : Prop :=
  ∃ (k m n cap : Nat) (A : Option Addr) (xs : List Int), k ≤ p ∧ i = .int .i64 k ∧ Is wr b b most m A n cap xs ∧ m ≤ n ∧ n ≤ most ∧ Below W.heap.size W wr ∧ Blk wr W.heap.size 5 #[.int .u8 st] ∧ Blk wr (W.heap.size + 1) 4 #[.bool false]
/-- between two rounds of a loop over the others -/
def SI (wn : World) (nb st : Nat) (s : List Int × Option Nat) (W : World) : Prop :=
  s.2 = none ∧ s.1.length ≤ st ∧ Blk W nb 3 #[.int .i64 (s.1.length : Nat)] ∧ Below wn.heap.size wn W
theorem wp_noexit {P : Program} {c : Code} {K : Act → World → Prop} {Q' : Exit → Act → World → Prop} {a : Act} {w : World} (h : c.wp P (Exit.then K (fun _ _ _ => False)) a w) : c.wp P (Exit.then K Q') a w :=
  wp_mono h fun e a w hp => by cases e <;> first | exact hp | exact hp.elim
/-- what holds at the end -/
def KF (W : World) (D0 D1 : Nat) (wx : World) : Prop := Blk wx (W.heap.size + 1) 4 #[.bool true] ∧ Below W.heap.size W wx ∧ wx.heap[D0]? = some (.deferred (some [])) ∧ wx.heap[D1]? = some (.deferred (some []))
/-- where it has stopped -/
def SX (wn : World) (nb st : Nat) (c : Code) (s : List Int × Option Nat) (W : World) : Prop :=
  c = .exit 4 ∧ s.2 = none ∧ Blk W nb 3 #[.int .i64 ((st + 1 : Nat) : Int)] ∧ Below wn.heap.size wn W

set_option maxHeartbeats 6400000 in
set_option maxRecDepth 100000 in
theorem walk {H : Type} {enc : TypeId × Value → H} (W : World) (base : Nat) {v0 v1 v2 v3 : Value} {d0 d1 d2 d3 : DataW H} {p0 p1 p2 p3 : List MemPlace} (o0 : Value.okWide Try.prog W .any base 5 v0) (h0 : DataW.Trod enc Try.prog W 0 (fun _ => true) true 5 v0 d0 p0) (o1 : Value.okWide Try.prog W .any base 22 v1) (h1 : DataW.Trod enc Try.prog W 0 (fun _ => true) true 22 v1 d1 p1) (o2 : Value.okWide Try.prog W .any base 5 v2) (h2 : DataW.Trod enc Try.prog W 0 (fun _ => true) true 5 v2 d2 p2) (o3 : Value.okWide Try.prog W .any base 28 v3) (h3 : DataW.Trod enc Try.prog W 0 (fun _ => true) true 28 v3 d3 p3) :
    Calls Try.prog 4 #[v0, v1, v2, v3] W fun e W' => e = .returned (.bool true) ∧ Below W.heap.size W W' := by
  obtain ⟨lz, rfl, rfl, rfl, wl⟩ := open_int Try.underlying5 o0 h0
  have bl := bounds_u8 wl
  obtain ⟨ml, rfl⟩ : ∃ ml : Nat, lz = (ml : Int) := ⟨lz.toNat, by omega⟩
  obtain ⟨sz, rfl, rfl, rfl, ws⟩ := open_int Try.underlying5 o2 h2
  have bs := bounds_u8 ws
  obtain ⟨st, rfl⟩ : ∃ st : Nat, sz = (st : Int) := ⟨sz.toNat, by omega⟩
  obtain ⟨fz, rfl, rfl, rfl, wf⟩ := open_int Try.underlying28 o3 h3
  have bf := bounds_u16 wf
  clear wl o0 h0 ws o2 h2 wf o3 h3
  obtain ⟨most, hmost⟩ : ∃ most : Nat, most = 1 + ml % 64 := ⟨_, rfl⟩
  have y1 : 1 + (ml : Int) % 64 = (most : Int) := by omega
  have y2 : 1 ≤ most := by omega
  have y3 : most ≤ 64 := by omega
  have y4 : st ≤ 255 := by omega
  clear hmost
  obtain ⟨am, lm, cm, K, N, rfl, hmv⟩ := open_moves o1 h1
  clear o1 h1
  obtain ⟨pp, hpp⟩ : ∃ pp : Nat, pp = min lm 150 := ⟨_, rfl⟩
  have p1 : (if (150 : Int) < (lm : Int) then (150 : Int) else (lm : Int)) = (pp : Int) := by split <;> omega
  have p2 : pp ≤ 150 := by omega
  have p3 : pp ≤ lm := by omega
  have p4 : lm ≤ cm := hmv.1
  have p5 : lm ≤ 9223372036854775807 := by have := hmv.2.1; unfold maxLen at this; omega
  have HMV := Lib.hid hmv
  clear hpp hmv
  refine (callsIn_wide (n := 9)).1 ?_
  refine callsIn_of_wp_marks Try.func4 rfl trivial ?_ rfl
  simp only [Try.ntmps4, List.size_toArray, List.length_cons, List.length_nil, Nat.reduceAdd, Nat.reduceSub, Array.replicate_succ, Array.replicate_zero, List.push_toArray, List.append_toArray, List.nil_append, List.cons_append]
  gi_wp2
  refine ⟨trivial, (callsIn_wide.2 (Hi.New_ok most _ (by omega))).mono ?_⟩
  rintro e w1 ⟨b, rfl, h1, hz1, hb1⟩
  have x1 := (Blk.alloc (Blk.new W 5 #[.int .u8 st]) (.cells #[.bool false] 4)).below hb1 (by simp <;> omega)
  have x2 : Blk w1 (W.heap.size + 1) 4 #[.bool false] := by
    have h := Blk.new (W.alloc (.cells #[.int .u8 st] 5)) 4 #[.bool false]
    rw [World.size_alloc] at h
    exact h.below hb1 (by simp)
  have hB1 : Below W.heap.size W w1 := b_then (b_alloc (b_alloc (Below.refl _ _) _) _) hb1
  simp only [World.size_alloc] at hz1
  clear hb1
  gi_wp2
  gi_loopw [44] (CRel W b most st pp) (fun i _ => pp - (intOf i).toNat)
  case atStart => exact ⟨0, 0, 0, 0, none, [], by omega, rfl, h1, by omega, by omega, hB1, x1, x2⟩
  case round =>
    obtain ⟨k, m, n, cap, A, xs, hk, rfl, h, hmn, hnm, hB, x3, x4⟩ := hrel
    clear h1 hB1 x1 x2
    by_cases hlt : k < pp
    · have z1 : (k : Int) < (pp : Int) := by omega
      have z2 : (0 : Int) ≤ (k : Int) := by omega
      have z3 : (k : Int) < (lm : Int) := by omega
      obtain ⟨hq1, hq2, hq3, hq4⟩ := HMV.out
      obtain ⟨bm, om, rfl, hbm, hcm⟩ := hq4 (by omega)
      obtain ⟨c0, c1⟩ := hcm k (by omega)
      obtain ⟨k0, k1, n0, n1⟩ := hq3 k (by omega)
      obtain ⟨kk, hkk⟩ : ∃ kk : Nat, K k = (kk : Int) := ⟨(K k).toNat, by omega⟩
      obtain ⟨nn, hnn⟩ : ∃ nn : Nat, N k = (nn : Int) := ⟨(N k).toNat, by omega⟩
      rw [hkk] at c0 k1
      rw [hnn] at c1 n1
      have c0 : wr.cell? ⟨bm, om + k * 2, none⟩ = some (.int .u8 kk) := (hB.cell hbm).trans c0
      have c1 : wr.cell? ⟨bm, om + k * 2 + 1, none⟩ = some (.int .u16 nn) := (hB.cell hbm).trans (by rw [Nat.add_assoc]; exact c1)
      have k1 : kk ≤ 255 := by omega
      have n1 : nn ≤ 65535 := by omega
      have hbm' : bm < wr.heap.size := Nat.lt_of_lt_of_le hbm hB.size
      clear hq1 hq2 hq3 hcm hkk hnn hbm k0 n0
      gi_wp2
      refine ⟨trivial, (callsIn_wide.2 (Hi.moved_any b b most m n cap kk nn A xs _ (h.alloc (.cells #[.int .u8 kk, .int .u16 nn] 30)) k1 n1 hmn hnm (by omega) (by simp; have := h.lt; omega))).mono ?_⟩
      rintro e w2 ⟨A2, cap2, rfl, h2, hO2, hr2⟩
      obtain ⟨hm2, hn2⟩ := Hi.mv_ok (most := most) (k := kk) (N := nn) (m := m) (xs := xs) (by rw [h.len]; exact hmn) (by rw [h.len]; exact hnm)
      have ha := h.alloc (.cells #[.int .u8 kk, .int .u16 nn] 30)
      have hB2 : Below W.heap.size W w2 := ha.keptI (b_alloc hB _) (by omega) (Nat.le_refl _) hO2
      have hro := fun g hg => (own_row ha.own g hg).1
      have x5 := hO2.blk (x3.alloc _) (by omega) (fun e => by have := hro _ e.symm; omega)
      have x6 := hO2.blk (x4.alloc _) (by omega) (fun e => by have := hro _ e.symm; omega)
      clear h ha c0 c1 hO2 hB hr2 x3 x4 hro
      gi_wp2
      go_roundw
      case rel => exact ⟨k + 1, _, _, cap2, A2, _, by omega, by go_num, h2, hm2, hn2, hB2, x5, x6⟩
      case measure => simp [intOf]; omega
    · obtain rfl : k = pp := by omega
      gi_wp2
      refine ⟨trivial, (callsIn_wide.2 (Hi.elements_any b b most m A n cap xs most _ h hnm (by omega))).mono ?_⟩
      rintro e w3 ⟨⟨A3, c3, rfl, o3⟩, hb3⟩
      have h3 := h.later hb3
      have x5 := x3.below hb3 x3.lt
      have x6 := x4.below hb3 x4.lt
      have hB3 := b_then hB hb3
      have o3' := own_base o3 (show W.heap.size ≤ _ from hB.size)
      have hcp := (own_cap o3).2
      have hcm3 := hcp.2
      unfold maxLen at hcm3
      clear h x3 x4 hB hb3 o3
      have w3lt := x6.lt
      have hX4 := Blk.new w3 27 #[.slice A3 n c3]
      have h4 := h3.alloc (.cells #[.slice A3 n c3] 27)
      have x7 := x5.alloc (.cells #[.slice A3 n c3] 27)
      have x8 := x6.alloc (.cells #[.slice A3 n c3] 27)
      have hB4 := b_alloc hB3 (.cells #[.slice A3 n c3] 27)
      have o4 := own_later o3' (b_alloc (Below.refl _ w3) (.cells #[.slice A3 n c3] 27))
      clear h3 x5 x6 hB3 o3'
      gi_wp2
      refine ⟨trivial, (callsIn_wide.2 (Hi.Marked_any b b most m n cap A xs _ h4)).mono ?_⟩
      rintro e w' ⟨rfl, rfl⟩
      have hs4 : (w3.alloc (.cells #[.slice A3 n c3] 27)).heap.size = w3.heap.size + 1 := World.size_alloc _ _
      obtain ⟨tb, htb⟩ : ∃ tb, tb = w3.heap.size := ⟨_, rfl⟩
      rw [← htb] at hX4 hs4 ⊢
      generalize w3.alloc (.cells #[.slice A3 n c3] 27) = w4 at hX4 h4 x7 x8 hB4 o4 hs4 ⊢
      have HTB := Lib.hid htb
      clear htb
      have hM5 := Blk.new w4 3 #[.int .i64 m]
      have h5 := h4.alloc (.cells #[.int .i64 m] 3)
      have hX5 := hX4.alloc (.cells #[.int .i64 m] 3)
      have x9 := x7.alloc (.cells #[.int .i64 m] 3)
      have x10 := x8.alloc (.cells #[.int .i64 m] 3)
      have hB5 := b_alloc hB4 (.cells #[.int .i64 m] 3)
      have o5 := own_later o4 (b_alloc (Below.refl _ w4) (.cells #[.int .i64 m] 3))
      rw [hs4] at hM5
      clear h4 hX4 x7 x8 hB4 o4
      gi_wp2
      refine ⟨trivial, (callsIn_wide.2 (Hi.Since_any _ _)).mono ?_⟩
      rintro e w' ⟨rfl, rfl⟩
      have hs5 : (w4.alloc (.cells #[.int .i64 m] 3)).heap.size = tb + 1 + 1 := by rw [World.size_alloc, hs4]
      generalize w4.alloc (.cells #[.int .i64 m] 3) = w5 at hM5 h5 hX5 x9 x10 hB5 o5 hs5 ⊢
      have hY6 := Blk.new w5 23 #[.pointer (some ⟨b, 0, none⟩)]
      have hM6 := hM5.alloc (.cells #[.pointer (some ⟨b, 0, none⟩)] 23)
      have h6 := h5.alloc (.cells #[.pointer (some ⟨b, 0, none⟩)] 23)
      have hX6 := hX5.alloc (.cells #[.pointer (some ⟨b, 0, none⟩)] 23)
      have x11 := x9.alloc (.cells #[.pointer (some ⟨b, 0, none⟩)] 23)
      have x12 := x10.alloc (.cells #[.pointer (some ⟨b, 0, none⟩)] 23)
      have hB6 := b_alloc hB5 (.cells #[.pointer (some ⟨b, 0, none⟩)] 23)
      have o6 := own_later o5 (b_alloc (Below.refl _ w5) (.cells #[.pointer (some ⟨b, 0, none⟩)] 23))
      have hs6 : (w5.alloc (.cells #[.pointer (some ⟨b, 0, none⟩)] 23)).heap.size = tb + 1 + 1 + 1 := by rw [World.size_alloc, hs5]
      rw [hs5] at hY6
      clear hM5 h5 hX5 x9 x10 hB5 o5 hs4
      gi_wp2
      first | rw [hs5] | skip
      generalize w5.alloc (.cells #[.pointer (some ⟨b, 0, none⟩)] 23) = wS at hY6 hM6 h6 hX6 x11 x12 hB6 o6 hs6 ⊢
      clear hs5
      have hwt : W.heap.size + 1 < tb := by
        have := HTB.out
        have := w3lt
        omega
      have HLN := Lib.hid h6.len
      have HS6 := Lib.hid hs6
      clear hs6
      by_cases hst : n - m ≤ st
      · obtain ⟨cn, hcn⟩ : ∃ cn, cn = n - m := ⟨_, rfl⟩
        have hmi : ∀ (ts : Array TypeId) (t : TypeId) (w : World), (Builtin.min_ ts t #[.int .i64 ((n : Int) - (m : Int)), .int .i64 ((st : Int) + 1)]).run Try.prog w = .ok (.int .i64 (cn : Int)) w := by
          intro ts t w
          rw [run_min_int2, show (if (st : Int) + 1 < (n : Int) - (m : Int) then (st : Int) + 1 else (n : Int) - (m : Int)) = (cn : Int) from by split <;> omega]
        have u1 : (n : Int) ≤ 64 := by omega
        have u2 : (m : Int) ≤ (n : Int) := by omega
        have u3 : (st : Int) ≤ 255 := by omega
        have u4 : (fz : Int) ≤ 65535 := bf.2
        have hS0 := Below.refl wS.heap.size wS
        have HCN := Lib.hid hcn
        clear hcn
        refine wpIn_loop_rounds 3 ?_
        rw [roundsIn_succ]
        gi_wp2
        have bt0 := b_alloc hS0 (.cells #[.int .i64 0] 3)
        have bn0 := Blk.new wS 3 #[.int .i64 0]
        obtain ⟨nb, hnb⟩ : ∃ nb, nb = wS.heap.size := ⟨_, rfl⟩
        have hnl : wS.heap.size < (wS.alloc (.cells #[.int .i64 0] 3)).heap.size := by simp
        have hws : wS.heap.size ≤ wS.heap.size := (hS0).size
        have bw0 : Below wS.heap.size wS (wS.alloc (.cells #[.int .i64 0] 3)) := b_alloc (Below.refl _ _) _
        rw [← hnb] at bn0 hnl hws ⊢
        generalize wS.alloc (.cells #[.int .i64 0] 3) = u0 at bt0 bn0 hnl bw0 ⊢
        have HNB := Lib.hid hnb
        have hSI0 : SI wS nb st ([], none) u0 := ⟨rfl, Nat.zero_le _, bn0, bw0⟩
        clear hnb bn0 bw0
        refine range_k rfl (by omega) (gf := 48) (lb := #[.pointer (some ⟨tb + 1 + 1, 0, none⟩)]) rfl trivial (enters_of Try.func48 (by kernel_rfl) rfl)
          (encs := sEnc) (G := aG b b most m A n cap xs (tb + 1 + 1)) (S := fun ys => ys = xs.drop m) (Sp := fun ys => ∃ j, j ≤ xs.length ∧ ys = (xs.take j).drop m) (fun _ => rfl) none (fun k hk => by cases hk)
          (fun W1 hW1 hs1 => since_iter _ (by omega) _ b b most m A n cap xs _ W1 (by omega) hmn)
          (SI wS nb st) (fun _ _ _ => False)
          (by
            rintro s A1 A2 row ⟨q1, q2, q3, q4⟩ hg hr
            exact ⟨q1, q2, q3.turn hg (fun r e => (hr r e).2), below_turn q4 hg (fun r e => by have := (hr r e).1; have := HNB.out; omega) q4.size⟩)
          (fun _ _ _ _ _ h _ _ => h)
          (by
            rintro s A1 ⟨q1, q2, q3, q4⟩
            have q5 := b_then hS0 q4
            exact ⟨h6.later q5, (hY6.below q5 hY6.lt).cell 0⟩)
          hSI0 ?round ?done ?stop
        case round =>
          clear hSI0
          rintro l pre x r Wr hl1 hl2 hlr ⟨j, hj, hpre⟩ hI
          have hpl := congrArg List.length hpre
          obtain ⟨i, hi⟩ : ∃ i, i = m + pre.length := ⟨_, rfl⟩
          have hil : i < n := by have := HLN.out; simp at hpl; omega
          have hx : xs[i]? = some x := by
            have h0 := congrArg (·[pre.length]?) hpre
            simp only [List.getElem?_append_right (Nat.le_refl _), Nat.sub_self, List.getElem?_cons_zero, List.getElem?_drop, List.getElem?_take] at h0
            split at h0
            · rw [hi]; exact h0.symm
            · cases h0
          obtain ⟨L, hL⟩ : ∃ L, L = pre.length := ⟨_, rfl⟩
          have hsl : (pre ++ [x]).length = L + 1 := by simp [hL]
          rw [← hL] at hi
          have HSL := Lib.hid hsl
          have HLL := Lib.hid hL
          obtain ⟨pr, hpr⟩ : ∃ pr, pr = pre ++ [x] := ⟨_, rfl⟩
          rw [← hpr] at HSL ⊢
          clear hpre hpl hj hsl hL hpr
          simp only [sEnc, List.zip_toArray, List.zip_cons_cons, List.zip_nil_right, List.foldl_toArray, List.foldl_cons, List.foldl_nil, List.setIfInBounds_toArray, List.set_cons_zero, List.set_cons_succ]
          gi_wp2
          refine ⟨Rd.refl _ _ _, hI, fun o hIo => ?_⟩
          clear hI
          generalize Wr.putObj l o = Wq at hIo ⊢
          obtain ⟨q1, q2, q3, q4⟩ := hIo
          replace q2 : pre.length ≤ st := q2
          have q1 : r = none := q1
          subst q1
          replace q3 : Blk Wq nb 3 #[.int .i64 (pre.length : Nat)] := q3
          rw [← HLL.out] at q2 q3
          have q5 := b_then hS0 q4
          have cS := (x11.below q5 x11.lt).cell
          have cT := (hX6.below q5 hX6.lt).cell
          have cM := (hM6.below q5 hM6.lt).cell
          obtain ⟨g, rfl, _, _, cg, _⟩ := own_at (own_later o6 q5) (i := i) (u := .int .i64 x) (by rw [List.getElem?_map, hx]; rfl)
          have cN := q3.cell
          have fN := q3.frozen
          have qS := q3.set_ 0 (.int .i64 ((L : Int) + 1))
          have cN' := qS.cell
          have hgS : ∀ (p : Addr), p.block ≠ nb → (Wq.setCell ⟨nb, 0, none⟩ (.int .i64 ((L : Int) + 1))).cell? p = Wq.cell? p := fun p hp => World.cell?_setCell_other _ _ _ _ (fun e => by subst e; exact hp rfl)
          have cS' := (hgS ⟨W.heap.size, 0, none⟩ (by show W.heap.size ≠ nb; have := HNB.out; have := hX6.lt; omega)).trans (cS 0)
          have z1 : (m : Int) + (L : Int) = (i : Int) := by omega
          have z2 : (0 : Int) ≤ (i : Int) := by omega
          have z3 : (i : Int) < (n : Int) := by omega
          have z4 : decide (n ≤ i) = false := by rw [decide_eq_false_iff_not]; omega
          have z6 : (L : Int) ≤ 255 := by omega
          have hBn := q4.setCell (p := ⟨nb, 0, none⟩) (by show wS.heap.size ≤ nb; rw [HNB.out]; exact Nat.le_refl _) (.int .i64 ((L : Int) + 1))
          have hRn : Rd u0.heap.size none none Wq (Wq.setCell ⟨nb, 0, none⟩ (.int .i64 ((L : Int) + 1))) := (Rd.refl _ _ _).set_ (p := ⟨nb, 0, none⟩) (.inl (by show nb < u0.heap.size; omega)) _
          clear q3 q4 q5 hgS hi hx
          have hLs : L + 1 ≤ st := by omega
          have z8 : decide ((st : Int) < (L : Int) + 1) = false := by rw [decide_eq_false_iff_not]; omega
          have z9 : (L : Int) + 1 ≤ (st : Int) := by omega
          gi_wp2
          refine ⟨none, hRn, rfl, ?_, ?_, hBn⟩
          · show pr.length ≤ st
            rw [HSL.out]
            exact hLs
          · show Blk _ nb 3 #[.int .i64 ((pr.length : Nat) : Int)]
            rw [HSL.out]
            exact qS
        case stop => exact fun D c pre r W hD _ _ h _ => h.elim
        case done =>
          clear hSI0
          rintro D0 ys r Wd hD0 hDr rfl ⟨q1, q2, q3, q4⟩ hK0
          have hcn : (xs.drop m).length = cn := by rw [List.length_drop, HLN.out]; have := HCN.out; omega
          replace q3 : Blk Wd nb 3 #[.int .i64 (((xs.drop m).length : Nat) : Int)] := q3
          rw [hcn] at q3
          have hDx0 : W.heap.size + 1 < D0 := by have := HS6.out; have := HNB.out; have := (hS0).size; omega
          have hb0s : Below wS.heap.size wS Wd := b_then hS0 q4
          obtain ⟨v1, hv⟩ : ∃ v, v = Wd := ⟨_, rfl⟩
          subst hv
          have cN := q3.cell
          have cS := (x11.below hb0s x11.lt).cell
          have cT := (hX6.below hb0s hX6.lt).cell
          have cM := (hM6.below hb0s hM6.lt).cell
          clear q3 q4 bt0 
          gi_wp2
          rw [roundsIn_succ]
          clear cN cS cT cM
          have lD0 := (Array.getElem?_eq_some_iff.1 hK0).1
          gi_wp2
          have bt1 := b_alloc hb0s (.cells #[.int .i64 0] 3)
          have bn1 := Blk.new v1 3 #[.int .i64 0]
          obtain ⟨nb, hnb⟩ : ∃ nb, nb = v1.heap.size := ⟨_, rfl⟩
          have hnl : v1.heap.size < (v1.alloc (.cells #[.int .i64 0] 3)).heap.size := by simp
          have hws : wS.heap.size ≤ v1.heap.size := (hb0s).size
          have bw1 : Below v1.heap.size v1 (v1.alloc (.cells #[.int .i64 0] 3)) := b_alloc (Below.refl _ _) _
          rw [← hnb] at bn1 hnl hws ⊢
          generalize v1.alloc (.cells #[.int .i64 0] 3) = u1 at bt1 bn1 hnl bw1 ⊢
          have HNB := Lib.hid hnb
          have hSI0 : SI v1 nb st ([], none) u1 := ⟨rfl, Nat.zero_le _, bn1, bw1⟩
          clear hnb bn1 bw1
          refine range_k rfl (by omega) (gf := 48) (lb := #[.pointer (some ⟨tb + 1 + 1, 0, none⟩)]) rfl trivial (enters_of Try.func48 (by kernel_rfl) rfl)
            (encs := sEnc) (G := aG b b most m A n cap xs (tb + 1 + 1)) (S := fun ys => ys = xs.drop m) (Sp := fun ys => ∃ j, j ≤ xs.length ∧ ys = (xs.take j).drop m) (fun _ => rfl) none (fun k hk => by cases hk)
            (fun W1 hW1 hs1 => since_iter _ (by omega) _ b b most m A n cap xs _ W1 (by omega) hmn)
            (SI v1 nb st) (fun _ _ _ => False)
            (by
              rintro s A1 A2 row ⟨q1, q2, q3, q4⟩ hg hr
              exact ⟨q1, q2, q3.turn hg (fun r e => (hr r e).2), below_turn q4 hg (fun r e => by have := (hr r e).1; have := HNB.out; omega) q4.size⟩)
            (fun _ _ _ _ _ h _ _ => h)
            (by
              rintro s A1 ⟨q1, q2, q3, q4⟩
              have q5 := b_then hb0s q4
              exact ⟨h6.later q5, (hY6.below q5 hY6.lt).cell 0⟩)
            hSI0 ?round ?done ?stop
          case round =>
            clear hSI0
            rintro l pre x r Wr hl1 hl2 hlr ⟨j, hj, hpre⟩ hI
            have hpl := congrArg List.length hpre
            obtain ⟨i, hi⟩ : ∃ i, i = m + pre.length := ⟨_, rfl⟩
            have hil : i < n := by have := HLN.out; simp at hpl; omega
            have hx : xs[i]? = some x := by
              have h0 := congrArg (·[pre.length]?) hpre
              simp only [List.getElem?_append_right (Nat.le_refl _), Nat.sub_self, List.getElem?_cons_zero, List.getElem?_drop, List.getElem?_take] at h0
              split at h0
              · rw [hi]; exact h0.symm
              · cases h0
            obtain ⟨L, hL⟩ : ∃ L, L = pre.length := ⟨_, rfl⟩
            have hsl : (pre ++ [x]).length = L + 1 := by simp [hL]
            rw [← hL] at hi
            have HSL := Lib.hid hsl
            have HLL := Lib.hid hL
            obtain ⟨pr, hpr⟩ : ∃ pr, pr = pre ++ [x] := ⟨_, rfl⟩
            rw [← hpr] at HSL ⊢
            clear hpre hpl hj hsl hL hpr
            simp only [sEnc, List.zip_toArray, List.zip_cons_cons, List.zip_nil_right, List.foldl_toArray, List.foldl_cons, List.foldl_nil, List.setIfInBounds_toArray, List.set_cons_zero, List.set_cons_succ]
            gi_wp2
            refine ⟨Rd.refl _ _ _, hI, fun o hIo => ?_⟩
            clear hI
            generalize Wr.putObj l o = Wq at hIo ⊢
            obtain ⟨q1, q2, q3, q4⟩ := hIo
            replace q2 : pre.length ≤ st := q2
            have q1 : r = none := q1
            subst q1
            replace q3 : Blk Wq nb 3 #[.int .i64 (pre.length : Nat)] := q3
            rw [← HLL.out] at q2 q3
            have q5 := b_then hb0s q4
            have cS := (x11.below q5 x11.lt).cell
            have cT := (hX6.below q5 hX6.lt).cell
            have cM := (hM6.below q5 hM6.lt).cell
            obtain ⟨g, rfl, _, _, cg, _⟩ := own_at (own_later o6 q5) (i := i) (u := .int .i64 x) (by rw [List.getElem?_map, hx]; rfl)
            have cN := q3.cell
            have fN := q3.frozen
            have qS := q3.set_ 0 (.int .i64 ((L : Int) + 1))
            have cN' := qS.cell
            have hgS : ∀ (p : Addr), p.block ≠ nb → (Wq.setCell ⟨nb, 0, none⟩ (.int .i64 ((L : Int) + 1))).cell? p = Wq.cell? p := fun p hp => World.cell?_setCell_other _ _ _ _ (fun e => by subst e; exact hp rfl)
            have cS' := (hgS ⟨W.heap.size, 0, none⟩ (by show W.heap.size ≠ nb; have := HNB.out; have := hX6.lt; omega)).trans (cS 0)
            have z1 : (m : Int) + (L : Int) = (i : Int) := by omega
            have z2 : (0 : Int) ≤ (i : Int) := by omega
            have z3 : (i : Int) < (n : Int) := by omega
            have z4 : decide (n ≤ i) = false := by rw [decide_eq_false_iff_not]; omega
            have z6 : (L : Int) ≤ 255 := by omega
            have hBn := q4.setCell (p := ⟨nb, 0, none⟩) (by show v1.heap.size ≤ nb; rw [HNB.out]; exact Nat.le_refl _) (.int .i64 ((L : Int) + 1))
            have hRn : Rd u1.heap.size none none Wq (Wq.setCell ⟨nb, 0, none⟩ (.int .i64 ((L : Int) + 1))) := (Rd.refl _ _ _).set_ (p := ⟨nb, 0, none⟩) (.inl (by show nb < u1.heap.size; omega)) _
            clear q3 q4 q5 hgS hi hx
            have hLs : L + 1 ≤ st := by omega
            have z8 : decide ((st : Int) < (L : Int) + 1) = false := by rw [decide_eq_false_iff_not]; omega
            have z9 : (L : Int) + 1 ≤ (st : Int) := by omega
            gi_wp2
            refine ⟨none, hRn, rfl, ?_, ?_, hBn⟩
            · show pr.length ≤ st
              rw [HSL.out]
              exact hLs
            · show Blk _ nb 3 #[.int .i64 ((pr.length : Nat) : Int)]
              rw [HSL.out]
              exact qS
          case stop => exact fun D c pre r W hD _ _ h _ => h.elim
          case done =>
            clear hSI0
            rintro D1 ys r Wd hD1 hDr rfl ⟨q1, q2, q3, q4⟩ hK1
            have hcn : (xs.drop m).length = cn := by rw [List.length_drop, HLN.out]; have := HCN.out; omega
            replace q3 : Blk Wd nb 3 #[.int .i64 (((xs.drop m).length : Nat) : Int)] := q3
            rw [hcn] at q3
            have hDx1 : W.heap.size + 1 < D1 := by have := HS6.out; have := HNB.out; have := (hb0s).size; omega
            have hb1s : Below wS.heap.size wS Wd := b_then hb0s q4
            have hK0' : Wd.heap[D0]? = some (.deferred (some [])) := (q4.block D0 (Array.getElem?_eq_some_iff.1 hK0).1).trans hK0
            obtain ⟨v2, hv⟩ : ∃ v, v = Wd := ⟨_, rfl⟩
            subst hv
            have cN := q3.cell
            have cS := (x11.below hb1s x11.lt).cell
            have cT := (hX6.below hb1s hX6.lt).cell
            have cM := (hM6.below hb1s hM6.lt).cell
            clear q3 q4 bt1 
            have hDD : D0 < D1 := by have := HNB.out; omega
            gi_wp2
            rw [roundsIn_succ]
            gi_wp2
            have hS := h6.later hb1s
            have oS := own_later o6 hb1s
            have hBS := b_then hB6 hb1s
            have eS := x11.below hb1s x11.lt
            have eR := x12.below hb1s x12.lt
            have eT := hX6.below hb1s hX6.lt
            have eM := hM6.below hb1s hM6.lt
            have e1 : (m : Int) - 1 - fz < (m : Int) := by omega
            have e2 : (n : Int) < (n : Int) + 1 + fz := by omega
            clear cN cS cT cM hmi hb0s hb1s hnl hws hK0 h6 hY6 hM6 hX6 x11 x12 hB6 o6
            have cT := eT.cell
            have cM := eM.cell
            refine ⟨trivial, (callsIn_wide.2 (Hi.Cut_err b b most m n cap A xs _ hS ((m : Int) - 1 - fz) (.inl e1))).mono ?_⟩
            rintro e w' ⟨rfl, rfl⟩
            gi_wp2
            refine ⟨trivial, (callsIn_wide.2 (Hi.Cut_err b b most m n cap A xs _ hS ((n : Int) + 1 + fz) (.inr e2))).mono ?_⟩
            rintro e w' ⟨rfl, rfl⟩
            gi_wp2
            refine ⟨trivial, (callsIn_wide.2 (Hi.elements_any b b most m A n cap xs most _ hS hnm (by omega))).mono ?_⟩
            rintro e w8 ⟨⟨A8, c8, rfl, o8⟩, hb8⟩
            have hS8 := hS.later hb8
            have oS8 := own_later oS hb8
            have hB8 := b_then hBS hb8
            have eR8 := eR.below hb8 eR.lt
            have eT8 := eT.below hb8 eT.lt
            have eM8 := eM.below hb8 eM.lt
            have hK8a : w8.heap[D0]? = some (.deferred (some [])) := (hb8.block D0 (Array.getElem?_eq_some_iff.1 hK0').1).trans hK0'
            have hK8b : w8.heap[D1]? = some (.deferred (some [])) := (hb8.block D1 (Array.getElem?_eq_some_iff.1 hK1).1).trans hK1
            clear hS oS hBS eS eR eT eM cT cM hb8 hK0' hK1
            gi_wp2
            have gEq : ∀ w, Below w8.heap.size w8 w → Calls Try.prog 15 #[.slice A3 n c3, .slice A8 n c8] w fun e w' => e = .returned (.bool true) ∧ Below w.heap.size w w' := fun w hw => (eqi_any A3 A8 n c3 c8 xs w HLN.out ((RI.of_row oS8).later hw) ((RI.of_row o8).later hw) (by unfold maxLen; omega)).mono (by rintro e w' ⟨he, q, rfl⟩; exact ⟨he, below_drewN (Below.refl _ _) q⟩)
            have gMk : ∀ w, Below w8.heap.size w8 w → Calls Try.prog 14 #[.pointer (some ⟨b, 0, none⟩)] w fun e w' => e = .returned (.int .i64 m) ∧ w = w' := fun w hw => Hi.Marked_any b b most m n cap A xs w (hS8.later hw)
            have gT := eT8.cell
            have gM := eM8.cell
            have lT := eT8.lt
            have lM := eM8.lt
            have lR := eR8.lt
            refine wpIn_wide.2 ?_
            have lDa := (Array.getElem?_eq_some_iff.1 hK8a).1
            have lDb := (Array.getElem?_eq_some_iff.1 hK8b).1
            have nDa : W.heap.size + 1 < D0 := hDx0
            have nDb : W.heap.size + 1 < D1 := hDx1
            go_cut [15] from 129 to 146 (fun s15 wx => s15 = .bool true ∧ KF W D0 D1 wx)
            case first =>
              refine wp_noexit ?_
              go_region_with (first
                | ((with_reducible refine (gEq _ (by first | exact Below.refl _ _ | exact (Below.refl _ _).drew | assumption | exact Below.drew (by assumption))).mono ?_); rintro e w9 ⟨rfl, hb9⟩; have hy9 : Below w8.heap.size w8 w9 := (by first | exact hb9 | exact b_then (Below.refl _ _).drew hb9); have gT9 := (eT8.below hy9 lT).cell; have gM9 := (eM8.below hy9 lM).cell)
                | ((with_reducible refine (gMk _ (by first | exact Below.refl _ _ | exact (Below.refl _ _).drew | assumption | exact Below.drew (by assumption))).mono ?_); rintro e w' ⟨rfl, rfl⟩)
                | ((with_reducible refine (works_true _).mono ?_); rintro e wz ⟨rfl, hbz⟩; have hz9 : Below w8.heap.size w8 wz := (by first | exact b_then (by assumption) hbz | exact b_then (Below.refl _ _).drew hbz); have gR9 := (eR8.below hz9 lR).cell; have fR9 := (eR8.below hz9 lR).frozen))
              all_goals
                (go_wp2
                 go_meet
                 refine ⟨rfl, ?_⟩
                 have eRz := (eR8.below hz9 lR).set_ 0 (.bool true)
                 have hBz := (b_then hB8 hz9).setCell (p := ⟨W.heap.size + 1, 0, none⟩) (by show W.heap.size ≤ W.heap.size + 1; omega) (.bool true)
                 exact ⟨eRz, hBz, (Below.heap_setCell _ _ _ D0 (by show D0 ≠ W.heap.size + 1; omega)).trans ((hz9.block D0 lDa).trans hK8a), (Below.heap_setCell _ _ _ D1 (by show D1 ≠ W.heap.size + 1; omega)).trans ((hz9.block D1 lDb).trans hK8b)⟩)
            case rest =>
              obtain ⟨rfl, eRz, hBz, kDa, kDb⟩ := hcut
              clear gEq gMk gT gM
              gi_wp2
              have key : ∀ wx : World, wx.heap[D0]? = some (.deferred (some [])) → (wx.putObj D1 (.deferred none)).heap[D0]? = some (.deferred (some [])) := fun wx h => (World.putObj_heap_other (show D0 ≠ D1 by omega)).trans h
              have kDb' := key _ kDa
              refine ⟨by simp, .inl ⟨_, _, rfl, run_takeDeferred kDb, ?_⟩⟩
              refine ⟨by simp, .inl ⟨_, _, rfl, run_takeDeferred kDb', ?_⟩⟩
              have g4 := ((eRz.putObj (l := D1) (by omega) (.deferred none)).putObj (l := D0) (by omega) (.deferred none)).cell
              exact ⟨_, by simp [results, Try.results4, go_sem, g4], rfl, (hBz.trans (below_putObj _ D1 (.deferred none) (by omega))).trans (below_putObj _ D0 (.deferred none) (by omega))⟩
      · obtain ⟨cn, hcn⟩ : ∃ cn, cn = st + 1 := ⟨_, rfl⟩
        have hmi : ∀ (ts : Array TypeId) (t : TypeId) (w : World), (Builtin.min_ ts t #[.int .i64 ((n : Int) - (m : Int)), .int .i64 ((st : Int) + 1)]).run Try.prog w = .ok (.int .i64 (cn : Int)) w := by
          intro ts t w
          rw [run_min_int2, show (if (st : Int) + 1 < (n : Int) - (m : Int) then (st : Int) + 1 else (n : Int) - (m : Int)) = (cn : Int) from by split <;> omega]
        have u1 : (n : Int) ≤ 64 := by omega
        have u2 : (m : Int) ≤ (n : Int) := by omega
        have u3 : (st : Int) ≤ 255 := by omega
        have u4 : (fz : Int) ≤ 65535 := bf.2
        have hS0 := Below.refl wS.heap.size wS
        have HCN := Lib.hid hcn
        clear hcn
        refine wpIn_loop_rounds 3 ?_
        rw [roundsIn_succ]
        gi_wp2
        have bt0 := b_alloc hS0 (.cells #[.int .i64 0] 3)
        have bn0 := Blk.new wS 3 #[.int .i64 0]
        obtain ⟨nb, hnb⟩ : ∃ nb, nb = wS.heap.size := ⟨_, rfl⟩
        have hnl : wS.heap.size < (wS.alloc (.cells #[.int .i64 0] 3)).heap.size := by simp
        have hws : wS.heap.size ≤ wS.heap.size := (hS0).size
        have bw0 : Below wS.heap.size wS (wS.alloc (.cells #[.int .i64 0] 3)) := b_alloc (Below.refl _ _) _
        rw [← hnb] at bn0 hnl hws ⊢
        generalize wS.alloc (.cells #[.int .i64 0] 3) = u0 at bt0 bn0 hnl bw0 ⊢
        have HNB := Lib.hid hnb
        have hSI0 : SI wS nb st ([], none) u0 := ⟨rfl, Nat.zero_le _, bn0, bw0⟩
        clear hnb bn0 bw0
        refine range_k rfl (by omega) (gf := 48) (lb := #[.pointer (some ⟨tb + 1 + 1, 0, none⟩)]) rfl trivial (enters_of Try.func48 (by kernel_rfl) rfl)
          (encs := sEnc) (G := aG b b most m A n cap xs (tb + 1 + 1)) (S := fun ys => ys = xs.drop m) (Sp := fun ys => ∃ j, j ≤ xs.length ∧ ys = (xs.take j).drop m) (fun _ => rfl) none (fun k hk => by cases hk)
          (fun W1 hW1 hs1 => since_iter _ (by omega) _ b b most m A n cap xs _ W1 (by omega) hmn)
          (SI wS nb st) (SX wS nb st)
          (by
            rintro s A1 A2 row ⟨q1, q2, q3, q4⟩ hg hr
            exact ⟨q1, q2, q3.turn hg (fun r e => (hr r e).2), below_turn q4 hg (fun r e => by have := (hr r e).1; have := HNB.out; omega) q4.size⟩)
          (by
            rintro c s A1 A2 row ⟨q0, q1, q3, q4⟩ hg hr
            exact ⟨q0, q1, q3.turn hg (fun r e => (hr r e).2), below_turn q4 hg (fun r e => by have := (hr r e).1; have := HNB.out; omega) q4.size⟩)
          (by
            rintro s A1 ⟨q1, q2, q3, q4⟩
            have q5 := b_then hS0 q4
            exact ⟨h6.later q5, (hY6.below q5 hY6.lt).cell 0⟩)
          hSI0 ?round ?done ?stop
        case round =>
          clear hSI0
          rintro l pre x r Wr hl1 hl2 hlr ⟨j, hj, hpre⟩ hI
          have hpl := congrArg List.length hpre
          obtain ⟨i, hi⟩ : ∃ i, i = m + pre.length := ⟨_, rfl⟩
          have hil : i < n := by have := HLN.out; simp at hpl; omega
          have hx : xs[i]? = some x := by
            have h0 := congrArg (·[pre.length]?) hpre
            simp only [List.getElem?_append_right (Nat.le_refl _), Nat.sub_self, List.getElem?_cons_zero, List.getElem?_drop, List.getElem?_take] at h0
            split at h0
            · rw [hi]; exact h0.symm
            · cases h0
          obtain ⟨L, hL⟩ : ∃ L, L = pre.length := ⟨_, rfl⟩
          have hsl : (pre ++ [x]).length = L + 1 := by simp [hL]
          rw [← hL] at hi
          have HSL := Lib.hid hsl
          have HLL := Lib.hid hL
          obtain ⟨pr, hpr⟩ : ∃ pr, pr = pre ++ [x] := ⟨_, rfl⟩
          rw [← hpr] at HSL ⊢
          clear hpre hpl hj hsl hL hpr
          simp only [sEnc, List.zip_toArray, List.zip_cons_cons, List.zip_nil_right, List.foldl_toArray, List.foldl_cons, List.foldl_nil, List.setIfInBounds_toArray, List.set_cons_zero, List.set_cons_succ]
          gi_wp2
          refine ⟨Rd.refl _ _ _, hI, fun o hIo => ?_⟩
          clear hI
          generalize Wr.putObj l o = Wq at hIo ⊢
          obtain ⟨q1, q2, q3, q4⟩ := hIo
          replace q2 : pre.length ≤ st := q2
          have q1 : r = none := q1
          subst q1
          replace q3 : Blk Wq nb 3 #[.int .i64 (pre.length : Nat)] := q3
          rw [← HLL.out] at q2 q3
          have q5 := b_then hS0 q4
          have cS := (x11.below q5 x11.lt).cell
          have cT := (hX6.below q5 hX6.lt).cell
          have cM := (hM6.below q5 hM6.lt).cell
          obtain ⟨g, rfl, _, _, cg, _⟩ := own_at (own_later o6 q5) (i := i) (u := .int .i64 x) (by rw [List.getElem?_map, hx]; rfl)
          have cN := q3.cell
          have fN := q3.frozen
          have qS := q3.set_ 0 (.int .i64 ((L : Int) + 1))
          have cN' := qS.cell
          have hgS : ∀ (p : Addr), p.block ≠ nb → (Wq.setCell ⟨nb, 0, none⟩ (.int .i64 ((L : Int) + 1))).cell? p = Wq.cell? p := fun p hp => World.cell?_setCell_other _ _ _ _ (fun e => by subst e; exact hp rfl)
          have cS' := (hgS ⟨W.heap.size, 0, none⟩ (by show W.heap.size ≠ nb; have := HNB.out; have := hX6.lt; omega)).trans (cS 0)
          have z1 : (m : Int) + (L : Int) = (i : Int) := by omega
          have z2 : (0 : Int) ≤ (i : Int) := by omega
          have z3 : (i : Int) < (n : Int) := by omega
          have z4 : decide (n ≤ i) = false := by rw [decide_eq_false_iff_not]; omega
          have z6 : (L : Int) ≤ 255 := by omega
          have hBn := q4.setCell (p := ⟨nb, 0, none⟩) (by show wS.heap.size ≤ nb; rw [HNB.out]; exact Nat.le_refl _) (.int .i64 ((L : Int) + 1))
          have hRn : Rd u0.heap.size none none Wq (Wq.setCell ⟨nb, 0, none⟩ (.int .i64 ((L : Int) + 1))) := (Rd.refl _ _ _).set_ (p := ⟨nb, 0, none⟩) (.inl (by show nb < u0.heap.size; omega)) _
          clear q3 q4 q5 hgS hi hx
          by_cases hLs : L + 1 ≤ st
          · have z8 : decide ((st : Int) < (L : Int) + 1) = false := by rw [decide_eq_false_iff_not]; omega
            have z9 : (L : Int) + 1 ≤ (st : Int) := by omega
            gi_wp2
            refine ⟨none, hRn, rfl, ?_, ?_, hBn⟩
            · show pr.length ≤ st
              rw [HSL.out]
              exact hLs
            · show Blk _ nb 3 #[.int .i64 ((pr.length : Nat) : Int)]
              rw [HSL.out]
              exact qS
          · have z8 : decide ((st : Int) < (L : Int) + 1) = true := by rw [decide_eq_true_eq]; omega
            have z9 : (st : Int) < (L : Int) + 1 := by omega
            gi_wp2
            refine ⟨none, hRn, rfl, rfl, ?_, hBn⟩
            have hLe : L = st := by omega
            rw [← hLe]
            exact qS
        case done =>
          rintro D ys r Wd hD hDr rfl ⟨q1, q2, q3, q4⟩ hK
          exact absurd (show (xs.drop m).length ≤ st from q2) (by rw [List.length_drop, HLN.out]; omega)
        case stop =>
          clear hSI0
          rintro D0 c pre r Wd hD0 hDr _ ⟨rfl, q1, q3, q4⟩ hK0
          replace q3 : Blk Wd nb 3 #[.int .i64 (cn : Nat)] := by rw [HCN.out]; exact q3
          have hDx0 : W.heap.size + 1 < D0 := by have := HS6.out; have := HNB.out; have := (hS0).size; omega
          have hb0s : Below wS.heap.size wS Wd := b_then hS0 q4
          obtain ⟨v1, hv⟩ : ∃ v, v = Wd := ⟨_, rfl⟩
          subst hv
          have cN := q3.cell
          have cS := (x11.below hb0s x11.lt).cell
          have cT := (hX6.below hb0s hX6.lt).cell
          have cM := (hM6.below hb0s hM6.lt).cell
          clear q3 q4 bt0 
          gi_wp2
          rw [roundsIn_succ]
          clear cN cS cT cM
          have lD0 := (Array.getElem?_eq_some_iff.1 hK0).1
          gi_wp2
          have bt1 := b_alloc hb0s (.cells #[.int .i64 0] 3)
          have bn1 := Blk.new v1 3 #[.int .i64 0]
          obtain ⟨nb, hnb⟩ : ∃ nb, nb = v1.heap.size := ⟨_, rfl⟩
          have hnl : v1.heap.size < (v1.alloc (.cells #[.int .i64 0] 3)).heap.size := by simp
          have hws : wS.heap.size ≤ v1.heap.size := (hb0s).size
          have bw1 : Below v1.heap.size v1 (v1.alloc (.cells #[.int .i64 0] 3)) := b_alloc (Below.refl _ _) _
          rw [← hnb] at bn1 hnl hws ⊢
          generalize v1.alloc (.cells #[.int .i64 0] 3) = u1 at bt1 bn1 hnl bw1 ⊢
          have HNB := Lib.hid hnb
          have hSI0 : SI v1 nb st ([], none) u1 := ⟨rfl, Nat.zero_le _, bn1, bw1⟩
          clear hnb bn1 bw1
          refine range_k rfl (by omega) (gf := 48) (lb := #[.pointer (some ⟨tb + 1 + 1, 0, none⟩)]) rfl trivial (enters_of Try.func48 (by kernel_rfl) rfl)
            (encs := sEnc) (G := aG b b most m A n cap xs (tb + 1 + 1)) (S := fun ys => ys = xs.drop m) (Sp := fun ys => ∃ j, j ≤ xs.length ∧ ys = (xs.take j).drop m) (fun _ => rfl) none (fun k hk => by cases hk)
            (fun W1 hW1 hs1 => since_iter _ (by omega) _ b b most m A n cap xs _ W1 (by omega) hmn)
            (SI v1 nb st) (SX v1 nb st)
            (by
              rintro s A1 A2 row ⟨q1, q2, q3, q4⟩ hg hr
              exact ⟨q1, q2, q3.turn hg (fun r e => (hr r e).2), below_turn q4 hg (fun r e => by have := (hr r e).1; have := HNB.out; omega) q4.size⟩)
            (by
              rintro c s A1 A2 row ⟨q0, q1, q3, q4⟩ hg hr
              exact ⟨q0, q1, q3.turn hg (fun r e => (hr r e).2), below_turn q4 hg (fun r e => by have := (hr r e).1; have := HNB.out; omega) q4.size⟩)
            (by
              rintro s A1 ⟨q1, q2, q3, q4⟩
              have q5 := b_then hb0s q4
              exact ⟨h6.later q5, (hY6.below q5 hY6.lt).cell 0⟩)
            hSI0 ?round ?done ?stop
          case round =>
            clear hSI0
            rintro l pre x r Wr hl1 hl2 hlr ⟨j, hj, hpre⟩ hI
            have hpl := congrArg List.length hpre
            obtain ⟨i, hi⟩ : ∃ i, i = m + pre.length := ⟨_, rfl⟩
            have hil : i < n := by have := HLN.out; simp at hpl; omega
            have hx : xs[i]? = some x := by
              have h0 := congrArg (·[pre.length]?) hpre
              simp only [List.getElem?_append_right (Nat.le_refl _), Nat.sub_self, List.getElem?_cons_zero, List.getElem?_drop, List.getElem?_take] at h0
              split at h0
              · rw [hi]; exact h0.symm
              · cases h0
            obtain ⟨L, hL⟩ : ∃ L, L = pre.length := ⟨_, rfl⟩
            have hsl : (pre ++ [x]).length = L + 1 := by simp [hL]
            rw [← hL] at hi
            have HSL := Lib.hid hsl
            have HLL := Lib.hid hL
            obtain ⟨pr, hpr⟩ : ∃ pr, pr = pre ++ [x] := ⟨_, rfl⟩
            rw [← hpr] at HSL ⊢
            clear hpre hpl hj hsl hL hpr
            simp only [sEnc, List.zip_toArray, List.zip_cons_cons, List.zip_nil_right, List.foldl_toArray, List.foldl_cons, List.foldl_nil, List.setIfInBounds_toArray, List.set_cons_zero, List.set_cons_succ]
            gi_wp2
            refine ⟨Rd.refl _ _ _, hI, fun o hIo => ?_⟩
            clear hI
            generalize Wr.putObj l o = Wq at hIo ⊢
            obtain ⟨q1, q2, q3, q4⟩ := hIo
            replace q2 : pre.length ≤ st := q2
            have q1 : r = none := q1
            subst q1
            replace q3 : Blk Wq nb 3 #[.int .i64 (pre.length : Nat)] := q3
            rw [← HLL.out] at q2 q3
            have q5 := b_then hb0s q4
            have cS := (x11.below q5 x11.lt).cell
            have cT := (hX6.below q5 hX6.lt).cell
            have cM := (hM6.below q5 hM6.lt).cell
            obtain ⟨g, rfl, _, _, cg, _⟩ := own_at (own_later o6 q5) (i := i) (u := .int .i64 x) (by rw [List.getElem?_map, hx]; rfl)
            have cN := q3.cell
            have fN := q3.frozen
            have qS := q3.set_ 0 (.int .i64 ((L : Int) + 1))
            have cN' := qS.cell
            have hgS : ∀ (p : Addr), p.block ≠ nb → (Wq.setCell ⟨nb, 0, none⟩ (.int .i64 ((L : Int) + 1))).cell? p = Wq.cell? p := fun p hp => World.cell?_setCell_other _ _ _ _ (fun e => by subst e; exact hp rfl)
            have cS' := (hgS ⟨W.heap.size, 0, none⟩ (by show W.heap.size ≠ nb; have := HNB.out; have := hX6.lt; omega)).trans (cS 0)
            have z1 : (m : Int) + (L : Int) = (i : Int) := by omega
            have z2 : (0 : Int) ≤ (i : Int) := by omega
            have z3 : (i : Int) < (n : Int) := by omega
            have z4 : decide (n ≤ i) = false := by rw [decide_eq_false_iff_not]; omega
            have z6 : (L : Int) ≤ 255 := by omega
            have hBn := q4.setCell (p := ⟨nb, 0, none⟩) (by show v1.heap.size ≤ nb; rw [HNB.out]; exact Nat.le_refl _) (.int .i64 ((L : Int) + 1))
            have hRn : Rd u1.heap.size none none Wq (Wq.setCell ⟨nb, 0, none⟩ (.int .i64 ((L : Int) + 1))) := (Rd.refl _ _ _).set_ (p := ⟨nb, 0, none⟩) (.inl (by show nb < u1.heap.size; omega)) _
            clear q3 q4 q5 hgS hi hx
            by_cases hLs : L + 1 ≤ st
            · have z8 : decide ((st : Int) < (L : Int) + 1) = false := by rw [decide_eq_false_iff_not]; omega
              have z9 : (L : Int) + 1 ≤ (st : Int) := by omega
              gi_wp2
              refine ⟨none, hRn, rfl, ?_, ?_, hBn⟩
              · show pr.length ≤ st
                rw [HSL.out]
                exact hLs
              · show Blk _ nb 3 #[.int .i64 ((pr.length : Nat) : Int)]
                rw [HSL.out]
                exact qS
            · have z8 : decide ((st : Int) < (L : Int) + 1) = true := by rw [decide_eq_true_eq]; omega
              have z9 : (st : Int) < (L : Int) + 1 := by omega
              gi_wp2
              refine ⟨none, hRn, rfl, rfl, ?_, hBn⟩
              have hLe : L = st := by omega
              rw [← hLe]
              exact qS
          case done =>
            rintro D ys r Wd hD hDr rfl ⟨q1, q2, q3, q4⟩ hK
            exact absurd (show (xs.drop m).length ≤ st from q2) (by rw [List.length_drop, HLN.out]; omega)
          case stop =>
            clear hSI0
            rintro D1 c pre r Wd hD1 hDr _ ⟨rfl, q1, q3, q4⟩ hK1
            replace q3 : Blk Wd nb 3 #[.int .i64 (cn : Nat)] := by rw [HCN.out]; exact q3
            have hDx1 : W.heap.size + 1 < D1 := by have := HS6.out; have := HNB.out; have := (hb0s).size; omega
            have hb1s : Below wS.heap.size wS Wd := b_then hb0s q4
            have hK0' : Wd.heap[D0]? = some (.deferred (some [])) := (q4.block D0 (Array.getElem?_eq_some_iff.1 hK0).1).trans hK0
            obtain ⟨v2, hv⟩ : ∃ v, v = Wd := ⟨_, rfl⟩
            subst hv
            have cN := q3.cell
            have cS := (x11.below hb1s x11.lt).cell
            have cT := (hX6.below hb1s hX6.lt).cell
            have cM := (hM6.below hb1s hM6.lt).cell
            clear q3 q4 bt1 
            have hDD : D0 < D1 := by have := HNB.out; omega
            gi_wp2
            rw [roundsIn_succ]
            gi_wp2
            have hS := h6.later hb1s
            have oS := own_later o6 hb1s
            have hBS := b_then hB6 hb1s
            have eS := x11.below hb1s x11.lt
            have eR := x12.below hb1s x12.lt
            have eT := hX6.below hb1s hX6.lt
            have eM := hM6.below hb1s hM6.lt
            have e1 : (m : Int) - 1 - fz < (m : Int) := by omega
            have e2 : (n : Int) < (n : Int) + 1 + fz := by omega
            clear cN cS cT cM hmi hb0s hb1s hnl hws hK0 h6 hY6 hM6 hX6 x11 x12 hB6 o6
            have cT := eT.cell
            have cM := eM.cell
            refine ⟨trivial, (callsIn_wide.2 (Hi.Cut_err b b most m n cap A xs _ hS ((m : Int) - 1 - fz) (.inl e1))).mono ?_⟩
            rintro e w' ⟨rfl, rfl⟩
            gi_wp2
            refine ⟨trivial, (callsIn_wide.2 (Hi.Cut_err b b most m n cap A xs _ hS ((n : Int) + 1 + fz) (.inr e2))).mono ?_⟩
            rintro e w' ⟨rfl, rfl⟩
            gi_wp2
            refine ⟨trivial, (callsIn_wide.2 (Hi.elements_any b b most m A n cap xs most _ hS hnm (by omega))).mono ?_⟩
            rintro e w8 ⟨⟨A8, c8, rfl, o8⟩, hb8⟩
            have hS8 := hS.later hb8
            have oS8 := own_later oS hb8
            have hB8 := b_then hBS hb8
            have eR8 := eR.below hb8 eR.lt
            have eT8 := eT.below hb8 eT.lt
            have eM8 := eM.below hb8 eM.lt
            have hK8a : w8.heap[D0]? = some (.deferred (some [])) := (hb8.block D0 (Array.getElem?_eq_some_iff.1 hK0').1).trans hK0'
            have hK8b : w8.heap[D1]? = some (.deferred (some [])) := (hb8.block D1 (Array.getElem?_eq_some_iff.1 hK1).1).trans hK1
            clear hS oS hBS eS eR eT eM cT cM hb8 hK0' hK1
            gi_wp2
            have gEq : ∀ w, Below w8.heap.size w8 w → Calls Try.prog 15 #[.slice A3 n c3, .slice A8 n c8] w fun e w' => e = .returned (.bool true) ∧ Below w.heap.size w w' := fun w hw => (eqi_any A3 A8 n c3 c8 xs w HLN.out ((RI.of_row oS8).later hw) ((RI.of_row o8).later hw) (by unfold maxLen; omega)).mono (by rintro e w' ⟨he, q, rfl⟩; exact ⟨he, below_drewN (Below.refl _ _) q⟩)
            have gMk : ∀ w, Below w8.heap.size w8 w → Calls Try.prog 14 #[.pointer (some ⟨b, 0, none⟩)] w fun e w' => e = .returned (.int .i64 m) ∧ w = w' := fun w hw => Hi.Marked_any b b most m n cap A xs w (hS8.later hw)
            have gT := eT8.cell
            have gM := eM8.cell
            have lT := eT8.lt
            have lM := eM8.lt
            have lR := eR8.lt
            refine wpIn_wide.2 ?_
            have lDa := (Array.getElem?_eq_some_iff.1 hK8a).1
            have lDb := (Array.getElem?_eq_some_iff.1 hK8b).1
            have nDa : W.heap.size + 1 < D0 := hDx0
            have nDb : W.heap.size + 1 < D1 := hDx1
            go_cut [15] from 129 to 146 (fun s15 wx => s15 = .bool true ∧ KF W D0 D1 wx)
            case first =>
              refine wp_noexit ?_
              go_region_with (first
                | ((with_reducible refine (gEq _ (by first | exact Below.refl _ _ | exact (Below.refl _ _).drew | assumption | exact Below.drew (by assumption))).mono ?_); rintro e w9 ⟨rfl, hb9⟩; have hy9 : Below w8.heap.size w8 w9 := (by first | exact hb9 | exact b_then (Below.refl _ _).drew hb9); have gT9 := (eT8.below hy9 lT).cell; have gM9 := (eM8.below hy9 lM).cell)
                | ((with_reducible refine (gMk _ (by first | exact Below.refl _ _ | exact (Below.refl _ _).drew | assumption | exact Below.drew (by assumption))).mono ?_); rintro e w' ⟨rfl, rfl⟩)
                | ((with_reducible refine (works_true _).mono ?_); rintro e wz ⟨rfl, hbz⟩; have hz9 : Below w8.heap.size w8 wz := (by first | exact b_then (by assumption) hbz | exact b_then (Below.refl _ _).drew hbz); have gR9 := (eR8.below hz9 lR).cell; have fR9 := (eR8.below hz9 lR).frozen))
              all_goals
                (go_wp2
                 go_meet
                 refine ⟨rfl, ?_⟩
                 have eRz := (eR8.below hz9 lR).set_ 0 (.bool true)
                 have hBz := (b_then hB8 hz9).setCell (p := ⟨W.heap.size + 1, 0, none⟩) (by show W.heap.size ≤ W.heap.size + 1; omega) (.bool true)
                 exact ⟨eRz, hBz, (Below.heap_setCell _ _ _ D0 (by show D0 ≠ W.heap.size + 1; omega)).trans ((hz9.block D0 lDa).trans hK8a), (Below.heap_setCell _ _ _ D1 (by show D1 ≠ W.heap.size + 1; omega)).trans ((hz9.block D1 lDb).trans hK8b)⟩)
            case rest =>
              obtain ⟨rfl, eRz, hBz, kDa, kDb⟩ := hcut
              clear gEq gMk gT gM
              gi_wp2
              have key : ∀ wx : World, wx.heap[D0]? = some (.deferred (some [])) → (wx.putObj D1 (.deferred none)).heap[D0]? = some (.deferred (some [])) := fun wx h => (World.putObj_heap_other (show D0 ≠ D1 by omega)).trans h
              have kDb' := key _ kDa
              refine ⟨by simp, .inl ⟨_, _, rfl, run_takeDeferred kDb, ?_⟩⟩
              refine ⟨by simp, .inl ⟨_, _, rfl, run_takeDeferred kDb', ?_⟩⟩
              have g4 := ((eRz.putObj (l := D1) (by omega) (.deferred none)).putObj (l := D0) (by omega) (.deferred none)).cell
              exact ⟨_, by simp [results, Try.results4, go_sem, g4], rfl, (hBz.trans (below_putObj _ D1 (.deferred none) (by omega))).trans (below_putObj _ D0 (.deferred none) (by omega))⟩

set_option maxRecDepth 100000 in
theorem lifted (os : Os) (started : os.Started) (H : Type) (enc : TypeId × Value → H) :
    ReturnsInHanded {} Try.checked os 4 .any (Rows.historyStopsSpec.pre6 enc Try.prog Try.f4 Rows.historyStopsRow.domain false) (Rows.historyStopsSpec.post enc Try.prog Try.f4 false true false false) := by
  refine returnsInHanded_of_change (C := Try.checked) own started (by kernel_rfl) Try.func4
    (ChangeSpec.witness6 (enc := enc) (C := Try.checked) false ⟨#[], #[.int .u8 0, .slice none 0 0, .int .u8 0, .int .u16 0], []⟩ 8 (by kernel_rfl) (by kernel_rfl) (by kernel_rfl) (by kernel_rfl)) ?_
  intro W base args ds gs before hval0 hW hcnd _
  have hval : ∀ (j : Nat) t v, Try.f4.params[j]? = some t → args[j]? = some v → Value.okWide Try.prog W .any base t v := hval0
  have hW' := hW
  obtain ⟨p, q, hA0, hV, rfl, hfz, hnd⟩ := hW
  have hA : DataW.TrodAll enc Try.prog W 0 (fun _ => true) true Try.f4.params.toList args.toList ds p := hA0
  rw [Try.params4] at hA hval
  obtain ⟨v0, vs0, d0, ds0, p0, q0, hargs, rfl, rfl, h0, r0⟩ := trodAll_cons hA
  obtain ⟨v1, vs1, d1, ds1, p1, q1, rfl, rfl, rfl, h1, r1⟩ := trodAll_cons r0
  obtain ⟨v2, vs2, d2, ds2, p2, q2, rfl, rfl, rfl, h2, r2⟩ := trodAll_cons r1
  obtain ⟨v3, vs3, d3, ds3, p3, q3, rfl, rfl, rfl, h3, r3⟩ := trodAll_cons r2
  obtain ⟨rfl, rfl, rfl⟩ := trodAll_nil r3
  obtain rfl : args = #[v0, v1, v2, v3] := by cases args; simp_all
  obtain ⟨rfl, rfl⟩ := trodVars_none hV
  refine (walk (H := H) (enc := enc) W base (hval 0 5 v0 rfl rfl) h0 (hval 1 22 v1 rfl rfl) h1 (hval 2 5 v2 rfl rfl) h2 (hval 3 28 v3 rfl rfl) h3).mono fun e W' ⟨he, bel⟩ => ?_
  subst he
  exact ⟨_, rfl, _, _, _, [], _, [], hW', trodAll_mk1 (shut_bool Try.underlying4 _), (trodAll_cons_mk (Below.trod laidOut (by kernel_rfl) (of_decide_eq_true (by kernel_rfl)) h0 bel (lt_of_Trod h0)) (trodAll_cons_mk (Below.trod laidOut (by kernel_rfl) (of_decide_eq_true (by kernel_rfl)) h1 bel (lt_of_Trod h1)) (trodAll_cons_mk (Below.trod laidOut (by kernel_rfl) (of_decide_eq_true (by kernel_rfl)) h2 bel (lt_of_Trod h2)) (trodAll_cons_mk (Below.trod laidOut (by kernel_rfl) (of_decide_eq_true (by kernel_rfl)) h3 bel (lt_of_Trod h3)) trodAll_mk0)))), rfl, bel.frame _, fun h => by cases h⟩

/-- HistoryStops: for every limit, list of moves, place to stop and number the law returns true and changes nothing. No condition. -/
theorem proved : Rows.HistoryStopsSaid :=
  OpenClaim.holds_of_wide 4 Try.f4 rfl rfl rfl rfl rfl rfl rfl ⟨rfl, rfl, rfl, rfl, rfl⟩ rfl rfl rfl rfl rfl (by kernel_rfl) Try.func4 (by kernel_rfl)
    (of_decide_eq_true (by kernel_rfl)) (by unfold Func.isWrapper; first | (rw [if_pos (by decide +kernel)]; kernel_rfl) | (rw [if_neg (by decide +kernel)]; exact ⟨rfl, rfl⟩))
    (fun os started H enc _ => lifted os started H enc)
#print axioms proved
end Go.Proofs.Ytohnoioblhkepaa.historyStops
