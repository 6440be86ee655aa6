/-
  HistoryParts: for every limit and every list of moves the law returns true and changes nothing. No condition.
-/
import Derived.Test.YtohnoioblhkepaaOpen
import Derived.Test.YtohnoioblhkepaaWks
import Derived.Test.YtohnoioblhkepaaMvd
import Derived.Test.YtohnoioblhkepaaCoi
import Derived.Test.YtohnoioblhkepaaMov
namespace Go.Proofs.Ytohnoioblhkepaa.historyParts
open Go.ChangeShapes Go.WideShapes Go.ChangeAt Go.RowKit
open Go.ChangeMaps (open_string shut_string)
set_option linter.unusedSimpArgs false
set_option linter.unusedVariables false

open Go.Proofs.Ytohnoioblhkepaa.Hi (Is aG sEnc since_iter)
open Go.Shelf
attribute [local go_sem] Oper.semAt_some
/-- the list between two moves; the law's two boxes -/
def CRel (W : World) (b most p : Nat) (i : Value) (wr : World) : Prop :=
  ∃ (k m n cap : Nat) (A : Option Addr) (xs : List Int), k ≤ p ∧ i = .int .i64 k ∧ Is wr b b most m A n cap xs ∧ m ≤ n ∧ n ≤ most ∧ Below W.heap.size W wr ∧ Blk wr W.heap.size 4 #[.bool false] ∧ Blk wr (W.heap.size + 1) 3 #[.int .i64 most]
/-- between two rounds of the range over the others -/
def PI (w4 : World) (b m rb sb : Nat) (xs : List Int) (s : List Int × Option Nat) (W : World) : Prop :=
  ∃ (A' : Option Addr) (cap' : Nat), s.2 = rowOf A' ∧ W.ownsRow w4.heap.size 3 1 (.slice A' (m + s.1.length) cap') (m + s.1.length) ((xs.take m ++ s.1).map (Value.int .i64)) ∧ Blk W rb 27 #[.slice A' (m + s.1.length) cap'] ∧ Blk W sb 23 #[.pointer (some ⟨b, 0, none⟩)] ∧ some rb ≠ s.2 ∧ some sb ≠ s.2 ∧ Below w4.heap.size w4 W
theorem own_cut' {w : World} {base : Nat} {e : TypeId} {n cap k : Nat} {A : Option Addr} {xs : List Value} (h : w.ownsRow base e 1 (.slice A n cap) n xs) (hk : k ≤ n) : w.ownsRow base e 1 (.slice A k cap) k (xs.take k) := by
  rcases own_shape h with ⟨rfl, rfl, rfl, _, rfl⟩ | ⟨g, rfl, _⟩
  · obtain rfl : k = 0 := by omega
    exact World.ownsRow_nil _ _ _ _
  · exact own_cut h hk

set_option maxHeartbeats 6400000 in
set_option maxRecDepth 100000 in
theorem walk {H : Type} {enc : TypeId × Value → H} (W : World) (base : Nat) {v0 v1 : Value} {d0 d1 : DataW H} {p0 p1 : List MemPlace} (o0 : Value.okWide Try.prog W .any base 5 v0) (h0 : DataW.Trod enc Try.prog W 0 (fun _ => true) true 5 v0 d0 p0) (o1 : Value.okWide Try.prog W .any base 22 v1) (h1 : DataW.Trod enc Try.prog W 0 (fun _ => true) true 22 v1 d1 p1) :
    Calls Try.prog 6 #[v0, v1] W fun e W' => e = .returned (.bool true) ∧ Below W.heap.size W W' := by
  obtain ⟨lz, rfl, rfl, rfl, wl⟩ := open_int Try.underlying5 o0 h0
  have bl := bounds_u8 wl
  obtain ⟨ml, rfl⟩ : ∃ ml : Nat, lz = (ml : Int) := ⟨lz.toNat, by omega⟩
  clear wl o0 h0
  obtain ⟨most, hmost⟩ : ∃ most : Nat, most = 1 + ml % 64 := ⟨_, rfl⟩
  have y1 : 1 + (ml : Int) % 64 = (most : Int) := by omega
  have y2 : 1 ≤ most := by omega
  have y3 : most ≤ 64 := by omega
  clear hmost
  obtain ⟨am, lm, cm, K, N, rfl, hmv⟩ := open_moves o1 h1
  clear o1 h1
  obtain ⟨pp, hpp⟩ : ∃ pp : Nat, pp = min lm 150 := ⟨_, rfl⟩
  have p1 : (if (150 : Int) < (lm : Int) then (150 : Int) else (lm : Int)) = (pp : Int) := by split <;> omega
  have p2 : pp ≤ 150 := by omega
  have p3 : pp ≤ lm := by omega
  have p4 : lm ≤ cm := hmv.1
  have p5 : lm ≤ 9223372036854775807 := by have := hmv.2.1; unfold maxLen at this; omega
  have HMV := Lib.hid hmv
  clear hpp hmv
  refine (callsIn_wide (n := 9)).1 ?_
  refine callsIn_of_wp_marks Try.func6 rfl trivial ?_ rfl
  simp only [Try.ntmps6, List.size_toArray, List.length_cons, List.length_nil, Nat.reduceAdd, Nat.reduceSub, Array.replicate_succ, Array.replicate_zero, List.push_toArray, List.append_toArray, List.nil_append, List.cons_append]
  gi_wp2
  refine ⟨trivial, (callsIn_wide.2 (Hi.New_ok most _ (by omega))).mono ?_⟩
  rintro e w1 ⟨b, rfl, h1, hz1, hb1⟩
  have x1 := (Blk.alloc (Blk.new W 4 #[.bool false]) (.cells #[.int .i64 most] 3)).below hb1 (by simp <;> omega)
  have x2 : Blk w1 (W.heap.size + 1) 3 #[.int .i64 most] := by
    have h := Blk.new (W.alloc (.cells #[.bool false] 4)) 3 #[.int .i64 most]
    rw [World.size_alloc] at h
    exact h.below hb1 (by simp)
  have hB1 : Below W.heap.size W w1 := b_then (b_alloc (b_alloc (Below.refl _ _) _) _) hb1
  simp only [World.size_alloc] at hz1
  clear hb1
  gi_wp2
  gi_loopw [43] (CRel W b most pp) (fun i _ => pp - (intOf i).toNat)
  case atStart => exact ⟨0, 0, 0, 0, none, [], by omega, rfl, h1, by omega, by omega, hB1, x1, x2⟩
  case round =>
    obtain ⟨k, m, n, cap, A, xs, hk, rfl, h, hmn, hnm, hB, x3, x4⟩ := hrel
    clear h1 hB1 x1 x2
    have c4 := x4.cell
    by_cases hlt : k < pp
    · have z1 : (k : Int) < (pp : Int) := by omega
      have z2 : (0 : Int) ≤ (k : Int) := by omega
      have z3 : (k : Int) < (lm : Int) := by omega
      obtain ⟨hq1, hq2, hq3, hq4⟩ := HMV.out
      obtain ⟨bm, om, rfl, hbm, hcm⟩ := hq4 (by omega)
      obtain ⟨c0, c1⟩ := hcm k (by omega)
      obtain ⟨k0, k1, n0, n1⟩ := hq3 k (by omega)
      obtain ⟨kk, hkk⟩ : ∃ kk : Nat, K k = (kk : Int) := ⟨(K k).toNat, by omega⟩
      obtain ⟨nn, hnn⟩ : ∃ nn : Nat, N k = (nn : Int) := ⟨(N k).toNat, by omega⟩
      rw [hkk] at c0 k1
      rw [hnn] at c1 n1
      have c0 : wr.cell? ⟨bm, om + k * 2, none⟩ = some (.int .u8 kk) := (hB.cell hbm).trans c0
      have c1 : wr.cell? ⟨bm, om + k * 2 + 1, none⟩ = some (.int .u16 nn) := (hB.cell hbm).trans (by rw [Nat.add_assoc]; exact c1)
      have k1 : kk ≤ 255 := by omega
      have n1 : nn ≤ 65535 := by omega
      have hbm' : bm < wr.heap.size := Nat.lt_of_lt_of_le hbm hB.size
      clear hq1 hq2 hq3 hcm hkk hnn hbm k0 n0
      have hl4 := x4.lt
      gi_wp2
      refine ⟨trivial, (callsIn_wide.2 (Hi.moved_any b b most m n cap kk nn A xs _ (h.alloc (.cells #[.int .u8 kk, .int .u16 nn] 30)) k1 n1 hmn hnm (by omega) (by simp; have := h.lt; omega))).mono ?_⟩
      rintro e w2 ⟨A2, cap2, rfl, h2, hO2, hr2⟩
      obtain ⟨hm2, hn2⟩ := Hi.mv_ok (most := most) (k := kk) (N := nn) (m := m) (xs := xs) (by rw [h.len]; exact hmn) (by rw [h.len]; exact hnm)
      have ha := h.alloc (.cells #[.int .u8 kk, .int .u16 nn] 30)
      have hB2 : Below W.heap.size W w2 := ha.keptI (b_alloc hB _) (by omega) (Nat.le_refl _) hO2
      have hro := fun g hg => (own_row ha.own g hg).1
      have x5 := hO2.blk (x3.alloc _) (by omega) (fun e => by have := hro _ e.symm; omega)
      have x6 := hO2.blk (x4.alloc _) (by omega) (fun e => by have := hro _ e.symm; omega)
      clear h ha c0 c1 hO2 hB hr2 x3 x4 hro c4
      gi_wp2
      go_roundw
      case rel => exact ⟨k + 1, _, _, cap2, A2, _, by omega, by go_num, h2, hm2, hn2, hB2, x5, x6⟩
      case measure => simp [intOf]; omega
    · obtain rfl : k = pp := by omega
      gi_wp2
      refine ⟨trivial, (callsIn_wide.2 (Hi.elements_any b b most m A n cap xs most _ h hnm (by omega))).mono ?_⟩
      rintro e w3 ⟨⟨A3, c3, rfl, o3⟩, hb3⟩
      have h3 := h.later hb3
      have x5 := x3.below hb3 x3.lt
      have x6 := x4.below hb3 x4.lt
      have hB3 := b_then hB hb3
      have o3' := own_base o3 (show W.heap.size ≤ _ from hB.size)
      have hcp := (own_cap o3).2
      have hcm3 := hcp.2
      unfold maxLen at hcm3
      have z5 : (m : Int) ≤ (c3 : Int) := by omega
      have z6 : decide (n < m) = false := by rw [decide_eq_false_iff_not]; omega
      have z7 : (m : Int) ≤ (n : Int) := by omega
      clear h x3 x4 hB hb3 o3 c4
      gi_wp2
      refine ⟨trivial, (callsIn_wide.2 (Hi.Marked_any b b most m n cap A xs _ h3)).mono ?_⟩
      rintro e w' ⟨rfl, rfl⟩
      gi_wp2
      refine ⟨trivial, (callsIn_wide.2 (Hi.Marked_any b b most m n cap A xs _ h3)).mono ?_⟩
      rintro e w' ⟨rfl, rfl⟩
      gi_wp2
      refine ⟨trivial, (callsIn_wide.2 (Hi.Marked_any b b most m n cap A xs _ h3)).mono ?_⟩
      rintro e w' ⟨rfl, rfl⟩
      gi_wp2
      refine ⟨trivial, (callsIn_wide.2 (Hi.cl_any W.heap.size m c3 A3 (xs.take m) _ (by have := own_cut' o3' hmn; rwa [← List.map_take] at this) (by omega))).mono ?_⟩
      rintro e w5 ⟨⟨A5, c5, rfl, o5⟩, hb5⟩
      have hl5 := hb5.size
      have hWl : W.heap.size ≤ w5.heap.size := Nat.le_trans hB3.size hl5
      have hX5 := Blk.new w5 27 #[.slice A5 m c5]
      have hb6 : Below w3.heap.size w3 (w5.alloc (.cells #[.slice A5 m c5] 27)) := b_alloc hb5 _
      have o6 := own_later o5 (b_alloc (Below.refl _ w5) (.cells #[.slice A5 m c5] 27))
      have hr5 := fun g hg => (own_row o5 g hg).2
      have hl6 : w5.heap.size < (w5.alloc (.cells #[.slice A5 m c5] 27)).heap.size := by simp
      clear o5 hb5
      gi_wp2
      refine ⟨trivial, (callsIn_wide.2 (Hi.Since_any _ _)).mono ?_⟩
      rintro e w' ⟨rfl, rfl⟩
      gi_wp2
      obtain ⟨rb, hrb⟩ : ∃ rb, rb = w5.heap.size := ⟨_, rfl⟩
      rw [← hrb] at hX5 hr5 hl6 hl5 hWl ⊢
      have hs6 : (w5.alloc (.cells #[.slice A5 m c5] 27)).heap.size = rb + 1 := by rw [World.size_alloc, hrb]
      generalize hw6 : w5.alloc (.cells #[.slice A5 m c5] 27) = w6 at hX5 hb6 o6 hl6 hs6 ⊢
      obtain ⟨sb, hsb⟩ : ∃ sb, sb = rb + 1 := ⟨_, rfl⟩
      rw [← hsb] at hs6
      have hY7 := Blk.new w6 23 #[.pointer (some ⟨b, 0, none⟩)]
      have hX7 := hX5.alloc (.cells #[.pointer (some ⟨b, 0, none⟩)] 23)
      have hb7 := b_alloc hb6 (.cells #[.pointer (some ⟨b, 0, none⟩)] 23)
      have o7 := own_later o6 (b_alloc (Below.refl _ w6) (.cells #[.pointer (some ⟨b, 0, none⟩)] 23))
      have hl7 : w6.heap.size < (w6.alloc (.cells #[.pointer (some ⟨b, 0, none⟩)] 23)).heap.size := by simp
      rw [hs6] at hY7 hl6 hl7
      rw [← hsb]
      generalize hw7 : w6.alloc (.cells #[.pointer (some ⟨b, 0, none⟩)] 23) = w7 at hY7 hX7 hb7 o7 hl7 ⊢
      clear hrb hw6 hs6 hw7 hX5 hb6 o6
      have HSB := Lib.hid hsb
      clear hsb
      have HLN := Lib.hid h3.len
      have hI0 : PI w3 b m rb sb xs ([], rowOf A5) w7 := ⟨A5, c5, rfl, by simpa using o7, hX7, hY7, fun e => by have := hr5 _ e.symm; omega, fun e => by have := hr5 _ e.symm; omega, hb7⟩
      refine range_k rfl (by omega) (gf := 48) (lb := #[.pointer (some ⟨sb, 0, none⟩)]) rfl trivial (enters_of Try.func48 (by kernel_rfl) rfl)
        (encs := sEnc) (G := aG b b most m A n cap xs sb) (S := fun ys => ys = xs.drop m) (Sp := fun ys => ∃ j, j ≤ xs.length ∧ ys = (xs.take j).drop m) (fun _ => rfl) (rowOf A5) (fun k hk => by have := hr5 k hk; omega)
        (fun W1 hW1 hs1 => since_iter _ (by omega) _ b b most m A n cap xs _ W1 (by omega) hmn)
        (PI w3 b m rb sb xs) (fun _ _ _ => False)
        (by
          rintro s A1 A2 row ⟨A', cap', q1, q2, q3, q4, q5, q6, q7⟩ hg hr
          have hr' := fun r e => (hr r e).2
          exact ⟨A', cap', q1, own_turn' q2 hg hr', q3.turn hg hr', q4.turn hg hr', q5, q6, below_turn q7 hg (fun r e => by have := (hr r e).1; omega) q7.size⟩)
        (fun _ _ _ _ _ h _ _ => h)
        (by
          rintro s A1 ⟨A', cap', q1, q2, q3, q4, q5, q6, q7⟩
          exact ⟨h3.later q7, q4.cell 0⟩)
        hI0 ?round ?done ?stop
      case stop => exact fun D c pre r W hD _ _ h _ => h.elim
      case round =>
        clear hI0 hX7 hY7 o7
        rintro l pre x r Wr hl1 hl2 hlr ⟨j, hj, hpre⟩ hI
        have hpl := congrArg List.length hpre
        have hil : m + pre.length < n := by have := HLN.out; simp at hpl; omega
        have hsl : (pre ++ [x]).length = pre.length + 1 := by simp
        have hsm : ((xs.take m ++ (pre ++ [x])).map (Value.int .i64)) = (xs.take m ++ pre).map (Value.int .i64) ++ [.int .i64 x] := by simp
        obtain ⟨pr, hpr⟩ : ∃ pr, pr = pre ++ [x] := ⟨_, rfl⟩
        rw [← hpr] at hsl hsm ⊢
        clear hpre hpl hj
        obtain ⟨i, hi⟩ : ∃ i, i = m + pre.length := ⟨_, rfl⟩
        have hsl2 : m + pr.length = i + 1 := by omega
        obtain ⟨FL, hFL⟩ : ∃ FL, FL = (xs.take m ++ pre).map (Value.int .i64) := ⟨_, rfl⟩
        rw [← hFL] at hsm
        rw [← hi] at hil
        have HI := Lib.hid hi
        have HFL := Lib.hid hFL
        have HSL := Lib.hid hsl2
        have HSM := Lib.hid hsm
        clear hi hFL hsl hsl2 hsm hpr
        simp only [sEnc, List.zip_toArray, List.zip_cons_cons, List.zip_nil_right, List.foldl_toArray, List.foldl_cons, List.foldl_nil, List.setIfInBounds_toArray, List.set_cons_zero, List.set_cons_succ]
        gi_wp2
        refine ⟨Rd.refl _ _ _, hI, fun o hIo => ?_⟩
        clear hI
        generalize Wr.putObj l o = Wq at hIo ⊢
        obtain ⟨A', cap', q1, q2, q3, q4, q5, q6, q7⟩ := hIo
        have q1 : r = rowOf A' := q1
        subst q1
        replace q2 : Wq.ownsRow w3.heap.size 3 1 (.slice A' (m + pre.length) cap') (m + pre.length) ((xs.take m ++ pre).map (Value.int .i64)) := q2
        replace q3 : Blk Wq rb 27 #[.slice A' (m + pre.length) cap'] := q3
        rw [← HI.out, ← HFL.out] at q2
        rw [← HI.out] at q3
        have hro := own_row q2
        have q6w := (x6.below q7 x6.lt)
        have c6 := q6w.cell
        have z9 : decide (most < i) = false := by rw [decide_eq_false_iff_not]; omega
        have z10 : (i : Int) ≤ (most : Int) := by omega
        have o2 := own_later q2 (b_alloc (Below.refl _ Wq) (.cells #[.int .i64 x] 3))
        have hrd := Reads.one Wq 3 (.int .i64 x)
        have k4' : ∀ u ∈ [Value.int .i64 x], u.oneCell' = true := by intro u hu; simp at hu; subst hu; rfl
        have k5' : i + 1 ≤ maxLen := by unfold maxLen; omega
        have k6' : (i + 1) * 8 ≤ 140737488355328 := by omega
        have hlq : w3.heap.size ≤ Wq.heap.size := q7.size
        have k7' : w3.heap.size ≤ (Wq.alloc (.cells #[.int .i64 x] 3)).heap.size := by rw [World.size_alloc]; omega
        have g3 := q3.alloc (.cells #[.int .i64 x] 3)
        have g4 := q4.alloc (.cells #[.int .i64 x] 3)
        have c3' := q3.cell
        have hb3' := q3.lt
        have hb4' := q4.lt
        have hq5 : some rb ≠ (Value.slice A' i cap').ownBlock := by rw [rowOf_own]; exact q5
        have hq6 : some sb ≠ (Value.slice A' i cap').ownBlock := by rw [rowOf_own]; exact q6
        obtain ⟨i0, hi0, hy0, hy1, hy2⟩ := info_parts Hi.info
        gi_wp2_with (first
          | (gi_at_builtin; refine wpListIn_append_any _ rfl (.tmp 85) (.tmp 87) _ rfl w3.heap.size 3 i0 _ 1 8 Try.underlying27 hi0 hy0 hy1 hy2 rfl (by omega) _ i _ rfl o2 (Wq.heap.size + 1) _ 1 1 _ rfl hrd k4' k5' k6' k7' ?_; intro v5 w9 o9 hg9 hat9; obtain ⟨g5', cap5, rfl, hbg5, hlg5⟩ := own_head o9; have qo := g3.grown hg9 hq5; have f6 := qo.cell; have f6' := qo.frozen))
        have hg6 : (Wq.alloc (.cells #[.int .i64 x] 3)).grownBy w9 ((Value.slice A' i cap').ownBlock) := hg9
        have q4' := g4.grown hg9 hq6
        have hrow : NewRow Wq (rowOf A') (rowOf (some ⟨g5', 0, none⟩)) := by
          rcases hat9 with hq | hq
          · exact .inl ((rowOf_own _ (i + 1) cap5).symm.trans (hq.trans (rowOf_own A' i cap')))
          · injection hq with hq
            have hq' : g5' = (Wq.alloc (.cells #[.int .i64 x] 3)).heap.size := hq
            exact NewRow.new (show Wq.heap.size ≤ g5' by rw [hq']; simp)
        have hR : Rd w7.heap.size (rowOf A') (rowOf (some ⟨g5', 0, none⟩)) Wq w9 :=
          ⟨Nat.le_trans (by simp) hg6.size, fun g hg1 hg2 hg3 => (hg6.block g (by simp; omega) (by rw [rowOf_own]; exact hg3)).trans (Below.heap_alloc _ _ g hg2), hrow⟩
        have hB5 : Below w3.heap.size w3 w9 := (b_alloc q7 _).grown hg6 (by simp; omega) (fun k hk => by rw [rowOf_own] at hk; exact (hro k hk).1)
        have hg5r : some rb ≠ rowOf (some (⟨g5', 0, none⟩ : Addr)) := hrow.ne hb3' q5
        refine ⟨rowOf (some ⟨g5', 0, none⟩), hR.set_ (p := ⟨rb, 0, none⟩) (.inl (by show rb < w7.heap.size; omega)) _, some ⟨g5', 0, none⟩, cap5, rfl, ?_, ?_, q4'.far (p := ⟨rb, 0, none⟩) (by show sb ≠ rb; omega) _, hg5r, hrow.ne hb4' q6, hB5.setCell (p := ⟨rb, 0, none⟩) (by show w3.heap.size ≤ rb; omega) _⟩
        · show (w9.setCell ⟨rb, 0, none⟩ _).ownsRow w3.heap.size 3 1 (.slice (some ⟨g5', 0, none⟩) (m + pr.length) cap5) (m + pr.length) ((xs.take m ++ pr).map (Value.int .i64))
          rw [HSL.out, HSM.out]
          exact own_setFar o9 (fun e => hg5r e.symm) _
        · show Blk _ _ _ #[.slice (some ⟨g5', 0, none⟩) (m + pr.length) cap5]
          rw [HSL.out]
          exact qo.set_ 0 _
      case done =>
        clear hI0 hX7 hY7 o7
        rintro D ys r Wd hD hDr rfl ⟨A', cap', q1, q2, q3, q4, q5, q6, q7⟩ hK
        have hl : m + (xs.drop m).length = n := by rw [List.length_drop]; have := HLN.out; omega
        replace q2 : Wd.ownsRow w3.heap.size 3 1 (.slice A' (m + (xs.drop m).length) cap') (m + (xs.drop m).length) ((xs.take m ++ xs.drop m).map (Value.int .i64)) := q2
        replace q3 : Blk Wd rb 27 #[.slice A' (m + (xs.drop m).length) cap'] := q3
        rw [hl, List.take_append_drop] at q2
        rw [hl] at q3
        have h8 := h3.later q7
        have x8 := x5.below q7 x5.lt
        have x9 := x6.below q7 x6.lt
        have hB8 := b_then hB3 q7
        have o8 := own_later o3' q7
        have hDl : D < Wd.heap.size := (Array.getElem?_eq_some_iff.1 hK).1
        have c3' := q3.cell
        have hQ := eqi_any A' A3 n cap' c3 xs Wd HLN.out (RI.of_row q2) (RI.of_row o8) (by unfold maxLen; omega)
        clear h3 x5 x6 hB3 o3' q1 q2 q3 q4 q5 q6 q7 hl
        gi_wp2
        refine ⟨trivial, (callsIn_wide.2 hQ).mono ?_⟩
        rintro e wd ⟨rfl, q, rfl⟩
        have h9 := h8.drewN q
        have x10 := x8.drewN q
        have x11 := x9.drewN q
        have hB9 := below_drewN hB8 q
        have o9 := own_later o8 (below_drewN (Below.refl _ _) q)
        have hK9 : (Wd.drewN q).heap[D]? = some (.deferred (some [])) := hK
        generalize World.drewN Wd q = w10 at h9 x10 x11 hB9 o9 hK9 ⊢
        clear h8 x8 x9 hB8 o8 hK hDl hQ c3'
        gi_wp2
        gi_loopw [95] (fun i wr => ∃ k : Nat, k ≤ n ∧ i = .int .i64 k ∧ wr = w10) (fun i _ => n - (intOf i).toNat)
        case atStart => exact ⟨0, Nat.zero_le _, rfl, rfl⟩
        case round =>
          obtain ⟨k2, hk2, rfl, rfl⟩ := hrel
          by_cases hlt2 : k2 < n
          · obtain ⟨x, hx⟩ : ∃ x, xs[k2]? = some x := ⟨_, List.getElem?_eq_getElem (by have := HLN.out; omega)⟩
            obtain ⟨g, rfl, _, _, cg, _⟩ := own_at o9 (i := k2) (u := .int .i64 x) (by rw [List.getElem?_map, hx]; rfl)
            have hA := Hi.At_ok b b most m n cap A xs wr h9 k2 x hx
            have z1 : (k2 : Int) < (n : Int) := by omega
            have z2 : (0 : Int) ≤ (k2 : Int) := by omega
            clear hx o9
            gi_wp2
            refine ⟨trivial, (callsIn_wide.2 hA).mono ?_⟩
            rintro e w' ⟨rfl, rfl⟩
            gi_wp2
            go_roundw
            case rel => exact ⟨k2 + 1, by omega, by go_num, trivial⟩
            case measure => simp [intOf]; omega
          · obtain rfl : k2 = n := by omega
            have c11 := x11.cell
            gi_wp2
            have hZ := Blk.new wr 3 #[.int .i64 (-1), .int .i64 k2, .int .i64 most, .int .i64 (-9223372036854775808), .int .i64 9223372036854775807]
            have h12 := h9.alloc (.cells #[.int .i64 (-1), .int .i64 k2, .int .i64 most, .int .i64 (-9223372036854775808), .int .i64 9223372036854775807] 3)
            have x12 := x10.alloc (.cells #[.int .i64 (-1), .int .i64 k2, .int .i64 most, .int .i64 (-9223372036854775808), .int .i64 9223372036854775807] 3)
            have hB12 := b_alloc hB9 (.cells #[.int .i64 (-1), .int .i64 k2, .int .i64 most, .int .i64 (-9223372036854775808), .int .i64 9223372036854775807] 3)
            have hK12 := (Below.heap_alloc wr (.cells #[.int .i64 (-1), .int .i64 k2, .int .i64 most, .int .i64 (-9223372036854775808), .int .i64 9223372036854775807] 3) D (Array.getElem?_eq_some_iff.1 hK9).1).trans hK9
            obtain ⟨zb, hzb⟩ : ∃ zb, zb = wr.heap.size := ⟨_, rfl⟩
            rw [← hzb] at hZ ⊢
            generalize wr.alloc (.cells #[.int .i64 (-1), .int .i64 k2, .int .i64 most, .int .i64 (-9223372036854775808), .int .i64 9223372036854775807] 3) = w12 at hZ h12 x12 hB12 hK12 ⊢
            have hz : ∀ k, k < 5 → ∃ z : Int, w12.cell? ⟨zb, k, none⟩ = some (.int .i64 z) ∧ (z < 0 ∨ (k2 : Int) ≤ z) := by
              intro k hk
              rw [hZ.cell]
              match k, hk with
              | 0, _ => exact ⟨-1, rfl, .inl (by decide)⟩
              | 1, _ => exact ⟨k2, rfl, .inr (Int.le_refl _)⟩
              | 2, _ => exact ⟨most, rfl, .inr (by omega)⟩
              | 3, _ => exact ⟨-9223372036854775808, rfl, .inl (by decide)⟩
              | 4, _ => exact ⟨9223372036854775807, rfl, .inr (by omega)⟩
            have HZ := Lib.hid hz
            clear hzb h9 x10 x11 hB9 hK9 o9 c11 hz hZ
            gi_loopw [119] (fun i wr => ∃ k : Nat, k ≤ 5 ∧ i = .int .i64 k ∧ wr = w12) (fun i _ => 5 - (intOf i).toNat)
            case atStart => exact ⟨0, Nat.zero_le _, rfl, rfl⟩
            case round =>
              obtain ⟨k3, hk3, rfl, rfl⟩ := hrel
              by_cases hlt3 : k3 < 5
              · obtain ⟨z, hcz, hzz⟩ := HZ.out k3 hlt3
                have hA := Hi.At_err b b most m k2 cap A xs wr h12 z hzz
                have z1 : (k3 : Int) < 5 := by omega
                have z2 : (0 : Int) ≤ (k3 : Int) := by omega
                clear hzz
                gi_wp2
                refine ⟨trivial, (callsIn_wide.2 hA).mono ?_⟩
                rintro e w' ⟨rfl, rfl⟩
                gi_wp2
                go_roundw
                case rel => exact ⟨k3 + 1, by omega, by go_num, trivial⟩
                case measure => simp [intOf]; omega
              · obtain rfl : k3 = 5 := by omega
                gi_wp2
                refine ⟨trivial, (callsIn_wide.2 (works_true _)).mono ?_⟩
                rintro e wz ⟨rfl, hbz⟩
                have xz := x12.below hbz x12.lt
                have hKz : wz.heap[D]? = some (.deferred (some [])) := (hbz.block D (Array.getElem?_eq_some_iff.1 hK12).1).trans hK12
                have hBz := (b_then hB12 hbz).setCell (p := ⟨W.heap.size, 0, none⟩) (Nat.le_refl _) (.bool true)
                have gz := xz.set_ 0 (.bool true)
                have cz := xz.cell
                have fz := xz.frozen
                have hDW : W.heap.size < D := by omega
                have hKz' : (wz.setCell ⟨W.heap.size, 0, none⟩ (.bool true)).heap[D]? = some (.deferred (some [])) := (Below.heap_setCell _ _ _ D (by show D ≠ W.heap.size; omega)).trans hKz
                clear xz hKz h12 x12 hB12 hK12 hbz
                gi_wp2
                refine ⟨by simp, .inl ⟨_, _, rfl, run_takeDeferred hKz', ?_⟩⟩
                have g4 := (gz.putObj (l := D) (by omega) (.deferred none)).cell
                exact ⟨_, by simp [results, Try.results6, go_sem, g4], rfl, hBz.trans (below_putObj _ D (.deferred none) (by omega))⟩

set_option maxRecDepth 100000 in
theorem lifted (os : Os) (started : os.Started) (H : Type) (enc : TypeId × Value → H) :
    ReturnsInHanded {} Try.checked os 6 .any (Rows.historyPartsSpec.pre6 enc Try.prog Try.f6 Rows.historyPartsRow.domain false) (Rows.historyPartsSpec.post enc Try.prog Try.f6 false true false false) := by
  refine returnsInHanded_of_change (C := Try.checked) own started (by kernel_rfl) Try.func6
    (ChangeSpec.witness6 (enc := enc) (C := Try.checked) false ⟨#[], #[.int .u8 0, .slice none 0 0], []⟩ 8 (by kernel_rfl) (by kernel_rfl) (by kernel_rfl) (by kernel_rfl)) ?_
  intro W base args ds gs before hval0 hW hcnd _
  have hval : ∀ (j : Nat) t v, Try.f6.params[j]? = some t → args[j]? = some v → Value.okWide Try.prog W .any base t v := hval0
  have hW' := hW
  obtain ⟨p, q, hA0, hV, rfl, hfz, hnd⟩ := hW
  have hA : DataW.TrodAll enc Try.prog W 0 (fun _ => true) true Try.f6.params.toList args.toList ds p := hA0
  rw [Try.params6] at hA hval
  obtain ⟨v0, vs0, d0, ds0, p0, q0, hargs, rfl, rfl, h0, r0⟩ := trodAll_cons hA
  obtain ⟨v1, vs1, d1, ds1, p1, q1, rfl, rfl, rfl, h1, r1⟩ := trodAll_cons r0
  obtain ⟨rfl, rfl, rfl⟩ := trodAll_nil r1
  obtain rfl : args = #[v0, v1] := by cases args; simp_all
  obtain ⟨rfl, rfl⟩ := trodVars_none hV
  refine (walk (H := H) (enc := enc) W base (hval 0 5 v0 rfl rfl) h0 (hval 1 22 v1 rfl rfl) h1).mono fun e W' ⟨he, bel⟩ => ?_
  subst he
  exact ⟨_, rfl, _, _, _, [], _, [], hW', trodAll_mk1 (shut_bool Try.underlying4 _), (trodAll_cons_mk (Below.trod laidOut (by kernel_rfl) (of_decide_eq_true (by kernel_rfl)) h0 bel (lt_of_Trod h0)) (trodAll_cons_mk (Below.trod laidOut (by kernel_rfl) (of_decide_eq_true (by kernel_rfl)) h1 bel (lt_of_Trod h1)) trodAll_mk0)), rfl, bel.frame _, fun h => by cases h⟩

/-- HistoryParts: for every limit and every list of moves the law returns true and changes nothing. No condition. -/
theorem proved : Rows.HistoryPartsSaid :=
  OpenClaim.holds_of_wide 6 Try.f6 rfl rfl rfl rfl rfl rfl rfl ⟨rfl, rfl, rfl, rfl, rfl⟩ rfl rfl rfl rfl rfl (by kernel_rfl) Try.func6 (by kernel_rfl)
    (of_decide_eq_true (by kernel_rfl)) (by unfold Func.isWrapper; first | (rw [if_pos (by decide +kernel)]; kernel_rfl) | (rw [if_neg (by decide +kernel)]; exact ⟨rfl, rfl⟩))
    (fun os started H enc _ => lifted os started H enc)
#print axioms proved
end Go.Proofs.Ytohnoioblhkepaa.historyParts
