/-
  HistoryCopies: for every limit and every two lists of moves the law returns true and changes nothing. No condition.
-/
import Derived.Test.YtohnoioblhkepaaOpen
import Derived.Test.YtohnoioblhkepaaWks
import Derived.Test.YtohnoioblhkepaaMvd
import Derived.Test.YtohnoioblhkepaaCoi
import Derived.Test.YtohnoioblhkepaaMov
namespace Go.Proofs.Ytohnoioblhkepaa.historyCopies
open Go.ChangeShapes Go.WideShapes Go.ChangeAt Go.RowKit
open Go.ChangeMaps (open_string shut_string)
set_option linter.unusedSimpArgs false
set_option linter.unusedVariables false

open Go.Proofs.Ytohnoioblhkepaa.Hi (Is)
/-- the list between two moves -/
def CRel (W : World) (b most p : Nat) (i : Value) (wr : World) : Prop :=
  ∃ (k m n cap : Nat) (A : Option Addr) (xs : List Int), k ≤ p ∧ i = .int .i64 k ∧ Is wr b b most m A n cap xs ∧ m ≤ n ∧ n ≤ most ∧ Below W.heap.size W wr
/-- two other lists, while a copy is moved -/
def DRel (W : World) (most p : Nat) (b m n cap : Nat) (A : Option Addr) (xs : List Int) (B1 b1 B2 b2 cap2 : Nat) (A2 : Option Addr) (i : Value) (wr : World) : Prop :=
  ∃ (k m1 n1 cap1 : Nat) (A1 : Option Addr) (ys : List Int), k ≤ p ∧ i = .int .i64 k ∧ Is wr B1 b1 most m1 A1 n1 cap1 ys ∧ m1 ≤ n1 ∧ n1 ≤ most ∧ Below W.heap.size W wr ∧
    Is wr b b most m A n cap xs ∧ Is wr B2 b2 most m A2 n cap2 xs ∧ some b2 ≠ rowOf A1 ∧ (rowOf A2 = none ∨ rowOf A2 ≠ rowOf A1)
/-- the second copy is filled up -/
def ERel (W : World) (most : Nat) (b m n cap : Nat) (A : Option Addr) (xs : List Int) (B2 b2 : Nat) (Aa : Option Addr) (ca : Nat) (i : Value) (wr : World) : Prop :=
  ∃ (k cap2 : Nat) (A2 : Option Addr), n + k ≤ most ∧ i = .int .i64 k ∧ Is wr B2 b2 most m A2 (n + k) cap2 (xs ++ List.replicate k 7) ∧ Below W.heap.size W wr ∧
    Is wr b b most m A n cap xs ∧ some b ≠ rowOf A2 ∧ (rowOf A = none ∨ rowOf A ≠ rowOf A2) ∧ wr.ownsRow W.heap.size 3 1 (.slice Aa n ca) n (xs.map (Value.int .i64)) ∧ rowOf Aa ≠ some b2 ∧ (rowOf Aa = none ∨ rowOf Aa ≠ rowOf A2)
theorem ne_row {r r' : Option Nat} {B : Nat} (h : ∀ g, r = some g → g < B) (h' : ∀ g, r' = some g → B ≤ g) : r = none ∨ r ≠ r' := by
  rcases r with _ | g
  · exact .inl rfl
  · refine .inr fun e => ?_
    have h1 := h g rfl
    have h2 := h' g e.symm
    omega
theorem nr_row {w : World} {r r' q : Option Nat} (h : NewRow w r r') (hq : ∀ g, q = some g → g < w.heap.size) (hr : q = none ∨ q ≠ r) : q = none ∨ q ≠ r' := by
  rcases q with _ | g
  · exact .inl rfl
  · exact .inr (h.ne (hq g rfl) (hr.resolve_left (by simp)))
theorem ne_row' {r r' : Option Nat} {B : Nat} (h : ∀ g, r = some g → B ≤ g) (h' : ∀ g, r' = some g → g < B) : r = none ∨ r ≠ r' := by
  rcases r with _ | g
  · exact .inl rfl
  · refine .inr fun e => ?_
    have h1 := h g rfl
    have h2 := h' g e.symm
    omega

set_option maxHeartbeats 6400000 in
set_option maxRecDepth 100000 in
theorem walk {H : Type} {enc : TypeId × Value → H} (W : World) (base : Nat) {v0 v1 v2 : Value} {d0 d1 d2 : DataW H} {p0 p1 p2 : List MemPlace} (o0 : Value.okWide Try.prog W .any base 5 v0) (h0 : DataW.Trod enc Try.prog W 0 (fun _ => true) true 5 v0 d0 p0) (o1 : Value.okWide Try.prog W .any base 22 v1) (h1 : DataW.Trod enc Try.prog W 0 (fun _ => true) true 22 v1 d1 p1) (o2 : Value.okWide Try.prog W .any base 22 v2) (h2 : DataW.Trod enc Try.prog W 0 (fun _ => true) true 22 v2 d2 p2) :
    Calls Try.prog 9 #[v0, v1, v2] W fun e W' => e = .returned (.bool true) ∧ Below W.heap.size W W' := by
  obtain ⟨lz, rfl, rfl, rfl, wl⟩ := open_int Try.underlying5 o0 h0
  have bl := bounds_u8 wl
  obtain ⟨ml, rfl⟩ : ∃ ml : Nat, lz = (ml : Int) := ⟨lz.toNat, by omega⟩
  clear wl o0 h0
  obtain ⟨most, hmost⟩ : ∃ most : Nat, most = 1 + ml % 64 := ⟨_, rfl⟩
  have y1 : 1 + (ml : Int) % 64 = (most : Int) := by omega
  have y2 : 1 ≤ most := by omega
  have y3 : most ≤ 64 := by omega
  clear hmost
  obtain ⟨am, lm, cm, K, N, rfl, hmv⟩ := open_moves o1 h1
  clear o1 h1
  obtain ⟨pp, hpp⟩ : ∃ pp : Nat, pp = min lm 100 := ⟨_, rfl⟩
  have p1 : (if (100 : Int) < (lm : Int) then (100 : Int) else (lm : Int)) = (pp : Int) := by split <;> omega
  have p2 : pp ≤ 100 := by omega
  have p3 : pp ≤ lm := by omega
  have p4 : lm ≤ cm := hmv.1
  have p5 : lm ≤ 9223372036854775807 := by have := hmv.2.1; unfold maxLen at this; omega
  have HMV := Lib.hid hmv
  clear hpp hmv
  obtain ⟨am2, lm2, cm2, K2, N2, rfl, hmv2⟩ := open_moves o2 h2
  clear o2 h2
  obtain ⟨pp2, hpp2⟩ : ∃ pp : Nat, pp = min lm2 50 := ⟨_, rfl⟩
  have p12 : (if (50 : Int) < (lm2 : Int) then (50 : Int) else (lm2 : Int)) = (pp2 : Int) := by split <;> omega
  have p22 : pp2 ≤ 50 := by omega
  have p32 : pp2 ≤ lm2 := by omega
  have p42 : lm2 ≤ cm2 := hmv2.1
  have p52 : lm2 ≤ 9223372036854775807 := by have := hmv2.2.1; unfold maxLen at this; omega
  have HMV2 := Lib.hid hmv2
  clear hpp2 hmv2
  go_enter Try.func9, Try.ntmps9
  go_wp2_with fail
  refine (Hi.New_ok most _ (by omega)).mono ?_
  rintro e w1 ⟨b, rfl, h1, hz1, hb1⟩
  go_wp2_with fail
  go_loopw [41] (CRel W b most pp) (fun i _ => pp - (intOf i).toNat)
  case atStart => exact ⟨0, 0, 0, 0, none, [], by omega, rfl, h1, by omega, by omega, hb1⟩
  case round =>
    obtain ⟨k, m, n, cap, A, xs, hk, rfl, h, hmn, hnm, hB⟩ := hrel
    clear h1 hb1
    by_cases hlt : k < pp
    · have z1 : (k : Int) < (pp : Int) := by omega
      have z2 : (0 : Int) ≤ (k : Int) := by omega
      have z3 : (k : Int) < (lm : Int) := by omega
      obtain ⟨hq1, hq2, hq3, hq4⟩ := HMV.out
      obtain ⟨bm, om, rfl, hbm, hcm⟩ := hq4 (by omega)
      obtain ⟨c0, c1⟩ := hcm k (by omega)
      obtain ⟨k0, k1, n0, n1⟩ := hq3 k (by omega)
      obtain ⟨kk, hkk⟩ : ∃ kk : Nat, K k = (kk : Int) := ⟨(K k).toNat, by omega⟩
      obtain ⟨nn, hnn⟩ : ∃ nn : Nat, N k = (nn : Int) := ⟨(N k).toNat, by omega⟩
      rw [hkk] at c0 k1
      rw [hnn] at c1 n1
      have c0 : wr.cell? ⟨bm, om + k * 2, none⟩ = some (.int .u8 kk) := (hB.cell hbm).trans c0
      have c1 : wr.cell? ⟨bm, om + k * 2 + 1, none⟩ = some (.int .u16 nn) := (hB.cell hbm).trans (by rw [Nat.add_assoc]; exact c1)
      have k1 : kk ≤ 255 := by omega
      have n1 : nn ≤ 65535 := by omega
      have hbm' : bm < wr.heap.size := Nat.lt_of_lt_of_le hbm hB.size
      clear hq1 hq2 hq3 hcm hkk hnn hbm k0 n0
      go_wp2_with fail
      refine (Hi.moved_any b b most m n cap kk nn A xs _ (h.alloc (.cells #[.int .u8 kk, .int .u16 nn] 30)) k1 n1 hmn hnm (by omega) (by simp; have := h.lt; omega)).mono ?_
      rintro e w2 ⟨A2, cap2, rfl, h2, hO2, hr2⟩
      obtain ⟨hm2, hn2⟩ := Hi.mv_ok (most := most) (k := kk) (N := nn) (m := m) (xs := xs) (by rw [h.len]; exact hmn) (by rw [h.len]; exact hnm)
      have hB2 : Below W.heap.size W w2 := (h.alloc (.cells #[.int .u8 kk, .int .u16 nn] 30)).keptI (b_alloc hB _) hz1 (Nat.le_refl _) hO2
      clear h c0 c1 hO2 hB hr2
      go_wp2_with fail
      go_roundw
      case rel => exact ⟨k + 1, _, _, cap2, A2, _, by omega, by go_num, h2, hm2, hn2, hB2⟩
      case measure => simp [intOf]; omega
    · obtain rfl : k = pp := by omega
      go_wp2_with fail
      refine (Hi.Copy_any b b most m n cap A xs _ h (by omega)).mono ?_
      rintro e w2 ⟨b1, A1, cap1, rfl, c1, hz2, hb2⟩
      have l2 := h.later hb2
      have hB2 := b_then hB hb2
      have hbl := h.lt
      have hlA := fun g hg => (own_row h.own g hg).2
      have hWB := hB.size
      clear h hB hb2
      go_wp2_with fail
      refine (Hi.Copy_any b b most m n cap A xs _ l2 (by omega)).mono ?_
      rintro e w3 ⟨b2, A2, cap2, rfl, d3, hz3, hb3⟩
      have l3 := l2.later hb3
      have c3 := c1.later hb3
      have hB3 := b_then hB2 hb3
      have hc1 := c1.lt
      have hrA := fun g hg => (own_row l2.own g hg).2
      have hrA1 := fun g hg => (own_row c1.own g hg).2
      have hrA2 := fun g hg => (own_row d3.own g hg).1
      have hszz : wr.heap.size ≤ w2.heap.size := by omega
      clear l2 c1 hB2 hb3
      have HXL := Lib.hid l3.len
      obtain ⟨B1, hB1⟩ : ∃ B1, B1 = wr.heap.size := ⟨_, rfl⟩
      obtain ⟨B2, hB2⟩ : ∃ B2, B2 = w2.heap.size := ⟨_, rfl⟩
      rw [← hB1] at c3 hz2 hbl hszz hlA hWB
      rw [← hB2] at d3 hz3 hc1 hrA hrA1 hrA2 hszz
      clear hB1 hB2
      go_wp2_with fail
      go_loopw [67] (DRel W most pp2 b m n cap A xs B1 b1 B2 b2 cap2 A2) (fun i _ => pp2 - (intOf i).toNat)
      case atStart => exact ⟨0, m, n, cap1, A1, xs, by omega, rfl, c3, hmn, hnm, hB3, l3, d3, fun e => by have := hrA1 _ e.symm; omega, ne_row' (B := B2) hrA2 hrA1⟩
      case round =>
        obtain ⟨k2, m1, n1, cap1', A1', ys, hk2, rfl, hc, hmn1, hnm1, hB, hl, hd, hx1, hx2⟩ := hrel
        clear c3 d3 l3 hB3 hrA1
        by_cases hlt2 : k2 < pp2
        · have z1 : (k2 : Int) < (pp2 : Int) := by omega
          have z2 : (0 : Int) ≤ (k2 : Int) := by omega
          have z3 : (k2 : Int) < (lm2 : Int) := by omega
          obtain ⟨hq1, hq2, hq3, hq4⟩ := HMV2.out
          obtain ⟨bm, om, rfl, hbm, hcm⟩ := hq4 (by omega)
          obtain ⟨c0, c1⟩ := hcm k2 (by omega)
          obtain ⟨k0q, k1q, n0q, n1q⟩ := hq3 k2 (by omega)
          obtain ⟨kk, hkk⟩ : ∃ kk : Nat, K2 k2 = (kk : Int) := ⟨(K2 k2).toNat, by omega⟩
          obtain ⟨nn, hnn⟩ : ∃ nn : Nat, N2 k2 = (nn : Int) := ⟨(N2 k2).toNat, by omega⟩
          rw [hkk] at c0 k1q
          rw [hnn] at c1 n1q
          have c0 : wr.cell? ⟨bm, om + k2 * 2, none⟩ = some (.int .u8 kk) := (hB.cell hbm).trans c0
          have c1 : wr.cell? ⟨bm, om + k2 * 2 + 1, none⟩ = some (.int .u16 nn) := (hB.cell hbm).trans (by rw [Nat.add_assoc]; exact c1)
          have k1q : kk ≤ 255 := by omega
          have n1q : nn ≤ 65535 := by omega
          have hbm' : bm < wr.heap.size := Nat.lt_of_lt_of_le hbm hB.size
          clear hq1 hq2 hq3 hcm hkk hnn hbm k0q n0q
          go_wp2_with fail
          refine (Hi.moved_any B1 b1 most m1 n1 cap1' kk nn A1' ys _ (hc.alloc (.cells #[.int .u8 kk, .int .u16 nn] 30)) k1q n1q hmn1 hnm1 (by omega) (by simp; have := hc.lt; omega)).mono ?_
          rintro e w4 ⟨A4, cap4, rfl, h4, hO4, hr4⟩
          obtain ⟨hm4, hn4⟩ := Hi.mv_ok (most := most) (k := kk) (N := nn) (m := m1) (xs := ys) (by rw [hc.len]; exact hmn1) (by rw [hc.len]; exact hnm1)
          have hca := hc.alloc (.cells #[.int .u8 kk, .int .u16 nn] 30)
          have hB4 : Below W.heap.size W w4 := hca.keptI (b_alloc hB _) (by omega) hz2 hO4
          have hrc := fun g hg => (own_row hca.own g hg).1
          have l4 := (hl.alloc (.cells #[.int .u8 kk, .int .u16 nn] 30)).other hO4 (by omega) (fun e => by have := hrc _ e.symm; omega) (fun e => by have := hlA _ e; omega) (ne_row (B := B1) hlA hrc)
          have hda := hd.alloc (.cells #[.int .u8 kk, .int .u16 nn] 30)
          have d4 := hda.other hO4 (by omega) hx1 (fun e => by have := hrA2 _ e; omega) hx2
          have hx1' := hr4.ne hda.lt hx1
          have hx2' := nr_row hr4 (fun g hg => (own_row hda.own g hg).2) hx2
          clear hc hca hda c0 c1 hO4 hB hr4 hl hd hx1 hx2 hrc
          go_wp2_with fail
          go_roundw
          case rel => exact ⟨k2 + 1, _, _, cap4, A4, _, by omega, by go_num, h4, hm4, hn4, hB4, l4, d4, hx1', hx2'⟩
          case measure => simp [intOf]; omega
        · obtain rfl : k2 = pp2 := by omega
          clear hc hx1 hx2
          go_wp2_with fail
          refine (Hi.elements_any b b most m A n cap xs most _ hl hnm (by omega)).mono ?_
          rintro e w5 ⟨⟨Aa, ca, rfl, oa⟩, hb5⟩
          have l5 := hl.later hb5
          have d5 := hd.later hb5
          have hB5 := b_then hB hb5
          have oa5 := own_base oa (show W.heap.size ≤ _ from hB.size)
          have hAa := fun g hg => (own_row oa g hg).1
          have hy5 : rowOf Aa ≠ some b := fun e => by have := hAa _ e; have := hl.lt; omega
          have hy6 : rowOf Aa = none ∨ rowOf Aa ≠ rowOf A := ne_row' hAa (fun g hg => (own_row hl.own g hg).2)
          have hdl := hd.lt
          have hdr := fun g hg => (own_row hd.own g hg).2
          clear hl hd hB hb5 oa
          go_wp2_with fail
          refine (Hi.elements_any B2 b2 most m A2 n cap2 xs most _ d5 hnm (by omega)).mono ?_
          rintro e w6 ⟨⟨Ab, cb, rfl, ob⟩, hb6⟩
          have l6 := l5.later hb6
          have d6 := d5.later hb6
          have hB6 := b_then hB5 hb6
          have oa6 := own_later oa5 hb6
          clear l5 d5 hB5 hb6 oa5
          go_wp2_with fail
          refine (eqi_any Aa Ab n ca cb xs _ l6.len (RI.of_row oa6) (RI.of_row ob) (by unfold maxLen; omega)).mono ?_
          rintro e w7 ⟨rfl, q7, rfl⟩
          have l7 := l6.drewN q7
          have d7 := d6.drewN q7
          have hB7 := below_drewN hB6 q7
          have oa7 := own_later oa6 (below_drewN (Below.refl _ _) q7)
          generalize World.drewN w6 q7 = w7 at l7 d7 hB7 oa7 ⊢
          clear l6 d6 hB6 oa6 ob
          go_wp2_with fail
          refine (Hi.Marked_any b b most m n cap A xs _ l7).mono ?_
          rintro e w' ⟨rfl, rfl⟩
          go_wp2_with fail
          refine (Hi.Marked_any B2 b2 most m n cap2 A2 xs _ d7).mono ?_
          rintro e w' ⟨rfl, rfl⟩
          go_wp2_with fail
          refine (Hi.Len_any B2 b2 most m n cap2 A2 xs _ d7).mono ?_
          rintro e w' ⟨rfl, rfl⟩
          have y5 : (n : Int) ≤ (most : Int) := by omega
          go_wp2_with fail
          go_loopw [112] (ERel W most b m n cap A xs B2 b2 Aa ca) (fun i _ => most - n - (intOf i).toNat)
          case atStart => exact ⟨0, cap2, A2, by omega, rfl, by simpa using d7, hB7, l7, fun e => by have := hrA2 _ e.symm; omega, ne_row (B := B2) hrA hrA2, oa7, fun e => by have := hAa _ e; omega, ne_row' hAa hdr⟩
          case round =>
            obtain ⟨j, cap8, A8, hj, rfl, d8, hB8, l8, hy1, hy2, oa8, hy3, hy4⟩ := hrel
            clear d7 hB7 l7 oa7 hAa hdr hdl hrA2
            by_cases hlt3 : n + j < most
            · have z1 : (j : Int) < (most : Int) - (n : Int) := by omega
              go_wp2_with fail
              refine (Hi.Add_ok B2 b2 most m (n + j) cap8 A8 _ _ d8 7 hlt3 (by omega) (by have := d8.lt; omega)).mono ?_
              rintro e w9 ⟨A9, cap9, rfl, d9, hO9, hr9⟩
              have hB9 : Below W.heap.size W w9 := d8.keptI hB8 (by omega) hz3 hO9
              have l9 := l8.other hO9 (by omega) hy1 (fun e => by have := hrA _ e; omega) hy2
              have oa9 := hO9.own oa8 hy3 hy4
              have d9' : Is w9 B2 b2 most m A9 (n + (j + 1)) cap9 (xs ++ List.replicate (j + 1) 7) := by
                rw [List.replicate_succ', ← List.append_assoc]
                exact d9
              have hy1' := hr9.ne l8.lt hy1
              have hy2' := nr_row hr9 (fun g hg => (own_row l8.own g hg).2) hy2
              have hy4' := nr_row hr9 (fun g hg => (own_row oa8 g hg).2) hy4
              clear d8 hB8 l8 hy1 hy2 oa8 hy4 hO9 hr9 d9
              go_wp2_with fail
              go_roundw
              case rel => exact ⟨j + 1, cap9, A9, by omega, by go_num, d9', hB9, l9, hy1', hy2', oa9, hy3, hy4'⟩
              case measure => simp [intOf]; omega
            · obtain rfl : j = most - n := by omega
              have hnj : n + (most - n) = most := by omega
              rw [hnj] at d8
              have z1 : ¬ ((most - n : Nat) : Int) < (most : Int) - (n : Int) := by omega
              have z4 : ((most - n : Nat) : Int) = (most : Int) - (n : Int) := by omega
              clear hnj
              have HRL := Lib.hid hrA
              clear hrA
              go_wp2_with fail
              refine (Hi.Add_full B2 b2 most m most cap8 A8 _ _ d8 7 (Nat.le_refl _)).mono ?_
              rintro e w9 ⟨rfl, hb9⟩
              have d9 := d8.later hb9
              have l9 := l8.later hb9
              have hB9 := b_then hB8 hb9
              have oa9 := own_later oa8 hb9
              clear d8 l8 hB8 oa8 hb9
              go_wp2_with fail
              refine (Hi.Len_any b b most m n cap A xs _ l9).mono ?_
              rintro e w' ⟨rfl, rfl⟩
              go_wp2_with fail
              refine (Hi.Clear_any b b most m n cap A xs _ l9).mono ?_
              rintro e w10 ⟨rfl, l10, hO10⟩
              have hB10 : Below W.heap.size W w10 := l9.keptI hB9 hz1 (Nat.le_refl _) hO10
              have hq1 := fun g hg => HRL.out g hg
              have hq2 := fun g hg => (own_row d9.own g hg).1
              have d10 := d9.other hO10 (by omega) (fun e => by have := hq1 _ e.symm; omega) (fun e => by have := hq2 _ e; omega) (ne_row' (B := B2) hq2 hq1)
              have oa10 := hO10.own oa9 hy5 hy6
              clear d9 l9 l10 hB9 oa9 hO10 hq1 hq2
              go_wp2_with fail
              refine (Hi.elements_any B2 b2 most m A8 most cap8 _ most _ d10 (Nat.le_refl _) (by omega)).mono ?_
              rintro e w11 ⟨⟨Ac, cc, rfl, oc⟩, hb11⟩
              have hB11 := b_then hB10 hb11
              have oa11 := own_later oa10 hb11
              have hcap := (own_cap oc).2
              have z5 : (n : Int) ≤ (cc : Int) := by omega
              have hcm := hcap.2
              unfold maxLen at hcm
              clear d10 hB10 oa10 hb11
              have hQ : Calls Try.prog 15 #[.slice Ac n cc, .slice Aa n ca] w11 fun e w' => e = .returned (.bool true) ∧ ∃ q, w' = w11.drewN q := by
                refine eqi_any Ac Aa n cc ca xs _ HXL.out ?_ (RI.of_row oa11) (by unfold maxLen; omega)
                have h0 := (RI.of_row oc).take_ n
                rw [← List.map_take, List.take_left' HXL.out] at h0
                exact h0
              clear oc oa11
              go_wp2_with fail
              refine hQ.mono ?_
              rintro e w12 ⟨rfl, q12, rfl⟩
              have hB12 := below_drewN hB11 q12
              generalize World.drewN w11 q12 = w12 at hB12 ⊢
              clear hQ hB11
              go_wp2_with fail
              refine (works_true _).mono ?_
              rintro e wz ⟨rfl, hbz⟩
              go_wp2_with fail
              go_ret
              exact ⟨rfl, b_then hB12 hbz⟩

set_option maxRecDepth 100000 in
theorem lifted (os : Os) (started : os.Started) (H : Type) (enc : TypeId × Value → H) :
    ReturnsInHanded {} Try.checked os 9 .any (Rows.historyCopiesSpec.pre6 enc Try.prog Try.f9 Rows.historyCopiesRow.domain false) (Rows.historyCopiesSpec.post enc Try.prog Try.f9 false true false false) := by
  refine returnsInHanded_of_change (C := Try.checked) own started (by kernel_rfl) Try.func9
    (ChangeSpec.witness6 (enc := enc) (C := Try.checked) false ⟨#[], #[.int .u8 0, .slice none 0 0, .slice none 0 0], []⟩ 8 (by kernel_rfl) (by kernel_rfl) (by kernel_rfl) (by kernel_rfl)) ?_
  intro W base args ds gs before hval0 hW hcnd _
  have hval : ∀ (j : Nat) t v, Try.f9.params[j]? = some t → args[j]? = some v → Value.okWide Try.prog W .any base t v := hval0
  have hW' := hW
  obtain ⟨p, q, hA0, hV, rfl, hfz, hnd⟩ := hW
  have hA : DataW.TrodAll enc Try.prog W 0 (fun _ => true) true Try.f9.params.toList args.toList ds p := hA0
  rw [Try.params9] at hA hval
  obtain ⟨v0, vs0, d0, ds0, p0, q0, hargs, rfl, rfl, h0, r0⟩ := trodAll_cons hA
  obtain ⟨v1, vs1, d1, ds1, p1, q1, rfl, rfl, rfl, h1, r1⟩ := trodAll_cons r0
  obtain ⟨v2, vs2, d2, ds2, p2, q2, rfl, rfl, rfl, h2, r2⟩ := trodAll_cons r1
  obtain ⟨rfl, rfl, rfl⟩ := trodAll_nil r2
  obtain rfl : args = #[v0, v1, v2] := by cases args; simp_all
  obtain ⟨rfl, rfl⟩ := trodVars_none hV
  refine (walk (H := H) (enc := enc) W base (hval 0 5 v0 rfl rfl) h0 (hval 1 22 v1 rfl rfl) h1 (hval 2 22 v2 rfl rfl) h2).mono fun e W' ⟨he, bel⟩ => ?_
  subst he
  exact ⟨_, rfl, _, _, _, [], _, [], hW', trodAll_mk1 (shut_bool Try.underlying4 _), (trodAll_cons_mk (Below.trod laidOut (by kernel_rfl) (of_decide_eq_true (by kernel_rfl)) h0 bel (lt_of_Trod h0)) (trodAll_cons_mk (Below.trod laidOut (by kernel_rfl) (of_decide_eq_true (by kernel_rfl)) h1 bel (lt_of_Trod h1)) (trodAll_cons_mk (Below.trod laidOut (by kernel_rfl) (of_decide_eq_true (by kernel_rfl)) h2 bel (lt_of_Trod h2)) trodAll_mk0))), rfl, bel.frame _, fun h => by cases h⟩

/-- HistoryCopies: for every limit and every two lists of moves the law returns true and changes nothing. No condition. -/
theorem proved : Rows.HistoryCopiesSaid :=
  OpenClaim.holds_of_wide 9 Try.f9 rfl rfl rfl rfl rfl rfl rfl ⟨rfl, rfl, rfl, rfl, rfl⟩ rfl rfl rfl rfl rfl (by kernel_rfl) Try.func9 (by kernel_rfl)
    (of_decide_eq_true (by kernel_rfl)) (by unfold Func.isWrapper; first | (rw [if_pos (by decide +kernel)]; kernel_rfl) | (rw [if_neg (by decide +kernel)]; exact ⟨rfl, rfl⟩))
    (fun os started H enc _ => lifted os started H enc)
#print axioms proved
end Go.Proofs.Ytohnoioblhkepaa.historyCopies
