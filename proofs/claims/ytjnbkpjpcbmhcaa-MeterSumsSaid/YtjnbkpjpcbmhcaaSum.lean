/-
  MeterSums's walk: a loop over moves; the meter and the sums kept beside it agree.
-/
import Derived.Test.YtjnbkpjpcbmhcaaMov
import Derived.Test.YtjnbkpjpcbmhcaaWks
namespace Go.Proofs.Ytjnbkpjpcbmhcaa
open Go.ChangeShapes Go.WideShapes Go.ChangeAt Go.RowKit
set_option linter.unusedVariables false
set_option linter.unusedSimpArgs false

theorem IsM.far {w : World} {b : Nat} {k c m t x y z : Int} (h : IsM w b k c m t x y z) {p : Addr} (hp : b ≠ p.block) (u : Value) : IsM (w.setCell p u) b k c m t x y z := Blk.far h hp u

/-- the numbers after k moves -/
def SOk (k : Nat) (q c m t x y z : Int) : Prop :=
  0 ≤ q ∧ q ≤ k ∧ 0 ≤ c ∧ c ≤ m ∧ m ≤ t ∧ t ≤ 65535 * k ∧ 0 ≤ x ∧ x ≤ y ∧ y ≤ z ∧ z ≤ 65535 * k
def SRel (W : World) (b0 B n : Nat) (u i : Value) (wr : World) : Prop :=
  ∃ (k : Nat) (q c m t x y z : Int), k ≤ n ∧ i = .int .i64 k ∧ u = .int .i64 q ∧ IsM wr b0 q c m t x y z ∧ SOk k q c m t x y z ∧
    Blk wr B 32 #[.int .i64 c, .int .i64 x] ∧ Blk wr (B + 1) 32 #[.int .i64 m, .int .i64 y] ∧ Blk wr (B + 1 + 1) 33 #[.int .i64 t, .int .i64 z] ∧ Below W.heap.size W wr

/-- behind the three stores of a round -/
theorem after3 {W w : World} {b B : Nat} {k c m t x y z : Int} {a0 a1 p0 p1 t0 t1 : Value} (j : Nat) (u v s : Value) (hM : IsM w b k c m t x y z) (hb : b < B)
    (hC : Blk w B 32 #[a0, a1]) (hP : Blk w (B + 1) 32 #[p0, p1]) (hT : Blk w (B + 1 + 1) 33 #[t0, t1]) (hB : Below W.heap.size W w) (hWB : W.heap.size ≤ B) :
    ∃ w4, (((w.setCell ⟨B, j, none⟩ u).setCell ⟨B + 1, j, none⟩ v).setCell ⟨B + 1 + 1, j, none⟩ s).drew.drew.drew = w4 ∧ IsM w4 b k c m t x y z ∧
      Blk w4 B 32 (#[a0, a1].setIfInBounds j u) ∧ Blk w4 (B + 1) 32 (#[p0, p1].setIfInBounds j v) ∧ Blk w4 (B + 1 + 1) 33 (#[t0, t1].setIfInBounds j s) ∧ Below W.heap.size W w4 := by
  have n1 : b ≠ B := by omega
  have n2 : b ≠ B + 1 := by omega
  have n3 : b ≠ B + 1 + 1 := by omega
  have n4 : B ≠ B + 1 := by omega
  have n5 : B ≠ B + 1 + 1 := by omega
  have n6 : B + 1 ≠ B + 1 + 1 := by omega
  refine ⟨_, rfl, ?_, ?_, ?_, ?_, ?_⟩
  · exact (((hM.far n1 u).far n2 v).far n3 s).drew.drew.drew
  · exact (((hC.set_ j u).far n4 v).far n5 s).drew.drew.drew
  · exact (((hP.far n4.symm u).set_ j v).far n6 s).drew.drew.drew
  · exact (((hT.far n5.symm u).far n6.symm v).set_ j s).drew.drew.drew
  · exact (((hB.setCell hWB u).setCell (Nat.le_succ_of_le hWB) v).setCell (Nat.le_succ_of_le (Nat.le_succ_of_le hWB)) s).drew.drew.drew

set_option maxRecDepth 100000 in
set_option maxHeartbeats 6400000 in
theorem sums_small (a : Option Addr) (len cap : Nat) (K N : Nat → Int) (W : World) (hm : IsMoves W a len cap K N) (hl : len ≤ 200) :
    Calls Try.prog 4 #[.slice a len cap] W fun e W' => e = .returned (.bool true) ∧ Below W.heap.size W W' := by
  obtain ⟨hlc, hcm, hb, hcell⟩ := hm
  unfold maxLen at hcm
  go_enter Try.func4, Try.ntmps4
  go_wp2_with fail
  refine (New_ex _).mono ?_
  rintro e w1 ⟨b0, rfl, hM1, hz, hB1⟩
  have bl1 := hM1.lt
  have hz1 := hB1.size
  go_wp2_with fail
  go_loopw [7, 27] (SRel W b0 w1.heap.size len) (fun _ i _ => len - (intOf i).toNat)
  case atStart => exact ⟨0, 0, 0, 0, 0, 0, 0, 0, by omega, rfl, rfl, Blk.alloc (Blk.alloc (Blk.alloc hM1 _) _) _, by unfold SOk; omega, ((Blk.new w1 _ _).alloc _).alloc _, (by have h := (Blk.new (w1.alloc (.cells #[.int .i64 0, .int .i64 0] 32)) 32 #[.int .i64 0, .int .i64 0]).alloc (.cells #[.int .i64 0, .int .i64 0] 33); simpa using h), (by have h := Blk.new ((w1.alloc (.cells #[.int .i64 0, .int .i64 0] 32)).alloc (.cells #[.int .i64 0, .int .i64 0] 32)) 33 #[.int .i64 0, .int .i64 0]; simpa using h), b_alloc (b_alloc (b_alloc hB1 _) _) _⟩
  case round =>
    obtain ⟨k, q, c, m, t, x, y, z, hk, rfl, rfl, hM, hA, hC, hP, hT, hB⟩ := hrel
    have hA' := hA
    unfold SOk at hA'
    obtain ⟨ha1, ha2, ha3, ha4, ha5, ha6, ha7, ha8, ha9, ha10⟩ := hA'
    clear hA hM1 hB1
    by_cases hlt : k < len
    · obtain ⟨b, off, rfl, hbl, hcc⟩ := hcell (by omega)
      obtain ⟨hc0, hc1⟩ := hcc k (by omega)
      obtain ⟨hk0, hk1, hn0, hn1⟩ := hb k (by omega)
      have c0 : wr.cell? ⟨b, off + k * 2, none⟩ = some (.int .u8 (K k)) := (hB.cell hbl).trans hc0
      have c1 : wr.cell? ⟨b, off + k * 2 + 1, none⟩ = some (.int .u16 (N k)) := (hB.cell hbl).trans hc1
      clear hc0 hc1 hcc hcell hb
      generalize K k = kk at *
      generalize N k = nn at *
      have hC1 := hC.alloc (.cells #[.int .u8 kk, .int .u16 nn] 36)
      have hP1 := hP.alloc (.cells #[.int .u8 kk, .int .u16 nn] 36)
      have hT1 := hT.alloc (.cells #[.int .u8 kk, .int .u16 nn] 36)
      have hM1 : IsM _ b0 q c m t x y z := Blk.alloc hM (.cells #[.int .u8 kk, .int .u16 nn] 36)
      have hX1 := Blk.new wr 36 #[.int .u8 kk, .int .u16 nn]
      have hB1 := b_alloc hB (.cells #[.int .u8 kk, .int .u16 nn] 36)
      have lt1 := hC.lt
      have lt2 := hP.lt
      have lt3 := hT.lt
      have lt4 := hM.lt
      clear hC hP hT hM hB
      by_cases h4 : kk % 4 = 0
      · have t4 : (kk % 4 == 0) = true := by simp [h4]
        clear h4
        go_wp2_with fail
        refine (Begin_any b0 q c m t x y z _ hM1 (by omega) (by omega)).mono ?_
        rintro e w3 ⟨rfl, hM3, hg3⟩
        have hC3 := hC1.grown hg3 (by simp; omega)
        have hP3 := hP1.grown hg3 (by simp; omega)
        have hT3 := hT1.grown hg3 (by simp; omega)
        have hB3 := b_g hB1 hg3 (by omega)
        clear hC1 hP1 hT1 hX1 hB1 hM1 hg3 c0 c1
        have cC := hC3.cell
        have fC := hC3.frozen
        go_wp2_with fail
        have hC4 : Blk ((w3.setCell ⟨w1.heap.size, 0, none⟩ (.int .i64 0)).setCell ⟨w1.heap.size, 1, none⟩ (.int .i64 0)) w1.heap.size 32 #[.int .i64 0, .int .i64 0] := by
          have h := (hC3.set_ 0 (.int .i64 0)).set_ 1 (.int .i64 0)
          simpa using h
        have hM4 := (hM3.far (p := ⟨w1.heap.size, 0, none⟩) (by simp; omega) (.int .i64 0)).far (p := ⟨w1.heap.size, 1, none⟩) (by simp; omega) (.int .i64 0)
        have hP4 := (hP3.far (p := ⟨w1.heap.size, 0, none⟩) (by simp) (.int .i64 0)).far (p := ⟨w1.heap.size, 1, none⟩) (by simp) (.int .i64 0)
        have hT4 := (hT3.far (p := ⟨w1.heap.size, 0, none⟩) (by simp; omega) (.int .i64 0)).far (p := ⟨w1.heap.size, 1, none⟩) (by simp; omega) (.int .i64 0)
        have hB4 := (hB3.setCell (p := ⟨w1.heap.size, 0, none⟩) (by simp; omega) (.int .i64 0)).setCell (p := ⟨w1.heap.size, 1, none⟩) (by simp; omega) (.int .i64 0)
        clear hM3 hC3 hP3 hT3 hB3 cC fC
        obtain ⟨w4, hw4⟩ : ∃ w4, (w3.setCell ⟨w1.heap.size, 0, none⟩ (.int .i64 0)).setCell ⟨w1.heap.size, 1, none⟩ (.int .i64 0) = w4 := ⟨_, rfl⟩
        rw [hw4] at hM4 hC4 hP4 hT4 hB4
        rw [hw4]
        clear hw4
        have cC4 := hC4.cell
        have cP4 := hP4.cell
        have cT4 := hT4.cell
        refine (Call_any b0 (q + 1) 0 m t 0 y z _ hM4).mono ?_
        rintro e w5 ⟨rfl, rfl⟩
        go_wp2_with fail
        refine (Most_any b0 (q + 1) 0 m t 0 y z _ hM4.drew).mono ?_
        rintro e w5 ⟨rfl, rfl⟩
        go_wp2_with fail
        refine (Total_any b0 (q + 1) 0 m t 0 y z _ hM4.drew.drew).mono ?_
        rintro e w5 ⟨rfl, rfl⟩
        go_wp2_with fail
        refine (Calls_any b0 (q + 1) 0 m t 0 y z _ hM4.drew.drew.drew).mono ?_
        rintro e w5 ⟨rfl, rfl⟩
        go_wp2_with fail
        go_roundw
        case rel => exact ⟨k + 1, q + 1, 0, m, t, 0, y, z, by omega, by go_num, rfl, hM4.drew.drew.drew, by unfold SOk; omega, hC4.drew.drew.drew, hP4.drew.drew.drew, hT4.drew.drew.drew, hB4.drew.drew.drew⟩
        case measure => simp [intOf]; omega
      · by_cases h2 : kk % 2 = 0
        · skip
          have t4 : (kk % 4 == 0) = false := by simp [h4]
          by_cases hq : q = 0
          · have tq : (q == 0) = true := by simp [hq]
            clear hq
            go_wp2_with fail
            refine (Wrote_state b0 q c m t x y z nn _ hM1 hn0 tq).mono ?_
            rintro e w3 ⟨rfl, rfl⟩
            go_wp2_with fail
            go_roundw
            case rel => exact ⟨k + 1, q, c, m, t, x, y, z, by omega, by go_num, rfl, hM1, by unfold SOk; omega, hC1, hP1, hT1, hB1⟩
            case measure => simp [intOf]; omega
          · have tq : (q == 0) = false := by simp [hq]
            go_wp2_with fail
            refine (Wrote_ok b0 q c m t x y z nn _ hM1 hn0 tq (by omega) (by omega) (by omega) (by omega) (by omega)).mono ?_
            rintro e w3 ⟨rfl, hM3, hg3⟩
            have hC3 := hC1.grown hg3 (by simp; omega)
            have hP3 := hP1.grown hg3 (by simp; omega)
            have hT3 := hT1.grown hg3 (by simp; omega)
            have hX3 := hX1.grown hg3 (by simp; omega)
            have hB3 := b_g hB1 hg3 (by omega)
            clear hC1 hP1 hT1 hX1 hB1 hM1 hg3 c0 c1
            have cC := hC3.cell
            have cP := hP3.cell
            have cT := hT3.cell
            have cX := hX3.cell
            have fC := hC3.frozen
            have fP := hP3.frozen
            have fT := hT3.frozen
            by_cases hmx : m < c + nn
            · skip
              rw [show max m (c + nn) = (c + nn) from by omega] at hM3
              go_wp2_with fail
              go_region
              go_wp2_with fail
              go_region
              go_wp2_with fail
              go_region
              go_wp2_with fail
              obtain ⟨w4, hw4, hM4, hC4, hP4, hT4, hB4⟩ := after3 (B := w1.heap.size) 0 (.int .i64 (c + nn)) (.int .i64 (c + nn)) (.int .i64 (t + nn)) hM3 bl1 hC3 hP3 hT3 hB3 (by omega)
              rw [hw4]
              clear hw4 hM3 hC3 hP3 hT3 hB3 hX3 cC cP cT cX fC fP fT
              simp only [List.setIfInBounds_toArray, List.set_cons_zero, List.set_cons_succ] at hC4 hP4 hT4
              have cC4 := hC4.cell
              have cP4 := hP4.cell
              have cT4 := hT4.cell
              refine (Call_any b0 q (c + nn) (c + nn) (t + nn) x y z _ hM4).mono ?_
              rintro e w5 ⟨rfl, rfl⟩
              go_wp2_with fail
              refine (Most_any b0 q (c + nn) (c + nn) (t + nn) x y z _ hM4.drew).mono ?_
              rintro e w5 ⟨rfl, rfl⟩
              go_wp2_with fail
              refine (Total_any b0 q (c + nn) (c + nn) (t + nn) x y z _ hM4.drew.drew).mono ?_
              rintro e w5 ⟨rfl, rfl⟩
              go_wp2_with fail
              refine (Calls_any b0 q (c + nn) (c + nn) (t + nn) x y z _ hM4.drew.drew.drew).mono ?_
              rintro e w5 ⟨rfl, rfl⟩
              go_wp2_with fail
              go_roundw
              case rel => exact ⟨k + 1, q, c + nn, c + nn, t + nn, x, y, z, by omega, by go_num, rfl, hM4.drew.drew.drew, by unfold SOk; omega, hC4.drew.drew.drew, hP4.drew.drew.drew, hT4.drew.drew.drew, hB4.drew.drew.drew⟩
              case measure => simp [intOf]; omega
            · skip
              rw [show max m (c + nn) = m from by omega] at hM3
              go_wp2_with fail
              go_region
              go_wp2_with fail
              go_region
              go_wp2_with fail
              go_region
              go_wp2_with fail
              obtain ⟨w4, hw4, hM4, hC4, hP4, hT4, hB4⟩ := after3 (B := w1.heap.size) 0 (.int .i64 (c + nn)) (.int .i64 m) (.int .i64 (t + nn)) hM3 bl1 hC3 hP3 hT3 hB3 (by omega)
              rw [hw4]
              clear hw4 hM3 hC3 hP3 hT3 hB3 hX3 cC cP cT cX fC fP fT
              simp only [List.setIfInBounds_toArray, List.set_cons_zero, List.set_cons_succ] at hC4 hP4 hT4
              have cC4 := hC4.cell
              have cP4 := hP4.cell
              have cT4 := hT4.cell
              refine (Call_any b0 q (c + nn) m (t + nn) x y z _ hM4).mono ?_
              rintro e w5 ⟨rfl, rfl⟩
              go_wp2_with fail
              refine (Most_any b0 q (c + nn) m (t + nn) x y z _ hM4.drew).mono ?_
              rintro e w5 ⟨rfl, rfl⟩
              go_wp2_with fail
              refine (Total_any b0 q (c + nn) m (t + nn) x y z _ hM4.drew.drew).mono ?_
              rintro e w5 ⟨rfl, rfl⟩
              go_wp2_with fail
              refine (Calls_any b0 q (c + nn) m (t + nn) x y z _ hM4.drew.drew.drew).mono ?_
              rintro e w5 ⟨rfl, rfl⟩
              go_wp2_with fail
              go_roundw
              case rel => exact ⟨k + 1, q, c + nn, m, t + nn, x, y, z, by omega, by go_num, rfl, hM4.drew.drew.drew, by unfold SOk; omega, hC4.drew.drew.drew, hP4.drew.drew.drew, hT4.drew.drew.drew, hB4.drew.drew.drew⟩
              case measure => simp [intOf]; omega
        · have h2' : kk % 2 = 1 := by omega
          have t4 : (kk % 4 == 0) = false := by simp [h4]
          by_cases hq : q = 0
          · have tq : (q == 0) = true := by simp [hq]
            clear hq
            go_wp2_with fail
            refine (Read_state b0 q c m t x y z nn _ hM1 hn0 tq).mono ?_
            rintro e w3 ⟨rfl, rfl⟩
            go_wp2_with fail
            go_roundw
            case rel => exact ⟨k + 1, q, c, m, t, x, y, z, by omega, by go_num, rfl, hM1, by unfold SOk; omega, hC1, hP1, hT1, hB1⟩
            case measure => simp [intOf]; omega
          · have tq : (q == 0) = false := by simp [hq]
            go_wp2_with fail
            refine (Read_ok b0 q c m t x y z nn _ hM1 hn0 tq (by omega) (by omega) (by omega) (by omega) (by omega)).mono ?_
            rintro e w3 ⟨rfl, hM3, hg3⟩
            have hC3 := hC1.grown hg3 (by simp; omega)
            have hP3 := hP1.grown hg3 (by simp; omega)
            have hT3 := hT1.grown hg3 (by simp; omega)
            have hX3 := hX1.grown hg3 (by simp; omega)
            have hB3 := b_g hB1 hg3 (by omega)
            clear hC1 hP1 hT1 hX1 hB1 hM1 hg3 c0 c1
            have cC := hC3.cell
            have cP := hP3.cell
            have cT := hT3.cell
            have cX := hX3.cell
            have fC := hC3.frozen
            have fP := hP3.frozen
            have fT := hT3.frozen
            by_cases hmx : y < x + nn
            · skip
              rw [show max y (x + nn) = (x + nn) from by omega] at hM3
              go_wp2_with fail
              go_region
              go_wp2_with fail
              go_region
              go_wp2_with fail
              go_region
              go_wp2_with fail
              obtain ⟨w4, hw4, hM4, hC4, hP4, hT4, hB4⟩ := after3 (B := w1.heap.size) 1 (.int .i64 (x + nn)) (.int .i64 (x + nn)) (.int .i64 (z + nn)) hM3 bl1 hC3 hP3 hT3 hB3 (by omega)
              rw [hw4]
              clear hw4 hM3 hC3 hP3 hT3 hB3 hX3 cC cP cT cX fC fP fT
              simp only [List.setIfInBounds_toArray, List.set_cons_zero, List.set_cons_succ] at hC4 hP4 hT4
              have cC4 := hC4.cell
              have cP4 := hP4.cell
              have cT4 := hT4.cell
              refine (Call_any b0 q c m t (x + nn) (x + nn) (z + nn) _ hM4).mono ?_
              rintro e w5 ⟨rfl, rfl⟩
              go_wp2_with fail
              refine (Most_any b0 q c m t (x + nn) (x + nn) (z + nn) _ hM4.drew).mono ?_
              rintro e w5 ⟨rfl, rfl⟩
              go_wp2_with fail
              refine (Total_any b0 q c m t (x + nn) (x + nn) (z + nn) _ hM4.drew.drew).mono ?_
              rintro e w5 ⟨rfl, rfl⟩
              go_wp2_with fail
              refine (Calls_any b0 q c m t (x + nn) (x + nn) (z + nn) _ hM4.drew.drew.drew).mono ?_
              rintro e w5 ⟨rfl, rfl⟩
              go_wp2_with fail
              go_roundw
              case rel => exact ⟨k + 1, q, c, m, t, x + nn, x + nn, z + nn, by omega, by go_num, rfl, hM4.drew.drew.drew, by unfold SOk; omega, hC4.drew.drew.drew, hP4.drew.drew.drew, hT4.drew.drew.drew, hB4.drew.drew.drew⟩
              case measure => simp [intOf]; omega
            · skip
              rw [show max y (x + nn) = y from by omega] at hM3
              go_wp2_with fail
              go_region
              go_wp2_with fail
              go_region
              go_wp2_with fail
              go_region
              go_wp2_with fail
              obtain ⟨w4, hw4, hM4, hC4, hP4, hT4, hB4⟩ := after3 (B := w1.heap.size) 1 (.int .i64 (x + nn)) (.int .i64 y) (.int .i64 (z + nn)) hM3 bl1 hC3 hP3 hT3 hB3 (by omega)
              rw [hw4]
              clear hw4 hM3 hC3 hP3 hT3 hB3 hX3 cC cP cT cX fC fP fT
              simp only [List.setIfInBounds_toArray, List.set_cons_zero, List.set_cons_succ] at hC4 hP4 hT4
              have cC4 := hC4.cell
              have cP4 := hP4.cell
              have cT4 := hT4.cell
              refine (Call_any b0 q c m t (x + nn) y (z + nn) _ hM4).mono ?_
              rintro e w5 ⟨rfl, rfl⟩
              go_wp2_with fail
              refine (Most_any b0 q c m t (x + nn) y (z + nn) _ hM4.drew).mono ?_
              rintro e w5 ⟨rfl, rfl⟩
              go_wp2_with fail
              refine (Total_any b0 q c m t (x + nn) y (z + nn) _ hM4.drew.drew).mono ?_
              rintro e w5 ⟨rfl, rfl⟩
              go_wp2_with fail
              refine (Calls_any b0 q c m t (x + nn) y (z + nn) _ hM4.drew.drew.drew).mono ?_
              rintro e w5 ⟨rfl, rfl⟩
              go_wp2_with fail
              go_roundw
              case rel => exact ⟨k + 1, q, c, m, t, x + nn, y, z + nn, by omega, by go_num, rfl, hM4.drew.drew.drew, by unfold SOk; omega, hC4.drew.drew.drew, hP4.drew.drew.drew, hT4.drew.drew.drew, hB4.drew.drew.drew⟩
              case measure => simp [intOf]; omega
    · have hk' : k = len := by omega
      clear hcell hb hC hP hT
      go_wp2_with fail
      refine (Calls_any b0 q c m t x y z _ hM).mono ?_
      rintro e w5 ⟨rfl, rfl⟩
      go_wp2_with fail
      refine (works_any _).mono ?_
      rintro e w8 ⟨rfl, hb8⟩
      go_wp2_with fail
      go_ret
      exact ⟨rfl, b_then hB hb8⟩

set_option maxRecDepth 100000 in
set_option maxHeartbeats 6400000 in
theorem sums_large (a : Option Addr) (len cap : Nat) (K N : Nat → Int) (W : World) (hm : IsMoves W a len cap K N) (hl : ¬len ≤ 200) :
    Calls Try.prog 4 #[.slice a len cap] W fun e W' => e = .returned (.bool true) ∧ Below W.heap.size W W' := by
  obtain ⟨hlc, hcm, hb, hcell⟩ := hm
  unfold maxLen at hcm
  go_enter Try.func4, Try.ntmps4
  go_wp2_with fail
  refine (New_ex _).mono ?_
  rintro e w1 ⟨b0, rfl, hM1, hz, hB1⟩
  have bl1 := hM1.lt
  have hz1 := hB1.size
  go_wp2_with fail
  go_loopw [7, 27] (SRel W b0 w1.heap.size 200) (fun _ i _ => 200 - (intOf i).toNat)
  case atStart => exact ⟨0, 0, 0, 0, 0, 0, 0, 0, by omega, rfl, rfl, Blk.alloc (Blk.alloc (Blk.alloc hM1 _) _) _, by unfold SOk; omega, ((Blk.new w1 _ _).alloc _).alloc _, (by have h := (Blk.new (w1.alloc (.cells #[.int .i64 0, .int .i64 0] 32)) 32 #[.int .i64 0, .int .i64 0]).alloc (.cells #[.int .i64 0, .int .i64 0] 33); simpa using h), (by have h := Blk.new ((w1.alloc (.cells #[.int .i64 0, .int .i64 0] 32)).alloc (.cells #[.int .i64 0, .int .i64 0] 32)) 33 #[.int .i64 0, .int .i64 0]; simpa using h), b_alloc (b_alloc (b_alloc hB1 _) _) _⟩
  case round =>
    obtain ⟨k, q, c, m, t, x, y, z, hk, rfl, rfl, hM, hA, hC, hP, hT, hB⟩ := hrel
    have hA' := hA
    unfold SOk at hA'
    obtain ⟨ha1, ha2, ha3, ha4, ha5, ha6, ha7, ha8, ha9, ha10⟩ := hA'
    clear hA hM1 hB1
    by_cases hlt : k < 200
    · obtain ⟨b, off, rfl, hbl, hcc⟩ := hcell (by omega)
      obtain ⟨hc0, hc1⟩ := hcc k (by omega)
      obtain ⟨hk0, hk1, hn0, hn1⟩ := hb k (by omega)
      have c0 : wr.cell? ⟨b, off + k * 2, none⟩ = some (.int .u8 (K k)) := (hB.cell hbl).trans hc0
      have c1 : wr.cell? ⟨b, off + k * 2 + 1, none⟩ = some (.int .u16 (N k)) := (hB.cell hbl).trans hc1
      clear hc0 hc1 hcc hcell hb
      generalize K k = kk at *
      generalize N k = nn at *
      have hC1 := hC.alloc (.cells #[.int .u8 kk, .int .u16 nn] 36)
      have hP1 := hP.alloc (.cells #[.int .u8 kk, .int .u16 nn] 36)
      have hT1 := hT.alloc (.cells #[.int .u8 kk, .int .u16 nn] 36)
      have hM1 : IsM _ b0 q c m t x y z := Blk.alloc hM (.cells #[.int .u8 kk, .int .u16 nn] 36)
      have hX1 := Blk.new wr 36 #[.int .u8 kk, .int .u16 nn]
      have hB1 := b_alloc hB (.cells #[.int .u8 kk, .int .u16 nn] 36)
      have lt1 := hC.lt
      have lt2 := hP.lt
      have lt3 := hT.lt
      have lt4 := hM.lt
      clear hC hP hT hM hB
      by_cases h4 : kk % 4 = 0
      · have t4 : (kk % 4 == 0) = true := by simp [h4]
        clear h4
        go_wp2_with fail
        refine (Begin_any b0 q c m t x y z _ hM1 (by omega) (by omega)).mono ?_
        rintro e w3 ⟨rfl, hM3, hg3⟩
        have hC3 := hC1.grown hg3 (by simp; omega)
        have hP3 := hP1.grown hg3 (by simp; omega)
        have hT3 := hT1.grown hg3 (by simp; omega)
        have hB3 := b_g hB1 hg3 (by omega)
        clear hC1 hP1 hT1 hX1 hB1 hM1 hg3 c0 c1
        have cC := hC3.cell
        have fC := hC3.frozen
        go_wp2_with fail
        have hC4 : Blk ((w3.setCell ⟨w1.heap.size, 0, none⟩ (.int .i64 0)).setCell ⟨w1.heap.size, 1, none⟩ (.int .i64 0)) w1.heap.size 32 #[.int .i64 0, .int .i64 0] := by
          have h := (hC3.set_ 0 (.int .i64 0)).set_ 1 (.int .i64 0)
          simpa using h
        have hM4 := (hM3.far (p := ⟨w1.heap.size, 0, none⟩) (by simp; omega) (.int .i64 0)).far (p := ⟨w1.heap.size, 1, none⟩) (by simp; omega) (.int .i64 0)
        have hP4 := (hP3.far (p := ⟨w1.heap.size, 0, none⟩) (by simp) (.int .i64 0)).far (p := ⟨w1.heap.size, 1, none⟩) (by simp) (.int .i64 0)
        have hT4 := (hT3.far (p := ⟨w1.heap.size, 0, none⟩) (by simp; omega) (.int .i64 0)).far (p := ⟨w1.heap.size, 1, none⟩) (by simp; omega) (.int .i64 0)
        have hB4 := (hB3.setCell (p := ⟨w1.heap.size, 0, none⟩) (by simp; omega) (.int .i64 0)).setCell (p := ⟨w1.heap.size, 1, none⟩) (by simp; omega) (.int .i64 0)
        clear hM3 hC3 hP3 hT3 hB3 cC fC
        obtain ⟨w4, hw4⟩ : ∃ w4, (w3.setCell ⟨w1.heap.size, 0, none⟩ (.int .i64 0)).setCell ⟨w1.heap.size, 1, none⟩ (.int .i64 0) = w4 := ⟨_, rfl⟩
        rw [hw4] at hM4 hC4 hP4 hT4 hB4
        rw [hw4]
        clear hw4
        have cC4 := hC4.cell
        have cP4 := hP4.cell
        have cT4 := hT4.cell
        refine (Call_any b0 (q + 1) 0 m t 0 y z _ hM4).mono ?_
        rintro e w5 ⟨rfl, rfl⟩
        go_wp2_with fail
        refine (Most_any b0 (q + 1) 0 m t 0 y z _ hM4.drew).mono ?_
        rintro e w5 ⟨rfl, rfl⟩
        go_wp2_with fail
        refine (Total_any b0 (q + 1) 0 m t 0 y z _ hM4.drew.drew).mono ?_
        rintro e w5 ⟨rfl, rfl⟩
        go_wp2_with fail
        refine (Calls_any b0 (q + 1) 0 m t 0 y z _ hM4.drew.drew.drew).mono ?_
        rintro e w5 ⟨rfl, rfl⟩
        go_wp2_with fail
        go_roundw
        case rel => exact ⟨k + 1, q + 1, 0, m, t, 0, y, z, by omega, by go_num, rfl, hM4.drew.drew.drew, by unfold SOk; omega, hC4.drew.drew.drew, hP4.drew.drew.drew, hT4.drew.drew.drew, hB4.drew.drew.drew⟩
        case measure => simp [intOf]; omega
      · by_cases h2 : kk % 2 = 0
        · skip
          have t4 : (kk % 4 == 0) = false := by simp [h4]
          by_cases hq : q = 0
          · have tq : (q == 0) = true := by simp [hq]
            clear hq
            go_wp2_with fail
            refine (Wrote_state b0 q c m t x y z nn _ hM1 hn0 tq).mono ?_
            rintro e w3 ⟨rfl, rfl⟩
            go_wp2_with fail
            go_roundw
            case rel => exact ⟨k + 1, q, c, m, t, x, y, z, by omega, by go_num, rfl, hM1, by unfold SOk; omega, hC1, hP1, hT1, hB1⟩
            case measure => simp [intOf]; omega
          · have tq : (q == 0) = false := by simp [hq]
            go_wp2_with fail
            refine (Wrote_ok b0 q c m t x y z nn _ hM1 hn0 tq (by omega) (by omega) (by omega) (by omega) (by omega)).mono ?_
            rintro e w3 ⟨rfl, hM3, hg3⟩
            have hC3 := hC1.grown hg3 (by simp; omega)
            have hP3 := hP1.grown hg3 (by simp; omega)
            have hT3 := hT1.grown hg3 (by simp; omega)
            have hX3 := hX1.grown hg3 (by simp; omega)
            have hB3 := b_g hB1 hg3 (by omega)
            clear hC1 hP1 hT1 hX1 hB1 hM1 hg3 c0 c1
            have cC := hC3.cell
            have cP := hP3.cell
            have cT := hT3.cell
            have cX := hX3.cell
            have fC := hC3.frozen
            have fP := hP3.frozen
            have fT := hT3.frozen
            by_cases hmx : m < c + nn
            · skip
              rw [show max m (c + nn) = (c + nn) from by omega] at hM3
              go_wp2_with fail
              go_region
              go_wp2_with fail
              go_region
              go_wp2_with fail
              go_region
              go_wp2_with fail
              obtain ⟨w4, hw4, hM4, hC4, hP4, hT4, hB4⟩ := after3 (B := w1.heap.size) 0 (.int .i64 (c + nn)) (.int .i64 (c + nn)) (.int .i64 (t + nn)) hM3 bl1 hC3 hP3 hT3 hB3 (by omega)
              rw [hw4]
              clear hw4 hM3 hC3 hP3 hT3 hB3 hX3 cC cP cT cX fC fP fT
              simp only [List.setIfInBounds_toArray, List.set_cons_zero, List.set_cons_succ] at hC4 hP4 hT4
              have cC4 := hC4.cell
              have cP4 := hP4.cell
              have cT4 := hT4.cell
              refine (Call_any b0 q (c + nn) (c + nn) (t + nn) x y z _ hM4).mono ?_
              rintro e w5 ⟨rfl, rfl⟩
              go_wp2_with fail
              refine (Most_any b0 q (c + nn) (c + nn) (t + nn) x y z _ hM4.drew).mono ?_
              rintro e w5 ⟨rfl, rfl⟩
              go_wp2_with fail
              refine (Total_any b0 q (c + nn) (c + nn) (t + nn) x y z _ hM4.drew.drew).mono ?_
              rintro e w5 ⟨rfl, rfl⟩
              go_wp2_with fail
              refine (Calls_any b0 q (c + nn) (c + nn) (t + nn) x y z _ hM4.drew.drew.drew).mono ?_
              rintro e w5 ⟨rfl, rfl⟩
              go_wp2_with fail
              go_roundw
              case rel => exact ⟨k + 1, q, c + nn, c + nn, t + nn, x, y, z, by omega, by go_num, rfl, hM4.drew.drew.drew, by unfold SOk; omega, hC4.drew.drew.drew, hP4.drew.drew.drew, hT4.drew.drew.drew, hB4.drew.drew.drew⟩
              case measure => simp [intOf]; omega
            · skip
              rw [show max m (c + nn) = m from by omega] at hM3
              go_wp2_with fail
              go_region
              go_wp2_with fail
              go_region
              go_wp2_with fail
              go_region
              go_wp2_with fail
              obtain ⟨w4, hw4, hM4, hC4, hP4, hT4, hB4⟩ := after3 (B := w1.heap.size) 0 (.int .i64 (c + nn)) (.int .i64 m) (.int .i64 (t + nn)) hM3 bl1 hC3 hP3 hT3 hB3 (by omega)
              rw [hw4]
              clear hw4 hM3 hC3 hP3 hT3 hB3 hX3 cC cP cT cX fC fP fT
              simp only [List.setIfInBounds_toArray, List.set_cons_zero, List.set_cons_succ] at hC4 hP4 hT4
              have cC4 := hC4.cell
              have cP4 := hP4.cell
              have cT4 := hT4.cell
              refine (Call_any b0 q (c + nn) m (t + nn) x y z _ hM4).mono ?_
              rintro e w5 ⟨rfl, rfl⟩
              go_wp2_with fail
              refine (Most_any b0 q (c + nn) m (t + nn) x y z _ hM4.drew).mono ?_
              rintro e w5 ⟨rfl, rfl⟩
              go_wp2_with fail
              refine (Total_any b0 q (c + nn) m (t + nn) x y z _ hM4.drew.drew).mono ?_
              rintro e w5 ⟨rfl, rfl⟩
              go_wp2_with fail
              refine (Calls_any b0 q (c + nn) m (t + nn) x y z _ hM4.drew.drew.drew).mono ?_
              rintro e w5 ⟨rfl, rfl⟩
              go_wp2_with fail
              go_roundw
              case rel => exact ⟨k + 1, q, c + nn, m, t + nn, x, y, z, by omega, by go_num, rfl, hM4.drew.drew.drew, by unfold SOk; omega, hC4.drew.drew.drew, hP4.drew.drew.drew, hT4.drew.drew.drew, hB4.drew.drew.drew⟩
              case measure => simp [intOf]; omega
        · have h2' : kk % 2 = 1 := by omega
          have t4 : (kk % 4 == 0) = false := by simp [h4]
          by_cases hq : q = 0
          · have tq : (q == 0) = true := by simp [hq]
            clear hq
            go_wp2_with fail
            refine (Read_state b0 q c m t x y z nn _ hM1 hn0 tq).mono ?_
            rintro e w3 ⟨rfl, rfl⟩
            go_wp2_with fail
            go_roundw
            case rel => exact ⟨k + 1, q, c, m, t, x, y, z, by omega, by go_num, rfl, hM1, by unfold SOk; omega, hC1, hP1, hT1, hB1⟩
            case measure => simp [intOf]; omega
          · have tq : (q == 0) = false := by simp [hq]
            go_wp2_with fail
            refine (Read_ok b0 q c m t x y z nn _ hM1 hn0 tq (by omega) (by omega) (by omega) (by omega) (by omega)).mono ?_
            rintro e w3 ⟨rfl, hM3, hg3⟩
            have hC3 := hC1.grown hg3 (by simp; omega)
            have hP3 := hP1.grown hg3 (by simp; omega)
            have hT3 := hT1.grown hg3 (by simp; omega)
            have hX3 := hX1.grown hg3 (by simp; omega)
            have hB3 := b_g hB1 hg3 (by omega)
            clear hC1 hP1 hT1 hX1 hB1 hM1 hg3 c0 c1
            have cC := hC3.cell
            have cP := hP3.cell
            have cT := hT3.cell
            have cX := hX3.cell
            have fC := hC3.frozen
            have fP := hP3.frozen
            have fT := hT3.frozen
            by_cases hmx : y < x + nn
            · skip
              rw [show max y (x + nn) = (x + nn) from by omega] at hM3
              go_wp2_with fail
              go_region
              go_wp2_with fail
              go_region
              go_wp2_with fail
              go_region
              go_wp2_with fail
              obtain ⟨w4, hw4, hM4, hC4, hP4, hT4, hB4⟩ := after3 (B := w1.heap.size) 1 (.int .i64 (x + nn)) (.int .i64 (x + nn)) (.int .i64 (z + nn)) hM3 bl1 hC3 hP3 hT3 hB3 (by omega)
              rw [hw4]
              clear hw4 hM3 hC3 hP3 hT3 hB3 hX3 cC cP cT cX fC fP fT
              simp only [List.setIfInBounds_toArray, List.set_cons_zero, List.set_cons_succ] at hC4 hP4 hT4
              have cC4 := hC4.cell
              have cP4 := hP4.cell
              have cT4 := hT4.cell
              refine (Call_any b0 q c m t (x + nn) (x + nn) (z + nn) _ hM4).mono ?_
              rintro e w5 ⟨rfl, rfl⟩
              go_wp2_with fail
              refine (Most_any b0 q c m t (x + nn) (x + nn) (z + nn) _ hM4.drew).mono ?_
              rintro e w5 ⟨rfl, rfl⟩
              go_wp2_with fail
              refine (Total_any b0 q c m t (x + nn) (x + nn) (z + nn) _ hM4.drew.drew).mono ?_
              rintro e w5 ⟨rfl, rfl⟩
              go_wp2_with fail
              refine (Calls_any b0 q c m t (x + nn) (x + nn) (z + nn) _ hM4.drew.drew.drew).mono ?_
              rintro e w5 ⟨rfl, rfl⟩
              go_wp2_with fail
              go_roundw
              case rel => exact ⟨k + 1, q, c, m, t, x + nn, x + nn, z + nn, by omega, by go_num, rfl, hM4.drew.drew.drew, by unfold SOk; omega, hC4.drew.drew.drew, hP4.drew.drew.drew, hT4.drew.drew.drew, hB4.drew.drew.drew⟩
              case measure => simp [intOf]; omega
            · skip
              rw [show max y (x + nn) = y from by omega] at hM3
              go_wp2_with fail
              go_region
              go_wp2_with fail
              go_region
              go_wp2_with fail
              go_region
              go_wp2_with fail
              obtain ⟨w4, hw4, hM4, hC4, hP4, hT4, hB4⟩ := after3 (B := w1.heap.size) 1 (.int .i64 (x + nn)) (.int .i64 y) (.int .i64 (z + nn)) hM3 bl1 hC3 hP3 hT3 hB3 (by omega)
              rw [hw4]
              clear hw4 hM3 hC3 hP3 hT3 hB3 hX3 cC cP cT cX fC fP fT
              simp only [List.setIfInBounds_toArray, List.set_cons_zero, List.set_cons_succ] at hC4 hP4 hT4
              have cC4 := hC4.cell
              have cP4 := hP4.cell
              have cT4 := hT4.cell
              refine (Call_any b0 q c m t (x + nn) y (z + nn) _ hM4).mono ?_
              rintro e w5 ⟨rfl, rfl⟩
              go_wp2_with fail
              refine (Most_any b0 q c m t (x + nn) y (z + nn) _ hM4.drew).mono ?_
              rintro e w5 ⟨rfl, rfl⟩
              go_wp2_with fail
              refine (Total_any b0 q c m t (x + nn) y (z + nn) _ hM4.drew.drew).mono ?_
              rintro e w5 ⟨rfl, rfl⟩
              go_wp2_with fail
              refine (Calls_any b0 q c m t (x + nn) y (z + nn) _ hM4.drew.drew.drew).mono ?_
              rintro e w5 ⟨rfl, rfl⟩
              go_wp2_with fail
              go_roundw
              case rel => exact ⟨k + 1, q, c, m, t, x + nn, y, z + nn, by omega, by go_num, rfl, hM4.drew.drew.drew, by unfold SOk; omega, hC4.drew.drew.drew, hP4.drew.drew.drew, hT4.drew.drew.drew, hB4.drew.drew.drew⟩
              case measure => simp [intOf]; omega
    · have hk' : k = 200 := by omega
      clear hcell hb hC hP hT
      go_wp2_with fail
      refine (Calls_any b0 q c m t x y z _ hM).mono ?_
      rintro e w5 ⟨rfl, rfl⟩
      go_wp2_with fail
      refine (works_any _).mono ?_
      rintro e w8 ⟨rfl, hb8⟩
      go_wp2_with fail
      go_ret
      exact ⟨rfl, b_then hB hb8⟩

end Go.Proofs.Ytjnbkpjpcbmhcaa
