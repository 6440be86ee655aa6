/-
  MeterApart's walk: a loop over moves on a meter, then a copy that goes on alone.
-/
import Derived.Test.YtjnbkpjpcbmhcaaMov
import Derived.Test.YtjnbkpjpcbmhcaaWks
namespace Go.Proofs.Ytjnbkpjpcbmhcaa
open Go.ChangeShapes Go.WideShapes Go.ChangeAt Go.RowKit
set_option linter.unusedVariables false

theorem IsM.grown {w w' : World} {b b' : Nat} {k c m t x y z : Int} (h : IsM w b k c m t x y z) (hg : w.grownBy w' (some b')) (hne : b ≠ b') : IsM w' b k c m t x y z :=
  Blk.grown h hg (by simpa using hne)

/-- the numbers after k moves -/
def AOk (k : Nat) (q c m t x y z : Int) : Prop :=
  1 ≤ q ∧ q ≤ k + 1 ∧ 0 ≤ c ∧ c ≤ t ∧ 0 ≤ m ∧ m ≤ t ∧ t ≤ 65535 * k ∧ 0 ≤ x ∧ x ≤ z ∧ 0 ≤ y ∧ y ≤ z ∧ z ≤ 65535 * k
def ARel (W : World) (xk xn : Int) (b0 n : Nat) (i : Value) (wr : World) : Prop :=
  ∃ (k : Nat) (q c m t x y z : Int), k ≤ n ∧ i = .int .i64 k ∧ IsM wr b0 q c m t x y z ∧ AOk k q c m t x y z ∧ Below W.heap.size W wr ∧ Blk wr W.heap.size 36 #[.int .u8 xk, .int .u16 xn]

theorem rem3 (k : Int) (h : 0 ≤ k) : k % 3 = 0 ∨ k % 3 = 1 ∨ k % 3 = 2 := by omega

set_option maxHeartbeats 3200000 in
theorem apart_walk (a : Option Addr) (len cap : Nat) (K N : Nat → Int) (xk xn : Int) (W : World) (hm : IsMoves W a len cap K N) (hxn : 0 ≤ xn) (hxn' : xn ≤ 65535) :
    Calls Try.prog 8 #[.slice a len cap, .agg #[.int .u8 xk, .int .u16 xn]] W fun e W' => e = .returned (.bool true) ∧ Below W.heap.size W W' := by
  obtain ⟨hlc, hcm, hb, hcell⟩ := hm
  unfold maxLen at hcm
  by_cases hl : len ≤ 100
  · go_enter Try.func8, Try.ntmps8
    go_wp2_with fail
    refine (New_ex _).mono ?_
    rintro e w1 ⟨b0, rfl, hM1, hz, hb1⟩
    have hX1 := (Blk.new W 36 #[.int .u8 xk, .int .u16 xn]).below hb1 (by simp)
    have hB1 := b_then (b_alloc (Below.refl _ W) _) hb1
    simp only [World.size_alloc] at hz
    clear hb1
    go_wp2_with fail
    refine (Begin_any b0 0 0 0 0 0 0 0 w1 hM1 (by decide) (by decide)).mono ?_
    rintro e w2 ⟨rfl, hM2, hg2⟩
    have hM2 : IsM w2 b0 1 0 0 0 0 0 0 := hM2
    have hB2 := b_g hB1 hg2 (by omega)
    have hX2 := hX1.grown hg2 (by simp; omega)
    clear hM1 hB1 hX1 hg2
    go_wp2_with fail
    go_loopw [30] (ARel W xk xn b0 len) (fun i _ => len - (intOf i).toNat)
    case atStart => exact ⟨0, 1, 0, 0, 0, 0, 0, 0, by omega, rfl, hM2, by unfold AOk; omega, hB2, hX2⟩
    case round =>
      obtain ⟨k, q, c, m, t, x, y, z, hk, rfl, hM, hA, hB, hX⟩ := hrel
      have hA' := hA
      unfold AOk at hA'
      obtain ⟨ha1, ha2, ha3, ha4, ha5, ha6, ha7, ha8, ha9, ha10, ha11, ha12⟩ := hA'
      clear hA hM2 hB2 hX2
      by_cases hlt : k < len
      · obtain ⟨b, off, rfl, hbl, hcc⟩ := hcell (by omega)
        obtain ⟨hc0, hc1⟩ := hcc k (by omega)
        obtain ⟨hk0, hk1, hn0, hn1⟩ := hb k (by omega)
        have c0 : wr.cell? ⟨b, off + k * 2, none⟩ = some (.int .u8 (K k)) := (hB.cell hbl).trans hc0
        have c1 : wr.cell? ⟨b, off + k * 2 + 1, none⟩ = some (.int .u16 (N k)) := (hB.cell hbl).trans hc1
        clear hc0 hc1 hcc hcell hb
        rcases rem3 (K k) hk0 with h3 | h3 | h3
        · have t1 : (K k % 3 == 0) = true := by simp [h3]
          clear h3
          go_wp2_with fail
          refine (Begin_any b0 q c m t x y z _ (Blk.alloc hM _) (by omega) (by omega)).mono ?_
          rintro e w3 ⟨rfl, hM3, hg3⟩
          have hB3 := b_g (b_alloc hB _) hg3 (by omega)
          have hX3 := (hX.alloc _).grown hg3 (by simp; omega)
          clear hM hB hX hg3 c0 c1
          go_wp2_with fail
          go_roundw
          case rel => exact ⟨k + 1, q + 1, 0, m, t, 0, y, z, by omega, by go_num, hM3, by unfold AOk; omega, hB3, hX3⟩
          case measure => simp [intOf]; omega
        · have t1 : (K k % 3 == 0) = false := by simp [h3]
          have t2 : (K k % 3 == 1) = true := by simp [h3]
          clear h3
          go_wp2_with fail
          refine (Wrote_ok b0 q c m t x y z (N k) _ (Blk.alloc hM _) hn0 (by simp; omega) (by omega) (by omega) (by omega) (by omega) (by omega)).mono ?_
          rintro e w3 ⟨rfl, hM3, hg3⟩
          have hB3 := b_g (b_alloc hB _) hg3 (by omega)
          have hX3 := (hX.alloc _).grown hg3 (by simp; omega)
          clear hM hB hX hg3 c0 c1
          go_wp2_with fail
          go_roundw
          case rel => exact ⟨k + 1, q, (c + N k), (max m (c + N k)), (t + N k), x, y, z, by omega, by go_num, hM3, by unfold AOk; omega, hB3, hX3⟩
          case measure => simp [intOf]; omega
        · have t1 : (K k % 3 == 0) = false := by simp [h3]
          have t2 : (K k % 3 == 1) = false := by simp [h3]
          clear h3
          go_wp2_with fail
          refine (Read_ok b0 q c m t x y z (N k) _ (Blk.alloc hM _) hn0 (by simp; omega) (by omega) (by omega) (by omega) (by omega) (by omega)).mono ?_
          rintro e w3 ⟨rfl, hM3, hg3⟩
          have hB3 := b_g (b_alloc hB _) hg3 (by omega)
          have hX3 := (hX.alloc _).grown hg3 (by simp; omega)
          clear hM hB hX hg3 c0 c1
          go_wp2_with fail
          go_roundw
          case rel => exact ⟨k + 1, q, c, m, t, (x + N k), (max y (x + N k)), (z + N k), by omega, by go_num, hM3, by unfold AOk; omega, hB3, hX3⟩
          case measure => simp [intOf]; omega
      · have hk' : k = len := by omega
        clear hcell hb
        have cx := hX.cell 1
        simp only [List.getElem?_toArray, List.getElem?_cons_succ, List.getElem?_cons_zero] at cx
        have bl := hM.lt
        go_wp2_with fail
        refine (Copy_ex b0 q c m t x y z wr hM).mono ?_
        rintro e w3 ⟨b1, rfl, hC3, hz3, hb3⟩
        have hM3 := hM.below hb3 bl
        have hX3 := hX.below hb3 hX.lt
        have hB3 := b_then hB hb3
        clear hM hX hB hb3 cx
        go_wp2_with fail
        refine (Total_any b0 q c m t x y z w3 hM3).mono ?_
        rintro e w4 ⟨rfl, rfl⟩
        go_wp2_with fail
        refine (Call_any b0 q c m t x y z w3.drew hM3.drew).mono ?_
        rintro e w4 ⟨rfl, rfl⟩
        have cx := (hX3.drew.drew).cell 1
        simp only [List.getElem?_toArray, List.getElem?_cons_succ, List.getElem?_cons_zero] at cx
        go_wp2_with fail
        refine (Wrote_ok b1 q c m t x y z xn w3.drew.drew hC3.drew.drew hxn (by simp; omega) (by omega) (by omega) (by omega) (by omega) (by omega)).mono ?_
        rintro e w4 ⟨rfl, hC4, hg4⟩
        have hM4 := (hM3.drew.drew).grown hg4 (by omega)
        have hX4 := (hX3.drew.drew).grown hg4 (by simp; omega)
        have hB4 := b_g hB3.drew.drew hg4 (by omega)
        clear hC3 hM3 hX3 hB3 hg4 cx
        obtain ⟨m4, hm4, hm5⟩ : ∃ m4, m4 = max m (c + xn) ∧ 0 ≤ m4 := ⟨_, rfl, by omega⟩
        rw [← hm4] at hC4
        have hm6 : m4 ≤ 10000000 := by omega
        clear hm4
        have cx := hX4.cell 1
        simp only [List.getElem?_toArray, List.getElem?_cons_succ, List.getElem?_cons_zero] at cx
        go_wp2_with fail
        refine (Read_ok b1 q (c + xn) m4 (t + xn) x y z xn w4 hC4 hxn (by simp; omega) (by omega) (by omega) (by omega) (by omega) (by omega)).mono ?_
        rintro e w5 ⟨rfl, hC5, hg5⟩
        have hM5 := hM4.grown hg5 (by omega)
        have hX5 := hX4.grown hg5 (by simp; omega)
        have hB5 := b_g hB4 hg5 (by omega)
        clear hC4 hM4 hX4 hB4 hg5 cx
        obtain ⟨m5, hm7⟩ : ∃ m5, m5 = max y (x + xn) := ⟨_, rfl⟩
        rw [← hm7] at hC5
        clear hm7
        go_wp2_with fail
        refine (Total_any b1 q (c + xn) m4 (t + xn) (x + xn) m5 (z + xn) w5 hC5).mono ?_
        rintro e w6 ⟨rfl, rfl⟩
        go_wp2_with fail
        refine (Begin_any b1 q (c + xn) m4 (t + xn) (x + xn) m5 (z + xn) w5.drew hC5.drew (by omega) (by omega)).mono ?_
        rintro e w6 ⟨rfl, hC6, hg6⟩
        have hM6 := (hM5.drew).grown hg6 (by omega)
        have hX6 := (hX5.drew).grown hg6 (by simp; omega)
        have hB6 := b_g hB5.drew hg6 (by omega)
        clear hC5 hM5 hX5 hB5 hg6
        go_wp2_with fail
        refine (Total_any b0 q c m t x y z w6 hM6).mono ?_
        rintro e w7 ⟨rfl, rfl⟩
        go_wp2_with fail
        refine (Call_any b0 q c m t x y z w6.drew hM6.drew).mono ?_
        rintro e w7 ⟨rfl, rfl⟩
        have cx := (hX6.drew.drew).cell 1
        simp only [List.getElem?_toArray, List.getElem?_cons_succ, List.getElem?_cons_zero] at cx
        go_wp2_with fail
        refine (Calls_any b1 (q + 1) 0 m4 (t + xn) 0 m5 (z + xn) w6.drew.drew hC6.drew.drew).mono ?_
        rintro e w7 ⟨rfl, rfl⟩
        go_wp2_with fail
        refine (Calls_any b0 q c m t x y z w6.drew.drew hM6.drew.drew).mono ?_
        rintro e w7 ⟨rfl, rfl⟩
        go_wp2_with fail
        refine (works_any _).mono ?_
        rintro e w8 ⟨rfl, hb8⟩
        go_wp2_with fail
        go_ret
        exact ⟨rfl, b_then hB6.drew.drew hb8⟩
  · go_enter Try.func8, Try.ntmps8
    go_wp2_with fail
    refine (New_ex _).mono ?_
    rintro e w1 ⟨b0, rfl, hM1, hz, hb1⟩
    have hX1 := (Blk.new W 36 #[.int .u8 xk, .int .u16 xn]).below hb1 (by simp)
    have hB1 := b_then (b_alloc (Below.refl _ W) _) hb1
    simp only [World.size_alloc] at hz
    clear hb1
    go_wp2_with fail
    refine (Begin_any b0 0 0 0 0 0 0 0 w1 hM1 (by decide) (by decide)).mono ?_
    rintro e w2 ⟨rfl, hM2, hg2⟩
    have hM2 : IsM w2 b0 1 0 0 0 0 0 0 := hM2
    have hB2 := b_g hB1 hg2 (by omega)
    have hX2 := hX1.grown hg2 (by simp; omega)
    clear hM1 hB1 hX1 hg2
    go_wp2_with fail
    go_loopw [30] (ARel W xk xn b0 100) (fun i _ => 100 - (intOf i).toNat)
    case atStart => exact ⟨0, 1, 0, 0, 0, 0, 0, 0, by omega, rfl, hM2, by unfold AOk; omega, hB2, hX2⟩
    case round =>
      obtain ⟨k, q, c, m, t, x, y, z, hk, rfl, hM, hA, hB, hX⟩ := hrel
      have hA' := hA
      unfold AOk at hA'
      obtain ⟨ha1, ha2, ha3, ha4, ha5, ha6, ha7, ha8, ha9, ha10, ha11, ha12⟩ := hA'
      clear hA hM2 hB2 hX2
      by_cases hlt : k < 100
      · obtain ⟨b, off, rfl, hbl, hcc⟩ := hcell (by omega)
        obtain ⟨hc0, hc1⟩ := hcc k (by omega)
        obtain ⟨hk0, hk1, hn0, hn1⟩ := hb k (by omega)
        have c0 : wr.cell? ⟨b, off + k * 2, none⟩ = some (.int .u8 (K k)) := (hB.cell hbl).trans hc0
        have c1 : wr.cell? ⟨b, off + k * 2 + 1, none⟩ = some (.int .u16 (N k)) := (hB.cell hbl).trans hc1
        clear hc0 hc1 hcc hcell hb
        rcases rem3 (K k) hk0 with h3 | h3 | h3
        · have t1 : (K k % 3 == 0) = true := by simp [h3]
          clear h3
          go_wp2_with fail
          refine (Begin_any b0 q c m t x y z _ (Blk.alloc hM _) (by omega) (by omega)).mono ?_
          rintro e w3 ⟨rfl, hM3, hg3⟩
          have hB3 := b_g (b_alloc hB _) hg3 (by omega)
          have hX3 := (hX.alloc _).grown hg3 (by simp; omega)
          clear hM hB hX hg3 c0 c1
          go_wp2_with fail
          go_roundw
          case rel => exact ⟨k + 1, q + 1, 0, m, t, 0, y, z, by omega, by go_num, hM3, by unfold AOk; omega, hB3, hX3⟩
          case measure => simp [intOf]; omega
        · have t1 : (K k % 3 == 0) = false := by simp [h3]
          have t2 : (K k % 3 == 1) = true := by simp [h3]
          clear h3
          go_wp2_with fail
          refine (Wrote_ok b0 q c m t x y z (N k) _ (Blk.alloc hM _) hn0 (by simp; omega) (by omega) (by omega) (by omega) (by omega) (by omega)).mono ?_
          rintro e w3 ⟨rfl, hM3, hg3⟩
          have hB3 := b_g (b_alloc hB _) hg3 (by omega)
          have hX3 := (hX.alloc _).grown hg3 (by simp; omega)
          clear hM hB hX hg3 c0 c1
          go_wp2_with fail
          go_roundw
          case rel => exact ⟨k + 1, q, (c + N k), (max m (c + N k)), (t + N k), x, y, z, by omega, by go_num, hM3, by unfold AOk; omega, hB3, hX3⟩
          case measure => simp [intOf]; omega
        · have t1 : (K k % 3 == 0) = false := by simp [h3]
          have t2 : (K k % 3 == 1) = false := by simp [h3]
          clear h3
          go_wp2_with fail
          refine (Read_ok b0 q c m t x y z (N k) _ (Blk.alloc hM _) hn0 (by simp; omega) (by omega) (by omega) (by omega) (by omega) (by omega)).mono ?_
          rintro e w3 ⟨rfl, hM3, hg3⟩
          have hB3 := b_g (b_alloc hB _) hg3 (by omega)
          have hX3 := (hX.alloc _).grown hg3 (by simp; omega)
          clear hM hB hX hg3 c0 c1
          go_wp2_with fail
          go_roundw
          case rel => exact ⟨k + 1, q, c, m, t, (x + N k), (max y (x + N k)), (z + N k), by omega, by go_num, hM3, by unfold AOk; omega, hB3, hX3⟩
          case measure => simp [intOf]; omega
      · have hk' : k = 100 := by omega
        clear hcell hb
        have cx := hX.cell 1
        simp only [List.getElem?_toArray, List.getElem?_cons_succ, List.getElem?_cons_zero] at cx
        have bl := hM.lt
        go_wp2_with fail
        refine (Copy_ex b0 q c m t x y z wr hM).mono ?_
        rintro e w3 ⟨b1, rfl, hC3, hz3, hb3⟩
        have hM3 := hM.below hb3 bl
        have hX3 := hX.below hb3 hX.lt
        have hB3 := b_then hB hb3
        clear hM hX hB hb3 cx
        go_wp2_with fail
        refine (Total_any b0 q c m t x y z w3 hM3).mono ?_
        rintro e w4 ⟨rfl, rfl⟩
        go_wp2_with fail
        refine (Call_any b0 q c m t x y z w3.drew hM3.drew).mono ?_
        rintro e w4 ⟨rfl, rfl⟩
        have cx := (hX3.drew.drew).cell 1
        simp only [List.getElem?_toArray, List.getElem?_cons_succ, List.getElem?_cons_zero] at cx
        go_wp2_with fail
        refine (Wrote_ok b1 q c m t x y z xn w3.drew.drew hC3.drew.drew hxn (by simp; omega) (by omega) (by omega) (by omega) (by omega) (by omega)).mono ?_
        rintro e w4 ⟨rfl, hC4, hg4⟩
        have hM4 := (hM3.drew.drew).grown hg4 (by omega)
        have hX4 := (hX3.drew.drew).grown hg4 (by simp; omega)
        have hB4 := b_g hB3.drew.drew hg4 (by omega)
        clear hC3 hM3 hX3 hB3 hg4 cx
        obtain ⟨m4, hm4, hm5⟩ : ∃ m4, m4 = max m (c + xn) ∧ 0 ≤ m4 := ⟨_, rfl, by omega⟩
        rw [← hm4] at hC4
        have hm6 : m4 ≤ 10000000 := by omega
        clear hm4
        have cx := hX4.cell 1
        simp only [List.getElem?_toArray, List.getElem?_cons_succ, List.getElem?_cons_zero] at cx
        go_wp2_with fail
        refine (Read_ok b1 q (c + xn) m4 (t + xn) x y z xn w4 hC4 hxn (by simp; omega) (by omega) (by omega) (by omega) (by omega) (by omega)).mono ?_
        rintro e w5 ⟨rfl, hC5, hg5⟩
        have hM5 := hM4.grown hg5 (by omega)
        have hX5 := hX4.grown hg5 (by simp; omega)
        have hB5 := b_g hB4 hg5 (by omega)
        clear hC4 hM4 hX4 hB4 hg5 cx
        obtain ⟨m5, hm7⟩ : ∃ m5, m5 = max y (x + xn) := ⟨_, rfl⟩
        rw [← hm7] at hC5
        clear hm7
        go_wp2_with fail
        refine (Total_any b1 q (c + xn) m4 (t + xn) (x + xn) m5 (z + xn) w5 hC5).mono ?_
        rintro e w6 ⟨rfl, rfl⟩
        go_wp2_with fail
        refine (Begin_any b1 q (c + xn) m4 (t + xn) (x + xn) m5 (z + xn) w5.drew hC5.drew (by omega) (by omega)).mono ?_
        rintro e w6 ⟨rfl, hC6, hg6⟩
        have hM6 := (hM5.drew).grown hg6 (by omega)
        have hX6 := (hX5.drew).grown hg6 (by simp; omega)
        have hB6 := b_g hB5.drew hg6 (by omega)
        clear hC5 hM5 hX5 hB5 hg6
        go_wp2_with fail
        refine (Total_any b0 q c m t x y z w6 hM6).mono ?_
        rintro e w7 ⟨rfl, rfl⟩
        go_wp2_with fail
        refine (Call_any b0 q c m t x y z w6.drew hM6.drew).mono ?_
        rintro e w7 ⟨rfl, rfl⟩
        have cx := (hX6.drew.drew).cell 1
        simp only [List.getElem?_toArray, List.getElem?_cons_succ, List.getElem?_cons_zero] at cx
        go_wp2_with fail
        refine (Calls_any b1 (q + 1) 0 m4 (t + xn) 0 m5 (z + xn) w6.drew.drew hC6.drew.drew).mono ?_
        rintro e w7 ⟨rfl, rfl⟩
        go_wp2_with fail
        refine (Calls_any b0 q c m t x y z w6.drew.drew hM6.drew.drew).mono ?_
        rintro e w7 ⟨rfl, rfl⟩
        go_wp2_with fail
        refine (works_any _).mono ?_
        rintro e w8 ⟨rfl, hb8⟩
        go_wp2_with fail
        go_ret
        exact ⟨rfl, b_then hB6.drew.drew hb8⟩
end Go.Proofs.Ytjnbkpjpcbmhcaa
