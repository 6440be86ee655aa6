/-
  Decoding of fixed-width integers, by both texts.
-/
import Derived.Test.YtiobnhdcapfhgaaCod
import Derived.Laws.BitsAllLaws
namespace Go.Proofs.Ytiobnhdcapfhgaa
open Go.RowKit
set_option linter.unusedVariables false

theorem or_add (x c : Int) (P : Int) (i : Nat) (hP : P = 2 ^ i) (h0 : 0 ≤ x) (h1 : x < P) (h2 : 0 ≤ c) (h3 : c * P < 18446744073709551616) (h4 : x < 18446744073709551616) : bits .or .u64 x (c * P) = x + c * P := by
  have hPp : 0 ≤ c * P := Int.mul_nonneg h2 (by rw [hP]; exact Int.le_of_lt (Int.pow_pos (by decide)))
  rw [Go.u64_or x (c * P) h0 h4 hPp h3]
  obtain ⟨a, rfl⟩ := Int.eq_ofNat_of_zero_le h0
  obtain ⟨d, rfl⟩ := Int.eq_ofNat_of_zero_le h2
  subst hP
  have e1 : ((d : Int) * 2 ^ i).toNat = d * 2 ^ i := by
    have : ((d : Int) * 2 ^ i) = ((d * 2 ^ i : Nat) : Int) := by simp
    rw [this, Int.toNat_natCast]
  have h1' : a < 2 ^ i := by
    have : (a : Int) < ((2 ^ i : Nat) : Int) := by simpa using h1
    omega
  rw [e1, Int.toNat_natCast, Nat.or_comm, Nat.mul_comm d (2 ^ i), ← Nat.two_pow_add_eq_or_of_lt h1' d]
  simp [Int.natCast_add, Int.natCast_mul, Int.natCast_pow, Int.mul_comm, Int.add_comm]
theorem or_0 (c : Int) (h : 0 ≤ c) (h1 : c ≤ 255) : bits .or .u64 0 c = c := by
  rw [Go.u64_or 0 c (by decide) (by decide) h (by omega)]
  simp
  omega
theorem orv_1 (c0 : Int) (r0 : 0 ≤ c0 ∧ c0 ≤ 255) : bits .or .u64 0 c0 = c0 := by
  rw [or_0 c0 r0.1 r0.2]
theorem orv_2 (c0 c1 : Int) (r0 : 0 ≤ c0 ∧ c0 ≤ 255) (r1 : 0 ≤ c1 ∧ c1 ≤ 255) : bits .or .u64 (bits .or .u64 0 c0) (c1 * 256) = (c0 + c1 * 256) := by
  rw [or_0 c0 r0.1 r0.2, or_add c0 c1 256 8 (by decide) (by omega) (by omega) (by omega) (by omega) (by omega)]
theorem orv_4 (c0 c1 c2 c3 : Int) (r0 : 0 ≤ c0 ∧ c0 ≤ 255) (r1 : 0 ≤ c1 ∧ c1 ≤ 255) (r2 : 0 ≤ c2 ∧ c2 ≤ 255) (r3 : 0 ≤ c3 ∧ c3 ≤ 255) : bits .or .u64 (bits .or .u64 (bits .or .u64 (bits .or .u64 0 c0) (c1 * 256)) (c2 * 65536)) (c3 * 16777216) = (((c0 + c1 * 256) + c2 * 65536) + c3 * 16777216) := by
  rw [or_0 c0 r0.1 r0.2, or_add c0 c1 256 8 (by decide) (by omega) (by omega) (by omega) (by omega) (by omega), or_add (c0 + c1 * 256) c2 65536 16 (by decide) (by omega) (by omega) (by omega) (by omega) (by omega), or_add ((c0 + c1 * 256) + c2 * 65536) c3 16777216 24 (by decide) (by omega) (by omega) (by omega) (by omega) (by omega)]
theorem orv_8 (c0 c1 c2 c3 c4 c5 c6 c7 : Int) (r0 : 0 ≤ c0 ∧ c0 ≤ 255) (r1 : 0 ≤ c1 ∧ c1 ≤ 255) (r2 : 0 ≤ c2 ∧ c2 ≤ 255) (r3 : 0 ≤ c3 ∧ c3 ≤ 255) (r4 : 0 ≤ c4 ∧ c4 ≤ 255) (r5 : 0 ≤ c5 ∧ c5 ≤ 255) (r6 : 0 ≤ c6 ∧ c6 ≤ 255) (r7 : 0 ≤ c7 ∧ c7 ≤ 255) : bits .or .u64 (bits .or .u64 (bits .or .u64 (bits .or .u64 (bits .or .u64 (bits .or .u64 (bits .or .u64 (bits .or .u64 0 c0) (c1 * 256)) (c2 * 65536)) (c3 * 16777216)) (c4 * 4294967296)) (c5 * 1099511627776)) (c6 * 281474976710656)) (c7 * 72057594037927936) = (((((((c0 + c1 * 256) + c2 * 65536) + c3 * 16777216) + c4 * 4294967296) + c5 * 1099511627776) + c6 * 281474976710656) + c7 * 72057594037927936) := by
  rw [or_0 c0 r0.1 r0.2, or_add c0 c1 256 8 (by decide) (by omega) (by omega) (by omega) (by omega) (by omega), or_add (c0 + c1 * 256) c2 65536 16 (by decide) (by omega) (by omega) (by omega) (by omega) (by omega), or_add ((c0 + c1 * 256) + c2 * 65536) c3 16777216 24 (by decide) (by omega) (by omega) (by omega) (by omega) (by omega), or_add (((c0 + c1 * 256) + c2 * 65536) + c3 * 16777216) c4 4294967296 32 (by decide) (by omega) (by omega) (by omega) (by omega) (by omega), or_add ((((c0 + c1 * 256) + c2 * 65536) + c3 * 16777216) + c4 * 4294967296) c5 1099511627776 40 (by decide) (by omega) (by omega) (by omega) (by omega) (by omega), or_add (((((c0 + c1 * 256) + c2 * 65536) + c3 * 16777216) + c4 * 4294967296) + c5 * 1099511627776) c6 281474976710656 48 (by decide) (by omega) (by omega) (by omega) (by omega) (by omega), or_add ((((((c0 + c1 * 256) + c2 * 65536) + c3 * 16777216) + c4 * 4294967296) + c5 * 1099511627776) + c6 * 281474976710656) c7 72057594037927936 56 (by decide) (by omega) (by omega) (by omega) (by omega) (by omega)]
set_option maxHeartbeats 1600000 in
theorem uint_1 (b off n cap at_ : Nat) (c0 : Int) (w : World) (hn : n ≤ 9223372036854775807) (ha : at_ + 1 ≤ n) (hc : n ≤ cap) (h0 : w.cell? ⟨b, off + at_, none⟩ = some (.int .u8 c0))
    (r0 : 0 ≤ c0 ∧ c0 ≤ 255) (hb : b < w.heap.size) :
    Calls Try.prog 53 #[.slice (some ⟨b, off, none⟩) n cap, .int .i64 at_, .int .i64 1] w fun e w' => e = .returned (.tuple #[.int .u64 c0, .int .i64 0]) ∧ w' = w.alloc (.cells wRow 3) := by
  have HO := Lib.hid (orv_1 c0 r0)
  obtain ⟨p0, q0⟩ := r0
  go_enter Try.func53, Try.ntmps53
  go_wp2_with (first | (go_at_call 61; refine (cont_1 w.heap.size _ (Blk.new _ _ _)).mono ?_; rintro e w' ⟨rfl, rfl⟩) | go_in)
  refine wp_loop_rounds 2 ?_
  rw [rounds_succ]
  go_wp2
  rw [rounds_succ]
  go_wp2
  go_ret2
  exact ⟨by show Ending.returned (.tuple #[.int .u64 (bits .or .u64 0 c0), .int .i64 0]) = _; rw [HO.out], rfl⟩
set_option maxHeartbeats 1600000 in
theorem uint_2 (b off n cap at_ : Nat) (c0 c1 : Int) (w : World) (hn : n ≤ 9223372036854775807) (ha : at_ + 2 ≤ n) (hc : n ≤ cap) (h0 : w.cell? ⟨b, off + at_, none⟩ = some (.int .u8 c0)) (h1 : w.cell? ⟨b, off + (at_ + 1), none⟩ = some (.int .u8 c1))
    (r0 : 0 ≤ c0 ∧ c0 ≤ 255) (r1 : 0 ≤ c1 ∧ c1 ≤ 255) (hb : b < w.heap.size) :
    Calls Try.prog 53 #[.slice (some ⟨b, off, none⟩) n cap, .int .i64 at_, .int .i64 2] w fun e w' => e = .returned (.tuple #[.int .u64 (c0 + c1 * 256), .int .i64 0]) ∧ w' = w.alloc (.cells wRow 3) := by
  have HO := Lib.hid (orv_2 c0 c1 r0 r1)
  obtain ⟨p0, q0⟩ := r0
  obtain ⟨p1, q1⟩ := r1
  go_enter Try.func53, Try.ntmps53
  go_wp2_with (first | (go_at_call 61; refine (cont_2 w.heap.size _ (Blk.new _ _ _)).mono ?_; rintro e w' ⟨rfl, rfl⟩) | go_in)
  refine wp_loop_rounds 3 ?_
  rw [rounds_succ]
  go_wp2
  rw [rounds_succ]
  go_wp2
  rw [rounds_succ]
  go_wp2
  go_ret2
  exact ⟨by show Ending.returned (.tuple #[.int .u64 (bits .or .u64 (bits .or .u64 0 c0) (c1 * 256)), .int .i64 0]) = _; rw [HO.out], rfl⟩
set_option maxHeartbeats 1600000 in
theorem uint_4 (b off n cap at_ : Nat) (c0 c1 c2 c3 : Int) (w : World) (hn : n ≤ 9223372036854775807) (ha : at_ + 4 ≤ n) (hc : n ≤ cap) (h0 : w.cell? ⟨b, off + at_, none⟩ = some (.int .u8 c0)) (h1 : w.cell? ⟨b, off + (at_ + 1), none⟩ = some (.int .u8 c1)) (h2 : w.cell? ⟨b, off + (at_ + 2), none⟩ = some (.int .u8 c2)) (h3 : w.cell? ⟨b, off + (at_ + 3), none⟩ = some (.int .u8 c3))
    (r0 : 0 ≤ c0 ∧ c0 ≤ 255) (r1 : 0 ≤ c1 ∧ c1 ≤ 255) (r2 : 0 ≤ c2 ∧ c2 ≤ 255) (r3 : 0 ≤ c3 ∧ c3 ≤ 255) (hb : b < w.heap.size) :
    Calls Try.prog 53 #[.slice (some ⟨b, off, none⟩) n cap, .int .i64 at_, .int .i64 4] w fun e w' => e = .returned (.tuple #[.int .u64 (((c0 + c1 * 256) + c2 * 65536) + c3 * 16777216), .int .i64 0]) ∧ w' = w.alloc (.cells wRow 3) := by
  have HO := Lib.hid (orv_4 c0 c1 c2 c3 r0 r1 r2 r3)
  obtain ⟨p0, q0⟩ := r0
  obtain ⟨p1, q1⟩ := r1
  obtain ⟨p2, q2⟩ := r2
  obtain ⟨p3, q3⟩ := r3
  go_enter Try.func53, Try.ntmps53
  go_wp2_with (first | (go_at_call 61; refine (cont_4 w.heap.size _ (Blk.new _ _ _)).mono ?_; rintro e w' ⟨rfl, rfl⟩) | go_in)
  refine wp_loop_rounds 5 ?_
  rw [rounds_succ]
  go_wp2
  rw [rounds_succ]
  go_wp2
  rw [rounds_succ]
  go_wp2
  rw [rounds_succ]
  go_wp2
  rw [rounds_succ]
  go_wp2
  go_ret2
  exact ⟨by show Ending.returned (.tuple #[.int .u64 (bits .or .u64 (bits .or .u64 (bits .or .u64 (bits .or .u64 0 c0) (c1 * 256)) (c2 * 65536)) (c3 * 16777216)), .int .i64 0]) = _; rw [HO.out], rfl⟩
set_option maxHeartbeats 1600000 in
theorem uint_8 (b off n cap at_ : Nat) (c0 c1 c2 c3 c4 c5 c6 c7 : Int) (w : World) (hn : n ≤ 9223372036854775807) (ha : at_ + 8 ≤ n) (hc : n ≤ cap) (h0 : w.cell? ⟨b, off + at_, none⟩ = some (.int .u8 c0)) (h1 : w.cell? ⟨b, off + (at_ + 1), none⟩ = some (.int .u8 c1)) (h2 : w.cell? ⟨b, off + (at_ + 2), none⟩ = some (.int .u8 c2)) (h3 : w.cell? ⟨b, off + (at_ + 3), none⟩ = some (.int .u8 c3)) (h4 : w.cell? ⟨b, off + (at_ + 4), none⟩ = some (.int .u8 c4)) (h5 : w.cell? ⟨b, off + (at_ + 5), none⟩ = some (.int .u8 c5)) (h6 : w.cell? ⟨b, off + (at_ + 6), none⟩ = some (.int .u8 c6)) (h7 : w.cell? ⟨b, off + (at_ + 7), none⟩ = some (.int .u8 c7))
    (r0 : 0 ≤ c0 ∧ c0 ≤ 255) (r1 : 0 ≤ c1 ∧ c1 ≤ 255) (r2 : 0 ≤ c2 ∧ c2 ≤ 255) (r3 : 0 ≤ c3 ∧ c3 ≤ 255) (r4 : 0 ≤ c4 ∧ c4 ≤ 255) (r5 : 0 ≤ c5 ∧ c5 ≤ 255) (r6 : 0 ≤ c6 ∧ c6 ≤ 255) (r7 : 0 ≤ c7 ∧ c7 ≤ 255) (hb : b < w.heap.size) :
    Calls Try.prog 53 #[.slice (some ⟨b, off, none⟩) n cap, .int .i64 at_, .int .i64 8] w fun e w' => e = .returned (.tuple #[.int .u64 (((((((c0 + c1 * 256) + c2 * 65536) + c3 * 16777216) + c4 * 4294967296) + c5 * 1099511627776) + c6 * 281474976710656) + c7 * 72057594037927936), .int .i64 0]) ∧ w' = w.alloc (.cells wRow 3) := by
  have HO := Lib.hid (orv_8 c0 c1 c2 c3 c4 c5 c6 c7 r0 r1 r2 r3 r4 r5 r6 r7)
  obtain ⟨p0, q0⟩ := r0
  obtain ⟨p1, q1⟩ := r1
  obtain ⟨p2, q2⟩ := r2
  obtain ⟨p3, q3⟩ := r3
  obtain ⟨p4, q4⟩ := r4
  obtain ⟨p5, q5⟩ := r5
  obtain ⟨p6, q6⟩ := r6
  obtain ⟨p7, q7⟩ := r7
  go_enter Try.func53, Try.ntmps53
  go_wp2_with (first | (go_at_call 61; refine (cont_8 w.heap.size _ (Blk.new _ _ _)).mono ?_; rintro e w' ⟨rfl, rfl⟩) | go_in)
  refine wp_loop_rounds 9 ?_
  rw [rounds_succ]
  go_wp2
  rw [rounds_succ]
  go_wp2
  rw [rounds_succ]
  go_wp2
  rw [rounds_succ]
  go_wp2
  rw [rounds_succ]
  go_wp2
  rw [rounds_succ]
  go_wp2
  rw [rounds_succ]
  go_wp2
  rw [rounds_succ]
  go_wp2
  rw [rounds_succ]
  go_wp2
  go_ret2
  exact ⟨by show Ending.returned (.tuple #[.int .u64 (bits .or .u64 (bits .or .u64 (bits .or .u64 (bits .or .u64 (bits .or .u64 (bits .or .u64 (bits .or .u64 (bits .or .u64 0 c0) (c1 * 256)) (c2 * 65536)) (c3 * 16777216)) (c4 * 4294967296)) (c5 * 1099511627776)) (c6 * 281474976710656)) (c7 * 72057594037927936)), .int .i64 0]) = _; rw [HO.out], rfl⟩
end Go.Proofs.Ytiobnhdcapfhgaa
