/-
  The reference's reading of fixed-width integers; which numbers fit.
-/
import Derived.Test.YtiobnhdcapfhgaaUin
namespace Go.Proofs.Ytiobnhdcapfhgaa
open Go.RowKit
set_option linter.unusedVariables false

set_option maxHeartbeats 1600000 in
theorem ruint_1 (b off n cap at_ : Nat) (c0 : Int) (w : World) (hn : n ≤ 9223372036854775807) (ha : at_ + 1 ≤ n) (hc : n ≤ cap) (h0 : w.cell? ⟨b, off + at_, none⟩ = some (.int .u8 c0))
    (r0 : 0 ≤ c0 ∧ c0 ≤ 255) (hb : b < w.heap.size) :
    Calls Try.prog 54 #[.slice (some ⟨b, off, none⟩) n cap, .int .i64 at_, .int .i64 1] w fun e w' => e = .returned (.tuple #[.int .u64 c0, .int .i64 0]) ∧ w = w' := by
  have HO : Hid (c0 = c0) := by show _ = _; rfl
  obtain ⟨p0, q0⟩ := r0
  go_enter Try.func54, Try.ntmps54
  go_wp2_with go_in
  refine wp_loop_rounds 2 ?_
  rw [rounds_succ]
  go_wp2
  rw [rounds_succ]
  go_wp2
  go_ret2
  exact ⟨rfl, rfl⟩
set_option maxHeartbeats 1600000 in
theorem ruint_2 (b off n cap at_ : Nat) (c0 c1 : Int) (w : World) (hn : n ≤ 9223372036854775807) (ha : at_ + 2 ≤ n) (hc : n ≤ cap) (h0 : w.cell? ⟨b, off + at_, none⟩ = some (.int .u8 c0)) (h1 : w.cell? ⟨b, off + (at_ + 1), none⟩ = some (.int .u8 c1))
    (r0 : 0 ≤ c0 ∧ c0 ≤ 255) (r1 : 0 ≤ c1 ∧ c1 ≤ 255) (hb : b < w.heap.size) :
    Calls Try.prog 54 #[.slice (some ⟨b, off, none⟩) n cap, .int .i64 at_, .int .i64 2] w fun e w' => e = .returned (.tuple #[.int .u64 (c0 + c1 * 256), .int .i64 0]) ∧ w = w' := by
  have HO : Hid ((c1 * 256 + c0) = (c0 + c1 * 256)) := by show _ = _; omega
  obtain ⟨p0, q0⟩ := r0
  obtain ⟨p1, q1⟩ := r1
  go_enter Try.func54, Try.ntmps54
  go_wp2_with go_in
  refine wp_loop_rounds 3 ?_
  rw [rounds_succ]
  go_wp2
  rw [rounds_succ]
  go_wp2
  rw [rounds_succ]
  go_wp2
  go_ret2
  exact ⟨by rw [← HO.out]; rfl, rfl⟩
set_option maxHeartbeats 1600000 in
theorem ruint_4 (b off n cap at_ : Nat) (c0 c1 c2 c3 : Int) (w : World) (hn : n ≤ 9223372036854775807) (ha : at_ + 4 ≤ n) (hc : n ≤ cap) (h0 : w.cell? ⟨b, off + at_, none⟩ = some (.int .u8 c0)) (h1 : w.cell? ⟨b, off + (at_ + 1), none⟩ = some (.int .u8 c1)) (h2 : w.cell? ⟨b, off + (at_ + 2), none⟩ = some (.int .u8 c2)) (h3 : w.cell? ⟨b, off + (at_ + 3), none⟩ = some (.int .u8 c3))
    (r0 : 0 ≤ c0 ∧ c0 ≤ 255) (r1 : 0 ≤ c1 ∧ c1 ≤ 255) (r2 : 0 ≤ c2 ∧ c2 ≤ 255) (r3 : 0 ≤ c3 ∧ c3 ≤ 255) (hb : b < w.heap.size) :
    Calls Try.prog 54 #[.slice (some ⟨b, off, none⟩) n cap, .int .i64 at_, .int .i64 4] w fun e w' => e = .returned (.tuple #[.int .u64 (((c0 + c1 * 256) + c2 * 65536) + c3 * 16777216), .int .i64 0]) ∧ w = w' := by
  have HO : Hid ((((c3 * 256 + c2) * 256 + c1) * 256 + c0) = (((c0 + c1 * 256) + c2 * 65536) + c3 * 16777216)) := by show _ = _; omega
  obtain ⟨p0, q0⟩ := r0
  obtain ⟨p1, q1⟩ := r1
  obtain ⟨p2, q2⟩ := r2
  obtain ⟨p3, q3⟩ := r3
  go_enter Try.func54, Try.ntmps54
  go_wp2_with go_in
  refine wp_loop_rounds 5 ?_
  rw [rounds_succ]
  go_wp2
  rw [rounds_succ]
  go_wp2
  rw [rounds_succ]
  go_wp2
  rw [rounds_succ]
  go_wp2
  rw [rounds_succ]
  go_wp2
  go_ret2
  exact ⟨by rw [← HO.out]; rfl, rfl⟩
set_option maxHeartbeats 1600000 in
theorem ruint_8 (b off n cap at_ : Nat) (c0 c1 c2 c3 c4 c5 c6 c7 : Int) (w : World) (hn : n ≤ 9223372036854775807) (ha : at_ + 8 ≤ n) (hc : n ≤ cap) (h0 : w.cell? ⟨b, off + at_, none⟩ = some (.int .u8 c0)) (h1 : w.cell? ⟨b, off + (at_ + 1), none⟩ = some (.int .u8 c1)) (h2 : w.cell? ⟨b, off + (at_ + 2), none⟩ = some (.int .u8 c2)) (h3 : w.cell? ⟨b, off + (at_ + 3), none⟩ = some (.int .u8 c3)) (h4 : w.cell? ⟨b, off + (at_ + 4), none⟩ = some (.int .u8 c4)) (h5 : w.cell? ⟨b, off + (at_ + 5), none⟩ = some (.int .u8 c5)) (h6 : w.cell? ⟨b, off + (at_ + 6), none⟩ = some (.int .u8 c6)) (h7 : w.cell? ⟨b, off + (at_ + 7), none⟩ = some (.int .u8 c7))
    (r0 : 0 ≤ c0 ∧ c0 ≤ 255) (r1 : 0 ≤ c1 ∧ c1 ≤ 255) (r2 : 0 ≤ c2 ∧ c2 ≤ 255) (r3 : 0 ≤ c3 ∧ c3 ≤ 255) (r4 : 0 ≤ c4 ∧ c4 ≤ 255) (r5 : 0 ≤ c5 ∧ c5 ≤ 255) (r6 : 0 ≤ c6 ∧ c6 ≤ 255) (r7 : 0 ≤ c7 ∧ c7 ≤ 255) (hb : b < w.heap.size) :
    Calls Try.prog 54 #[.slice (some ⟨b, off, none⟩) n cap, .int .i64 at_, .int .i64 8] w fun e w' => e = .returned (.tuple #[.int .u64 (((((((c0 + c1 * 256) + c2 * 65536) + c3 * 16777216) + c4 * 4294967296) + c5 * 1099511627776) + c6 * 281474976710656) + c7 * 72057594037927936), .int .i64 0]) ∧ w = w' := by
  have HO : Hid ((((((((c7 * 256 + c6) * 256 + c5) * 256 + c4) * 256 + c3) * 256 + c2) * 256 + c1) * 256 + c0) = (((((((c0 + c1 * 256) + c2 * 65536) + c3 * 16777216) + c4 * 4294967296) + c5 * 1099511627776) + c6 * 281474976710656) + c7 * 72057594037927936)) := by show _ = _; omega
  obtain ⟨p0, q0⟩ := r0
  obtain ⟨p1, q1⟩ := r1
  obtain ⟨p2, q2⟩ := r2
  obtain ⟨p3, q3⟩ := r3
  obtain ⟨p4, q4⟩ := r4
  obtain ⟨p5, q5⟩ := r5
  obtain ⟨p6, q6⟩ := r6
  obtain ⟨p7, q7⟩ := r7
  go_enter Try.func54, Try.ntmps54
  go_wp2_with go_in
  refine wp_loop_rounds 9 ?_
  rw [rounds_succ]
  go_wp2
  rw [rounds_succ]
  go_wp2
  rw [rounds_succ]
  go_wp2
  rw [rounds_succ]
  go_wp2
  rw [rounds_succ]
  go_wp2
  rw [rounds_succ]
  go_wp2
  rw [rounds_succ]
  go_wp2
  rw [rounds_succ]
  go_wp2
  rw [rounds_succ]
  go_wp2
  go_ret2
  exact ⟨by rw [← HO.out]; rfl, rfl⟩
theorem rfits_1 (n : Int) (w : World) (h0 : 0 ≤ n) (h1 : n ≤ 255) :
    Calls Try.prog 66 #[.int .u64 n, .int .i64 1] w fun e w' => e = .returned (.bool true) ∧ w = w' := by
  go_enter Try.func66, Try.ntmps66
  go_wp2_with go_in
  refine wp_loop_rounds 2 ?_
  rw [rounds_succ]
  go_wp2
  rw [rounds_succ]
  go_wp2
  go_ret
  exact ⟨by simp; omega, rfl⟩
theorem rfits_2 (n : Int) (w : World) (h0 : 0 ≤ n) (h1 : n ≤ 65535) :
    Calls Try.prog 66 #[.int .u64 n, .int .i64 2] w fun e w' => e = .returned (.bool true) ∧ w = w' := by
  go_enter Try.func66, Try.ntmps66
  go_wp2_with go_in
  refine wp_loop_rounds 3 ?_
  rw [rounds_succ]
  go_wp2
  rw [rounds_succ]
  go_wp2
  rw [rounds_succ]
  go_wp2
  go_ret
  exact ⟨by simp; omega, rfl⟩
theorem rfits_4 (n : Int) (w : World) (h0 : 0 ≤ n) (h1 : n ≤ 4294967295) :
    Calls Try.prog 66 #[.int .u64 n, .int .i64 4] w fun e w' => e = .returned (.bool true) ∧ w = w' := by
  go_enter Try.func66, Try.ntmps66
  go_wp2_with go_in
  refine wp_loop_rounds 5 ?_
  rw [rounds_succ]
  go_wp2
  rw [rounds_succ]
  go_wp2
  rw [rounds_succ]
  go_wp2
  rw [rounds_succ]
  go_wp2
  rw [rounds_succ]
  go_wp2
  go_ret
  exact ⟨by simp; omega, rfl⟩
theorem rfits_8 (n : Int) (w : World) (h0 : 0 ≤ n) (h1 : n ≤ 1099511627776) :
    Calls Try.prog 66 #[.int .u64 n, .int .i64 8] w fun e w' => e = .returned (.bool true) ∧ w = w' := by
  go_enter Try.func66, Try.ntmps66
  go_wp2_with go_in
  refine wp_loop_rounds 9 ?_
  rw [rounds_succ]
  go_wp2
  rw [rounds_succ]
  go_wp2
  rw [rounds_succ]
  go_wp2
  rw [rounds_succ]
  go_wp2
  rw [rounds_succ]
  go_wp2
  rw [rounds_succ]
  go_wp2
  rw [rounds_succ]
  go_wp2
  rw [rounds_succ]
  go_wp2
  rw [rounds_succ]
  go_wp2
  go_ret
  exact ⟨by simp; omega, rfl⟩
end Go.Proofs.Ytiobnhdcapfhgaa
