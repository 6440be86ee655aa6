/-
  Numbers as bytes, and back: the document.
-/
import Derived.Test.YtjcdflohkajbcaaRcr
import Derived.Test.YtjcdflohkajbcaaUin
namespace Go.Proofs.Ytjcdflohkajbcaa
open Go.RowKit
set_option linter.unusedVariables false
set_option maxHeartbeats 1600000 in
theorem little_2 (n : Int) (w : World) (h0 : 0 ≤ n) :
    Calls Try.prog 47 #[.int .u64 n, .int .i64 2] w fun e w' => (∃ v', e = .returned v' ∧ IsB w' w.heap.size v' [n % 256, n / 256 % 256]) ∧ Below w.heap.size w w' := by
  obtain ⟨i0, hi0, hz0, hz1, hz2⟩ := info_parts byte_info
  have u0 : IntKind.u8.wrap (n) = n % 256 := by rw [IntKind.wrap_u8']
  have u1 : IntKind.u8.wrap (n / 256) = n / 256 % 256 := by rw [IntKind.wrap_u8']
  have o0 : w.ownsRow w.heap.size 5 1 (.slice none 0 0) 0 [] := World.ownsRow_nil _ _ _ _
  have hB0 := Below.refl w.heap.size w
  go_enter Try.func47, Try.ntmps47
  go_wp2_with fail
  refine wp_loop_rounds 3 ?_
  rw [rounds_succ]
  have k0 : 0 + 1 ≤ maxLen := by unfold maxLen; omega
  have z0 : w.heap.size ≤ (w.alloc (.cells #[.int .u8 (n % 256)] 5)).heap.size := by have := hB0.size; simp <;> omega
  go_wp2_with (at_builtin; refine wpList_append_any _ rfl (.tmp 12) (.tmp 19) _ rfl w.heap.size 5 i0 _ 1 1 Try.underlying25 hi0 hz0 hz1 hz2 rfl (by omega) _ 0 _ rfl (o0.alloc _) (w.heap.size + 1) _ 1 1 [.int .u8 (n % 256)] rfl (Reads.one _ _ _) (by intro u hu; simp at hu; subst hu; rfl) k0 (by omega) z0 ?_; intro v1 w1 o1 hg1 hat1)
  have hB1 := (b_alloc hB0 (.cells #[.int .u8 (n % 256)] 5)).grown hg1 z0 (fun k hk => (World.ownsRow.lt o0 k hk).1)
  clear hg1 hat1 hB0 o0 z0 k0
  rw [rounds_succ]
  have k1 : 1 + 1 ≤ maxLen := by unfold maxLen; omega
  have z1 : w.heap.size ≤ (w1.alloc (.cells #[.int .u8 (n / 256 % 256)] 5)).heap.size := by have := hB1.size; simp <;> omega
  go_wp2_with (at_builtin; refine wpList_append_any _ rfl (.tmp 12) (.tmp 19) _ rfl w.heap.size 5 i0 _ 1 1 Try.underlying25 hi0 hz0 hz1 hz2 rfl (by omega) _ 1 _ rfl (o1.alloc _) (w1.heap.size + 1) _ 1 1 [.int .u8 (n / 256 % 256)] rfl (Reads.one _ _ _) (by intro u hu; simp at hu; subst hu; rfl) k1 (by omega) z1 ?_; intro v2 w2 o2 hg2 hat2)
  have hB2 := (b_alloc hB1 (.cells #[.int .u8 (n / 256 % 256)] 5)).grown hg2 z1 (fun k hk => (World.ownsRow.lt o1 k hk).1)
  clear hg2 hat2 hB1 o1 z1 k1
  rw [rounds_succ]
  go_wp2
  go_ret
  refine ⟨⟨_, rfl, ?_⟩, hB2⟩
  unfold IsB
  simpa using o2
set_option maxHeartbeats 1600000 in
theorem little_4 (n : Int) (w : World) (h0 : 0 ≤ n) :
    Calls Try.prog 47 #[.int .u64 n, .int .i64 4] w fun e w' => (∃ v', e = .returned v' ∧ IsB w' w.heap.size v' [n % 256, n / 256 % 256, n / 65536 % 256, n / 16777216 % 256]) ∧ Below w.heap.size w w' := by
  obtain ⟨i0, hi0, hz0, hz1, hz2⟩ := info_parts byte_info
  have u0 : IntKind.u8.wrap (n) = n % 256 := by rw [IntKind.wrap_u8']
  have u1 : IntKind.u8.wrap (n / 256) = n / 256 % 256 := by rw [IntKind.wrap_u8']
  have u2 : IntKind.u8.wrap (n / 65536) = n / 65536 % 256 := by rw [IntKind.wrap_u8']
  have u3 : IntKind.u8.wrap (n / 16777216) = n / 16777216 % 256 := by rw [IntKind.wrap_u8']
  have o0 : w.ownsRow w.heap.size 5 1 (.slice none 0 0) 0 [] := World.ownsRow_nil _ _ _ _
  have hB0 := Below.refl w.heap.size w
  go_enter Try.func47, Try.ntmps47
  go_wp2_with fail
  refine wp_loop_rounds 5 ?_
  rw [rounds_succ]
  have k0 : 0 + 1 ≤ maxLen := by unfold maxLen; omega
  have z0 : w.heap.size ≤ (w.alloc (.cells #[.int .u8 (n % 256)] 5)).heap.size := by have := hB0.size; simp <;> omega
  go_wp2_with (at_builtin; refine wpList_append_any _ rfl (.tmp 12) (.tmp 19) _ rfl w.heap.size 5 i0 _ 1 1 Try.underlying25 hi0 hz0 hz1 hz2 rfl (by omega) _ 0 _ rfl (o0.alloc _) (w.heap.size + 1) _ 1 1 [.int .u8 (n % 256)] rfl (Reads.one _ _ _) (by intro u hu; simp at hu; subst hu; rfl) k0 (by omega) z0 ?_; intro v1 w1 o1 hg1 hat1)
  have hB1 := (b_alloc hB0 (.cells #[.int .u8 (n % 256)] 5)).grown hg1 z0 (fun k hk => (World.ownsRow.lt o0 k hk).1)
  clear hg1 hat1 hB0 o0 z0 k0
  rw [rounds_succ]
  have k1 : 1 + 1 ≤ maxLen := by unfold maxLen; omega
  have z1 : w.heap.size ≤ (w1.alloc (.cells #[.int .u8 (n / 256 % 256)] 5)).heap.size := by have := hB1.size; simp <;> omega
  go_wp2_with (at_builtin; refine wpList_append_any _ rfl (.tmp 12) (.tmp 19) _ rfl w.heap.size 5 i0 _ 1 1 Try.underlying25 hi0 hz0 hz1 hz2 rfl (by omega) _ 1 _ rfl (o1.alloc _) (w1.heap.size + 1) _ 1 1 [.int .u8 (n / 256 % 256)] rfl (Reads.one _ _ _) (by intro u hu; simp at hu; subst hu; rfl) k1 (by omega) z1 ?_; intro v2 w2 o2 hg2 hat2)
  have hB2 := (b_alloc hB1 (.cells #[.int .u8 (n / 256 % 256)] 5)).grown hg2 z1 (fun k hk => (World.ownsRow.lt o1 k hk).1)
  clear hg2 hat2 hB1 o1 z1 k1
  rw [rounds_succ]
  have k2 : 2 + 1 ≤ maxLen := by unfold maxLen; omega
  have z2 : w.heap.size ≤ (w2.alloc (.cells #[.int .u8 (n / 65536 % 256)] 5)).heap.size := by have := hB2.size; simp <;> omega
  go_wp2_with (at_builtin; refine wpList_append_any _ rfl (.tmp 12) (.tmp 19) _ rfl w.heap.size 5 i0 _ 1 1 Try.underlying25 hi0 hz0 hz1 hz2 rfl (by omega) _ 2 _ rfl (o2.alloc _) (w2.heap.size + 1) _ 1 1 [.int .u8 (n / 65536 % 256)] rfl (Reads.one _ _ _) (by intro u hu; simp at hu; subst hu; rfl) k2 (by omega) z2 ?_; intro v3 w3 o3 hg3 hat3)
  have hB3 := (b_alloc hB2 (.cells #[.int .u8 (n / 65536 % 256)] 5)).grown hg3 z2 (fun k hk => (World.ownsRow.lt o2 k hk).1)
  clear hg3 hat3 hB2 o2 z2 k2
  rw [rounds_succ]
  have k3 : 3 + 1 ≤ maxLen := by unfold maxLen; omega
  have z3 : w.heap.size ≤ (w3.alloc (.cells #[.int .u8 (n / 16777216 % 256)] 5)).heap.size := by have := hB3.size; simp <;> omega
  go_wp2_with (at_builtin; refine wpList_append_any _ rfl (.tmp 12) (.tmp 19) _ rfl w.heap.size 5 i0 _ 1 1 Try.underlying25 hi0 hz0 hz1 hz2 rfl (by omega) _ 3 _ rfl (o3.alloc _) (w3.heap.size + 1) _ 1 1 [.int .u8 (n / 16777216 % 256)] rfl (Reads.one _ _ _) (by intro u hu; simp at hu; subst hu; rfl) k3 (by omega) z3 ?_; intro v4 w4 o4 hg4 hat4)
  have hB4 := (b_alloc hB3 (.cells #[.int .u8 (n / 16777216 % 256)] 5)).grown hg4 z3 (fun k hk => (World.ownsRow.lt o3 k hk).1)
  clear hg4 hat4 hB3 o3 z3 k3
  rw [rounds_succ]
  go_wp2
  go_ret
  refine ⟨⟨_, rfl, ?_⟩, hB4⟩
  unfold IsB
  simpa using o4
set_option maxHeartbeats 1600000 in
theorem little_8 (n : Int) (w : World) (h0 : 0 ≤ n) :
    Calls Try.prog 47 #[.int .u64 n, .int .i64 8] w fun e w' => (∃ v', e = .returned v' ∧ IsB w' w.heap.size v' [n % 256, n / 256 % 256, n / 65536 % 256, n / 16777216 % 256, n / 4294967296 % 256, n / 1099511627776 % 256, n / 281474976710656 % 256, n / 72057594037927936 % 256]) ∧ Below w.heap.size w w' := by
  obtain ⟨i0, hi0, hz0, hz1, hz2⟩ := info_parts byte_info
  have u0 : IntKind.u8.wrap (n) = n % 256 := by rw [IntKind.wrap_u8']
  have u1 : IntKind.u8.wrap (n / 256) = n / 256 % 256 := by rw [IntKind.wrap_u8']
  have u2 : IntKind.u8.wrap (n / 65536) = n / 65536 % 256 := by rw [IntKind.wrap_u8']
  have u3 : IntKind.u8.wrap (n / 16777216) = n / 16777216 % 256 := by rw [IntKind.wrap_u8']
  have u4 : IntKind.u8.wrap (n / 4294967296) = n / 4294967296 % 256 := by rw [IntKind.wrap_u8']
  have u5 : IntKind.u8.wrap (n / 1099511627776) = n / 1099511627776 % 256 := by rw [IntKind.wrap_u8']
  have u6 : IntKind.u8.wrap (n / 281474976710656) = n / 281474976710656 % 256 := by rw [IntKind.wrap_u8']
  have u7 : IntKind.u8.wrap (n / 72057594037927936) = n / 72057594037927936 % 256 := by rw [IntKind.wrap_u8']
  have o0 : w.ownsRow w.heap.size 5 1 (.slice none 0 0) 0 [] := World.ownsRow_nil _ _ _ _
  have hB0 := Below.refl w.heap.size w
  go_enter Try.func47, Try.ntmps47
  go_wp2_with fail
  refine wp_loop_rounds 9 ?_
  rw [rounds_succ]
  have k0 : 0 + 1 ≤ maxLen := by unfold maxLen; omega
  have z0 : w.heap.size ≤ (w.alloc (.cells #[.int .u8 (n % 256)] 5)).heap.size := by have := hB0.size; simp <;> omega
  go_wp2_with (at_builtin; refine wpList_append_any _ rfl (.tmp 12) (.tmp 19) _ rfl w.heap.size 5 i0 _ 1 1 Try.underlying25 hi0 hz0 hz1 hz2 rfl (by omega) _ 0 _ rfl (o0.alloc _) (w.heap.size + 1) _ 1 1 [.int .u8 (n % 256)] rfl (Reads.one _ _ _) (by intro u hu; simp at hu; subst hu; rfl) k0 (by omega) z0 ?_; intro v1 w1 o1 hg1 hat1)
  have hB1 := (b_alloc hB0 (.cells #[.int .u8 (n % 256)] 5)).grown hg1 z0 (fun k hk => (World.ownsRow.lt o0 k hk).1)
  clear hg1 hat1 hB0 o0 z0 k0
  rw [rounds_succ]
  have k1 : 1 + 1 ≤ maxLen := by unfold maxLen; omega
  have z1 : w.heap.size ≤ (w1.alloc (.cells #[.int .u8 (n / 256 % 256)] 5)).heap.size := by have := hB1.size; simp <;> omega
  go_wp2_with (at_builtin; refine wpList_append_any _ rfl (.tmp 12) (.tmp 19) _ rfl w.heap.size 5 i0 _ 1 1 Try.underlying25 hi0 hz0 hz1 hz2 rfl (by omega) _ 1 _ rfl (o1.alloc _) (w1.heap.size + 1) _ 1 1 [.int .u8 (n / 256 % 256)] rfl (Reads.one _ _ _) (by intro u hu; simp at hu; subst hu; rfl) k1 (by omega) z1 ?_; intro v2 w2 o2 hg2 hat2)
  have hB2 := (b_alloc hB1 (.cells #[.int .u8 (n / 256 % 256)] 5)).grown hg2 z1 (fun k hk => (World.ownsRow.lt o1 k hk).1)
  clear hg2 hat2 hB1 o1 z1 k1
  rw [rounds_succ]
  have k2 : 2 + 1 ≤ maxLen := by unfold maxLen; omega
  have z2 : w.heap.size ≤ (w2.alloc (.cells #[.int .u8 (n / 65536 % 256)] 5)).heap.size := by have := hB2.size; simp <;> omega
  go_wp2_with (at_builtin; refine wpList_append_any _ rfl (.tmp 12) (.tmp 19) _ rfl w.heap.size 5 i0 _ 1 1 Try.underlying25 hi0 hz0 hz1 hz2 rfl (by omega) _ 2 _ rfl (o2.alloc _) (w2.heap.size + 1) _ 1 1 [.int .u8 (n / 65536 % 256)] rfl (Reads.one _ _ _) (by intro u hu; simp at hu; subst hu; rfl) k2 (by omega) z2 ?_; intro v3 w3 o3 hg3 hat3)
  have hB3 := (b_alloc hB2 (.cells #[.int .u8 (n / 65536 % 256)] 5)).grown hg3 z2 (fun k hk => (World.ownsRow.lt o2 k hk).1)
  clear hg3 hat3 hB2 o2 z2 k2
  rw [rounds_succ]
  have k3 : 3 + 1 ≤ maxLen := by unfold maxLen; omega
  have z3 : w.heap.size ≤ (w3.alloc (.cells #[.int .u8 (n / 16777216 % 256)] 5)).heap.size := by have := hB3.size; simp <;> omega
  go_wp2_with (at_builtin; refine wpList_append_any _ rfl (.tmp 12) (.tmp 19) _ rfl w.heap.size 5 i0 _ 1 1 Try.underlying25 hi0 hz0 hz1 hz2 rfl (by omega) _ 3 _ rfl (o3.alloc _) (w3.heap.size + 1) _ 1 1 [.int .u8 (n / 16777216 % 256)] rfl (Reads.one _ _ _) (by intro u hu; simp at hu; subst hu; rfl) k3 (by omega) z3 ?_; intro v4 w4 o4 hg4 hat4)
  have hB4 := (b_alloc hB3 (.cells #[.int .u8 (n / 16777216 % 256)] 5)).grown hg4 z3 (fun k hk => (World.ownsRow.lt o3 k hk).1)
  clear hg4 hat4 hB3 o3 z3 k3
  rw [rounds_succ]
  have k4 : 4 + 1 ≤ maxLen := by unfold maxLen; omega
  have z4 : w.heap.size ≤ (w4.alloc (.cells #[.int .u8 (n / 4294967296 % 256)] 5)).heap.size := by have := hB4.size; simp <;> omega
  go_wp2_with (at_builtin; refine wpList_append_any _ rfl (.tmp 12) (.tmp 19) _ rfl w.heap.size 5 i0 _ 1 1 Try.underlying25 hi0 hz0 hz1 hz2 rfl (by omega) _ 4 _ rfl (o4.alloc _) (w4.heap.size + 1) _ 1 1 [.int .u8 (n / 4294967296 % 256)] rfl (Reads.one _ _ _) (by intro u hu; simp at hu; subst hu; rfl) k4 (by omega) z4 ?_; intro v5 w5 o5 hg5 hat5)
  have hB5 := (b_alloc hB4 (.cells #[.int .u8 (n / 4294967296 % 256)] 5)).grown hg5 z4 (fun k hk => (World.ownsRow.lt o4 k hk).1)
  clear hg5 hat5 hB4 o4 z4 k4
  rw [rounds_succ]
  have k5 : 5 + 1 ≤ maxLen := by unfold maxLen; omega
  have z5 : w.heap.size ≤ (w5.alloc (.cells #[.int .u8 (n / 1099511627776 % 256)] 5)).heap.size := by have := hB5.size; simp <;> omega
  go_wp2_with (at_builtin; refine wpList_append_any _ rfl (.tmp 12) (.tmp 19) _ rfl w.heap.size 5 i0 _ 1 1 Try.underlying25 hi0 hz0 hz1 hz2 rfl (by omega) _ 5 _ rfl (o5.alloc _) (w5.heap.size + 1) _ 1 1 [.int .u8 (n / 1099511627776 % 256)] rfl (Reads.one _ _ _) (by intro u hu; simp at hu; subst hu; rfl) k5 (by omega) z5 ?_; intro v6 w6 o6 hg6 hat6)
  have hB6 := (b_alloc hB5 (.cells #[.int .u8 (n / 1099511627776 % 256)] 5)).grown hg6 z5 (fun k hk => (World.ownsRow.lt o5 k hk).1)
  clear hg6 hat6 hB5 o5 z5 k5
  rw [rounds_succ]
  have k6 : 6 + 1 ≤ maxLen := by unfold maxLen; omega
  have z6 : w.heap.size ≤ (w6.alloc (.cells #[.int .u8 (n / 281474976710656 % 256)] 5)).heap.size := by have := hB6.size; simp <;> omega
  go_wp2_with (at_builtin; refine wpList_append_any _ rfl (.tmp 12) (.tmp 19) _ rfl w.heap.size 5 i0 _ 1 1 Try.underlying25 hi0 hz0 hz1 hz2 rfl (by omega) _ 6 _ rfl (o6.alloc _) (w6.heap.size + 1) _ 1 1 [.int .u8 (n / 281474976710656 % 256)] rfl (Reads.one _ _ _) (by intro u hu; simp at hu; subst hu; rfl) k6 (by omega) z6 ?_; intro v7 w7 o7 hg7 hat7)
  have hB7 := (b_alloc hB6 (.cells #[.int .u8 (n / 281474976710656 % 256)] 5)).grown hg7 z6 (fun k hk => (World.ownsRow.lt o6 k hk).1)
  clear hg7 hat7 hB6 o6 z6 k6
  rw [rounds_succ]
  have k7 : 7 + 1 ≤ maxLen := by unfold maxLen; omega
  have z7 : w.heap.size ≤ (w7.alloc (.cells #[.int .u8 (n / 72057594037927936 % 256)] 5)).heap.size := by have := hB7.size; simp <;> omega
  go_wp2_with (at_builtin; refine wpList_append_any _ rfl (.tmp 12) (.tmp 19) _ rfl w.heap.size 5 i0 _ 1 1 Try.underlying25 hi0 hz0 hz1 hz2 rfl (by omega) _ 7 _ rfl (o7.alloc _) (w7.heap.size + 1) _ 1 1 [.int .u8 (n / 72057594037927936 % 256)] rfl (Reads.one _ _ _) (by intro u hu; simp at hu; subst hu; rfl) k7 (by omega) z7 ?_; intro v8 w8 o8 hg8 hat8)
  have hB8 := (b_alloc hB7 (.cells #[.int .u8 (n / 72057594037927936 % 256)] 5)).grown hg8 z7 (fun k hk => (World.ownsRow.lt o7 k hk).1)
  clear hg8 hat8 hB7 o7 z7 k7
  rw [rounds_succ]
  go_wp2
  go_ret
  refine ⟨⟨_, rfl, ?_⟩, hB8⟩
  unfold IsB
  simpa using o8
set_option maxHeartbeats 1600000 in
theorem number_2 (b off cap : Nat) (c0 c1 : Int) (w : World) (hc : 2 ≤ cap) (h0 : w.cell? ⟨b, off, none⟩ = some (.int .u8 c0)) (h1 : w.cell? ⟨b, off + 1, none⟩ = some (.int .u8 c1))
    (r0 : 0 ≤ c0 ∧ c0 ≤ 255) (r1 : 0 ≤ c1 ∧ c1 ≤ 255) :
    Calls Try.prog 56 #[.slice (some ⟨b, off, none⟩) 2 cap] w fun e w' => e = .returned (.int .u64 (c0 + c1 * 256)) ∧ w = w' := by
  have HO := Lib.hid (orv_2 c0 c1 r0 r1)
  obtain ⟨p0, q0⟩ := r0
  obtain ⟨p1, q1⟩ := r1
  go_enter Try.func56, Try.ntmps56
  go_wp2
  refine wp_loop_rounds 3 ?_
  rw [rounds_succ]
  go_wp2
  rw [rounds_succ]
  go_wp2
  rw [rounds_succ]
  go_wp2
  go_ret
  exact ⟨by show Ending.returned (.int .u64 _) = _; rw [← HO.out], rfl⟩
set_option maxHeartbeats 1600000 in
theorem number_4 (b off cap : Nat) (c0 c1 c2 c3 : Int) (w : World) (hc : 4 ≤ cap) (h0 : w.cell? ⟨b, off, none⟩ = some (.int .u8 c0)) (h1 : w.cell? ⟨b, off + 1, none⟩ = some (.int .u8 c1)) (h2 : w.cell? ⟨b, off + 2, none⟩ = some (.int .u8 c2)) (h3 : w.cell? ⟨b, off + 3, none⟩ = some (.int .u8 c3))
    (r0 : 0 ≤ c0 ∧ c0 ≤ 255) (r1 : 0 ≤ c1 ∧ c1 ≤ 255) (r2 : 0 ≤ c2 ∧ c2 ≤ 255) (r3 : 0 ≤ c3 ∧ c3 ≤ 255) :
    Calls Try.prog 56 #[.slice (some ⟨b, off, none⟩) 4 cap] w fun e w' => e = .returned (.int .u64 (((c0 + c1 * 256) + c2 * 65536) + c3 * 16777216)) ∧ w = w' := by
  have HO := Lib.hid (orv_4 c0 c1 c2 c3 r0 r1 r2 r3)
  obtain ⟨p0, q0⟩ := r0
  obtain ⟨p1, q1⟩ := r1
  obtain ⟨p2, q2⟩ := r2
  obtain ⟨p3, q3⟩ := r3
  go_enter Try.func56, Try.ntmps56
  go_wp2
  refine wp_loop_rounds 5 ?_
  rw [rounds_succ]
  go_wp2
  rw [rounds_succ]
  go_wp2
  rw [rounds_succ]
  go_wp2
  rw [rounds_succ]
  go_wp2
  rw [rounds_succ]
  go_wp2
  go_ret
  exact ⟨by show Ending.returned (.int .u64 _) = _; rw [← HO.out], rfl⟩
set_option maxHeartbeats 1600000 in
theorem number_8 (b off cap : Nat) (c0 c1 c2 c3 c4 c5 c6 c7 : Int) (w : World) (hc : 8 ≤ cap) (h0 : w.cell? ⟨b, off, none⟩ = some (.int .u8 c0)) (h1 : w.cell? ⟨b, off + 1, none⟩ = some (.int .u8 c1)) (h2 : w.cell? ⟨b, off + 2, none⟩ = some (.int .u8 c2)) (h3 : w.cell? ⟨b, off + 3, none⟩ = some (.int .u8 c3)) (h4 : w.cell? ⟨b, off + 4, none⟩ = some (.int .u8 c4)) (h5 : w.cell? ⟨b, off + 5, none⟩ = some (.int .u8 c5)) (h6 : w.cell? ⟨b, off + 6, none⟩ = some (.int .u8 c6)) (h7 : w.cell? ⟨b, off + 7, none⟩ = some (.int .u8 c7))
    (r0 : 0 ≤ c0 ∧ c0 ≤ 255) (r1 : 0 ≤ c1 ∧ c1 ≤ 255) (r2 : 0 ≤ c2 ∧ c2 ≤ 255) (r3 : 0 ≤ c3 ∧ c3 ≤ 255) (r4 : 0 ≤ c4 ∧ c4 ≤ 255) (r5 : 0 ≤ c5 ∧ c5 ≤ 255) (r6 : 0 ≤ c6 ∧ c6 ≤ 255) (r7 : 0 ≤ c7 ∧ c7 ≤ 255) :
    Calls Try.prog 56 #[.slice (some ⟨b, off, none⟩) 8 cap] w fun e w' => e = .returned (.int .u64 (((((((c0 + c1 * 256) + c2 * 65536) + c3 * 16777216) + c4 * 4294967296) + c5 * 1099511627776) + c6 * 281474976710656) + c7 * 72057594037927936)) ∧ w = w' := by
  have HO := Lib.hid (orv_8 c0 c1 c2 c3 c4 c5 c6 c7 r0 r1 r2 r3 r4 r5 r6 r7)
  obtain ⟨p0, q0⟩ := r0
  obtain ⟨p1, q1⟩ := r1
  obtain ⟨p2, q2⟩ := r2
  obtain ⟨p3, q3⟩ := r3
  obtain ⟨p4, q4⟩ := r4
  obtain ⟨p5, q5⟩ := r5
  obtain ⟨p6, q6⟩ := r6
  obtain ⟨p7, q7⟩ := r7
  go_enter Try.func56, Try.ntmps56
  go_wp2
  refine wp_loop_rounds 9 ?_
  rw [rounds_succ]
  go_wp2
  rw [rounds_succ]
  go_wp2
  rw [rounds_succ]
  go_wp2
  rw [rounds_succ]
  go_wp2
  rw [rounds_succ]
  go_wp2
  rw [rounds_succ]
  go_wp2
  rw [rounds_succ]
  go_wp2
  rw [rounds_succ]
  go_wp2
  rw [rounds_succ]
  go_wp2
  go_ret
  exact ⟨by show Ending.returned (.int .u64 _) = _; rw [← HO.out], rfl⟩
end Go.Proofs.Ytjcdflohkajbcaa
