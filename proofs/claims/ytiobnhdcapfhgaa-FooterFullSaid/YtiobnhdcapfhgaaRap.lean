/-
  The reference's Append at the four widths.
-/
import Derived.Test.YtiobnhdcapfhgaaRui
namespace Go.Proofs.Ytiobnhdcapfhgaa
open Go.RowKit
set_option linter.unusedVariables false

theorem own_slice {w : World} {B : Nat} {e : TypeId} {v : Value} {n : Nat} {xs : List Value} (h : w.ownsRow B e 1 v n xs) : ∃ A cap, v = .slice A n cap := by
  rcases own_form h with ⟨rfl, rfl⟩ | ⟨g, cap, rfl, _⟩
  · exact ⟨none, 0, rfl⟩
  · exact ⟨_, _, rfl⟩

set_option maxHeartbeats 3200000 in
theorem rappend_1 (B : Nat) (n : Int) (v : Value) (L : List Int) (w : World) (h0 : 0 ≤ n) (h1 : n ≤ 255) (h : IsB w B v L) (hl : L.length ≤ 1000) :
    Calls Try.prog 51 #[v, .int .u64 n, .int .i64 1] w fun e w' => (∃ v', e = .returned (.tuple #[v', .int .i64 0]) ∧ IsB w' w.heap.size v' (L ++ [n % 256])) ∧ Below w.heap.size w w' := by
  obtain ⟨i0, hi0, hz0, hz1, hz2⟩ := info_parts byte_info
  obtain ⟨A, cap, rfl⟩ := own_slice h
  have ra := (Reads.of_own h).alloc (Nat.le_refl _) (.cells #[] 5)
  have o0 : (w.alloc (.cells #[] 5)).ownsRow w.heap.size 5 1 (.slice (some ⟨w.heap.size, 0, none⟩) 0 0) 0 [] := World.ownsRow_lit w #[] 0 (Nat.le_refl _) (by unfold maxLen; omega) rfl
  have l1 : 0 + L.length ≤ maxLen := by unfold maxLen; omega
  have hBw1 : w.heap.size ≤ (w.alloc (.cells #[] 5)).heap.size := by simp
  go_enter Try.func51, Try.ntmps51
  go_wp2_with (first
    | (go_at_call 66; refine (rfits_1 n _ h0 h1).mono ?_; rintro e w' ⟨rfl, rfl⟩)
    | (at_builtin; refine wpList_append_any _ rfl (.tmp 17) (.tmp 18) _ rfl w.heap.size 5 i0 _ 1 1 Try.underlying24 hi0 hz0 hz1 hz2 rfl (by omega) _ 0 [] rfl o0 w.heap.size A L.length cap (L.map (Value.int .u8)) rfl ra bytes_one l1 (by omega) hBw1 ?_; intro v1 w1 o1 hg1 hat1)
    | go_in)
  have sz1 := hg1.size
  simp only [World.size_alloc] at sz1
  have hB1 := (b_alloc (Below.refl _ w) (.cells #[] 5)).grown hg1 hBw1 (fun k hk => by have hk' : some w.heap.size = some k := hk; injection hk' with hk'; omega)
  simp only [Nat.zero_add, List.nil_append] at o1
  clear hg1 hat1 o0 ra
  refine wp_loop_rounds 2 ?_
  rw [rounds_succ]
  go_wp2_with (at_builtin; refine wpList_append_any _ rfl (.tmp 25) (.tmp 29) _ rfl w.heap.size 5 i0 _ 1 1 Try.underlying24 hi0 hz0 hz1 hz2 rfl (by omega) _ (L.length) _ rfl (o1.alloc _) (w1.heap.size + 1) _ 1 1 [.int .u8 (n % 256)] rfl (Reads.one _ _ _) (by intro u hu; simp at hu; subst hu; rfl) (by unfold maxLen; omega) (by omega) (by simp; omega) ?_; intro v2 w2 o2 hg2 hat2; have sz2 := hg2.size; simp only [World.size_alloc] at sz2; have hB2 := (b_alloc hB1 _).grown hg2 (by simp; omega) (fun k hk => (o1.lt k hk).1); clear hg2 hat2 o1 hB1)
  rw [rounds_succ]
  go_wp2
  go_ret2
  refine ⟨⟨_, rfl, ?_⟩, hB2⟩
  unfold IsB
  simpa using o2

set_option maxHeartbeats 3200000 in
theorem rappend_2 (B : Nat) (n : Int) (v : Value) (L : List Int) (w : World) (h0 : 0 ≤ n) (h1 : n ≤ 65535) (h : IsB w B v L) (hl : L.length ≤ 1000) :
    Calls Try.prog 51 #[v, .int .u64 n, .int .i64 2] w fun e w' => (∃ v', e = .returned (.tuple #[v', .int .i64 0]) ∧ IsB w' w.heap.size v' (L ++ [n % 256, n / 256 % 256])) ∧ Below w.heap.size w w' := by
  obtain ⟨i0, hi0, hz0, hz1, hz2⟩ := info_parts byte_info
  obtain ⟨A, cap, rfl⟩ := own_slice h
  have ra := (Reads.of_own h).alloc (Nat.le_refl _) (.cells #[] 5)
  have o0 : (w.alloc (.cells #[] 5)).ownsRow w.heap.size 5 1 (.slice (some ⟨w.heap.size, 0, none⟩) 0 0) 0 [] := World.ownsRow_lit w #[] 0 (Nat.le_refl _) (by unfold maxLen; omega) rfl
  have l1 : 0 + L.length ≤ maxLen := by unfold maxLen; omega
  have hBw1 : w.heap.size ≤ (w.alloc (.cells #[] 5)).heap.size := by simp
  go_enter Try.func51, Try.ntmps51
  go_wp2_with (first
    | (go_at_call 66; refine (rfits_2 n _ h0 h1).mono ?_; rintro e w' ⟨rfl, rfl⟩)
    | (at_builtin; refine wpList_append_any _ rfl (.tmp 17) (.tmp 18) _ rfl w.heap.size 5 i0 _ 1 1 Try.underlying24 hi0 hz0 hz1 hz2 rfl (by omega) _ 0 [] rfl o0 w.heap.size A L.length cap (L.map (Value.int .u8)) rfl ra bytes_one l1 (by omega) hBw1 ?_; intro v1 w1 o1 hg1 hat1)
    | go_in)
  have sz1 := hg1.size
  simp only [World.size_alloc] at sz1
  have hB1 := (b_alloc (Below.refl _ w) (.cells #[] 5)).grown hg1 hBw1 (fun k hk => by have hk' : some w.heap.size = some k := hk; injection hk' with hk'; omega)
  simp only [Nat.zero_add, List.nil_append] at o1
  clear hg1 hat1 o0 ra
  refine wp_loop_rounds 3 ?_
  rw [rounds_succ]
  go_wp2_with (at_builtin; refine wpList_append_any _ rfl (.tmp 25) (.tmp 29) _ rfl w.heap.size 5 i0 _ 1 1 Try.underlying24 hi0 hz0 hz1 hz2 rfl (by omega) _ (L.length) _ rfl (o1.alloc _) (w1.heap.size + 1) _ 1 1 [.int .u8 (n % 256)] rfl (Reads.one _ _ _) (by intro u hu; simp at hu; subst hu; rfl) (by unfold maxLen; omega) (by omega) (by simp; omega) ?_; intro v2 w2 o2 hg2 hat2; have sz2 := hg2.size; simp only [World.size_alloc] at sz2; have hB2 := (b_alloc hB1 _).grown hg2 (by simp; omega) (fun k hk => (o1.lt k hk).1); clear hg2 hat2 o1 hB1)
  rw [rounds_succ]
  go_wp2_with (at_builtin; refine wpList_append_any _ rfl (.tmp 25) (.tmp 29) _ rfl w.heap.size 5 i0 _ 1 1 Try.underlying24 hi0 hz0 hz1 hz2 rfl (by omega) _ (L.length + 1) _ rfl (o2.alloc _) (w2.heap.size + 1) _ 1 1 [.int .u8 (n / 256 % 256)] rfl (Reads.one _ _ _) (by intro u hu; simp at hu; subst hu; rfl) (by unfold maxLen; omega) (by omega) (by simp; omega) ?_; intro v3 w3 o3 hg3 hat3; have sz3 := hg3.size; simp only [World.size_alloc] at sz3; have hB3 := (b_alloc hB2 _).grown hg3 (by simp; omega) (fun k hk => (o2.lt k hk).1); clear hg3 hat3 o2 hB2)
  rw [rounds_succ]
  go_wp2
  go_ret2
  refine ⟨⟨_, rfl, ?_⟩, hB3⟩
  unfold IsB
  simpa using o3

set_option maxHeartbeats 3200000 in
theorem rappend_4 (B : Nat) (n : Int) (v : Value) (L : List Int) (w : World) (h0 : 0 ≤ n) (h1 : n ≤ 4294967295) (h : IsB w B v L) (hl : L.length ≤ 1000) :
    Calls Try.prog 51 #[v, .int .u64 n, .int .i64 4] w fun e w' => (∃ v', e = .returned (.tuple #[v', .int .i64 0]) ∧ IsB w' w.heap.size v' (L ++ [n % 256, n / 256 % 256, n / 65536 % 256, n / 16777216 % 256])) ∧ Below w.heap.size w w' := by
  obtain ⟨i0, hi0, hz0, hz1, hz2⟩ := info_parts byte_info
  obtain ⟨A, cap, rfl⟩ := own_slice h
  have ra := (Reads.of_own h).alloc (Nat.le_refl _) (.cells #[] 5)
  have o0 : (w.alloc (.cells #[] 5)).ownsRow w.heap.size 5 1 (.slice (some ⟨w.heap.size, 0, none⟩) 0 0) 0 [] := World.ownsRow_lit w #[] 0 (Nat.le_refl _) (by unfold maxLen; omega) rfl
  have l1 : 0 + L.length ≤ maxLen := by unfold maxLen; omega
  have hBw1 : w.heap.size ≤ (w.alloc (.cells #[] 5)).heap.size := by simp
  go_enter Try.func51, Try.ntmps51
  go_wp2_with (first
    | (go_at_call 66; refine (rfits_4 n _ h0 h1).mono ?_; rintro e w' ⟨rfl, rfl⟩)
    | (at_builtin; refine wpList_append_any _ rfl (.tmp 17) (.tmp 18) _ rfl w.heap.size 5 i0 _ 1 1 Try.underlying24 hi0 hz0 hz1 hz2 rfl (by omega) _ 0 [] rfl o0 w.heap.size A L.length cap (L.map (Value.int .u8)) rfl ra bytes_one l1 (by omega) hBw1 ?_; intro v1 w1 o1 hg1 hat1)
    | go_in)
  have sz1 := hg1.size
  simp only [World.size_alloc] at sz1
  have hB1 := (b_alloc (Below.refl _ w) (.cells #[] 5)).grown hg1 hBw1 (fun k hk => by have hk' : some w.heap.size = some k := hk; injection hk' with hk'; omega)
  simp only [Nat.zero_add, List.nil_append] at o1
  clear hg1 hat1 o0 ra
  refine wp_loop_rounds 5 ?_
  rw [rounds_succ]
  go_wp2_with (at_builtin; refine wpList_append_any _ rfl (.tmp 25) (.tmp 29) _ rfl w.heap.size 5 i0 _ 1 1 Try.underlying24 hi0 hz0 hz1 hz2 rfl (by omega) _ (L.length) _ rfl (o1.alloc _) (w1.heap.size + 1) _ 1 1 [.int .u8 (n % 256)] rfl (Reads.one _ _ _) (by intro u hu; simp at hu; subst hu; rfl) (by unfold maxLen; omega) (by omega) (by simp; omega) ?_; intro v2 w2 o2 hg2 hat2; have sz2 := hg2.size; simp only [World.size_alloc] at sz2; have hB2 := (b_alloc hB1 _).grown hg2 (by simp; omega) (fun k hk => (o1.lt k hk).1); clear hg2 hat2 o1 hB1)
  rw [rounds_succ]
  go_wp2_with (at_builtin; refine wpList_append_any _ rfl (.tmp 25) (.tmp 29) _ rfl w.heap.size 5 i0 _ 1 1 Try.underlying24 hi0 hz0 hz1 hz2 rfl (by omega) _ (L.length + 1) _ rfl (o2.alloc _) (w2.heap.size + 1) _ 1 1 [.int .u8 (n / 256 % 256)] rfl (Reads.one _ _ _) (by intro u hu; simp at hu; subst hu; rfl) (by unfold maxLen; omega) (by omega) (by simp; omega) ?_; intro v3 w3 o3 hg3 hat3; have sz3 := hg3.size; simp only [World.size_alloc] at sz3; have hB3 := (b_alloc hB2 _).grown hg3 (by simp; omega) (fun k hk => (o2.lt k hk).1); clear hg3 hat3 o2 hB2)
  rw [rounds_succ]
  go_wp2_with (at_builtin; refine wpList_append_any _ rfl (.tmp 25) (.tmp 29) _ rfl w.heap.size 5 i0 _ 1 1 Try.underlying24 hi0 hz0 hz1 hz2 rfl (by omega) _ (L.length + 1 + 1) _ rfl (o3.alloc _) (w3.heap.size + 1) _ 1 1 [.int .u8 (n / 256 / 256 % 256)] rfl (Reads.one _ _ _) (by intro u hu; simp at hu; subst hu; rfl) (by unfold maxLen; omega) (by omega) (by simp; omega) ?_; intro v4 w4 o4 hg4 hat4; have sz4 := hg4.size; simp only [World.size_alloc] at sz4; have hB4 := (b_alloc hB3 _).grown hg4 (by simp; omega) (fun k hk => (o3.lt k hk).1); clear hg4 hat4 o3 hB3)
  rw [rounds_succ]
  go_wp2_with (at_builtin; refine wpList_append_any _ rfl (.tmp 25) (.tmp 29) _ rfl w.heap.size 5 i0 _ 1 1 Try.underlying24 hi0 hz0 hz1 hz2 rfl (by omega) _ (L.length + 1 + 1 + 1) _ rfl (o4.alloc _) (w4.heap.size + 1) _ 1 1 [.int .u8 (n / 256 / 256 / 256 % 256)] rfl (Reads.one _ _ _) (by intro u hu; simp at hu; subst hu; rfl) (by unfold maxLen; omega) (by omega) (by simp; omega) ?_; intro v5 w5 o5 hg5 hat5; have sz5 := hg5.size; simp only [World.size_alloc] at sz5; have hB5 := (b_alloc hB4 _).grown hg5 (by simp; omega) (fun k hk => (o4.lt k hk).1); clear hg5 hat5 o4 hB4)
  rw [rounds_succ]
  go_wp2
  go_ret2
  refine ⟨⟨_, rfl, ?_⟩, hB5⟩
  unfold IsB
  have e2 : n / 256 / 256 = n / 65536 := by omega
  have e3 : n / 256 / 256 / 256 = n / 16777216 := by omega
  rw [e3, e2] at o5
  simpa using o5

set_option maxHeartbeats 3200000 in
theorem rappend_8 (B : Nat) (n : Int) (v : Value) (L : List Int) (w : World) (h0 : 0 ≤ n) (h1 : n ≤ 1099511627776) (h : IsB w B v L) (hl : L.length ≤ 1000) :
    Calls Try.prog 51 #[v, .int .u64 n, .int .i64 8] w fun e w' => (∃ v', e = .returned (.tuple #[v', .int .i64 0]) ∧ IsB w' w.heap.size v' (L ++ [n % 256, n / 256 % 256, n / 65536 % 256, n / 16777216 % 256, n / 4294967296 % 256, n / 1099511627776 % 256, n / 281474976710656 % 256, n / 72057594037927936 % 256])) ∧ Below w.heap.size w w' := by
  obtain ⟨i0, hi0, hz0, hz1, hz2⟩ := info_parts byte_info
  obtain ⟨A, cap, rfl⟩ := own_slice h
  have ra := (Reads.of_own h).alloc (Nat.le_refl _) (.cells #[] 5)
  have o0 : (w.alloc (.cells #[] 5)).ownsRow w.heap.size 5 1 (.slice (some ⟨w.heap.size, 0, none⟩) 0 0) 0 [] := World.ownsRow_lit w #[] 0 (Nat.le_refl _) (by unfold maxLen; omega) rfl
  have l1 : 0 + L.length ≤ maxLen := by unfold maxLen; omega
  have hBw1 : w.heap.size ≤ (w.alloc (.cells #[] 5)).heap.size := by simp
  go_enter Try.func51, Try.ntmps51
  go_wp2_with (first
    | (go_at_call 66; refine (rfits_8 n _ h0 h1).mono ?_; rintro e w' ⟨rfl, rfl⟩)
    | (at_builtin; refine wpList_append_any _ rfl (.tmp 17) (.tmp 18) _ rfl w.heap.size 5 i0 _ 1 1 Try.underlying24 hi0 hz0 hz1 hz2 rfl (by omega) _ 0 [] rfl o0 w.heap.size A L.length cap (L.map (Value.int .u8)) rfl ra bytes_one l1 (by omega) hBw1 ?_; intro v1 w1 o1 hg1 hat1)
    | go_in)
  have sz1 := hg1.size
  simp only [World.size_alloc] at sz1
  have hB1 := (b_alloc (Below.refl _ w) (.cells #[] 5)).grown hg1 hBw1 (fun k hk => by have hk' : some w.heap.size = some k := hk; injection hk' with hk'; omega)
  simp only [Nat.zero_add, List.nil_append] at o1
  clear hg1 hat1 o0 ra
  refine wp_loop_rounds 9 ?_
  rw [rounds_succ]
  go_wp2_with (at_builtin; refine wpList_append_any _ rfl (.tmp 25) (.tmp 29) _ rfl w.heap.size 5 i0 _ 1 1 Try.underlying24 hi0 hz0 hz1 hz2 rfl (by omega) _ (L.length) _ rfl (o1.alloc _) (w1.heap.size + 1) _ 1 1 [.int .u8 (n % 256)] rfl (Reads.one _ _ _) (by intro u hu; simp at hu; subst hu; rfl) (by unfold maxLen; omega) (by omega) (by simp; omega) ?_; intro v2 w2 o2 hg2 hat2; have sz2 := hg2.size; simp only [World.size_alloc] at sz2; have hB2 := (b_alloc hB1 _).grown hg2 (by simp; omega) (fun k hk => (o1.lt k hk).1); clear hg2 hat2 o1 hB1)
  rw [rounds_succ]
  go_wp2_with (at_builtin; refine wpList_append_any _ rfl (.tmp 25) (.tmp 29) _ rfl w.heap.size 5 i0 _ 1 1 Try.underlying24 hi0 hz0 hz1 hz2 rfl (by omega) _ (L.length + 1) _ rfl (o2.alloc _) (w2.heap.size + 1) _ 1 1 [.int .u8 (n / 256 % 256)] rfl (Reads.one _ _ _) (by intro u hu; simp at hu; subst hu; rfl) (by unfold maxLen; omega) (by omega) (by simp; omega) ?_; intro v3 w3 o3 hg3 hat3; have sz3 := hg3.size; simp only [World.size_alloc] at sz3; have hB3 := (b_alloc hB2 _).grown hg3 (by simp; omega) (fun k hk => (o2.lt k hk).1); clear hg3 hat3 o2 hB2)
  rw [rounds_succ]
  go_wp2_with (at_builtin; refine wpList_append_any _ rfl (.tmp 25) (.tmp 29) _ rfl w.heap.size 5 i0 _ 1 1 Try.underlying24 hi0 hz0 hz1 hz2 rfl (by omega) _ (L.length + 1 + 1) _ rfl (o3.alloc _) (w3.heap.size + 1) _ 1 1 [.int .u8 (n / 256 / 256 % 256)] rfl (Reads.one _ _ _) (by intro u hu; simp at hu; subst hu; rfl) (by unfold maxLen; omega) (by omega) (by simp; omega) ?_; intro v4 w4 o4 hg4 hat4; have sz4 := hg4.size; simp only [World.size_alloc] at sz4; have hB4 := (b_alloc hB3 _).grown hg4 (by simp; omega) (fun k hk => (o3.lt k hk).1); clear hg4 hat4 o3 hB3)
  rw [rounds_succ]
  go_wp2_with (at_builtin; refine wpList_append_any _ rfl (.tmp 25) (.tmp 29) _ rfl w.heap.size 5 i0 _ 1 1 Try.underlying24 hi0 hz0 hz1 hz2 rfl (by omega) _ (L.length + 1 + 1 + 1) _ rfl (o4.alloc _) (w4.heap.size + 1) _ 1 1 [.int .u8 (n / 256 / 256 / 256 % 256)] rfl (Reads.one _ _ _) (by intro u hu; simp at hu; subst hu; rfl) (by unfold maxLen; omega) (by omega) (by simp; omega) ?_; intro v5 w5 o5 hg5 hat5; have sz5 := hg5.size; simp only [World.size_alloc] at sz5; have hB5 := (b_alloc hB4 _).grown hg5 (by simp; omega) (fun k hk => (o4.lt k hk).1); clear hg5 hat5 o4 hB4)
  rw [rounds_succ]
  go_wp2_with (at_builtin; refine wpList_append_any _ rfl (.tmp 25) (.tmp 29) _ rfl w.heap.size 5 i0 _ 1 1 Try.underlying24 hi0 hz0 hz1 hz2 rfl (by omega) _ (L.length + 1 + 1 + 1 + 1) _ rfl (o5.alloc _) (w5.heap.size + 1) _ 1 1 [.int .u8 (n / 256 / 256 / 256 / 256 % 256)] rfl (Reads.one _ _ _) (by intro u hu; simp at hu; subst hu; rfl) (by unfold maxLen; omega) (by omega) (by simp; omega) ?_; intro v6 w6 o6 hg6 hat6; have sz6 := hg6.size; simp only [World.size_alloc] at sz6; have hB6 := (b_alloc hB5 _).grown hg6 (by simp; omega) (fun k hk => (o5.lt k hk).1); clear hg6 hat6 o5 hB5)
  rw [rounds_succ]
  go_wp2_with (at_builtin; refine wpList_append_any _ rfl (.tmp 25) (.tmp 29) _ rfl w.heap.size 5 i0 _ 1 1 Try.underlying24 hi0 hz0 hz1 hz2 rfl (by omega) _ (L.length + 1 + 1 + 1 + 1 + 1) _ rfl (o6.alloc _) (w6.heap.size + 1) _ 1 1 [.int .u8 (n / 256 / 256 / 256 / 256 / 256 % 256)] rfl (Reads.one _ _ _) (by intro u hu; simp at hu; subst hu; rfl) (by unfold maxLen; omega) (by omega) (by simp; omega) ?_; intro v7 w7 o7 hg7 hat7; have sz7 := hg7.size; simp only [World.size_alloc] at sz7; have hB7 := (b_alloc hB6 _).grown hg7 (by simp; omega) (fun k hk => (o6.lt k hk).1); clear hg7 hat7 o6 hB6)
  rw [rounds_succ]
  go_wp2_with (at_builtin; refine wpList_append_any _ rfl (.tmp 25) (.tmp 29) _ rfl w.heap.size 5 i0 _ 1 1 Try.underlying24 hi0 hz0 hz1 hz2 rfl (by omega) _ (L.length + 1 + 1 + 1 + 1 + 1 + 1) _ rfl (o7.alloc _) (w7.heap.size + 1) _ 1 1 [.int .u8 (n / 256 / 256 / 256 / 256 / 256 / 256 % 256)] rfl (Reads.one _ _ _) (by intro u hu; simp at hu; subst hu; rfl) (by unfold maxLen; omega) (by omega) (by simp; omega) ?_; intro v8 w8 o8 hg8 hat8; have sz8 := hg8.size; simp only [World.size_alloc] at sz8; have hB8 := (b_alloc hB7 _).grown hg8 (by simp; omega) (fun k hk => (o7.lt k hk).1); clear hg8 hat8 o7 hB7)
  rw [rounds_succ]
  go_wp2_with (at_builtin; refine wpList_append_any _ rfl (.tmp 25) (.tmp 29) _ rfl w.heap.size 5 i0 _ 1 1 Try.underlying24 hi0 hz0 hz1 hz2 rfl (by omega) _ (L.length + 1 + 1 + 1 + 1 + 1 + 1 + 1) _ rfl (o8.alloc _) (w8.heap.size + 1) _ 1 1 [.int .u8 (n / 256 / 256 / 256 / 256 / 256 / 256 / 256 % 256)] rfl (Reads.one _ _ _) (by intro u hu; simp at hu; subst hu; rfl) (by unfold maxLen; omega) (by omega) (by simp; omega) ?_; intro v9 w9 o9 hg9 hat9; have sz9 := hg9.size; simp only [World.size_alloc] at sz9; have hB9 := (b_alloc hB8 _).grown hg9 (by simp; omega) (fun k hk => (o8.lt k hk).1); clear hg9 hat9 o8 hB8)
  rw [rounds_succ]
  go_wp2
  go_ret2
  refine ⟨⟨_, rfl, ?_⟩, hB9⟩
  unfold IsB
  have e2 : n / 256 / 256 = n / 65536 := by omega
  have e3 : n / 256 / 256 / 256 = n / 16777216 := by omega
  have e4 : n / 256 / 256 / 256 / 256 = n / 4294967296 := by omega
  have e5 : n / 256 / 256 / 256 / 256 / 256 = n / 1099511627776 := by omega
  have e6 : n / 256 / 256 / 256 / 256 / 256 / 256 = n / 281474976710656 := by omega
  have e7 : n / 256 / 256 / 256 / 256 / 256 / 256 / 256 = n / 72057594037927936 := by omega
  rw [e7, e6, e5, e4, e3, e2] at o9
  simpa using o9
end Go.Proofs.Ytiobnhdcapfhgaa
