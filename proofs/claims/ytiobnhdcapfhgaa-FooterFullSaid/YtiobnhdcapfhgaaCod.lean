/-
  The codec's Append and Uint at the four widths, by contract.
-/
import Derived.Test.YtiobnhdcapfhgaaChk
import Derived.Test.YtiobnhdcapfhgaaByt
import Derived.LoopN
import Derived.Outline
import Derived.Lib.SliceRun
namespace Go.Proofs.Ytiobnhdcapfhgaa
open Go.RowKit
set_option linter.unusedVariables false

def wRow : Array Value := #[.int .i64 1, .int .i64 2, .int .i64 4, .int .i64 8]
theorem cont_1 (g : Nat) (w : World) (h : Blk w g 3 wRow) :
    Calls Try.prog 61 #[.slice (some ⟨g, 0, none⟩) 4 4, .int .i64 1] w fun e w' => e = .returned (.bool true) ∧ w = w' := by
  have hc := h.cell
  unfold wRow at hc
  go_enter Try.func61, Try.ntmps61
  go_wp2_with go_in
  refine wp_loop_rounds 5 ?_
  rw [rounds_succ]
  go_wp2
  go_ret
  exact ⟨rfl, rfl⟩
theorem cont_2 (g : Nat) (w : World) (h : Blk w g 3 wRow) :
    Calls Try.prog 61 #[.slice (some ⟨g, 0, none⟩) 4 4, .int .i64 2] w fun e w' => e = .returned (.bool true) ∧ w = w' := by
  have hc := h.cell
  unfold wRow at hc
  go_enter Try.func61, Try.ntmps61
  go_wp2_with go_in
  refine wp_loop_rounds 5 ?_
  rw [rounds_succ]
  go_wp2
  rw [rounds_succ]
  go_wp2
  go_ret
  exact ⟨rfl, rfl⟩
theorem cont_4 (g : Nat) (w : World) (h : Blk w g 3 wRow) :
    Calls Try.prog 61 #[.slice (some ⟨g, 0, none⟩) 4 4, .int .i64 4] w fun e w' => e = .returned (.bool true) ∧ w = w' := by
  have hc := h.cell
  unfold wRow at hc
  go_enter Try.func61, Try.ntmps61
  go_wp2_with go_in
  refine wp_loop_rounds 5 ?_
  rw [rounds_succ]
  go_wp2
  rw [rounds_succ]
  go_wp2
  rw [rounds_succ]
  go_wp2
  go_ret
  exact ⟨rfl, rfl⟩
theorem cont_8 (g : Nat) (w : World) (h : Blk w g 3 wRow) :
    Calls Try.prog 61 #[.slice (some ⟨g, 0, none⟩) 4 4, .int .i64 8] w fun e w' => e = .returned (.bool true) ∧ w = w' := by
  have hc := h.cell
  unfold wRow at hc
  go_enter Try.func61, Try.ntmps61
  go_wp2_with go_in
  refine wp_loop_rounds 5 ?_
  rw [rounds_succ]
  go_wp2
  rw [rounds_succ]
  go_wp2
  rw [rounds_succ]
  go_wp2
  rw [rounds_succ]
  go_wp2
  go_ret
  exact ⟨rfl, rfl⟩
theorem fits_1 (n : Int) (w : World) (h0 : 0 ≤ n) (h1 : (n / 256 == 0) = true) :
    Calls Try.prog 63 #[.int .u64 n, .int .i64 1] w fun e w' => e = .returned (.bool true) ∧ w' = w.alloc (.cells wRow 3) := by
  go_enter Try.func63, Try.ntmps63
  go_wp2_with (first | (go_at_call 61; refine (cont_1 w.heap.size _ (Blk.new _ _ _)).mono ?_; rintro e w' ⟨rfl, rfl⟩) | go_in)
  go_ret
  exact ⟨rfl, rfl⟩
theorem fits_2 (n : Int) (w : World) (h0 : 0 ≤ n) (h1 : (n / 65536 == 0) = true) :
    Calls Try.prog 63 #[.int .u64 n, .int .i64 2] w fun e w' => e = .returned (.bool true) ∧ w' = w.alloc (.cells wRow 3) := by
  go_enter Try.func63, Try.ntmps63
  go_wp2_with (first | (go_at_call 61; refine (cont_2 w.heap.size _ (Blk.new _ _ _)).mono ?_; rintro e w' ⟨rfl, rfl⟩) | go_in)
  go_ret
  exact ⟨rfl, rfl⟩
theorem fits_4 (n : Int) (w : World) (h0 : 0 ≤ n) (h1 : (n / 4294967296 == 0) = true) :
    Calls Try.prog 63 #[.int .u64 n, .int .i64 4] w fun e w' => e = .returned (.bool true) ∧ w' = w.alloc (.cells wRow 3) := by
  go_enter Try.func63, Try.ntmps63
  go_wp2_with (first | (go_at_call 61; refine (cont_4 w.heap.size _ (Blk.new _ _ _)).mono ?_; rintro e w' ⟨rfl, rfl⟩) | go_in)
  go_ret
  exact ⟨rfl, rfl⟩
theorem fits_8 (n : Int) (w : World) (h0 : 0 ≤ n) :
    Calls Try.prog 63 #[.int .u64 n, .int .i64 8] w fun e w' => e = .returned (.bool true) ∧ w' = w.alloc (.cells wRow 3) := by
  go_enter Try.func63, Try.ntmps63
  go_wp2_with (first | (go_at_call 61; refine (cont_8 w.heap.size _ (Blk.new _ _ _)).mono ?_; rintro e w' ⟨rfl, rfl⟩) | go_in)
  go_ret
  exact ⟨rfl, rfl⟩



theorem clone_any (B : Nat) (v : Value) (L : List Int) (w : World) (h : IsB w B v L) (hl : L.length ≤ 100000) :
    Calls Try.prog 17 #[v] w fun e w' => (∃ v', e = .returned v' ∧ IsB w' w.heap.size v' L) ∧ Below w.heap.size w w' := by
  have q26 : ∀ (w : World) (a : Option Addr) (n c n' c' : Nat), (binOp .eql 24 (.slice a n c) (.slice none n' c')).run Try.prog w = .ok (.bool a.isNone) w := fun w a n c n' c' => Lib.run_eql_slice_nil w _ _ a n c n' c' Try.underlying24
  obtain ⟨i0, hi0, hz0, hz1, hz2⟩ := info_parts byte_info
  rcases own_form h with ⟨rfl, hn⟩ | ⟨g, cap, rfl, hb, hlt⟩
  · have hL : L = [] := List.eq_nil_of_length_eq_zero hn
    subst hL
    go_enter Try.func17, Try.ntmps17
    go_wp2
    go_ret
    exact ⟨⟨_, rfl, IsB.nil _ _⟩, Below.refl _ _⟩
  · have ra := (Reads.of_own h).alloc (Nat.le_refl _) (.cells #[] 5)
    have o0 : (w.alloc (.cells #[] 5)).ownsRow w.heap.size 5 1 (.slice (some ⟨w.heap.size, 0, none⟩) 0 0) 0 [] := World.ownsRow_lit w #[] 0 (Nat.le_refl _) (by unfold maxLen; omega) rfl
    have l1 : 0 + L.length ≤ maxLen := by unfold maxLen; omega
    have hBw1 : w.heap.size ≤ (w.alloc (.cells #[] 5)).heap.size := by simp
    go_enter Try.func17, Try.ntmps17
    go_wp2_with (at_builtin; refine wpList_append_any _ rfl (.tmp 5) (.tmp 6) _ rfl w.heap.size 5 i0 _ 1 1 Try.underlying24 hi0 hz0 hz1 hz2 rfl (by omega) _ 0 [] rfl o0 w.heap.size (some ⟨g, 0, none⟩) L.length cap (L.map (Value.int .u8)) rfl ra bytes_one l1 (by omega) hBw1 ?_; intro v1 w1 own1 hg1 hat1)
    go_ret
    refine ⟨⟨_, rfl, by unfold IsB; simpa using own1⟩, (b_alloc (Below.refl _ w) _).grown hg1 hBw1 (fun k hk => ?_)⟩
    have hk' : some w.heap.size = some k := hk
    injection hk' with hk'
    omega

set_option maxHeartbeats 3200000 in
theorem append_1 (B : Nat) (n : Int) (v : Value) (L : List Int) (w : World) (h0 : 0 ≤ n) (h1 : (n / 256 == 0) = true) (h : IsB w B v L) (hl : L.length ≤ 1000) :
    Calls Try.prog 48 #[v, .int .u64 n, .int .i64 1] w fun e w' => (∃ v', e = .returned (.tuple #[v', .int .i64 0]) ∧ IsB w' w.heap.size v' (L ++ [n % 256])) ∧ Below w.heap.size w w' := by
  obtain ⟨i0, hi0, hz0, hz1, hz2⟩ := info_parts byte_info
  go_enter Try.func48, Try.ntmps48
  go_wp2_with (first
    | (go_at_call 61; refine (cont_1 w.heap.size _ (Blk.new _ _ _)).mono ?_; rintro e w' ⟨rfl, rfl⟩)
    | (go_at_call 63; refine (fits_1 n _ h0 h1).mono ?_; rintro e w' ⟨rfl, rfl⟩)
    | (go_at_call 17; refine (clone_any B v L _ ((World.ownsRow.alloc h _).alloc _) (by omega)).mono ?_; rintro e w1 ⟨⟨v1, rfl, o1⟩, hb1⟩)
    | go_in)
  have sz1 := hb1.size
  simp only [World.size_alloc] at sz1
  have hB1 := b_then (b_alloc (b_alloc (Below.refl _ w) _) _) hb1
  have o1 : w1.ownsRow w.heap.size 5 1 v1 L.length (L.map (Value.int .u8)) := own_base o1 (by simp; omega)
  clear hb1
  refine wp_loop_rounds 2 ?_
  rw [rounds_succ]
  go_wp2_with (at_builtin; refine wpList_append_any _ rfl (.tmp 26) (.tmp 32) _ rfl w.heap.size 5 i0 _ 1 1 Try.underlying24 hi0 hz0 hz1 hz2 rfl (by omega) _ (L.length) _ rfl (o1.alloc _) (w1.heap.size + 1) _ 1 1 [.int .u8 (n % 256)] rfl (Reads.one _ _ _) (by intro u hu; simp at hu; subst hu; rfl) (by unfold maxLen; omega) (by omega) (by simp; omega) ?_; intro v2 w2 o2 hg2 hat2; have sz2 := hg2.size; simp only [World.size_alloc] at sz2; have hB2 := (b_alloc hB1 _).grown hg2 (by simp; omega) (fun k hk => (o1.lt k hk).1); clear hg2 hat2 o1 hB1)
  rw [rounds_succ]
  go_wp2
  go_ret2
  refine ⟨⟨_, rfl, ?_⟩, hB2⟩
  unfold IsB
  simpa using o2

set_option maxHeartbeats 3200000 in
theorem append_2 (B : Nat) (n : Int) (v : Value) (L : List Int) (w : World) (h0 : 0 ≤ n) (h1 : (n / 65536 == 0) = true) (h : IsB w B v L) (hl : L.length ≤ 1000) :
    Calls Try.prog 48 #[v, .int .u64 n, .int .i64 2] w fun e w' => (∃ v', e = .returned (.tuple #[v', .int .i64 0]) ∧ IsB w' w.heap.size v' (L ++ [n % 256, n / 256 % 256])) ∧ Below w.heap.size w w' := by
  obtain ⟨i0, hi0, hz0, hz1, hz2⟩ := info_parts byte_info
  go_enter Try.func48, Try.ntmps48
  go_wp2_with (first
    | (go_at_call 61; refine (cont_2 w.heap.size _ (Blk.new _ _ _)).mono ?_; rintro e w' ⟨rfl, rfl⟩)
    | (go_at_call 63; refine (fits_2 n _ h0 h1).mono ?_; rintro e w' ⟨rfl, rfl⟩)
    | (go_at_call 17; refine (clone_any B v L _ ((World.ownsRow.alloc h _).alloc _) (by omega)).mono ?_; rintro e w1 ⟨⟨v1, rfl, o1⟩, hb1⟩)
    | go_in)
  have sz1 := hb1.size
  simp only [World.size_alloc] at sz1
  have hB1 := b_then (b_alloc (b_alloc (Below.refl _ w) _) _) hb1
  have o1 : w1.ownsRow w.heap.size 5 1 v1 L.length (L.map (Value.int .u8)) := own_base o1 (by simp; omega)
  clear hb1
  refine wp_loop_rounds 3 ?_
  rw [rounds_succ]
  go_wp2_with (at_builtin; refine wpList_append_any _ rfl (.tmp 26) (.tmp 32) _ rfl w.heap.size 5 i0 _ 1 1 Try.underlying24 hi0 hz0 hz1 hz2 rfl (by omega) _ (L.length) _ rfl (o1.alloc _) (w1.heap.size + 1) _ 1 1 [.int .u8 (n % 256)] rfl (Reads.one _ _ _) (by intro u hu; simp at hu; subst hu; rfl) (by unfold maxLen; omega) (by omega) (by simp; omega) ?_; intro v2 w2 o2 hg2 hat2; have sz2 := hg2.size; simp only [World.size_alloc] at sz2; have hB2 := (b_alloc hB1 _).grown hg2 (by simp; omega) (fun k hk => (o1.lt k hk).1); clear hg2 hat2 o1 hB1)
  rw [rounds_succ]
  go_wp2_with (at_builtin; refine wpList_append_any _ rfl (.tmp 26) (.tmp 32) _ rfl w.heap.size 5 i0 _ 1 1 Try.underlying24 hi0 hz0 hz1 hz2 rfl (by omega) _ (L.length + 1) _ rfl (o2.alloc _) (w2.heap.size + 1) _ 1 1 [.int .u8 (n / 256 % 256)] rfl (Reads.one _ _ _) (by intro u hu; simp at hu; subst hu; rfl) (by unfold maxLen; omega) (by omega) (by simp; omega) ?_; intro v3 w3 o3 hg3 hat3; have sz3 := hg3.size; simp only [World.size_alloc] at sz3; have hB3 := (b_alloc hB2 _).grown hg3 (by simp; omega) (fun k hk => (o2.lt k hk).1); clear hg3 hat3 o2 hB2)
  rw [rounds_succ]
  go_wp2
  go_ret2
  refine ⟨⟨_, rfl, ?_⟩, hB3⟩
  unfold IsB
  simpa using o3

set_option maxHeartbeats 3200000 in
theorem append_4 (B : Nat) (n : Int) (v : Value) (L : List Int) (w : World) (h0 : 0 ≤ n) (h1 : (n / 4294967296 == 0) = true) (h : IsB w B v L) (hl : L.length ≤ 1000) :
    Calls Try.prog 48 #[v, .int .u64 n, .int .i64 4] w fun e w' => (∃ v', e = .returned (.tuple #[v', .int .i64 0]) ∧ IsB w' w.heap.size v' (L ++ [n % 256, n / 256 % 256, n / 65536 % 256, n / 16777216 % 256])) ∧ Below w.heap.size w w' := by
  obtain ⟨i0, hi0, hz0, hz1, hz2⟩ := info_parts byte_info
  go_enter Try.func48, Try.ntmps48
  go_wp2_with (first
    | (go_at_call 61; refine (cont_4 w.heap.size _ (Blk.new _ _ _)).mono ?_; rintro e w' ⟨rfl, rfl⟩)
    | (go_at_call 63; refine (fits_4 n _ h0 h1).mono ?_; rintro e w' ⟨rfl, rfl⟩)
    | (go_at_call 17; refine (clone_any B v L _ ((World.ownsRow.alloc h _).alloc _) (by omega)).mono ?_; rintro e w1 ⟨⟨v1, rfl, o1⟩, hb1⟩)
    | go_in)
  have sz1 := hb1.size
  simp only [World.size_alloc] at sz1
  have hB1 := b_then (b_alloc (b_alloc (Below.refl _ w) _) _) hb1
  have o1 : w1.ownsRow w.heap.size 5 1 v1 L.length (L.map (Value.int .u8)) := own_base o1 (by simp; omega)
  clear hb1
  refine wp_loop_rounds 5 ?_
  rw [rounds_succ]
  go_wp2_with (at_builtin; refine wpList_append_any _ rfl (.tmp 26) (.tmp 32) _ rfl w.heap.size 5 i0 _ 1 1 Try.underlying24 hi0 hz0 hz1 hz2 rfl (by omega) _ (L.length) _ rfl (o1.alloc _) (w1.heap.size + 1) _ 1 1 [.int .u8 (n % 256)] rfl (Reads.one _ _ _) (by intro u hu; simp at hu; subst hu; rfl) (by unfold maxLen; omega) (by omega) (by simp; omega) ?_; intro v2 w2 o2 hg2 hat2; have sz2 := hg2.size; simp only [World.size_alloc] at sz2; have hB2 := (b_alloc hB1 _).grown hg2 (by simp; omega) (fun k hk => (o1.lt k hk).1); clear hg2 hat2 o1 hB1)
  rw [rounds_succ]
  go_wp2_with (at_builtin; refine wpList_append_any _ rfl (.tmp 26) (.tmp 32) _ rfl w.heap.size 5 i0 _ 1 1 Try.underlying24 hi0 hz0 hz1 hz2 rfl (by omega) _ (L.length + 1) _ rfl (o2.alloc _) (w2.heap.size + 1) _ 1 1 [.int .u8 (n / 256 % 256)] rfl (Reads.one _ _ _) (by intro u hu; simp at hu; subst hu; rfl) (by unfold maxLen; omega) (by omega) (by simp; omega) ?_; intro v3 w3 o3 hg3 hat3; have sz3 := hg3.size; simp only [World.size_alloc] at sz3; have hB3 := (b_alloc hB2 _).grown hg3 (by simp; omega) (fun k hk => (o2.lt k hk).1); clear hg3 hat3 o2 hB2)
  rw [rounds_succ]
  go_wp2_with (at_builtin; refine wpList_append_any _ rfl (.tmp 26) (.tmp 32) _ rfl w.heap.size 5 i0 _ 1 1 Try.underlying24 hi0 hz0 hz1 hz2 rfl (by omega) _ (L.length + 1 + 1) _ rfl (o3.alloc _) (w3.heap.size + 1) _ 1 1 [.int .u8 (n / 65536 % 256)] rfl (Reads.one _ _ _) (by intro u hu; simp at hu; subst hu; rfl) (by unfold maxLen; omega) (by omega) (by simp; omega) ?_; intro v4 w4 o4 hg4 hat4; have sz4 := hg4.size; simp only [World.size_alloc] at sz4; have hB4 := (b_alloc hB3 _).grown hg4 (by simp; omega) (fun k hk => (o3.lt k hk).1); clear hg4 hat4 o3 hB3)
  rw [rounds_succ]
  go_wp2_with (at_builtin; refine wpList_append_any _ rfl (.tmp 26) (.tmp 32) _ rfl w.heap.size 5 i0 _ 1 1 Try.underlying24 hi0 hz0 hz1 hz2 rfl (by omega) _ (L.length + 1 + 1 + 1) _ rfl (o4.alloc _) (w4.heap.size + 1) _ 1 1 [.int .u8 (n / 16777216 % 256)] rfl (Reads.one _ _ _) (by intro u hu; simp at hu; subst hu; rfl) (by unfold maxLen; omega) (by omega) (by simp; omega) ?_; intro v5 w5 o5 hg5 hat5; have sz5 := hg5.size; simp only [World.size_alloc] at sz5; have hB5 := (b_alloc hB4 _).grown hg5 (by simp; omega) (fun k hk => (o4.lt k hk).1); clear hg5 hat5 o4 hB4)
  rw [rounds_succ]
  go_wp2
  go_ret2
  refine ⟨⟨_, rfl, ?_⟩, hB5⟩
  unfold IsB
  simpa using o5

set_option maxHeartbeats 3200000 in
theorem append_8 (B : Nat) (n : Int) (v : Value) (L : List Int) (w : World) (h0 : 0 ≤ n) (h : IsB w B v L) (hl : L.length ≤ 1000) :
    Calls Try.prog 48 #[v, .int .u64 n, .int .i64 8] w fun e w' => (∃ v', e = .returned (.tuple #[v', .int .i64 0]) ∧ IsB w' w.heap.size v' (L ++ [n % 256, n / 256 % 256, n / 65536 % 256, n / 16777216 % 256, n / 4294967296 % 256, n / 1099511627776 % 256, n / 281474976710656 % 256, n / 72057594037927936 % 256])) ∧ Below w.heap.size w w' := by
  obtain ⟨i0, hi0, hz0, hz1, hz2⟩ := info_parts byte_info
  go_enter Try.func48, Try.ntmps48
  go_wp2_with (first
    | (go_at_call 61; refine (cont_8 w.heap.size _ (Blk.new _ _ _)).mono ?_; rintro e w' ⟨rfl, rfl⟩)
    | (go_at_call 63; refine (fits_8 n _ h0 ).mono ?_; rintro e w' ⟨rfl, rfl⟩)
    | (go_at_call 17; refine (clone_any B v L _ ((World.ownsRow.alloc h _).alloc _) (by omega)).mono ?_; rintro e w1 ⟨⟨v1, rfl, o1⟩, hb1⟩)
    | go_in)
  have sz1 := hb1.size
  simp only [World.size_alloc] at sz1
  have hB1 := b_then (b_alloc (b_alloc (Below.refl _ w) _) _) hb1
  have o1 : w1.ownsRow w.heap.size 5 1 v1 L.length (L.map (Value.int .u8)) := own_base o1 (by simp; omega)
  clear hb1
  refine wp_loop_rounds 9 ?_
  rw [rounds_succ]
  go_wp2_with (at_builtin; refine wpList_append_any _ rfl (.tmp 26) (.tmp 32) _ rfl w.heap.size 5 i0 _ 1 1 Try.underlying24 hi0 hz0 hz1 hz2 rfl (by omega) _ (L.length) _ rfl (o1.alloc _) (w1.heap.size + 1) _ 1 1 [.int .u8 (n % 256)] rfl (Reads.one _ _ _) (by intro u hu; simp at hu; subst hu; rfl) (by unfold maxLen; omega) (by omega) (by simp; omega) ?_; intro v2 w2 o2 hg2 hat2; have sz2 := hg2.size; simp only [World.size_alloc] at sz2; have hB2 := (b_alloc hB1 _).grown hg2 (by simp; omega) (fun k hk => (o1.lt k hk).1); clear hg2 hat2 o1 hB1)
  rw [rounds_succ]
  go_wp2_with (at_builtin; refine wpList_append_any _ rfl (.tmp 26) (.tmp 32) _ rfl w.heap.size 5 i0 _ 1 1 Try.underlying24 hi0 hz0 hz1 hz2 rfl (by omega) _ (L.length + 1) _ rfl (o2.alloc _) (w2.heap.size + 1) _ 1 1 [.int .u8 (n / 256 % 256)] rfl (Reads.one _ _ _) (by intro u hu; simp at hu; subst hu; rfl) (by unfold maxLen; omega) (by omega) (by simp; omega) ?_; intro v3 w3 o3 hg3 hat3; have sz3 := hg3.size; simp only [World.size_alloc] at sz3; have hB3 := (b_alloc hB2 _).grown hg3 (by simp; omega) (fun k hk => (o2.lt k hk).1); clear hg3 hat3 o2 hB2)
  rw [rounds_succ]
  go_wp2_with (at_builtin; refine wpList_append_any _ rfl (.tmp 26) (.tmp 32) _ rfl w.heap.size 5 i0 _ 1 1 Try.underlying24 hi0 hz0 hz1 hz2 rfl (by omega) _ (L.length + 1 + 1) _ rfl (o3.alloc _) (w3.heap.size + 1) _ 1 1 [.int .u8 (n / 65536 % 256)] rfl (Reads.one _ _ _) (by intro u hu; simp at hu; subst hu; rfl) (by unfold maxLen; omega) (by omega) (by simp; omega) ?_; intro v4 w4 o4 hg4 hat4; have sz4 := hg4.size; simp only [World.size_alloc] at sz4; have hB4 := (b_alloc hB3 _).grown hg4 (by simp; omega) (fun k hk => (o3.lt k hk).1); clear hg4 hat4 o3 hB3)
  rw [rounds_succ]
  go_wp2_with (at_builtin; refine wpList_append_any _ rfl (.tmp 26) (.tmp 32) _ rfl w.heap.size 5 i0 _ 1 1 Try.underlying24 hi0 hz0 hz1 hz2 rfl (by omega) _ (L.length + 1 + 1 + 1) _ rfl (o4.alloc _) (w4.heap.size + 1) _ 1 1 [.int .u8 (n / 16777216 % 256)] rfl (Reads.one _ _ _) (by intro u hu; simp at hu; subst hu; rfl) (by unfold maxLen; omega) (by omega) (by simp; omega) ?_; intro v5 w5 o5 hg5 hat5; have sz5 := hg5.size; simp only [World.size_alloc] at sz5; have hB5 := (b_alloc hB4 _).grown hg5 (by simp; omega) (fun k hk => (o4.lt k hk).1); clear hg5 hat5 o4 hB4)
  rw [rounds_succ]
  go_wp2_with (at_builtin; refine wpList_append_any _ rfl (.tmp 26) (.tmp 32) _ rfl w.heap.size 5 i0 _ 1 1 Try.underlying24 hi0 hz0 hz1 hz2 rfl (by omega) _ (L.length + 1 + 1 + 1 + 1) _ rfl (o5.alloc _) (w5.heap.size + 1) _ 1 1 [.int .u8 (n / 4294967296 % 256)] rfl (Reads.one _ _ _) (by intro u hu; simp at hu; subst hu; rfl) (by unfold maxLen; omega) (by omega) (by simp; omega) ?_; intro v6 w6 o6 hg6 hat6; have sz6 := hg6.size; simp only [World.size_alloc] at sz6; have hB6 := (b_alloc hB5 _).grown hg6 (by simp; omega) (fun k hk => (o5.lt k hk).1); clear hg6 hat6 o5 hB5)
  rw [rounds_succ]
  go_wp2_with (at_builtin; refine wpList_append_any _ rfl (.tmp 26) (.tmp 32) _ rfl w.heap.size 5 i0 _ 1 1 Try.underlying24 hi0 hz0 hz1 hz2 rfl (by omega) _ (L.length + 1 + 1 + 1 + 1 + 1) _ rfl (o6.alloc _) (w6.heap.size + 1) _ 1 1 [.int .u8 (n / 1099511627776 % 256)] rfl (Reads.one _ _ _) (by intro u hu; simp at hu; subst hu; rfl) (by unfold maxLen; omega) (by omega) (by simp; omega) ?_; intro v7 w7 o7 hg7 hat7; have sz7 := hg7.size; simp only [World.size_alloc] at sz7; have hB7 := (b_alloc hB6 _).grown hg7 (by simp; omega) (fun k hk => (o6.lt k hk).1); clear hg7 hat7 o6 hB6)
  rw [rounds_succ]
  go_wp2_with (at_builtin; refine wpList_append_any _ rfl (.tmp 26) (.tmp 32) _ rfl w.heap.size 5 i0 _ 1 1 Try.underlying24 hi0 hz0 hz1 hz2 rfl (by omega) _ (L.length + 1 + 1 + 1 + 1 + 1 + 1) _ rfl (o7.alloc _) (w7.heap.size + 1) _ 1 1 [.int .u8 (n / 281474976710656 % 256)] rfl (Reads.one _ _ _) (by intro u hu; simp at hu; subst hu; rfl) (by unfold maxLen; omega) (by omega) (by simp; omega) ?_; intro v8 w8 o8 hg8 hat8; have sz8 := hg8.size; simp only [World.size_alloc] at sz8; have hB8 := (b_alloc hB7 _).grown hg8 (by simp; omega) (fun k hk => (o7.lt k hk).1); clear hg8 hat8 o7 hB7)
  rw [rounds_succ]
  go_wp2_with (at_builtin; refine wpList_append_any _ rfl (.tmp 26) (.tmp 32) _ rfl w.heap.size 5 i0 _ 1 1 Try.underlying24 hi0 hz0 hz1 hz2 rfl (by omega) _ (L.length + 1 + 1 + 1 + 1 + 1 + 1 + 1) _ rfl (o8.alloc _) (w8.heap.size + 1) _ 1 1 [.int .u8 (n / 72057594037927936 % 256)] rfl (Reads.one _ _ _) (by intro u hu; simp at hu; subst hu; rfl) (by unfold maxLen; omega) (by omega) (by simp; omega) ?_; intro v9 w9 o9 hg9 hat9; have sz9 := hg9.size; simp only [World.size_alloc] at sz9; have hB9 := (b_alloc hB8 _).grown hg9 (by simp; omega) (fun k hk => (o8.lt k hk).1); clear hg9 hat9 o8 hB8)
  rw [rounds_succ]
  go_wp2
  go_ret2
  refine ⟨⟨_, rfl, ?_⟩, hB9⟩
  unfold IsB
  simpa using o9
end Go.Proofs.Ytiobnhdcapfhgaa
