/-
  The reference's admission by contract.
-/
import Derived.Test.YtkicciinneffcaaPut
import Derived.Test.YtkicciinneffcaaRey
namespace Go.Proofs.Ytkicciinneffcaa
open Go.RowKit
set_option linter.unusedVariables false

theorem rkErr_any (s : ByteArray) (hs : s.size ≤ maxLen) (w : World) :
    Calls Try.prog 29 #[.string s] w fun e w' => e = .returned (.int .i64 (kErr s)) ∧ Below w.heap.size w w' := by
  unfold kErr
  by_cases h : keyAll s
  · rw [if_pos h]; exact rkeyc_all s h hs w
  · rw [if_neg h]; exact rkeyc_bad s h hs w

theorem rfits_lo (s : ByteArray) (most : Int) (hs : s.size ≤ maxLen) (h : most < 1 ∨ 32 < most) (w : World) :
    Calls Try.prog 35 #[.string s, .int .i64 most] w fun e w' => e = .returned (.int .i64 2) ∧ Below w.heap.size w w' := by
  by_cases h1 : most < 1
  · clear h
    go_enter Try.func35, Try.ntmps35
    go_wp2
    go_ret
    exact ⟨rfl, Below.refl _ _⟩
  · have h2 : 32 < most := by omega
    clear h
    go_enter Try.func35, Try.ntmps35
    go_wp2
    go_ret
    exact ⟨rfl, Below.refl _ _⟩
theorem rfits_any (s : ByteArray) (most : Int) (hs : s.size ≤ maxLen) (w : World) :
    Calls Try.prog 35 #[.string s, .int .i64 most] w fun e w' => e = .returned (.int .i64 (fErr s most)) ∧ Below w.heap.size w w' := by
  have hs' : (s.size : Int) ≤ 9223372036854775807 := by unfold maxLen at hs; omega
  by_cases h1 : most < 1 ∨ 32 < most
  · have hv : fErr s most = 2 := by unfold fErr; rw [if_pos h1]
    rw [hv]
    exact rfits_lo s most hs h1 w
  · have g1 : ¬ most < 1 := by omega
    have g2 : ¬ 32 < most := by omega
    have hck := rkErr_any s hs
    by_cases h2 : kErr s = 0
    · rw [h2] at hck
      by_cases h3 : most < s.size
      · have hv : fErr s most = 12 := by unfold fErr; rw [if_neg h1, if_neg (by simpa using h2), if_pos h3]
        rw [hv]
        clear h1 h2 hv
        go_enter Try.func35, Try.ntmps35
        go_wp2_with (go_at_call 29; refine (hck _).mono ?_; rintro e w1 ⟨rfl, hb1⟩)
        go_ret
        exact ⟨rfl, hb1⟩
      · have hv : fErr s most = 0 := by unfold fErr; rw [if_neg h1, if_neg (by simpa using h2), if_neg h3]
        rw [hv]
        clear h1 h2 hv
        go_enter Try.func35, Try.ntmps35
        go_wp2_with (go_at_call 29; refine (hck _).mono ?_; rintro e w1 ⟨rfl, hb1⟩)
        go_ret
        exact ⟨rfl, hb1⟩
    · have hv : fErr s most = kErr s := by unfold fErr; rw [if_neg h1, if_pos h2]
      rw [hv]
      generalize kErr s = q at h2 hck
      have n1 : (q == 0) = false := by simpa using h2
      have n2 : (q != 0) = true := by simpa using h2
      clear h1 h2 hv
      go_enter Try.func35, Try.ntmps35
      go_wp2_with (go_at_call 29; refine (hck _).mono ?_; rintro e w1 ⟨rfl, hb1⟩)
      go_ret
      exact ⟨rfl, hb1⟩

theorem rcost_any (a b : ByteArray) (w : World) (ha : a.size ≤ 1000000) (hb : b.size ≤ 1000000) :
    Calls Try.prog 30 #[.string a, .string b] w fun e w' => e = .returned (.int .i64 (16 + a.size + b.size)) ∧ w = w' := by
  have h1 : (a.size : Int) ≤ 1000000 := by omega
  have h2 : (b.size : Int) ≤ 1000000 := by omega
  go_enter Try.func30, Try.ntmps30
  go_wp2
  go_ret
  exact ⟨rfl, rfl⟩
set_option maxHeartbeats 1600000 in
theorem rafter_n0 (cost old : Int) (key val : ByteArray) (hk : key.size ≤ maxLen) (hv : val.size ≤ maxLen) (h1 : cost < 0) (w : World) :
    Calls Try.prog 12 #[.int .i64 cost, .int .i64 old, .string key, .string val] w fun e w' => e = .returned (.tuple #[.int .i64 0, .int .i64 2]) ∧ Below w.heap.size w w' := by
  unfold maxLen at hv
  have hv' : (val.size : Int) ≤ 9223372036854775807 := by omega
  go_enter Try.func12, Try.ntmps12
  go_wp2_with (first | go_in)
  go_ret2
  exact ⟨rfl, Below.refl _ _⟩
set_option maxHeartbeats 1600000 in
theorem rafter_n1 (cost old : Int) (key val : ByteArray) (hk : key.size ≤ maxLen) (hv : val.size ≤ maxLen) (h1 : 0 ≤ cost) (h2 : 262144 < cost) (w : World) :
    Calls Try.prog 12 #[.int .i64 cost, .int .i64 old, .string key, .string val] w fun e w' => e = .returned (.tuple #[.int .i64 0, .int .i64 2]) ∧ Below w.heap.size w w' := by
  unfold maxLen at hv
  have hv' : (val.size : Int) ≤ 9223372036854775807 := by omega
  go_enter Try.func12, Try.ntmps12
  go_wp2_with (first | go_in)
  go_ret2
  exact ⟨rfl, Below.refl _ _⟩
set_option maxHeartbeats 1600000 in
theorem rafter_n2 (cost old : Int) (key val : ByteArray) (hk : key.size ≤ maxLen) (hv : val.size ≤ maxLen) (h1 : 0 ≤ cost) (h2 : cost ≤ 262144) (h3 : old < 0) (w : World) :
    Calls Try.prog 12 #[.int .i64 cost, .int .i64 old, .string key, .string val] w fun e w' => e = .returned (.tuple #[.int .i64 0, .int .i64 2]) ∧ Below w.heap.size w w' := by
  unfold maxLen at hv
  have hv' : (val.size : Int) ≤ 9223372036854775807 := by omega
  go_enter Try.func12, Try.ntmps12
  go_wp2_with (first | go_in)
  go_ret2
  exact ⟨rfl, Below.refl _ _⟩
set_option maxHeartbeats 1600000 in
theorem rafter_n3 (cost old : Int) (key val : ByteArray) (hk : key.size ≤ maxLen) (hv : val.size ≤ maxLen) (h1 : 0 ≤ cost) (h2 : cost ≤ 262144) (h3 : 0 ≤ old) (h4 : cost < old) (w : World) :
    Calls Try.prog 12 #[.int .i64 cost, .int .i64 old, .string key, .string val] w fun e w' => e = .returned (.tuple #[.int .i64 0, .int .i64 2]) ∧ Below w.heap.size w w' := by
  unfold maxLen at hv
  have hv' : (val.size : Int) ≤ 9223372036854775807 := by omega
  go_enter Try.func12, Try.ntmps12
  go_wp2_with (first | go_in)
  go_ret2
  exact ⟨rfl, Below.refl _ _⟩
set_option maxHeartbeats 1600000 in
theorem rafter_k (cost old : Int) (key val : ByteArray) (hk : key.size ≤ maxLen) (hv : val.size ≤ maxLen) (h1 : 0 ≤ cost) (h2 : cost ≤ 262144) (h3 : 0 ≤ old) (h4 : old ≤ cost) (q : Int) (hq : kErr key = q) (hq0 : q ≠ 0) (w : World) :
    Calls Try.prog 12 #[.int .i64 cost, .int .i64 old, .string key, .string val] w fun e w' => e = .returned (.tuple #[.int .i64 0, .int .i64 q]) ∧ Below w.heap.size w w' := by
  unfold maxLen at hv
  have hv' : (val.size : Int) ≤ 9223372036854775807 := by omega
  have hK := rkErr_any key hk
  rw [hq] at hK
  clear hq
  have n1 : (q == 0) = false := by simpa using hq0
  have n2 : (q != 0) = true := by simpa using hq0
  clear hq0
  go_enter Try.func12, Try.ntmps12
  go_wp2_with (first | (go_at_call 29; refine (hK _).mono ?_; rintro e w1 ⟨rfl, hb1⟩) | go_in)
  go_ret2
  exact ⟨rfl, hb1⟩
set_option maxHeartbeats 1600000 in
theorem rafter_v (cost old : Int) (key val : ByteArray) (hk : key.size ≤ maxLen) (hv : val.size ≤ maxLen) (h1 : 0 ≤ cost) (h2 : cost ≤ 262144) (h3 : 0 ≤ old) (h4 : old ≤ cost) (hv1 : 512 < (val.size : Int)) (hq : kErr key = 0) (w : World) :
    Calls Try.prog 12 #[.int .i64 cost, .int .i64 old, .string key, .string val] w fun e w' => e = .returned (.tuple #[.int .i64 0, .int .i64 12]) ∧ Below w.heap.size w w' := by
  unfold maxLen at hv
  have hv' : (val.size : Int) ≤ 9223372036854775807 := by omega
  have hK := rkErr_any key hk
  rw [hq] at hK
  clear hq
  go_enter Try.func12, Try.ntmps12
  go_wp2_with (first | (go_at_call 29; refine (hK _).mono ?_; rintro e w1 ⟨rfl, hb1⟩) | go_in)
  go_ret2
  exact ⟨rfl, hb1⟩
set_option maxHeartbeats 1600000 in
theorem rafter_y (cost old : Int) (key val : ByteArray) (hk : key.size ≤ maxLen) (hv : val.size ≤ maxLen) (h1 : 0 ≤ cost) (h2 : cost ≤ 262144) (h3 : 0 ≤ old) (h4 : old ≤ cost) (hv1 : (val.size : Int) ≤ 512) (hq : kErr key = 0) (w : World) :
    Calls Try.prog 12 #[.int .i64 cost, .int .i64 old, .string key, .string val] w fun e w' => e = .returned (.tuple #[.int .i64 (cost - old + (16 + key.size + val.size)), .int .i64 0]) ∧ Below w.heap.size w w' := by
  unfold maxLen at hv
  have hv' : (val.size : Int) ≤ 9223372036854775807 := by omega
  have hk32 : (key.size : Int) ≤ 32 := by have := (kErr_zero hq).2.2; omega
  have hc := rcost_any key val
  have hK := rkErr_any key hk
  rw [hq] at hK
  clear hq
  go_enter Try.func12, Try.ntmps12
  go_wp2_with (first | (go_at_call 29; refine (hK _).mono ?_; rintro e w1 ⟨rfl, hb1⟩) | (go_at_call 30; refine (hc _ (by omega) (by omega)).mono ?_; rintro e w2 ⟨rfl, rfl⟩) | go_in)
  go_ret2
  exact ⟨rfl, hb1⟩
theorem rAfter_any (cost old : Int) (key val : ByteArray) (w : World) (hk : key.size ≤ maxLen) (hv : val.size ≤ maxLen) :
    Calls Try.prog 12 #[.int .i64 cost, .int .i64 old, .string key, .string val] w fun e w' => e = .returned (.tuple #[.int .i64 (aVal cost old key val), .int .i64 (aErr cost old key val)]) ∧ Below w.heap.size w w' := by
  by_cases hc : 0 ≤ cost ∧ cost ≤ 262144 ∧ 0 ≤ old ∧ old ≤ cost
  · obtain ⟨h1, h2, h3, h4⟩ := hc
    by_cases hq : kErr key = 0
    · by_cases hv1 : 512 < val.size
      · have he : aErr cost old key val = 12 := by unfold aErr; rw [if_neg (by simp [h1, h2, h3, h4]), if_neg (by simpa using hq), if_pos hv1]
        have ha : aVal cost old key val = 0 := by unfold aVal; rw [he]; rfl
        rw [he, ha]
        exact rafter_v cost old key val hk hv h1 h2 h3 h4 (by omega) hq w
      · have he : aErr cost old key val = 0 := by unfold aErr; rw [if_neg (by simp [h1, h2, h3, h4]), if_neg (by simpa using hq), if_neg hv1]
        have ha : aVal cost old key val = cost - old + (16 + key.size + val.size) := by unfold aVal; rw [if_pos he]
        rw [he, ha]
        exact rafter_y cost old key val hk hv h1 h2 h3 h4 (by omega) hq w
    · have he : aErr cost old key val = kErr key := by unfold aErr; rw [if_neg (by simp [h1, h2, h3, h4]), if_pos hq]
      have ha : aVal cost old key val = 0 := by unfold aVal; rw [if_neg (by rw [he]; exact hq)]
      rw [he, ha]
      exact rafter_k cost old key val hk hv h1 h2 h3 h4 _ rfl hq w
  · have he : aErr cost old key val = 2 := by unfold aErr; rw [if_pos hc]
    have ha : aVal cost old key val = 0 := by unfold aVal; rw [he]; rfl
    rw [he, ha]
    by_cases h1 : 0 ≤ cost
    · by_cases h2 : cost ≤ 262144
      · by_cases h3 : 0 ≤ old
        · exact rafter_n3 cost old key val hk hv h1 h2 h3 (by omega) w
        · exact rafter_n2 cost old key val hk hv h1 h2 (by omega) w
      · exact rafter_n1 cost old key val hk hv h1 (by omega) w
    · exact rafter_n0 cost old key val hk hv (by omega) w
set_option maxHeartbeats 1600000 in
theorem rchk_1 (s z r wk k v p : Int) (key val : ByteArray) (hk : key.size ≤ maxLen) (hv : val.size ≤ maxLen) (hc : ¬CfgOk s z r wk k v p) (w : World) :
    Calls Try.prog 14 #[.agg #[.int .i64 s, .int .i64 z, .int .i64 r, .int .i64 wk, .int .i64 k, .int .i64 v, .int .i64 p], .string key, .string val] w fun e w' => e = .returned (.int .i64 2) ∧ Below w.heap.size w w' := by
  unfold maxLen at hv
  have hv' : (val.size : Int) ≤ 9223372036854775807 := by omega
  go_enter Try.func14, Try.ntmps14
  go_wp2_with (first | (go_at_call 34; refine (rcheck_no s z r wk k v p _ hc).mono ?_; rintro e w1 ⟨rfl, hb1⟩; have B1 := ((Blk.new w 23 #[.int .i64 s, .int .i64 z, .int .i64 r, .int .i64 wk, .int .i64 k, .int .i64 v, .int .i64 p]).below hb1 (by simp)).cell) | go_in)
  go_ret
  exact ⟨rfl, b_then (by repeat first | exact Below.refl _ _ | apply Below.drew | apply b_alloc) hb1⟩
set_option maxHeartbeats 1600000 in
theorem rchk_2 (s z r wk k v p : Int) (key val : ByteArray) (hk : key.size ≤ maxLen) (hv : val.size ≤ maxLen) (hc : CfgOk s z r wk k v p) (q : Int) (hq : fErr key k = q) (hq0 : q ≠ 0) (w : World) :
    Calls Try.prog 14 #[.agg #[.int .i64 s, .int .i64 z, .int .i64 r, .int .i64 wk, .int .i64 k, .int .i64 v, .int .i64 p], .string key, .string val] w fun e w' => e = .returned (.int .i64 q) ∧ Below w.heap.size w w' := by
  unfold maxLen at hv
  have hv' : (val.size : Int) ≤ 9223372036854775807 := by omega
  have hF := rfits_any key k hk
  rw [hq] at hF
  clear hq
  have n1 : (q == 0) = false := by simpa using hq0
  have n2 : (q != 0) = true := by simpa using hq0
  clear hq0
  go_enter Try.func14, Try.ntmps14
  go_wp2_with (first | (go_at_call 34; refine (rcheck_yes s z r wk k v p _ hc).mono ?_; rintro e w1 ⟨rfl, hb1⟩; have B1 := ((Blk.new w 23 #[.int .i64 s, .int .i64 z, .int .i64 r, .int .i64 wk, .int .i64 k, .int .i64 v, .int .i64 p]).below hb1 (by simp)).cell) | (go_at_call 35; refine (hF _).mono ?_; rintro e w2 ⟨rfl, hb2⟩; have B2 := (((Blk.new w 23 #[.int .i64 s, .int .i64 z, .int .i64 r, .int .i64 wk, .int .i64 k, .int .i64 v, .int .i64 p]).below hb1 (by simp)).below hb2 (Nat.lt_of_lt_of_le (by simp) hb1.size)).cell) | go_in)
  go_ret
  exact ⟨rfl, b_then (b_then (by repeat first | exact Below.refl _ _ | apply Below.drew | apply b_alloc) hb1) hb2⟩
set_option maxHeartbeats 1600000 in
theorem rchk_3 (s z r wk k v p : Int) (key val : ByteArray) (hk : key.size ≤ maxLen) (hv : val.size ≤ maxLen) (hc : CfgOk s z r wk k v p) (hv1 : v < val.size) (hq : fErr key k = 0) (w : World) :
    Calls Try.prog 14 #[.agg #[.int .i64 s, .int .i64 z, .int .i64 r, .int .i64 wk, .int .i64 k, .int .i64 v, .int .i64 p], .string key, .string val] w fun e w' => e = .returned (.int .i64 12) ∧ Below w.heap.size w w' := by
  unfold maxLen at hv
  have hv' : (val.size : Int) ≤ 9223372036854775807 := by omega
  have hF := rfits_any key k hk
  rw [hq] at hF
  clear hq
  go_enter Try.func14, Try.ntmps14
  go_wp2_with (first | (go_at_call 34; refine (rcheck_yes s z r wk k v p _ hc).mono ?_; rintro e w1 ⟨rfl, hb1⟩; have B1 := ((Blk.new w 23 #[.int .i64 s, .int .i64 z, .int .i64 r, .int .i64 wk, .int .i64 k, .int .i64 v, .int .i64 p]).below hb1 (by simp)).cell) | (go_at_call 35; refine (hF _).mono ?_; rintro e w2 ⟨rfl, hb2⟩; have B2 := (((Blk.new w 23 #[.int .i64 s, .int .i64 z, .int .i64 r, .int .i64 wk, .int .i64 k, .int .i64 v, .int .i64 p]).below hb1 (by simp)).below hb2 (Nat.lt_of_lt_of_le (by simp) hb1.size)).cell) | go_in)
  go_ret
  exact ⟨rfl, b_then (b_then (by repeat first | exact Below.refl _ _ | apply Below.drew | apply b_alloc) hb1) hb2⟩
set_option maxHeartbeats 1600000 in
theorem rchk_4 (s z r wk k v p : Int) (key val : ByteArray) (hk : key.size ≤ maxLen) (hv : val.size ≤ maxLen) (hc : CfgOk s z r wk k v p) (hv1 : (val.size : Int) ≤ v) (hq : fErr key k = 0) (w : World) :
    Calls Try.prog 14 #[.agg #[.int .i64 s, .int .i64 z, .int .i64 r, .int .i64 wk, .int .i64 k, .int .i64 v, .int .i64 p], .string key, .string val] w fun e w' => e = .returned (.int .i64 0) ∧ Below w.heap.size w w' := by
  unfold maxLen at hv
  have hv' : (val.size : Int) ≤ 9223372036854775807 := by omega
  have hF := rfits_any key k hk
  rw [hq] at hF
  clear hq
  go_enter Try.func14, Try.ntmps14
  go_wp2_with (first | (go_at_call 34; refine (rcheck_yes s z r wk k v p _ hc).mono ?_; rintro e w1 ⟨rfl, hb1⟩; have B1 := ((Blk.new w 23 #[.int .i64 s, .int .i64 z, .int .i64 r, .int .i64 wk, .int .i64 k, .int .i64 v, .int .i64 p]).below hb1 (by simp)).cell) | (go_at_call 35; refine (hF _).mono ?_; rintro e w2 ⟨rfl, hb2⟩; have B2 := (((Blk.new w 23 #[.int .i64 s, .int .i64 z, .int .i64 r, .int .i64 wk, .int .i64 k, .int .i64 v, .int .i64 p]).below hb1 (by simp)).below hb2 (Nat.lt_of_lt_of_le (by simp) hb1.size)).cell) | go_in)
  go_ret
  exact ⟨rfl, b_then (b_then (by repeat first | exact Below.refl _ _ | apply Below.drew | apply b_alloc) hb1) hb2⟩
theorem rCheck_any (s z r wk k v p : Int) (key val : ByteArray) (w : World) (hk : key.size ≤ maxLen) (hv : val.size ≤ maxLen) :
    Calls Try.prog 14 #[.agg #[.int .i64 s, .int .i64 z, .int .i64 r, .int .i64 wk, .int .i64 k, .int .i64 v, .int .i64 p], .string key, .string val] w fun e w' => e = .returned (.int .i64 (aChk s z r wk k v p key val)) ∧ Below w.heap.size w w' := by
  by_cases h1 : CfgOk s z r wk k v p
  · by_cases h2 : fErr key k = 0
    · by_cases h3 : v < val.size
      · have hr : aChk s z r wk k v p key val = 12 := by unfold aChk; rw [if_neg (by simpa using h1), if_neg (by simpa using h2), if_pos h3]
        rw [hr]
        exact rchk_3 s z r wk k v p key val hk hv h1 h3 h2 w
      · have hr : aChk s z r wk k v p key val = 0 := by unfold aChk; rw [if_neg (by simpa using h1), if_neg (by simpa using h2), if_neg h3]
        rw [hr]
        exact rchk_4 s z r wk k v p key val hk hv h1 (by omega) h2 w
    · have hr : aChk s z r wk k v p key val = fErr key k := by unfold aChk; rw [if_neg (by simpa using h1), if_pos h2]
      rw [hr]
      exact rchk_2 s z r wk k v p key val hk hv h1 _ rfl h2 w
  · have hr : aChk s z r wk k v p key val = 2 := by unfold aChk; rw [if_pos h1]
    rw [hr]
    exact rchk_1 s z r wk k v p key val hk hv h1 w
set_option maxHeartbeats 1600000 in
theorem rLimit_no (s z r wk k v p : Int) (hc : ¬CfgOk s z r wk k v p) (w : World) :
    Calls Try.prog 36 #[.agg #[.int .i64 s, .int .i64 z, .int .i64 r, .int .i64 wk, .int .i64 k, .int .i64 v, .int .i64 p]] w fun e w' => e = .returned (.tuple #[.int .i64 0, .int .i64 2]) ∧ Below w.heap.size w w' := by
  go_enter Try.func36, Try.ntmps36
  go_wp2_with (first | (go_at_call 34; refine (rcheck_no s z r wk k v p _ hc).mono ?_; rintro e w1 ⟨rfl, hb1⟩; have B1 := ((Blk.new w 23 #[.int .i64 s, .int .i64 z, .int .i64 r, .int .i64 wk, .int .i64 k, .int .i64 v, .int .i64 p]).below hb1 (by simp)).cell) | go_in)
  go_ret2
  exact ⟨rfl, b_then (by repeat first | exact Below.refl _ _ | apply Below.drew | apply b_alloc) hb1⟩
set_option maxHeartbeats 1600000 in
theorem rLimit_yes (s z r wk k v p : Int) (hc : CfgOk s z r wk k v p) (w : World) :
    Calls Try.prog 36 #[.agg #[.int .i64 s, .int .i64 z, .int .i64 r, .int .i64 wk, .int .i64 k, .int .i64 v, .int .i64 p]] w fun e w' => e = .returned (.tuple #[.int .i64 (climit s z r), .int .i64 0]) ∧ Below w.heap.size w w' := by
  have hb := climit_bd hc
  obtain ⟨x1, x2, x3, x4, x5, x6, x7, x8, x9, x10, _⟩ := id hc
  have u1 : wrap64 ((s - r - 2) * (z - 16)) = (s - r - 2) * (z - 16) := w64 (by omega) (by omega)
  have u3 : IntKind.i64.wrap ((s - r - 2) * (z - 16)) = (s - r - 2) * (z - 16) := iw64 (by omega) (by omega)
  have u5 : ((s - r - 2) * (z - 16)).tdiv 2 = (s - r - 2) * (z - 16) / 2 := Int.tdiv_eq_ediv_of_nonneg hb.1
  have u6 : IntKind.i64.wrap ((s - r - 2) * (z - 16) / 2) = (s - r - 2) * (z - 16) / 2 := iw64 (by omega) (by omega)
  clear hb
  go_enter Try.func36, Try.ntmps36
  go_wp2_with (first | (go_at_call 34; refine (rcheck_yes s z r wk k v p _ hc).mono ?_; rintro e w1 ⟨rfl, hb1⟩; have B1 := ((Blk.new w 23 #[.int .i64 s, .int .i64 z, .int .i64 r, .int .i64 wk, .int .i64 k, .int .i64 v, .int .i64 p]).below hb1 (by simp)).cell) | go_in)
  go_ret2
  exact ⟨rfl, b_then (by repeat first | exact Below.refl _ _ | apply Below.drew | apply b_alloc) hb1⟩
theorem rLim_any (s z r wk k v p : Int) (w : World) :
    Calls Try.prog 36 #[.agg #[.int .i64 s, .int .i64 z, .int .i64 r, .int .i64 wk, .int .i64 k, .int .i64 v, .int .i64 p]] w fun e w' => (∃ L e0, e = .returned (.tuple #[.int .i64 L, .int .i64 e0]) ∧ (CfgOk s z r wk k v p → L = climit s z r)) ∧ Below w.heap.size w w' := by
  by_cases h : CfgOk s z r wk k v p
  · exact (rLimit_yes s z r wk k v p h w).mono fun e w' ⟨he, hb⟩ => ⟨⟨_, _, he, fun _ => rfl⟩, hb⟩
  · exact (rLimit_no s z r wk k v p h w).mono fun e w' ⟨he, hb⟩ => ⟨⟨_, _, he, fun hc => absurd hc h⟩, hb⟩
set_option maxHeartbeats 1600000 in
theorem rLeft_bad (s z r wk k v p cost : Int) (h : ¬CfgOk s z r wk k v p) (w : World) :
    Calls Try.prog 16 #[.agg #[.int .i64 s, .int .i64 z, .int .i64 r, .int .i64 wk, .int .i64 k, .int .i64 v, .int .i64 p], .int .i64 cost] w fun e w' => e = .returned (.tuple #[.int .i64 0, .int .i64 2]) ∧ Below w.heap.size w w' := by
  have hL := rLimit_no s z r wk k v p h
  go_enter Try.func16, Try.ntmps16
  go_wp2_with (first | (go_at_call 36; refine (hL _).mono ?_; rintro e w1 ⟨rfl, hb1⟩) | go_in)
  go_ret2
  exact ⟨rfl, b_then (by repeat first | exact Below.refl _ _ | apply Below.drew | apply b_alloc) hb1⟩
set_option maxHeartbeats 1600000 in
theorem rLeft_n0 (s z r wk k v p cost : Int) (h : CfgOk s z r wk k v p) (h1 : cost < 0) (w : World) :
    Calls Try.prog 16 #[.agg #[.int .i64 s, .int .i64 z, .int .i64 r, .int .i64 wk, .int .i64 k, .int .i64 v, .int .i64 p], .int .i64 cost] w fun e w' => e = .returned (.tuple #[.int .i64 0, .int .i64 2]) ∧ Below w.heap.size w w' := by
  obtain ⟨b1, b2⟩ := climit_bds h
  have hL := rLimit_yes s z r wk k v p h
  generalize climit s z r = L at  b1 b2 hL
  go_enter Try.func16, Try.ntmps16
  go_wp2_with (first | (go_at_call 36; refine (hL _).mono ?_; rintro e w1 ⟨rfl, hb1⟩) | go_in)
  go_ret2
  exact ⟨rfl, b_then (by repeat first | exact Below.refl _ _ | apply Below.drew | apply b_alloc) hb1⟩
set_option maxHeartbeats 1600000 in
theorem rLeft_n1 (s z r wk k v p cost : Int) (h : CfgOk s z r wk k v p) (h1 : 0 ≤ cost) (h2 : climit s z r < cost) (w : World) :
    Calls Try.prog 16 #[.agg #[.int .i64 s, .int .i64 z, .int .i64 r, .int .i64 wk, .int .i64 k, .int .i64 v, .int .i64 p], .int .i64 cost] w fun e w' => e = .returned (.tuple #[.int .i64 0, .int .i64 2]) ∧ Below w.heap.size w w' := by
  obtain ⟨b1, b2⟩ := climit_bds h
  have hL := rLimit_yes s z r wk k v p h
  generalize climit s z r = L at h2 b1 b2 hL
  go_enter Try.func16, Try.ntmps16
  go_wp2_with (first | (go_at_call 36; refine (hL _).mono ?_; rintro e w1 ⟨rfl, hb1⟩) | go_in)
  go_ret2
  exact ⟨rfl, b_then (by repeat first | exact Below.refl _ _ | apply Below.drew | apply b_alloc) hb1⟩
set_option maxHeartbeats 1600000 in
theorem rLeft_yes (s z r wk k v p cost : Int) (h : CfgOk s z r wk k v p) (h1 : 0 ≤ cost) (h2 : cost ≤ climit s z r) (w : World) :
    Calls Try.prog 16 #[.agg #[.int .i64 s, .int .i64 z, .int .i64 r, .int .i64 wk, .int .i64 k, .int .i64 v, .int .i64 p], .int .i64 cost] w fun e w' => e = .returned (.tuple #[.int .i64 (climit s z r - cost), .int .i64 0]) ∧ Below w.heap.size w w' := by
  obtain ⟨b1, b2⟩ := climit_bds h
  have hL := rLimit_yes s z r wk k v p h
  generalize climit s z r = L at h2 b1 b2 hL
  go_enter Try.func16, Try.ntmps16
  go_wp2_with (first | (go_at_call 36; refine (hL _).mono ?_; rintro e w1 ⟨rfl, hb1⟩) | go_in)
  go_ret2
  exact ⟨rfl, b_then (by repeat first | exact Below.refl _ _ | apply Below.drew | apply b_alloc) hb1⟩
/-- what is left, and its error -/
noncomputable def lVal (s z r wk k v p cost : Int) : Int := open Classical in if CfgOk s z r wk k v p ∧ 0 ≤ cost ∧ cost ≤ climit s z r then climit s z r - cost else 0
noncomputable def lErr (s z r wk k v p cost : Int) : Int := open Classical in if CfgOk s z r wk k v p ∧ 0 ≤ cost ∧ cost ≤ climit s z r then 0 else 2
theorem Left_any (s z r wk k v p cost : Int) (w : World) :
    Calls Try.prog 15 #[.agg #[.int .i64 s, .int .i64 z, .int .i64 r, .int .i64 wk, .int .i64 k, .int .i64 v, .int .i64 p], .int .i64 cost] w fun e w' => e = .returned (.tuple #[.int .i64 (lVal s z r wk k v p cost), .int .i64 (lErr s z r wk k v p cost)]) ∧ Below w.heap.size w w' := by
  by_cases h : CfgOk s z r wk k v p ∧ 0 ≤ cost ∧ cost ≤ climit s z r
  · unfold lVal lErr; rw [if_pos h, if_pos h]; exact Left_yes s z r wk k v p cost w h.1 h.2.1 h.2.2
  · unfold lVal lErr; rw [if_neg h, if_neg h]
    by_cases hc : CfgOk s z r wk k v p
    · exact Left_no s z r wk k v p cost w hc (fun hx => h ⟨hc, hx⟩)
    · exact Left_bad s z r wk k v p cost w hc
theorem rLeft_any (s z r wk k v p cost : Int) (w : World) :
    Calls Try.prog 16 #[.agg #[.int .i64 s, .int .i64 z, .int .i64 r, .int .i64 wk, .int .i64 k, .int .i64 v, .int .i64 p], .int .i64 cost] w fun e w' => e = .returned (.tuple #[.int .i64 (lVal s z r wk k v p cost), .int .i64 (lErr s z r wk k v p cost)]) ∧ Below w.heap.size w w' := by
  by_cases h : CfgOk s z r wk k v p ∧ 0 ≤ cost ∧ cost ≤ climit s z r
  · unfold lVal lErr; rw [if_pos h, if_pos h]; exact rLeft_yes s z r wk k v p cost h.1 h.2.1 h.2.2 w
  · unfold lVal lErr; rw [if_neg h, if_neg h]
    by_cases hc : CfgOk s z r wk k v p
    · by_cases h0 : cost < 0
      · exact rLeft_n0 s z r wk k v p cost hc h0 w
      · exact rLeft_n1 s z r wk k v p cost hc (by omega) (Int.not_le.1 fun hx => h ⟨hc, by omega, hx⟩) w
    · exact rLeft_bad s z r wk k v p cost hc w
set_option maxHeartbeats 1600000 in
theorem rput_E (s z r wk k v p cost old : Int) (key val : ByteArray) (hk : key.size ≤ maxLen) (hv : val.size ≤ maxLen) (q : Int) (hq : aChk s z r wk k v p key val = q) (hq0 : q ≠ 0) (w : World) :
    Calls Try.prog 18 #[.agg #[.int .i64 s, .int .i64 z, .int .i64 r, .int .i64 wk, .int .i64 k, .int .i64 v, .int .i64 p], .int .i64 cost, .int .i64 old, .string key, .string val] w fun e w' => e = .returned (.int .i64 q) ∧ Below w.heap.size w w' := by
  have hC := fun w' => rCheck_any s z r wk k v p key val w' hk hv
  rw [hq] at hC
  clear hq
  have n1 : (q == 0) = false := by simpa using hq0
  have n2 : (q != 0) = true := by simpa using hq0
  clear hq0
  go_enter Try.func18, Try.ntmps18
  go_wp2_with (first | (go_at_call 14; refine (hC _).mono ?_; rintro e w1 ⟨rfl, hb1⟩; have B1 := ((Blk.new w 23 #[.int .i64 s, .int .i64 z, .int .i64 r, .int .i64 wk, .int .i64 k, .int .i64 v, .int .i64 p]).below hb1 (by simp)).cell) | go_in)
  go_ret
  exact ⟨rfl, b_then (by repeat first | exact Below.refl _ _ | apply Below.drew | apply b_alloc) hb1⟩
set_option maxHeartbeats 1600000 in
theorem rput_n0 (s z r wk k v p cost old : Int) (key val : ByteArray) (hk : key.size ≤ maxLen) (hv : val.size ≤ maxLen) (hc : CfgOk s z r wk k v p) (hq : aChk s z r wk k v p key val = 0) (h1 : cost < 0) (w : World) :
    Calls Try.prog 18 #[.agg #[.int .i64 s, .int .i64 z, .int .i64 r, .int .i64 wk, .int .i64 k, .int .i64 v, .int .i64 p], .int .i64 cost, .int .i64 old, .string key, .string val] w fun e w' => e = .returned (.int .i64 2) ∧ Below w.heap.size w w' := by
  have hC := fun w' => rCheck_any s z r wk k v p key val w' hk hv
  rw [hq] at hC
  clear hq
  have hL := rLimit_yes s z r wk k v p hc
  obtain ⟨b1, b2⟩ := climit_bds hc
  generalize climit s z r = L at  b1 b2 hL
  go_enter Try.func18, Try.ntmps18
  go_wp2_with (first | (go_at_call 14; refine (hC _).mono ?_; rintro e w1 ⟨rfl, hb1⟩; have B1 := ((Blk.new w 23 #[.int .i64 s, .int .i64 z, .int .i64 r, .int .i64 wk, .int .i64 k, .int .i64 v, .int .i64 p]).below hb1 (by simp)).cell) | (go_at_call 36; refine (hL _).mono ?_; rintro e w2 ⟨rfl, hb2⟩) | go_in)
  go_ret
  exact ⟨rfl, b_then (b_then (by repeat first | exact Below.refl _ _ | apply Below.drew | apply b_alloc) hb1) hb2⟩
set_option maxHeartbeats 1600000 in
theorem rput_n1 (s z r wk k v p cost old : Int) (key val : ByteArray) (hk : key.size ≤ maxLen) (hv : val.size ≤ maxLen) (hc : CfgOk s z r wk k v p) (hq : aChk s z r wk k v p key val = 0) (h1 : 0 ≤ cost) (h2 : climit s z r < cost) (w : World) :
    Calls Try.prog 18 #[.agg #[.int .i64 s, .int .i64 z, .int .i64 r, .int .i64 wk, .int .i64 k, .int .i64 v, .int .i64 p], .int .i64 cost, .int .i64 old, .string key, .string val] w fun e w' => e = .returned (.int .i64 2) ∧ Below w.heap.size w w' := by
  have hC := fun w' => rCheck_any s z r wk k v p key val w' hk hv
  rw [hq] at hC
  clear hq
  have hL := rLimit_yes s z r wk k v p hc
  obtain ⟨b1, b2⟩ := climit_bds hc
  generalize climit s z r = L at h2 b1 b2 hL
  go_enter Try.func18, Try.ntmps18
  go_wp2_with (first | (go_at_call 14; refine (hC _).mono ?_; rintro e w1 ⟨rfl, hb1⟩; have B1 := ((Blk.new w 23 #[.int .i64 s, .int .i64 z, .int .i64 r, .int .i64 wk, .int .i64 k, .int .i64 v, .int .i64 p]).below hb1 (by simp)).cell) | (go_at_call 36; refine (hL _).mono ?_; rintro e w2 ⟨rfl, hb2⟩) | go_in)
  go_ret
  exact ⟨rfl, b_then (b_then (by repeat first | exact Below.refl _ _ | apply Below.drew | apply b_alloc) hb1) hb2⟩
set_option maxHeartbeats 1600000 in
theorem rput_n2 (s z r wk k v p cost old : Int) (key val : ByteArray) (hk : key.size ≤ maxLen) (hv : val.size ≤ maxLen) (hc : CfgOk s z r wk k v p) (hq : aChk s z r wk k v p key val = 0) (h1 : 0 ≤ cost) (h2 : cost ≤ climit s z r) (h3 : old < 0) (w : World) :
    Calls Try.prog 18 #[.agg #[.int .i64 s, .int .i64 z, .int .i64 r, .int .i64 wk, .int .i64 k, .int .i64 v, .int .i64 p], .int .i64 cost, .int .i64 old, .string key, .string val] w fun e w' => e = .returned (.int .i64 2) ∧ Below w.heap.size w w' := by
  have hC := fun w' => rCheck_any s z r wk k v p key val w' hk hv
  rw [hq] at hC
  clear hq
  have hL := rLimit_yes s z r wk k v p hc
  obtain ⟨b1, b2⟩ := climit_bds hc
  generalize climit s z r = L at h2 b1 b2 hL
  go_enter Try.func18, Try.ntmps18
  go_wp2_with (first | (go_at_call 14; refine (hC _).mono ?_; rintro e w1 ⟨rfl, hb1⟩; have B1 := ((Blk.new w 23 #[.int .i64 s, .int .i64 z, .int .i64 r, .int .i64 wk, .int .i64 k, .int .i64 v, .int .i64 p]).below hb1 (by simp)).cell) | (go_at_call 36; refine (hL _).mono ?_; rintro e w2 ⟨rfl, hb2⟩) | go_in)
  go_ret
  exact ⟨rfl, b_then (b_then (by repeat first | exact Below.refl _ _ | apply Below.drew | apply b_alloc) hb1) hb2⟩
set_option maxHeartbeats 1600000 in
theorem rput_n3 (s z r wk k v p cost old : Int) (key val : ByteArray) (hk : key.size ≤ maxLen) (hv : val.size ≤ maxLen) (hc : CfgOk s z r wk k v p) (hq : aChk s z r wk k v p key val = 0) (h1 : 0 ≤ cost) (h2 : cost ≤ climit s z r) (h3 : 0 ≤ old) (h4 : cost < old) (w : World) :
    Calls Try.prog 18 #[.agg #[.int .i64 s, .int .i64 z, .int .i64 r, .int .i64 wk, .int .i64 k, .int .i64 v, .int .i64 p], .int .i64 cost, .int .i64 old, .string key, .string val] w fun e w' => e = .returned (.int .i64 2) ∧ Below w.heap.size w w' := by
  have hC := fun w' => rCheck_any s z r wk k v p key val w' hk hv
  rw [hq] at hC
  clear hq
  have hL := rLimit_yes s z r wk k v p hc
  obtain ⟨b1, b2⟩ := climit_bds hc
  generalize climit s z r = L at h2 b1 b2 hL
  go_enter Try.func18, Try.ntmps18
  go_wp2_with (first | (go_at_call 14; refine (hC _).mono ?_; rintro e w1 ⟨rfl, hb1⟩; have B1 := ((Blk.new w 23 #[.int .i64 s, .int .i64 z, .int .i64 r, .int .i64 wk, .int .i64 k, .int .i64 v, .int .i64 p]).below hb1 (by simp)).cell) | (go_at_call 36; refine (hL _).mono ?_; rintro e w2 ⟨rfl, hb2⟩) | go_in)
  go_ret
  exact ⟨rfl, b_then (b_then (by repeat first | exact Below.refl _ _ | apply Below.drew | apply b_alloc) hb1) hb2⟩
set_option maxHeartbeats 1600000 in
theorem rput_F (s z r wk k v p cost old : Int) (key val : ByteArray) (hk : key.size ≤ maxLen) (hv : val.size ≤ maxLen) (hc : CfgOk s z r wk k v p) (hq : aChk s z r wk k v p key val = 0) (h1 : 0 ≤ cost) (h2 : cost ≤ climit s z r) (h3 : 0 ≤ old) (h4 : old ≤ cost) (hks : key.size ≤ 32) (hvs : val.size ≤ 512) (h5 : climit s z r < cost - old + (16 + key.size + val.size)) (w : World) :
    Calls Try.prog 18 #[.agg #[.int .i64 s, .int .i64 z, .int .i64 r, .int .i64 wk, .int .i64 k, .int .i64 v, .int .i64 p], .int .i64 cost, .int .i64 old, .string key, .string val] w fun e w' => e = .returned (.int .i64 4) ∧ Below w.heap.size w w' := by
  have hC := fun w' => rCheck_any s z r wk k v p key val w' hk hv
  rw [hq] at hC
  clear hq
  have hL := rLimit_yes s z r wk k v p hc
  obtain ⟨b1, b2⟩ := climit_bds hc
  have hco := rcost_any key val
  have i1 : (key.size : Int) ≤ 32 := by omega
  have i2 : (val.size : Int) ≤ 512 := by omega
  generalize climit s z r = L at h2 h5 b1 b2 hL
  go_enter Try.func18, Try.ntmps18
  go_wp2_with (first | (go_at_call 14; refine (hC _).mono ?_; rintro e w1 ⟨rfl, hb1⟩; have B1 := ((Blk.new w 23 #[.int .i64 s, .int .i64 z, .int .i64 r, .int .i64 wk, .int .i64 k, .int .i64 v, .int .i64 p]).below hb1 (by simp)).cell) | (go_at_call 36; refine (hL _).mono ?_; rintro e w2 ⟨rfl, hb2⟩) | (go_at_call 30; refine (hco _ (by omega) (by omega)).mono ?_; rintro e w3 ⟨rfl, rfl⟩) | go_in)
  go_ret
  exact ⟨rfl, b_then (b_then (by repeat first | exact Below.refl _ _ | apply Below.drew | apply b_alloc) hb1) hb2⟩
set_option maxHeartbeats 1600000 in
theorem rput_Y (s z r wk k v p cost old : Int) (key val : ByteArray) (hk : key.size ≤ maxLen) (hv : val.size ≤ maxLen) (hc : CfgOk s z r wk k v p) (hq : aChk s z r wk k v p key val = 0) (h1 : 0 ≤ cost) (h2 : cost ≤ climit s z r) (h3 : 0 ≤ old) (h4 : old ≤ cost) (hks : key.size ≤ 32) (hvs : val.size ≤ 512) (h5 : cost - old + (16 + key.size + val.size) ≤ climit s z r) (w : World) :
    Calls Try.prog 18 #[.agg #[.int .i64 s, .int .i64 z, .int .i64 r, .int .i64 wk, .int .i64 k, .int .i64 v, .int .i64 p], .int .i64 cost, .int .i64 old, .string key, .string val] w fun e w' => e = .returned (.int .i64 0) ∧ Below w.heap.size w w' := by
  have hC := fun w' => rCheck_any s z r wk k v p key val w' hk hv
  rw [hq] at hC
  clear hq
  have hL := rLimit_yes s z r wk k v p hc
  obtain ⟨b1, b2⟩ := climit_bds hc
  have hco := rcost_any key val
  have i1 : (key.size : Int) ≤ 32 := by omega
  have i2 : (val.size : Int) ≤ 512 := by omega
  generalize climit s z r = L at h2 h5 b1 b2 hL
  go_enter Try.func18, Try.ntmps18
  go_wp2_with (first | (go_at_call 14; refine (hC _).mono ?_; rintro e w1 ⟨rfl, hb1⟩; have B1 := ((Blk.new w 23 #[.int .i64 s, .int .i64 z, .int .i64 r, .int .i64 wk, .int .i64 k, .int .i64 v, .int .i64 p]).below hb1 (by simp)).cell) | (go_at_call 36; refine (hL _).mono ?_; rintro e w2 ⟨rfl, hb2⟩) | (go_at_call 30; refine (hco _ (by omega) (by omega)).mono ?_; rintro e w3 ⟨rfl, rfl⟩) | go_in)
  go_ret
  exact ⟨rfl, b_then (b_then (by repeat first | exact Below.refl _ _ | apply Below.drew | apply b_alloc) hb1) hb2⟩
theorem rPut_any (s z r wk k v p cost old : Int) (key val : ByteArray) (w : World) (hk : key.size ≤ maxLen) (hv : val.size ≤ maxLen) :
    Calls Try.prog 18 #[.agg #[.int .i64 s, .int .i64 z, .int .i64 r, .int .i64 wk, .int .i64 k, .int .i64 v, .int .i64 p], .int .i64 cost, .int .i64 old, .string key, .string val] w fun e w' => e = .returned (.int .i64 (aPut s z r wk k v p cost old key val)) ∧ Below w.heap.size w w' := by
  by_cases h1 : aChk s z r wk k v p key val = 0
  · obtain ⟨hc, hf, hvv⟩ := aChk_zero h1
    by_cases h2 : 0 ≤ cost ∧ cost ≤ climit s z r ∧ 0 ≤ old ∧ old ≤ cost
    · have hE : aErr cost old key val = 0 := by
        have hb := climit_bds hc
        have hv5 : v ≤ 512 := by unfold CfgOk at hc; omega
        unfold aErr
        rw [if_neg (by omega), if_neg (by simpa using (fErr_zero hf).2.2.1), if_neg (by omega)]
      by_cases h3 : climit s z r < cost - old + (16 + key.size + val.size)
      · have hr : aPut s z r wk k v p cost old key val = 4 := by unfold aPut; rw [if_neg (by simpa using h1), if_neg (by simpa using h2), if_pos h3]
        rw [hr]
        exact rput_F s z r wk k v p cost old key val hk hv hc h1 h2.1 h2.2.1 h2.2.2.1 h2.2.2.2 (kErr_zero (fErr_zero hf).2.2.1).2.2 (by unfold CfgOk at hc; omega) h3 w
      · have hr : aPut s z r wk k v p cost old key val = 0 := by unfold aPut; rw [if_neg (by simpa using h1), if_neg (by simpa using h2), if_neg h3]
        rw [hr]
        exact rput_Y s z r wk k v p cost old key val hk hv hc h1 h2.1 h2.2.1 h2.2.2.1 h2.2.2.2 (kErr_zero (fErr_zero hf).2.2.1).2.2 (by unfold CfgOk at hc; omega) (by omega) w
    · have hr : aPut s z r wk k v p cost old key val = 2 := by unfold aPut; rw [if_neg (by simpa using h1), if_pos h2]
      rw [hr]
      by_cases g1 : 0 ≤ cost
      · by_cases g2 : cost ≤ climit s z r
        · by_cases g3 : 0 ≤ old
          · exact rput_n3 s z r wk k v p cost old key val hk hv hc h1 g1 g2 g3 (by omega) w
          · exact rput_n2 s z r wk k v p cost old key val hk hv hc h1 g1 g2 (by omega) w
        · exact rput_n1 s z r wk k v p cost old key val hk hv hc h1 g1 (by omega) w
      · exact rput_n0 s z r wk k v p cost old key val hk hv hc h1 (by omega) w
  · have hr : aPut s z r wk k v p cost old key val = aChk s z r wk k v p key val := by unfold aPut; rw [if_pos h1]
    rw [hr]
    exact rput_E s z r wk k v p cost old key val hk hv _ rfl h1 w
end Go.Proofs.Ytkicciinneffcaa
