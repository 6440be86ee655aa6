/-
  The reference's check of a header.
-/
import Derived.Test.YtiobnhdcapfhgaaChk
namespace Go.Proofs.Ytiobnhdcapfhgaa
open Go.RowKit
set_option linter.unusedVariables false

theorem rc_seq0 (sum kind key val seq : Int) (w : World) (h : seq < 0) :
    Calls Try.prog 50 #[.agg #[.int .u32 sum, .int .i64 kind, .int .i64 key, .int .i64 val, .int .i64 seq]] w fun e w' => e = .returned (.int .i64 2) ∧ Below w.heap.size w w' := by
  go_enter Try.func50, Try.ntmps50
  go_wp2
  go_ret
  exact ⟨rfl, b_alloc (Below.refl _ _) _⟩
theorem rc_seq1 (sum kind key val seq : Int) (w : World) (h0 : 0 ≤ seq) (h : 1099511627776 < seq) :
    Calls Try.prog 50 #[.agg #[.int .u32 sum, .int .i64 kind, .int .i64 key, .int .i64 val, .int .i64 seq]] w fun e w' => e = .returned (.int .i64 2) ∧ Below w.heap.size w w' := by
  go_enter Try.func50, Try.ntmps50
  go_wp2
  go_ret
  exact ⟨rfl, b_alloc (Below.refl _ _) _⟩
theorem rc_val0 (sum kind key val seq : Int) (w : World) (h0 : 0 ≤ seq) (h1 : seq ≤ 1099511627776) (h : val < 0) :
    Calls Try.prog 50 #[.agg #[.int .u32 sum, .int .i64 kind, .int .i64 key, .int .i64 val, .int .i64 seq]] w fun e w' => e = .returned (.int .i64 2) ∧ Below w.heap.size w w' := by
  go_enter Try.func50, Try.ntmps50
  go_wp2
  go_ret
  exact ⟨rfl, b_alloc (Below.refl _ _) _⟩
theorem rc_1_k0 (sum key val seq : Int) (w : World) (h0 : 0 ≤ seq) (h1 : seq ≤ 1099511627776) (h2 : 0 ≤ val) (h3 : key < 1) :
    Calls Try.prog 50 #[.agg #[.int .u32 sum, .int .i64 1, .int .i64 key, .int .i64 val, .int .i64 seq]] w fun e w' => e = .returned (.int .i64 2) ∧ Below w.heap.size w w' := by
  go_enter Try.func50, Try.ntmps50
  go_wp2
  go_ret
  exact ⟨rfl, b_alloc (Below.refl _ _) _⟩
theorem rc_1_k1 (sum key val seq : Int) (w : World) (h0 : 0 ≤ seq) (h1 : seq ≤ 1099511627776) (h2 : 0 ≤ val) (h3 : 1 ≤ key) (h4 : 32 < key) :
    Calls Try.prog 50 #[.agg #[.int .u32 sum, .int .i64 1, .int .i64 key, .int .i64 val, .int .i64 seq]] w fun e w' => e = .returned (.int .i64 2) ∧ Below w.heap.size w w' := by
  go_enter Try.func50, Try.ntmps50
  go_wp2
  go_ret
  exact ⟨rfl, b_alloc (Below.refl _ _) _⟩
theorem rc_1_s (sum key val seq : Int) (w : World) (h0 : 0 ≤ seq) (h1 : seq ≤ 1099511627776) (h2 : 0 ≤ val) (h3 : 1 ≤ key) (h5 : key ≤ 32) (h4 : seq < 1) :
    Calls Try.prog 50 #[.agg #[.int .u32 sum, .int .i64 1, .int .i64 key, .int .i64 val, .int .i64 seq]] w fun e w' => e = .returned (.int .i64 2) ∧ Below w.heap.size w w' := by
  go_enter Try.func50, Try.ntmps50
  go_wp2
  go_ret
  exact ⟨rfl, b_alloc (Below.refl _ _) _⟩
theorem rc_1_v (sum key val seq : Int) (w : World) (h0 : 0 ≤ seq) (h1 : seq ≤ 1099511627776) (h2 : 0 ≤ val) (h3 : 1 ≤ key) (h5 : key ≤ 32) (h6 : 1 ≤ seq) (h4 : 512 < val) :
    Calls Try.prog 50 #[.agg #[.int .u32 sum, .int .i64 1, .int .i64 key, .int .i64 val, .int .i64 seq]] w fun e w' => e = .returned (.int .i64 2) ∧ Below w.heap.size w w' := by
  go_enter Try.func50, Try.ntmps50
  go_wp2
  go_ret
  exact ⟨rfl, b_alloc (Below.refl _ _) _⟩
theorem rc_1_ok (sum key val seq : Int) (w : World) (h0 : 0 ≤ seq) (h1 : seq ≤ 1099511627776) (h2 : 0 ≤ val) (h3 : 1 ≤ key) (h5 : key ≤ 32) (h6 : 1 ≤ seq) (h4 : val ≤ 512) :
    Calls Try.prog 50 #[.agg #[.int .u32 sum, .int .i64 1, .int .i64 key, .int .i64 val, .int .i64 seq]] w fun e w' => e = .returned (.int .i64 0) ∧ Below w.heap.size w w' := by
  go_enter Try.func50, Try.ntmps50
  go_wp2
  go_ret
  exact ⟨rfl, b_alloc (Below.refl _ _) _⟩
theorem rc_2_k0 (sum key val seq : Int) (w : World) (h0 : 0 ≤ seq) (h1 : seq ≤ 1099511627776) (h2 : 0 ≤ val) (h3 : key < 1) :
    Calls Try.prog 50 #[.agg #[.int .u32 sum, .int .i64 2, .int .i64 key, .int .i64 val, .int .i64 seq]] w fun e w' => e = .returned (.int .i64 2) ∧ Below w.heap.size w w' := by
  go_enter Try.func50, Try.ntmps50
  go_wp2
  go_ret
  exact ⟨rfl, b_alloc (Below.refl _ _) _⟩
theorem rc_2_k1 (sum key val seq : Int) (w : World) (h0 : 0 ≤ seq) (h1 : seq ≤ 1099511627776) (h2 : 0 ≤ val) (h3 : 1 ≤ key) (h4 : 32 < key) :
    Calls Try.prog 50 #[.agg #[.int .u32 sum, .int .i64 2, .int .i64 key, .int .i64 val, .int .i64 seq]] w fun e w' => e = .returned (.int .i64 2) ∧ Below w.heap.size w w' := by
  go_enter Try.func50, Try.ntmps50
  go_wp2
  go_ret
  exact ⟨rfl, b_alloc (Below.refl _ _) _⟩
theorem rc_2_s (sum key val seq : Int) (w : World) (h0 : 0 ≤ seq) (h1 : seq ≤ 1099511627776) (h2 : 0 ≤ val) (h3 : 1 ≤ key) (h5 : key ≤ 32) (h4 : seq < 1) :
    Calls Try.prog 50 #[.agg #[.int .u32 sum, .int .i64 2, .int .i64 key, .int .i64 val, .int .i64 seq]] w fun e w' => e = .returned (.int .i64 2) ∧ Below w.heap.size w w' := by
  go_enter Try.func50, Try.ntmps50
  go_wp2
  go_ret
  exact ⟨rfl, b_alloc (Below.refl _ _) _⟩
theorem rc_2_v (sum key val seq : Int) (w : World) (h0 : 0 ≤ seq) (h1 : seq ≤ 1099511627776) (h2 : 0 ≤ val) (h3 : 1 ≤ key) (h5 : key ≤ 32) (h6 : 1 ≤ seq) (h4 : (val == 0) = false) :
    Calls Try.prog 50 #[.agg #[.int .u32 sum, .int .i64 2, .int .i64 key, .int .i64 val, .int .i64 seq]] w fun e w' => e = .returned (.int .i64 2) ∧ Below w.heap.size w w' := by
  go_enter Try.func50, Try.ntmps50
  go_wp2
  go_ret
  exact ⟨rfl, b_alloc (Below.refl _ _) _⟩
theorem rc_2_ok (sum key val seq : Int) (w : World) (h0 : 0 ≤ seq) (h1 : seq ≤ 1099511627776) (h2 : 0 ≤ val) (h3 : 1 ≤ key) (h5 : key ≤ 32) (h6 : 1 ≤ seq) (h4 : (val == 0) = true) :
    Calls Try.prog 50 #[.agg #[.int .u32 sum, .int .i64 2, .int .i64 key, .int .i64 val, .int .i64 seq]] w fun e w' => e = .returned (.int .i64 0) ∧ Below w.heap.size w w' := by
  go_enter Try.func50, Try.ntmps50
  go_wp2
  go_ret
  exact ⟨rfl, b_alloc (Below.refl _ _) _⟩
theorem rc_3_k0 (sum key val seq : Int) (w : World) (h0 : 0 ≤ seq) (h1 : seq ≤ 1099511627776) (h2 : 0 ≤ val) (h3 : (key == 0) = false) (hk1 : 1 ≤ key) (hk2 : key ≤ 32) (hs : 1 ≤ seq) :
    Calls Try.prog 50 #[.agg #[.int .u32 sum, .int .i64 3, .int .i64 key, .int .i64 val, .int .i64 seq]] w fun e w' => e = .returned (.int .i64 2) ∧ Below w.heap.size w w' := by
  go_enter Try.func50, Try.ntmps50
  go_wp2
  go_ret
  exact ⟨rfl, b_alloc (Below.refl _ _) _⟩
theorem rc_3_k1 (sum key val seq : Int) (w : World) (h0 : 0 ≤ seq) (h1 : seq ≤ 1099511627776) (h2 : 0 ≤ val) (h3 : (key == 0) = false) (hk1 : 1 ≤ key) (hk2 : key ≤ 32) (hs : seq < 1) :
    Calls Try.prog 50 #[.agg #[.int .u32 sum, .int .i64 3, .int .i64 key, .int .i64 val, .int .i64 seq]] w fun e w' => e = .returned (.int .i64 2) ∧ Below w.heap.size w w' := by
  go_enter Try.func50, Try.ntmps50
  go_wp2
  go_ret
  exact ⟨rfl, b_alloc (Below.refl _ _) _⟩
theorem rc_3_k2 (sum key val seq : Int) (w : World) (h0 : 0 ≤ seq) (h1 : seq ≤ 1099511627776) (h2 : 0 ≤ val) (h3 : (key == 0) = false) (hk1 : 1 ≤ key) (hk2 : 32 < key) :
    Calls Try.prog 50 #[.agg #[.int .u32 sum, .int .i64 3, .int .i64 key, .int .i64 val, .int .i64 seq]] w fun e w' => e = .returned (.int .i64 2) ∧ Below w.heap.size w w' := by
  go_enter Try.func50, Try.ntmps50
  go_wp2
  go_ret
  exact ⟨rfl, b_alloc (Below.refl _ _) _⟩
theorem rc_3_k3 (sum key val seq : Int) (w : World) (h0 : 0 ≤ seq) (h1 : seq ≤ 1099511627776) (h2 : 0 ≤ val) (h3 : (key == 0) = false) (hk1 : key < 1) :
    Calls Try.prog 50 #[.agg #[.int .u32 sum, .int .i64 3, .int .i64 key, .int .i64 val, .int .i64 seq]] w fun e w' => e = .returned (.int .i64 2) ∧ Below w.heap.size w w' := by
  go_enter Try.func50, Try.ntmps50
  go_wp2
  go_ret
  exact ⟨rfl, b_alloc (Below.refl _ _) _⟩
theorem rc_3_v (sum val seq : Int) (w : World) (h0 : 0 ≤ seq) (h1 : seq ≤ 1099511627776) (h2 : 0 ≤ val) (h4 : 65535 < val) :
    Calls Try.prog 50 #[.agg #[.int .u32 sum, .int .i64 3, .int .i64 0, .int .i64 val, .int .i64 seq]] w fun e w' => e = .returned (.int .i64 2) ∧ Below w.heap.size w w' := by
  go_enter Try.func50, Try.ntmps50
  go_wp2
  go_ret
  exact ⟨rfl, b_alloc (Below.refl _ _) _⟩
theorem rc_3_ok (sum val seq : Int) (w : World) (h0 : 0 ≤ seq) (h1 : seq ≤ 1099511627776) (h2 : 0 ≤ val) (h4 : val ≤ 65535) :
    Calls Try.prog 50 #[.agg #[.int .u32 sum, .int .i64 3, .int .i64 0, .int .i64 val, .int .i64 seq]] w fun e w' => e = .returned (.int .i64 0) ∧ Below w.heap.size w w' := by
  go_enter Try.func50, Try.ntmps50
  go_wp2
  go_ret
  exact ⟨rfl, b_alloc (Below.refl _ _) _⟩
theorem rc_o0 (sum kind key val seq : Int) (w : World) (h0 : 0 ≤ seq) (h1 : seq ≤ 1099511627776) (h2 : 0 ≤ val) (k1 : (kind == 1) = false) (k2 : (kind == 2) = false) (k3 : (kind == 3) = false) (hk1 : 1 ≤ key) (hk2 : key ≤ 32) (hs : 1 ≤ seq) :
    Calls Try.prog 50 #[.agg #[.int .u32 sum, .int .i64 kind, .int .i64 key, .int .i64 val, .int .i64 seq]] w fun e w' => e = .returned (.int .i64 2) ∧ Below w.heap.size w w' := by
  go_enter Try.func50, Try.ntmps50
  go_wp2
  go_ret
  exact ⟨rfl, b_alloc (Below.refl _ _) _⟩
theorem rc_o1 (sum kind key val seq : Int) (w : World) (h0 : 0 ≤ seq) (h1 : seq ≤ 1099511627776) (h2 : 0 ≤ val) (k1 : (kind == 1) = false) (k2 : (kind == 2) = false) (k3 : (kind == 3) = false) (hk1 : 1 ≤ key) (hk2 : key ≤ 32) (hs : seq < 1) :
    Calls Try.prog 50 #[.agg #[.int .u32 sum, .int .i64 kind, .int .i64 key, .int .i64 val, .int .i64 seq]] w fun e w' => e = .returned (.int .i64 2) ∧ Below w.heap.size w w' := by
  go_enter Try.func50, Try.ntmps50
  go_wp2
  go_ret
  exact ⟨rfl, b_alloc (Below.refl _ _) _⟩
theorem rc_o2 (sum kind key val seq : Int) (w : World) (h0 : 0 ≤ seq) (h1 : seq ≤ 1099511627776) (h2 : 0 ≤ val) (k1 : (kind == 1) = false) (k2 : (kind == 2) = false) (k3 : (kind == 3) = false) (hk1 : 1 ≤ key) (hk2 : 32 < key) :
    Calls Try.prog 50 #[.agg #[.int .u32 sum, .int .i64 kind, .int .i64 key, .int .i64 val, .int .i64 seq]] w fun e w' => e = .returned (.int .i64 2) ∧ Below w.heap.size w w' := by
  go_enter Try.func50, Try.ntmps50
  go_wp2
  go_ret
  exact ⟨rfl, b_alloc (Below.refl _ _) _⟩
theorem rc_o3 (sum kind key val seq : Int) (w : World) (h0 : 0 ≤ seq) (h1 : seq ≤ 1099511627776) (h2 : 0 ≤ val) (k1 : (kind == 1) = false) (k2 : (kind == 2) = false) (k3 : (kind == 3) = false) (hk1 : key < 1) :
    Calls Try.prog 50 #[.agg #[.int .u32 sum, .int .i64 kind, .int .i64 key, .int .i64 val, .int .i64 seq]] w fun e w' => e = .returned (.int .i64 2) ∧ Below w.heap.size w w' := by
  go_enter Try.func50, Try.ntmps50
  go_wp2
  go_ret
  exact ⟨rfl, b_alloc (Below.refl _ _) _⟩
theorem rcheck_yes (sum kind key val seq : Int) (w : World) (h : HOk kind key val seq) :
    Calls Try.prog 50 #[.agg #[.int .u32 sum, .int .i64 kind, .int .i64 key, .int .i64 val, .int .i64 seq]] w fun e w' => e = .returned (.int .i64 0) ∧ Below w.heap.size w w' := by
  rcases h with ⟨rfl, h1, h2, h3, h4, h5, h6⟩ | ⟨rfl, h1, h2, h3, h5, h6⟩ | ⟨rfl, h1, h3, h4, h5, h6⟩
  · exact rc_1_ok sum key val seq w (by omega) h6 h3 h1 h2 h5 h4
  · exact rc_2_ok sum key val seq w (by omega) h6 (by omega) h1 h2 h5 (by simp [h3])
  · subst h1
    exact rc_3_ok sum val seq w h5 h6 h3 h4
theorem rcheck_no (sum kind key val seq : Int) (w : World) (h : ¬HOk kind key val seq) :
    Calls Try.prog 50 #[.agg #[.int .u32 sum, .int .i64 kind, .int .i64 key, .int .i64 val, .int .i64 seq]] w fun e w' => e = .returned (.int .i64 2) ∧ Below w.heap.size w w' := by
  unfold HOk at h
  by_cases a0 : seq < 0
  · exact rc_seq0 sum kind key val seq w a0
  by_cases a1 : 1099511627776 < seq
  · exact rc_seq1 sum kind key val seq w (by omega) a1
  by_cases a2 : val < 0
  · exact rc_val0 sum kind key val seq w (by omega) (by omega) a2
  by_cases k1 : kind = 1
  · subst k1
    by_cases a3 : key < 1
    · exact rc_1_k0 sum key val seq w (by omega) (by omega) (by omega) a3
    by_cases a4 : 32 < key
    · exact rc_1_k1 sum key val seq w (by omega) (by omega) (by omega) (by omega) a4
    by_cases a5 : seq < 1
    · exact rc_1_s sum key val seq w (by omega) (by omega) (by omega) (by omega) (by omega) a5
    exact rc_1_v sum key val seq w (by omega) (by omega) (by omega) (by omega) (by omega) (by omega) (by omega)
  by_cases k2 : kind = 2
  · subst k2
    by_cases a3 : key < 1
    · exact rc_2_k0 sum key val seq w (by omega) (by omega) (by omega) a3
    by_cases a4 : 32 < key
    · exact rc_2_k1 sum key val seq w (by omega) (by omega) (by omega) (by omega) a4
    by_cases a5 : seq < 1
    · exact rc_2_s sum key val seq w (by omega) (by omega) (by omega) (by omega) (by omega) a5
    exact rc_2_v sum key val seq w (by omega) (by omega) (by omega) (by omega) (by omega) (by omega) (by simp; omega)
  by_cases k3 : kind = 3
  · subst k3
    by_cases a3 : key = 0
    · subst a3
      exact rc_3_v sum val seq w (by omega) (by omega) (by omega) (by omega)
    have q0 : (key == 0) = false := by simp [a3]
    by_cases a4 : key < 1
    · exact rc_3_k3 sum key val seq w (by omega) (by omega) (by omega) q0 a4
    by_cases a5 : 32 < key
    · exact rc_3_k2 sum key val seq w (by omega) (by omega) (by omega) q0 (by omega) a5
    by_cases a6 : seq < 1
    · exact rc_3_k1 sum key val seq w (by omega) (by omega) (by omega) q0 (by omega) (by omega) a6
    exact rc_3_k0 sum key val seq w (by omega) (by omega) (by omega) q0 (by omega) (by omega) (by omega)
  have q1 : (kind == 1) = false := by simp [k1]
  have q2 : (kind == 2) = false := by simp [k2]
  have q3 : (kind == 3) = false := by simp [k3]
  by_cases a3 : key < 1
  · exact rc_o3 sum kind key val seq w (by omega) (by omega) (by omega) q1 q2 q3 a3
  by_cases a4 : 32 < key
  · exact rc_o2 sum kind key val seq w (by omega) (by omega) (by omega) q1 q2 q3 (by omega) a4
  by_cases a5 : seq < 1
  · exact rc_o1 sum kind key val seq w (by omega) (by omega) (by omega) q1 q2 q3 (by omega) (by omega) a5
  exact rc_o0 sum kind key val seq w (by omega) (by omega) (by omega) q1 q2 q3 (by omega) (by omega) (by omega)
end Go.Proofs.Ytiobnhdcapfhgaa
