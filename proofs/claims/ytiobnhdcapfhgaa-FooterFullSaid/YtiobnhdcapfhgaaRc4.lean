/-
  Which records are valid, their sizes and entries: the document.
-/
import Derived.Test.YtiobnhdcapfhgaaRk4
namespace Go.Proofs.Ytiobnhdcapfhgaa
open Go.RowKit
set_option linter.unusedVariables false
set_option linter.unusedSimpArgs false
section
variable (kind seq : Int) (key val : ByteArray) (w : World)
theorem rk4_kind (h1 : (kind != 1) = true) (h2 : (kind != 2) = true) :
    Calls Try.prog 43 #[.agg #[.int .i64 kind, .int .i64 seq, .string key, .string val]] w fun e w' => e = .returned (.int .i64 2) ∧ Below w.heap.size w w' := by
  go_enter Try.func43, Try.ntmps43
  go_wp2_with fail
  go_ret
  exact ⟨rfl, b_alloc (Below.refl _ _) _⟩
theorem rk4_seq (h1 : kind = 1 ∨ kind = 2) (h2 : seq < 1 ∨ (1 ≤ seq ∧ 1099511627776 < seq)) :
    Calls Try.prog 43 #[.agg #[.int .i64 kind, .int .i64 seq, .string key, .string val]] w fun e w' => e = .returned (.int .i64 2) ∧ Below w.heap.size w w' := by
  rcases h1 with rfl | rfl <;> rcases h2 with h2 | ⟨h2, h3⟩
  all_goals
    go_enter Try.func43, Try.ntmps43
    go_wp2_with fail
    go_ret
    exact ⟨rfl, b_alloc (Below.refl _ _) _⟩
theorem rk4_key (h1 : kind = 1 ∨ kind = 2) (h2 : 1 ≤ seq) (h3 : seq ≤ 1099511627776) (h4 : ¬ KeyOk key) (hm : key.size ≤ maxLen) :
    Calls Try.prog 43 #[.agg #[.int .i64 kind, .int .i64 seq, .string key, .string val]] w fun e w' => e = .returned (.int .i64 2) ∧ Below w.heap.size w w' := by
  rcases h1 with rfl | rfl
  all_goals
    go_enter Try.func43, Try.ntmps43
    go_wp2_with fail
    refine (rkey_no key h4 hm _).mono ?_
    rintro e w1 ⟨rfl, rfl⟩
    go_wp2_with fail
    go_ret
    exact ⟨rfl, b_alloc (Below.refl _ _) _⟩
theorem rk4_val (h1 : kind = 1 ∨ kind = 2) (h2 : 1 ≤ seq) (h3 : seq ≤ 1099511627776) (h4 : KeyOk key) (h5 : 512 < val.size) (hm : val.size ≤ maxLen) :
    Calls Try.prog 43 #[.agg #[.int .i64 kind, .int .i64 seq, .string key, .string val]] w fun e w' => e = .returned (.int .i64 2) ∧ Below w.heap.size w w' := by
  unfold maxLen at hm
  have h5' : (512 : Int) < (val.size : Int) := by omega
  rcases h1 with rfl | rfl
  all_goals
    go_enter Try.func43, Try.ntmps43
    go_wp2_with fail
    refine (rkey_yes key h4 _).mono ?_
    rintro e w1 ⟨rfl, rfl⟩
    go_wp2_with fail
    go_ret
    exact ⟨rfl, b_alloc (Below.refl _ _) _⟩
theorem rk4_del (h2 : 1 ≤ seq) (h3 : seq ≤ 1099511627776) (h4 : KeyOk key) (h5 : val.size ≤ 512) (h6 : val.size ≠ 0) :
    Calls Try.prog 43 #[.agg #[.int .i64 2, .int .i64 seq, .string key, .string val]] w fun e w' => e = .returned (.int .i64 2) ∧ Below w.heap.size w w' := by
  have h8 : val.toList.isEmpty = false := isEmpty_of h6
  have h5' : (val.size : Int) ≤ 512 := by omega
  clear h6
  go_enter Try.func43, Try.ntmps43
  go_wp2_with fail
  refine (rkey_yes key h4 _).mono ?_
  rintro e w1 ⟨rfl, rfl⟩
  go_wp2_with fail
  go_ret
  exact ⟨rfl, b_alloc (Below.refl _ _) _⟩
theorem rk4_ok1 (h2 : 1 ≤ seq) (h3 : seq ≤ 1099511627776) (h4 : KeyOk key) (h5 : val.size ≤ 512) :
    Calls Try.prog 43 #[.agg #[.int .i64 1, .int .i64 seq, .string key, .string val]] w fun e w' => e = .returned (.int .i64 0) ∧ Below w.heap.size w w' := by
  have h5' : (val.size : Int) ≤ 512 := by omega
  go_enter Try.func43, Try.ntmps43
  go_wp2_with fail
  refine (rkey_yes key h4 _).mono ?_
  rintro e w1 ⟨rfl, rfl⟩
  go_wp2_with fail
  go_ret
  exact ⟨rfl, b_alloc (Below.refl _ _) _⟩
theorem rk4_ok2 (h2 : 1 ≤ seq) (h3 : seq ≤ 1099511627776) (h4 : KeyOk key) :
    Calls Try.prog 43 #[.agg #[.int .i64 2, .int .i64 seq, .string key, .string ⟨#[]⟩]] w fun e w' => e = .returned (.int .i64 0) ∧ Below w.heap.size w w' := by
  go_enter Try.func43, Try.ntmps43
  go_wp2_with fail
  refine (rkey_yes key h4 _).mono ?_
  rintro e w1 ⟨rfl, rfl⟩
  go_wp2_with fail
  go_ret
  exact ⟨rfl, b_alloc (Below.refl _ _) _⟩
end
theorem rchk4_yes (r : Rc) (h : r.Ok) (w : World) :
    Calls Try.prog 43 #[r.v] w fun e w' => e = .returned (.int .i64 0) ∧ Below w.heap.size w w' := by
  obtain ⟨kind, seq, key, val⟩ := r
  obtain ⟨h1, h2, h3, h4, h5, h6, h7⟩ := h
  simp only [] at h1 h2 h3 h4 h5 h6 h7
  rcases h1 with rfl | ⟨rfl, hv⟩
  · exact rk4_ok1 seq key val w h2 h3 ⟨h4, h5, h6⟩ h7
  · obtain rfl := empty_of hv
    exact rk4_ok2 seq key w h2 h3 ⟨h4, h5, h6⟩
theorem rchk4_no (r : Rc) (h : ¬ r.Ok) (hk : r.key.size ≤ maxLen) (hv : r.val.size ≤ maxLen) (w : World) :
    Calls Try.prog 43 #[r.v] w fun e w' => e = .returned (.int .i64 2) ∧ Below w.heap.size w w' := by
  obtain ⟨kind, seq, key, val⟩ := r
  unfold Rc.Ok at h
  simp only [] at h hk hv
  show Calls Try.prog 43 #[.agg #[.int .i64 kind, .int .i64 seq, .string key, .string val]] w _
  by_cases h1 : kind = 1 ∨ kind = 2
  · by_cases h2 : seq < 1 ∨ 1099511627776 < seq
    · exact rk4_seq kind seq key val w h1 (by omega)
    · by_cases h4 : KeyOk key
      · by_cases h5 : 512 < val.size
        · exact rk4_val kind seq key val w h1 (by omega) (by omega) h4 h5 hv
        · obtain ⟨a1, a2, a3⟩ := h4
          have hk2 : kind = 2 ∧ val.size ≠ 0 := by
            rcases h1 with h1 | h1
            · exact (h ⟨.inl h1, by omega, by omega, a1, a2, a3, by omega⟩).elim
            · exact ⟨h1, fun h0 => h ⟨.inr ⟨h1, h0⟩, by omega, by omega, a1, a2, a3, by omega⟩⟩
          obtain ⟨rfl, hv0⟩ := hk2
          exact rk4_del seq key val w (by omega) (by omega) ⟨a1, a2, a3⟩ (by omega) hv0
      · exact rk4_key kind seq key val w h1 (by omega) (by omega) h4 hk
  · exact rk4_kind kind seq key val w (by rw [bne_iff_ne]; omega) (by rw [bne_iff_ne]; omega)
end Go.Proofs.Ytiobnhdcapfhgaa
