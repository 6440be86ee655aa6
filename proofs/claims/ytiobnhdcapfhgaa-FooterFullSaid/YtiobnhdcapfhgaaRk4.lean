/-
  Keys, valid records and sizes by the document.
-/
import Derived.Test.YtiobnhdcapfhgaaRck
namespace Go.Proofs.Ytiobnhdcapfhgaa
open Go.RowKit
set_option linter.unusedVariables false

theorem rkey_short (s : ByteArray) (h : s.size = 0 ∨ 32 < s.size) (hm : s.size ≤ maxLen) (w : World) :
    Calls Try.prog 58 #[.string s] w fun e w' => e = .returned (.bool false) ∧ w = w' := by
  unfold maxLen at hm
  rcases h with h | h
  · have h' : (s.size : Int) < 1 := by omega
    clear h
    go_enter Try.func58, Try.ntmps58
    go_wp2
    go_ret
    exact ⟨rfl, rfl⟩
  · have h' : (32 : Int) < (s.size : Int) := by omega
    go_enter Try.func58, Try.ntmps58
    go_wp2
    go_ret
    exact ⟨rfl, rfl⟩
theorem kch_yes {c : Nat} (h : kch c = true) : (97 ≤ (c : Int) ∧ (c : Int) ≤ 122) ∨ ((c : Int) < 97 ∧ 48 ≤ (c : Int) ∧ (c : Int) ≤ 57) ∨ (c : Int) = 46 ∨ (c : Int) = 45 ∨ (c : Int) = 95 := by
  unfold kch at h
  have := of_decide_eq_true h
  omega
theorem kch_no {c : Nat} (h : kch c = false) : (((c : Int) == 46) = false ∧ ((c : Int) == 45) = false ∧ ((c : Int) == 95) = false) ∧ (122 < (c : Int) ∨ (57 < (c : Int) ∧ (c : Int) < 97) ∨ (c : Int) < 48) := by
  unfold kch at h
  have := of_decide_eq_false h
  refine ⟨⟨?_, ?_, ?_⟩, by omega⟩ <;> rw [beq_eq_false_iff_ne] <;> omega
set_option maxHeartbeats 1600000 in
theorem rkey_yes (s : ByteArray) (h : KeyOk s) (w : World) :
    Calls Try.prog 58 #[.string s] w fun e w' => e = .returned (.bool true) ∧ w = w' := by
  obtain ⟨hb, h1, h2⟩ := h
  have hall := Lib.hid ((keyB_iff s).1 hb)
  clear hb
  go_enter Try.func58, Try.ntmps58
  go_wp2
  go_loop [3] (fun i => ∃ k : Nat, k ≤ s.size ∧ i = .int .i64 k) (fun i => s.size - (intOf i).toNat)
  case atStart => exact ⟨0, by omega, rfl⟩
  case round =>
    obtain ⟨k, hk, rfl⟩ := hrel
    by_cases hlt : k < s.size
    · have hkc := kch_yes (hall.out k hlt)
      rcases hkc with ⟨h3, h4⟩ | ⟨h3, h4, h5⟩ | h3 | h3 | h3
      all_goals
        go_wp2
        go_round
        case rel => exact ⟨k + 1, by omega, by go_num⟩
        case measure => simp [intOf]; omega
    · obtain rfl : k = s.size := by omega
      go_wp2
      go_ret
      exact ⟨rfl, rfl⟩
set_option maxHeartbeats 1600000 in
theorem rkey_bad (s : ByteArray) (h : keyB s = false) (h1 : 1 ≤ s.size) (h2 : s.size ≤ 32) (w : World) :
    Calls Try.prog 58 #[.string s] w fun e w' => e = .returned (.bool false) ∧ w = w' := by
  obtain ⟨j, hj, hbad, hgood⟩ := first_bad s (fun h' => by rw [(keyB_iff s).2 h'] at h; cases h)
  have hG := Lib.hid hgood
  clear h hgood
  go_enter Try.func58, Try.ntmps58
  go_wp2
  go_loop [3] (fun i => ∃ k : Nat, k ≤ j ∧ i = .int .i64 k) (fun i => s.size - (intOf i).toNat)
  case atStart => exact ⟨0, by omega, rfl⟩
  case round =>
    obtain ⟨k, hk, rfl⟩ := hrel
    have hlt : k < s.size := by omega
    by_cases hkj : k < j
    · have hkc := kch_yes (hG.out k hlt hkj)
      rcases hkc with ⟨h3, h4⟩ | ⟨h3, h4, h5⟩ | h3 | h3 | h3
      all_goals
        go_wp2
        go_round
        case rel => exact ⟨k + 1, by omega, by go_num⟩
        case measure => simp [intOf]; omega
    · obtain rfl : k = j := by omega
      obtain ⟨⟨e1, e2, e3⟩, hh⟩ := kch_no hbad
      have d1 : 57 < ((s[k]'hj).toNat : Int) → decide (((s[k]'hj).toNat : Int) ≤ 57) = false := fun h => by rw [decide_eq_false_iff_not]; omega
      have d2 : 122 < ((s[k]'hj).toNat : Int) → decide (((s[k]'hj).toNat : Int) ≤ 122) = false := fun h => by rw [decide_eq_false_iff_not]; omega
      rcases hh with h3 | ⟨h3, h4⟩ | h3
      · have d3 := d1 (by omega)
        have d4 := d2 h3
        clear d1 d2
        go_wp2
        go_ret
        exact ⟨rfl, rfl⟩
      · have d3 := d1 h3
        clear d1 d2
        go_wp2
        go_ret
        exact ⟨rfl, rfl⟩
      · clear d1 d2
        go_wp2
        go_ret
        exact ⟨rfl, rfl⟩
theorem rkey_no (s : ByteArray) (h : ¬ KeyOk s) (hm : s.size ≤ maxLen) (w : World) :
    Calls Try.prog 58 #[.string s] w fun e w' => e = .returned (.bool false) ∧ w = w' := by
  by_cases h0 : s.size = 0 ∨ 32 < s.size
  · exact rkey_short s h0 hm w
  · have hb : keyB s = false := by
      cases hk : keyB s
      · rfl
      · exact (h ⟨hk, by omega, by omega⟩).elim
    exact rkey_bad s hb (by omega) (by omega) w
end Go.Proofs.Ytiobnhdcapfhgaa
