/-
  The reference's keys (layer 5) by contract.
-/
import Derived.Test.YtkicciinneffcaaKey
namespace Go.Proofs.Ytkicciinneffcaa
open Go.RowKit
set_option linter.unusedVariables false

theorem rletters_any (w : World) : Calls Try.prog 48 #[] w fun e w' => e = .returned (.string lets) ∧ w = w' := by
  go_enter Try.func48, Try.ntmps48
  go_wp2
  go_ret
  exact ⟨rfl, rfl⟩
theorem lets_all : ∀ c ∈ List.range 256, kch c = (List.range 39).any (fun j => (lets.get! j).toNat == c) := by decide +kernel
theorem lets_find {c : Nat} (hc : c < 256) (h : kch c = true) : ∃ j, j < 39 ∧ (lets.get! j).toNat = c := by
  rw [lets_all c (List.mem_range.2 hc)] at h
  obtain ⟨j, hj, hjc⟩ := List.any_eq_true.1 h
  exact ⟨j, List.mem_range.1 hj, by simpa using hjc⟩
theorem lets_none {c : Nat} (hc : c < 256) (h : kch c = false) (j : Nat) (hj : j < 39) : (lets.get! j).toNat ≠ c := by
  rw [lets_all c (List.mem_range.2 hc)] at h
  have := List.any_eq_false.1 h j (List.mem_range.2 hj)
  simpa using this
theorem place_yes (c : Nat) (hc : c < 256) (h : kch c = true) (w : World) :
    Calls Try.prog 44 #[.int .u8 c] w fun e w' => (∃ n : Nat, e = .returned (.int .i64 n)) ∧ w = w' := by
  obtain ⟨j0, hj0⟩ := lets_find hc h
  obtain ⟨j, ⟨hj, hjc⟩, hmin⟩ := first_of (p := fun j => j < 39 ∧ (lets.get! j).toNat = c) j0 hj0
  clear h hj0
  go_enter Try.func44, Try.ntmps44
  go_wp2
  go_loop [3] (fun i => ∃ k : Nat, k ≤ j ∧ i = .int .i64 k) (fun i => 39 - (intOf i).toNat)
  case atStart => exact ⟨0, by omega, rfl⟩
  case round =>
    obtain ⟨k, hk, rfl⟩ := hrel
    have hl : k < lets.size := by rw [lets_size]; omega
    have hl' : (k : Int) < (lets.size : Int) := by omega
    have hz : (lets.size : Int) ≤ 39 := by rw [lets_size]; decide
    have hg := get_at lets k hl
    rw [Nat.add_zero] at hg
    by_cases hkj : k < j
    · have hne : (((lets[k]'hl).toNat : Int) == (c : Int)) = false := by
        rw [← hg]
        have := hmin k hkj
        rw [beq_eq_false_iff_ne]
        intro he
        exact this ⟨by omega, by omega⟩
      clear hmin hjc hg
      go_wp2_with (go_at_call 48; refine (rletters_any _).mono ?_; rintro e w' ⟨rfl, rfl⟩)
      go_round
      case rel => exact ⟨k + 1, by omega, by go_num⟩
      case measure => simp [intOf]; omega
    · obtain rfl : k = j := by omega
      have hne : (((lets[k]'hl).toNat : Int) == (c : Int)) = true := by rw [← hg, hjc]; simp
      clear hmin hjc hg
      go_wp2_with (go_at_call 48; refine (rletters_any _).mono ?_; rintro e w' ⟨rfl, rfl⟩)
      go_ret
      exact ⟨⟨k, rfl⟩, rfl⟩
theorem place_no (c : Nat) (hc : c < 256) (h : kch c = false) (w : World) :
    Calls Try.prog 44 #[.int .u8 c] w fun e w' => e = .returned (.int .i64 (-1)) ∧ w = w' := by
  have hn := lets_none hc h
  clear h
  go_enter Try.func44, Try.ntmps44
  go_wp2
  go_loop [3] (fun i => ∃ k : Nat, k ≤ 39 ∧ i = .int .i64 k) (fun i => 39 - (intOf i).toNat)
  case atStart => exact ⟨0, by omega, rfl⟩
  case round =>
    obtain ⟨k, hk, rfl⟩ := hrel
    have hz : (lets.size : Int) = 39 := by rw [lets_size]; rfl
    by_cases hkj : k < 39
    · have hl : k < lets.size := by rw [lets_size]; omega
      have hl' : (k : Int) < (lets.size : Int) := by omega
      have hg := get_at lets k hl
      rw [Nat.add_zero] at hg
      have hne : (((lets[k]'hl).toNat : Int) == (c : Int)) = false := by
        rw [← hg]
        have := hn k hkj
        rw [beq_eq_false_iff_ne]
        intro he
        exact this (by omega)
      have hz1 : (lets.size : Int) ≤ 39 := by omega
      clear hn hg hz
      go_wp2_with (go_at_call 48; refine (rletters_any _).mono ?_; rintro e w' ⟨rfl, rfl⟩)
      go_round
      case rel => exact ⟨k + 1, by omega, by go_num⟩
      case measure => simp [intOf]; omega
    · have hge : ¬ (k : Int) < (lets.size : Int) := by omega
      clear hn hz
      go_wp2_with (go_at_call 48; refine (rletters_any _).mono ?_; rintro e w' ⟨rfl, rfl⟩)
      go_ret
      exact ⟨rfl, rfl⟩

set_option maxHeartbeats 800000 in
theorem rkeyc_all (s : ByteArray) (h : keyAll s) (hs : s.size ≤ maxLen) (w : World) :
    Calls Try.prog 29 #[.string s] w fun e w' => e = .returned (.int .i64 (keyErr s.size)) ∧ Below w.heap.size w w' := by
  unfold maxLen at hs
  have hcast : (s.size : Int) ≤ 9223372036854775807 := by omega
  by_cases hz : s.size = 0
  · obtain rfl := empty_of hz
    clear h hz hs hcast
    go_enter Try.func29, Try.ntmps29
    go_wp2
    go_ret
    exact ⟨rfl, Below.refl _ _⟩
  · have hE := isEmpty_of hz
    go_enter Try.func29, Try.ntmps29
    go_wp2
    go_loop [3] (fun i => ∃ k : Nat, k ≤ s.size ∧ i = .int .i64 k) (fun i => s.size - (intOf i).toNat)
    case atStart => exact ⟨0, by omega, rfl⟩
    case round =>
      obtain ⟨k, hk, rfl⟩ := hrel
      by_cases hlt : k < s.size
      · have hkc := h k hlt
        have hp := place_yes _ (s[k]'hlt).toNat_lt hkc
        clear h hkc
        go_wp2_with (go_at_call 44; refine (hp _).mono ?_; rintro e w' ⟨⟨n, rfl⟩, rfl⟩)
        go_round
        case rel => exact ⟨k + 1, by omega, by go_num⟩
        case measure => simp [intOf]; omega
      · clear h
        by_cases hl : 32 < s.size
        · have HV : Hid (keyErr s.size = 12) := by show _ = _; unfold keyErr; rw [if_neg hz, if_pos hl]
          clear hz
          go_wp2
          go_ret
          exact ⟨ret_int HV.out.symm, Below.refl _ _⟩
        · have HV : Hid (keyErr s.size = 0) := by show _ = _; unfold keyErr; rw [if_neg hz, if_neg hl]
          clear hz
          go_wp2
          go_ret
          exact ⟨ret_int HV.out.symm, Below.refl _ _⟩
set_option maxHeartbeats 800000 in
theorem rkeyc_bad (s : ByteArray) (h : ¬ keyAll s) (hs : s.size ≤ maxLen) (w : World) :
    Calls Try.prog 29 #[.string s] w fun e w' => e = .returned (.int .i64 2) ∧ Below w.heap.size w w' := by
  unfold maxLen at hs
  have hcast : (s.size : Int) ≤ 9223372036854775807 := by omega
  obtain ⟨j, hj, hbad, hgood⟩ := first_bad s h
  have hE := isEmpty_of (show s.size ≠ 0 by omega)
  clear h
  go_enter Try.func29, Try.ntmps29
  go_wp2
  go_loop [3] (fun i => ∃ k : Nat, k ≤ j ∧ i = .int .i64 k) (fun i => s.size - (intOf i).toNat)
  case atStart => exact ⟨0, by omega, rfl⟩
  case round =>
    obtain ⟨k, hk, rfl⟩ := hrel
    have hlt : k < s.size := by omega
    by_cases hkj : k < j
    · have hkc := hgood k hlt hkj
      have hp := place_yes _ (s[k]'hlt).toNat_lt hkc
      clear hgood hbad hkc
      go_wp2_with (go_at_call 44; refine (hp _).mono ?_; rintro e w' ⟨⟨n, rfl⟩, rfl⟩)
      go_round
      case rel => exact ⟨k + 1, by omega, by go_num⟩
      case measure => simp [intOf]; omega
    · obtain rfl : k = j := by omega
      have hp := place_no _ (s[k]'hlt).toNat_lt hbad
      clear hgood hbad
      go_wp2_with (go_at_call 44; refine (hp _).mono ?_; rintro e w' ⟨rfl, rfl⟩)
      go_ret
      exact ⟨rfl, Below.refl _ _⟩
end Go.Proofs.Ytkicciinneffcaa
