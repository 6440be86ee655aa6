/-
  The checksum of the document; equality of bytes by the document.
-/
import Derived.Test.YtiobnhdcapfhgaaCrc
namespace Go.Proofs.Ytiobnhdcapfhgaa
open Go.RowKit
set_option linter.unusedVariables false

theorem step_any (X : Nat) (w : World) (hX : X < 4294967296) :
    Calls Try.prog 70 #[.int .u32 (X : Nat)] w fun e w' => e = .returned (.int .u32 ((cstep X : Nat) : Int)) ∧ w = w' := by
  have hA := and1 X hX
  rcases Nat.mod_two_eq_zero_or_one X with hp | hp
  · rw [hp] at hA
    have HC : Hid (cstep X = X / 2) := by show _ = _; unfold cstep; rw [if_neg (by omega)]
    clear hp
    go_enter Try.func70, Try.ntmps70
    go_wp2
    go_ret
    exact ⟨by rw [HC.out]; rfl, rfl⟩
  · rw [hp] at hA
    have HC : Hid (cstep X = X / 2 ^^^ 3988292384) := by show _ = _; unfold cstep; rw [if_pos hp]
    have hx := u32_xor_nat (X / 2) 3988292384 (by omega) (by omega)
    have hx' : bits .xor .u32 ((X : Int) / 2) 3988292384 = ((X / 2 ^^^ 3988292384 : Nat) : Int) := hx
    replace hA : bits .and .u32 (X : Int) 1 = 1 := hA
    clear hp hx
    go_enter Try.func70, Try.ntmps70
    go_wp2
    go_ret
    exact ⟨by rw [HC.out]; rfl, rfl⟩
theorem feed_any (X C : Nat) (w : World) (hX : X < 4294967296) (hC : C < 256) :
    Calls Try.prog 67 #[.int .u32 (X : Nat), .int .u8 (C : Nat)] w fun e w' => e = .returned (.int .u32 ((cfeed X C : Nat) : Int)) ∧ w = w' := by
  have hw : IntKind.u32.wrap (C : Int) = (C : Int) := by rw [IntKind.wrap_u32']; omega
  have hx := u32_xor_nat X C hX (by omega)
  have hY : X ^^^ C < 4294967296 := Nat.xor_lt_two_pow (n := 32) (by omega) (by omega)
  have HF : Hid (csteps 8 (X ^^^ C) = cfeed X C) := rfl
  generalize X ^^^ C = Y at hx hY HF
  go_enter Try.func67, Try.ntmps67
  go_wp2_with fail
  go_loop [0, 5] (fun x j => ∃ k : Nat, k ≤ 8 ∧ j = .int .i64 k ∧ x = .int .u32 ((csteps k Y : Nat) : Int)) (fun _ j => 8 - (intOf j).toNat)
  case atStart => exact ⟨0, by omega, rfl, rfl⟩
  case round =>
    obtain ⟨k, hk, rfl, rfl⟩ := hrel
    by_cases hk8 : k < 8
    · have hZ : csteps k Y < 4294967296 := csteps_lt hY
      have HS := Lib.hid (csteps_snoc k Y)
      generalize csteps k Y = Z at hZ HS ⊢
      go_wp2_with fail
      refine (step_any Z _ hZ).mono ?_
      rintro e w1 ⟨rfl, rfl⟩
      go_wp2_with fail
      go_round
      case rel => exact ⟨k + 1, by omega, by go_num, by rw [HS.out]⟩
      case measure => simp [intOf]; omega
    · obtain rfl : k = 8 := by omega
      rw [HF.out]
      go_wp2_with fail
      go_ret
      exact ⟨rfl, rfl⟩
theorem rupdate_any (A : Option Addr) (cap : Nat) (M : List Int) (w : World) (h : RB w A M) (hB : BB M) (hl : M.length ≤ cap) (hc : cap ≤ maxLen) :
    Calls Try.prog 52 #[.int .u32 0, .slice A M.length cap] w fun e w' => e = .returned (.int .u32 (csI M)) ∧ w = w' := by
  have h0x : bits .xor .u32 0 4294967295 = 4294967295 := by decide +kernel
  have hm : M.length ≤ 9223372036854775807 := by unfold maxLen at hc; omega
  have hBH := Lib.hid hB
  clear hB hc
  go_enter Try.func52, Try.ntmps52
  go_wp2_with fail
  go_loop [5, 6] (fun x j => ∃ k : Nat, k ≤ M.length ∧ j = .int .i64 k ∧ x = .int .u32 ((reg M k : Nat) : Int)) (fun _ j => M.length - (intOf j).toNat)
  case atStart => exact ⟨0, Nat.zero_le _, rfl, rfl⟩
  case round =>
    obtain ⟨k, hk, rfl, rfl⟩ := hrel
    by_cases hlt : k < M.length
    · have hX := reg_lt hBH.out k
      have HS := Lib.hid (reg_succ M k hlt)
      have hC := hBH.out.getD k hlt
      rcases h with ⟨_, hMn⟩ | ⟨b, off, rfl, hcell⟩
      · rw [hMn] at hlt; simp at hlt
      have c0 := hcell k hlt
      clear hcell
      obtain ⟨C, hCe⟩ : ∃ C : Nat, M.getD k 0 = (C : Int) := ⟨(M.getD k 0).toNat, by omega⟩
      rw [hCe] at c0 hC
      have HS : Hid (reg M (k + 1) = cfeed (reg M k) C) := by show _ = _; rw [HS.out, hCe, Int.toNat_natCast]
      clear hCe
      generalize reg M k = X at hX HS ⊢
      go_wp2_with fail
      refine (feed_any X C _ hX (by omega)).mono ?_
      rintro e w1 ⟨rfl, rfl⟩
      go_wp2_with fail
      go_round
      case rel => exact ⟨k + 1, by omega, by go_num, by rw [HS.out]⟩
      case measure => simp [intOf]; omega
    · obtain rfl : k = M.length := by omega
      have hx := u32_xor_nat (reg M M.length) 4294967295 (reg_lt hBH.out _) (by omega)
      rw [reg_all] at hx
      have hx' : bits .xor .u32 ((reg M M.length : Nat) : Int) 4294967295 = csI M := hx
      clear hx hlt
      go_wp2_with fail
      go_ret
      exact ⟨rfl, rfl⟩
theorem rsum_any (A : Option Addr) (n cap : Nat) (M : List Int) (w : World) (h : RB w A M) (hB : BB M) (hn : M.length = n) (hl : n ≤ cap) (hc : cap ≤ maxLen) :
    Calls Try.prog 37 #[.slice A n cap] w fun e w' => e = .returned (.int .u32 (csI M)) ∧ w = w' := by
  subst hn
  go_enter Try.func37, Try.ntmps37
  go_wp2_with (go_at_call 52; refine (rupdate_any A cap M _ h hB hl hc).mono ?_; rintro e w1 ⟨rfl, rfl⟩)
  go_ret
  exact ⟨rfl, rfl⟩
end Go.Proofs.Ytiobnhdcapfhgaa
