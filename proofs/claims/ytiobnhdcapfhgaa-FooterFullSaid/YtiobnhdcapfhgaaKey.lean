/-
  key.Check by contract: which strings are keys.
-/
import Derived.Test.YtiobnhdcapfhgaaMem
import Derived.LoopN
import Derived.Outline
import Derived.Laws.Runes
import Derived.Laws.RangeString
import Derived.Laws.RangeAny
import Derived.Deep.QuietTactic
import Derived.BigQuiet
namespace Go.Proofs.Ytiobnhdcapfhgaa
open Go.RowKit
set_option linter.unusedVariables false

/-- a key character -/
def kch (c : Nat) : Bool := decide (c = 45 ∨ c = 46 ∨ (48 ≤ c ∧ c ≤ 57) ∨ c = 95 ∨ (97 ≤ c ∧ c ≤ 122))
def lets : ByteArray := ⟨#[45, 46, 48, 49, 50, 51, 52, 53, 54, 55, 56, 57, 95, 97, 98, 99, 100, 101, 102, 103, 104, 105, 106, 107, 108, 109, 110, 111, 112, 113, 114, 115, 116, 117, 118, 119, 120, 121, 122]⟩
theorem lets_size : lets.size = 39 := rfl
theorem lets_ascii : ∀ b ∈ lets.data.toList, b.toNat < 128 := by decide +kernel
theorem lets_at (i : Nat) (h : i < lets.size) : (lets[i]'h).toNat < 128 := lets_ascii _ (Array.getElem_mem_toList (xs := lets.data) h)
theorem lets_any_all : ∀ c ∈ List.range 128, lets.data.toList.any (· == c.toUInt8) = kch c := by decide +kernel
theorem lets_any (c : Nat) (h : c < 128) : lets.data.toList.any (· == c.toUInt8) = kch c := lets_any_all c (List.mem_range.2 h)

theorem ib_any (s : ByteArray) (c : Int) (w : World) :
    Calls Try.prog 72 #[.string s, .int .u8 c] w fun e w' => e = .returned (.int .i64 (firstIdx s c.toNat.toUInt8)) ∧ w = w' := by
  have hib : ∀ w, (callFunc 77 #[.string s, .int .u8 c]).run Try.prog w = .ok (.value (.int .i64 (firstIdx s c.toNat.toUInt8))) w := fun w => by
    rw [run_callFunc_extern (e := Extern.BytealgIndexByte.indexByte) Try.func77 (by kernel_rfl) (by kernel_rfl) (by kernel_rfl) (by kernel_rfl), run_indexByte_string]
    rfl
  go_enter Try.func72, Try.ntmps72
  go_wp2_with go_in
  go_ret
  exact ⟨rfl, rfl⟩

set_option maxRecDepth 100000 in
set_option maxHeartbeats 1600000 in
theorem ir_ascii (c : Nat) (hc : c < 128) (w : World) :
    Calls Try.prog 71 #[.string lets, .int .i32 c] w fun e w' => e = .returned (.int .i64 (firstIdx lets c.toUInt8)) ∧ w = w' := by
  have h0 : (0 : Int) ≤ (c : Int) := by omega
  have h1 : (c : Int) < 128 := by omega
  have h2 : IntKind.u8.wrap (c : Int) = c := by rw [IntKind.wrap_u8]; omega
  go_enter Try.func71, Try.ntmps71
  go_wp2_with (go_at_call 72; refine (ib_any _ _ _).mono ?_; rintro e w' ⟨rfl, rfl⟩)
  go_ret
  exact ⟨rfl, rfl⟩
theorem cr_ascii (c : Nat) (hc : c < 128) (w : World) :
    Calls Try.prog 68 #[.string lets, .int .i32 c] w fun e w' => e = .returned (.bool (kch c)) ∧ w = w' := by
  have hk := lets_any c hc
  rw [← firstIdx_nonneg] at hk
  rw [← hk]
  clear hk
  go_enter Try.func68, Try.ntmps68
  go_wp2_with (go_at_call 71; refine (ir_ascii c hc _).mono ?_; rintro e w' ⟨rfl, rfl⟩)
  go_ret
  exact ⟨rfl, rfl⟩

theorem vr_no (r : Int) (h : validRune r = false) (w : World) :
    Calls Try.prog 73 #[.int .i32 r] w fun e w' => e = .returned (.bool false) ∧ w = w' := by
  unfold validRune at h
  have h' := of_decide_eq_false h
  by_cases h0 : 0 ≤ r
  · have h1 : ¬ r < 55296 := by omega
    by_cases h2 : 57343 < r
    · have h3 : ¬ r ≤ 1114111 := by omega
      go_enter Try.func73, Try.ntmps73
      go_wp2
      go_ret
      exact ⟨rfl, rfl⟩
    · clear h h'
      go_enter Try.func73, Try.ntmps73
      go_wp2
      go_ret
      exact ⟨rfl, rfl⟩
  · have h2 : ¬ 57343 < r := by omega
    clear h h'
    go_enter Try.func73, Try.ntmps73
    go_wp2
    go_ret
    exact ⟨rfl, rfl⟩
theorem vr_yes (r : Int) (h : validRune r = true) (w : World) :
    Calls Try.prog 73 #[.int .i32 r] w fun e w' => e = .returned (.bool true) ∧ w = w' := by
  unfold validRune at h
  have h' := of_decide_eq_true h
  have h0 : 0 ≤ r := by omega
  by_cases h1 : r < 55296
  · clear h h'
    go_enter Try.func73, Try.ntmps73
    go_wp2
    go_ret
    exact ⟨rfl, rfl⟩
  · have h2 : 57343 < r := by omega
    have h3 : r ≤ 1114111 := by omega
    clear h h'
    go_enter Try.func73, Try.ntmps73
    go_wp2
    go_ret
    exact ⟨rfl, rfl⟩

set_option maxRecDepth 100000 in
set_option maxHeartbeats 1600000 in
/-- a rune beyond ASCII is not among the letters -/
theorem ir_error (w : World) :
    Calls Try.prog 71 #[.string lets, .int .i32 65533] w fun e w' => e = .returned (.int .i64 (-1)) ∧ Below w.heap.size w w' := by
  have hL := lets_size
  go_enter Try.func71, Try.ntmps71
  go_wp2
  go_loopw [5, 6] (fun _ _ wr => ∃ pos : Nat, pos ≤ 39 ∧ wr = w.iter lets pos) (fun _ _ wr => 39 - wr.iterPos w.heap.size)
  case atStart => exact ⟨0, by omega, rfl⟩
  case round =>
    obtain ⟨pos, hps, rfl⟩ := hrel
    have hmu : ∀ p, (w.iter lets p).iterPos w.heap.size = p := fun p => World.iterPos_iter w lets p
    by_cases hp : pos < lets.size
    · have h128 := lets_at pos hp
      have hne : ((((lets[pos]'hp).toNat : Nat) : Int) == 65533) = false := by rw [beq_eq_false_iff_ne]; omega
      have hnext : ∀ ty, (Instr.next (.pointer (some ⟨w.heap.size, 0, none⟩)) true ty).run Try.prog (w.iter lets pos) = _ := fun ty => run_next_ascii w lets pos ty hp h128
      generalize (((lets[pos]'hp).toNat : Nat) : Int) = c at hne hnext
      have HM := Lib.hid hmu
      clear hmu hL
      go_wp2
      go_roundw
      case rel => exact ⟨pos + 1, by have := lets_size; omega, rfl⟩
      case measure => rw [HM.out, HM.out]; have := lets_size; omega
    · have hnext : ∀ ty, (Instr.next (.pointer (some ⟨w.heap.size, 0, none⟩)) true ty).run Try.prog (w.iter lets pos) = _ := fun ty => run_next_end w lets pos ty hp
      clear hmu hL
      go_wp2
      go_ret
      exact ⟨rfl, b_alloc (Below.refl _ _) _⟩
set_option maxRecDepth 100000 in
set_option maxHeartbeats 1600000 in
theorem ir_bad (r : Int) (h : validRune r = false) (h1 : ¬ (0 ≤ r ∧ r < 128)) (h2 : (r == 65533) = false) (w : World) :
    Calls Try.prog 71 #[.string lets, .int .i32 r] w fun e w' => e = .returned (.int .i64 (-1)) ∧ w = w' := by
  by_cases h0 : 0 ≤ r
  · have h3 : ¬ r < 128 := fun h => h1 ⟨h0, h⟩
    clear h1
    go_enter Try.func71, Try.ntmps71
    go_wp2_with (go_at_call 73; refine (vr_no r h _).mono ?_; rintro e w' ⟨rfl, rfl⟩)
    go_ret
    exact ⟨rfl, rfl⟩
  · clear h1
    go_enter Try.func71, Try.ntmps71
    go_wp2_with (go_at_call 73; refine (vr_no r h _).mono ?_; rintro e w' ⟨rfl, rfl⟩)
    go_ret
    exact ⟨rfl, rfl⟩

set_option maxRecDepth 100000 in
set_option maxHeartbeats 1600000 in
theorem ir_far (r : Int) (h : validRune r = true) (h1 : 128 ≤ r) (h2 : (r == 65533) = false) (w : World) :
    Calls Try.prog 71 #[.string lets, .int .i32 r] w fun e w' => e = .returned (.int .i64 (-1)) ∧ ∃ n, w' = w.drewN n := by
  obtain ⟨e2, e4, e128⟩ := encode_facts r (by rw [validRune_eq]; exact h) h1
  have hlt : ¬ r < 128 := by omega
  have h0 : 0 ≤ r := by omega
  obtain ⟨rs, hrs⟩ : ∃ rs, Utf8.encode r = rs := ⟨_, rfl⟩
  rw [hrs] at e2 e4 e128
  obtain ⟨n, hn⟩ : ∃ n : Nat, rs.size = n + 1 := ⟨rs.size - 1, by omega⟩
  have hn3 : n ≤ 3 := by omega
  have hn1 : 1 ≤ n := by omega
  have hb : n < rs.size := by omega
  have hl : n < lets.size := by rw [lets_size]; omega
  have hr128 : 128 ≤ (rs[n]'hb).toNat := by
    have h5 := e128 (by omega)
    have h6 : rs.size - 1 = n := by omega
    simp only [h6] at h5
    exact h5
  have hx : firstIdx (lets.extract (n + 1) lets.size) (rs[n]'hb) = -1 := firstIdx_ascii lets _ _ _ lets_ascii hr128
  have hd := lets_at n hl
  have hn' : n = 1 ∨ n = 2 ∨ n = 3 := by omega
  clear e2 e4 e128 hn3 hn1
  rcases hn' with rfl | rfl | rfl
  · have hne : ((((lets[1]'hl).toNat : Nat) : Int) != (((rs[1]'hb).toNat : Nat) : Int)) = true := by simp only [bne_iff_ne, ne_eq]; omega
    have hx' : firstIdx (lets.extract 2 lets.size) (rs[1]'hb) = -1 := hx
    have hw1 : IntKind.i64.wrap 2 = 2 := by decide
    have hl2 : (2 : Int) ≤ (lets.size : Int) := by rw [lets_size]; decide
    have hl3 : 2 ≤ lets.size := by rw [lets_size]; decide
    clear hx hr128 hd
    go_enter Try.func71, Try.ntmps71
    go_wp2_with (go_at_call 73; refine (vr_yes r h _).mono ?_; rintro e w' ⟨rfl, rfl⟩)
    go_step3
    go_wp2
    refine wp_loop_rounds 1 ?_
    rw [rounds_succ]
    go_wp2
    go_step3
    go_wp2
    go_quiet (fail)
    go_wp2
    obtain ⟨w2, hw2⟩ : ∃ w2, w.drewN nq = w2 := ⟨_, rfl⟩
    rw [hw2]
    have HW := Lib.hid hw2
    clear hw2
    go_quiet ((go_at_call 72; exact Calls.quiet_of_same ((ib_any _ _ _).mono fun _ _ h => ⟨h.1, h.2.symm⟩)))
    go_wp2
    rw [Exit.noGoto_ret]
    go_wp2
    rw [Exit.noGoto_ret]
    go_ret
    exact ⟨rfl, by rw [← HW.out]; exact ⟨_, World.drewN_drewN _ _ _⟩⟩
  · have hne : ((((lets[2]'hl).toNat : Nat) : Int) != (((rs[2]'hb).toNat : Nat) : Int)) = true := by simp only [bne_iff_ne, ne_eq]; omega
    have hx' : firstIdx (lets.extract 3 lets.size) (rs[2]'hb) = -1 := hx
    have hw1 : IntKind.i64.wrap 3 = 3 := by decide
    have hl2 : (3 : Int) ≤ (lets.size : Int) := by rw [lets_size]; decide
    have hl3 : 3 ≤ lets.size := by rw [lets_size]; decide
    clear hx hr128 hd
    go_enter Try.func71, Try.ntmps71
    go_wp2_with (go_at_call 73; refine (vr_yes r h _).mono ?_; rintro e w' ⟨rfl, rfl⟩)
    go_step3
    go_wp2
    refine wp_loop_rounds 1 ?_
    rw [rounds_succ]
    go_wp2
    go_step3
    go_wp2
    go_quiet (fail)
    go_wp2
    obtain ⟨w2, hw2⟩ : ∃ w2, w.drewN nq = w2 := ⟨_, rfl⟩
    rw [hw2]
    have HW := Lib.hid hw2
    clear hw2
    go_quiet ((go_at_call 72; exact Calls.quiet_of_same ((ib_any _ _ _).mono fun _ _ h => ⟨h.1, h.2.symm⟩)))
    go_wp2
    rw [Exit.noGoto_ret]
    go_wp2
    rw [Exit.noGoto_ret]
    go_ret
    exact ⟨rfl, by rw [← HW.out]; exact ⟨_, World.drewN_drewN _ _ _⟩⟩
  · have hne : ((((lets[3]'hl).toNat : Nat) : Int) != (((rs[3]'hb).toNat : Nat) : Int)) = true := by simp only [bne_iff_ne, ne_eq]; omega
    have hx' : firstIdx (lets.extract 4 lets.size) (rs[3]'hb) = -1 := hx
    have hw1 : IntKind.i64.wrap 4 = 4 := by decide
    have hl2 : (4 : Int) ≤ (lets.size : Int) := by rw [lets_size]; decide
    have hl3 : 4 ≤ lets.size := by rw [lets_size]; decide
    clear hx hr128 hd
    go_enter Try.func71, Try.ntmps71
    go_wp2_with (go_at_call 73; refine (vr_yes r h _).mono ?_; rintro e w' ⟨rfl, rfl⟩)
    go_step3
    go_wp2
    refine wp_loop_rounds 1 ?_
    rw [rounds_succ]
    go_wp2
    go_step3
    go_wp2
    go_quiet (fail)
    go_wp2
    obtain ⟨w2, hw2⟩ : ∃ w2, w.drewN nq = w2 := ⟨_, rfl⟩
    rw [hw2]
    have HW := Lib.hid hw2
    clear hw2
    go_quiet ((go_at_call 72; exact Calls.quiet_of_same ((ib_any _ _ _).mono fun _ _ h => ⟨h.1, h.2.symm⟩)))
    go_wp2
    rw [Exit.noGoto_ret]
    go_wp2
    rw [Exit.noGoto_ret]
    go_ret
    exact ⟨rfl, by rw [← HW.out]; exact ⟨_, World.drewN_drewN _ _ _⟩⟩

/-- a rune beyond ASCII is no key character -/
theorem cr_far (r : Int) (h1 : 128 ≤ r) (w : World) :
    Calls Try.prog 68 #[.string lets, .int .i32 r] w fun e w' => e = .returned (.bool false) ∧ Below w.heap.size w w' := by
  by_cases h2 : r = 65533
  · subst h2
    go_enter Try.func68, Try.ntmps68
    go_wp2_with (go_at_call 71; refine (ir_error _).mono ?_; rintro e w' ⟨rfl, hb⟩)
    go_ret
    exact ⟨rfl, hb⟩
  · have h3 : (r == 65533) = false := by simpa using h2
    cases hv : validRune r with
    | true =>
      go_enter Try.func68, Try.ntmps68
      go_wp2_with (go_at_call 71; refine (ir_far r hv h1 h3 _).mono ?_; rintro e w' ⟨rfl, n, rfl⟩)
      go_ret
      exact ⟨rfl, below_drewN (Below.refl _ _) n⟩
    | false =>
      go_enter Try.func68, Try.ntmps68
      go_wp2_with (go_at_call 71; refine (ir_bad r hv (by omega) h3 _).mono ?_; rintro e w' ⟨rfl, rfl⟩)
      go_ret
      exact ⟨rfl, Below.refl _ _⟩

/-- all characters are key characters -/
def keyAll (s : ByteArray) : Prop := ∀ i (h : i < s.size), kch (s[i]'h).toNat = true
theorem kch_lt {c : Nat} (h : kch c = true) : c < 128 := by unfold kch at h; have := of_decide_eq_true h; omega

theorem isEmpty_of {s : ByteArray} (h : s.size ≠ 0) : s.toList.isEmpty = false := by
  rw [← decide_eq_emptyBytes]
  simp only [decide_eq_false_iff_not]
  rintro rfl
  exact h rfl
theorem empty_of {s : ByteArray} (h : s.size = 0) : s = ⟨#[]⟩ := by
  obtain ⟨d⟩ := s
  have : d.size = 0 := h
  rw [Array.eq_empty_of_size_eq_zero this]

/-- the error of a string whose characters are all key characters -/
def keyErr (n : Nat) : Int := if n = 0 then 2 else if 32 < n then 12 else 0

set_option maxHeartbeats 800000 in
theorem keyc_all (s : ByteArray) (h : keyAll s) (hs : s.size ≤ maxLen) (w : World) :
    Calls Try.prog 55 #[.string s] w fun e w' => e = .returned (.int .i64 (keyErr s.size)) ∧ Below w.heap.size w w' := by
  unfold maxLen at hs
  have hcast : (s.size : Int) ≤ 9223372036854775807 := by omega
  go_enter Try.func55, Try.ntmps55
  go_wp2
  go_loopw [4] (fun _ wr => ∃ pos : Nat, pos ≤ s.size ∧ wr = w.iter s pos) (fun _ wr => s.size - wr.iterPos w.heap.size)
  case atStart => exact ⟨0, by omega, rfl⟩
  case round =>
    obtain ⟨pos, hps, rfl⟩ := hrel
    have HM : Hid (∀ p, (w.iter s p).iterPos w.heap.size = p) := fun p => World.iterPos_iter w s p
    by_cases hp : pos < s.size
    · have hk := h pos hp
      have hnext : ∀ ty, (Instr.next (.pointer (some ⟨w.heap.size, 0, none⟩)) true ty).run Try.prog (w.iter s pos) = _ := fun ty => run_next_ascii w s pos ty hp (kch_lt hk)
      have hc := cr_ascii _ (kch_lt hk)
      rw [hk] at hc
      generalize (s[pos]'hp).toNat = c at hc hnext
      clear hk h
      go_wp2_with (go_at_call 68; refine (hc _).mono ?_; rintro e w' ⟨rfl, rfl⟩)
      go_roundw
      case rel => exact ⟨pos + 1, by omega, rfl⟩
      case measure => rw [HM.out, HM.out]; omega
    · have hnext : ∀ ty, (Instr.next (.pointer (some ⟨w.heap.size, 0, none⟩)) true ty).run Try.prog (w.iter s pos) = _ := fun ty => run_next_end w s pos ty hp
      have hB : Hid (Below w.heap.size w (w.iter s pos)) := b_alloc (Below.refl _ _) _
      clear h
      by_cases hz : s.size = 0
      · obtain rfl := empty_of hz
        clear hz
        go_wp2
        go_ret
        exact ⟨rfl, hB.out⟩
      · have hE := isEmpty_of hz
        by_cases hl : 32 < s.size
        · have HV : Hid (keyErr s.size = 12) := by show _ = _; unfold keyErr; rw [if_neg hz, if_pos hl]
          clear hz
          go_wp2
          go_ret
          exact ⟨ret_int HV.out.symm, hB.out⟩
        · have HV : Hid (keyErr s.size = 0) := by show _ = _; unfold keyErr; rw [if_neg hz, if_neg hl]
          clear hz
          go_wp2
          go_ret
          exact ⟨ret_int HV.out.symm, hB.out⟩

theorem first_of {p : Nat → Prop} (n : Nat) (h : p n) : ∃ m, p m ∧ ∀ i, i < m → ¬ p i := by
  induction n using Nat.strongRecOn with
  | _ n ih =>
    by_cases hx : ∃ i, i < n ∧ p i
    · obtain ⟨i, hi, hp⟩ := hx
      exact ih i hi hp
    · exact ⟨n, h, fun i hi hp => hx ⟨i, hi, hp⟩⟩
/-- the first character that is no key character -/
theorem first_bad (s : ByteArray) (h : ¬ keyAll s) : ∃ j, ∃ hj : j < s.size, kch (s[j]'hj).toNat = false ∧ ∀ i (hi : i < s.size), i < j → kch (s[i]'hi).toNat = true := by
  have hex : ∃ j, ∃ hj : j < s.size, kch (s[j]'hj).toNat = false := by
    refine Classical.byContradiction fun hn => h fun i hi => ?_
    cases hk : kch (s[i]'hi).toNat with
    | true => rfl
    | false => exact absurd ⟨i, hi, hk⟩ hn
  have hex' : ∃ j, j < s.size ∧ kch (s.get! j).toNat = false := by
    obtain ⟨j, hj, hk⟩ := hex
    exact ⟨j, hj, by rw [show s.get! j = s[j]'hj from get_at s j hj]; exact hk⟩
  obtain ⟨n, hn⟩ := hex'
  obtain ⟨m, ⟨hm1, hm2⟩, hm3⟩ := first_of (p := fun j => j < s.size ∧ kch (s.get! j).toNat = false) n hn
  refine ⟨m, hm1, by rw [← show s.get! m = s[m]'hm1 from get_at s m hm1]; exact hm2, fun i hi him => ?_⟩
  have := hm3 i him
  rw [show s.get! i = s[i]'hi from get_at s i hi] at this
  cases hk : kch (s[i]'hi).toNat with
  | true => rfl
  | false => exact absurd ⟨hi, hk⟩ this
set_option maxHeartbeats 800000 in
theorem keyc_bad (s : ByteArray) (h : ¬ keyAll s) (hs : s.size ≤ maxLen) (w : World) :
    Calls Try.prog 55 #[.string s] w fun e w' => e = .returned (.int .i64 2) ∧ Below w.heap.size w w' := by
  unfold maxLen at hs
  have hcast : (s.size : Int) ≤ 9223372036854775807 := by omega
  obtain ⟨j, hj, hbad, hgood⟩ := first_bad s h
  clear h
  go_enter Try.func55, Try.ntmps55
  go_wp2
  go_loopw [4] (fun _ wr => ∃ pos : Nat, pos ≤ j ∧ wr = w.iter s pos) (fun _ wr => s.size - wr.iterPos w.heap.size)
  case atStart => exact ⟨0, by omega, rfl⟩
  case round =>
    obtain ⟨pos, hps, rfl⟩ := hrel
    have HM : Hid (∀ p, (w.iter s p).iterPos w.heap.size = p) := fun p => World.iterPos_iter w s p
    have hp : pos < s.size := by omega
    by_cases hpj : pos < j
    · have hk := hgood pos hp hpj
      have hnext : ∀ ty, (Instr.next (.pointer (some ⟨w.heap.size, 0, none⟩)) true ty).run Try.prog (w.iter s pos) = _ := fun ty => run_next_ascii w s pos ty hp (kch_lt hk)
      have hc := cr_ascii _ (kch_lt hk)
      rw [hk] at hc
      generalize (s[pos]'hp).toNat = c at hc hnext
      clear hk hgood hbad
      go_wp2_with (go_at_call 68; refine (hc _).mono ?_; rintro e w' ⟨rfl, rfl⟩)
      go_roundw
      case rel => exact ⟨pos + 1, by omega, rfl⟩
      case measure => rw [HM.out, HM.out]; omega
    · obtain rfl : pos = j := by omega
      by_cases h128 : (s[pos]'hp).toNat < 128
      · have hnext : ∀ ty, (Instr.next (.pointer (some ⟨w.heap.size, 0, none⟩)) true ty).run Try.prog (w.iter s pos) = _ := fun ty => run_next_ascii w s pos ty hp h128
        have hc := cr_ascii _ h128
        rw [hbad] at hc
        generalize (s[pos]'hp).toNat = c at hc hnext
        clear hgood hbad h128
        go_wp2_with (go_at_call 68; refine (hc _).mono ?_; rintro e w' ⟨rfl, rfl⟩)
        go_ret
        exact ⟨rfl, b_alloc (Below.refl _ _) _⟩
      · have hnext : ∀ ty, (Instr.next (.pointer (some ⟨w.heap.size, 0, none⟩)) true ty).run Try.prog (w.iter s pos) = _ := fun ty => run_next_any w s pos ty hp
        have hdh := (decode_high s pos hp (by omega)).1
        have hc := cr_far ((Utf8.decode s pos).1 : Int) (by omega)
        have hY : Hid (Below w.heap.size w (w.iter s (pos + (Utf8.decode s pos).2))) := b_alloc (Below.refl _ _) _
        generalize ((Utf8.decode s pos).1 : Int) = c at hc hnext
        generalize w.iter s (pos + (Utf8.decode s pos).2) = W1 at hnext hY
        clear hgood hbad h128 hdh
        go_wp2_with (go_at_call 68; refine (hc _).mono ?_; rintro e w' ⟨rfl, hb⟩)
        go_ret
        exact ⟨rfl, b_then hY.out hb⟩
end Go.Proofs.Ytiobnhdcapfhgaa
