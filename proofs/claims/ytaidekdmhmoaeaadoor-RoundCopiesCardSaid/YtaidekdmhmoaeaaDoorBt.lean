/-
  Sets of slots as the bits of a number: the slots in order, the lowest one, one more, one less, how many. No program.
-/
import Derived.Lib.TrailingZeros
import Derived.Lib.BitFns
import Derived.Laws.BitsAllLaws
namespace Go.Proofs.YtaidekdmhmoaeaaDoor.Bt
set_option linter.unusedVariables false
/-- the slots of a set, in order -/
def slots (M : Nat) : List Nat := (List.range 32).filter M.testBit
theorem slots_zero : slots 0 = [] := by
  unfold slots
  rw [List.filter_eq_nil_iff]
  intro a _
  simp
theorem mem_slots {M x : Nat} : x ∈ slots M ↔ x < 32 ∧ M.testBit x = true := by
  unfold slots
  rw [List.mem_filter, List.mem_range]
theorem filter_first {p q : Nat → Bool} {k : Nat} (hp : p k = true) (hl : ∀ i, i < k → p i = false) (hq : ∀ i, q i = (p i && decide (i ≠ k))) : ∀ s, (k < s → (List.range s).filter p = k :: (List.range s).filter q) ∧ (s ≤ k → (List.range s).filter p = [] ∧ (List.range s).filter q = []) := by
  intro s
  induction s with
  | zero => exact ⟨fun h => absurd h (Nat.not_lt_zero _), fun _ => ⟨rfl, rfl⟩⟩
  | succ s ih =>
    rw [List.range_succ, List.filter_append, List.filter_append]
    refine ⟨fun h => ?_, fun h => ?_⟩
    · rcases Nat.lt_or_ge k s with hk | hk
      · rw [ih.1 hk]
        have e : q s = p s := by rw [hq]; simp; intro _; omega
        simp [List.filter, e]
      · obtain rfl : k = s := by omega
        rw [(ih.2 hk).1, (ih.2 hk).2]
        have e : q k = false := by rw [hq]; simp
        simp [List.filter, e, hp]
    · have h1 := ih.2 (by omega)
      rw [h1.1, h1.2]
      have e : p s = false := hl s (by omega)
      have e' : q s = false := by rw [hq, e]; rfl
      simp [List.filter, e, e']
theorem low_bits {M : Nat} (h0 : M ≠ 0) (hM : M < 2 ^ 32) : Lib.ctz 32 M < 32 ∧ M.testBit (Lib.ctz 32 M) = true ∧ (∀ i, i < Lib.ctz 32 M → M.testBit i = false) ∧ ∀ i, (M &&& (M - 1)).testBit i = (M.testBit i && decide (i ≠ Lib.ctz 32 M)) := by
  have hk : Lib.ctz 32 M = Lib.ctzFrom 32 M := by unfold Lib.ctz; rw [if_neg h0]
  obtain ⟨m, hm, hlt⟩ := Lib.ctzFrom_spec 32 M (by omega) hM
  rw [hk]
  generalize Lib.ctzFrom 32 M = k at hm hlt
  have hp : 0 < 2 ^ k := Nat.two_pow_pos k
  have e1 : M = 2 ^ k * (2 * m + 1) + 0 := hm
  have e2 : M - 1 = 2 ^ k * (2 * m) + (2 ^ k - 1) := by
    rw [hm, Nat.mul_add, Nat.mul_one]
    omega
  have t1 : ∀ i, M.testBit i = if i < k then false else (2 * m + 1).testBit (i - k) := by
    intro i
    rw [e1, Nat.testBit_two_pow_mul_add _ hp]
    simp
  have t2 : ∀ i, k ≤ i → (M - 1).testBit i = (2 * m).testBit (i - k) := by
    intro i hi
    rw [e2, Nat.testBit_two_pow_mul_add _ (by omega), if_neg (by omega)]
  refine ⟨hlt, ?_, fun i hi => ?_, fun i => ?_⟩
  · rw [t1, if_neg (by omega), Nat.sub_self, Nat.testBit_zero]
    simp
  · rw [t1, if_pos hi]
  · rw [Nat.testBit_and]
    by_cases hi : i < k
    · rw [t1, if_pos hi]; rfl
    · rw [t2 i (by omega), t1, if_neg hi]
      by_cases he : i = k
      · subst he
        rw [Nat.sub_self, Nat.testBit_zero, Nat.testBit_zero]
        simp
      · obtain ⟨j, hj⟩ : ∃ j, i - k = j + 1 := ⟨i - k - 1, by omega⟩
        rw [hj, Nat.testBit_succ, Nat.testBit_succ, show (2 * m + 1) / 2 = m by omega, show 2 * m / 2 = m by omega]
        simp [he]
theorem slots_cons {M : Nat} (h0 : M ≠ 0) (hM : M < 2 ^ 32) : slots M = Lib.ctz 32 M :: slots (M &&& (M - 1)) := by
  obtain ⟨h1, h2, h3, h4⟩ := low_bits h0 hM
  exact (filter_first h2 h3 h4 32).1 h1
theorem drop_lt {M : Nat} (hM : M < 2 ^ 32) : M &&& (M - 1) < 2 ^ 32 := Nat.lt_of_le_of_lt Nat.and_le_left hM
theorem slots_nil {M : Nat} (hM : M < 2 ^ 32) : slots M = [] ↔ M = 0 := by
  refine ⟨fun h => ?_, fun h => by rw [h]; exact slots_zero⟩
  rcases Nat.eq_zero_or_pos M with h0 | h0
  · exact h0
  · rw [slots_cons (by omega) hM] at h
    cases h
/-- one more -/
theorem bit_or (M x i : Nat) : (M ||| 2 ^ x).testBit i = (M.testBit i || decide (i = x)) := by
  rw [Nat.testBit_or, Nat.testBit_two_pow]
  congr 1
  simp [eq_comm]
/-- one less -/
theorem bit_del {M x : Nat} (hM : M < 2 ^ 32) (hx : x < 32) (i : Nat) : (M &&& (4294967295 - 2 ^ x)).testBit i = (M.testBit i && decide (i ≠ x)) := by
  have e : 4294967295 - 2 ^ x = 2 ^ 32 - (2 ^ x + 1) := by omega
  rw [Nat.testBit_and, e, Nat.testBit_two_pow_sub_succ (Nat.pow_lt_pow_right (by omega) hx), Nat.testBit_two_pow]
  by_cases hi : i < 32
  · simp [hi, eq_comm]
  · have : M.testBit i = false := Nat.testBit_lt_two_pow (Nat.lt_of_lt_of_le hM (Nat.pow_le_pow_right (by omega) (by omega)))
    rw [this]; rfl
theorem or_lt {M x : Nat} (hM : M < 2 ^ 32) (hx : x < 32) : M ||| 2 ^ x < 2 ^ 32 := Nat.or_lt_two_pow hM (Nat.pow_lt_pow_right (by omega) hx)
theorem count_more {p q : Nat → Bool} {x : Nat} (hq : ∀ i, q i = (p i || decide (i = x))) : ∀ s, ((List.range s).filter q).length = ((List.range s).filter p).length + (if x < s ∧ p x = false then 1 else 0) := by
  intro s
  induction s with
  | zero => simp
  | succ s ih =>
    rw [List.range_succ, List.filter_append, List.filter_append, List.length_append, List.length_append, ih]
    by_cases hx : s = x
    · subst hx
      have e : q s = true := by rw [hq]; simp
      rw [if_neg (by omega)]
      cases h : p s <;> simp [List.filter, e, h]
    · have e : q s = p s := by rw [hq]; simp [hx]
      have : (if x < s ∧ p x = false then 1 else 0) = (if x < s + 1 ∧ p x = false then 1 else 0) := by
        by_cases h1 : x < s
        · simp [h1, Nat.lt_succ_of_lt h1]
        · rw [if_neg (by omega), if_neg (by omega)]
      rw [this]
      cases h : p s <;> simp [List.filter, e, h] <;> omega
/-- slots one behind the other into a set -/
def orAll (M : Nat) (xs : List Nat) : Nat := xs.foldl (fun m x => m ||| 2 ^ x) M
/-- is a slot there twice? -/
def dup : Nat → List Nat → Bool
  | _, [] => false
  | M, x :: xs => M.testBit x || dup (M ||| 2 ^ x) xs
theorem or_bits : ∀ (xs : List Nat) (M : Nat), (∀ x ∈ xs, x < 32) → (slots (orAll M xs)).length ≤ (slots M).length + xs.length ∧ ((slots (orAll M xs)).length = (slots M).length + xs.length ↔ dup M xs = false)
  | [], M, _ => by simp [orAll, dup]
  | x :: xs, M, h => by
    have ih := or_bits xs (M ||| 2 ^ x) (fun y hy => h y (by simp [hy]))
    have hc := count_more (bit_or M x) 32
    have hx := h x (by simp)
    have e : orAll M (x :: xs) = orAll (M ||| 2 ^ x) xs := rfl
    have hs : (slots (M ||| 2 ^ x)).length = (slots M).length + (if x < 32 ∧ M.testBit x = false then 1 else 0) := hc
    rw [e]
    simp only [List.length_cons, dup]
    cases hb : M.testBit x with
    | true =>
      rw [if_neg (by simp [hb])] at hs
      refine ⟨by omega, ⟨fun h => by omega, fun h => by simp at h⟩⟩
    | false =>
      rw [if_pos ⟨hx, hb⟩] at hs
      refine ⟨by omega, ?_⟩
      rw [Bool.false_or, ← ih.2]
      omega
theorem orAll_lt : ∀ (xs : List Nat) (M : Nat), M < 2 ^ 32 → (∀ x ∈ xs, x < 32) → orAll M xs < 2 ^ 32
  | [], _, h, _ => h
  | x :: xs, M, h, hx => orAll_lt xs _ (or_lt h (hx x (by simp))) (fun y hy => hx y (by simp [hy]))
theorem orAll_bit : ∀ (xs : List Nat) (M i : Nat), (orAll M xs).testBit i = (M.testBit i || decide (i ∈ xs))
  | [], M, i => by simp [orAll]
  | x :: xs, M, i => by
    rw [show orAll M (x :: xs) = orAll (M ||| 2 ^ x) xs from rfl, orAll_bit xs, bit_or]
    simp [Bool.or_assoc]
end Go.Proofs.YtaidekdmhmoaeaaDoor.Bt
