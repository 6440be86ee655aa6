/-
  Plain arithmetic of the checksum: a step, a byte, a list of bytes; what a change of bits does.
-/
import Derived.Test.YtiobnhdcapfhgaaProg
namespace Go.Proofs.Ytiobnhdcapfhgaa
set_option linter.unusedVariables false

/-- a step of the checksum's register -/
def cstep (x : Nat) : Nat := if x % 2 = 1 then (x / 2) ^^^ 3988292384 else x / 2
def csteps : Nat → Nat → Nat
  | 0, x => x
  | k + 1, x => csteps k (cstep x)
theorem cstep_zero : cstep 0 = 0 := rfl
theorem csteps_zero (k : Nat) : csteps k 0 = 0 := by
  induction k with
  | zero => rfl
  | succ k ih => simpa [csteps, cstep_zero] using ih
theorem csteps_add (j k x : Nat) : csteps (j + k) x = csteps k (csteps j x) := by
  induction j generalizing x with
  | zero => simp [csteps]
  | succ j ih => rw [Nat.succ_add]; exact ih (cstep x)
theorem cstep_lt {x : Nat} (h : x < 4294967296) : cstep x < 4294967296 := by
  unfold cstep
  split
  · exact Nat.xor_lt_two_pow (n := 32) (by omega) (by omega)
  · omega
theorem csteps_lt {k x : Nat} (h : x < 4294967296) : csteps k x < 4294967296 := by
  induction k generalizing x with
  | zero => exact h
  | succ k ih => exact ih (cstep_lt h)
theorem cstep_xor (a b : Nat) : cstep (a ^^^ b) = cstep a ^^^ cstep b := by
  have h1 : (a ^^^ b) / 2 = a / 2 ^^^ b / 2 := Nat.xor_div_two
  have h2 : (a ^^^ b) % 2 = (a % 2 ^^^ b % 2) := Nat.xor_mod_two_pow (n := 1)
  unfold cstep
  rw [h1, h2]
  rcases Nat.mod_two_eq_zero_or_one a with ha | ha <;> rcases Nat.mod_two_eq_zero_or_one b with hb | hb
  · simp [ha, hb]
  · simp [ha, hb]; ac_rfl
  · simp [ha, hb]; ac_rfl
  · simp [ha, hb]
    have : (a / 2 ^^^ 3988292384) ^^^ (b / 2 ^^^ 3988292384) = a / 2 ^^^ b / 2 := by
      rw [Nat.xor_assoc, ← Nat.xor_assoc 3988292384, Nat.xor_comm 3988292384 (b / 2), Nat.xor_assoc (b / 2), Nat.xor_self, Nat.xor_zero]
    simp [this]
theorem csteps_xor (k a b : Nat) : csteps k (a ^^^ b) = csteps k a ^^^ csteps k b := by
  induction k generalizing a b with
  | zero => rfl
  | succ k ih => simp only [csteps, cstep_xor, ih]
theorem cstep_ne {x : Nat} (h : x < 4294967296) (h0 : x ≠ 0) : cstep x ≠ 0 := by
  unfold cstep
  split
  · intro he
    have : x / 2 = 3988292384 := by
      have h3 := congrArg (· ^^^ 3988292384) he
      simpa [Nat.xor_assoc] using h3
    omega
  · omega
theorem csteps_ne {k x : Nat} (h : x < 4294967296) (h0 : x ≠ 0) : csteps k x ≠ 0 := by
  induction k generalizing x with
  | zero => exact h0
  | succ k ih => exact ih (cstep_lt h) (cstep_ne h h0)
theorem cstep_double (x : Nat) : cstep (2 * x) = x := by
  unfold cstep
  rw [if_neg (by omega)]
  omega
theorem csteps_shift (k x : Nat) : csteps k (2 ^ k * x) = x := by
  induction k generalizing x with
  | zero => simp [csteps]
  | succ k ih =>
    show csteps k (cstep (2 ^ (k + 1) * x)) = x
    rw [Nat.pow_succ, Nat.mul_comm (2 ^ k) 2, Nat.mul_assoc, cstep_double, ih]
theorem csteps_bit (i n : Nat) (h : i ≤ n) : csteps n (2 ^ i) = csteps (n - i) 1 := by
  have : n = i + (n - i) := by omega
  rw [this, csteps_add]
  have h1 : csteps i (2 ^ i) = 1 := by have := csteps_shift i 1; simpa using this
  rw [h1, Nat.add_sub_cancel_left]

/-- a byte is fed -/
def cfeed (x b : Nat) : Nat := csteps 8 (x ^^^ b)
def cupd (x : Nat) (l : List Nat) : Nat := l.foldl cfeed x
/-- the checksum of bytes -/
def csum (l : List Nat) : Nat := cupd 4294967295 l ^^^ 4294967295
theorem cfeed_lt {x b : Nat} (h : x < 4294967296) (hb : b < 256) : cfeed x b < 4294967296 :=
  csteps_lt (Nat.xor_lt_two_pow (n := 32) (by omega) (by omega))
theorem cupd_lt {x : Nat} {l : List Nat} (h : x < 4294967296) (hl : ∀ b ∈ l, b < 256) : cupd x l < 4294967296 := by
  unfold cupd
  induction l generalizing x with
  | nil => exact h
  | cons b l ih => exact ih (cfeed_lt h (hl b (by simp))) (fun c hc => hl c (by simp [hc]))
theorem csum_lt {l : List Nat} (hl : ∀ b ∈ l, b < 256) : csum l < 4294967296 :=
  Nat.xor_lt_two_pow (n := 32) (cupd_lt (by omega) hl) (by omega)
theorem cfeed_xor (x d b : Nat) : cfeed (x ^^^ d) b = cfeed x b ^^^ csteps 8 d := by
  unfold cfeed
  rw [← csteps_xor]
  congr 1
  rw [Nat.xor_assoc, Nat.xor_comm d b, ← Nat.xor_assoc]
theorem cfeed_xor' (x d b : Nat) : cfeed x (b ^^^ d) = cfeed x b ^^^ csteps 8 d := by
  unfold cfeed
  rw [← csteps_xor, Nat.xor_assoc]
theorem cupd_xor (x d : Nat) (l : List Nat) : cupd (x ^^^ d) l = cupd x l ^^^ csteps (8 * l.length) d := by
  unfold cupd
  induction l generalizing x d with
  | nil => simp [csteps]
  | cons b l ih =>
    show List.foldl cfeed (cfeed (x ^^^ d) b) l = List.foldl cfeed (cfeed x b) l ^^^ _
    rw [cfeed_xor, ih, ← csteps_add, List.length_cons]
    congr 2
    omega
theorem cupd_set (x : Nat) (l : List Nat) (j e : Nat) (h : j < l.length) : cupd x (l.set j (l.getD j 0 ^^^ e)) = cupd x l ^^^ csteps (8 * (l.length - j)) e := by
  induction l generalizing x j with
  | nil => simp at h
  | cons b l ih =>
    cases j with
    | zero =>
      show cupd (cfeed x (b ^^^ e)) l = cupd (cfeed x b) l ^^^ _
      rw [cfeed_xor', cupd_xor, ← csteps_add]
      simp only [List.length_cons]
      congr 2
      omega
    | succ j =>
      show cupd (cfeed x b) (l.set j (l.getD j 0 ^^^ e)) = cupd (cfeed x b) l ^^^ _
      rw [ih _ _ (by simpa using h)]
      simp
theorem xor_right_comm (a b c : Nat) : (a ^^^ b) ^^^ c = (a ^^^ c) ^^^ b := by
  rw [Nat.xor_assoc, Nat.xor_comm b c, ← Nat.xor_assoc]
theorem csum_set (l : List Nat) (j e : Nat) (h : j < l.length) : csum (l.set j (l.getD j 0 ^^^ e)) = csum l ^^^ csteps (8 * (l.length - j)) e := by
  unfold csum
  rw [cupd_set _ _ _ _ h, xor_right_comm]
/-- the table's way: a byte's low part by the table, the rest shifted -/
def ctab (i : Nat) : Nat := csteps 8 i
theorem xor_split (x c : Nat) (hc : c < 256) : x ^^^ c = ((x % 256) ^^^ c) ^^^ (2 ^ 8 * (x / 256)) := by
  have h1 : x = (x % 256) ^^^ (2 ^ 8 * (x / 256)) := by
    have hlt : x % 256 < 2 ^ 8 := by omega
    rw [Nat.xor_comm]
    have h2 : 2 ^ 8 * (x / 256) ^^^ (x % 256) = 2 ^ 8 * (x / 256) + x % 256 := by
      have h3 := Nat.two_pow_add_eq_or_of_lt hlt (x / 256)
      apply Nat.eq_of_testBit_eq
      intro i
      rw [h3, Nat.testBit_xor, Nat.testBit_or, Nat.testBit_two_pow_mul]
      by_cases hi : 8 ≤ i
      · have : (x % 256).testBit i = false := Nat.testBit_lt_two_pow (Nat.lt_of_lt_of_le hlt (Nat.pow_le_pow_right (by omega) hi))
        simp [this]
      · simp [hi]
    rw [h2]
    omega
  conv => lhs; rw [h1]
  rw [xor_right_comm]
theorem cfeed_tab (x c : Nat) (hc : c < 256) : cfeed x c = ctab ((x % 256) ^^^ c) ^^^ (x / 256) := by
  unfold cfeed ctab
  rw [xor_split x c hc, csteps_xor, csteps_shift]
end Go.Proofs.Ytiobnhdcapfhgaa
