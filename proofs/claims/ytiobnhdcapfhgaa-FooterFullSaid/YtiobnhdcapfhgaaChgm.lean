/-
  Plain: bytes of a record of which some bits were flipped are not decoded.
-/
import Derived.Test.YtiobnhdcapfhgaaRecp
namespace Go.Proofs.Ytiobnhdcapfhgaa
open Go.RowKit
set_option linter.unusedVariables false

/-- bit k flipped -/
def flip (E : List Int) (k : Nat) : List Int := E.set (k / 8) (((E.getD (k / 8) 0).toNat ^^^ 2 ^ (k % 8) : Nat) : Int)
theorem flip_length (E : List Int) (k : Nat) : (flip E k).length = E.length := by simp [flip]
theorem xor_byte {a m : Nat} (h : a < 256) (hm : m < 8) : a ^^^ 2 ^ m < 256 := Nat.xor_lt_two_pow (n := 8) h (Nat.pow_lt_pow_right (by omega) hm)
theorem flip_bb {E : List Int} (h : BB E) (k : Nat) : BB (flip E k) := by
  intro x hx
  rcases List.mem_or_eq_of_mem_set hx with hx | rfl
  · exact h x hx
  · have hk : (E.getD (k / 8) 0).toNat < 256 := by
      by_cases hl : k / 8 < E.length
      · have := h.getD (k / 8) hl; omega
      · rw [List.getD_eq_getElem?_getD, List.getElem?_eq_none (by omega)]; simp
    have := xor_byte hk (show k % 8 < 8 by omega)
    omega
theorem flip_other (E : List Int) (k i : Nat) (h : i ≠ k / 8) : (flip E k).getD i 0 = E.getD i 0 := by
  unfold flip
  rw [List.getD_eq_getElem?_getD, List.getElem?_set_ne (by omega), List.getD_eq_getElem?_getD]
theorem flip_same (E : List Int) (k : Nat) (h : k / 8 < E.length) : (flip E k).getD (k / 8) 0 = (((E.getD (k / 8) 0).toNat ^^^ 2 ^ (k % 8) : Nat) : Int) := by
  unfold flip
  rw [List.getD_eq_getElem?_getD, List.getElem?_set_self h]
  rfl
theorem flip_drop4 (E : List Int) (k : Nat) (h : 4 ≤ k / 8) : (flip E k).drop 4 = flip (E.drop 4) (k - 32) := by
  unfold flip
  have e1 : (k - 32) / 8 = k / 8 - 4 := by omega
  have e2 : (k - 32) % 8 = k % 8 := by omega
  rw [e1, e2, List.drop_set, if_neg (by omega)]
  congr 3
  rw [List.getD_eq_getElem?_getD, List.getD_eq_getElem?_getD, List.getElem?_drop, show 4 + (k / 8 - 4) = k / 8 by omega]
theorem flip_drop4' (E : List Int) (k : Nat) (h : k / 8 < 4) : (flip E k).drop 4 = E.drop 4 := by
  unfold flip
  rw [List.drop_set, if_pos h]
/-- the checksum of flipped bytes, in letters -/
def csN (E : List Int) : Nat := csum (E.map Int.toNat)
theorem csI_eq (E : List Int) : csI E = (csN E : Nat) := rfl
theorem csN_flip {E : List Int} (k : Nat) (h : k / 8 < E.length) : csN (flip E k) = csN E ^^^ csteps (8 * E.length - k) 1 := by
  unfold csN flip
  rw [List.map_set]
  have h1 : (((((E.getD (k / 8) 0).toNat ^^^ 2 ^ (k % 8) : Nat) : Int)).toNat) = (E.map Int.toNat).getD (k / 8) 0 ^^^ 2 ^ (k % 8) := by
    rw [Int.toNat_natCast, List.getD_eq_getElem?_getD, List.getD_eq_getElem?_getD, List.getElem?_map, List.getElem?_eq_getElem h]
    rfl
  rw [h1, csum_set _ _ _ (by rw [List.length_map]; exact h), List.length_map, csteps_bit _ _ (by omega)]
  congr 2
  omega
theorem pow_xor (a b n : Nat) : 2 ^ n * (a ^^^ b) = 2 ^ n * a ^^^ 2 ^ n * b := by
  apply Nat.eq_of_testBit_eq
  intro i
  rw [Nat.testBit_xor, Nat.testBit_two_pow_mul, Nat.testBit_two_pow_mul, Nat.testBit_two_pow_mul, Nat.testBit_xor]
  by_cases h : n ≤ i <;> simp [h]
theorem add_xor {x n : Nat} (h : x < 2 ^ n) (y : Nat) : x + 2 ^ n * y = x ^^^ 2 ^ n * y := by
  rw [Nat.add_comm]
  rw [Nat.two_pow_add_eq_or_of_lt h y]
  apply Nat.eq_of_testBit_eq
  intro i
  rw [Nat.testBit_or, Nat.testBit_xor, Nat.testBit_two_pow_mul]
  by_cases hi : n ≤ i
  · have : x.testBit i = false := Nat.testBit_lt_two_pow (Nat.lt_of_lt_of_le h (Nat.pow_le_pow_right (by omega) hi))
    simp [this]
  · simp [hi]
/-- the number of the first four bytes -/
def dN (E : List Int) : Nat := (E.getD 0 0).toNat ^^^ 2 ^ 8 * (E.getD 1 0).toNat ^^^ 2 ^ 16 * (E.getD 2 0).toNat ^^^ 2 ^ 24 * (E.getD 3 0).toNat
theorem dS_dN {E : List Int} (h : BB E) (hl : 4 ≤ E.length) : dS (fun i => E.getD i 0) = (dN E : Nat) := by
  have r0 := h.getD 0 (by omega); have r1 := h.getD 1 (by omega); have r2 := h.getD 2 (by omega); have r3 := h.getD 3 (by omega)
  unfold dS dN
  simp only []
  generalize E.getD 0 0 = a at *
  generalize E.getD 1 0 = b at *
  generalize E.getD 2 0 = c at *
  generalize E.getD 3 0 = d at *
  rw [← add_xor (n := 8) (by omega), ← add_xor (n := 16) (by omega), ← add_xor (n := 24) (by omega)]
  omega
theorem dN_flip {E : List Int} (k : Nat) (hl : 4 ≤ E.length) (h : k < 32) : dN (flip E k) = dN E ^^^ 2 ^ k := by
  have hs := flip_same E k (by omega)
  have ho := fun i => flip_other E k i
  unfold dN
  rcases (show k / 8 = 0 ∨ k / 8 = 1 ∨ k / 8 = 2 ∨ k / 8 = 3 by omega) with h8 | h8 | h8 | h8
  · rw [h8] at hs ho
    rw [hs, ho 1 (by omega), ho 2 (by omega), ho 3 (by omega), Int.toNat_natCast, show k % 8 = k by omega]
    ac_rfl
  · rw [h8] at hs ho
    rw [hs, ho 0 (by omega), ho 2 (by omega), ho 3 (by omega), Int.toNat_natCast, pow_xor, ← Nat.pow_add, show 8 + k % 8 = k by omega]
    ac_rfl
  · rw [h8] at hs ho
    rw [hs, ho 0 (by omega), ho 1 (by omega), ho 3 (by omega), Int.toNat_natCast, pow_xor, ← Nat.pow_add, show 16 + k % 8 = k by omega]
    ac_rfl
  · rw [h8] at hs ho
    rw [hs, ho 0 (by omega), ho 1 (by omega), ho 2 (by omega), Int.toNat_natCast, pow_xor, ← Nat.pow_add, show 24 + k % 8 = k by omega]
    ac_rfl
theorem dN_flip' {E : List Int} (k : Nat) (h : 32 ≤ k) : dN (flip E k) = dN E := by
  have ho := fun i => flip_other E k i
  unfold dN
  rw [ho 0 (by omega), ho 1 (by omega), ho 2 (by omega), ho 3 (by omega)]
/-- what is decoded has the sum that its bytes have -/
theorem dec_chk {r : Rc} (h : r.Ok) {E : List Int} (hl : E.length = r.size) (hB : BB E) (h5 : ∀ i, 4 < i → i < 8 → E.getD i 0 = (encF r).getD i 0) (he : (decF E).2.2 = 0) :
    dS (fun i => E.getD i 0) = csI (E.drop 4) := by
  obtain ⟨r', n, e, hd⟩ : ∃ r' n e, decF E = (r', n, e) := ⟨_, _, _, rfl⟩
  rw [hd] at he
  have he' : e = 0 := he
  subst he'
  obtain ⟨h1, _, h3, h4⟩ := decF_ok hB hd
  have b1 := begins (M := E) h1 (fun i hi => by rw [← h4, getD_take (by unfold Rc.size; omega)])
  have b2 := begins (M := encF r) h (fun i hi => rfl)
  have e5 : r'.key.size = r.key.size := by
    have := b1.y; have := b2.y; have := h5 5 (by omega) (by omega); omega
  have e6 : r'.val.size = r.val.size := by
    have v1 := b1.V; have v2 := b2.V
    unfold dV at v1 v2
    have := h5 6 (by omega) (by omega); have := h5 7 (by omega) (by omega)
    simp only [] at v1 v2
    omega
  have hs : r'.size = r.size := by unfold Rc.size; omega
  have hE : E = encF r' := by rw [← h4, hs, ← hl, List.take_length]
  rw [b1.S]
  conv => rhs; rw [hE]
  rw [encF, show (le4 (csI (rrest r')) ++ rrest r').drop 4 = rrest r' from List.drop_left' rfl]
/-- what a loop over 32 bits keeps -/
structure Flips (Inv : Nat → List Int → Bool → Prop) (r : Rc) (at_ lim : Nat) : Prop where
  start : Inv 0 (encF r) false
  step : ∀ i E ch, i < 32 → at_ + i < lim → Inv i E ch → Inv (i + 1) (flip E (at_ + i)) true
  skip : ∀ i E ch, Inv i E ch → Inv (i + 1) E ch
  len : ∀ i E ch, Inv i E ch → E.length = r.size ∧ BB E
  fin : ∀ i E ch, Inv i E ch → (ch = false → (decF E).2.2 = 0) ∧ (ch = true → (decF E).2.2 ≠ 0)
theorem csteps_inj_zero {n W : Nat} (h : W < 4294967296) (h0 : csteps n W = 0) : W = 0 := by
  by_cases hw : W = 0
  · exact hw
  · exact (csteps_ne h hw h0).elim
theorem xor_cancel {a b : Nat} (h : a = a ^^^ b) : b = 0 := by
  have := congrArg (a ^^^ ·) h
  simp only [Nat.xor_self, ← Nat.xor_assoc, Nat.zero_xor] at this
  exact this.symm
theorem bit_new {W i : Nat} (h : W < 2 ^ i) : W ^^^ 2 ^ i < 2 ^ (i + 1) ∧ W ^^^ 2 ^ i ≠ 0 := by
  have h1 := add_xor h 1
  rw [Nat.mul_one] at h1
  rw [← h1, Nat.pow_succ]
  have := Nat.two_pow_pos i
  omega
theorem dec_ok0 {r : Rc} (h : r.Ok) : (decF (encF r)).2.2 = 0 := by
  have := decF_enc h []
  rw [List.append_nil] at this
  rw [this]
theorem chg_hi {r : Rc} (h : r.Ok) {at_ lim : Nat} (h1 : 64 ≤ at_) (h2 : lim = 8 * r.size) : ∃ Inv, Flips Inv r at_ lim := by
  have hl0 := encF_length r
  refine ⟨fun i E ch => E.length = r.size ∧ BB E ∧ (∀ j, j < 8 → E.getD j 0 = (encF r).getD j 0) ∧ ∃ W, W < 2 ^ i ∧ W < 4294967296 ∧ csN (E.drop 4) = csN ((encF r).drop 4) ^^^ csteps (8 * r.size - at_) W ∧ (ch = true → W ≠ 0) ∧ (ch = false → E = encF r), ?_, ?_, ?_, ?_, ?_⟩
  · exact ⟨hl0, encF_bb r, fun _ _ => rfl, 0, by simp, by omega, by rw [csteps_zero, Nat.xor_zero], by simp, fun _ => rfl⟩
  · intro i E ch h32 hlim ⟨hl, hB, h8, W, hW, hW32, hc, _, _⟩
    · refine ⟨by rw [flip_length, hl], flip_bb hB _, fun j hj => by rw [flip_other E _ j (by omega), h8 j hj], W ^^^ 2 ^ i, (bit_new hW).1, Nat.lt_of_lt_of_le (bit_new hW).1 (by have := Nat.pow_le_pow_right (show 0 < 2 by decide) (show i + 1 ≤ 32 by omega); omega), ?_, fun _ => (bit_new hW).2, fun h => by cases h⟩
      rw [flip_drop4 _ _ (by omega), csN_flip _ (by rw [List.length_drop, hl]; omega), hc, List.length_drop, hl, csteps_xor, csteps_bit _ _ (by omega), Nat.xor_assoc]
      congr 3
      omega
  · intro i E ch ⟨hl, hB, h8, W, hW, hW32, hc, hn, he⟩
    exact ⟨hl, hB, h8, W, Nat.lt_of_lt_of_le hW (Nat.pow_le_pow_right (by decide) (by omega)), hW32, hc, hn, he⟩
  · intro i E ch hI
    exact ⟨hI.1, hI.2.1⟩
  · intro i E ch ⟨hl, hB, h8, W, hW, hW32, hc, hn, he⟩
    refine ⟨fun hf => by rw [he hf]; exact dec_ok0 h, fun ht hz => hn ht ?_⟩
    have k1 := dec_chk h hl hB (fun i a b => h8 i b) hz
    have k2 := dec_chk h hl0 (encF_bb r) (fun i a b => rfl) (dec_ok0 h)
    have k3 : dS (fun i => E.getD i 0) = dS (fun i => (encF r).getD i 0) := by
      unfold dS
      simp only []
      rw [h8 0 (by omega), h8 1 (by omega), h8 2 (by omega), h8 3 (by omega)]
    rw [k1, k2, csI_eq, csI_eq, hc] at k3
    exact csteps_inj_zero hW32 (xor_cancel (Int.ofNat.inj k3).symm)
theorem chg_lo {r : Rc} (h : r.Ok) {at_ : Nat} : ∃ Inv, Flips Inv r at_ 32 := by
  have hl0 := encF_length r
  have h4 : 4 ≤ r.size := by unfold Rc.size; omega
  refine ⟨fun i E ch => E.length = r.size ∧ BB E ∧ (∀ j, 4 ≤ j → E.getD j 0 = (encF r).getD j 0) ∧ E.drop 4 = (encF r).drop 4 ∧ ∃ W, W < 2 ^ i ∧ dN E = dN (encF r) ^^^ 2 ^ at_ * W ∧ (ch = true → W ≠ 0) ∧ (ch = false → E = encF r), ?_, ?_, ?_, ?_, ?_⟩
  · exact ⟨hl0, encF_bb r, fun _ _ => rfl, rfl, 0, by simp, by simp, by simp, fun _ => rfl⟩
  · intro i E ch _ hlim ⟨hl, hB, h8, hd, W, hW, hc, _, _⟩
    refine ⟨by rw [flip_length, hl], flip_bb hB _, fun j hj => by rw [flip_other E _ j (by omega), h8 j hj], by rw [flip_drop4' _ _ (by omega), hd], W ^^^ 2 ^ i, (bit_new hW).1, ?_, fun _ => (bit_new hW).2, fun h => by cases h⟩
    rw [dN_flip _ (by omega) hlim, hc, pow_xor, ← Nat.pow_add, Nat.xor_assoc]
  · intro i E ch ⟨hl, hB, h8, hd, W, hW, hc, hn, he⟩
    exact ⟨hl, hB, h8, hd, W, Nat.lt_of_lt_of_le hW (Nat.pow_le_pow_right (by decide) (by omega)), hc, hn, he⟩
  · intro i E ch hI
    exact ⟨hI.1, hI.2.1⟩
  · intro i E ch ⟨hl, hB, h8, hd, W, hW, hc, hn, he⟩
    refine ⟨fun hf => by rw [he hf]; exact dec_ok0 h, fun ht hz => hn ht ?_⟩
    have k1 := dec_chk h hl hB (fun i a b => h8 i (by omega)) hz
    have k2 := dec_chk h hl0 (encF_bb r) (fun i a b => rfl) (dec_ok0 h)
    rw [hd, ← k2, dS_dN hB (by omega), dS_dN (encF_bb r) (by omega), hc] at k1
    have k3 := xor_cancel (Int.ofNat.inj k1).symm
    have := Nat.two_pow_pos at_
    rcases Nat.mul_eq_zero.1 k3 with h | h
    · omega
    · exact h
end Go.Proofs.Ytiobnhdcapfhgaa
