/-
  Chapter 16, the third part: records by numbers, their encodings, torn and changed, text by text. No condition.
-/
import Derived.Test.YtjcdflohkajbcaaRecp
import Derived.Test.YtjcdflohkajbcaaSB
import Derived.Test.YtjcdflohkajbcaaRe4
/-
  Plain: bytes of a record of which some bits were flipped are not decoded.
-/
namespace Go.Proofs.Ytjcdflohkajbcaa
open Go.RowKit
set_option linter.unusedVariables false

/-- bit k flipped -/
def flip (E : List Int) (k : Nat) : List Int := E.set (k / 8) (((E.getD (k / 8) 0).toNat ^^^ 2 ^ (k % 8) : Nat) : Int)
theorem flip_length (E : List Int) (k : Nat) : (flip E k).length = E.length := by simp [flip]
theorem xor_byte {a m : Nat} (h : a < 256) (hm : m < 8) : a ^^^ 2 ^ m < 256 := Nat.xor_lt_two_pow (n := 8) h (Nat.pow_lt_pow_right (by omega) hm)
theorem flip_bb {E : List Int} (h : BB E) (k : Nat) : BB (flip E k) := by
  intro x hx
  rcases List.mem_or_eq_of_mem_set hx with hx | rfl
  · exact h x hx
  · have hk : (E.getD (k / 8) 0).toNat < 256 := by
      by_cases hl : k / 8 < E.length
      · have := h.getD (k / 8) hl; omega
      · rw [List.getD_eq_getElem?_getD, List.getElem?_eq_none (by omega)]; simp
    have := xor_byte hk (show k % 8 < 8 by omega)
    omega
theorem flip_other (E : List Int) (k i : Nat) (h : i ≠ k / 8) : (flip E k).getD i 0 = E.getD i 0 := by
  unfold flip
  rw [List.getD_eq_getElem?_getD, List.getElem?_set_ne (by omega), List.getD_eq_getElem?_getD]
theorem flip_same (E : List Int) (k : Nat) (h : k / 8 < E.length) : (flip E k).getD (k / 8) 0 = (((E.getD (k / 8) 0).toNat ^^^ 2 ^ (k % 8) : Nat) : Int) := by
  unfold flip
  rw [List.getD_eq_getElem?_getD, List.getElem?_set_self h]
  rfl
theorem flip_drop4 (E : List Int) (k : Nat) (h : 4 ≤ k / 8) : (flip E k).drop 4 = flip (E.drop 4) (k - 32) := by
  unfold flip
  have e1 : (k - 32) / 8 = k / 8 - 4 := by omega
  have e2 : (k - 32) % 8 = k % 8 := by omega
  rw [e1, e2, List.drop_set, if_neg (by omega)]
  congr 3
  rw [List.getD_eq_getElem?_getD, List.getD_eq_getElem?_getD, List.getElem?_drop, show 4 + (k / 8 - 4) = k / 8 by omega]
theorem flip_drop4' (E : List Int) (k : Nat) (h : k / 8 < 4) : (flip E k).drop 4 = E.drop 4 := by
  unfold flip
  rw [List.drop_set, if_pos h]
/-- the checksum of flipped bytes, in letters -/
def csN (E : List Int) : Nat := csum (E.map Int.toNat)
theorem csI_eq (E : List Int) : csI E = (csN E : Nat) := rfl
theorem csN_flip {E : List Int} (k : Nat) (h : k / 8 < E.length) : csN (flip E k) = csN E ^^^ csteps (8 * E.length - k) 1 := by
  unfold csN flip
  rw [List.map_set]
  have h1 : (((((E.getD (k / 8) 0).toNat ^^^ 2 ^ (k % 8) : Nat) : Int)).toNat) = (E.map Int.toNat).getD (k / 8) 0 ^^^ 2 ^ (k % 8) := by
    rw [Int.toNat_natCast, List.getD_eq_getElem?_getD, List.getD_eq_getElem?_getD, List.getElem?_map, List.getElem?_eq_getElem h]
    rfl
  rw [h1, csum_set _ _ _ (by rw [List.length_map]; exact h), List.length_map, csteps_bit _ _ (by omega)]
  congr 2
  omega
theorem pow_xor (a b n : Nat) : 2 ^ n * (a ^^^ b) = 2 ^ n * a ^^^ 2 ^ n * b := by
  apply Nat.eq_of_testBit_eq
  intro i
  rw [Nat.testBit_xor, Nat.testBit_two_pow_mul, Nat.testBit_two_pow_mul, Nat.testBit_two_pow_mul, Nat.testBit_xor]
  by_cases h : n ≤ i <;> simp [h]
theorem add_xor {x n : Nat} (h : x < 2 ^ n) (y : Nat) : x + 2 ^ n * y = x ^^^ 2 ^ n * y := by
  rw [Nat.add_comm]
  rw [Nat.two_pow_add_eq_or_of_lt h y]
  apply Nat.eq_of_testBit_eq
  intro i
  rw [Nat.testBit_or, Nat.testBit_xor, Nat.testBit_two_pow_mul]
  by_cases hi : n ≤ i
  · have : x.testBit i = false := Nat.testBit_lt_two_pow (Nat.lt_of_lt_of_le h (Nat.pow_le_pow_right (by omega) hi))
    simp [this]
  · simp [hi]
/-- the number of the first four bytes -/
def dN (E : List Int) : Nat := (E.getD 0 0).toNat ^^^ 2 ^ 8 * (E.getD 1 0).toNat ^^^ 2 ^ 16 * (E.getD 2 0).toNat ^^^ 2 ^ 24 * (E.getD 3 0).toNat
theorem dS_dN {E : List Int} (h : BB E) (hl : 4 ≤ E.length) : dS (fun i => E.getD i 0) = (dN E : Nat) := by
  have r0 := h.getD 0 (by omega); have r1 := h.getD 1 (by omega); have r2 := h.getD 2 (by omega); have r3 := h.getD 3 (by omega)
  unfold dS dN
  simp only []
  generalize E.getD 0 0 = a at *
  generalize E.getD 1 0 = b at *
  generalize E.getD 2 0 = c at *
  generalize E.getD 3 0 = d at *
  rw [← add_xor (n := 8) (by omega), ← add_xor (n := 16) (by omega), ← add_xor (n := 24) (by omega)]
  omega
theorem dN_flip {E : List Int} (k : Nat) (hl : 4 ≤ E.length) (h : k < 32) : dN (flip E k) = dN E ^^^ 2 ^ k := by
  have hs := flip_same E k (by omega)
  have ho := fun i => flip_other E k i
  unfold dN
  rcases (show k / 8 = 0 ∨ k / 8 = 1 ∨ k / 8 = 2 ∨ k / 8 = 3 by omega) with h8 | h8 | h8 | h8
  · rw [h8] at hs ho
    rw [hs, ho 1 (by omega), ho 2 (by omega), ho 3 (by omega), Int.toNat_natCast, show k % 8 = k by omega]
    ac_rfl
  · rw [h8] at hs ho
    rw [hs, ho 0 (by omega), ho 2 (by omega), ho 3 (by omega), Int.toNat_natCast, pow_xor, ← Nat.pow_add, show 8 + k % 8 = k by omega]
    ac_rfl
  · rw [h8] at hs ho
    rw [hs, ho 0 (by omega), ho 1 (by omega), ho 3 (by omega), Int.toNat_natCast, pow_xor, ← Nat.pow_add, show 16 + k % 8 = k by omega]
    ac_rfl
  · rw [h8] at hs ho
    rw [hs, ho 0 (by omega), ho 1 (by omega), ho 2 (by omega), Int.toNat_natCast, pow_xor, ← Nat.pow_add, show 24 + k % 8 = k by omega]
    ac_rfl
theorem dN_flip' {E : List Int} (k : Nat) (h : 32 ≤ k) : dN (flip E k) = dN E := by
  have ho := fun i => flip_other E k i
  unfold dN
  rw [ho 0 (by omega), ho 1 (by omega), ho 2 (by omega), ho 3 (by omega)]
/-- what is decoded has the sum that its bytes have -/
theorem dec_chk {r : Rc} (h : r.Ok) {E : List Int} (hl : E.length = r.size) (hB : BB E) (h5 : ∀ i, 4 < i → i < 8 → E.getD i 0 = (encF r).getD i 0) (he : (decF E).2.2 = 0) :
    dS (fun i => E.getD i 0) = csI (E.drop 4) := by
  obtain ⟨r', n, e, hd⟩ : ∃ r' n e, decF E = (r', n, e) := ⟨_, _, _, rfl⟩
  rw [hd] at he
  have he' : e = 0 := he
  subst he'
  obtain ⟨h1, _, h3, h4⟩ := decF_ok hB hd
  have b1 := begins (M := E) h1 (fun i hi => by rw [← h4, getD_take (by unfold Rc.size; omega)])
  have b2 := begins (M := encF r) h (fun i hi => rfl)
  have e5 : r'.key.size = r.key.size := by
    have := b1.y; have := b2.y; have := h5 5 (by omega) (by omega); omega
  have e6 : r'.val.size = r.val.size := by
    have v1 := b1.V; have v2 := b2.V
    unfold dV at v1 v2
    have := h5 6 (by omega) (by omega); have := h5 7 (by omega) (by omega)
    simp only [] at v1 v2
    omega
  have hs : r'.size = r.size := by unfold Rc.size; omega
  have hE : E = encF r' := by rw [← h4, hs, ← hl, List.take_length]
  rw [b1.S]
  conv => rhs; rw [hE]
  rw [encF, show (le4 (csI (rrest r')) ++ rrest r').drop 4 = rrest r' from List.drop_left' rfl]
/-- what a loop over 32 bits keeps -/
structure Flips (Inv : Nat → List Int → Bool → Prop) (r : Rc) (at_ lim : Nat) : Prop where
  start : Inv 0 (encF r) false
  step : ∀ i E ch, i < 32 → at_ + i < lim → Inv i E ch → Inv (i + 1) (flip E (at_ + i)) true
  skip : ∀ i E ch, Inv i E ch → Inv (i + 1) E ch
  len : ∀ i E ch, Inv i E ch → E.length = r.size ∧ BB E
  fin : ∀ i E ch, Inv i E ch → (ch = false → (decF E).2.2 = 0) ∧ (ch = true → (decF E).2.2 ≠ 0)
theorem csteps_inj_zero {n W : Nat} (h : W < 4294967296) (h0 : csteps n W = 0) : W = 0 := by
  by_cases hw : W = 0
  · exact hw
  · exact (csteps_ne h hw h0).elim
theorem xor_cancel {a b : Nat} (h : a = a ^^^ b) : b = 0 := by
  have := congrArg (a ^^^ ·) h
  simp only [Nat.xor_self, ← Nat.xor_assoc, Nat.zero_xor] at this
  exact this.symm
theorem bit_new {W i : Nat} (h : W < 2 ^ i) : W ^^^ 2 ^ i < 2 ^ (i + 1) ∧ W ^^^ 2 ^ i ≠ 0 := by
  have h1 := add_xor h 1
  rw [Nat.mul_one] at h1
  rw [← h1, Nat.pow_succ]
  have := Nat.two_pow_pos i
  omega
theorem dec_ok0 {r : Rc} (h : r.Ok) : (decF (encF r)).2.2 = 0 := by
  have := decF_enc h []
  rw [List.append_nil] at this
  rw [this]
theorem chg_hi {r : Rc} (h : r.Ok) {at_ lim : Nat} (h1 : 64 ≤ at_) (h2 : lim = 8 * r.size) : ∃ Inv, Flips Inv r at_ lim := by
  have hl0 := encF_length r
  refine ⟨fun i E ch => E.length = r.size ∧ BB E ∧ (∀ j, j < 8 → E.getD j 0 = (encF r).getD j 0) ∧ ∃ W, W < 2 ^ i ∧ W < 4294967296 ∧ csN (E.drop 4) = csN ((encF r).drop 4) ^^^ csteps (8 * r.size - at_) W ∧ (ch = true → W ≠ 0) ∧ (ch = false → E = encF r), ?_, ?_, ?_, ?_, ?_⟩
  · exact ⟨hl0, encF_bb r, fun _ _ => rfl, 0, by simp, by omega, by rw [csteps_zero, Nat.xor_zero], by simp, fun _ => rfl⟩
  · intro i E ch h32 hlim ⟨hl, hB, h8, W, hW, hW32, hc, _, _⟩
    · refine ⟨by rw [flip_length, hl], flip_bb hB _, fun j hj => by rw [flip_other E _ j (by omega), h8 j hj], W ^^^ 2 ^ i, (bit_new hW).1, Nat.lt_of_lt_of_le (bit_new hW).1 (by have := Nat.pow_le_pow_right (show 0 < 2 by decide) (show i + 1 ≤ 32 by omega); omega), ?_, fun _ => (bit_new hW).2, fun h => by cases h⟩
      rw [flip_drop4 _ _ (by omega), csN_flip _ (by rw [List.length_drop, hl]; omega), hc, List.length_drop, hl, csteps_xor, csteps_bit _ _ (by omega), Nat.xor_assoc]
      congr 3
      omega
  · intro i E ch ⟨hl, hB, h8, W, hW, hW32, hc, hn, he⟩
    exact ⟨hl, hB, h8, W, Nat.lt_of_lt_of_le hW (Nat.pow_le_pow_right (by decide) (by omega)), hW32, hc, hn, he⟩
  · intro i E ch hI
    exact ⟨hI.1, hI.2.1⟩
  · intro i E ch ⟨hl, hB, h8, W, hW, hW32, hc, hn, he⟩
    refine ⟨fun hf => by rw [he hf]; exact dec_ok0 h, fun ht hz => hn ht ?_⟩
    have k1 := dec_chk h hl hB (fun i a b => h8 i b) hz
    have k2 := dec_chk h hl0 (encF_bb r) (fun i a b => rfl) (dec_ok0 h)
    have k3 : dS (fun i => E.getD i 0) = dS (fun i => (encF r).getD i 0) := by
      unfold dS
      simp only []
      rw [h8 0 (by omega), h8 1 (by omega), h8 2 (by omega), h8 3 (by omega)]
    rw [k1, k2, csI_eq, csI_eq, hc] at k3
    exact csteps_inj_zero hW32 (xor_cancel (Int.ofNat.inj k3).symm)
theorem chg_lo {r : Rc} (h : r.Ok) {at_ : Nat} : ∃ Inv, Flips Inv r at_ 32 := by
  have hl0 := encF_length r
  have h4 : 4 ≤ r.size := by unfold Rc.size; omega
  refine ⟨fun i E ch => E.length = r.size ∧ BB E ∧ (∀ j, 4 ≤ j → E.getD j 0 = (encF r).getD j 0) ∧ E.drop 4 = (encF r).drop 4 ∧ ∃ W, W < 2 ^ i ∧ dN E = dN (encF r) ^^^ 2 ^ at_ * W ∧ (ch = true → W ≠ 0) ∧ (ch = false → E = encF r), ?_, ?_, ?_, ?_, ?_⟩
  · exact ⟨hl0, encF_bb r, fun _ _ => rfl, rfl, 0, by simp, by simp, by simp, fun _ => rfl⟩
  · intro i E ch _ hlim ⟨hl, hB, h8, hd, W, hW, hc, _, _⟩
    refine ⟨by rw [flip_length, hl], flip_bb hB _, fun j hj => by rw [flip_other E _ j (by omega), h8 j hj], by rw [flip_drop4' _ _ (by omega), hd], W ^^^ 2 ^ i, (bit_new hW).1, ?_, fun _ => (bit_new hW).2, fun h => by cases h⟩
    rw [dN_flip _ (by omega) hlim, hc, pow_xor, ← Nat.pow_add, Nat.xor_assoc]
  · intro i E ch ⟨hl, hB, h8, hd, W, hW, hc, hn, he⟩
    exact ⟨hl, hB, h8, hd, W, Nat.lt_of_lt_of_le hW (Nat.pow_le_pow_right (by decide) (by omega)), hc, hn, he⟩
  · intro i E ch hI
    exact ⟨hI.1, hI.2.1⟩
  · intro i E ch ⟨hl, hB, h8, hd, W, hW, hc, hn, he⟩
    refine ⟨fun hf => by rw [he hf]; exact dec_ok0 h, fun ht hz => hn ht ?_⟩
    have k1 := dec_chk h hl hB (fun i a b => h8 i (by omega)) hz
    have k2 := dec_chk h hl0 (encF_bb r) (fun i a b => rfl) (dec_ok0 h)
    rw [hd, ← k2, dS_dN hB (by omega), dS_dN (encF_bb r) (by omega), hc] at k1
    have k3 := xor_cancel (Int.ofNat.inj k1).symm
    have := Nat.two_pow_pos at_
    rcases Nat.mul_eq_zero.1 k3 with h | h
    · omega
    · exact h
end Go.Proofs.Ytjcdflohkajbcaa

/-
  Plain: a byte of a record's encoding is changed, but not the lengths: it is not decoded.
-/
namespace Go.Proofs.Ytjcdflohkajbcaa
open Go.RowKit
set_option linter.unusedVariables false

/-- byte j changed by h -/
def chg (E : List Int) (j h : Nat) : List Int := E.set j (((E.getD j 0).toNat ^^^ h : Nat) : Int)
theorem chg_length (E : List Int) (j h : Nat) : (chg E j h).length = E.length := by simp [chg]
theorem chg_bb {E : List Int} (hB : BB E) (j h : Nat) (hh : h < 256) : BB (chg E j h) := by
  intro x hx
  rcases List.mem_or_eq_of_mem_set hx with hx | rfl
  · exact hB x hx
  · have hk : (E.getD j 0).toNat < 256 := by
      by_cases hl : j < E.length
      · have := hB.getD j hl; omega
      · rw [List.getD_eq_getElem?_getD, List.getElem?_eq_none (by omega)]; simp
    have : (E.getD j 0).toNat ^^^ h < 2 ^ 8 := Nat.xor_lt_two_pow (by omega) (by omega)
    omega
theorem chg_other (E : List Int) (j h i : Nat) (hi : i ≠ j) : (chg E j h).getD i 0 = E.getD i 0 := by
  unfold chg
  rw [List.getD_eq_getElem?_getD, List.getElem?_set_ne (by omega), List.getD_eq_getElem?_getD]
theorem chg_same (E : List Int) (j h : Nat) (hj : j < E.length) : (chg E j h).getD j 0 = (((E.getD j 0).toNat ^^^ h : Nat) : Int) := by
  unfold chg
  rw [List.getD_eq_getElem?_getD, List.getElem?_set_self hj]
  rfl
theorem chg_drop4 (E : List Int) (j h : Nat) (hj : 4 ≤ j) : (chg E j h).drop 4 = chg (E.drop 4) (j - 4) h := by
  unfold chg
  rw [List.drop_set, if_neg (by omega)]
  congr 3
  rw [List.getD_eq_getElem?_getD, List.getD_eq_getElem?_getD, List.getElem?_drop, show 4 + (j - 4) = j by omega]
theorem chg_drop4' (E : List Int) (j h : Nat) (hj : j < 4) : (chg E j h).drop 4 = E.drop 4 := by
  unfold chg
  rw [List.drop_set, if_pos hj]
theorem csN_chg {E : List Int} (j h : Nat) (hj : j < E.length) : csN (chg E j h) = csN E ^^^ csteps (8 * (E.length - j)) h := by
  unfold csN chg
  rw [List.map_set]
  have h1 : (((((E.getD j 0).toNat ^^^ h : Nat) : Int)).toNat) = (E.map Int.toNat).getD j 0 ^^^ h := by
    rw [Int.toNat_natCast, List.getD_eq_getElem?_getD, List.getD_eq_getElem?_getD, List.getElem?_map, List.getElem?_eq_getElem hj]
    rfl
  rw [h1, csum_set _ _ _ (by rw [List.length_map]; exact hj), List.length_map]
theorem dN_chg {E : List Int} (j h : Nat) (hl : 4 ≤ E.length) (hj : j < 4) : dN (chg E j h) = dN E ^^^ 2 ^ (8 * j) * h := by
  have hs := chg_same E j h (by omega)
  have ho := fun i => chg_other E j h i
  unfold dN
  rcases (show j = 0 ∨ j = 1 ∨ j = 2 ∨ j = 3 by omega) with rfl | rfl | rfl | rfl
  · rw [hs, ho 1 (by omega), ho 2 (by omega), ho 3 (by omega), Int.toNat_natCast, Nat.mul_zero, Nat.pow_zero, Nat.one_mul]
    ac_rfl
  · rw [hs, ho 0 (by omega), ho 2 (by omega), ho 3 (by omega), Int.toNat_natCast, pow_xor]
    ac_rfl
  · rw [hs, ho 0 (by omega), ho 1 (by omega), ho 3 (by omega), Int.toNat_natCast, pow_xor]
    ac_rfl
  · rw [hs, ho 0 (by omega), ho 1 (by omega), ho 2 (by omega), Int.toNat_natCast, pow_xor]
    ac_rfl
/-- one changed byte: an error -/
theorem chg_err {r : Rc} (h : r.Ok) {j q : Nat} (hj : j < r.size) (hn : j < 5 ∨ 7 < j) (hq : q ≠ 0) (hq2 : q < 256) (he : (decF (chg (encF r) j q)).2.2 = 0) : False := by
  have hl0 := encF_length r
  have hB0 := encF_bb r
  have h4 : 16 ≤ r.size := by unfold Rc.size; omega
  have hl : (chg (encF r) j q).length = r.size := by rw [chg_length, hl0]
  have hB := chg_bb hB0 j q hq2
  have h5 : ∀ i, 4 < i → i < 8 → (chg (encF r) j q).getD i 0 = (encF r).getD i 0 := fun i a b => chg_other _ _ _ _ (by omega)
  have k1 := dec_chk h hl hB h5 he
  have k2 := dec_chk h hl0 hB0 (fun i a b => rfl) (dec_ok0 h)
  by_cases h3 : j < 4
  · rw [chg_drop4' _ _ _ h3, ← k2, dS_dN hB (by omega), dS_dN hB0 (by omega), dN_chg _ _ (by omega) h3] at k1
    have k3 := xor_cancel (Int.ofNat.inj k1).symm
    have := Nat.two_pow_pos (8 * j)
    rcases Nat.mul_eq_zero.1 k3 with h | h <;> omega
  · have k3 : dS (fun i => (chg (encF r) j q).getD i 0) = dS (fun i => (encF r).getD i 0) := by
      unfold dS
      simp only []
      rw [chg_other _ _ _ 0 (by omega), chg_other _ _ _ 1 (by omega), chg_other _ _ _ 2 (by omega), chg_other _ _ _ 3 (by omega)]
    rw [k1, k2, csI_eq, csI_eq, chg_drop4 _ _ _ (by omega), csN_chg _ _ (by rw [List.length_drop, hl0]; omega)] at k3
    exact hq (csteps_inj_zero (by omega) (xor_cancel (Int.ofNat.inj k3).symm))
/-- the same with other bytes behind -/
theorem chg_err_more {r : Rc} (h : r.Ok) {j q : Nat} (hj : j < r.size) (hn : j < 5 ∨ 7 < j) (hq : q ≠ 0) (hq2 : q < 256) {more : List Int} (hm : BB more) : (decF (chg (encF r) j q ++ more)).2.2 ≠ 0 := by
  intro he
  have hl0 := encF_length r
  have hl : (chg (encF r) j q).length = r.size := by rw [chg_length, hl0]
  have hB := chg_bb (encF_bb r) j q hq2
  obtain ⟨r', n, e, hd⟩ : ∃ r' n e, decF (chg (encF r) j q ++ more) = (r', n, e) := ⟨_, _, _, rfl⟩
  rw [hd] at he
  have he' : e = 0 := he
  subst he'
  obtain ⟨h1, _, h3, h4⟩ := decF_ok (hB.app hm) hd
  have hg : ∀ i, i < 16 → (chg (encF r) j q ++ more).getD i 0 = (encF r').getD i 0 := fun i hi => by rw [← h4, getD_take (by unfold Rc.size; omega)]
  have b1 := begins (M := encF r') h1 (fun i hi => rfl)
  have b2 := begins (M := encF r) h (fun i hi => rfl)
  have g : ∀ i, 4 < i → i < 8 → (encF r').getD i 0 = (encF r).getD i 0 := fun i a b => by
    rw [← hg i (by omega), getD_app_l (by rw [hl]; unfold Rc.size; omega), chg_other _ _ _ _ (by omega)]
  have e5 : r'.key.size = r.key.size := by
    have := b1.y; have := b2.y; have := g 5 (by omega) (by omega); omega
  have e6 : r'.val.size = r.val.size := by
    have v1 := b1.V; have v2 := b2.V
    unfold dV at v1 v2
    have := g 6 (by omega) (by omega); have := g 7 (by omega) (by omega)
    simp only [] at v1 v2
    omega
  have hs : r'.size = r.size := by unfold Rc.size; omega
  have hE : chg (encF r) j q = encF r' := by rw [← h4, hs]; exact (List.take_left' hl).symm
  exact chg_err h hj hn hq hq2 (by rw [hE]; exact dec_ok0 h1)
end Go.Proofs.Ytjcdflohkajbcaa

/-
  Records by numbers: an item's record.
-/
namespace Go.Proofs.Ytjcdflohkajbcaa
open Go.RowKit
set_option linter.unusedVariables false
set_option linter.unusedSimpArgs false
/-- the first q bytes of a value -/
def valS : Nat → ByteArray
  | 0 => ⟨#[]⟩
  | q + 1 => valS q ++ strOfNums [((q : Int) * 37) % 256]
theorem valS_size : ∀ q, (valS q).size = q := by
  intro q
  induction q with
  | zero => rfl
  | succ q ih =>
    show (valS q ++ strOfNums [((q : Int) * 37) % 256]).size = q + 1
    rw [ByteArray.size_append, ih, strOfNums_size]
    rfl
structure It where
  del : Bool
  key : Int
  val : Int
  seq : Int
def It.cs (t : It) : Array Value := #[.bool t.del, .int .u8 t.key, .int .u8 t.val, .int .u16 t.seq]
def It.In (t : It) : Prop := 0 ≤ t.key ∧ t.key ≤ 255 ∧ 0 ≤ t.val ∧ t.val ≤ 255 ∧ 0 ≤ t.seq ∧ t.seq ≤ 65535
def keyS (k : Int) : ByteArray := ⟨#[107]⟩ ++ strOfNums [97 + k / 16, 97 + k % 16]
def It.r (t : It) : Rc := ⟨if t.del then 2 else 1, 1 + t.seq, keyS t.key, if t.del then ⟨#[]⟩ else valS (t.val % 60).toNat⟩
theorem keyS_size (k : Int) : (keyS k).size = 3 := by
  unfold keyS
  rw [ByteArray.size_append, strOfNums_size]
  rfl
theorem kch_of {x : Nat} (h1 : 97 ≤ x) (h2 : x ≤ 122) : kch x = true := by
  unfold kch
  rw [decide_eq_true_iff]
  omega
theorem keyS_ok {k : Int} (h0 : 0 ≤ k) (h1 : k ≤ 255) : keyB (keyS k) = true := by
  have hd : (keyS k).data.toList = [107, (97 + k / 16).toNat.toUInt8, (97 + k % 16).toNat.toUInt8] := by
    unfold keyS
    rw [ByteArray.data_append, Array.toList_append, strOfNums_data]
    rfl
  unfold keyB
  rw [hd]
  have a1 : (97 + k / 16).toNat.toUInt8.toNat = (97 + k / 16).toNat := by
    rw [Nat.toUInt8_eq, UInt8.toNat_ofNat']
    omega
  have a2 : (97 + k % 16).toNat.toUInt8.toNat = (97 + k % 16).toNat := by
    rw [Nat.toUInt8_eq, UInt8.toNat_ofNat']
    omega
  have k1 : kch 107 = true := kch_of (by omega) (by omega)
  have k2 : kch (97 + k / 16).toNat.toUInt8.toNat = true := by rw [a1]; exact kch_of (by omega) (by omega)
  have k3 : kch (97 + k % 16).toNat.toUInt8.toNat = true := by rw [a2]; exact kch_of (by omega) (by omega)
  have k1' : kch (107 : UInt8).toNat = true := k1
  simp only [List.all_cons, List.all_nil, k1', k2, k3, Bool.and_self]
theorem It.ok {t : It} (h : t.In) : t.r.Ok := by
  obtain ⟨h1, h2, h3, h4, h5, h6⟩ := h
  obtain ⟨del, key, val, seq⟩ := t
  have hk := keyS_ok h1 h2
  have hs := keyS_size key
  have hv := valS_size (val % 60).toNat
  simp only [] at h1 h2 h3 h4 h5 h6
  unfold It.r
  cases del
  · refine ⟨.inl rfl, ?_, ?_, hk, ?_, ?_, ?_⟩
    · show 1 ≤ 1 + seq; omega
    · show 1 + seq ≤ _; omega
    · show 1 ≤ (keyS key).size; omega
    · show (keyS key).size ≤ 32; omega
    · show (valS (val % 60).toNat).size ≤ 512; omega
  · refine ⟨.inr ⟨rfl, rfl⟩, ?_, ?_, hk, ?_, ?_, ?_⟩
    · show 1 ≤ 1 + seq; omega
    · show 1 + seq ≤ _; omega
    · show 1 ≤ (keyS key).size; omega
    · show (keyS key).size ≤ 32; omega
    · show (⟨#[]⟩ : ByteArray).size ≤ 512; decide
theorem conv_new (w : World) (L : List Int) (n : Nat) (hn : L.length = n) : (convert 25 9 (.slice (some ⟨w.heap.size, 0, none⟩) n n)).run Try.prog (w.alloc (.cells (L.map (Value.int .u8)).toArray 5)) = .ok (.string (strOfNums L)) (w.alloc (.cells (L.map (Value.int .u8)).toArray 5)) := by
  subst hn
  refine conv_any (.inr ⟨w.heap.size, 0, rfl, fun i hi => ?_⟩) _
  rw [Nat.zero_add, (Blk.new w _ _).cell, List.getElem?_toArray, List.getElem?_map, List.getElem?_eq_getElem hi, List.getD_eq_getElem?_getD, List.getElem?_eq_getElem hi]
  rfl
set_option maxHeartbeats 1600000 in
set_option maxRecDepth 100000 in
theorem itrec_any (t : It) (h : t.In) (w : World) :
    Calls Try.prog 29 #[.agg t.cs] w fun e w' => e = .returned t.r.v ∧ Below w.heap.size w w' := by
  obtain ⟨h1, h2, h3, h4, h5, h6⟩ := h
  obtain ⟨del, key, val, seq⟩ := t
  simp only [] at h1 h2 h3 h4 h5 h6
  have s2 : (strOfNums [97 + key / 16, 97 + key % 16]).size = 2 := by rw [strOfNums_size]; rfl
  have u1 : ¬ (9223372036854775807 : Nat) < (⟨#[107]⟩ : ByteArray).size + (strOfNums [97 + key / 16, 97 + key % 16]).size := by rw [s2]; decide
  clear s2
  cases del
  · show Calls Try.prog 29 #[.agg #[.bool false, .int .u8 key, .int .u8 val, .int .u16 seq]] w fun e w' => e = .returned (.agg #[.int .i64 1, .int .i64 (1 + seq), .string (keyS key), .string (valS (val % 60).toNat)]) ∧ Below w.heap.size w w'
    have c2 : (convert 25 9 (.slice (some ⟨w.heap.size + 1 + 1, 0, none⟩) 2 2)).run Try.prog (((w.alloc (.cells #[.bool false, .int .u8 key, .int .u8 val, .int .u16 seq] 54)).alloc (.cells #[.int .i64 0, .int .i64 0, .string ⟨#[]⟩, .string ⟨#[]⟩] 34)).alloc (.cells #[.int .u8 (97 + key / 16), .int .u8 (97 + key % 16)] 5)) = .ok (.string (strOfNums [97 + key / 16, 97 + key % 16])) (((w.alloc (.cells #[.bool false, .int .u8 key, .int .u8 val, .int .u16 seq] 54)).alloc (.cells #[.int .i64 0, .int .i64 0, .string ⟨#[]⟩, .string ⟨#[]⟩] 34)).alloc (.cells #[.int .u8 (97 + key / 16), .int .u8 (97 + key % 16)] 5)) := by
      have h := conv_new ((w.alloc (.cells #[.bool false, .int .u8 key, .int .u8 val, .int .u16 seq] 54)).alloc (.cells #[.int .i64 0, .int .i64 0, .string ⟨#[]⟩, .string ⟨#[]⟩] 34)) [97 + key / 16, 97 + key % 16] 2 rfl
      rw [World.size_alloc, World.size_alloc] at h
      exact h
    have cv : ∀ (q : Nat) (w : World), (convert 25 9 (.slice (some ⟨w.heap.size, 0, none⟩) 1 1)).run Try.prog (w.alloc (.cells #[.int .u8 ((q : Int) * 37 % 256)] 5)) = .ok (.string (strOfNums [(q : Int) * 37 % 256])) (w.alloc (.cells #[.int .u8 ((q : Int) * 37 % 256)] 5)) := fun q w => conv_new w [(q : Int) * 37 % 256] 1 rfl
    obtain ⟨V, hV⟩ : ∃ V : Nat, val % 60 = (V : Int) := ⟨(val % 60).toNat, by omega⟩
    have hV60 : V < 60 := by omega
    rw [hV, Int.toNat_natCast]
    have HV := Lib.hid hV
    clear hV
    go_enter Try.func29, Try.ntmps29
    go_wp2_with fail
    have hK : keyS key = ⟨#[107]⟩ ++ strOfNums [97 + key / 16, 97 + key % 16] := rfl
    rw [← hK]
    obtain ⟨w3, hw3⟩ : ∃ w3, w3 = (((w.alloc (.cells #[.bool false, .int .u8 key, .int .u8 val, .int .u16 seq] 54)).alloc (.cells #[.int .i64 0, .int .i64 0, .string ⟨#[]⟩, .string ⟨#[]⟩] 34)).alloc (.cells #[.int .u8 (97 + key / 16), .int .u8 (97 + key % 16)] 5)).alloc (.cells #[.int .i64 1, .int .i64 (1 + seq), .string (keyS key), .string ⟨#[]⟩] 34) := ⟨_, rfl⟩
    have x1 : Blk w3 w.heap.size 54 #[.bool false, .int .u8 key, .int .u8 val, .int .u16 seq] := by (rw [hw3]; unfold Blk; repeat (first | ((with_reducible refine alloc_here' ?_); (simp; done)) | (with_reducible apply alloc_old')))
    have x2 : Blk w3 (w.heap.size + 1) 34 #[.int .i64 0, .int .i64 0, .string ⟨#[]⟩, .string ⟨#[]⟩] := by (rw [hw3]; unfold Blk; repeat (first | ((with_reducible refine alloc_here' ?_); (simp; done)) | (with_reducible apply alloc_old')))
    have x3 : Blk w3 (w.heap.size + 1 + 1 + 1) 34 #[.int .i64 1, .int .i64 (1 + seq), .string (keyS key), .string ⟨#[]⟩] := by (rw [hw3]; unfold Blk; repeat (first | ((with_reducible refine alloc_here' ?_); (simp; done)) | (with_reducible apply alloc_old')))
    have hb3 : Below w.heap.size w w3 := by rw [hw3]; exact b_alloc (b_alloc (b_alloc (b_alloc (Below.refl _ _) _) _) _) _
    rw [← hw3]
    clear hw3 c2 u1 hK
    go_loopw [4] (fun i wr => ∃ q : Nat, q ≤ V ∧ i = .int .u8 q ∧ Blk wr w.heap.size 54 #[.bool false, .int .u8 key, .int .u8 val, .int .u16 seq] ∧ Blk wr (w.heap.size + 1) 34 #[.int .i64 0, .int .i64 0, .string ⟨#[]⟩, .string ⟨#[]⟩] ∧ Blk wr (w.heap.size + 1 + 1 + 1) 34 #[.int .i64 1, .int .i64 (1 + seq), .string (keyS key), .string (valS q)] ∧ Below w.heap.size w wr) (fun i _ => V - (intOf i).toNat)
    case atStart => exact ⟨0, Nat.zero_le _, rfl, x1, x2, x3, hb3⟩
    case round =>
      clear x1 x2 x3 hb3
      obtain ⟨q, hq, rfl, k1, k2, k3, hB⟩ := hrel
      have hV := HV.out
      have e1 := k1.cell
      have e2 := k2.cell
      have e3 := k3.cell
      have f2 := k2.frozen
      by_cases hlt : q < V
      · have z1 : (q : Int) < (V : Int) := by omega
        have z2 : (0 : Int) ≤ (q : Int) := by omega
        have z3 : (q : Int) ≤ 60 := by omega
        have u3 : IntKind.u8.wrap ((q : Int) * 37) = (q : Int) * 37 % 256 := IntKind.wrap_u8 _
        have hs1 : (strOfNums [(q : Int) * 37 % 256]).size = 1 := by rw [strOfNums_size]; rfl
        have u4 : ¬ (9223372036854775807 : Nat) < (valS q).size + (strOfNums [(q : Int) * 37 % 256]).size := by rw [hs1, valS_size]; omega
        have cq := cv q wr
        have j1 := k1.alloc (.cells #[.int .u8 ((q : Int) * 37 % 256)] 5)
        have j2 := k2.alloc (.cells #[.int .u8 ((q : Int) * 37 % 256)] 5)
        have j3 := k3.alloc (.cells #[.int .u8 ((q : Int) * 37 % 256)] 5)
        have g3 := j3.cell
        have g4 := j3.frozen
        have m3 := j3.set_ 3 (.string (valS q ++ strOfNums [(q : Int) * 37 % 256]))
        have hn1 : w.heap.size ≠ w.heap.size + 1 + 1 + 1 := by omega
        have hn2 : w.heap.size + 1 ≠ w.heap.size + 1 + 1 + 1 := by omega
        have m1 := j1.far (p := ⟨w.heap.size + 1 + 1 + 1, 3, none⟩) hn1 (.string (valS q ++ strOfNums [(q : Int) * 37 % 256]))
        have m2 := j2.far (p := ⟨w.heap.size + 1 + 1 + 1, 3, none⟩) hn2 (.string (valS q ++ strOfNums [(q : Int) * 37 % 256]))
        have mB := (b_alloc hB (.cells #[.int .u8 ((q : Int) * 37 % 256)] 5)).setCell (p := ⟨w.heap.size + 1 + 1 + 1, 3, none⟩) (by show w.heap.size ≤ w.heap.size + 1 + 1 + 1; omega) (.string (valS q ++ strOfNums [(q : Int) * 37 % 256]))
        clear k1 k2 k3 hB j1 j2 j3 hs1 cv hn1 hn2
        go_wp2_with fail
        go_roundw
        case rel => exact ⟨q + 1, by omega, by go_num, m1, m2, m3, mB⟩
        case measure => simp [intOf]; omega
      · obtain rfl : V = q := by omega
        have m2 := k2.set4 (.int .i64 1) (.int .i64 (1 + seq)) (.string (keyS key)) (.string (valS V))
        clear cv k1 k3
        go_wp2_with fail
        refine bodyPost_ret (v := .agg #[.int .i64 1, .int .i64 (1 + seq), .string (keyS key), .string (valS V)]) (by simp [results, Try.results29, go_sem, m2.cell]) rfl ⟨rfl, ?_⟩
        exact (((hB.setCell (p := ⟨w.heap.size + 1, 0, none⟩) (Nat.le_succ _) _).setCell (p := ⟨w.heap.size + 1, 1, none⟩) (Nat.le_succ _) _).setCell (p := ⟨w.heap.size + 1, 2, none⟩) (Nat.le_succ _) _).setCell (p := ⟨w.heap.size + 1, 3, none⟩) (Nat.le_succ _) _
  · show Calls Try.prog 29 #[.agg #[.bool true, .int .u8 key, .int .u8 val, .int .u16 seq]] w fun e w' => e = .returned (.agg #[.int .i64 2, .int .i64 (1 + seq), .string (keyS key), .string ⟨#[]⟩]) ∧ Below w.heap.size w w'
    have c2 : (convert 25 9 (.slice (some ⟨w.heap.size + 1 + 1, 0, none⟩) 2 2)).run Try.prog (((w.alloc (.cells #[.bool true, .int .u8 key, .int .u8 val, .int .u16 seq] 54)).alloc (.cells #[.int .i64 0, .int .i64 0, .string ⟨#[]⟩, .string ⟨#[]⟩] 34)).alloc (.cells #[.int .u8 (97 + key / 16), .int .u8 (97 + key % 16)] 5)) = .ok (.string (strOfNums [97 + key / 16, 97 + key % 16])) (((w.alloc (.cells #[.bool true, .int .u8 key, .int .u8 val, .int .u16 seq] 54)).alloc (.cells #[.int .i64 0, .int .i64 0, .string ⟨#[]⟩, .string ⟨#[]⟩] 34)).alloc (.cells #[.int .u8 (97 + key / 16), .int .u8 (97 + key % 16)] 5)) := by
      have h := conv_new ((w.alloc (.cells #[.bool true, .int .u8 key, .int .u8 val, .int .u16 seq] 54)).alloc (.cells #[.int .i64 0, .int .i64 0, .string ⟨#[]⟩, .string ⟨#[]⟩] 34)) [97 + key / 16, 97 + key % 16] 2 rfl
      rw [World.size_alloc, World.size_alloc] at h
      exact h
    go_enter Try.func29, Try.ntmps29
    go_wp2_with fail
    refine bodyPost_ret (v := .agg #[.int .i64 2, .int .i64 (1 + seq), .string (⟨#[107]⟩ ++ strOfNums [97 + key / 16, 97 + key % 16]), .string ⟨#[]⟩]) (by simp [results, Try.results29, go_sem]) rfl ⟨rfl, ?_⟩
    exact b_alloc (b_alloc (b_alloc (b_alloc (Below.refl _ _) _) _) _) _
end Go.Proofs.Ytjcdflohkajbcaa

/-
  Slices of items: their records, and the encodings of these, one behind the other.
-/
namespace Go.Proofs.Ytjcdflohkajbcaa
open Go.ChangeShapes Go.WideShapes Go.ChangeAt Go.RowKit Go.Joins Go.Deep
set_option linter.unusedVariables false
set_option linter.unusedSimpArgs false
/-- a slice that begins at A reads as these items -/
def IsIt (w : World) (A : Option Addr) (its : List It) : Prop := (∀ t ∈ its, t.In) ∧ (its = [] ∨ ∃ b off : Nat, A = some ⟨b, off, none⟩ ∧ b < w.heap.size ∧ ∀ (i : Nat) (t : It), its[i]? = some t → ∀ (j : Nat) (u : Value), t.cs[j]? = some u → w.cell? ⟨b, off + (i * 4 + j), none⟩ = some u)
theorem IsIt.later {w w' : World} {A : Option Addr} {its : List It} (h : IsIt w A its) (hb : Below w.heap.size w w') : IsIt w' A its := by
  obtain ⟨h1, h2⟩ := h
  refine ⟨h1, ?_⟩
  rcases h2 with h2 | ⟨b, off, rfl, hlt, hc⟩
  · exact .inl h2
  · exact .inr ⟨b, off, rfl, Nat.lt_of_lt_of_le hlt hb.size, fun i r hr j u hu => (hb.cell (p := ⟨b, off + (i * 4 + j), none⟩) hlt).trans (hc i r hr j u hu)⟩
theorem IsIt.take_ {w : World} {A : Option Addr} {its : List It} (h : IsIt w A its) (k : Nat) : IsIt w A (its.take k) := by
  refine ⟨fun t ht => h.1 t (List.mem_of_mem_take ht), ?_⟩
  rcases h.2 with h2 | ⟨b, off, rfl, hlt, hc⟩
  · exact .inl (by rw [h2]; simp)
  · refine .inr ⟨b, off, rfl, hlt, fun i t hi => hc i t ?_⟩
    rw [List.getElem?_take] at hi
    split at hi
    · exact hi
    · cases hi
theorem IsIt.at_ {w : World} {A : Option Addr} {its : List It} (h : IsIt w A its) {i : Nat} {t : It} (hi : its[i]? = some t) : ∃ b off : Nat, A = some ⟨b, off, none⟩ ∧ b < w.heap.size ∧ w.cell? ⟨b, off + i * 4, none⟩ = some (.bool t.del) ∧ w.cell? ⟨b, off + i * 4 + 1, none⟩ = some (.int .u8 t.key) ∧ w.cell? ⟨b, off + i * 4 + 2, none⟩ = some (.int .u8 t.val) ∧ w.cell? ⟨b, off + i * 4 + 3, none⟩ = some (.int .u16 t.seq) := by
  rcases h.2 with h2 | ⟨b, off, rfl, hlt, hc⟩
  · subst h2
    simp at hi
  · have h := hc i t hi
    exact ⟨b, off, rfl, hlt, h 0 _ rfl, by rw [Nat.add_assoc]; exact h 1 _ rfl, by rw [Nat.add_assoc]; exact h 2 _ rfl, by rw [Nat.add_assoc]; exact h 3 _ rfl⟩
section
variable {H : Type} {enc : TypeId × Value → H} {w : World} {base b0 : Nat} {r : Reach} {v : Value} {d : DataW H} {p : List MemPlace}
set_option maxRecDepth 100000 in
theorem open_items (hv : Value.okWide Try.prog w r b0 22 v) (h : DataW.Trod enc Try.prog w base (fun _ => true) true 22 v d p) :
    ∃ (A : Option Addr) (cap : Nat) (its : List It), v = .slice A its.length cap ∧ its.length ≤ cap ∧ cap ≤ maxLen ∧ IsIt w A its := by
  obtain ⟨a, len, cap, rfl, h1, h2, h3⟩ := open_structs Try.underlying22 Try.underlying54 (by kernel_rfl) (by kernel_rfl) (by decide) hv h
  have key : ∀ i, ∃ x : It, i < len → x.In ∧ ∀ b off : Nat, a = some ⟨b, off, none⟩ → ∀ (j : Nat) (u : Value), x.cs[j]? = some u → w.cell? ⟨b, off + (i * 4 + j), none⟩ = some u := by
    intro i
    by_cases hi : i < len
    · obtain ⟨b, off, rfl, _, hc⟩ := h3 (by omega)
      obtain ⟨x0, n0, y0, e0, g0⟩ := hc i hi 0 _ rfl
      obtain ⟨x1, n1, y1, e1, g1⟩ := hc i hi 1 _ rfl
      obtain ⟨x2, n2, y2, e2, g2⟩ := hc i hi 2 _ rfl
      obtain ⟨x3, n3, y3, e3, g3⟩ := hc i hi 3 _ rfl
      obtain ⟨a0, q0, _⟩ := DataW.trod_bool Try.underlying4 g0
      obtain ⟨a1, q1, _, s1⟩ := DataW.trod_int Try.underlying5 g1
      obtain ⟨a2, q2, _, s2⟩ := DataW.trod_int Try.underlying5 g2
      obtain ⟨a3, q3, _, s3⟩ := DataW.trod_int Try.underlying23 g3
      simp only [List.cons.injEq, and_true] at q0 q1 q2 q3
      subst q0 q1 q2 q3
      have u1 := bounds_u8 s1
      have u2 := bounds_u8 s2
      have u3 := bounds_u16 s3
      refine ⟨⟨a0, a1, a2, a3⟩, fun _ => ⟨⟨u1.1, u1.2, u2.1, u2.2, u3.1, u3.2⟩, fun b' off' hh j u hj => ?_⟩⟩
      injection hh with hh
      injection hh with hh1 hh2 _
      subst hh1 hh2
      match j, hj with
      | 0, hj => injection hj with hj; subst hj; exact e0
      | 1, hj => injection hj with hj; subst hj; exact e1
      | 2, hj => injection hj with hj; subst hj; exact e2
      | 3, hj => injection hj with hj; subst hj; exact e3
      | j + 4, hj => simp [It.cs] at hj
    · exact ⟨⟨false, 0, 0, 0⟩, fun h => absurd h hi⟩
  have hl : ((List.range len).map fun i => (key i).choose).length = len := by simp
  have hg : ∀ (i : Nat) (x : It), ((List.range len).map fun i => (key i).choose)[i]? = some x → i < len ∧ x = (key i).choose := by
    intro i x hx
    rw [List.getElem?_map] at hx
    rcases Nat.lt_or_ge i len with hi | hi
    · rw [List.getElem?_range hi] at hx
      injection hx with hx
      exact ⟨hi, hx.symm⟩
    · rw [List.getElem?_eq_none (by simpa using hi)] at hx
      cases hx
  refine ⟨a, cap, (List.range len).map fun i => (key i).choose, by rw [hl], by rw [hl]; exact h1, h2, fun x hx => ?_, ?_⟩
  · obtain ⟨i, hi⟩ := List.getElem?_of_mem hx
    obtain ⟨hi', rfl⟩ := hg i x hi
    exact ((key i).choose_spec hi').1
  · rcases Nat.eq_zero_or_pos len with h0 | h0
    · subst h0
      exact .inl rfl
    · obtain ⟨b, off, ha, hlt, _⟩ := h3 h0
      refine .inr ⟨b, off, ha, hlt, fun i x hx j u hu => ?_⟩
      obtain ⟨hi', rfl⟩ := hg i x hx
      exact ((key i).choose_spec hi').2 b off ha j u hu
end
/-- the items' records -/
def rsI (its : List It) : List Rc := its.map It.r
theorem rsI_ok {its : List It} (h : ∀ t ∈ its, t.In) : ∀ r ∈ rsI its, r.Ok := by
  intro r hr
  obtain ⟨t, ht, rfl⟩ := List.mem_map.1 hr
  exact It.ok (h t ht)
theorem rsI_sz {its : List It} (h : ∀ t ∈ its, t.In) : ∀ r ∈ rsI its, r.Sz := by
  intro r hr
  have := rsI_ok h r hr
  exact ⟨by have := this.2.2.2.2.2.1; unfold maxLen; omega, by have := this.2.2.2.2.2.2; unfold maxLen; omega⟩
theorem rsI_take (its : List It) (k : Nat) : rsI (its.take k) = (rsI its).take k := by simp [rsI]
theorem it_size {t : It} (h : t.In) : 19 ≤ t.r.size ∧ t.r.size ≤ 78 := by
  obtain ⟨del, key, val, seq⟩ := t
  have hs := keyS_size key
  have hv := valS_size (val % 60).toNat
  obtain ⟨h1, h2, h3, h4, h5, h6⟩ := h
  simp only [] at h1 h2 h3 h4 h5 h6
  unfold It.r Rc.size
  cases del
  · show 19 ≤ 16 + (keyS key).size + (valS (val % 60).toNat).size ∧ 16 + (keyS key).size + (valS (val % 60).toNat).size ≤ 78
    omega
  · show 19 ≤ 16 + (keyS key).size + (⟨#[]⟩ : ByteArray).size ∧ 16 + (keyS key).size + (⟨#[]⟩ : ByteArray).size ≤ 78
    rw [hs]
    decide
theorem sizeL_its {its : List It} (h : ∀ t ∈ its, t.In) : 19 * its.length ≤ sizeL (rsI its) ∧ sizeL (rsI its) ≤ 78 * its.length := by
  induction its with
  | nil => simp [rsI, sizeL, encL]
  | cons t its ih =>
    have h1 := it_size (h t (by simp))
    have h2 := ih (fun x hx => h x (by simp [hx]))
    have : rsI (t :: its) = t.r :: rsI its := rfl
    rw [this, sizeL_cons, List.length_cons]
    omega
/-- the offsets, and where the encodings end -/
def atL (rs : List Rc) : List Value := (List.range (rs.length + 1)).map fun i => .int .i64 (sizeL (rs.take i) : Nat)
set_option maxHeartbeats 1600000 in
set_option maxRecDepth 100000 in
theorem recs_any (A : Option Addr) (n cap : Nat) (its : List It) (w : World) (h : IsIt w A its) (hn : its.length = n) (hn2 : n ≤ 1000) :
    Calls Try.prog 18 #[.slice A n cap] w fun e w' => (∃ v, e = .returned v ∧ w'.ownsRow w.heap.size 34 4 v n (flat (rsI its))) ∧ Below w.heap.size w w' := by
  obtain ⟨i0, hi0, hz0, hz1, hz2⟩ := info_parts rec_info
  have HN := Lib.hid hn
  clear hn
  go_enter Try.func18, Try.ntmps18
  go_wp2_with fail
  go_loopw [3, 4] (fun o i wr => ∃ (q : Nat) (ov : Value), q ≤ n ∧ i = .int .i64 q ∧ ov = o ∧ wr.ownsRow w.heap.size 34 4 ov q (flat (rsI (its.take q))) ∧ Below w.heap.size w wr) (fun _ i _ => n - (intOf i).toNat)
  case atStart => exact ⟨0, _, Nat.zero_le _, rfl, rfl, World.ownsRow_nil _ _ _ _, Below.refl _ _⟩
  case round =>
    obtain ⟨q, ov, hq, rfl, rfl, oo, hB⟩ := hrel
    by_cases hlt : q < n
    · obtain ⟨t, hx⟩ : ∃ t, its[q]? = some t := ⟨_, List.getElem?_eq_getElem (by have := HN.out; omega)⟩
      have hIn := h.1 t (List.mem_of_getElem? hx)
      have hr := fun w => itrec_any t hIn w
      have hfl : flat (rsI (its.take (q + 1))) = flat (rsI (its.take q)) ++ t.r.cs.toList := by
        rw [List.take_add_one, hx]
        show flat (rsI (its.take q ++ [t])) = _
        rw [rsI, List.map_append]
        exact flat_snoc _ _
      obtain ⟨b, off, rfl, _, k0, k1, k2, k3⟩ := (h.later hB).at_ hx
      obtain ⟨rr, hrr⟩ : ∃ rr, rr = t.r := ⟨_, rfl⟩
      rw [← hrr] at hr hfl
      obtain ⟨kind, sq, ky, vl⟩ := rr
      obtain ⟨del, key, val, seq⟩ := t
      have hr : ∀ w : World, Calls Try.prog 29 #[.agg #[.bool del, .int .u8 key, .int .u8 val, .int .u16 seq]] w fun e w' => e = .returned (.agg #[.int .i64 kind, .int .i64 sq, .string ky, .string vl]) ∧ Below w.heap.size w w' := hr
      have k0 : wr.cell? ⟨b, off + q * 4, none⟩ = some (.bool del) := k0
      have k1 : wr.cell? ⟨b, off + q * 4 + 1, none⟩ = some (.int .u8 key) := k1
      have k2 : wr.cell? ⟨b, off + q * 4 + 2, none⟩ = some (.int .u8 val) := k2
      have k3 : wr.cell? ⟨b, off + q * 4 + 3, none⟩ = some (.int .u16 seq) := k3
      have z1 : (q : Int) < (n : Int) := by omega
      have z2 : (0 : Int) ≤ (q : Int) := by omega
      have HF := Lib.hid hfl
      clear hfl hrr hx hIn h
      go_wp2_with fail
      refine (hr _).mono ?_
      rintro e w1 ⟨rfl, hb1⟩
      have o2 := own_below (own_below oo hb1) (b_alloc (Below.refl _ w1) (.cells #[.int .i64 kind, .int .i64 sq, .string ky, .string vl] 34))
      have j2 := b_alloc (b_then hB hb1) (.cells #[.int .i64 kind, .int .i64 sq, .string ky, .string vl] 34)
      have hrd := Reads.rec w1 34 ⟨kind, sq, ky, vl⟩
      have k4 : ∀ u ∈ (Rc.cs ⟨kind, sq, ky, vl⟩).toList, u.oneCell' = true := by intro u hu; simp [Rc.cs] at hu; rcases hu with rfl | rfl | rfl | rfl <;> rfl
      have k5 : q + 1 ≤ maxLen := by unfold maxLen; omega
      have k6 : (q + 1) * 48 ≤ 140737488355328 := by omega
      have k7 := j2.size
      clear hr oo hB hb1 k0 k1 k2 k3
      go_wp2_with (first
        | (at_builtin; refine wpList_append_any _ rfl (.tmp 11) (.tmp 17) _ rfl w.heap.size 34 i0 _ 4 48 Try.underlying41 hi0 hz0 hz1 hz2 rfl (by omega) _ q _ rfl o2 _ _ 1 1 _ rfl hrd k4 k5 k6 k7 ?_; intro v5 w5 o5 hg5 hat5; have hB5 := j2.grown hg5 k7 (fun k hk => (World.ownsRow.lt o2 k hk).1); clear hg5 hat5 o2 hrd j2))
      go_roundw
      case rel => exact ⟨q + 1, _, by omega, by go_num, rfl, by rw [HF.out]; exact o5, hB5⟩
      case measure => simp [intOf]; omega
    · obtain rfl : n = q := by omega
      rw [List.take_of_length_le (by rw [HN.out]; exact Nat.le_refl _)] at oo
      clear h
      go_wp2_with fail
      go_ret
      exact ⟨⟨_, rfl, oo⟩, hB⟩
end Go.Proofs.Ytjcdflohkajbcaa

/-
  The encodings of items' records, one behind the other, with their offsets.
-/
namespace Go.Proofs.Ytjcdflohkajbcaa
open Go.RowKit
set_option linter.unusedVariables false
set_option linter.unusedSimpArgs false
theorem own_slice {w : World} {B k n : Nat} {e : TypeId} {v : Value} {xs : List Value} (h : w.ownsRow B e k v n xs) : ∃ (A : Option Addr) (c : Nat), v = .slice A n c := by
  rcases h.2 with ⟨rfl, h0⟩ | ⟨g, cap, cur, rfl, _⟩
  · exact ⟨none, 0, by rw [h0]⟩
  · exact ⟨_, _, rfl⟩
def atQ (rs : List Rc) (q : Nat) : List Value := (List.range (q + 1)).map fun i => .int .i64 (sizeL (rs.take i) : Nat)
theorem atQ_succ (rs : List Rc) (q : Nat) : atQ rs (q + 1) = atQ rs q ++ [.int .i64 (sizeL (rs.take (q + 1)) : Nat)] := by
  unfold atQ
  rw [List.range_succ (n := q + 1), List.map_append]
  rfl
set_option maxHeartbeats 1600000 in
set_option maxRecDepth 100000 in
theorem bytes_any (A : Option Addr) (n cap : Nat) (its : List It) (w : World) (h : IsIt w A its) (hn : its.length = n) (hn2 : n ≤ 100) :
    Calls Try.prog 12 #[.slice A n cap] w fun e w' => (∃ v1 v2, e = .returned (.tuple #[v1, v2]) ∧ IsB w' w.heap.size v1 (encL (rsI its)) ∧ w'.ownsRow w.heap.size 3 1 v2 (n + 1) (atQ (rsI its) n)) ∧ Below w.heap.size w w' := by
  obtain ⟨i0, hi0, hz0, hz1, hz2⟩ := info_parts byte_info'
  obtain ⟨i1, hi1, hy0, hy1, hy2⟩ := info_parts int_info
  have HN := Lib.hid hn
  clear hn
  have oL : (w.alloc (.cells #[.int .i64 0] 3)).ownsRow w.heap.size 3 1 (.slice (some ⟨w.heap.size, 0, none⟩) 1 1) 1 [.int .i64 0] := World.ownsRow_lit w #[.int .i64 0] 1 (Nat.le_refl _) (by unfold maxLen; omega) rfl
  have hb0 : Below w.heap.size w (w.alloc (.cells #[.int .i64 0] 3)) := b_alloc (Below.refl _ _) _
  go_enter Try.func12, Try.ntmps12
  go_wp2_with fail
  go_loopw [4, 5, 6] (fun o a i wr => ∃ (q : Nat) (ov av : Value), q ≤ n ∧ i = .int .i64 q ∧ ov = o ∧ av = a ∧ IsB wr w.heap.size ov (encL ((rsI its).take q)) ∧ wr.ownsRow w.heap.size 3 1 av (q + 1) (atQ (rsI its) q) ∧ Below w.heap.size w wr) (fun _ _ i _ => n - (intOf i).toNat)
  case atStart => exact ⟨0, _, _, Nat.zero_le _, rfl, rfl, rfl, IsB.nil _ _, oL, hb0⟩
  case round =>
    clear oL hb0
    obtain ⟨q, ov, av, hq, rfl, rfl, rfl, oo, oa, hB⟩ := hrel
    by_cases hlt : q < n
    · obtain ⟨t, hx⟩ : ∃ t, its[q]? = some t := ⟨_, List.getElem?_eq_getElem (by have := HN.out; omega)⟩
      have hIn := h.1 t (List.mem_of_getElem? hx)
      have hr := fun w => itrec_any t hIn w
      have hok := It.ok hIn
      have hsz := it_size hIn
      have hts : (rsI its).take (q + 1) = (rsI its).take q ++ [t.r] := by
        rw [List.take_add_one, rsI, List.getElem?_map, hx]
        rfl
      have hen := fun w => ren4_yes t.r hok w
      have hE : encL ((rsI its).take (q + 1)) = encL ((rsI its).take q) ++ encF t.r := by rw [hts, encL_snoc]
      have hSz : sizeL ((rsI its).take (q + 1)) = (encL ((rsI its).take q)).length + t.r.size := by rw [hts, sizeL_snoc]; rfl
      have hLq : (encL ((rsI its).take q)).length ≤ 78 * q := by
        have h2 := (sizeL_its (its := its.take q) (fun x hx => h.1 x (List.mem_of_mem_take hx))).2
        rw [rsI_take] at h2
        have h3 : (its.take q).length ≤ q := List.length_take_le _ _
        unfold sizeL at h2
        omega
      have hEl := encF_length t.r
      obtain ⟨b, off, rfl, _, k0, k1, k2, k3⟩ := (h.later hB).at_ hx
      obtain ⟨E, hEe⟩ : ∃ E, E = encF t.r := ⟨_, rfl⟩
      obtain ⟨N, hNe⟩ : ∃ N, N = t.r.size := ⟨_, rfl⟩
      rw [← hEe] at hen hE hEl
      rw [← hNe] at hSz hEl hsz
      obtain ⟨rr, hrr⟩ : ∃ rr, rr = t.r := ⟨_, rfl⟩
      rw [← hrr] at hr hen
      obtain ⟨kind, sq, ky, vl⟩ := rr
      have hen : ∀ w : World, Calls Try.prog 31 #[.agg #[.int .i64 kind, .int .i64 sq, .string ky, .string vl]] w fun e w' => (∃ v', e = .returned (.tuple #[v', .int .i64 0]) ∧ IsB w' w.heap.size v' E) ∧ Below w.heap.size w w' := hen
      obtain ⟨del, key, val, seq⟩ := t
      have hr : ∀ w : World, Calls Try.prog 29 #[.agg #[.bool del, .int .u8 key, .int .u8 val, .int .u16 seq]] w fun e w' => e = .returned (.agg #[.int .i64 kind, .int .i64 sq, .string ky, .string vl]) ∧ Below w.heap.size w w' := hr
      have k0 : wr.cell? ⟨b, off + q * 4, none⟩ = some (.bool del) := k0
      have k1 : wr.cell? ⟨b, off + q * 4 + 1, none⟩ = some (.int .u8 key) := k1
      have k2 : wr.cell? ⟨b, off + q * 4 + 2, none⟩ = some (.int .u8 val) := k2
      have k3 : wr.cell? ⟨b, off + q * 4 + 3, none⟩ = some (.int .u16 seq) := k3
      have z1 : (q : Int) < (n : Int) := by omega
      have z2 : (0 : Int) ≤ (q : Int) := by omega
      obtain ⟨L, hL⟩ : ∃ L, L = (encL ((rsI its).take q)).length := ⟨_, rfl⟩
      rw [← hL] at hSz hLq
      have o2 : wr.ownsRow w.heap.size 5 1 ov L ((encL ((rsI its).take q)).map (Value.int .u8)) := by rw [hL]; exact oo
      have hfin : ∀ (v : Value) (w' : World), w'.ownsRow w.heap.size 5 1 v (L + N) ((encL ((rsI its).take q)).map (Value.int .u8) ++ E.map (Value.int .u8)) → IsB w' w.heap.size v (encL ((rsI its).take (q + 1))) := by
        intro v w' h
        unfold IsB
        rw [hE, List.length_append, List.map_append, ← hL, hEl]
        exact h
      have HSZ := Lib.hid hSz
      have HEL := Lib.hid hEl
      clear hE hSz hEl hts hx hok hrr hEe hNe hL oo hIn h
      go_wp2_with fail
      refine (hr _).mono ?_
      rintro e w1 ⟨rfl, hb1⟩
      go_wp2_with fail
      refine (hen _).mono ?_
      rintro e w2 ⟨⟨ve, rfl, hI⟩, hb2⟩
      have hb12 := b_then hb1 hb2
      have o3 := own_below o2 hb12
      have a3 := own_below oa hb12
      have j3 := b_then hB hb12
      obtain ⟨Ae, ce, rfl⟩ := own_slice hI
      have hrd := Reads.of_own hI
      rw [HEL.out] at hrd
      have hEl2 := HEL.out
      rw [HEL.out]
      clear hEl2 hI hr hen o2 oa hB hb1 hb2 hb12 k0 k1 k2 k3
      have k4 : ∀ u ∈ E.map (Value.int .u8), u.oneCell' = true := bytes_one
      have k5 : L + N ≤ maxLen := by unfold maxLen; omega
      have k6 : (L + N) * 1 ≤ 140737488355328 := by omega
      have k7 := j3.size
      have k8 : q + 1 + 1 ≤ maxLen := by unfold maxLen; omega
      have k9 : (q + 1 + 1) * 8 ≤ 140737488355328 := by omega
      obtain ⟨T, hT⟩ : ∃ T, T = L + N := ⟨_, rfl⟩
      have hT2 : T ≤ 100000 := by omega
      have HT := Lib.hid hT
      clear hT
      have k1 : ∀ u ∈ ([.int .i64 (T : Nat)] : List Value), u.oneCell' = true := by intro u hu; simp at hu; subst hu; rfl
      go_wp2_with (first
        | (at_builtin; refine wpList_append_any _ rfl (.tmp 25) (.tmp 26) _ rfl w.heap.size 5 i0 _ 1 1 Try.underlying25 hi0 hz0 hz1 hz2 rfl (by omega) _ L _ rfl o3 _ _ N ce _ rfl hrd k4 k5 k6 k7 ?_; intro v5 w5 o5 hg5 hat5; have a5 := own_grown a3 hg5 (fun k hk => own_types a3 o3 (by decide) k hk); have j5 := j3.grown hg5 k7 (fun k hk => (World.ownsRow.lt o3 k hk).1); have o6 := hfin _ _ o5; rw [← HT.out] at o5; obtain ⟨A5, c5, rfl⟩ := own_slice o5; have a6 := own_below a5 (b_alloc (Below.refl _ w5) (.cells #[.int .i64 (T : Nat)] 3)); have o7 : IsB (w5.alloc (.cells #[.int .i64 (T : Nat)] 3)) w.heap.size (.slice A5 T c5) (encL ((rsI its).take (q + 1))) := own_below o6 (b_alloc (Below.refl _ w5) (.cells #[.int .i64 (T : Nat)] 3)); have j6 := b_alloc j5 (.cells #[.int .i64 (T : Nat)] 3); have k10 := j6.size; have hrd2 := Reads.one w5 3 (.int .i64 (T : Nat)); clear hg5 hat5 o3 a3 hrd a5 j5 o5 o6)
        | (at_builtin; refine wpList_append_any _ rfl (.tmp 28) (.tmp 31) _ rfl w.heap.size 3 i1 _ 1 8 Try.underlying26 hi1 hy0 hy1 hy2 rfl (by omega) _ (q + 1) _ rfl a6 _ _ 1 1 _ rfl hrd2 k1 k8 k9 k10 ?_; intro v7 w7 o8 hg7 hat7; have o9 : IsB w7 w.heap.size (.slice A5 T c5) (encL ((rsI its).take (q + 1))) := own_grown o7 hg7 (fun k hk => own_types o7 a6 (by decide) k hk); have j7 := j6.grown hg7 k10 (fun k hk => (World.ownsRow.lt a6 k hk).1); clear hg7 hat7 o7 a6 j6 hrd2))
      go_roundw
      case rel => exact ⟨q + 1, _, _, by omega, by go_num, rfl, rfl, o9, by rw [atQ_succ, HSZ.out, ← HT.out]; exact o8, j7⟩
      case measure => simp [intOf]; omega
    · obtain rfl : n = q := by omega
      have hl : (rsI its).length = n := by rw [rsI, List.length_map, HN.out]
      rw [List.take_of_length_le (by omega)] at oo
      clear h hl
      go_wp2_with fail
      go_ret2
      exact ⟨⟨_, _, rfl, oo, oa⟩, hB⟩
end Go.Proofs.Ytjcdflohkajbcaa

/-
  What the statements on items' encodings lean on.
-/
namespace Go.Proofs.Ytjcdflohkajbcaa
open Go.RowKit
set_option linter.unusedVariables false
set_option linter.unusedSimpArgs false
theorem map_add0 (A : Option Addr) : A.map (·.add 0) = A := by
  cases A with
  | none => rfl
  | some a => simp [Addr.add]
set_option maxRecDepth 100000 in
theorem slice_to8 {A : Option Addr} {len cap k : Nat} (h1 : k ≤ cap) (w : World) : (Instr.sliceAt 25 (.slice A len cap) none (some (.int .i64 (k : Nat))) none).run Try.prog w = .ok (.slice A k cap) w := by
  have h := run_slice_h (P := Try.prog) (w := w) 25 A len cap Try.underlying25 .i64 (k : Nat) (by omega) (by omega)
  rw [run_sliceAt_slice (h := Try.underlying25), h]
  simp [go_sem, sliced, map_add0]
set_option maxRecDepth 100000 in
theorem slice_toI {A : Option Addr} {len cap k : Nat} (h1 : k ≤ cap) (w : World) : (Instr.sliceAt 26 (.slice A len cap) none (some (.int .i64 (k : Nat))) none).run Try.prog w = .ok (.slice A k cap) w := by
  have h := run_slice_h (P := Try.prog) (w := w) 26 A len cap Try.underlying26 .i64 (k : Nat) (by omega) (by omega)
  rw [run_sliceAt_slice (h := Try.underlying26), h]
  simp [go_sem, sliced, map_add0]
set_option maxRecDepth 100000 in
theorem slice_toT {A : Option Addr} {len cap k : Nat} (h1 : k ≤ cap) (w : World) : (Instr.sliceAt 22 (.slice A len cap) none (some (.int .i64 (k : Nat))) none).run Try.prog w = .ok (.slice A k cap) w := by
  have h := run_slice_h (P := Try.prog) (w := w) 22 A len cap Try.underlying22 .i64 (k : Nat) (by omega) (by omega)
  rw [run_sliceAt_slice (h := Try.underlying22), h]
  simp [go_sem, sliced, map_add0]
theorem RB.take' {w : World} {A : Option Addr} {M : List Int} (h : RB w A M) (k : Nat) : RB w A (M.take k) := by
  rcases h with ⟨h1, h2⟩ | ⟨b, off, h1, hc⟩
  · exact .inl ⟨h1, by rw [h2]; simp⟩
  · refine .inr ⟨b, off, h1, fun i hi => ?_⟩
    rw [List.length_take] at hi
    rw [hc i (by omega), getD_take (by omega)]
theorem BA.take_ {w : World} {A : Option Addr} {len cap : Nat} {M : List Int} (h : BA w A len cap M) (k : Nat) (hk : k ≤ len) : BA w A k cap (M.take k) :=
  ⟨by rw [List.length_take, h.1]; omega, fun hp => ⟨(h.2.1 (by omega)).1.take' k, (h.2.1 (by omega)).2⟩, h.2.2.1.take k, Nat.le_trans hk h.2.2.2.1, h.2.2.2.2⟩
/-- the offsets that stand in front are those of the first records -/
theorem atQ_take (rs : List Rc) {n k : Nat} (hk : k ≤ n) (hn : rs.length = n) : (atQ rs n).take k = offs (pairsF 0 (rs.take k)) := by
  have h1 : offs (pairsF 0 (rs.take k)) = ((pairsF 0 (rs.take k)).map Prod.fst).map fun (o : Nat) => Value.int .i64 (o : Nat) := by rw [offs, List.map_map]; rfl
  rw [h1, pairsF_fst, List.map_map, atQ, ← List.map_take, List.take_range, List.length_take]
  have e1 : min k (n + 1) = k := by omega
  have e2 : min k rs.length = k := by omega
  rw [e1, e2]
  apply List.map_congr_left
  intro i hi
  have hi' := List.mem_range.1 hi
  show Value.int .i64 _ = Value.int .i64 ((0 + sizeL ((rs.take k).take i) : Nat) : Int)
  rw [List.take_take, Nat.zero_add, show min i k = i by omega]
theorem atQ_at (rs : List Rc) {n k : Nat} (hk : k ≤ n) : (atQ rs n)[k]? = some (.int .i64 (sizeL (rs.take k) : Nat)) := by
  rw [atQ, List.getElem?_map, List.getElem?_range (by omega)]
  rfl
theorem RI.cell {w : World} {A : Option Addr} {L : List Value} (h : RI w A L) {i : Nat} {u : Value} (hu : L[i]? = some u) : ∃ b off : Nat, A = some ⟨b, off, none⟩ ∧ b < w.heap.size ∧ w.cell? ⟨b, off + i, none⟩ = some u := by
  rcases h with h | ⟨b, off, h1, h2, hc⟩
  · subst h
    simp at hu
  · exact ⟨b, off, h1, h2, hc i u hu⟩
/-- bytes that begin as a record's are no footer's -/
theorem fdec_rec {r : Rc} (h : r.Ok) {Z : List Int} (hL : 16 ≤ Z.length → ∀ i, i < 16 → Z.getD i 0 = (encF r).getD i 0) : (fdec Z).2.2 ≠ 0 := by
  unfold fdec
  simp only []
  split
  · decide
  · rename_i hl
    have hb := begins (M := Z) h (hL (by omega))
    rw [if_pos (fun hh => by
      have h3 := hh.2.1
      rw [hb.k] at h3
      exact h.ne3 h3)]
    decide
theorem sealB_no {M : List Int} {rs : List Rc} {en : Nat} (h : M.length = en + 16 → (fdec (M.drop en)).2.2 ≠ 0) : sealB M rs en = false := by
  unfold sealB
  by_cases h1 : M.length = en + 16
  · rw [decide_eq_false (h h1)]
    simp
  · rw [decide_eq_false h1]
    rfl
theorem sizeL_take_succ {rs : List Rc} {k : Nat} {r : Rc} (hr : rs[k]? = some r) : sizeL (rs.take (k + 1)) = sizeL (rs.take k) + r.size := by
  rw [List.take_add_one, hr]
  exact sizeL_snoc _ _
theorem sizeL_mono (rs : List Rc) {i k : Nat} (h : i ≤ k) : sizeL (rs.take i) ≤ sizeL (rs.take k) := by
  have h1 : rs.take i = (rs.take k).take i := by rw [List.take_take]; congr 1; omega
  have h2 : sizeL (rs.take k) = sizeL ((rs.take k).take i) + sizeL ((rs.take k).drop i) := by
    unfold sizeL
    rw [← List.length_append, ← encL_app, List.take_append_drop]
  rw [h1, h2]
  omega
/-- the first bytes of encodings: which records, and why they end -/
theorem torn_facts {rs : List Rc} (hok : ∀ r ∈ rs, r.Ok) {n k : Nat} (hk : k ≤ rs.length) (h1 : sizeL (rs.take k) ≤ n) (h2 : k < rs.length → n < sizeL (rs.take (k + 1))) (hn : n ≤ sizeL rs) :
    Scanned ((encL rs).take n) (pairsF 0 (rs.take k)) (sizeL (rs.take k)) ∧ sealB ((encL rs).take n) (rs.take k) (sizeL (rs.take k)) = false ∧ reasonF ((encL rs).take n) (rs.take k) (sizeL (rs.take k)) = (if sizeL (rs.take k) = n then 0 else 14) := by
  obtain ⟨Z, hZ, hZe⟩ := encL_take hk h1
  have hokT : ∀ r ∈ rs.take k, r.Ok := fun r hr => hok r (List.mem_of_mem_take hr)
  have hlen : ((encL rs).take n).length = n := by rw [List.length_take]; unfold sizeL at hn; omega
  have hdrop : ((encL rs).take n).drop (sizeL (rs.take k)) = Z := by rw [hZ]; exact List.drop_left' rfl
  have key : decF Z = (Rc.zero, 0, 14) ∧ (Z.length = 16 → (fdec Z).2.2 ≠ 0) := by
    rcases Nat.lt_or_ge k rs.length with hlt | hge
    · have hr : rs[k]? = some rs[k] := List.getElem?_eq_getElem hlt
      have hrok := hok _ (List.getElem_mem hlt)
      have hd : rs.drop k = rs[k] :: rs.drop (k + 1) := List.drop_eq_getElem_cons hlt
      have hm : n - sizeL (rs.take k) < rs[k].size := by
        have := h2 hlt
        rw [sizeL_take_succ hr] at this
        omega
      have hZ2 : Z = (encF rs[k]).take (n - sizeL (rs.take k)) := by
        rw [hZe, hd, encL_cons, List.take_append_of_le_length (by rw [encF_length]; omega)]
      refine ⟨by rw [hZ2]; exact decF_short hrok hm, fun h16 => fdec_rec hrok fun _ i hi => ?_⟩
      rw [hZ2, List.length_take, encF_length] at h16
      rw [hZ2, getD_take (by omega)]
    · have : Z = [] := by rw [hZe, List.drop_eq_nil_of_le (by omega)]; simp [encL]
      subst this
      exact ⟨decF_nil', fun h => by simp at h⟩
  have hseal : sealB ((encL rs).take n) (rs.take k) (sizeL (rs.take k)) = false := sealB_no fun h16 => by
    rw [hdrop]
    refine key.2 ?_
    rw [← hdrop, List.length_drop]
    omega
  refine ⟨?_, hseal, ?_⟩
  · rw [hZ]
    exact scanned_encs hokT (by rw [key.1]; decide)
  · unfold reasonF
    rw [hseal, hlen, hdrop, key.1]
    by_cases hq : sizeL (rs.take k) = n
    · rw [if_pos (.inl hq), if_pos hq]
    · rw [if_neg (by simp [hq]), if_neg hq]
/-- a changed byte: which records are left -/
theorem changed_facts {rs : List Rc} (hok : ∀ r ∈ rs, r.Ok) {n k h : Nat} (hk : k < rs.length) (h1 : sizeL (rs.take k) ≤ n) (h2 : n < sizeL (rs.take (k + 1))) (hn : n - sizeL (rs.take k) < 5 ∨ 7 < n - sizeL (rs.take k)) (hh : h ≠ 0) (hh2 : h < 256) :
    Scanned (chg (encL rs) n h) (pairsF 0 (rs.take k)) (sizeL (rs.take k)) ∧ sealB (chg (encL rs) n h) (rs.take k) (sizeL (rs.take k)) = false ∧ reasonF (chg (encL rs) n h) (rs.take k) (sizeL (rs.take k)) ≠ 0 := by
  have hr : rs[k]? = some rs[k] := List.getElem?_eq_getElem hk
  have hrok := hok _ (List.getElem_mem hk)
  have hd : rs.drop k = rs[k] :: rs.drop (k + 1) := List.drop_eq_getElem_cons hk
  rw [sizeL_take_succ hr] at h2
  obtain ⟨P, hP⟩ : ∃ P, P = encL (rs.take k) := ⟨_, rfl⟩
  obtain ⟨Q, hQ⟩ : ∃ Q, Q = encL (rs.drop (k + 1)) := ⟨_, rfl⟩
  have hPl : P.length = sizeL (rs.take k) := by rw [hP]; rfl
  have hE : encL rs = P ++ (encF rs[k] ++ Q) := by
    conv => lhs; rw [← List.take_append_drop k rs, encL_app, hd, encL_cons]
    rw [hP, hQ]
  obtain ⟨j, hj⟩ : ∃ j, j = n - sizeL (rs.take k) := ⟨_, rfl⟩
  have hjl : j < (encF rs[k]).length := by rw [encF_length]; omega
  have hC : chg (encL rs) n h = P ++ (chg (encF rs[k]) j h ++ Q) := by
    unfold chg
    rw [hE, List.set_append_right _ _ (by omega), hPl, ← hj, List.set_append_left _ _ hjl]
    congr 3
    rw [List.getD_eq_getElem?_getD, List.getD_eq_getElem?_getD, List.getElem?_append_right (by omega), hPl, ← hj, List.getElem?_append_left hjl]
  have herr := chg_err_more hrok (j := j) (q := h) (by rw [encF_length] at hjl; exact hjl) (by omega) hh hh2 (more := Q) (by rw [hQ]; exact encL_bb _)
  have hdrop : (chg (encL rs) n h).drop (sizeL (rs.take k)) = chg (encF rs[k]) j h ++ Q := by rw [hC]; exact List.drop_left' hPl
  have hlen : (chg (encL rs) n h).length = sizeL (rs.take k) + (rs[k].size + Q.length) := by rw [hC, List.length_append, List.length_append, chg_length, encF_length, hPl]
  have hs16 : 17 ≤ rs[k].size := by have := hrok.2.2.2.2.1; unfold Rc.size; omega
  have hseal : sealB (chg (encL rs) n h) (rs.take k) (sizeL (rs.take k)) = false := sealB_no fun h16 => by omega
  refine ⟨?_, hseal, ?_⟩
  · rw [hC, hP]
    exact scanned_encs (fun r hr => hok r (List.mem_of_mem_take hr)) herr
  · unfold reasonF
    rw [hseal, hlen, hdrop, if_neg (by simp; omega)]
    exact herr
end Go.Proofs.Ytjcdflohkajbcaa
