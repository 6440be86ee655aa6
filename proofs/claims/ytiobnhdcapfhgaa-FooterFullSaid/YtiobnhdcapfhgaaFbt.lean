/-
  Plain: a footer's encoding of which one bit was changed is refused.
-/
import Derived.Test.YtiobnhdcapfhgaaFtm
import Derived.Test.YtiobnhdcapfhgaaChgm
namespace Go.Proofs.Ytiobnhdcapfhgaa
set_option linter.unusedVariables false
theorem xor_self_ne {a m : Nat} : a ^^^ 2 ^ m ≠ a := by
  intro h
  have h2 : a ^^^ (a ^^^ 2 ^ m) = 0 := by rw [h, Nat.xor_self]
  rw [← Nat.xor_assoc, Nat.xor_self, Nat.zero_xor] at h2
  have := Nat.two_pow_pos m
  omega
theorem fbit {c l : Int} (h : FOk c l) {k : Nat} (hk : k < 128) : fdec (flip (fenc c l) k) = (0, 0, 8) ∨ fdec (flip (fenc c l) k) = (0, 0, 15) := by
  have hl : (flip (fenc c l) k).length = 16 := by rw [flip_length]; rfl
  have hB := flip_bb (fenc_bb c l) k
  rcases fdec_err (flip (fenc c l) k) with h0 | h0 | h0 | h0
  · exfalso
    obtain ⟨⟨c', l', e⟩, he⟩ : ∃ x, x = fdec (flip (fenc c l) k) := ⟨_, rfl⟩
    rw [← he] at h0
    have h0 : e = 0 := h0
    subst h0
    obtain ⟨h', _, ht⟩ := fdec_ok hB he.symm
    rw [List.take_of_length_le (by omega)] at ht
    have hd := congrArg (List.drop 4) ht
    have hdr : ∀ c l : Int, (fenc c l).drop 4 = hrest 3 0 c l := fun c l => List.drop_left' rfl
    have htk : ∀ c l : Int, (fenc c l).take 4 = le4 (csI (hrest 3 0 c l)) := fun c l => List.take_left' rfl
    by_cases hk4 : k / 8 < 4
    · rw [flip_drop4' _ _ hk4, hdr, hdr] at hd
      have hE : flip (fenc c l) k = fenc c l := by rw [ht]; unfold fenc; rw [hd]
      have h1 := flip_same (fenc c l) k (by show k / 8 < 16; omega)
      rw [hE] at h1
      have hb := BB.getD (fenc_bb c l) (k / 8) (by show k / 8 < 16; omega)
      have h2 : ((fenc c l).getD (k / 8) 0).toNat ^^^ 2 ^ (k % 8) = ((fenc c l).getD (k / 8) 0).toNat := by omega
      exact xor_self_ne h2
    · rw [flip_drop4 _ _ (by omega), hdr, hdr] at hd
      have hS : dS (fun i => (flip (fenc c l) k).getD i 0) = dS (fun i => (fenc c l).getD i 0) := by
        unfold dS
        simp only []
        rw [flip_other _ _ 0 (by omega), flip_other _ _ 1 (by omega), flip_other _ _ 2 (by omega), flip_other _ _ 3 (by omega)]
      obtain ⟨_, _, _, _, s1⟩ := fbegins (M := fenc c l) h (fun i hi => rfl)
      obtain ⟨_, _, _, _, s2⟩ := fbegins (M := fenc c' l') h' (fun i hi => rfl)
      rw [ht, s1, s2, csI_eq, csI_eq, ← hd, csN_flip _ (by show (k - 32) / 8 < 12; omega)] at hS
      have h3 : csN (hrest 3 0 c l) ^^^ csteps (8 * (hrest 3 0 c l).length - (k - 32)) 1 = csN (hrest 3 0 c l) := by omega
      have h4 : csteps (8 * (hrest 3 0 c l).length - (k - 32)) 1 = 0 := by
        have h5 : csN (hrest 3 0 c l) ^^^ (csN (hrest 3 0 c l) ^^^ csteps (8 * (hrest 3 0 c l).length - (k - 32)) 1) = 0 := by rw [h3, Nat.xor_self]
        rwa [← Nat.xor_assoc, Nat.xor_self, Nat.zero_xor] at h5
      exact csteps_ne (by omega) (by omega) h4
  · have := (fdec_torn (flip (fenc c l) k)).1 (by rw [h0])
    omega
  · exact .inl h0
  · exact .inr h0
/-- a valid footer from numbers -/
def madeL (ct la : Int) : Int := if ct = 0 then 0 else 1 + la % 1099511627776
theorem made_ok {ct la : Int} (h0 : 0 ≤ ct) (h1 : ct ≤ 65535) : FOk ct (madeL ct la) := by
  unfold madeL FOk
  split
  · omega
  · omega
end Go.Proofs.Ytiobnhdcapfhgaa
