/-
  Plain: footers, their bytes, and what bytes are decoded to.
-/
import Derived.Test.YtiobnhdcapfhgaaRecp
namespace Go.Proofs.Ytiobnhdcapfhgaa
open Go.RowKit
set_option linter.unusedVariables false

def FOk (c l : Int) : Prop := 0 ≤ c ∧ c ≤ 65535 ∧ 0 ≤ l ∧ l ≤ 1099511627776 ∧ (c = 0 ↔ l = 0)
instance (c l : Int) : Decidable (FOk c l) := by unfold FOk; infer_instance
theorem FOk.hok {c l : Int} (h : FOk c l) : HOk 3 0 c l := by
  unfold FOk at h
  unfold HOk
  omega
def fenc (c l : Int) : List Int := le4 (csI (hrest 3 0 c l)) ++ hrest 3 0 c l
theorem fenc_length (c l : Int) : (fenc c l).length = 16 := rfl
theorem fenc_bb (c l : Int) : BB (fenc c l) := (le4_bb _).app (hrest_bb _ _ _ _)
theorem fenc_hb (c l : Int) : fenc c l = hbytes (csI (hrest 3 0 c l)) 3 0 c l := rfl
/-- what bytes are decoded to: the count, the last number, the error -/
def fdec (M : List Int) : Int × Int × Int :=
  let L : Nat → Int := fun i => M.getD i 0
  if M.length < 16 then (0, 0, 14)
  else if ¬ (DOk L ∧ L 4 = 3 ∧ FOk (dV L) (dQ L)) then (0, 0, 8)
  else if csI ((M.take 16).drop 4) ≠ dS L then (0, 0, 15)
  else (dV L, dQ L, 0)
/-- the first 16 bytes, where they are a footer's header -/
theorem ftake {M : List Int} (h : 16 ≤ M.length) (hB : BB M) (hd : DOk (fun i => M.getD i 0)) (h4 : M.getD 4 0 = 3) :
    M.take 16 = hbytes (dS (fun i => M.getD i 0)) 3 0 (dV (fun i => M.getD i 0)) (dQ (fun i => M.getD i 0)) := by
  have h5 : M.getD 5 0 = 0 := by
    have hd' : HOk (M.getD 4 0) (M.getD 5 0) _ _ := hd
    rw [h4] at hd'
    unfold HOk at hd'
    omega
  rw [take16 h hB, h4, h5]
theorem fdrop {M : List Int} (h : 16 ≤ M.length) (hB : BB M) (hd : DOk (fun i => M.getD i 0)) (h4 : M.getD 4 0 = 3) :
    (M.take 16).drop 4 = hrest 3 0 (dV (fun i => M.getD i 0)) (dQ (fun i => M.getD i 0)) := by
  rw [ftake h hB hd h4, hbytes_split]
  exact List.drop_left' rfl
theorem fdec_short {M : List Int} (h : M.length < 16) : fdec M = (0, 0, 14) := by unfold fdec; simp only []; rw [if_pos h]
theorem fdec_err (M : List Int) : (fdec M).2.2 = 0 ∨ fdec M = (0, 0, 14) ∨ fdec M = (0, 0, 8) ∨ fdec M = (0, 0, 15) := by
  unfold fdec
  simp only []
  split
  · exact .inr (.inl rfl)
  · split
    · exact .inr (.inr (.inl rfl))
    · split
      · exact .inr (.inr (.inr rfl))
      · exact .inl rfl
theorem fdec_torn (M : List Int) : (fdec M).2.2 = 14 ↔ M.length < 16 := by
  constructor
  · intro h
    rcases Nat.lt_or_ge M.length 16 with hl | hl
    · exact hl
    · unfold fdec at h
      simp only [] at h
      rw [if_neg (by omega)] at h
      split at h
      · cases h
      · split at h
        · cases h
        · cases h
  · intro h
    rw [fdec_short h]
theorem fdec_ok {M : List Int} (hB : BB M) {c l : Int} (h : fdec M = (c, l, 0)) : FOk c l ∧ 16 ≤ M.length ∧ M.take 16 = fenc c l := by
  unfold fdec at h
  simp only [] at h
  split at h
  · cases h
  · rename_i hl
    split at h
    · cases h
    · rename_i hd
      split at h
      · cases h
      · rename_i hs
        injection h with h1 h2
        injection h2 with h2 _
        have hd' := Decidable.not_not.1 hd
        have hs' := Decidable.not_not.1 hs
        rw [fdrop (by omega) hB hd'.1 hd'.2.1] at hs'
        refine ⟨by rw [← h1, ← h2]; exact hd'.2.2, by omega, ?_⟩
        rw [ftake (by omega) hB hd'.1 hd'.2.1, ← hs', h1, h2]
        rfl
theorem fbegins {M : List Int} {c l : Int} (h : FOk c l) (hL : ∀ i, i < 16 → M.getD i 0 = (fenc c l).getD i 0) :
    DOk (fun i => M.getD i 0) ∧ M.getD 4 0 = 3 ∧ dV (fun i => M.getD i 0) = c ∧ dQ (fun i => M.getD i 0) = l ∧ dS (fun i => M.getD i 0) = csI (hrest 3 0 c l) := by
  have hS := csI_bd (hrest_bb 3 0 c l)
  have hk := hok_bounds h.hok
  have hL' : ∀ i, i < 16 → (fun i => M.getD i 0) i = (hbytes (csI (hrest 3 0 c l)) 3 0 c l).getD i 0 := hL
  have e4 := hb_4 (L := fun i => M.getD i 0) (by omega) (by omega) hL'
  have e5 := hb_5 (L := fun i => M.getD i 0) (by omega) (by omega) hL'
  have eV := hb_V (L := fun i => M.getD i 0) (by omega) (by omega) hL'
  have eQ := hb_Q (L := fun i => M.getD i 0) (by omega) (by omega) hL'
  have eS := hb_S (L := fun i => M.getD i 0) hS.1 hS.2 hL'
  refine ⟨?_, e4, eV, eQ, eS⟩
  show HOk (M.getD 4 0) (M.getD 5 0) (dV fun i => M.getD i 0) (dQ fun i => M.getD i 0)
  rw [e4, e5, eV, eQ]
  exact h.hok
theorem fdec_enc {c l : Int} (h : FOk c l) (more : List Int) : fdec (fenc c l ++ more) = (c, l, 0) := by
  obtain ⟨hd, h4, hV, hQ, hS⟩ := fbegins (M := fenc c l ++ more) h (fun i hi => getD_app_l (by rw [fenc_length]; omega))
  have ht : (fenc c l ++ more).take 16 = fenc c l := List.take_left' (fenc_length c l)
  have h4' : (fenc c l).drop 4 = hrest 3 0 c l := List.drop_left' rfl
  unfold fdec
  simp only []
  rw [if_neg (by rw [List.length_append, fenc_length]; omega), if_neg (by rw [hV, hQ]; exact not_not_intro ⟨hd, h4, h⟩), ht, h4', hS, if_neg (by simp), hV, hQ]
theorem fenc_inj {c l c' l' : Int} (h : FOk c l) (h' : FOk c' l') (e : fenc c l = fenc c' l') : c = c' ∧ l = l' := by
  have h1 := fdec_enc h []
  have h2 := fdec_enc h' []
  rw [e, h2] at h1
  injection h1 with h3 h4
  injection h4 with h4 _
  exact ⟨h3.symm, h4.symm⟩
end Go.Proofs.Ytiobnhdcapfhgaa
