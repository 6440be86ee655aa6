/-
  What Done, Begin and Copy leave of a round and its reference.
-/
import Derived.Test.YtaidekdmhmoaeaaDoorPr
namespace Go.Proofs.YtaidekdmhmoaeaaDoor.Pr
open Go.RowKit Bt
open Rd (ints inn Tab of_in)
open Rr (nats nats_ints)
set_option linter.unusedVariables false
set_option linter.unusedSimpArgs false
def doneC (x : Int) : St → Int
  | none => 1
  | some (s, M, _) => if (inn s x && M.testBit x.toNat) = true then 0 else 5
def doneT (x : Int) : St → St
  | none => none
  | some (s, M, N) => if (inn s x && M.testBit x.toNat) = true then some (s, M &&& (4294967295 - 2 ^ x.toNat), N) else some (s, M, N)
def begC (xs : List Int) : St → Int
  | none => 1
  | some (s, M, _) => if M ≠ 0 then 7 else if xs.all (inn s) = false then 3 else if dup 0 (nats xs) = true then 6 else 0
def begT (xs : List Int) : St → St
  | none => none
  | some (s, M, N) => if M ≠ 0 then some (s, M, N) else if xs.all (inn s) = false then some (s, M, N) else if dup 0 (nats xs) = true then some (s, M, N) else some (s, orAll 0 (nats xs), N + 1)
theorem cnt_done (x : Int) (st : St) : cnt (doneT x st) = cnt st := by
  rcases st with _ | ⟨s, M, N⟩
  · rfl
  · simp only [doneT]
    by_cases h : (inn s x && M.testBit x.toNat) = true
    · rw [if_pos h]; rfl
    · rw [if_neg h]
theorem cnt_beg (xs : List Int) (st : St) : cnt (begT xs st) ≤ cnt st + 1 := by
  rcases st with _ | ⟨s, M, N⟩
  · show (0 : Int) ≤ 0 + 1
    decide
  · simp only [begT]
    have h0 : cnt (some (s, M, N)) ≤ cnt (some (s, M, N)) + 1 := by omega
    by_cases h1 : M ≠ 0
    · rw [if_pos h1]; exact h0
    · rw [if_neg h1]
      by_cases h2 : xs.all (inn s) = false
      · rw [if_pos h2]; exact h0
      · rw [if_neg h2]
        by_cases h3 : dup 0 (nats xs) = true
        · rw [if_pos h3]; exact h0
        · rw [if_neg h3]; exact Int.le_refl _
section
variable {W w : World} {bx : Nat} {cs : Array Value} {p q po qo : Option Addr} {sl sr so : St} {SL SR SO TO : Nat → Prop}
theorem doneL (x : Int) (h : KP W bx cs p q po qo sl sr so SL SR SO TO w) : Calls Tryd.prog 10 #[.pointer p, .int .i64 x] w fun e w' => e = .returned (.int .i64 (doneC x sl)) ∧ ∃ S', KP W bx cs p q po qo (doneT x sl) sr so S' SR SO TO w' := by
  rcases h.l with ⟨rfl, rfl, rfl⟩ | ⟨b, s, M, N, rfl, rfl, hI, hN, hWb, rfl⟩
  · refine (Rd.Done_no none w (.inl rfl) x).mono ?_
    rintro e w' ⟨rfl, rfl⟩
    exact ⟨rfl, _, h⟩
  · by_cases hv : (inn s x && M.testBit x.toNat) = true
    · have e1 : doneC x (some (s, M, N)) = 0 := if_pos hv
      have e2 : doneT x (some (s, M, N)) = some (s, M &&& (4294967295 - 2 ^ x.toNat), N) := if_pos hv
      rw [Bool.and_eq_true] at hv
      have hin := of_decide_eq_true hv.1
      have hxe : ((x.toNat : Nat) : Int) = x := by omega
      have hD := Rd.Done_ok b s M N x.toNat w hI (by omega) hv.2
      rw [hxe] at hD
      refine hD.mono ?_
      rintro e w' ⟨rfl, hI', hO⟩
      rw [e1, e2]
      exact ⟨rfl, _, h.stepL (OnlyS.of hO rfl (fun k hk => by cases hk)) (.inr ⟨b, s, _, N, rfl, rfl, hI', hN, hWb, rfl⟩) (fun k hk => .inl hk)⟩
    · have e1 : doneC x (some (s, M, N)) = 5 := if_neg hv
      have e2 : doneT x (some (s, M, N)) = some (s, M, N) := if_neg hv
      refine (Rd.Done_err b s M N x w hI (by simpa [inn] using hv)).mono ?_
      rintro e w' ⟨rfl, rfl⟩
      rw [e1, e2]
      exact ⟨rfl, _, h⟩
theorem doneR (x : Int) (h : KP W bx cs p q po qo sl sr so SL SR SO TO w) : Calls Tryd.prog 18 #[.pointer q, .int .i64 x] w fun e w' => e = .returned (.int .i64 (doneC x sr)) ∧ ∃ S', KP W bx cs p q po qo sl (doneT x sr) so SL S' SO TO w' := by
  rcases h.r with ⟨rfl, rfl, rfl⟩ | ⟨b, g, s, cap, M, N, rfl, rfl, hI, hN, hWb, hWg, rfl⟩
  · refine (Rr.Done_no w x).mono ?_
    rintro e w' ⟨rfl, rfl⟩
    exact ⟨rfl, _, h⟩
  · by_cases hv : (inn s x && M.testBit x.toNat) = true
    · have e1 : doneC x (some (s, M, N)) = 0 := if_pos hv
      have e2 : doneT x (some (s, M, N)) = some (s, M &&& (4294967295 - 2 ^ x.toNat), N) := if_pos hv
      rw [Bool.and_eq_true] at hv
      have hin := of_decide_eq_true hv.1
      have hxe : ((x.toNat : Nat) : Int) = x := by omega
      have hD := Rr.Done_ok b g s cap M N x.toNat w hI (by omega) hv.2
      rw [hxe] at hD
      refine hD.mono ?_
      rintro e w' ⟨rfl, hI', hO⟩
      rw [e1, e2]
      exact ⟨rfl, _, h.stepR (OnlyS.of hO (.inr rfl) (fun k hk => by cases hk)) (.inr ⟨b, g, s, cap, _, N, rfl, rfl, hI', hN, hWb, hWg, rfl⟩) (fun k hk => .inl hk)⟩
    · have e1 : doneC x (some (s, M, N)) = 5 := if_neg hv
      have e2 : doneT x (some (s, M, N)) = some (s, M, N) := if_neg hv
      refine (Rr.Done_err b g s cap M N x w hI (by simpa using hv)).mono ?_
      rintro e w' ⟨rfl, rfl⟩
      rw [e1, e2]
      exact ⟨rfl, _, h⟩
theorem begL (A : Option Addr) (n c : Nat) (xs : List Int) (h : KP W bx cs p q po qo sl sr so SL SR SO TO w) (hx : RI w A (xs.map (Value.int .i64))) (hl : xs.length = n) (hn : n ≤ 50) (hc : cnt sl ≤ 100000) : Calls Tryd.prog 9 #[.pointer p, .slice A n c] w fun e w' => e = .returned (.int .i64 (begC xs sl)) ∧ (∃ S', (∀ k, S' k → SL k ∨ w.heap.size ≤ k) ∧ KP W bx cs p q po qo (begT xs sl) sr so S' SR SO TO w') ∧ OnlyS SL w w' := by
  have hn' : n ≤ maxLen := by unfold maxLen; omega
  rcases h.l with ⟨rfl, rfl, rfl⟩ | ⟨b, s, M, N, rfl, rfl, hI, hN, hWb, rfl⟩
  · refine (Rd.beg_no none w (.inl rfl) A n c).mono ?_
    rintro e w' ⟨rfl, hb⟩
    exact ⟨rfl, ⟨_, fun k hk => .inl hk, h.later hb⟩, OnlyS.of_below hb⟩
  · by_cases h0 : M ≠ 0
    · have e1 : begC xs (some (s, M, N)) = 7 := if_pos h0
      have e2 : begT xs (some (s, M, N)) = some (s, M, N) := if_pos h0
      refine (Rd.beg_state b s M N w hI h0 A n c).mono ?_
      rintro e w' ⟨rfl, hb⟩
      rw [e1, e2]
      exact ⟨rfl, ⟨_, fun k hk => .inl hk, h.later hb⟩, OnlyS.of_below hb⟩
    · obtain rfl : M = 0 := by omega
      by_cases ha : xs.all (inn s) = false
      · have e1 : begC xs (some (s, 0, N)) = 3 := by simp [begC, ha]
        have e2 : begT xs (some (s, 0, N)) = some (s, 0, N) := by simp [begT, ha]
        refine (Rd.beg_range b s N w hI A n c xs hx hl hn' ha).mono ?_
        rintro e w' ⟨rfl, hb⟩
        rw [e1, e2]
        exact ⟨rfl, ⟨_, fun k hk => .inl hk, h.later hb⟩, OnlyS.of_below hb⟩
      · have ha' : xs.all (inn s) = true := by simpa using ha
        obtain ⟨ks, rfl, hk⟩ := of_in ha'
        have hns := nats_ints ks
        refine (Rd.beg_any b s N w hI ⟨hN, hc⟩ A n c ks hx (by rw [← hl]; simp [ints]) hn' hk).mono ?_
        rintro e w' (⟨hd, rfl, hb⟩ | ⟨hd, rfl, hI', hO⟩)
        · have e1 : begC (ints ks) (some (s, 0, N)) = 6 := by simp only [begC, ha', hns, hd]; simp
          have e2 : begT (ints ks) (some (s, 0, N)) = some (s, 0, N) := by simp only [begT, ha', hns, hd]; simp
          rw [e1, e2]
          exact ⟨rfl, ⟨_, fun k hk => .inl hk, h.later hb⟩, OnlyS.of_below hb⟩
        · have e1 : begC (ints ks) (some (s, 0, N)) = 0 := by simp only [begC, ha', hns, hd]; simp
          have e2 : begT (ints ks) (some (s, 0, N)) = some (s, orAll 0 ks, N + 1) := by simp only [begT, ha', hns, hd]; simp
          rw [e1, e2]
          have hOS := OnlyS.of (S := fun k => k = b) hO rfl (fun k hk => by cases hk)
          exact ⟨rfl, ⟨_, fun k hk => .inl hk, h.stepL hOS (.inr ⟨b, s, _, N + 1, rfl, rfl, hI', by omega, hWb, rfl⟩) (fun k hk => .inl hk)⟩, hOS⟩
theorem begR (A : Option Addr) (n c : Nat) (xs : List Int) (h : KP W bx cs p q po qo sl sr so SL SR SO TO w) (hx : RI w A (xs.map (Value.int .i64))) (hl : xs.length = n) (hn : n ≤ 50) (hc : cnt sr ≤ 100000) : Calls Tryd.prog 16 #[.pointer q, .slice A n c] w fun e w' => e = .returned (.int .i64 (begC xs sr)) ∧ (∃ S', (∀ k, S' k → SR k ∨ w.heap.size ≤ k) ∧ KP W bx cs p q po qo sl (begT xs sr) so SL S' SO TO w') ∧ OnlyS SR w w' := by
  have hn' : n ≤ maxLen := by unfold maxLen; omega
  rcases h.r with ⟨rfl, rfl, rfl⟩ | ⟨b, g, s, cap, M, N, rfl, rfl, hI, hN, hWb, hWg, rfl⟩
  · refine (Rr.Begin_no w A n c).mono ?_
    rintro e w' ⟨rfl, rfl⟩
    exact ⟨rfl, ⟨_, fun k hk => .inl hk, h⟩, OnlyS.of_below (Below.refl _ _)⟩
  · by_cases h0 : M ≠ 0
    · have e1 : begC xs (some (s, M, N)) = 7 := if_pos h0
      have e2 : begT xs (some (s, M, N)) = some (s, M, N) := if_pos h0
      refine (Rr.beg_state b g s cap M N w hI h0 A n c).mono ?_
      rintro e w' ⟨rfl, hb⟩
      rw [e1, e2]
      exact ⟨rfl, ⟨_, fun k hk => .inl hk, h.later hb⟩, OnlyS.of_below hb⟩
    · obtain rfl : M = 0 := by omega
      refine (Rr.beg_any b g s cap N w hI ⟨hN, hc⟩ A n c xs hx hl hn').mono ?_
      rintro e w' (⟨ha, rfl, hb⟩ | ⟨ha, hd, rfl, hb⟩ | ⟨ha, hd, rfl, g', hI', hg', hO⟩)
      · have e1 : begC xs (some (s, 0, N)) = 3 := by simp [begC, ha]
        have e2 : begT xs (some (s, 0, N)) = some (s, 0, N) := by simp [begT, ha]
        rw [e1, e2]
        exact ⟨rfl, ⟨_, fun k hk => .inl hk, h.later hb⟩, OnlyS.of_below hb⟩
      · have e1 : begC xs (some (s, 0, N)) = 6 := by simp only [begC, ha, hd]; simp
        have e2 : begT xs (some (s, 0, N)) = some (s, 0, N) := by simp only [begT, ha, hd]; simp
        rw [e1, e2]
        exact ⟨rfl, ⟨_, fun k hk => .inl hk, h.later hb⟩, OnlyS.of_below hb⟩
      · have e1 : begC xs (some (s, 0, N)) = 0 := by simp only [begC, ha, hd]; simp
        have e2 : begT xs (some (s, 0, N)) = some (s, orAll 0 (nats xs), N + 1) := by simp only [begT, ha, hd]; simp
        rw [e1, e2]
        have hOS := OnlyS.of (S := fun k => k = b ∨ k = g) hO (.inl rfl) (fun k hk => by cases hk)
        have hG : ∀ k, (k = b ∨ k = g') → (k = b ∨ k = g) ∨ w.heap.size ≤ k := fun k hk => by
          rcases hk with hk | hk
          · exact .inl (.inl hk)
          · exact .inr (by rw [hk]; exact hg')
        exact ⟨rfl, ⟨_, hG, h.stepR hOS (.inr ⟨b, g', s, s, _, N + 1, rfl, rfl, hI', by omega, hWb, Nat.le_trans h.b.size hg', rfl⟩) hG⟩, hOS⟩
theorem copyL (h : LO W w p sl SL) (hW : W.heap.size ≤ w.heap.size) : Calls Tryd.prog 12 #[.pointer p] w fun e w' => ∃ p' S', e = .returned (.pointer p') ∧ LO W w' p' sl S' ∧ (∀ k, S' k → w.heap.size ≤ k) ∧ Below w.heap.size w w' := by
  rcases h with ⟨rfl, rfl, rfl⟩ | ⟨b, s, M, N, rfl, rfl, hI, hN, hWb, rfl⟩
  · refine (Rd.Copy_no none w (.inl rfl)).mono ?_
    rintro e w' ⟨rfl, rfl⟩
    exact ⟨none, _, rfl, .inl ⟨rfl, rfl, rfl⟩, fun k hk => hk.elim, Below.refl _ _⟩
  · refine (Rd.Copy_any b s M N w hI).mono ?_
    rintro e w' ⟨b', rfl, hI', hb', hb⟩
    exact ⟨_, _, rfl, .inr ⟨b', s, M, N, rfl, rfl, hI', hN, by omega, rfl⟩, fun k hk => by rw [hk]; exact hb', hb⟩
theorem copyR (h : RO W w q sr SR) (hW : W.heap.size ≤ w.heap.size) : Calls Tryd.prog 19 #[.pointer q] w fun e w' => ∃ p' S', e = .returned (.pointer p') ∧ RO W w' p' sr S' ∧ (∀ k, S' k → w.heap.size ≤ k) ∧ Below w.heap.size w w' := by
  rcases h with ⟨rfl, rfl, rfl⟩ | ⟨b, g, s, cap, M, N, rfl, rfl, hI, hN, hWb, hWg, rfl⟩
  · refine (Rr.Copy_no w).mono ?_
    rintro e w' ⟨rfl, rfl⟩
    exact ⟨none, _, rfl, .inl ⟨rfl, rfl, rfl⟩, fun k hk => hk.elim, Below.refl _ _⟩
  · refine (Rr.Copy_any b g s cap M N w hI).mono ?_
    rintro e w' ⟨b', g', cap', rfl, hI', hb', hg', hb⟩
    exact ⟨_, _, rfl, .inr ⟨b', g', s, cap', M, N, rfl, rfl, hI', hN, by omega, by omega, rfl⟩, fun k hk => by rcases hk with hk | hk <;> omega, hb⟩
end
end Go.Proofs.YtaidekdmhmoaeaaDoor.Pr
