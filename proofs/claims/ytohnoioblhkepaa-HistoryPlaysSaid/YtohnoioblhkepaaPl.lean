/-
  A list of strings and its reference, beside an older pair: what each call leaves.
-/
import Derived.Test.YtohnoioblhkepaaRf
import Derived.Test.YtohnoioblhkepaaNo
namespace Go.Proofs.Ytohnoioblhkepaa.Pl
open Go.RowKit
set_option linter.unusedVariables false
set_option linter.unusedSimpArgs false
abbrev St := Option (Nat × List ByteArray)
def addC (most : Nat) : St → Int
  | none => 1
  | some (_, xs) => if xs.length < most then 0 else 4
def addT (most : Nat) (x : ByteArray) : St → St
  | none => none
  | some (m, xs) => if xs.length < most then some (m, xs ++ [x]) else some (m, xs)
def cutC (i : Int) : St → Int
  | none => 1
  | some (m, xs) => if i < (m : Int) ∨ (xs.length : Int) < i then 3 else 0
def cutT (i : Int) : St → St
  | none => none
  | some (m, xs) => if i < (m : Int) ∨ (xs.length : Int) < i then some (m, xs) else some (m, xs.take i.toNat)
def markT : St → St
  | none => none
  | some (_, xs) => some (xs.length, xs)
def clearT : St → St
  | none => none
  | some _ => some (0, [])
def lenT : St → Nat
  | none => 0
  | some (_, xs) => xs.length
theorem len_add (most : Nat) (x : ByteArray) (st : St) : lenT (addT most x st) ≤ lenT st + 1 := by
  rcases st with _ | ⟨m, xs⟩
  · exact Nat.zero_le _
  · simp only [addT]
    by_cases h : xs.length < most
    · rw [if_pos h]; simp [lenT]
    · rw [if_neg h]; simp [lenT]
theorem len_cut (i : Int) (st : St) : lenT (cutT i st) ≤ lenT st := by
  rcases st with _ | ⟨m, xs⟩
  · exact Nat.le_refl _
  · simp only [cutT]
    by_cases h : i < (m : Int) ∨ (xs.length : Int) < i
    · rw [if_pos h]; exact Nat.le_refl _
    · rw [if_neg h]
      show (xs.take i.toNat).length ≤ xs.length
      rw [List.length_take]
      omega
theorem len_mark (st : St) : lenT (markT st) = lenT st := by rcases st with _ | ⟨m, xs⟩ <;> rfl
theorem len_clear (st : St) : lenT (clearT st) = 0 := by rcases st with _ | ⟨m, xs⟩ <;> rfl
/-- only blocks of S, and what is new, have changed -/
structure OnlyS (S : Nat → Prop) (w w' : World) : Prop where
  os : w'.os = w.os
  tape : w'.tape = w.tape
  output : w'.output = w.output
  size : w.heap.size ≤ w'.heap.size
  block : ∀ k, k < w.heap.size → ¬ S k → w'.heap[k]? = w.heap[k]?
theorem OnlyS.of {S : Nat → Prop} {b : Nat} {r : Option Nat} {w w' : World} (h : Only b r w w') (hb : S b) (hr : ∀ k, r = some k → S k) : OnlyS S w w' :=
  ⟨h.os, h.tape, h.output, h.size, fun k hk hS => h.block k hk (by rintro rfl; exact hS hb) (fun e => hS (hr k e.symm))⟩
theorem OnlyS.of_below {S : Nat → Prop} {w w' : World} (h : Below w.heap.size w w') : OnlyS S w w' := ⟨h.os, h.tape, h.output, h.size, fun k hk _ => h.block k hk⟩
theorem OnlyS.below {S : Nat → Prop} {a w w' : World} (h : OnlyS S w w') (ha : Below a.heap.size a w) (hS : ∀ k, S k → a.heap.size ≤ k) : Below a.heap.size a w' :=
  ⟨h.os.trans ha.os, h.tape.trans ha.tape, h.output.trans ha.output, Nat.le_trans ha.size h.size, fun k hk => (h.block k (Nat.lt_of_lt_of_le hk ha.size) (fun hs => by have := hS k hs; omega)).trans (ha.block k hk)⟩
def fp (b : Nat) (A : Option Addr) : Nat → Prop := fun k => k = b ∨ rowOf A = some k
def LO (W : World) (w : World) (most : Nat) (p : Option Addr) (st : St) (S : Nat → Prop) : Prop :=
  (st = none ∧ p = none ∧ S = fun _ => False) ∨ ∃ B b m A n cap xs, st = some (m, xs) ∧ p = some ⟨b, 0, none⟩ ∧ Hs.Is w B b most m A n cap xs ∧ m ≤ n ∧ n ≤ most ∧ most ≤ 100000 ∧ B ≤ w.heap.size ∧ W.heap.size ≤ B ∧ B ≤ b ∧ S = fp b A
def RO (W : World) (w : World) (most : Nat) (p : Option Addr) (st : St) (S : Nat → Prop) : Prop :=
  (st = none ∧ p = none ∧ S = fun _ => False) ∨ ∃ B b m A n cap xs, st = some (m, xs) ∧ p = some ⟨b, 0, none⟩ ∧ Rf.Is w B b most m A n cap xs ∧ m ≤ n ∧ n ≤ most ∧ most ≤ 100000 ∧ B ≤ w.heap.size ∧ W.heap.size ≤ B ∧ W.heap.size ≤ b ∧ S = fp b A
section
variable {W w w' : World} {most : Nat} {p : Option Addr} {st : St} {S T : Nat → Prop}
theorem LO.in_ (h : LO W w most p st S) : ∀ k, S k → W.heap.size ≤ k ∧ k < w.heap.size := by
  rcases h with ⟨_, _, rfl⟩ | ⟨B, b, m, A, n, cap, xs, _, _, hI, _, _, _, hBw, hWB, hBb, rfl⟩
  · exact fun k hk => hk.elim
  · rintro k (rfl | hk)
    · exact ⟨by omega, hI.lt⟩
    · exact ⟨Nat.le_trans hWB (own_row hI.own k hk).1, (own_row hI.own k hk).2⟩
theorem LO.other (h : LO W w most p st S) (k : OnlyS T w w') (hd : ∀ j, S j → ¬ T j) : LO W w' most p st S := by
  rcases h with ⟨h1, h2, h3⟩ | ⟨B, b, m, A, n, cap, xs, h1, h2, hI, h3, h4, h5, hBw, hWB, hBb, rfl⟩
  · exact .inl ⟨h1, h2, h3⟩
  · refine .inr ⟨B, b, m, A, n, cap, xs, h1, h2, ⟨(k.block b hI.lt (hd b (.inl rfl))).trans hI.blk, own_kept hI.own fun g hg => k.block g (own_row hI.own g hg).2 (hd g (.inr hg)), hI.far⟩, h3, h4, h5, Nat.le_trans hBw k.size, hWB, hBb, rfl⟩
theorem LO.later (h : LO W w most p st S) (hb : Below w.heap.size w w') : LO W w' most p st S := h.other (T := fun _ => False) (OnlyS.of_below hb) (fun _ _ h => h)
theorem RO.in_ (h : RO W w most p st S) : ∀ k, S k → W.heap.size ≤ k ∧ k < w.heap.size := by
  rcases h with ⟨_, _, rfl⟩ | ⟨B, b, m, A, n, cap, xs, _, _, hI, _, _, _, hBw, hWB, hBb, rfl⟩
  · exact fun k hk => hk.elim
  · rintro k (rfl | hk)
    · exact ⟨by omega, hI.lt⟩
    · exact ⟨Nat.le_trans hWB (own_row hI.own k hk).1, (own_row hI.own k hk).2⟩
theorem RO.other (h : RO W w most p st S) (k : OnlyS T w w') (hd : ∀ j, S j → ¬ T j) : RO W w' most p st S := by
  rcases h with ⟨h1, h2, h3⟩ | ⟨B, b, m, A, n, cap, xs, h1, h2, hI, h3, h4, h5, hBw, hWB, hBb, rfl⟩
  · exact .inl ⟨h1, h2, h3⟩
  · refine .inr ⟨B, b, m, A, n, cap, xs, h1, h2, ⟨(k.block b hI.lt (hd b (.inl rfl))).trans hI.blk, own_kept hI.own fun g hg => k.block g (own_row hI.own g hg).2 (hd g (.inr hg)), hI.far⟩, h3, h4, h5, Nat.le_trans hBw k.size, hWB, hBb, rfl⟩
theorem RO.later (h : RO W w most p st S) (hb : Below w.heap.size w w') : RO W w' most p st S := h.other (T := fun _ => False) (OnlyS.of_below hb) (fun _ _ h => h)
end
/-- the two pairs, and the step's own block -/
structure KP (W : World) (most bx : Nat) (cs : Array Value) (p q po qo : Option Addr) (sl sr so : St) (SL SR SO TO : Nat → Prop) (w : World) : Prop where
  l : LO W w most p sl SL
  r : RO W w most q sr SR
  lo : LO W w most po so SO
  ro : RO W w most qo so TO
  d1 : ∀ k, SL k → ¬ SR k
  d2 : ∀ k, SL k ∨ SR k → ¬ SO k ∧ ¬ TO k
  x : Blk w bx 64 cs
  dx : ∀ k, SL k ∨ SR k → k ≠ bx
  b : Below W.heap.size W w
section
variable {W w w' : World} {most bx : Nat} {cs : Array Value} {p q po qo : Option Addr} {sl sr so sl' sr' : St} {SL SR SO TO SL' SR' : Nat → Prop}
theorem KP.later (h : KP W most bx cs p q po qo sl sr so SL SR SO TO w) (hb : Below w.heap.size w w') : KP W most bx cs p q po qo sl sr so SL SR SO TO w' :=
  ⟨h.l.later hb, h.r.later hb, h.lo.later hb, h.ro.later hb, h.d1, h.d2, h.x.below hb h.x.lt, h.dx, b_then h.b hb⟩
theorem KP.stepL (h : KP W most bx cs p q po qo sl sr so SL SR SO TO w) (hO : OnlyS SL w w') (hL : LO W w' most p sl' SL') (hG : ∀ k, SL' k → SL k ∨ w.heap.size ≤ k) : KP W most bx cs p q po qo sl' sr so SL' SR SO TO w' := by
  refine ⟨hL, h.r.other hO fun j hr hl => h.d1 j hl hr, h.lo.other hO fun j ho hl => (h.d2 j (.inl hl)).1 ho, h.ro.other hO fun j ho hl => (h.d2 j (.inl hl)).2 ho, fun k hk hr => ?_, fun k hk => ?_, (hO.block bx h.x.lt fun hl => h.dx bx (.inl hl) rfl).trans h.x, fun k hk => ?_, hO.below h.b fun k hk => (h.l.in_ k hk).1⟩
  · rcases hG k hk with h1 | h1
    · exact h.d1 k h1 hr
    · have := (h.r.in_ k hr).2; omega
  · rcases hk with hk | hk
    · rcases hG k hk with h1 | h1
      · exact h.d2 k (.inl h1)
      · exact ⟨fun ho => by have := (h.lo.in_ k ho).2; omega, fun ho => by have := (h.ro.in_ k ho).2; omega⟩
    · exact h.d2 k (.inr hk)
  · rcases hk with hk | hk
    · rcases hG k hk with h1 | h1
      · exact h.dx k (.inl h1)
      · have := h.x.lt; omega
    · exact h.dx k (.inr hk)
theorem KP.stepR (h : KP W most bx cs p q po qo sl sr so SL SR SO TO w) (hO : OnlyS SR w w') (hR : RO W w' most q sr' SR') (hG : ∀ k, SR' k → SR k ∨ w.heap.size ≤ k) : KP W most bx cs p q po qo sl sr' so SL SR' SO TO w' := by
  refine ⟨h.l.other hO fun j hl hr => h.d1 j hl hr, hR, h.lo.other hO fun j ho hl => (h.d2 j (.inr hl)).1 ho, h.ro.other hO fun j ho hl => (h.d2 j (.inr hl)).2 ho, fun k hl hk => ?_, fun k hk => ?_, (hO.block bx h.x.lt fun hl => h.dx bx (.inr hl) rfl).trans h.x, fun k hk => ?_, hO.below h.b fun k hk => (h.r.in_ k hk).1⟩
  · rcases hG k hk with h1 | h1
    · exact h.d1 k hl h1
    · have := (h.l.in_ k hl).2; omega
  · rcases hk with hk | hk
    · exact h.d2 k (.inl hk)
    · rcases hG k hk with h1 | h1
      · exact h.d2 k (.inr h1)
      · exact ⟨fun ho => by have := (h.lo.in_ k ho).2; omega, fun ho => by have := (h.ro.in_ k ho).2; omega⟩
  · rcases hk with hk | hk
    · exact h.dx k (.inl hk)
    · rcases hG k hk with h1 | h1
      · exact h.dx k (.inr h1)
      · have := h.x.lt; omega
theorem fp_new {b : Nat} {A A' : Option Addr} {w : World} (h : NewRow w (rowOf A) (rowOf A')) : ∀ k, fp b A' k → fp b A k ∨ w.heap.size ≤ k := by
  rintro k (rfl | hk)
  · exact .inl (.inl rfl)
  · rcases h with h | h
    · exact .inl (.inr (h ▸ hk))
    · exact .inr (h k hk)
theorem markL  (h : KP W most bx cs p q po qo sl sr so SL SR SO TO w) : Calls Try.prog 28 #[.pointer p] w fun e w' => e = .returned (.tuple #[]) ∧ ∃ S', KP W most bx cs p q po qo (markT sl) sr so S' SR SO TO w' := by
  rcases h.l with ⟨rfl, rfl, rfl⟩ | ⟨B, b, m, A, n, cap, xs, rfl, rfl, hI, hmn, hnm, hm5, hBw, hWB, hBb, rfl⟩
  · refine (Hs.Mark_no none w (.inl rfl)).mono ?_
    rintro e w' ⟨rfl, rfl⟩
    exact ⟨rfl, _, h⟩
  · refine (Hs.Mark_any B b most m n cap A xs w hI).mono ?_
    rintro e w' ⟨rfl, hI', hO⟩
    have hO' := OnlyS.of (S := fp b A) hO (.inl rfl) (fun k hk => .inr hk)
    exact ⟨rfl, fp b A, h.stepL hO' (.inr ⟨B, b, n, A, n, cap, xs, by rw [← hI.len]; rfl, rfl, hI', Nat.le_refl _, hnm, hm5, Nat.le_trans hBw hO.size, hWB, hBb, rfl⟩) (fun k hk => .inl hk)⟩
theorem clearL  (h : KP W most bx cs p q po qo sl sr so SL SR SO TO w) : Calls Try.prog 32 #[.pointer p] w fun e w' => e = .returned (.tuple #[]) ∧ ∃ S', KP W most bx cs p q po qo (clearT sl) sr so S' SR SO TO w' := by
  rcases h.l with ⟨rfl, rfl, rfl⟩ | ⟨B, b, m, A, n, cap, xs, rfl, rfl, hI, hmn, hnm, hm5, hBw, hWB, hBb, rfl⟩
  · refine (Hs.Clear_no none w (.inl rfl)).mono ?_
    rintro e w' ⟨rfl, rfl⟩
    exact ⟨rfl, _, h⟩
  · refine (Hs.Clear_any B b most m n cap A xs w hI).mono ?_
    rintro e w' ⟨rfl, hI', hO⟩
    have hO' := OnlyS.of (S := fp b A) hO (.inl rfl) (fun k hk => .inr hk)
    exact ⟨rfl, fp b none, h.stepL hO' (.inr ⟨B, b, 0, none, 0, 0, [], rfl, rfl, hI', Nat.le_refl _, Nat.zero_le _, hm5, Nat.le_trans hBw hO.size, hWB, hBb, rfl⟩) (fp_new NewRow.none)⟩
theorem addL (x : ByteArray) (h : KP W most bx cs p q po qo sl sr so SL SR SO TO w) : Calls Try.prog 26 #[.pointer p, .string x] w fun e w' => e = .returned (.int .i64 (addC most sl)) ∧ ∃ S', KP W most bx cs p q po qo (addT most x sl) sr so S' SR SO TO w' := by
  rcases h.l with ⟨rfl, rfl, rfl⟩ | ⟨B, b, m, A, n, cap, xs, rfl, rfl, hI, hmn, hnm, hm5, hBw, hWB, hBb, rfl⟩
  · refine (Hs.Add_no none w (.inl rfl) x).mono ?_
    rintro e w' ⟨rfl, rfl⟩
    exact ⟨rfl, _, h⟩
  · by_cases hlt : n < most
    · refine (Hs.Add_ok B b most m n cap A xs w hI x hlt hm5 hBw).mono ?_
      rintro e w' ⟨A', cap', rfl, hI', hO, hr⟩
      have hO' := OnlyS.of (S := fp b A) hO (.inl rfl) (fun k hk => .inr hk)
      have e1 : addC most (some (m, xs)) = 0 := by simp [addC, hI.len, hlt]
      have e2 : addT most x (some (m, xs)) = some (m, xs ++ [x]) := by simp [addT, hI.len, hlt]
      rw [e1, e2]
      exact ⟨rfl, fp b A', h.stepL hO' (.inr ⟨B, b, m, A', n + 1, cap', xs ++ [x], rfl, rfl, hI', by omega, by omega, hm5, Nat.le_trans hBw hO.size, hWB, hBb, rfl⟩) (fp_new hr)⟩
    · refine (Hs.Add_full B b most m n cap A xs w hI x (by omega)).mono ?_
      rintro e w' ⟨rfl, hb⟩
      have e1 : addC most (some (m, xs)) = 4 := by simp [addC, hI.len, hlt]
      have e2 : addT most x (some (m, xs)) = some (m, xs) := by simp [addT, hI.len, hlt]
      rw [e1, e2]
      exact ⟨rfl, _, h.later hb⟩
theorem cutL (i : Int) (h : KP W most bx cs p q po qo sl sr so SL SR SO TO w) : Calls Try.prog 30 #[.pointer p, .int .i64 i] w fun e w' => e = .returned (.int .i64 (cutC i sl)) ∧ ∃ S', KP W most bx cs p q po qo (cutT i sl) sr so S' SR SO TO w' := by
  rcases h.l with ⟨rfl, rfl, rfl⟩ | ⟨B, b, m, A, n, cap, xs, rfl, rfl, hI, hmn, hnm, hm5, hBw, hWB, hBb, rfl⟩
  · refine (Hs.Cut_no none w (.inl rfl) i).mono ?_
    rintro e w' ⟨rfl, rfl⟩
    exact ⟨rfl, _, h⟩
  · by_cases hi : i < (m : Int) ∨ (n : Int) < i
    · refine (Hs.Cut_err B b most m n cap A xs w hI i hi).mono ?_
      rintro e w' ⟨rfl, rfl⟩
      have e1 : cutC i (some (m, xs)) = 3 := by simp only [cutC, hI.len]; rw [if_pos hi]
      have e2 : cutT i (some (m, xs)) = some (m, xs) := by simp only [cutT, hI.len]; rw [if_pos hi]
      rw [e1, e2]
      exact ⟨rfl, _, h⟩
    · have e1 : cutC i (some (m, xs)) = 0 := by simp only [cutC, hI.len]; rw [if_neg hi]
      have e2 : cutT i (some (m, xs)) = some (m, xs.take i.toNat) := by simp only [cutT, hI.len]; rw [if_neg hi]
      have hin : ((i.toNat : Nat) : Int) = i := by omega
      have hC := Hs.Cut_ok B b most m n cap A xs w hI i.toNat (by omega) (by omega)
      rw [hin] at hC
      refine hC.mono ?_
      rintro e w' ⟨rfl, hI', hO⟩
      have hO' := OnlyS.of (S := fp b A) hO (.inl rfl) (fun k hk => .inr hk)
      rw [e1, e2]
      exact ⟨rfl, fp b A, h.stepL hO' (.inr ⟨B, b, m, A, i.toNat, cap, xs.take i.toNat, rfl, rfl, hI', by omega, by omega, hm5, Nat.le_trans hBw hO.size, hWB, hBb, rfl⟩) (fun k hk => .inl hk)⟩
theorem markR  (h : KP W most bx cs p q po qo sl sr so SL SR SO TO w) : Calls Try.prog 29 #[.pointer q] w fun e w' => e = .returned (.tuple #[]) ∧ ∃ S', KP W most bx cs p q po qo sl (markT sr) so SL S' SO TO w' := by
  rcases h.r with ⟨rfl, rfl, rfl⟩ | ⟨B, b, m, A, n, cap, xs, rfl, rfl, hI, hmn, hnm, hm5, hBw, hWB, hBb, rfl⟩
  · refine (Hs.rMark_no w).mono ?_
    rintro e w' ⟨rfl, rfl⟩
    exact ⟨rfl, _, h⟩
  · refine (Rf.Mark_any B b most m n cap A xs w hI).mono ?_
    rintro e w' ⟨rfl, hI', hO⟩
    have hO' := OnlyS.of (S := fp b A) hO (.inl rfl) (fun k hk => .inr hk)
    exact ⟨rfl, fp b A, h.stepR hO' (.inr ⟨B, b, n, A, n, cap, xs, by rw [← hI.len]; rfl, rfl, hI', Nat.le_refl _, hnm, hm5, Nat.le_trans hBw hO.size, hWB, hBb, rfl⟩) (fun k hk => .inl hk)⟩
theorem clearR  (h : KP W most bx cs p q po qo sl sr so SL SR SO TO w) : Calls Try.prog 33 #[.pointer q] w fun e w' => e = .returned (.tuple #[]) ∧ ∃ S', KP W most bx cs p q po qo sl (clearT sr) so SL S' SO TO w' := by
  rcases h.r with ⟨rfl, rfl, rfl⟩ | ⟨B, b, m, A, n, cap, xs, rfl, rfl, hI, hmn, hnm, hm5, hBw, hWB, hBb, rfl⟩
  · refine (Hs.rClear_no w).mono ?_
    rintro e w' ⟨rfl, rfl⟩
    exact ⟨rfl, _, h⟩
  · refine (Rf.Clear_any B b most m n cap A xs w hI).mono ?_
    rintro e w' ⟨rfl, hI', hO⟩
    have hO' := OnlyS.of (S := fp b A) hO (.inl rfl) (fun k hk => .inr hk)
    exact ⟨rfl, fp b none, h.stepR hO' (.inr ⟨B, b, 0, none, 0, 0, [], rfl, rfl, hI', Nat.le_refl _, Nat.zero_le _, hm5, Nat.le_trans hBw hO.size, hWB, hBb, rfl⟩) (fp_new NewRow.none)⟩
theorem addR (x : ByteArray) (h : KP W most bx cs p q po qo sl sr so SL SR SO TO w) : Calls Try.prog 27 #[.pointer q, .string x] w fun e w' => e = .returned (.int .i64 (addC most sr)) ∧ ∃ S', KP W most bx cs p q po qo sl (addT most x sr) so SL S' SO TO w' := by
  rcases h.r with ⟨rfl, rfl, rfl⟩ | ⟨B, b, m, A, n, cap, xs, rfl, rfl, hI, hmn, hnm, hm5, hBw, hWB, hBb, rfl⟩
  · refine (Hs.rAdd_no w x).mono ?_
    rintro e w' ⟨rfl, rfl⟩
    exact ⟨rfl, _, h⟩
  · by_cases hlt : n < most
    · refine (Rf.Add_ok B b most m n cap A xs w hI x hlt hm5).mono ?_
      rintro e w' ⟨A', cap', rfl, hI', hO, hr⟩
      have hO' := OnlyS.of (S := fp b A) hO (.inl rfl) (fun k hk => .inr hk)
      have e1 : addC most (some (m, xs)) = 0 := by simp [addC, hI.len, hlt]
      have e2 : addT most x (some (m, xs)) = some (m, xs ++ [x]) := by simp [addT, hI.len, hlt]
      rw [e1, e2]
      exact ⟨rfl, fp b A', h.stepR hO' (.inr ⟨w.heap.size, b, m, A', n + 1, cap', xs ++ [x], rfl, rfl, hI', by omega, by omega, hm5, hO.size, h.b.size, hBb, rfl⟩) (fp_new hr)⟩
    · refine (Rf.Add_full B b most m n cap A xs w hI x (by omega)).mono ?_
      rintro e w' ⟨rfl, hb⟩
      have e1 : addC most (some (m, xs)) = 4 := by simp [addC, hI.len, hlt]
      have e2 : addT most x (some (m, xs)) = some (m, xs) := by simp [addT, hI.len, hlt]
      rw [e1, e2]
      exact ⟨rfl, _, h.later hb⟩
theorem cutR (i : Int) (h : KP W most bx cs p q po qo sl sr so SL SR SO TO w) : Calls Try.prog 31 #[.pointer q, .int .i64 i] w fun e w' => e = .returned (.int .i64 (cutC i sr)) ∧ ∃ S', KP W most bx cs p q po qo sl (cutT i sr) so SL S' SO TO w' := by
  rcases h.r with ⟨rfl, rfl, rfl⟩ | ⟨B, b, m, A, n, cap, xs, rfl, rfl, hI, hmn, hnm, hm5, hBw, hWB, hBb, rfl⟩
  · refine (Hs.rCut_no w i).mono ?_
    rintro e w' ⟨rfl, rfl⟩
    exact ⟨rfl, _, h⟩
  · by_cases hi : i < (m : Int) ∨ (n : Int) < i
    · refine (Rf.Cut_err B b most m n cap A xs w hI i hi).mono ?_
      rintro e w' ⟨rfl, rfl⟩
      have e1 : cutC i (some (m, xs)) = 3 := by simp only [cutC, hI.len]; rw [if_pos hi]
      have e2 : cutT i (some (m, xs)) = some (m, xs) := by simp only [cutT, hI.len]; rw [if_pos hi]
      rw [e1, e2]
      exact ⟨rfl, _, h⟩
    · have e1 : cutC i (some (m, xs)) = 0 := by simp only [cutC, hI.len]; rw [if_neg hi]
      have e2 : cutT i (some (m, xs)) = some (m, xs.take i.toNat) := by simp only [cutT, hI.len]; rw [if_neg hi]
      have hin : ((i.toNat : Nat) : Int) = i := by omega
      have hC := Rf.Cut_ok B b most m n cap A xs w hI i.toNat (by omega) (by omega) (by omega)
      rw [hin] at hC
      refine hC.mono ?_
      rintro e w' ⟨A', cap', rfl, hI', hO, hr⟩
      have hO' := OnlyS.of (S := fp b A) hO (.inl rfl) (fun k hk => .inr hk)
      rw [e1, e2]
      exact ⟨rfl, fp b A', h.stepR hO' (.inr ⟨w.heap.size, b, m, A', i.toNat, cap', xs.take i.toNat, rfl, rfl, hI', by omega, by omega, hm5, hO.size, h.b.size, hBb, rfl⟩) (fp_new hr)⟩
/-- a copy of the list, of the reference: new blocks alone -/
theorem copyL (h : LO W w most p sl SL) : Calls Try.prog 34 #[.pointer p] w fun e w' => ∃ p' S', e = .returned (.pointer p') ∧ LO W w' most p' sl S' ∧ (∀ k, S' k → w.heap.size ≤ k) ∧ Below w.heap.size w w' := by
  have hin := h.in_
  rcases h with ⟨rfl, rfl, rfl⟩ | ⟨B, b, m, A, n, cap, xs, rfl, rfl, hI, hmn, hnm, hm5, hBw, hWB, hBb, rfl⟩
  · refine (Hs.Copy_no none w (.inl rfl)).mono ?_
    rintro e w' ⟨rfl, rfl⟩
    exact ⟨none, _, rfl, .inl ⟨rfl, rfl, rfl⟩, fun k hk => hk.elim, Below.refl _ _⟩
  · refine (Hs.Copy_any B b most m n cap A xs w hI (by omega)).mono ?_
    rintro e w' ⟨b', A', cap', rfl, hI', hb', hb⟩
    exact ⟨_, fp b' A', rfl, .inr ⟨w.heap.size, b', m, A', n, cap', xs, rfl, rfl, hI', hmn, hnm, hm5, hb.size, by omega, hb', rfl⟩, by
      rintro k (rfl | hk)
      · exact hb'
      · exact (own_row hI'.own k hk).1, hb⟩
theorem copyR (h : RO W w most q sr SR) (hW : W.heap.size ≤ w.heap.size) : Calls Try.prog 35 #[.pointer q] w fun e w' => ∃ p' S', e = .returned (.pointer p') ∧ RO W w' most p' sr S' ∧ (∀ k, S' k → w.heap.size ≤ k) ∧ Below w.heap.size w w' := by
  rcases h with ⟨rfl, rfl, rfl⟩ | ⟨B, b, m, A, n, cap, xs, rfl, rfl, hI, hmn, hnm, hm5, hBw, hWB, hBb, rfl⟩
  · refine (Hs.rCopy_no w).mono ?_
    rintro e w' ⟨rfl, rfl⟩
    exact ⟨none, _, rfl, .inl ⟨rfl, rfl, rfl⟩, fun k hk => hk.elim, Below.refl _ _⟩
  · refine (Rf.Copy_any B b most m n cap A xs w hI (by omega)).mono ?_
    rintro e w' ⟨b', A', cap', rfl, hI', hb', hb⟩
    exact ⟨_, fp b' A', rfl, .inr ⟨w.heap.size, b', m, A', n, cap', xs, rfl, rfl, hI', hmn, hnm, hm5, hb.size, by omega, by omega, rfl⟩, by
      rintro k (rfl | hk)
      · exact hb'
      · exact (own_row hI'.own k hk).1, hb⟩
set_option maxHeartbeats 3200000 in
set_option maxRecDepth 100000 in
theorem shows_yes (B b m n cap : Nat) (A : Option Addr) (xs : List ByteArray) (B' b' n' cap' : Nat) (A' : Option Addr) (i : Int) (w : World) (h : Hs.Is w B b most m A n cap xs) (g : Rf.Is w B' b' most m A' n' cap' xs) (hm : m ≤ n) (h9 : n ≤ 900) : Calls Try.prog 36 #[.pointer (some ⟨b, 0, none⟩), .pointer (some ⟨b', 0, none⟩), .int .i64 i] w fun e w' => e = .returned (.bool true) ∧ Below w.heap.size w w' := by
  have hnn : n' = n := by rw [← g.len, ← h.len]
  subst hnn
  obtain ⟨X, c, hA, gA⟩ : ∃ (X : ByteArray) (c : Int), (Calls Try.prog 47 #[.pointer (some ⟨b, 0, none⟩), .int .i64 i] w fun e w' => e = .returned (.tuple #[.string X, .int .i64 c]) ∧ w = w') ∧ (Calls Try.prog 55 #[.pointer (some ⟨b', 0, none⟩), .int .i64 i] w fun e w' => e = .returned (.tuple #[.string X, .int .i64 c]) ∧ w = w') := by
    by_cases hi : i < 0 ∨ (n' : Int) ≤ i
    · exact ⟨⟨#[]⟩, 3, Hs.At_err B b most m n' cap A xs w h i hi, Rf.At_err B' b' most m n' cap' A' xs w g i hi⟩
    · have hin : ((i.toNat : Nat) : Int) = i := by omega
      obtain ⟨x, hx⟩ : ∃ x, xs[i.toNat]? = some x := ⟨_, List.getElem?_eq_getElem (by have := h.len; omega)⟩
      have h1 := Hs.At_ok B b most m n' cap A xs w h i.toNat x hx
      have h2 := Rf.At_ok B' b' most m n' cap' A' xs w g i.toNat x hx
      rw [hin] at h1 h2
      exact ⟨x, 0, h1, h2⟩
  go_enter Try.func36, Try.ntmps36
  go_wp2_with fail
  refine hA.mono ?_
  rintro e w' ⟨rfl, rfl⟩
  go_wp2_with fail
  refine gA.mono ?_
  rintro e w' ⟨rfl, rfl⟩
  clear hA gA
  go_wp2_with fail
  refine (Hs.all_any B b most m A n' cap xs w h hm h9).mono ?_
  rintro e w1 ⟨⟨A1, c1, rfl, o1⟩, hb1⟩
  have h1 := h.later hb1
  have g1 := g.later hb1
  clear h g
  go_wp2_with fail
  refine (Rf.All_any B' b' most m n' cap' A' xs w1 g1 (by omega)).mono ?_
  rintro e w2 ⟨⟨A2, c2, rfl, o2⟩, hb2⟩
  have hl := h1.len
  have hq := eqs_any A1 A2 n' c1 c2 xs w2 hl (RI.of_row (own_later o1 hb2)) (RI.of_row o2) (by unfold maxLen; omega)
  clear hl
  go_wp2_with fail
  refine hq.mono ?_
  rintro e w3 ⟨rfl, q3, rfl⟩
  have h3 := (h1.later hb2).later (below_drewN (Below.refl _ _) q3)
  have g3 := (g1.later hb2).later (below_drewN (Below.refl _ _) q3)
  have hb3 := below_drewN (b_then hb1 hb2) q3
  generalize World.drewN w2 q3 = w3 at h3 g3 hb3 ⊢
  clear h1 g1 hb1 hb2 o1 o2 hq
  go_wp2_with fail
  refine (Hs.since_any B b most m A n' cap xs w3 h3 hm h9).mono ?_
  rintro e w4 ⟨⟨A4, c4, rfl, o4⟩, hb4⟩
  have h4 := h3.later hb4
  have g4 := g3.later hb4
  have hb4' := b_then hb3 hb4
  clear h3 g3 hb3 hb4
  go_wp2_with fail
  refine (Rf.Since_any B' b' most m n' cap' A' xs w4 g4 hm (by omega)).mono ?_
  rintro e w5 ⟨⟨A5, c5, rfl, o5⟩, hb5⟩
  have hl : (xs.drop m).length = n' - m := by rw [List.length_drop, h4.len]
  have hq := eqs_any A4 A5 (n' - m) c4 c5 (xs.drop m) w5 hl (RI.of_row (own_later o4 hb5)) (RI.of_row o5) (by unfold maxLen; omega)
  clear hl
  go_wp2_with fail
  refine hq.mono ?_
  rintro e w6 ⟨rfl, q6, rfl⟩
  have h6 := (h4.later hb5).later (below_drewN (Below.refl _ _) q6)
  have g6 := (g4.later hb5).later (below_drewN (Below.refl _ _) q6)
  have hb6 := below_drewN (b_then hb4' hb5) q6
  generalize World.drewN w5 q6 = w6 at h6 g6 hb6 ⊢
  clear h4 g4 hb4' hb5 o4 o5 hq
  go_wp2_with fail
  refine (Hs.Len_any B b most m n' cap A xs w6 h6).mono ?_
  rintro e w' ⟨rfl, rfl⟩
  go_wp2_with fail
  refine (Rf.Len_any B' b' most m n' cap' A' xs w6 g6).mono ?_
  rintro e w' ⟨rfl, rfl⟩
  go_wp2_with fail
  refine (Hs.Marked_any B b most m n' cap A xs w6 h6).mono ?_
  rintro e w' ⟨rfl, rfl⟩
  go_wp2_with fail
  refine (Rf.Marked_any B' b' most m n' cap' A' xs w6 g6).mono ?_
  rintro e w' ⟨rfl, rfl⟩
  go_wp2_with fail
  go_ret
  exact ⟨rfl, hb6⟩
theorem shows_any {S T : Nat → Prop} {st : St} (h : LO W w most p st S) (g : RO W w most q st T) (hn : lenT st ≤ 900) (i : Int) : Calls Try.prog 36 #[.pointer p, .pointer q, .int .i64 i] w fun e w' => e = .returned (.bool true) ∧ Below w.heap.size w w' := by
  rcases h with ⟨rfl, rfl, rfl⟩ | ⟨B, b, m, A, n, cap, xs, rfl, rfl, hI, hmn, hnm, hm5, hBw, hWB, hBb, rfl⟩
  · rcases g with ⟨_, rfl, rfl⟩ | ⟨B', b', m', A', n', cap', xs', h1, _⟩
    · exact Hs.shows_no none w (.inl rfl) i
    · cases h1
  · rcases g with ⟨h1, _⟩ | ⟨B', b', m', A', n', cap', xs', h1, rfl, gI, _⟩
    · cases h1
    · injection h1 with h1
      injection h1 with h1 h2
      subst h1 h2
      exact shows_yes B b m n cap A xs B' b' n' cap' A' i w hI gI hmn (by have := hI.len; have h : xs.length ≤ 900 := hn; omega)
end
end Go.Proofs.Ytohnoioblhkepaa.Pl
