/-
  A round and its reference, beside an older pair: what each call leaves.
-/
import Derived.Test.YtaidekdmhmoaeaaDoorWks
namespace Go.Proofs.YtaidekdmhmoaeaaDoor.Pr
open Go.RowKit Bt
open Rd (ints inn Tab)
set_option linter.unusedVariables false
set_option linter.unusedSimpArgs false
abbrev St := Option (Nat × Nat × Int)
def cnt : St → Int
  | none => 0
  | some (_, _, N) => N
/-- only blocks of S, and what is new, have changed -/
structure OnlyS (S : Nat → Prop) (w w' : World) : Prop where
  os : w'.os = w.os
  tape : w'.tape = w.tape
  output : w'.output = w.output
  size : w.heap.size ≤ w'.heap.size
  block : ∀ k, k < w.heap.size → ¬ S k → w'.heap[k]? = w.heap[k]?
theorem OnlyS.of {S : Nat → Prop} {b : Nat} {r : Option Nat} {w w' : World} (h : Only b r w w') (hb : S b) (hr : ∀ k, r = some k → S k) : OnlyS S w w' :=
  ⟨h.os, h.tape, h.output, h.size, fun k hk hS => h.block k hk (by rintro rfl; exact hS hb) (fun e => hS (hr k e.symm))⟩
theorem OnlyS.of_below {S : Nat → Prop} {w w' : World} (h : Below w.heap.size w w') : OnlyS S w w' := ⟨h.os, h.tape, h.output, h.size, fun k hk _ => h.block k hk⟩
theorem OnlyS.below {S : Nat → Prop} {a w w' : World} (h : OnlyS S w w') (ha : Below a.heap.size a w) (hS : ∀ k, S k → a.heap.size ≤ k) : Below a.heap.size a w' :=
  ⟨h.os.trans ha.os, h.tape.trans ha.tape, h.output.trans ha.output, Nat.le_trans ha.size h.size, fun k hk => (h.block k (Nat.lt_of_lt_of_le hk ha.size) (fun hs => by have := hS k hs; omega)).trans (ha.block k hk)⟩
def LO (W : World) (w : World) (p : Option Addr) (st : St) (S : Nat → Prop) : Prop :=
  (st = none ∧ p = none ∧ S = fun _ => False) ∨ ∃ b s M N, st = some (s, M, N) ∧ p = some ⟨b, 0, none⟩ ∧ Rd.Is w b s M N ∧ 0 ≤ N ∧ W.heap.size ≤ b ∧ S = fun k => k = b
def RO (W : World) (w : World) (p : Option Addr) (st : St) (S : Nat → Prop) : Prop :=
  (st = none ∧ p = none ∧ S = fun _ => False) ∨ ∃ b g s cap M N, st = some (s, M, N) ∧ p = some ⟨b, 0, none⟩ ∧ Rr.Is w b g s cap M N ∧ 0 ≤ N ∧ W.heap.size ≤ b ∧ W.heap.size ≤ g ∧ S = fun k => k = b ∨ k = g
section
variable {W w w' : World} {p : Option Addr} {st : St} {S T : Nat → Prop}
theorem LO.in_ (h : LO W w p st S) : ∀ k, S k → W.heap.size ≤ k ∧ k < w.heap.size := by
  rcases h with ⟨_, _, rfl⟩ | ⟨b, s, M, N, _, _, hI, _, hb, rfl⟩
  · exact fun k hk => hk.elim
  · rintro k rfl
    exact ⟨hb, hI.lt⟩
theorem LO.other (h : LO W w p st S) (k : OnlyS T w w') (hd : ∀ j, S j → ¬ T j) : LO W w' p st S := by
  rcases h with ⟨h1, h2, h3⟩ | ⟨b, s, M, N, h1, h2, hI, h3, hb, rfl⟩
  · exact .inl ⟨h1, h2, h3⟩
  · exact .inr ⟨b, s, M, N, h1, h2, ⟨(k.block b hI.lt (hd b rfl)).trans hI.blk, hI.s1, hI.s2, hI.ml⟩, h3, hb, rfl⟩
theorem LO.later (h : LO W w p st S) (hb : Below w.heap.size w w') : LO W w' p st S := h.other (T := fun _ => False) (OnlyS.of_below hb) (fun _ _ h => h)
theorem RO.in_ (h : RO W w p st S) : ∀ k, S k → W.heap.size ≤ k ∧ k < w.heap.size := by
  rcases h with ⟨_, _, rfl⟩ | ⟨b, g, s, cap, M, N, _, _, hI, _, hb, hg, rfl⟩
  · exact fun k hk => hk.elim
  · rintro k (rfl | rfl)
    · exact ⟨hb, hI.lt⟩
    · exact ⟨hg, hI.row.lt⟩
theorem RO.other (h : RO W w p st S) (k : OnlyS T w w') (hd : ∀ j, S j → ¬ T j) : RO W w' p st S := by
  rcases h with ⟨h1, h2, h3⟩ | ⟨b, g, s, cap, M, N, h1, h2, hI, h3, hb, hg, rfl⟩
  · exact .inl ⟨h1, h2, h3⟩
  · exact .inr ⟨b, g, s, cap, M, N, h1, h2, ⟨(k.block b hI.lt (hd b (.inl rfl))).trans hI.blk, hI.row.kept (k.block g hI.row.lt (hd g (.inr rfl))), hI.far, hI.cap1, hI.cap2, hI.s1, hI.s2, hI.ml⟩, h3, hb, hg, rfl⟩
theorem RO.later (h : RO W w p st S) (hb : Below w.heap.size w w') : RO W w' p st S := h.other (T := fun _ => False) (OnlyS.of_below hb) (fun _ _ h => h)
end
/-- the two pairs, and the step's own block -/
structure KP (W : World) (bx : Nat) (cs : Array Value) (p q po qo : Option Addr) (sl sr so : St) (SL SR SO TO : Nat → Prop) (w : World) : Prop where
  l : LO W w p sl SL
  r : RO W w q sr SR
  lo : LO W w po so SO
  ro : RO W w qo so TO
  d1 : ∀ k, SL k → ¬ SR k
  d2 : ∀ k, SL k ∨ SR k → ¬ SO k ∧ ¬ TO k
  x : Blk w bx 42 cs
  dx : ∀ k, SL k ∨ SR k → k ≠ bx
  b : Below W.heap.size W w
section
variable {W w w' : World} {bx : Nat} {cs : Array Value} {p q po qo : Option Addr} {sl sr so sl' sr' : St} {SL SR SO TO SL' SR' : Nat → Prop}
theorem KP.later (h : KP W bx cs p q po qo sl sr so SL SR SO TO w) (hb : Below w.heap.size w w') : KP W bx cs p q po qo sl sr so SL SR SO TO w' :=
  ⟨h.l.later hb, h.r.later hb, h.lo.later hb, h.ro.later hb, h.d1, h.d2, h.x.below hb h.x.lt, h.dx, b_then h.b hb⟩
theorem KP.stepL (h : KP W bx cs p q po qo sl sr so SL SR SO TO w) (hO : OnlyS SL w w') (hL : LO W w' p sl' SL') (hG : ∀ k, SL' k → SL k ∨ w.heap.size ≤ k) : KP W bx cs p q po qo sl' sr so SL' SR SO TO w' := by
  refine ⟨hL, h.r.other hO fun j hr hl => h.d1 j hl hr, h.lo.other hO fun j ho hl => (h.d2 j (.inl hl)).1 ho, h.ro.other hO fun j ho hl => (h.d2 j (.inl hl)).2 ho, fun k hk hr => ?_, fun k hk => ?_, (hO.block bx h.x.lt fun hl => h.dx bx (.inl hl) rfl).trans h.x, fun k hk => ?_, hO.below h.b fun k hk => (h.l.in_ k hk).1⟩
  · rcases hG k hk with h1 | h1
    · exact h.d1 k h1 hr
    · have := (h.r.in_ k hr).2; omega
  · rcases hk with hk | hk
    · rcases hG k hk with h1 | h1
      · exact h.d2 k (.inl h1)
      · exact ⟨fun ho => by have := (h.lo.in_ k ho).2; omega, fun ho => by have := (h.ro.in_ k ho).2; omega⟩
    · exact h.d2 k (.inr hk)
  · rcases hk with hk | hk
    · rcases hG k hk with h1 | h1
      · exact h.dx k (.inl h1)
      · have := h.x.lt; omega
    · exact h.dx k (.inr hk)
theorem KP.stepR (h : KP W bx cs p q po qo sl sr so SL SR SO TO w) (hO : OnlyS SR w w') (hR : RO W w' q sr' SR') (hG : ∀ k, SR' k → SR k ∨ w.heap.size ≤ k) : KP W bx cs p q po qo sl sr' so SL SR' SO TO w' := by
  refine ⟨h.l.other hO fun j hl hr => h.d1 j hl hr, hR, h.lo.other hO fun j ho hl => (h.d2 j (.inr hl)).1 ho, h.ro.other hO fun j ho hl => (h.d2 j (.inr hl)).2 ho, fun k hl hk => ?_, fun k hk => ?_, (hO.block bx h.x.lt fun hl => h.dx bx (.inr hl) rfl).trans h.x, fun k hk => ?_, hO.below h.b fun k hk => (h.r.in_ k hk).1⟩
  · rcases hG k hk with h1 | h1
    · exact h.d1 k hl h1
    · have := (h.l.in_ k hl).2; omega
  · rcases hk with hk | hk
    · exact h.d2 k (.inl hk)
    · rcases hG k hk with h1 | h1
      · exact h.d2 k (.inr h1)
      · exact ⟨fun ho => by have := (h.lo.in_ k ho).2; omega, fun ho => by have := (h.ro.in_ k ho).2; omega⟩
  · rcases hk with hk | hk
    · exact h.dx k (.inl hk)
    · rcases hG k hk with h1 | h1
      · exact h.dx k (.inr h1)
      · have := h.x.lt; omega
theorem shows_any {x : Int} {SL SR : Nat → Prop} (hl : LO W w p sl SL) (hr : RO W w q sl SR) (hT : Tab w) : Calls Tryd.prog 11 #[.pointer p, .pointer q, .int .i64 x] w fun e w' => e = .returned (.bool true) ∧ Below w.heap.size w w' := by
  rcases hl with ⟨rfl, rfl, _⟩ | ⟨b, s, M, N, rfl, rfl, hI, _, _, _⟩
  · rcases hr with ⟨_, rfl, _⟩ | ⟨b', g', s', cap', M', N', h1, _⟩
    · exact Rr.shows_no none x w (.inl rfl) hT
    · cases h1
  · rcases hr with ⟨h1, _⟩ | ⟨b', g', s', cap', M', N', h1, rfl, gI, _⟩
    · cases h1
    · injection h1 with h1
      injection h1 with h1 h2
      injection h2 with h2 h3
      subst h1 h2 h3
      exact Rr.shows_yes b s M N b' g' cap' x w hI gI hT
end
end Go.Proofs.YtaidekdmhmoaeaaDoor.Pr
