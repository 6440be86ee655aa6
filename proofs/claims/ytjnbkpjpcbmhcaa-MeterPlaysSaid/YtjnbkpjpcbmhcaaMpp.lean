/-
  A meter and its reference, beside an older pair: what each call leaves, what they show.
-/
import Derived.Test.YtjnbkpjpcbmhcaaRfm
namespace Go.Proofs.Ytjnbkpjpcbmhcaa.Mp
open Go.RowKit

set_option linter.unusedVariables false
set_option linter.unusedSimpArgs false
abbrev St := Option (List Int × List Int)
def Inv : St → Prop
  | none => True
  | some (A, G) => A.length = G.length ∧ Rm.Good A ∧ Rm.Good G
def lenS : St → Nat
  | none => 0
  | some (A, _) => A.length
def begT : St → St
  | none => none
  | some (A, G) => some (A ++ [0], G ++ [0])
def code (x : Int) (L : List Int) : Int := if x < 0 then 2 else if L.length = 0 then 7 else if 1099511627776 - sm L < x then 16 else 0
def wroC (x : Int) : St → Int
  | none => 1
  | some (A, _) => code x A
def wroT (x : Int) : St → St
  | none => none
  | some (A, G) => if code x A = 0 then some (addLast A x, G) else some (A, G)
def reaC (x : Int) : St → Int
  | none => 1
  | some (_, G) => code x G
def reaT (x : Int) : St → St
  | none => none
  | some (A, G) => if code x G = 0 then some (A, addLast G x) else some (A, G)
theorem code_ok {x : Int} {L : List Int} (h : code x L = 0) : 0 ≤ x ∧ L.length ≠ 0 ∧ x ≤ 1099511627776 - sm L := by
  unfold code at h
  split at h
  · cases h
  · split at h
    · cases h
    · split at h
      · cases h
      · omega
theorem good_add {x : Int} {L : List Int} (h : code x L = 0) (hg : Rm.Good L) : Rm.Good (addLast L x) ∧ (addLast L x).length = L.length := by
  obtain ⟨h1, h2, h3⟩ := code_ok h
  have hn : L ≠ [] := by rintro rfl; exact h2 rfl
  exact ⟨⟨nonneg_add hn h1 hg.1, by rw [sm_add x hn]; have := hg.2; omega⟩, len_add x hn⟩
theorem good_begin {L : List Int} (hg : Rm.Good L) : Rm.Good (L ++ [0]) := ⟨nonneg_begin hg.1, by rw [sm_begin]; exact hg.2⟩
theorem inv_beg {st : St} (h : Inv st) : Inv (begT st) ∧ lenS (begT st) ≤ lenS st + 1 := by
  rcases st with _ | ⟨A, G⟩
  · exact ⟨trivial, Nat.zero_le _⟩
  · exact ⟨⟨by simp [h.1], good_begin h.2.1, good_begin h.2.2⟩, by simp [lenS, begT]⟩
theorem inv_wro {st : St} (x : Int) (h : Inv st) : Inv (wroT x st) ∧ lenS (wroT x st) ≤ lenS st := by
  rcases st with _ | ⟨A, G⟩
  · exact ⟨trivial, Nat.zero_le _⟩
  · simp only [wroT]
    by_cases hc : code x A = 0
    · rw [if_pos hc]
      obtain ⟨g1, g2⟩ := good_add hc h.2.1
      exact ⟨⟨by rw [g2]; exact h.1, g1, h.2.2⟩, by show (addLast A x).length ≤ A.length; rw [g2]; exact Nat.le_refl _⟩
    · rw [if_neg hc]
      exact ⟨h, Nat.le_refl _⟩
theorem inv_rea {st : St} (x : Int) (h : Inv st) : Inv (reaT x st) ∧ lenS (reaT x st) ≤ lenS st := by
  rcases st with _ | ⟨A, G⟩
  · exact ⟨trivial, Nat.zero_le _⟩
  · simp only [reaT]
    by_cases hc : code x G = 0
    · rw [if_pos hc]
      obtain ⟨g1, g2⟩ := good_add hc h.2.2
      exact ⟨⟨by rw [g2]; exact h.1, h.2.1, g1⟩, Nat.le_refl _⟩
    · rw [if_neg hc]
      exact ⟨h, Nat.le_refl _⟩
/-- only blocks of S, and what is new, have changed -/
structure OnlyS (S : Nat → Prop) (w w' : World) : Prop where
  os : w'.os = w.os
  tape : w'.tape = w.tape
  output : w'.output = w.output
  size : w.heap.size ≤ w'.heap.size
  block : ∀ k, k < w.heap.size → ¬ S k → w'.heap[k]? = w.heap[k]?
theorem OnlyS.of {S : Nat → Prop} {b : Nat} {r : Option Nat} {w w' : World} (h : Only b r w w') (hb : S b) (hr : ∀ k, r = some k → S k) : OnlyS S w w' :=
  ⟨h.os, h.tape, h.output, h.size, fun k hk hS => h.block k hk (by rintro rfl; exact hS hb) (fun e => hS (hr k e.symm))⟩
theorem OnlyS.of_below {S : Nat → Prop} {w w' : World} (h : Below w.heap.size w w') : OnlyS S w w' := ⟨h.os, h.tape, h.output, h.size, fun k hk _ => h.block k hk⟩
theorem OnlyS.below {S : Nat → Prop} {a w w' : World} (h : OnlyS S w w') (ha : Below a.heap.size a w) (hS : ∀ k, S k → a.heap.size ≤ k) : Below a.heap.size a w' :=
  ⟨h.os.trans ha.os, h.tape.trans ha.tape, h.output.trans ha.output, Nat.le_trans ha.size h.size, fun k hk => (h.block k (Nat.lt_of_lt_of_le hk ha.size) (fun hs => by have := hS k hs; omega)).trans (ha.block k hk)⟩
/-- the meter's numbers -/
def MM (w : World) (b : Nat) (A G : List Int) : Prop := IsM w b (A.length : Nat) (lastD A) (mx A) (sm A) (lastD G) (mx G) (sm G)
def LO (W : World) (w : World) (p : Option Addr) (st : St) (S : Nat → Prop) : Prop :=
  (st = none ∧ p = none ∧ S = fun _ => False) ∨ ∃ b A G, st = some (A, G) ∧ p = some ⟨b, 0, none⟩ ∧ MM w b A G ∧ W.heap.size ≤ b ∧ S = fun k => k = b
def RO (W : World) (w : World) (p : Option Addr) (st : St) (S : Nat → Prop) : Prop :=
  (st = none ∧ p = none ∧ S = fun _ => False) ∨ ∃ B r n Aa ca Ag cg A G, st = some (A, G) ∧ p = some ⟨r, 0, none⟩ ∧ Rm.Is w B r n Aa ca Ag cg A G ∧ W.heap.size ≤ r ∧ W.heap.size ≤ B ∧ B ≤ w.heap.size ∧ S = fun k => k = r ∨ rowOf Aa = some k ∨ rowOf Ag = some k
section
variable {W w w' : World} {p : Option Addr} {st : St} {S T : Nat → Prop}
theorem LO.in_ (h : LO W w p st S) : ∀ k, S k → W.heap.size ≤ k ∧ k < w.heap.size := by
  rcases h with ⟨_, _, rfl⟩ | ⟨b, A, G, _, _, hI, hb, rfl⟩
  · exact fun k hk => hk.elim
  · rintro k rfl
    exact ⟨hb, hI.lt⟩
theorem LO.other (h : LO W w p st S) (k : OnlyS T w w') (hd : ∀ j, S j → ¬ T j) : LO W w' p st S := by
  rcases h with ⟨h1, h2, h3⟩ | ⟨b, A, G, h1, h2, hI, hb, rfl⟩
  · exact .inl ⟨h1, h2, h3⟩
  · exact .inr ⟨b, A, G, h1, h2, (k.block b hI.lt (hd b rfl)).trans hI, hb, rfl⟩
theorem LO.later (h : LO W w p st S) (hb : Below w.heap.size w w') : LO W w' p st S := h.other (T := fun _ => False) (OnlyS.of_below hb) (fun _ _ h => h)
theorem RO.in_ (h : RO W w p st S) : ∀ k, S k → W.heap.size ≤ k ∧ k < w.heap.size := by
  rcases h with ⟨_, _, rfl⟩ | ⟨B, r, n, Aa, ca, Ag, cg, A, G, _, _, hI, hr, hB, hBw, rfl⟩
  · exact fun k hk => hk.elim
  · rintro k (rfl | hk | hk)
    · exact ⟨hr, hI.lt⟩
    · have := own_row hI.oa k hk; omega
    · have := own_row hI.og k hk; omega
theorem RO.other (h : RO W w p st S) (k : OnlyS T w w') (hd : ∀ j, S j → ¬ T j) : RO W w' p st S := by
  rcases h with ⟨h1, h2, h3⟩ | ⟨B, r, n, Aa, ca, Ag, cg, A, G, h1, h2, hI, hr, hB, hBw, rfl⟩
  · exact .inl ⟨h1, h2, h3⟩
  · exact .inr ⟨B, r, n, Aa, ca, Ag, cg, A, G, h1, h2, hI.kept (k.block r hI.lt (hd r (.inl rfl))) (fun g hg => k.block g (own_row hI.oa g hg).2 (hd g (.inr (.inl hg)))) (fun g hg => k.block g (own_row hI.og g hg).2 (hd g (.inr (.inr hg)))), hr, hB, Nat.le_trans hBw k.size, rfl⟩
theorem RO.later (h : RO W w p st S) (hb : Below w.heap.size w w') : RO W w' p st S := h.other (T := fun _ => False) (OnlyS.of_below hb) (fun _ _ h => h)
end
/-- the two pairs, and the step's own block -/
structure KP (W : World) (bx : Nat) (cs : Array Value) (p q po qo : Option Addr) (sl sr so : St) (SL SR SO TO : Nat → Prop) (w : World) : Prop where
  l : LO W w p sl SL
  r : RO W w q sr SR
  lo : LO W w po so SO
  ro : RO W w qo so TO
  d1 : ∀ k, SL k → ¬ SR k
  d2 : ∀ k, SL k ∨ SR k → ¬ SO k ∧ ¬ TO k
  x : Blk w bx 54 cs
  dx : ∀ k, SL k ∨ SR k → k ≠ bx
  b : Below W.heap.size W w
section
variable {W w w' : World} {bx : Nat} {cs : Array Value} {p q po qo : Option Addr} {sl sr so sl' sr' : St} {SL SR SO TO SL' SR' : Nat → Prop}
theorem KP.later (h : KP W bx cs p q po qo sl sr so SL SR SO TO w) (hb : Below w.heap.size w w') : KP W bx cs p q po qo sl sr so SL SR SO TO w' :=
  ⟨h.l.later hb, h.r.later hb, h.lo.later hb, h.ro.later hb, h.d1, h.d2, h.x.below hb h.x.lt, h.dx, b_then h.b hb⟩
theorem KP.stepL (h : KP W bx cs p q po qo sl sr so SL SR SO TO w) (hO : OnlyS SL w w') (hL : LO W w' p sl' SL') (hG : ∀ k, SL' k → SL k ∨ w.heap.size ≤ k) : KP W bx cs p q po qo sl' sr so SL' SR SO TO w' := by
  refine ⟨hL, h.r.other hO fun j hr hl => h.d1 j hl hr, h.lo.other hO fun j ho hl => (h.d2 j (.inl hl)).1 ho, h.ro.other hO fun j ho hl => (h.d2 j (.inl hl)).2 ho, fun k hk hr => ?_, fun k hk => ?_, (hO.block bx h.x.lt fun hl => h.dx bx (.inl hl) rfl).trans h.x, fun k hk => ?_, hO.below h.b fun k hk => (h.l.in_ k hk).1⟩
  · rcases hG k hk with h1 | h1
    · exact h.d1 k h1 hr
    · have := (h.r.in_ k hr).2; omega
  · rcases hk with hk | hk
    · rcases hG k hk with h1 | h1
      · exact h.d2 k (.inl h1)
      · exact ⟨fun ho => by have := (h.lo.in_ k ho).2; omega, fun ho => by have := (h.ro.in_ k ho).2; omega⟩
    · exact h.d2 k (.inr hk)
  · rcases hk with hk | hk
    · rcases hG k hk with h1 | h1
      · exact h.dx k (.inl h1)
      · have := h.x.lt; omega
    · exact h.dx k (.inr hk)
theorem KP.stepR (h : KP W bx cs p q po qo sl sr so SL SR SO TO w) (hO : OnlyS SR w w') (hR : RO W w' q sr' SR') (hG : ∀ k, SR' k → SR k ∨ w.heap.size ≤ k) : KP W bx cs p q po qo sl sr' so SL SR' SO TO w' := by
  refine ⟨h.l.other hO fun j hl hr => h.d1 j hl hr, hR, h.lo.other hO fun j ho hl => (h.d2 j (.inr hl)).1 ho, h.ro.other hO fun j ho hl => (h.d2 j (.inr hl)).2 ho, fun k hl hk => ?_, fun k hk => ?_, (hO.block bx h.x.lt fun hl => h.dx bx (.inr hl) rfl).trans h.x, fun k hk => ?_, hO.below h.b fun k hk => (h.r.in_ k hk).1⟩
  · rcases hG k hk with h1 | h1
    · exact h.d1 k hl h1
    · have := (h.l.in_ k hl).2; omega
  · rcases hk with hk | hk
    · exact h.d2 k (.inl hk)
    · rcases hG k hk with h1 | h1
      · exact h.d2 k (.inr h1)
      · exact ⟨fun ho => by have := (h.lo.in_ k ho).2; omega, fun ho => by have := (h.ro.in_ k ho).2; omega⟩
  · rcases hk with hk | hk
    · exact h.dx k (.inl hk)
    · rcases hG k hk with h1 | h1
      · exact h.dx k (.inr h1)
      · have := h.x.lt; omega
end
section
variable {W w w' : World} {bx : Nat} {cs : Array Value} {p q po qo : Option Addr} {sl sr so : St} {SL SR SO TO : Nat → Prop}
theorem OnlyS.of_grown {S : Nat → Prop} {b : Nat} {w w' : World} (h : w.grownBy w' (some b)) (hb : S b) : OnlyS S w w' := ⟨h.os, h.tape, h.output, h.size, fun k hk hS => h.block k hk (fun e => by injection e with e; exact hS (e ▸ hb))⟩
theorem m_later {w w' : World} {b : Nat} {k c m t x y z : Int} (h : IsM w b k c m t x y z) (hb : Below w.heap.size w w') : IsM w' b k c m t x y z := IsM.below h hb h.lt
/-- shows, where the states are alike and there is one -/
theorem shows_yes {A G : List Int} {Sl Sr : Nat → Prop} (hl : LO W w p (some (A, G)) Sl) (hr : RO W w q (some (A, G)) Sr) (hv : Inv (some (A, G))) (hn : A.length ≤ 1000) : Calls Try.prog 29 #[.pointer p, .pointer q] w fun e w' => e = .returned (.bool true) ∧ Below w.heap.size w w' := by
  rcases hl with ⟨h1, _⟩ | ⟨b, A', G', h1, rfl, hM, hWb, rfl⟩
  · cases h1
  rcases hr with ⟨h2, _⟩ | ⟨B, r, n, Aa, ca, Ag, cg, A'', G'', h2, rfl, hI, hr, hB, hBw, rfl⟩
  · cases h2
  injection h1 with h1
  injection h1 with h1 h1'
  injection h2 with h2
  injection h2 with h2 h2'
  subst h1 h1' h2 h2'
  have hnA : n = A.length := hI.lenA.symm
  subst hnA
  have hM : IsM w b (A.length : Nat) (lastD A) (mx A) (sm A) (lastD G) (mx G) (sm G) := hM
  obtain ⟨hAG, gA, gG⟩ := hv
  have hk0 := Below.refl w.heap.size w
  go_enter Try.func29, Try.ntmps29
  go_wp2_with fail
  refine (Call_any b _ _ _ _ _ _ _ _ hM).mono ?_
  rintro e w1 ⟨rfl, hw⟩
  have hb : Below w.heap.size w w1 := by rw [← hw]; exact Below.drew (Below.refl _ _)
  clear hw
  have hM1 := m_later hM hb
  have hI1 := hI.later hb
  have hk1 := b_then hk0 hb
  clear hM hI hk0 hb
  go_wp2_with fail
  refine (Rm.Call_any B r A.length ca cg Aa Ag A G _ hI1 (by omega)).mono ?_
  rintro e w2 ⟨rfl, hb⟩
  have hM2 := m_later hM1 hb
  have hI2 := hI1.later hb
  have hk2 := b_then hk1 hb
  clear hM1 hI1 hk1 hb
  go_wp2_with fail
  refine (Most_any b _ _ _ _ _ _ _ _ hM2).mono ?_
  rintro e w3 ⟨rfl, hw⟩
  have hb : Below w2.heap.size w2 w3 := by rw [← hw]; exact Below.drew (Below.refl _ _)
  clear hw
  have hM3 := m_later hM2 hb
  have hI3 := hI2.later hb
  have hk3 := b_then hk2 hb
  clear hM2 hI2 hk2 hb
  go_wp2_with fail
  refine (Rm.Most_any B r A.length ca cg Aa Ag A G _ hI3 gA gG (by omega)).mono ?_
  rintro e w4 ⟨rfl, hb⟩
  have hM4 := m_later hM3 hb
  have hI4 := hI3.later hb
  have hk4 := b_then hk3 hb
  clear hM3 hI3 hk3 hb
  go_wp2_with fail
  refine (Total_any b _ _ _ _ _ _ _ _ hM4).mono ?_
  rintro e w5 ⟨rfl, hw⟩
  have hb : Below w4.heap.size w4 w5 := by rw [← hw]; exact Below.drew (Below.refl _ _)
  clear hw
  have hM5 := m_later hM4 hb
  have hI5 := hI4.later hb
  have hk5 := b_then hk4 hb
  clear hM4 hI4 hk4 hb
  go_wp2_with fail
  refine (Rm.Total_any B r A.length ca cg Aa Ag A G _ hI5 gA gG (by omega)).mono ?_
  rintro e w6 ⟨rfl, hb⟩
  have hM6 := m_later hM5 hb
  have hI6 := hI5.later hb
  have hk6 := b_then hk5 hb
  clear hM5 hI5 hk5 hb
  go_wp2_with fail
  refine (Calls_any b _ _ _ _ _ _ _ _ hM6).mono ?_
  rintro e w' ⟨rfl, rfl⟩
  go_wp2_with fail
  refine (Rm.Calls_any B r A.length ca cg Aa Ag A G _ hI6).mono ?_
  rintro e w' ⟨rfl, rfl⟩
  go_wp2_with fail
  go_ret
  exact ⟨rfl, hk6⟩
theorem begL (h : KP W bx cs p q po qo sl sr so SL SR SO TO w) (h0 : sl ≠ none) (hn : lenS sl ≤ 1000) : Calls Try.prog 14 #[.pointer p] w fun e w' => e = .returned (.tuple #[]) ∧ ∃ S', KP W bx cs p q po qo (begT sl) sr so S' SR SO TO w' := by
  rcases h.l with ⟨h1, _⟩ | ⟨b, A, G, rfl, rfl, hM, hWb, rfl⟩
  · exact absurd h1 h0
  · have hn' : A.length ≤ 1000 := hn
    refine (Begin_any b _ _ _ _ _ _ _ _ hM (by omega) (by omega)).mono ?_
    rintro e w' ⟨rfl, hM', hg⟩
    have hM2 : MM w' b (A ++ [0]) (G ++ [0]) := by
      unfold MM
      rw [lastD_begin, lastD_begin, mx_begin, mx_begin, sm_begin, sm_begin, List.length_append]
      exact hM'
    exact ⟨rfl, _, h.stepL (OnlyS.of_grown hg rfl) (.inr ⟨b, A ++ [0], G ++ [0], rfl, rfl, hM2, hWb, rfl⟩) (fun k hk => .inl hk)⟩
theorem begR (h : KP W bx cs p q po qo sl sr so SL SR SO TO w) (h0 : sr ≠ none) (hn : lenS sr ≤ 1000) : Calls Try.prog 24 #[.pointer q] w fun e w' => e = .returned (.tuple #[]) ∧ ∃ S', KP W bx cs p q po qo sl (begT sr) so SL S' SO TO w' := by
  rcases h.r with ⟨h1, _⟩ | ⟨B, r, n, Aa, ca, Ag, cg, A, G, rfl, rfl, hI, hr, hB, hBw, rfl⟩
  · exact absurd h1 h0
  · have hn' : n ≤ 1000 := by rw [← hI.lenA]; exact hn
    refine (Rm.Begin_any B r n ca cg Aa Ag A G _ hI (by omega)).mono ?_
    rintro e w' ⟨rfl, ⟨Aa', ca', Ag', cg', hI'⟩, hO⟩
    refine ⟨rfl, _, h.stepR (OnlyS.of hO (.inl rfl) (fun k hk => by cases hk)) (.inr ⟨w.heap.size, r, n + 1, Aa', ca', Ag', cg', A ++ [0], G ++ [0], rfl, rfl, hI', hr, h.b.size, hO.size, rfl⟩) (fun k hk => ?_)⟩
    rcases hk with hk | hk | hk
    · exact .inl (.inl hk)
    · exact .inr (own_row hI'.oa k hk).1
    · exact .inr (own_row hI'.og k hk).1
theorem wroL (x : Int) (h : KP W bx cs p q po qo sl sr so SL SR SO TO w) (h0 : sl ≠ none) (hv : Inv sl) (hn : lenS sl ≤ 1000) : Calls Try.prog 15 #[.pointer p, .int .i64 x] w fun e w' => e = .returned (.int .i64 (wroC x sl)) ∧ ∃ S', KP W bx cs p q po qo (wroT x sl) sr so S' SR SO TO w' := by
  rcases h.l with ⟨h1, _⟩ | ⟨b, A, G, rfl, rfl, hM, hWb, rfl⟩
  · exact absurd h1 h0
  · obtain ⟨hAG, gA, gG⟩ := hv
    have gL : Rm.Good A := gA
    have hlb := last_le gL.1
    have hmx := mx_le_sm A gL.1
    have hm0 := mx_nonneg A
    have hgs := gL.2
    show Calls _ _ _ _ fun e w' => e = .returned (.int .i64 (code x A)) ∧ ∃ S', KP W bx cs _ q po qo (if code x A = 0 then some ((addLast A x), G) else some (A, G)) sr so S' SR SO TO w'
    by_cases c0 : x < 0
    · have hc : code x A = 2 := if_pos c0
      rw [hc, if_neg (by decide)]
      refine (Wrote_neg b _ _ _ _ _ _ _ x _ hM c0).mono ?_
      rintro e w' ⟨rfl, rfl⟩
      exact ⟨rfl, _, h⟩
    · have c1 : 0 ≤ x := by omega
      by_cases c2 : A.length = 0
      · have hc : code x A = 7 := by unfold code; rw [if_neg c0, if_pos c2]
        rw [hc, if_neg (by decide)]
        refine (Wrote_state b _ _ _ _ _ _ _ x _ hM c1 (by rw [beq_iff_eq]; omega)).mono ?_
        rintro e w' ⟨rfl, rfl⟩
        exact ⟨rfl, _, h⟩
      · have hk : (((A.length : Nat) : Int) == 0) = false := by rw [beq_eq_false_iff_ne]; omega
        by_cases c3 : 1099511627776 - sm A < x
        · have hc : code x A = 16 := by unfold code; rw [if_neg c0, if_neg c2, if_pos c3]
          rw [hc, if_neg (by decide)]
          refine (Wrote_over b _ _ _ _ _ _ _ x _ hM c1 hk (by omega) hgs c3).mono ?_
          rintro e w' ⟨rfl, rfl⟩
          exact ⟨rfl, _, h⟩
        · have hc : code x A = 0 := by unfold code; rw [if_neg c0, if_neg c2, if_neg c3]
          rw [hc, if_pos rfl]
          have hLn : A ≠ [] := by rintro rfl; exact c2 rfl
          refine (Wrote_ok b _ _ _ _ _ _ _ x _ hM c1 hk (by omega) (by omega) hm0 (by omega) (by omega)).mono ?_
          rintro e w' ⟨rfl, hM', hg⟩
          have hM2 : MM w' b (addLast A x) G := by
            unfold MM
            rw [show (addLast A x).length = A.length from len_add x hLn, lastD_add x hLn, mx_add hLn c1 gL.1, sm_add x hLn]
            exact hM'
          exact ⟨rfl, _, h.stepL (OnlyS.of_grown hg rfl) (.inr ⟨b, (addLast A x), G, rfl, rfl, hM2, hWb, rfl⟩) (fun k hk => .inl hk)⟩
theorem wroR (x : Int) (h : KP W bx cs p q po qo sl sr so SL SR SO TO w) (h0 : sr ≠ none) (hv : Inv sr) (hn : lenS sr ≤ 1000) : Calls Try.prog 25 #[.pointer q, .int .i64 x] w fun e w' => e = .returned (.int .i64 (wroC x sr)) ∧ ∃ S', KP W bx cs p q po qo sl (wroT x sr) so SL S' SO TO w' := by
  rcases h.r with ⟨h1, _⟩ | ⟨B, r, n, Aa, ca, Ag, cg, A, G, rfl, rfl, hI, hr, hB, hBw, rfl⟩
  · exact absurd h1 h0
  · obtain ⟨hAG, gA, gG⟩ := hv
    have gL : Rm.Good A := gA
    have hn' : n ≤ 1000 := by rw [← hI.lenA]; exact hn
    have hLn := hI.lenA
    show Calls _ _ _ _ fun e w' => e = .returned (.int .i64 (code x A)) ∧ ∃ S', KP W bx cs p _ po qo sl (if code x A = 0 then some ((addLast A x), G) else some (A, G)) so SL S' SO TO w'
    by_cases c0 : x < 0
    · have hc : code x A = 2 := if_pos c0
      rw [hc, if_neg (by decide)]
      refine (Rm.Wrote_code B r n ca cg Aa Ag A G _ hI x 2 (Rm.check_neg B r n ca cg Aa Ag A G _ ca Aa x hI c0) (by decide)).mono ?_
      rintro e w' ⟨rfl, rfl⟩
      exact ⟨rfl, _, h⟩
    · have c1 : 0 ≤ x := by omega
      by_cases c2 : A.length = 0
      · have hc : code x A = 7 := by unfold code; rw [if_neg c0, if_pos c2]
        rw [hc, if_neg (by decide)]
        refine (Rm.Wrote_code B r n ca cg Aa Ag A G _ hI x 7 (Rm.check_state B r n ca cg Aa Ag A G _ ca Aa x hI c1 (by omega)) (by decide)).mono ?_
        rintro e w' ⟨rfl, rfl⟩
        exact ⟨rfl, _, h⟩
      · have hk : (((n : Nat) : Int) == 0) = false := by rw [beq_eq_false_iff_ne]; omega
        by_cases c3 : 1099511627776 - sm A < x
        · have hc : code x A = 16 := by unfold code; rw [if_neg c0, if_neg c2, if_pos c3]
          rw [hc, if_neg (by decide)]
          refine (Rm.Wrote_code B r n ca cg Aa Ag A G _ hI x 16 (Rm.check_over B r n ca cg Aa Ag A G _ ca Aa A x hI hI.oa gL (by omega) c1 hk c3) (by decide)).mono ?_
          rintro e w' ⟨rfl, rfl⟩
          exact ⟨rfl, _, h⟩
        · have hc : code x A = 0 := by unfold code; rw [if_neg c0, if_neg c2, if_neg c3]
          rw [hc, if_pos rfl]
          refine (Rm.Wrote_ok B r n ca cg Aa Ag A G _ hI x (Rm.check_ok B r n ca cg Aa Ag A G _ ca Aa A x hI hI.oa gL (by omega) c1 hk (by omega)) (by omega) (by omega) gL c1 (by omega)).mono ?_
          rintro e w' ⟨rfl, hI', hO⟩
          exact ⟨rfl, _, h.stepR (OnlyS.of hO (.inl rfl) (fun k hk => .inr (.inl hk))) (.inr ⟨B, r, n, Aa, ca, Ag, cg, (addLast A x), G, rfl, rfl, hI', hr, hB, Nat.le_trans hBw hO.size, rfl⟩) (fun k hk => .inl hk)⟩
theorem reaL (x : Int) (h : KP W bx cs p q po qo sl sr so SL SR SO TO w) (h0 : sl ≠ none) (hv : Inv sl) (hn : lenS sl ≤ 1000) : Calls Try.prog 16 #[.pointer p, .int .i64 x] w fun e w' => e = .returned (.int .i64 (reaC x sl)) ∧ ∃ S', KP W bx cs p q po qo (reaT x sl) sr so S' SR SO TO w' := by
  rcases h.l with ⟨h1, _⟩ | ⟨b, A, G, rfl, rfl, hM, hWb, rfl⟩
  · exact absurd h1 h0
  · obtain ⟨hAG, gA, gG⟩ := hv
    have gL : Rm.Good G := gG
    have hlb := last_le gL.1
    have hmx := mx_le_sm G gL.1
    have hm0 := mx_nonneg G
    have hgs := gL.2
    show Calls _ _ _ _ fun e w' => e = .returned (.int .i64 (code x G)) ∧ ∃ S', KP W bx cs _ q po qo (if code x G = 0 then some (A, (addLast G x)) else some (A, G)) sr so S' SR SO TO w'
    by_cases c0 : x < 0
    · have hc : code x G = 2 := if_pos c0
      rw [hc, if_neg (by decide)]
      refine (Read_neg b _ _ _ _ _ _ _ x _ hM c0).mono ?_
      rintro e w' ⟨rfl, rfl⟩
      exact ⟨rfl, _, h⟩
    · have c1 : 0 ≤ x := by omega
      by_cases c2 : G.length = 0
      · have hc : code x G = 7 := by unfold code; rw [if_neg c0, if_pos c2]
        rw [hc, if_neg (by decide)]
        refine (Read_state b _ _ _ _ _ _ _ x _ hM c1 (by rw [beq_iff_eq]; omega)).mono ?_
        rintro e w' ⟨rfl, rfl⟩
        exact ⟨rfl, _, h⟩
      · have hk : (((A.length : Nat) : Int) == 0) = false := by rw [beq_eq_false_iff_ne]; omega
        by_cases c3 : 1099511627776 - sm G < x
        · have hc : code x G = 16 := by unfold code; rw [if_neg c0, if_neg c2, if_pos c3]
          rw [hc, if_neg (by decide)]
          refine (Read_over b _ _ _ _ _ _ _ x _ hM c1 hk (by omega) hgs c3).mono ?_
          rintro e w' ⟨rfl, rfl⟩
          exact ⟨rfl, _, h⟩
        · have hc : code x G = 0 := by unfold code; rw [if_neg c0, if_neg c2, if_neg c3]
          rw [hc, if_pos rfl]
          have hLn : G ≠ [] := by rintro rfl; exact c2 rfl
          refine (Read_ok b _ _ _ _ _ _ _ x _ hM c1 hk (by omega) (by omega) hm0 (by omega) (by omega)).mono ?_
          rintro e w' ⟨rfl, hM', hg⟩
          have hM2 : MM w' b A (addLast G x) := by
            unfold MM
            rw [lastD_add x hLn, mx_add hLn c1 gL.1, sm_add x hLn]
            exact hM'
          exact ⟨rfl, _, h.stepL (OnlyS.of_grown hg rfl) (.inr ⟨b, A, (addLast G x), rfl, rfl, hM2, hWb, rfl⟩) (fun k hk => .inl hk)⟩
theorem reaR (x : Int) (h : KP W bx cs p q po qo sl sr so SL SR SO TO w) (h0 : sr ≠ none) (hv : Inv sr) (hn : lenS sr ≤ 1000) : Calls Try.prog 26 #[.pointer q, .int .i64 x] w fun e w' => e = .returned (.int .i64 (reaC x sr)) ∧ ∃ S', KP W bx cs p q po qo sl (reaT x sr) so SL S' SO TO w' := by
  rcases h.r with ⟨h1, _⟩ | ⟨B, r, n, Aa, ca, Ag, cg, A, G, rfl, rfl, hI, hr, hB, hBw, rfl⟩
  · exact absurd h1 h0
  · obtain ⟨hAG, gA, gG⟩ := hv
    have gL : Rm.Good G := gG
    have hn' : n ≤ 1000 := by rw [← hI.lenA]; exact hn
    have hLn := hI.lenG
    show Calls _ _ _ _ fun e w' => e = .returned (.int .i64 (code x G)) ∧ ∃ S', KP W bx cs p _ po qo sl (if code x G = 0 then some (A, (addLast G x)) else some (A, G)) so SL S' SO TO w'
    by_cases c0 : x < 0
    · have hc : code x G = 2 := if_pos c0
      rw [hc, if_neg (by decide)]
      refine (Rm.Read_code B r n ca cg Aa Ag A G _ hI x 2 (Rm.check_neg B r n ca cg Aa Ag A G _ cg Ag x hI c0) (by decide)).mono ?_
      rintro e w' ⟨rfl, rfl⟩
      exact ⟨rfl, _, h⟩
    · have c1 : 0 ≤ x := by omega
      by_cases c2 : G.length = 0
      · have hc : code x G = 7 := by unfold code; rw [if_neg c0, if_pos c2]
        rw [hc, if_neg (by decide)]
        refine (Rm.Read_code B r n ca cg Aa Ag A G _ hI x 7 (Rm.check_state B r n ca cg Aa Ag A G _ cg Ag x hI c1 (by omega)) (by decide)).mono ?_
        rintro e w' ⟨rfl, rfl⟩
        exact ⟨rfl, _, h⟩
      · have hk : (((n : Nat) : Int) == 0) = false := by rw [beq_eq_false_iff_ne]; omega
        by_cases c3 : 1099511627776 - sm G < x
        · have hc : code x G = 16 := by unfold code; rw [if_neg c0, if_neg c2, if_pos c3]
          rw [hc, if_neg (by decide)]
          refine (Rm.Read_code B r n ca cg Aa Ag A G _ hI x 16 (Rm.check_over B r n ca cg Aa Ag A G _ cg Ag G x hI hI.og gL (by omega) c1 hk c3) (by decide)).mono ?_
          rintro e w' ⟨rfl, rfl⟩
          exact ⟨rfl, _, h⟩
        · have hc : code x G = 0 := by unfold code; rw [if_neg c0, if_neg c2, if_neg c3]
          rw [hc, if_pos rfl]
          refine (Rm.Read_ok B r n ca cg Aa Ag A G _ hI x (Rm.check_ok B r n ca cg Aa Ag A G _ cg Ag G x hI hI.og gL (by omega) c1 hk (by omega)) (by omega) (by omega) gL c1 (by omega)).mono ?_
          rintro e w' ⟨rfl, hI', hO⟩
          exact ⟨rfl, _, h.stepR (OnlyS.of hO (.inl rfl) (fun k hk => .inr (.inr hk))) (.inr ⟨B, r, n, Aa, ca, Ag, cg, A, (addLast G x), rfl, rfl, hI', hr, hB, Nat.le_trans hBw hO.size, rfl⟩) (fun k hk => .inl hk)⟩
theorem copyL (h : LO W w p sl SL) (h0 : sl ≠ none) (hW : W.heap.size ≤ w.heap.size) : Calls Try.prog 27 #[.pointer p] w fun e w' => ∃ p' S', e = .returned (.pointer p') ∧ LO W w' p' sl S' ∧ (∀ k, S' k → w.heap.size ≤ k) ∧ Below w.heap.size w w' := by
  rcases h with ⟨h1, _⟩ | ⟨b, A, G, rfl, rfl, hM, hWb, rfl⟩
  · exact absurd h1 h0
  · refine (Copy_ex b _ _ _ _ _ _ _ w hM).mono ?_
    rintro e w' ⟨b', rfl, hM', hb', hb⟩
    exact ⟨_, _, rfl, .inr ⟨b', A, G, rfl, rfl, hM', by omega, rfl⟩, fun k hk => by rw [hk]; exact hb', hb⟩
theorem copyR (h : RO W w q sr SR) (h0 : sr ≠ none) (hn : lenS sr ≤ 1000) (hW : W.heap.size ≤ w.heap.size) : Calls Try.prog 28 #[.pointer q] w fun e w' => ∃ p' S', e = .returned (.pointer p') ∧ RO W w' p' sr S' ∧ (∀ k, S' k → w.heap.size ≤ k) ∧ Below w.heap.size w w' := by
  rcases h with ⟨h1, _⟩ | ⟨B, r, n, Aa, ca, Ag, cg, A, G, rfl, rfl, hI, hr, hB, hBw, rfl⟩
  · exact absurd h1 h0
  · have hn' : n ≤ 1000 := by rw [← hI.lenA]; exact hn
    refine (Rm.Copy_any B r n ca cg Aa Ag A G w hI (by omega)).mono ?_
    rintro e w' ⟨r', Aa', ca', Ag', cg', rfl, hI', hr', hb⟩
    refine ⟨_, _, rfl, .inr ⟨w.heap.size, r', n, Aa', ca', Ag', cg', A, G, rfl, rfl, hI', by omega, hW, hb.size, rfl⟩, fun k hk => ?_, hb⟩
    rcases hk with hk | hk | hk
    · rw [hk]; exact hr'
    · exact (own_row hI'.oa k hk).1
    · exact (own_row hI'.og k hk).1
theorem KP.copied {st : St} {p' q' : Option Addr} {SL' SR' : Nat → Prop} {w1 w2 : World} (h : KP W bx cs p q po qo st st so SL SR SO TO w)
    (hb1 : Below w.heap.size w w1) (hl : LO W w1 p' st SL') (h1 : ∀ k, SL' k → w.heap.size ≤ k) (hb2 : Below w1.heap.size w1 w2) (hr : RO W w2 q' st SR') (h2 : ∀ k, SR' k → w1.heap.size ≤ k) : KP W bx cs p' q' p q st st st SL' SR' SL SR w2 := by
  have hb := b_then hb1 hb2
  have hs := hb1.size
  refine ⟨hl.later hb2, hr, h.l.later hb, h.r.later hb, fun k hk hk' => ?_, fun k hk => ?_, h.x.below hb h.x.lt, fun k hk => ?_, b_then h.b hb⟩
  · have := (hl.in_ k hk).2; have := h2 k hk'; omega
  · have : w.heap.size ≤ k := by rcases hk with hk | hk; exact h1 k hk; exact Nat.le_trans hs (h2 k hk)
    exact ⟨fun ho => by have := (h.l.in_ k ho).2; omega, fun ho => by have := (h.r.in_ k ho).2; omega⟩
  · have : w.heap.size ≤ k := by rcases hk with hk | hk; exact h1 k hk; exact Nat.le_trans hs (h2 k hk)
    have := h.x.lt
    omega
theorem KP.start {st : St} (hl : LO W w p st SL) (hr : RO W w q st SR) (ho : LO W w po so SO) (hO : RO W w qo so TO) (d1 : ∀ k, SL k → ¬ SR k) (d2 : ∀ k, SL k ∨ SR k → ¬ SO k ∧ ¬ TO k) (hB : Below W.heap.size W w) :
    KP W w.heap.size cs p q po qo st st so SL SR SO TO (w.alloc (.cells cs 54)) :=
  have ba := b_alloc (Below.refl w.heap.size w) (.cells cs 54)
  ⟨hl.later ba, hr.later ba, ho.later ba, hO.later ba, d1, d2, Blk.new w 54 cs, fun k hk e => by
    subst e
    rcases hk with hk | hk
    · exact absurd (hl.in_ _ hk).2 (Nat.lt_irrefl _)
    · exact absurd (hr.in_ _ hk).2 (Nat.lt_irrefl _), b_alloc hB _⟩
end
end Go.Proofs.Ytjnbkpjpcbmhcaa.Mp
