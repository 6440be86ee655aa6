/-
  A slice of the law's own beside the pairs: Begin with it, and clear.
-/
import Derived.Test.YtaidekdmhmoaeaaDoorPs
import Derived.Test.YtaidekdmhmoaeaaDoorCln
namespace Go.Proofs.YtaidekdmhmoaeaaDoor.Pr
open Go.RowKit Bt
open Rd (ints inn Tab of_in)
open Rr (nats nats_ints)
set_option linter.unusedVariables false
set_option linter.unusedSimpArgs false
def Apart (A : Option Addr) (S : Nat → Prop) : Prop := ∀ g, rowOf A = some g → ¬ S g
theorem own_onlyS {w w' : World} {S : Nat → Prop} {base : Nat} {e : TypeId} {size n m : Nat} {A : Option Addr} {cap : Nat} {xs : List Value} (h : w.ownsRow base e size (.slice A n cap) m xs) (k : OnlyS S w w') (hd : Apart A S) : w'.ownsRow base e size (.slice A n cap) m xs :=
  own_kept h fun g hg => k.block g (own_row h g hg).2 (hd g hg)
section
variable {W w w' : World} {bx : Nat} {cs : Array Value} {p q po qo : Option Addr} {sl sr so : St} {SL SR SO TO : Nat → Prop}
theorem KP.turn {A : Option Addr} (h : KP W bx cs p q po qo sl sr so SL SR SO TO w) (hg : w.grownBy w' (rowOf A)) (h1 : Apart A SL) (h2 : Apart A SR) (h3 : Apart A SO) (h4 : Apart A TO) (h5 : rowOf A ≠ some bx) (h6 : ∀ g, rowOf A = some g → W.heap.size ≤ g) : KP W bx cs p q po qo sl sr so SL SR SO TO w' := by
  have hO : OnlyS (fun k => rowOf A = some k) w w' := ⟨hg.os, hg.tape, hg.output, hg.size, fun k hk hn => hg.block k hk (fun e => hn e.symm)⟩
  exact ⟨h.l.other hO fun j hj hk => h1 j hk hj, h.r.other hO fun j hj hk => h2 j hk hj, h.lo.other hO fun j hj hk => h3 j hk hj, h.ro.other hO fun j hj hk => h4 j hk hj, h.d1, h.d2,
    (hO.block bx h.x.lt h5).trans h.x, h.dx, hO.below h.b h6⟩
/-- the slice that Begin is given, of the law's own -/
structure GV (base : Nat) (A : Option Addr) (n cap : Nat) (xs : List Int) (SL SR : Nat → Prop) (w : World) : Prop where
  own : w.ownsRow base 3 1 (.slice A n cap) n (xs.map (Value.int .i64))
  l : Apart A SL
  r : Apart A SR
theorem GV.later {base : Nat} {A : Option Addr} {n cap : Nat} {xs : List Int} (h : GV base A n cap xs SL SR w) (hb : Below w.heap.size w w') : GV base A n cap xs SL SR w' := ⟨own_later h.own hb, h.l, h.r⟩
theorem begL_own {base : Nat} {A : Option Addr} {n c : Nat} {xs : List Int} (h : KP W bx cs p q po qo sl sr so SL SR SO TO w) (g : GV base A n c xs SL SR w) (hl : xs.length = n) (hn : n ≤ 50) (hc : cnt sl ≤ 100000) : Calls Tryd.prog 9 #[.pointer p, .slice A n c] w fun e w' => e = .returned (.int .i64 (begC xs sl)) ∧ ∃ S', KP W bx cs p q po qo (begT xs sl) sr so S' SR SO TO w' ∧ GV base A n c xs S' SR w' := by
  refine (begL A n c xs h (RI.of_row g.own) hl hn hc).mono ?_
  rintro e w' ⟨rfl, ⟨S', hG, hK⟩, hO⟩
  refine ⟨rfl, S', hK, own_onlyS g.own hO g.l, fun j hj hS => ?_, g.r⟩
  rcases hG j hS with h1 | h1
  · exact g.l j hj h1
  · have := (own_row g.own j hj).2
    omega
theorem begR_own {base : Nat} {A A' : Option Addr} {n c c' : Nat} {xs : List Int} (h : KP W bx cs p q po qo sl sr so SL SR SO TO w) (g : GV base A n c xs SL SR w) (hx : RI W A' (xs.map (Value.int .i64))) (hl : xs.length = n) (hn : n ≤ 50) (hc : cnt sr ≤ 100000) : Calls Tryd.prog 16 #[.pointer q, .slice A' n c'] w fun e w' => e = .returned (.int .i64 (begC xs sr)) ∧ ∃ S', KP W bx cs p q po qo sl (begT xs sr) so SL S' SO TO w' ∧ GV base A n c xs SL S' w' := by
  refine (begR A' n c' xs h (hx.later h.b) hl hn hc).mono ?_
  rintro e w' ⟨rfl, ⟨S', hG, hK⟩, hO⟩
  refine ⟨rfl, S', hK, own_onlyS g.own hO g.r, g.l, fun j hj hS => ?_⟩
  rcases hG j hS with h1 | h1
  · exact g.r j hj h1
  · have := (own_row g.own j hj).2
    omega
end
theorem clear_own {w : World} {B n cap : Nat} {A : Option Addr} {L : List Value} (h : w.ownsRow B 3 1 (.slice A n cap) n L) :
    ∃ w', (∀ ty, (Builtin.clear_ #[22] ty #[.slice A n cap]).run Tryd.prog w = .ok (.tuple #[]) w') ∧ w.grownBy w' (rowOf A) := by
  rcases own_shape h with ⟨rfl, rfl, rfl, _, rfl⟩ | ⟨g, rfl, _, h1, h2, h3, h4⟩
  · exact ⟨w, fun ty => by simp [Builtin.clear_, run_underlying Tryd.underlying22], g_refl _ _⟩
  · rcases Nat.eq_zero_or_pos n with rfl | hp
    · exact ⟨w, fun ty => by simp [Builtin.clear_, run_underlying Tryd.underlying22], g_refl _ _⟩
    · have hl := h.1
      refine ⟨w.setCells g 0 (List.replicate n (.int .i64 0)), fun ty => ?_, grown_setCells _ _ _ (g_refl _ _)⟩
      exact Lib.run_clear_slice w _ _ ty _ Tryd.underlying22 Tryd.zeroValue3 rfl rfl g 0 n cap hp
        (fun t ht => by
          rw [Nat.zero_add, World.ownsRow.cellAt h t (by omega), List.getElem?_eq_getElem (by omega)]; rfl)
        (fun t ht => World.ownsRow.frozenAt h _)
theorem KP.copied {W w w1 w2 : World} {bx : Nat} {cs : Array Value} {p q po qo p' q' : Option Addr} {st so : St} {SL SR SO TO SL' SR' : Nat → Prop} (h : KP W bx cs p q po qo st st so SL SR SO TO w)
    (hb1 : Below w.heap.size w w1) (hl : LO W w1 p' st SL') (h1 : ∀ k, SL' k → w.heap.size ≤ k) (hb2 : Below w1.heap.size w1 w2) (hr : RO W w2 q' st SR') (h2 : ∀ k, SR' k → w1.heap.size ≤ k) : KP W bx cs p' q' p q st st st SL' SR' SL SR w2 := by
  have hb := b_then hb1 hb2
  have hs := hb1.size
  refine ⟨hl.later hb2, hr, h.l.later hb, h.r.later hb, fun k hk hk' => ?_, fun k hk => ?_, h.x.below hb h.x.lt, fun k hk => ?_, b_then h.b hb⟩
  · have := (hl.in_ k hk).2; have := h2 k hk'; omega
  · have : w.heap.size ≤ k := by rcases hk with hk | hk; exact h1 k hk; exact Nat.le_trans hs (h2 k hk)
    exact ⟨fun ho => by have := (h.l.in_ k ho).2; omega, fun ho => by have := (h.r.in_ k ho).2; omega⟩
  · have : w.heap.size ≤ k := by rcases hk with hk | hk; exact h1 k hk; exact Nat.le_trans hs (h2 k hk)
    have := h.x.lt
    omega
theorem KP.start {W w : World} {cs : Array Value} {p q po qo : Option Addr} {st so : St} {SL SR SO TO : Nat → Prop} (hl : LO W w p st SL) (hr : RO W w q st SR) (ho : LO W w po so SO) (hO : RO W w qo so TO) (d1 : ∀ k, SL k → ¬ SR k) (d2 : ∀ k, SL k ∨ SR k → ¬ SO k ∧ ¬ TO k) (hB : Below W.heap.size W w) :
    KP W w.heap.size cs p q po qo st st so SL SR SO TO (w.alloc (.cells cs 42)) :=
  have ba := b_alloc (Below.refl w.heap.size w) (.cells cs 42)
  ⟨hl.later ba, hr.later ba, ho.later ba, hO.later ba, d1, d2, Blk.new w 42 cs, fun k hk e => by
    subst e
    rcases hk with hk | hk
    · exact absurd (hl.in_ _ hk).2 (Nat.lt_irrefl _)
    · exact absurd (hr.in_ _ hk).2 (Nat.lt_irrefl _), b_alloc hB _⟩
/-- a new slice of the law's own, beside the pairs -/
theorem GV.start {W w w' : World} {bx : Nat} {cs : Array Value} {p q po qo : Option Addr} {sl sr so : St} {SL SR SO TO : Nat → Prop} {A : Option Addr} {n c : Nat} {xs : List Int} (h : KP W bx cs p q po qo sl sr so SL SR SO TO w) (ho : w'.ownsRow w.heap.size 3 1 (.slice A n c) n (xs.map (Value.int .i64))) :
    GV w.heap.size A n c xs SL SR w' ∧ Apart A SO ∧ Apart A TO ∧ rowOf A ≠ some bx ∧ ∀ g, rowOf A = some g → W.heap.size ≤ g := by
  have hr := own_row ho
  refine ⟨⟨ho, fun g hg hS => ?_, fun g hg hS => ?_⟩, fun g hg hS => ?_, fun g hg hS => ?_, fun e => ?_, fun g hg => Nat.le_trans h.b.size (hr g hg).1⟩
  · have := (h.l.in_ g hS).2; have := (hr g hg).1; omega
  · have := (h.r.in_ g hS).2; have := (hr g hg).1; omega
  · have := (h.lo.in_ g hS).2; have := (hr g hg).1; omega
  · have := (h.ro.in_ g hS).2; have := (hr g hg).1; omega
  · have := (hr _ e).1; have := h.x.lt; omega
end Go.Proofs.YtaidekdmhmoaeaaDoor.Pr
