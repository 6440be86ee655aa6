/-
  Bytes that read as a list stay when another block grows.
-/
import Derived.Test.YtookgehccmcgcaaDrc
namespace Go.Proofs.Ytookgehccmcgcaa
open Go.RowKit
set_option linter.unusedVariables false
theorem RB.grown' {w w' : World} {b off : Nat} {M : List Int} {row : Option Nat} (h : RB w (some ⟨b, off, none⟩) M) (hg : w.grownBy w' row) (hb : b < w.heap.size) (hne : some b ≠ row) : RB w' (some ⟨b, off, none⟩) M := by
  rcases h with ⟨h, _⟩ | ⟨b', off', hq, hc⟩
  · cases h
  · injection hq with hq
    injection hq with hq1 hq2
    subst hq1 hq2
    exact .inr ⟨b, off, rfl, fun i hi => (World.cell?_of_block (hg.block b hb hne)).trans (hc i hi)⟩
theorem RB.grown {w w' : World} {b off k : Nat} {M : List Int} (h : RB w (some ⟨b, off, none⟩) M) (hg : w.grownBy w' (some k)) (hb : b < w.heap.size) (hne : b ≠ k) : RB w' (some ⟨b, off, none⟩) M :=
  h.grown' hg hb (fun e => by injection e with e; exact hne e)
theorem BS.reads {w : World} {a : Option Addr} {n cap : Nat} {M : List Int} (h : BS w a n cap M) : Reads w w.heap.size 1 a n (M.map (Value.int .u8)) := by
  rcases Nat.eq_zero_or_pos n with h0 | hp
  · subst h0
    have : M = [] := List.eq_nil_of_length_eq_zero h.1
    subst this
    exact ⟨by simp, fun h => absurd h (by omega)⟩
  · have h1 := h.2.1 hp
    obtain ⟨b, off, rfl, hb⟩ := h1.some_ (by rw [h.1]; exact hp)
    have h2 := Reads.of_rb h1 hb
    rwa [h.1] at h2
end Go.Proofs.Ytookgehccmcgcaa
