/-
  Bytes that read as a list: parts of them.
-/
import Derived.Test.YtiobnhdcapfhgaaDed
import Derived.Test.YtiobnhdcapfhgaaCrc
import Derived.Test.YtiobnhdcapfhgaaRck
import Derived.Test.YtiobnhdcapfhgaaRes
namespace Go.Proofs.Ytiobnhdcapfhgaa
open Go.RowKit
set_option linter.unusedVariables false
set_option linter.unusedSimpArgs false

theorem Byts.of_rb {w : World} {A : Option Addr} {n cap : Nat} {M : List Int} (h : RB w A M) (hn : M.length = n) (hB : BB M) (hl : n ≤ cap) (hc : cap ≤ maxLen) : Byts w A n cap (fun i => M.getD i 0) := by
  refine ⟨hl, hc, fun i hi => hB.getD i (by omega), fun hp => ?_⟩
  rcases h with ⟨_, hM⟩ | ⟨b, off, rfl, hcell⟩
  · rw [hM] at hn; simp at hn; omega
  · exact ⟨b, off, rfl, block_lt_of_cell (hcell 0 (by omega)), fun i hi => hcell i (by omega)⟩
theorem RB.sub {w : World} {b off : Nat} {M : List Int} (h : RB w (some ⟨b, off, none⟩) M) (i j : Nat) : RB w (some ⟨b, off + i, none⟩) ((M.take j).drop i) := by
  rcases h with ⟨h, _⟩ | ⟨b', off', hq, hc⟩
  · cases h
  · injection hq with hq
    injection hq with hq1 hq2
    subst hq1 hq2
    refine .inr ⟨b, off + i, rfl, fun k hk => ?_⟩
    rw [List.length_drop, List.length_take] at hk
    rw [Nat.add_assoc, hc (i + k) (by omega), List.getD_eq_getElem?_getD, List.getD_eq_getElem?_getD, List.getElem?_drop, List.getElem?_take, if_pos (by omega)]
theorem RB.some_ {w : World} {A : Option Addr} {M : List Int} (h : RB w A M) (hp : 0 < M.length) : ∃ b off : Nat, A = some ⟨b, off, none⟩ ∧ b < w.heap.size := by
  rcases h with ⟨_, hM⟩ | ⟨b, off, rfl, hcell⟩
  · rw [hM] at hp; simp at hp
  · exact ⟨b, off, rfl, block_lt_of_cell (hcell 0 hp)⟩
theorem RB.empty (w : World) (b off : Nat) : RB w (some ⟨b, off, none⟩) [] := .inr ⟨b, off, rfl, fun i hi => by simp at hi⟩
end Go.Proofs.Ytiobnhdcapfhgaa
