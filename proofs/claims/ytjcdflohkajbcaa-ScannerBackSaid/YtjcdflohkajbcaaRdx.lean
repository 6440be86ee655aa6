/-
  record.Decode computes decF.
-/
import Derived.Test.YtjcdflohkajbcaaRdc
namespace Go.Proofs.Ytjcdflohkajbcaa
open Go.RowKit
set_option linter.unusedVariables false
theorem decode_any (A : Option Addr) (n cap : Nat) (M : List Int) (w : World) (h : RB w A M) (hn : M.length = n) (hB : BB M) (hl : n ≤ cap) (hc : cap ≤ maxLen) :
    Calls Try.prog 33 #[.slice A n cap] w fun e w' => e = .returned (.tuple #[(decF M).1.v, .int .i64 (decF M).2.1, .int .i64 (decF M).2.2]) ∧ Below w.heap.size w w' := by
  unfold decF
  simp only []
  split
  · exact rd_torn0 A n cap w (by omega)
  rename_i h16
  split
  · rename_i hd
    by_cases hd1 : DOk (fun i => M.getD i 0)
    · have h3 : M.getD 4 0 = 3 := Decidable.byContradiction fun h3 => hd ⟨hd1, h3⟩
      exact rd_foot A n cap M w h hn hB hl hc (by omega) hd1 h3
    · exact rd_form A n cap M w h hn hB hl hc (by omega) hd1
  rename_i hd
  obtain ⟨hd1, hd3⟩ := Decidable.not_not.1 hd
  have hb := hok_bounds (kind := M.getD 4 0) (key := M.getD 5 0) hd1
  obtain ⟨Y, hY⟩ : ∃ Y : Nat, M.getD 5 0 = (Y : Int) := ⟨(M.getD 5 0).toNat, by omega⟩
  obtain ⟨V, hV⟩ : ∃ V : Nat, dV (fun i => M.getD i 0) = (V : Int) := ⟨(dV (fun i => M.getD i 0)).toNat, by omega⟩
  have H : Head M (M.getD 4 0) (dQ fun i => M.getD i 0) (dS fun i => M.getD i 0) Y V := ⟨by omega, hd1, rfl, by rw [beq_eq_false_iff_ne]; exact hd3, hY, hV, rfl, rfl⟩
  rw [hY, hV, show (16 + (Y : Int) + (V : Int)).toNat = 16 + Y + V by omega, Int.toNat_natCast]
  split
  · exact rd_torn1 A n cap M _ _ _ Y V w H h hn hB hl hc (by omega)
  rename_i hs
  split
  · rename_i hcs
    exact rd_sum A n cap M _ _ _ Y V w H h hn hB hl hc (by omega) (by rw [beq_eq_false_iff_ne]; exact hcs)
  rename_i hcs
  have hcs' : (csI ((M.take (16 + Y + V)).drop 4) == dS fun i => M.getD i 0) = true := by rw [beq_iff_eq]; exact Decidable.not_not.1 hcs
  split
  · rename_i hk
    exact rd_key A n cap M _ _ _ Y V w H h hn hB hl hc (by omega) hcs' hk
  · rename_i hk
    exact rd_yes A n cap M _ _ _ Y V w H h hn hB hl hc (by omega) hcs' (by simpa using hk)
end Go.Proofs.Ytjcdflohkajbcaa
