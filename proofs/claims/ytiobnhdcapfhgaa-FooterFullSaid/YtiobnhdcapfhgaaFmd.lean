/-
  A valid footer from numbers.
-/
import Derived.Test.YtiobnhdcapfhgaaFbt
import Derived.Test.YtiobnhdcapfhgaaFwk
namespace Go.Proofs.Ytiobnhdcapfhgaa
open Go.RowKit
set_option linter.unusedVariables false
set_option linter.unusedSimpArgs false
theorem made_any (ct la : Int) (w : World) (h0 : 0 ≤ ct) (h1 : ct ≤ 65535) : Calls Try.prog 20 #[.int .u16 ct, .int .i64 la] w fun e w' => e = .returned (.agg #[.int .i64 ct, .int .i64 (madeL ct la)]) ∧ Below w.heap.size w w' := by
  obtain ⟨L, hL⟩ : ∃ L, L = madeL ct la := ⟨_, rfl⟩
  rw [← hL]
  unfold madeL at hL
  by_cases hc : ct = 0
  · rw [if_pos hc] at hL
    subst hc hL
    go_enter Try.func20, Try.ntmps20
    go_wp2
    refine bodyPost_ret (v := .agg #[.int .i64 0, .int .i64 0]) (by simp [results, Try.results20, go_sem]) rfl ⟨rfl, ?_⟩
    repeat first | exact Below.refl _ _ | apply Below.drew | apply b_set0 | apply b_alloc
  · rw [if_neg hc] at hL
    have b1 : (ct == 0) = false := by rw [beq_eq_false_iff_ne]; exact hc
    have u0 : IntKind.i64.wrap ct = ct := by rw [IntKind.wrap_i64]; omega
    obtain ⟨U, hU⟩ : ∃ U, U = la % 18446744073709551616 := ⟨_, rfl⟩
    have u1 : IntKind.u64.wrap la = U := by rw [IntKind.wrap_u64]; omega
    obtain ⟨R, hR⟩ : ∃ R, R = U % 1099511627776 := ⟨_, rfl⟩
    have u2 : U % 1099511627776 = R := hR.symm
    have u3 : U.tmod 1099511627776 = R := by rw [Int.tmod_eq_emod_of_nonneg (by omega), hR]
    have u4 : IntKind.i64.wrap R = R := by rw [IntKind.wrap_i64]; omega
    have u5 : IntKind.u64.wrap R = R := by rw [IntKind.wrap_u64]; omega
    have u6 : IntKind.i64.wrap (1 + R) = 1 + R := by rw [IntKind.wrap_i64]; omega
    obtain rfl : L = 1 + R := by omega
    clear hL hU hR hc
    go_enter Try.func20, Try.ntmps20
    go_wp2
    refine bodyPost_ret (v := .agg #[.int .i64 ct, .int .i64 (1 + R)]) (by simp [results, Try.results20, go_sem]) rfl ⟨rfl, ?_⟩
    repeat first | exact Below.refl _ _ | apply Below.drew | apply b_set0 | apply b_alloc
theorem fstored {w : World} {B g cap : Nat} {L : List Int} {n : Nat} (h : IsB w B (.slice (some ⟨g, 0, none⟩) n cap) L) (hn : L.length = n) (j : Nat) (x : Int) : IsB (w.setCell ⟨g, j, none⟩ (.int .u8 x)) B (.slice (some ⟨g, 0, none⟩) n cap) (L.set j x) := by
  subst hn
  have h1 := (World.ownsRow.stored h j (.int .u8 x)).1
  unfold IsB
  rw [List.length_set, List.map_set]
  exact h1
theorem ffrozen {w : World} {B g cap : Nat} {L : List Int} {n : Nat} (h : IsB w B (.slice (some ⟨g, 0, none⟩) n cap) L) (hn : L.length = n) (j : Nat) : w.frozen? ⟨g, j, none⟩ = false := by
  subst hn
  exact World.ownsRow.frozenAt h j
end Go.Proofs.Ytiobnhdcapfhgaa
