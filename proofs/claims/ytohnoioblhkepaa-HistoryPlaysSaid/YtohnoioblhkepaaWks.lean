/-
  The examples of the chapter hold.
-/
import Derived.Test.YtohnoioblhkepaaCos
import Derived.Test.YtohnoioblhkepaaEq
namespace Go.Proofs.Ytohnoioblhkepaa
open Go.RowKit
open Hs
set_option linter.unusedVariables false
set_option linter.unusedSimpArgs false
theorem Hs.Is.kept {a w w' : World} {B b most m n cap : Nat} {A : Option Addr} {xs : List ByteArray} (h : Hs.Is w B b most m A n cap xs) (hW : Below a.heap.size a w) (hab : a.heap.size ≤ B) (hBb : B ≤ b) (hO : Only b (rowOf A) w w') : Below a.heap.size a w' :=
  Only.below hW hO hW.size (by omega) (fun j hj => by have := (own_row h.own j hj).1; omega)
theorem RI.two (w : World) (t : TypeId) (u v : Value) : RI (w.alloc (.cells #[u, v] t)) (some ⟨w.heap.size, 0, none⟩) [u, v] := by
  refine .inr ⟨w.heap.size, 0, rfl, by simp, fun i x hx => ?_⟩
  have h := (Blk.new w t #[u, v]).cell (0 + i)
  rw [h, Nat.zero_add]
  match i, hx with
  | 0, hx => exact hx
  | 1, hx => exact hx
  | i + 2, hx => simp at hx
set_option maxHeartbeats 3200000 in
set_option maxRecDepth 100000 in
theorem works_true (w : World) : Calls Try.prog 16 #[] w fun e w' => e = .returned (.bool true) ∧ Below w.heap.size w w' := by
  have hN : ∀ w : World, Calls Try.prog 24 #[.int .i64 3] w fun e w' => ∃ b : Nat, e = .returned (.tuple #[.pointer (some ⟨b, 0, none⟩), .int .i64 0]) ∧ Is w' b b 3 0 none 0 0 [] ∧ w.heap.size ≤ b ∧ Below w.heap.size w w' := fun w => New_ok 3 w (by decide)
  go_enter Try.func16, Try.ntmps16
  go_wp2_with fail
  refine (hN _).mono ?_
  rintro e w1 ⟨b, rfl, h1, hz, hB1⟩
  go_wp2_with fail
  refine (Add_ok b b 3 0 0 0 none [] w1 h1 ⟨#[97]⟩ (by decide) (by decide) (Nat.le_of_lt h1.lt)).mono ?_
  rintro e w2 ⟨A2, cap2, rfl, h2, hO2, hr2⟩
  clear hr2
  have h2 : Is w2 b b 3 0 A2 1 cap2 [⟨#[97]⟩] := h2
  have hB2 := h1.kept hB1 hz (Nat.le_refl _) hO2
  clear h1 hB1 hO2
  go_wp2_with fail
  refine (Mark_any b b 3 0 1 cap2 A2 [⟨#[97]⟩] w2 h2).mono ?_
  rintro e w3 ⟨rfl, h3, hO3⟩
  have h3 : Is w3 b b 3 1 A2 1 cap2 [⟨#[97]⟩] := h3
  have hB3 := h2.kept hB2 hz (Nat.le_refl _) hO3
  clear h2 hB2 hO3
  go_wp2_with fail
  refine (Add_ok b b 3 1 1 cap2 A2 [⟨#[97]⟩] w3 h3 ⟨#[98]⟩ (by decide) (by decide) (Nat.le_of_lt h3.lt)).mono ?_
  rintro e w4 ⟨A4, cap4, rfl, h4, hO4, hr4⟩
  clear hr4
  have h4 : Is w4 b b 3 1 A4 2 cap4 [⟨#[97]⟩, ⟨#[98]⟩] := h4
  have hB4 := h3.kept hB3 hz (Nat.le_refl _) hO4
  clear h3 hB3 hO4
  go_wp2_with fail
  refine (Add_ok b b 3 1 2 cap4 A4 [⟨#[97]⟩, ⟨#[98]⟩] w4 h4 ⟨#[99]⟩ (by decide) (by decide) (Nat.le_of_lt h4.lt)).mono ?_
  rintro e w5 ⟨A5, cap5, rfl, h5, hO5, hr5⟩
  clear hr5
  have h5 : Is w5 b b 3 1 A5 3 cap5 [⟨#[97]⟩, ⟨#[98]⟩, ⟨#[99]⟩] := h5
  have hB5 := h4.kept hB4 hz (Nat.le_refl _) hO5
  clear h4 hB4 hO5
  go_wp2_with fail
  refine (Add_full b b 3 1 3 cap5 A5 [⟨#[97]⟩, ⟨#[98]⟩, ⟨#[99]⟩] w5 h5 ⟨#[100]⟩ (by decide)).mono ?_
  rintro e w6 ⟨rfl, hb6⟩
  have h6 := h5.later hb6
  have hB6 := b_then hB5 hb6
  clear h5 hB5 hb6
  go_wp2_with fail
  refine (Marked_any b b 3 1 3 cap5 A5 [⟨#[97]⟩, ⟨#[98]⟩, ⟨#[99]⟩] w6 h6).mono ?_
  rintro e w' ⟨rfl, rfl⟩
  go_wp2_with fail
  refine (Len_any b b 3 1 3 cap5 A5 [⟨#[97]⟩, ⟨#[98]⟩, ⟨#[99]⟩] w6 h6).mono ?_
  rintro e w' ⟨rfl, rfl⟩
  go_wp2_with fail
  refine (since_any b b 3 1 A5 3 cap5 [⟨#[97]⟩, ⟨#[98]⟩, ⟨#[99]⟩] w6 h6 (by decide) (by decide)).mono ?_
  rintro e w7 ⟨⟨As, caps, rfl, os⟩, hb7⟩
  have h7 := h6.later hb7
  have hB7 := b_then hB6 hb7
  clear h6 hB6 hb7
  have r1 := (RI.of_row os).later (b_alloc (Below.refl _ _) (.cells #[.string ⟨#[98]⟩, .string ⟨#[99]⟩] 9))
  have r2 := RI.two w7 9 (.string ⟨#[98]⟩) (.string ⟨#[99]⟩)
  have hq := eqs_any As (some ⟨w7.heap.size, 0, none⟩) 2 caps 2 [⟨#[98]⟩, ⟨#[99]⟩] _ rfl r1 r2 (by unfold maxLen; omega)
  have hA := h7.alloc (.cells #[.string ⟨#[98]⟩, .string ⟨#[99]⟩] 9)
  have hBA := b_alloc hB7 (.cells #[.string ⟨#[98]⟩, .string ⟨#[99]⟩] 9)
  clear h7 hB7 os r1 r2
  go_wp2_with fail
  refine hq.mono ?_
  rintro e w' ⟨rfl, q, rfl⟩
  have h8 := hA.drewN q
  have hB8 := below_drewN hBA q
  generalize (World.drewN _ q) = w8 at h8 hB8 ⊢
  clear hq hA hBA
  go_wp2_with fail
  refine (Cut_err b b 3 1 3 cap5 A5 [⟨#[97]⟩, ⟨#[98]⟩, ⟨#[99]⟩] w8 h8 0 (by decide)).mono ?_
  rintro e w' ⟨rfl, rfl⟩
  go_wp2_with fail
  refine (Cut_err b b 3 1 3 cap5 A5 [⟨#[97]⟩, ⟨#[98]⟩, ⟨#[99]⟩] w8 h8 4 (by decide)).mono ?_
  rintro e w' ⟨rfl, rfl⟩
  go_wp2_with fail
  refine (Cut_ok b b 3 1 3 cap5 A5 [⟨#[97]⟩, ⟨#[98]⟩, ⟨#[99]⟩] w8 h8 2 (by decide) (by decide)).mono ?_
  rintro e w9 ⟨rfl, h9, hO9⟩
  have h9 : Is w9 b b 3 1 A5 2 cap5 [⟨#[97]⟩, ⟨#[98]⟩] := h9
  have hB9 := h8.kept hB8 hz (Nat.le_refl _) hO9
  clear h8 hB8 hO9
  go_wp2_with fail
  refine (Len_any b b 3 1 2 cap5 A5 [⟨#[97]⟩, ⟨#[98]⟩] w9 h9).mono ?_
  rintro e w' ⟨rfl, rfl⟩
  go_wp2_with fail
  refine (Mark_any b b 3 1 2 cap5 A5 [⟨#[97]⟩, ⟨#[98]⟩] w9 h9).mono ?_
  rintro e w10 ⟨rfl, h10, hO10⟩
  have h10 : Is w10 b b 3 2 A5 2 cap5 [⟨#[97]⟩, ⟨#[98]⟩] := h10
  have hB10 := h9.kept hB9 hz (Nat.le_refl _) hO10
  clear h9 hB9 hO10
  go_wp2_with fail
  refine (At_ok b b 3 2 2 cap5 A5 [⟨#[97]⟩, ⟨#[98]⟩] w10 h10 1 ⟨#[98]⟩ rfl).mono ?_
  rintro e w' ⟨rfl, rfl⟩
  go_wp2_with fail
  refine (At_err b b 3 2 2 cap5 A5 [⟨#[97]⟩, ⟨#[98]⟩] w10 h10 2 (by decide)).mono ?_
  rintro e w' ⟨rfl, rfl⟩
  go_wp2_with fail
  refine (Cut_err b b 3 2 2 cap5 A5 [⟨#[97]⟩, ⟨#[98]⟩] w10 h10 1 (by decide)).mono ?_
  rintro e w' ⟨rfl, rfl⟩
  go_wp2_with fail
  refine (Clear_any b b 3 2 2 cap5 A5 [⟨#[97]⟩, ⟨#[98]⟩] w10 h10).mono ?_
  rintro e w11 ⟨rfl, h11, hO11⟩
  have hB11 := h10.kept hB10 hz (Nat.le_refl _) hO11
  clear h10 hB10 hO11
  go_wp2_with fail
  refine (Len_any b b 3 0 0 0 none [] w11 h11).mono ?_
  rintro e w' ⟨rfl, rfl⟩
  go_wp2_with fail
  refine (Marked_any b b 3 0 0 0 none [] w11 h11).mono ?_
  rintro e w' ⟨rfl, rfl⟩
  go_wp2_with fail
  refine (Add_ok b b 3 0 0 0 none [] w11 h11 ⟨#[120]⟩ (by decide) (by decide) (Nat.le_of_lt h11.lt)).mono ?_
  rintro e w12 ⟨A12, cap12, rfl, h12, hO12, hr12⟩
  clear hr12
  have h12 : Is w12 b b 3 0 A12 1 cap12 [⟨#[120]⟩] := h12
  have hB12 := h11.kept hB11 hz (Nat.le_refl _) hO12
  clear h11 hB11 hO12
  go_wp2_with fail
  go_ret
  exact ⟨rfl, hB12⟩
end Go.Proofs.Ytohnoioblhkepaa
