/-
  The chapter's examples hold: 'works' returns true and changes nothing that was there.
-/
import Derived.Test.YtjnbkpjpcbmhcaaMet
import Derived.Test.YtjnbkpjpcbmhcaaAlw
namespace Go.Proofs.Ytjnbkpjpcbmhcaa
open Go.RowKit

set_option maxHeartbeats 1600000 in
theorem works_any (w : World) : Calls Try.prog 12 #[] w fun e w' => e = .returned (.bool true) ∧ Below w.heap.size w w' := by
  go_enter Try.func12, Try.ntmps12
  go_wp2_with fail
  refine (New_any _).mono ?_
  rintro e w1 ⟨rfl, hM, hB, hz⟩
  go_wp2_with fail
  refine (Wrote_state w.heap.size 0 0 0 0 0 0 0 5 w1 hM (by decide) rfl).mono ?_
  rintro e w1 ⟨rfl, rfl⟩
  go_wp2_with fail
  refine (Begin_any w.heap.size 0 0 0 0 0 0 0 w1 hM (by decide) (by decide)).mono ?_
  rintro e w2 ⟨rfl, hM2, hg2⟩
  have hM2 : IsM w2 w.heap.size 1 0 0 0 0 0 0 := hM2
  have hB2 := b_g hB hg2 (Nat.le_refl _)
  clear hM hB hg2
  go_wp2_with fail
  refine (Wrote_ok w.heap.size 1 0 0 0 0 0 0 5 w2 hM2 (by decide) rfl (by decide) (by decide) (by decide) (by decide) (by decide)).mono ?_
  rintro e w3 ⟨rfl, hM3, hg3⟩
  have hM3 : IsM w3 w.heap.size 1 5 5 5 0 0 0 := hM3
  have hB3 := b_g hB2 hg3 (Nat.le_refl _)
  clear hM2 hB2 hg3
  go_wp2_with fail
  refine (Wrote_ok w.heap.size 1 5 5 5 0 0 0 7 w3 hM3 (by decide) rfl (by decide) (by decide) (by decide) (by decide) (by decide)).mono ?_
  rintro e w4 ⟨rfl, hM4, hg4⟩
  have hM4 : IsM w4 w.heap.size 1 12 12 12 0 0 0 := hM4
  have hB4 := b_g hB3 hg4 (Nat.le_refl _)
  clear hM3 hB3 hg4
  go_wp2_with fail
  refine (Read_ok w.heap.size 1 12 12 12 0 0 0 100 w4 hM4 (by decide) rfl (by decide) (by decide) (by decide) (by decide) (by decide)).mono ?_
  rintro e w5 ⟨rfl, hM5, hg5⟩
  have hM5 : IsM w5 w.heap.size 1 12 12 12 100 100 100 := hM5
  have hB5 := b_g hB4 hg5 (Nat.le_refl _)
  clear hM4 hB4 hg5
  go_wp2_with fail
  refine (Call_any w.heap.size 1 12 12 12 100 100 100 w5 hM5).mono ?_
  rintro e w6 ⟨rfl, rfl⟩
  go_wp2_with fail
  refine (Begin_any w.heap.size 1 12 12 12 100 100 100 w5.drew hM5.drew (by decide) (by decide)).mono ?_
  rintro e w6 ⟨rfl, hM6, hg6⟩
  have hM6 : IsM w6 w.heap.size 2 0 12 12 0 100 100 := hM6
  have hB6 := b_g hB5.drew hg6 (Nat.le_refl _)
  clear hM5 hB5 hg6
  go_wp2_with fail
  refine (Call_any w.heap.size 2 0 12 12 0 100 100 w6 hM6).mono ?_
  rintro e w7 ⟨rfl, rfl⟩
  go_wp2_with fail
  refine (Wrote_ok w.heap.size 2 0 12 12 0 100 100 3 w6.drew hM6.drew (by decide) rfl (by decide) (by decide) (by decide) (by decide) (by decide)).mono ?_
  rintro e w7 ⟨rfl, hM7, hg7⟩
  have hM7 : IsM w7 w.heap.size 2 3 12 15 0 100 100 := hM7
  have hB7 := b_g hB6.drew hg7 (Nat.le_refl _)
  clear hM6 hB6 hg7
  go_wp2_with fail
  refine (Most_any w.heap.size 2 3 12 15 0 100 100 w7 hM7).mono ?_
  rintro e w8 ⟨rfl, rfl⟩
  go_wp2_with fail
  refine (Total_any w.heap.size 2 3 12 15 0 100 100 w7.drew hM7.drew).mono ?_
  rintro e w8 ⟨rfl, rfl⟩
  go_wp2_with fail
  refine (Allowed_yes 8 300 2 200 8 40 1 w7.drew.drew (by unfold CfgOk; decide)).mono ?_
  rintro e w8 ⟨rfl, hb8⟩
  have hM8 : IsM w8 w.heap.size 2 3 12 15 0 100 100 := (hM7.drew.drew).below hb8 hM7.lt
  have hB8 := b_then hB7.drew.drew hb8
  clear hM7 hB7 hb8
  go_wp2_with fail
  refine (Calls_any w.heap.size 2 3 12 15 0 100 100 w8 hM8).mono ?_
  rintro e w9 ⟨rfl, rfl⟩
  go_wp2_with fail
  refine (Wrote_neg w.heap.size 2 3 12 15 0 100 100 (-1) w8 hM8 (by decide)).mono ?_
  rintro e w9 ⟨rfl, rfl⟩
  go_wp2_with fail
  refine (Read_ok w.heap.size 2 3 12 15 0 100 100 1099511627676 w8 hM8 (by decide) rfl (by decide) (by decide) (by decide) (by decide) (by decide)).mono ?_
  rintro e w9 ⟨rfl, hM9, hg9⟩
  have hM9 : IsM w9 w.heap.size 2 3 12 15 1099511627676 1099511627676 1099511627776 := hM9
  have hB9 := b_g hB8 hg9 (Nat.le_refl _)
  clear hM8 hB8 hg9
  go_wp2_with fail
  refine (Read_over w.heap.size 2 3 12 15 1099511627676 1099511627676 1099511627776 1 w9 hM9 (by decide) rfl (by decide) (by decide) (by decide)).mono ?_
  rintro e w10 ⟨rfl, rfl⟩
  go_wp2_with fail
  go_ret
  exact ⟨rfl, hB9⟩
end Go.Proofs.Ytjnbkpjpcbmhcaa
