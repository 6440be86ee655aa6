/-
  MeterLimit: for every number of bytes, however many more, and each kind the law returns true and changes nothing. No condition.
-/
import Derived.Test.YtjnbkpjpcbmhcaaOpen
import Derived.Test.YtjnbkpjpcbmhcaaWks
namespace Go.Proofs.Ytjnbkpjpcbmhcaa.meterLimit
open Go.ChangeShapes Go.WideShapes Go.ChangeAt Go.RowKit
open Go.ChangeMaps (open_string shut_string)
set_option linter.unusedVariables false

set_option maxHeartbeats 1600000 in
theorem walk {H : Type} {enc : TypeId × Value → H} (W : World) (base : Nat) {v0 v1 v2 : Value} {d0 d1 d2 : DataW H} {p0 p1 p2 : List MemPlace} (o0 : Value.okWide Try.prog W .any base 44 v0) (h0 : DataW.Trod enc Try.prog W 0 (fun _ => true) true 44 v0 d0 p0) (o1 : Value.okWide Try.prog W .any base 45 v1) (h1 : DataW.Trod enc Try.prog W 0 (fun _ => true) true 45 v1 d1 p1) (o2 : Value.okWide Try.prog W .any base 4 v2) (h2 : DataW.Trod enc Try.prog W 0 (fun _ => true) true 4 v2 d2 p2) :
    Calls Try.prog 5 #[v0, v1, v2] W fun e W' => e = .returned (.bool true) ∧ Below W.heap.size W W' := by
  obtain ⟨n, rfl, rfl, rfl, wn⟩ := open_int Try.underlying44 o0 h0
  obtain ⟨more, rfl, rfl, rfl, wm⟩ := open_int Try.underlying45 o1 h1
  obtain ⟨read, rfl, rfl, rfl⟩ := open_bool Try.underlying4 o2 h2
  have hn := (bounds_u64 wn).1
  have hm := bounds_u32 wm
  have hm1 := hm.1
  have hm2 := hm.2
  obtain ⟨f, hf⟩ : ∃ f, f = n % 1099511627777 := ⟨_, rfl⟩
  have hf1 : 0 ≤ f := by omega
  have hf2 : f ≤ 1099511627776 := by omega
  have HF := Lib.hid hf
  clear h0 o0 h1 o1 h2 o2 wn wm hm hf
  cases read
  · skip
    go_enter Try.func5, Try.ntmps5
    go_wp2_with fail
    refine (New_any _).mono ?_
    rintro e w1 ⟨rfl, hM1, hB1, hz⟩
    go_wp2_with fail
    refine (Begin_any W.heap.size 0 0 0 0 0 0 0 _ hM1 (by decide) (by decide)).mono ?_
    rintro e w2 ⟨rfl, hM2, hg2⟩
    have hM2 : IsM w2 W.heap.size 1 0 0 0 0 0 0 := hM2
    have hB2 := b_g hB1 hg2 (Nat.le_refl _)
    clear hM1 hB1 hg2
    go_wp2_with fail
    rw [← HF.out]
    refine (Wrote_ok W.heap.size 1 0 0 0 0 0 0 f _ hM2 (by omega) rfl (by decide) (by decide) (by decide) (by decide) (by omega)).mono ?_
    rintro e w3 ⟨rfl, hM3, hg3⟩
    have hB3 := b_g hB2 hg3 (Nat.le_refl _)
    rw [Int.zero_add, show max 0 f = f from by omega] at hM3
    clear hM2 hB2 hg3
    go_wp2_with fail
    refine (Begin_any W.heap.size 1 f f f 0 0 0 _ hM3 (by decide) (by decide)).mono ?_
    rintro e w4 ⟨rfl, hM4, hg4⟩
    have hM4 : IsM w4 W.heap.size 2 0 f f 0 0 0 := hM4
    have hB4 := b_g hB3 hg4 (Nat.le_refl _)
    clear hM3 hB3 hg4
    go_wp2_with fail
    refine (Wrote_over W.heap.size 2 0 f f 0 0 0 _ _ hM4 (by omega) rfl (by omega) (by omega) (by omega)).mono ?_
    rintro e wx ⟨rfl, rfl⟩
    go_wp2_with fail
    refine (Wrote_over W.heap.size 2 0 f f 0 0 0 _ _ hM4 (by omega) rfl (by omega) (by omega) (by omega)).mono ?_
    rintro e wx ⟨rfl, rfl⟩
    go_wp2_with fail
    refine (Wrote_ok W.heap.size 2 0 f f 0 0 0 (1099511627776 - f) _ hM4 (by omega) rfl (by omega) (by omega) (by omega) (by omega) (by omega)).mono ?_
    rintro e w5 ⟨rfl, hM5, hg5⟩
    have hB5 := b_g hB4 hg5 (Nat.le_refl _)
    rw [show f + (1099511627776 - f) = 1099511627776 from by omega, Int.zero_add] at hM5
    obtain ⟨mx, hmx⟩ : ∃ mx, mx = max f (1099511627776 - f) := ⟨_, rfl⟩
    rw [← hmx] at hM5
    have hx0 : 0 ≤ mx := by omega
    have hx1 : mx ≤ 1099511627776 := by omega
    have hx2 : 1099511627776 - f ≤ mx := by omega
    clear hM4 hB4 hg5 hmx
    go_wp2_with fail
    refine (Wrote_ok W.heap.size 2 (1099511627776 - f) mx 1099511627776 0 0 0 0 _ hM5 (by omega) rfl (by omega) (by omega) (by omega) (by omega) (by omega)).mono ?_
    rintro e w6 ⟨rfl, hM6, hg6⟩
    have hB6 := b_g hB5 hg6 (Nat.le_refl _)
    rw [Int.add_zero, Int.add_zero, show max mx (1099511627776 - f) = mx from by omega] at hM6
    clear hM5 hB5 hg6
    go_wp2_with fail
    refine (Wrote_over W.heap.size 2 (1099511627776 - f) mx 1099511627776 0 0 0 _ _ hM6 (by omega) rfl (by omega) (by omega) (by omega)).mono ?_
    rintro e wx ⟨rfl, rfl⟩
    go_wp2_with fail
    refine (Wrote_neg W.heap.size 2 (1099511627776 - f) mx 1099511627776 0 0 0 _ _ hM6 (by omega)).mono ?_
    rintro e wx ⟨rfl, rfl⟩
    go_wp2_with fail
    refine (Read_ok W.heap.size 2 (1099511627776 - f) mx 1099511627776 0 0 0 1 _ hM6 (by omega) rfl (by omega) (by omega) (by omega) (by omega) (by omega)).mono ?_
    rintro e w7 ⟨rfl, hM7, hg7⟩
    have hM7 : IsM w7 W.heap.size 2 (1099511627776 - f) mx 1099511627776 1 1 1 := hM7
    have hB7 := b_g hB6 hg7 (Nat.le_refl _)
    clear hM6 hB6 hg7
    go_wp2_with fail
    refine (Total_any W.heap.size 2 (1099511627776 - f) mx 1099511627776 1 1 1 _ hM7).mono ?_
    rintro e wx ⟨rfl, rfl⟩
    go_wp2_with fail
    refine (Call_any W.heap.size 2 (1099511627776 - f) mx 1099511627776 1 1 1 _ hM7.drew).mono ?_
    rintro e wx ⟨rfl, rfl⟩
    go_wp2_with fail
    refine (Calls_any W.heap.size 2 (1099511627776 - f) mx 1099511627776 1 1 1 _ hM7.drew.drew).mono ?_
    rintro e wx ⟨rfl, rfl⟩
    go_wp2_with fail
    refine (works_any _).mono ?_
    rintro e w8 ⟨rfl, hb8⟩
    go_wp2_with fail
    go_ret
    exact ⟨rfl, b_then hB7.drew.drew hb8⟩
  · skip
    go_enter Try.func5, Try.ntmps5
    go_wp2_with fail
    refine (New_any _).mono ?_
    rintro e w1 ⟨rfl, hM1, hB1, hz⟩
    go_wp2_with fail
    refine (Begin_any W.heap.size 0 0 0 0 0 0 0 _ hM1 (by decide) (by decide)).mono ?_
    rintro e w2 ⟨rfl, hM2, hg2⟩
    have hM2 : IsM w2 W.heap.size 1 0 0 0 0 0 0 := hM2
    have hB2 := b_g hB1 hg2 (Nat.le_refl _)
    clear hM1 hB1 hg2
    go_wp2_with fail
    rw [← HF.out]
    refine (Read_ok W.heap.size 1 0 0 0 0 0 0 f _ hM2 (by omega) rfl (by decide) (by decide) (by decide) (by decide) (by omega)).mono ?_
    rintro e w3 ⟨rfl, hM3, hg3⟩
    have hB3 := b_g hB2 hg3 (Nat.le_refl _)
    rw [Int.zero_add, show max 0 f = f from by omega] at hM3
    clear hM2 hB2 hg3
    go_wp2_with fail
    refine (Begin_any W.heap.size 1 0 0 0 f f f _ hM3 (by decide) (by decide)).mono ?_
    rintro e w4 ⟨rfl, hM4, hg4⟩
    have hM4 : IsM w4 W.heap.size 2 0 0 0 0 f f := hM4
    have hB4 := b_g hB3 hg4 (Nat.le_refl _)
    clear hM3 hB3 hg4
    go_wp2_with fail
    refine (Read_over W.heap.size 2 0 0 0 0 f f _ _ hM4 (by omega) rfl (by omega) (by omega) (by omega)).mono ?_
    rintro e wx ⟨rfl, rfl⟩
    go_wp2_with fail
    refine (Read_over W.heap.size 2 0 0 0 0 f f _ _ hM4 (by omega) rfl (by omega) (by omega) (by omega)).mono ?_
    rintro e wx ⟨rfl, rfl⟩
    go_wp2_with fail
    refine (Read_ok W.heap.size 2 0 0 0 0 f f (1099511627776 - f) _ hM4 (by omega) rfl (by omega) (by omega) (by omega) (by omega) (by omega)).mono ?_
    rintro e w5 ⟨rfl, hM5, hg5⟩
    have hB5 := b_g hB4 hg5 (Nat.le_refl _)
    rw [show f + (1099511627776 - f) = 1099511627776 from by omega, Int.zero_add] at hM5
    obtain ⟨mx, hmx⟩ : ∃ mx, mx = max f (1099511627776 - f) := ⟨_, rfl⟩
    rw [← hmx] at hM5
    have hx0 : 0 ≤ mx := by omega
    have hx1 : mx ≤ 1099511627776 := by omega
    have hx2 : 1099511627776 - f ≤ mx := by omega
    clear hM4 hB4 hg5 hmx
    go_wp2_with fail
    refine (Read_ok W.heap.size 2 0 0 0 (1099511627776 - f) mx 1099511627776 0 _ hM5 (by omega) rfl (by omega) (by omega) (by omega) (by omega) (by omega)).mono ?_
    rintro e w6 ⟨rfl, hM6, hg6⟩
    have hB6 := b_g hB5 hg6 (Nat.le_refl _)
    rw [Int.add_zero, Int.add_zero, show max mx (1099511627776 - f) = mx from by omega] at hM6
    clear hM5 hB5 hg6
    go_wp2_with fail
    refine (Read_over W.heap.size 2 0 0 0 (1099511627776 - f) mx 1099511627776 _ _ hM6 (by omega) rfl (by omega) (by omega) (by omega)).mono ?_
    rintro e wx ⟨rfl, rfl⟩
    go_wp2_with fail
    refine (Read_neg W.heap.size 2 0 0 0 (1099511627776 - f) mx 1099511627776 _ _ hM6 (by omega)).mono ?_
    rintro e wx ⟨rfl, rfl⟩
    go_wp2_with fail
    refine (Wrote_ok W.heap.size 2 0 0 0 (1099511627776 - f) mx 1099511627776 1 _ hM6 (by omega) rfl (by omega) (by omega) (by omega) (by omega) (by omega)).mono ?_
    rintro e w7 ⟨rfl, hM7, hg7⟩
    have hM7 : IsM w7 W.heap.size 2 1 1 1 (1099511627776 - f) mx 1099511627776 := hM7
    have hB7 := b_g hB6 hg7 (Nat.le_refl _)
    clear hM6 hB6 hg7
    go_wp2_with fail
    refine (Total_any W.heap.size 2 1 1 1 (1099511627776 - f) mx 1099511627776 _ hM7).mono ?_
    rintro e wx ⟨rfl, rfl⟩
    go_wp2_with fail
    refine (Call_any W.heap.size 2 1 1 1 (1099511627776 - f) mx 1099511627776 _ hM7.drew).mono ?_
    rintro e wx ⟨rfl, rfl⟩
    go_wp2_with fail
    refine (Calls_any W.heap.size 2 1 1 1 (1099511627776 - f) mx 1099511627776 _ hM7.drew.drew).mono ?_
    rintro e wx ⟨rfl, rfl⟩
    go_wp2_with fail
    refine (works_any _).mono ?_
    rintro e w8 ⟨rfl, hb8⟩
    go_wp2_with fail
    go_ret
    exact ⟨rfl, b_then hB7.drew.drew hb8⟩

set_option maxRecDepth 100000 in
theorem lifted (os : Os) (started : os.Started) (H : Type) (enc : TypeId × Value → H) :
    ReturnsInHanded {} Try.checked os 5 .any (Rows.meterLimitSpec.pre6 enc Try.prog Try.f5 Rows.meterLimitRow.domain false) (Rows.meterLimitSpec.post enc Try.prog Try.f5 false true false false) := by
  refine returnsInHanded_of_change (C := Try.checked) own started (by kernel_rfl) Try.func5
    (ChangeSpec.witness6 (enc := enc) (C := Try.checked) false ⟨#[], #[.int .u64 0, .int .u32 0, .bool false], []⟩ 8 (by kernel_rfl) (by kernel_rfl) (by kernel_rfl) (by kernel_rfl)) ?_
  intro W base args ds gs before hval0 hW hcnd _
  have hval : ∀ (j : Nat) t v, Try.f5.params[j]? = some t → args[j]? = some v → Value.okWide Try.prog W .any base t v := hval0
  have hW' := hW
  obtain ⟨p, q, hA0, hV, rfl, hfz, hnd⟩ := hW
  have hA : DataW.TrodAll enc Try.prog W 0 (fun _ => true) true Try.f5.params.toList args.toList ds p := hA0
  rw [Try.params5] at hA hval
  obtain ⟨v0, vs0, d0, ds0, p0, q0, hargs, rfl, rfl, h0, r0⟩ := trodAll_cons hA
  obtain ⟨v1, vs1, d1, ds1, p1, q1, rfl, rfl, rfl, h1, r1⟩ := trodAll_cons r0
  obtain ⟨v2, vs2, d2, ds2, p2, q2, rfl, rfl, rfl, h2, r2⟩ := trodAll_cons r1
  obtain ⟨rfl, rfl, rfl⟩ := trodAll_nil r2
  obtain rfl : args = #[v0, v1, v2] := by cases args; simp_all
  obtain ⟨rfl, rfl⟩ := trodVars_none hV
  refine (walk W base (hval 0 44 v0 rfl rfl) h0 (hval 1 45 v1 rfl rfl) h1 (hval 2 4 v2 rfl rfl) h2).mono fun e W' ⟨he, bel⟩ => ?_
  subst he
  exact ⟨_, rfl, _, _, _, [], _, [], hW', trodAll_mk1 (shut_bool Try.underlying4 _), (trodAll_cons_mk (Below.trod laidOut (by kernel_rfl) (of_decide_eq_true (by kernel_rfl)) h0 bel (lt_of_Trod h0)) (trodAll_cons_mk (Below.trod laidOut (by kernel_rfl) (of_decide_eq_true (by kernel_rfl)) h1 bel (lt_of_Trod h1)) (trodAll_cons_mk (Below.trod laidOut (by kernel_rfl) (of_decide_eq_true (by kernel_rfl)) h2 bel (lt_of_Trod h2)) trodAll_mk0))), rfl, bel.frame _, fun h => by cases h⟩

/-- MeterLimit: for every number of bytes, however many more, and each kind the law returns true and changes nothing. No condition. -/
theorem proved : Rows.MeterLimitSaid :=
  OpenClaim.holds_of_wide 5 Try.f5 rfl rfl rfl rfl rfl rfl rfl ⟨rfl, rfl, rfl, rfl, rfl⟩ rfl rfl rfl rfl rfl (by kernel_rfl) Try.func5 (by kernel_rfl)
    (of_decide_eq_true (by kernel_rfl)) (by unfold Func.isWrapper; first | (rw [if_pos (by decide +kernel)]; kernel_rfl) | (rw [if_neg (by decide +kernel)]; exact ⟨rfl, rfl⟩))
    (fun os started H enc _ => lifted os started H enc)
#print axioms proved
end Go.Proofs.Ytjnbkpjpcbmhcaa.meterLimit
