/-
  HeaderDecodes: for every slice of bytes the law returns true and changes nothing. No condition.
-/
import Derived.Test.YtagcaepkbilpbaaOpen
import Derived.Test.YtagcaepkbilpbaaWks
import Derived.Test.YtagcaepkbilpbaaArg
import Derived.Test.YtagcaepkbilpbaaRde
namespace Go.Proofs.Ytagcaepkbilpbaa.headerDecodes
open Go.ChangeShapes Go.WideShapes Go.ChangeAt Go.RowKit
open Go.ChangeMaps (open_string shut_string)
set_option linter.unusedVariables false

set_option maxHeartbeats 1600000 in
theorem walk {H : Type} {enc : TypeId × Value → H} (W : World) (base : Nat) {v0 : Value} {d0 : DataW H} {p0 : List MemPlace} (o0 : Value.okWide Try.prog W .any base 26 v0) (h0 : DataW.Trod enc Try.prog W 0 (fun _ => true) true 26 v0 d0 p0) :
    Calls Try.prog 4 #[v0] W fun e W' => e = .returned (.bool true) ∧ Below W.heap.size W W' := by
  obtain ⟨a, n, cap, L, rfl, hb⟩ := open_byts o0 h0
  clear o0 h0
  have hnm : n ≤ 9223372036854775807 := by have := hb.1; have := hb.2.1; unfold maxLen at this; omega
  by_cases hl : n ≤ 1000
  · by_cases hn : n < 16
    · skip
      go_enter Try.func4, Try.ntmps4
      go_wp2_with fail
      refine (dec_torn a n cap W hn).mono ?_
      rintro e w1 ⟨rfl, hb1⟩
      have hy := hb.below hb1
      go_wp2_with fail
      refine (rdec_torn a n cap _ hn).mono ?_
      rintro e w2 ⟨rfl, hb2⟩
      have B1 := ((Blk.new w1 24 #[.int .u32 0, .int .i64 0, .int .i64 0, .int .i64 0, .int .i64 0]).below hb2 (by simp)).cell
      have B2 := ((Blk.new w1 24 #[.int .u32 0, .int .i64 0, .int .i64 0, .int .i64 0, .int .i64 0]).below hb2 (by simp)).lt
      have l1 : w1.heap.size < w2.heap.size + 1 := by omega
      clear hy
      go_wp2_with fail
      refine (works_true _).mono ?_
      rintro e w9 ⟨rfl, hb9⟩
      go_wp2_with fail
      go_ret
      exact ⟨rfl, b_then (b_alloc (b_then (b_alloc hb1 _) hb2) _) hb9⟩
    · by_cases hd : DOk L
      · skip
        go_enter Try.func4, Try.ntmps4
        go_wp2_with fail
        refine (dec_yes a n cap L W (by omega) hb hd).mono ?_
        rintro e w1 ⟨rfl, hb1⟩
        have hy := hb.below hb1
        go_wp2_with fail
        refine (rdec_yes a n cap L _ (by omega) (hy.below (b_alloc (Below.refl _ _) _)) hd).mono ?_
        rintro e w2 ⟨rfl, hb2⟩
        have B1 := ((Blk.new w1 24 #[.int .u32 (dS L), .int .i64 (L 4), .int .i64 (L 5), .int .i64 (dV L), .int .i64 (dQ L)]).below hb2 (by simp)).cell
        have B2 := ((Blk.new w1 24 #[.int .u32 (dS L), .int .i64 (L 4), .int .i64 (L 5), .int .i64 (dV L), .int .i64 (dQ L)]).below hb2 (by simp)).lt
        have l1 : w1.heap.size < w2.heap.size + 1 := by omega
        clear hy
        go_wp2_with fail
        refine (works_true _).mono ?_
        rintro e w9 ⟨rfl, hb9⟩
        go_wp2_with fail
        go_ret
        exact ⟨rfl, b_then (b_alloc (b_then (b_alloc hb1 _) hb2) _) hb9⟩
      · skip
        go_enter Try.func4, Try.ntmps4
        go_wp2_with fail
        refine (dec_no a n cap L W (by omega) hb hd).mono ?_
        rintro e w1 ⟨rfl, hb1⟩
        have hy := hb.below hb1
        go_wp2_with fail
        refine (rdec_no a n cap L _ (by omega) (hy.below (b_alloc (Below.refl _ _) _)) hd).mono ?_
        rintro e w2 ⟨rfl, hb2⟩
        have B1 := ((Blk.new w1 24 #[.int .u32 0, .int .i64 0, .int .i64 0, .int .i64 0, .int .i64 0]).below hb2 (by simp)).cell
        have B2 := ((Blk.new w1 24 #[.int .u32 0, .int .i64 0, .int .i64 0, .int .i64 0, .int .i64 0]).below hb2 (by simp)).lt
        have l1 : w1.heap.size < w2.heap.size + 1 := by omega
        clear hy
        go_wp2_with fail
        refine (works_true _).mono ?_
        rintro e w9 ⟨rfl, hb9⟩
        go_wp2_with fail
        go_ret
        exact ⟨rfl, b_then (b_alloc (b_then (b_alloc hb1 _) hb2) _) hb9⟩
  · skip
    go_enter Try.func4, Try.ntmps4
    go_wp2_with fail
    refine (works_true _).mono ?_
    rintro e w9 ⟨rfl, hb9⟩
    go_wp2_with fail
    go_ret
    exact ⟨rfl, hb9⟩

set_option maxRecDepth 100000 in
theorem lifted (os : Os) (started : os.Started) (H : Type) (enc : TypeId × Value → H) :
    ReturnsInHanded {} Try.checked os 4 .any (Rows.headerDecodesSpec.pre6 enc Try.prog Try.f4 Rows.headerDecodesRow.domain false) (Rows.headerDecodesSpec.post enc Try.prog Try.f4 false true false false) := by
  refine returnsInHanded_of_change (C := Try.checked) own started (by kernel_rfl) Try.func4
    (ChangeSpec.witness6 (enc := enc) (C := Try.checked) false ⟨#[], #[.slice none 0 0], []⟩ 8 (by kernel_rfl) (by kernel_rfl) (by kernel_rfl) (by kernel_rfl)) ?_
  intro W base args ds gs before hval0 hW hcnd _
  have hval : ∀ (j : Nat) t v, Try.f4.params[j]? = some t → args[j]? = some v → Value.okWide Try.prog W .any base t v := hval0
  have hW' := hW
  obtain ⟨p, q, hA0, hV, rfl, hfz, hnd⟩ := hW
  have hA : DataW.TrodAll enc Try.prog W 0 (fun _ => true) true Try.f4.params.toList args.toList ds p := hA0
  rw [Try.params4] at hA hval
  obtain ⟨v0, vs0, d0, ds0, p0, q0, hargs, rfl, rfl, h0, r0⟩ := trodAll_cons hA
  obtain ⟨rfl, rfl, rfl⟩ := trodAll_nil r0
  obtain rfl : args = #[v0] := by cases args; simp_all
  obtain ⟨rfl, rfl⟩ := trodVars_none hV
  refine (walk W base (hval 0 26 v0 rfl rfl) h0).mono fun e W' ⟨he, bel⟩ => ?_
  subst he
  exact ⟨_, rfl, _, _, _, [], _, [], hW', trodAll_mk1 (shut_bool Try.underlying4 _), (trodAll_cons_mk (Below.trod laidOut (by kernel_rfl) (of_decide_eq_true (by kernel_rfl)) h0 bel (lt_of_Trod h0)) trodAll_mk0), rfl, bel.frame _, fun h => by cases h⟩

/-- HeaderDecodes: for every slice of bytes the law returns true and changes nothing. No condition. -/
theorem proved : Rows.HeaderDecodesSaid :=
  OpenClaim.holds_of_wide 4 Try.f4 rfl rfl rfl rfl rfl rfl rfl ⟨rfl, rfl, rfl, rfl, rfl⟩ rfl rfl rfl rfl rfl (by kernel_rfl) Try.func4 (by kernel_rfl)
    (of_decide_eq_true (by kernel_rfl)) (by unfold Func.isWrapper; first | (rw [if_pos (by decide +kernel)]; kernel_rfl) | (rw [if_neg (by decide +kernel)]; exact ⟨rfl, rfl⟩))
    (fun os started H enc _ => lifted os started H enc)
#print axioms proved
end Go.Proofs.Ytagcaepkbilpbaa.headerDecodes
