/-
  HeaderReads: for every slice of bytes the law returns true and changes nothing. No condition.
-/
import Derived.Test.YtagcaepkbilpbaaOpen
import Derived.Test.YtagcaepkbilpbaaWks
import Derived.Test.YtagcaepkbilpbaaArg
import Derived.Test.YtagcaepkbilpbaaRde
namespace Go.Proofs.Ytagcaepkbilpbaa.headerReads
open Go.ChangeShapes Go.WideShapes Go.ChangeAt Go.RowKit
open Go.ChangeMaps (open_string shut_string)
set_option linter.unusedVariables false

theorem hbytes_back {L : Nat → Int} (h : ∀ i, i < 16 → 0 ≤ L i ∧ L i ≤ 255) : ∀ i, i < 16 → L i = (hbytes (dS L) (L 4) (L 5) (dV L) (dQ L)).getD i 0 := by
  intro i hi
  have h0 := h 0 (by omega); have h1 := h 1 (by omega); have h2 := h 2 (by omega); have h3 := h 3 (by omega)
  have h4 := h 4 (by omega); have h5 := h 5 (by omega); have h6 := h 6 (by omega); have h7 := h 7 (by omega)
  have h8 := h 8 (by omega); have h9 := h 9 (by omega); have h10 := h 10 (by omega); have h11 := h 11 (by omega)
  have h12 := h 12 (by omega); have h13 := h 13 (by omega); have h14 := h 14 (by omega); have h15 := h 15 (by omega)
  have hi' : i = 0 ∨ i = 1 ∨ i = 2 ∨ i = 3 ∨ i = 4 ∨ i = 5 ∨ i = 6 ∨ i = 7 ∨ i = 8 ∨ i = 9 ∨ i = 10 ∨ i = 11 ∨ i = 12 ∨ i = 13 ∨ i = 14 ∨ i = 15 := by omega
  rcases hi' with rfl | rfl | rfl | rfl | rfl | rfl | rfl | rfl | rfl | rfl | rfl | rfl | rfl | rfl | rfl | rfl <;> simp [hbytes, dS, dV, dQ] <;> omega
theorem RB.of_byts {w : World} {b off n cap : Nat} {L : Nat → Int} {M : List Int} (h : Byts w (some ⟨b, off, none⟩) n cap L) (hL : ∀ i, i < M.length → L i = M.getD i 0) (hn : M.length ≤ n) : RB w (some ⟨b, off, none⟩) M :=
  .inr ⟨b, off, rfl, fun i hi => by
    obtain ⟨b', off', hq, _, hc⟩ := h.2.2.2 (by omega)
    injection hq with hq
    injection hq with hq1 hq2
    subst hq1 hq2
    rw [hc i (by omega), hL i hi]⟩

set_option maxHeartbeats 1600000 in
theorem walk {H : Type} {enc : TypeId × Value → H} (W : World) (base : Nat) {v0 : Value} {d0 : DataW H} {p0 : List MemPlace} (o0 : Value.okWide Try.prog W .any base 26 v0) (h0 : DataW.Trod enc Try.prog W 0 (fun _ => true) true 26 v0 d0 p0) :
    Calls Try.prog 6 #[v0] W fun e W' => e = .returned (.bool true) ∧ Below W.heap.size W W' := by
  obtain ⟨a, n, cap, L, rfl, hb⟩ := open_byts o0 h0
  clear o0 h0
  have hnm : n ≤ 9223372036854775807 := by have := hb.1; have := hb.2.1; unfold maxLen at this; omega
  by_cases hl : n ≤ 200
  · by_cases hn : n < 16
    · skip
      go_enter Try.func6, Try.ntmps6
      go_wp2_with fail
      refine (dec_torn a n cap W hn).mono ?_
      rintro e w1 ⟨rfl, hb1⟩
      go_wp2_with fail
      refine (works_true _).mono ?_
      rintro e w9 ⟨rfl, hb9⟩
      go_wp2_with fail
      go_ret
      exact ⟨rfl, b_then (b_alloc hb1 _) hb9⟩
    · by_cases hd : DOk L
      · skip
        obtain ⟨b, off, rfl, hbl, hcc⟩ := hb.2.2.2 (by omega)
        have hd' : HOk (L 4) (L 5) (dV L) (dQ L) := hd
        have hr : ∀ i, i < 16 → 0 ≤ L i ∧ L i ≤ 255 := fun i hi => hb.2.2.1 i (by omega)
        have hS := dS_bd hr
        have hs1 := hb.1
        have hs2 : (16 : Int) ≤ n := by omega
        have hs3 : (16 : Int) ≤ cap := by omega
        go_enter Try.func6, Try.ntmps6
        go_wp2_with fail
        refine (dec_yes (some ⟨b, off, none⟩) n cap L W (by omega) hb hd).mono ?_
        rintro e w1 ⟨rfl, hb1⟩
        have hy := hb.below hb1
        go_wp2_with fail
        refine (enc_yes (dS L) (L 4) (L 5) (dV L) (dQ L) _ hS.1 hS.2 hd').mono ?_
        rintro e w2 ⟨⟨v2, rfl, o2⟩, hb2⟩
        have hH := (Blk.new w1 24 #[.int .u32 (dS L), .int .i64 (L 4), .int .i64 (L 5), .int .i64 (dV L), .int .i64 (dQ L)]).below hb2 (by simp)
        have hy2 := (hy.below (b_alloc (Below.refl _ _) _)).below hb2
        have hB2 := b_then (b_alloc hb1 (.cells #[.int .u32 (dS L), .int .i64 (L 4), .int .i64 (L 5), .int .i64 (dV L), .int .i64 (dQ L)] 24)) hb2
        have cH := hH.cell
        clear hy hb2 hb1
        go_wp2_with fail
        refine (check_yes (dS L) (L 4) (L 5) (dV L) (dQ L) _ hd').mono ?_
        rintro e w3 ⟨rfl, hb3⟩
        have hy3 := hy2.below hb3
        have o3 := o2.later hb3
        obtain ⟨A, c3, rfl, hR⟩ := RB.of_own o3
        go_wp2_with fail
        refine (equal_same A (some ⟨b, off, none⟩) c3 cap (hbytes (dS L) (L 4) (L 5) (dV L) (dQ L)) _ hR (RB.of_byts hy3 (hbytes_back hr) (show 16 ≤ n by omega))).mono ?_
        rintro e w4 ⟨rfl, rfl⟩
        go_wp2_with fail
        refine (works_true _).mono ?_
        rintro e w9 ⟨rfl, hb9⟩
        go_wp2_with fail
        go_ret
        exact ⟨rfl, b_then (b_then hB2 hb3) hb9⟩
      · skip
        go_enter Try.func6, Try.ntmps6
        go_wp2_with fail
        refine (dec_no a n cap L W (by omega) hb hd).mono ?_
        rintro e w1 ⟨rfl, hb1⟩
        go_wp2_with fail
        refine (works_true _).mono ?_
        rintro e w9 ⟨rfl, hb9⟩
        go_wp2_with fail
        go_ret
        exact ⟨rfl, b_then (b_alloc hb1 _) hb9⟩
  · skip
    go_enter Try.func6, Try.ntmps6
    go_wp2_with fail
    refine (works_true _).mono ?_
    rintro e w9 ⟨rfl, hb9⟩
    go_wp2_with fail
    go_ret
    exact ⟨rfl, hb9⟩

set_option maxRecDepth 100000 in
theorem lifted (os : Os) (started : os.Started) (H : Type) (enc : TypeId × Value → H) :
    ReturnsInHanded {} Try.checked os 6 .any (Rows.headerReadsSpec.pre6 enc Try.prog Try.f6 Rows.headerReadsRow.domain false) (Rows.headerReadsSpec.post enc Try.prog Try.f6 false true false false) := by
  refine returnsInHanded_of_change (C := Try.checked) own started (by kernel_rfl) Try.func6
    (ChangeSpec.witness6 (enc := enc) (C := Try.checked) false ⟨#[], #[.slice none 0 0], []⟩ 8 (by kernel_rfl) (by kernel_rfl) (by kernel_rfl) (by kernel_rfl)) ?_
  intro W base args ds gs before hval0 hW hcnd _
  have hval : ∀ (j : Nat) t v, Try.f6.params[j]? = some t → args[j]? = some v → Value.okWide Try.prog W .any base t v := hval0
  have hW' := hW
  obtain ⟨p, q, hA0, hV, rfl, hfz, hnd⟩ := hW
  have hA : DataW.TrodAll enc Try.prog W 0 (fun _ => true) true Try.f6.params.toList args.toList ds p := hA0
  rw [Try.params6] at hA hval
  obtain ⟨v0, vs0, d0, ds0, p0, q0, hargs, rfl, rfl, h0, r0⟩ := trodAll_cons hA
  obtain ⟨rfl, rfl, rfl⟩ := trodAll_nil r0
  obtain rfl : args = #[v0] := by cases args; simp_all
  obtain ⟨rfl, rfl⟩ := trodVars_none hV
  refine (walk W base (hval 0 26 v0 rfl rfl) h0).mono fun e W' ⟨he, bel⟩ => ?_
  subst he
  exact ⟨_, rfl, _, _, _, [], _, [], hW', trodAll_mk1 (shut_bool Try.underlying4 _), (trodAll_cons_mk (Below.trod laidOut (by kernel_rfl) (of_decide_eq_true (by kernel_rfl)) h0 bel (lt_of_Trod h0)) trodAll_mk0), rfl, bel.frame _, fun h => by cases h⟩

/-- HeaderReads: for every slice of bytes the law returns true and changes nothing. No condition. -/
theorem proved : Rows.HeaderReadsSaid :=
  OpenClaim.holds_of_wide 6 Try.f6 rfl rfl rfl rfl rfl rfl rfl ⟨rfl, rfl, rfl, rfl, rfl⟩ rfl rfl rfl rfl rfl (by kernel_rfl) Try.func6 (by kernel_rfl)
    (of_decide_eq_true (by kernel_rfl)) (by unfold Func.isWrapper; first | (rw [if_pos (by decide +kernel)]; kernel_rfl) | (rw [if_neg (by decide +kernel)]; exact ⟨rfl, rfl⟩))
    (fun os started H enc _ => lifted os started H enc)
#print axioms proved
end Go.Proofs.Ytagcaepkbilpbaa.headerReads
