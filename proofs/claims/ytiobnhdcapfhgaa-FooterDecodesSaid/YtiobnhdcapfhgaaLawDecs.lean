/-
  FooterDecodes: for every slice of bytes the law returns true and changes nothing. No condition.
-/
import Derived.Test.YtiobnhdcapfhgaaOpen
import Derived.Test.YtiobnhdcapfhgaaArg
import Derived.Test.YtiobnhdcapfhgaaFwk
import Derived.Test.YtiobnhdcapfhgaaFdr
namespace Go.Proofs.Ytiobnhdcapfhgaa.footerDecodes
open Go.ChangeShapes Go.WideShapes Go.ChangeAt Go.RowKit
open Go.ChangeMaps (open_string shut_string)
set_option linter.unusedVariables false

theorem isb_bs {w : World} {B n : Nat} {v : Value} {M : List Int} (h : IsB w B v M) (hn : M.length = n) : ∃ (A : Option Addr) (cap : Nat), v = .slice A n cap ∧ RB w A M ∧ n ≤ cap ∧ cap ≤ maxLen := by
  subst hn
  rcases h.2 with ⟨rfl, hn⟩ | ⟨g, cap, cur, rfl, h2, h3, h4, h5, _⟩
  · have : M = [] := List.eq_nil_of_length_eq_zero hn
    subst this
    exact ⟨none, 0, rfl, .inl ⟨rfl, rfl⟩, Nat.le_refl _, by unfold maxLen; omega⟩
  · obtain ⟨A, cap', hv, hr⟩ := RB.of_own h
    injection hv with e1 e2 e3
    subst e1 e3
    exact ⟨_, _, rfl, hr, h4, h5⟩

set_option maxHeartbeats 6400000 in
set_option maxRecDepth 100000 in
theorem walk {H : Type} {enc : TypeId × Value → H} (W : World) (base : Nat) {v0 : Value} {d0 : DataW H} {p0 : List MemPlace} (o0 : Value.okWide Try.prog W .any base 24 v0) (h0 : DataW.Trod enc Try.prog W 0 (fun _ => true) true 24 v0 d0 p0) :
    Calls Try.prog 4 #[v0] W fun e W' => e = .returned (.bool true) ∧ Below W.heap.size W W' := by
  obtain ⟨a1, n1, c1, M, rfl, hm1, hm2, hm3, hm4, hm5⟩ := open_bytes o0 h0
  have hM : BS W a1 n1 c1 M := ⟨hm1, hm2, hm3, hm4, hm5⟩
  clear o0 h0
  have hn1 : n1 ≤ 9223372036854775807 := by unfold maxLen at hm5; omega
  by_cases g1 : 200 < n1
  · have g1' : (200 : Int) < (n1 : Int) := by omega
    clear hm1 hm2 hm3 hm4 hm5 hM
    go_enter Try.func4, Try.ntmps4
    go_wp2_with fail
    refine (works_true _).mono ?_
    rintro e w9 ⟨rfl, hb9⟩
    go_wp2_with fail
    go_ret
    exact ⟨rfl, hb9⟩
  · have g1' : (n1 : Int) ≤ 200 := by omega
    have hcl := bclone_any a1 n1 c1 M W hM (by omega)
    obtain ⟨⟨c, l, q⟩, hF⟩ : ∃ x, fdec M = x := ⟨_, rfl⟩
    have hr := fun (w : World) (h : Below W.heap.size W w) => rfde_any a1 n1 c1 M w (fun hp => (hm2 hp).later h) hm1 hm3 hm4 hm5
    rw [hF] at hr
    have hr : ∀ w : World, Below W.heap.size W w → Calls Try.prog 19 #[.slice a1 n1 c1] w fun e w' => e = .returned (.tuple #[.agg #[.int .i64 c, .int .i64 l], .int .i64 q]) ∧ Below w.heap.size w w' := hr
    go_enter Try.func4, Try.ntmps4
    go_wp2_with fail
    refine hcl.mono ?_
    rintro e w1 ⟨⟨v1, rfl, hI⟩, hb1⟩
    obtain ⟨A, cap, rfl, hR, hle, hcm⟩ := isb_bs hI hm1
    have hd1 := fde_any A n1 cap M w1 (fun _ => hR) hm1 hm3 hle hcm
    rw [hF] at hd1
    have hd1 : Calls Try.prog 18 #[.slice A n1 cap] w1 fun e w' => e = .returned (.tuple #[.agg #[.int .i64 c, .int .i64 l], .int .i64 q]) ∧ Below w1.heap.size w1 w' := hd1
    clear hI hcl hF
    go_wp2_with fail
    (with_reducible refine hd1.mono ?_)
    rintro e w2 ⟨rfl, hb2⟩
    have bel2 := b_then hb1 hb2
    have hR2 := hR.later hb2
    have hX2 := Blk.new w2 23 #[.int .i64 c, .int .i64 l]
    have bel3 := b_alloc bel2 (.cells #[.int .i64 c, .int .i64 l] 23)
    have hR3 := hR2.later (b_alloc (Below.refl _ w2) (.cells #[.int .i64 c, .int .i64 l] 23))
    have hr1 := hr _ bel3
    clear hd1 hr hb1 hb2 bel2 hR hR2
    go_wp2_with fail
    (with_reducible refine hr1.mono ?_)
    rintro e w4 ⟨rfl, hb4⟩
    have hX4 := hX2.below hb4 hX2.lt
    have cX4 := hX4.cell
    have bel4 := b_then bel3 hb4
    have hR4 := hR3.later hb4
    have hY5 := Blk.new w4 29 #[.int .i64 c, .int .i64 l]
    have cY5 := hY5.cell
    have hX5 := hX4.alloc (.cells #[.int .i64 c, .int .i64 l] 29)
    have cX5 := hX5.cell
    have bel5 := b_alloc bel4 (.cells #[.int .i64 c, .int .i64 l] 29)
    have hR5 := hR4.later (b_alloc (Below.refl _ w4) (.cells #[.int .i64 c, .int .i64 l] 29))
    have heq := seq_any A a1 n1 n1 cap c1 M M _ (fun _ => hR5) (fun hp => (hm2 hp).later bel5) hm1 hm1 (by unfold maxLen; omega) (by unfold maxLen; omega)
    rw [show decide (M = M) = true from decide_eq_true rfl] at heq
    clear hr1 hb4 hX4 bel4 hR4 hX2 hR3 bel3 hR5 hm2 hm3 hM
    go_wp2_with fail
    (with_reducible refine heq.mono ?_)
    rintro e w6 ⟨rfl, hb6⟩
    have bel6 := b_then bel5 hb6
    go_wp2_with fail
    refine (works_true _).mono ?_
    rintro e w9 ⟨rfl, hb9⟩
    go_wp2_with fail
    go_ret
    exact ⟨rfl, b_then bel6 hb9⟩

set_option maxRecDepth 100000 in
theorem lifted (os : Os) (started : os.Started) (H : Type) (enc : TypeId × Value → H) :
    ReturnsInHanded {} Try.checked os 4 .any (Rows.footerDecodesSpec.pre6 enc Try.prog Try.f4 Rows.footerDecodesRow.domain false) (Rows.footerDecodesSpec.post enc Try.prog Try.f4 false true false false) := by
  refine returnsInHanded_of_change (C := Try.checked) own started (by kernel_rfl) Try.func4
    (ChangeSpec.witness6 (enc := enc) (C := Try.checked) false ⟨#[], #[.slice none 0 0], []⟩ 8 (by kernel_rfl) (by kernel_rfl) (by kernel_rfl) (by kernel_rfl)) ?_
  intro W base args ds gs before hval0 hW hcnd _
  have hval : ∀ (j : Nat) t v, Try.f4.params[j]? = some t → args[j]? = some v → Value.okWide Try.prog W .any base t v := hval0
  have hW' := hW
  obtain ⟨p, q, hA0, hV, rfl, hfz, hnd⟩ := hW
  have hA : DataW.TrodAll enc Try.prog W 0 (fun _ => true) true Try.f4.params.toList args.toList ds p := hA0
  rw [Try.params4] at hA hval
  obtain ⟨v0, vs0, d0, ds0, p0, q0, hargs, rfl, rfl, h0, r0⟩ := trodAll_cons hA
  obtain ⟨rfl, rfl, rfl⟩ := trodAll_nil r0
  obtain rfl : args = #[v0] := by cases args; simp_all
  obtain ⟨rfl, rfl⟩ := trodVars_none hV
  refine (walk (H := H) (enc := enc) W base (hval 0 24 v0 rfl rfl) h0).mono fun e W' ⟨he, bel⟩ => ?_
  subst he
  exact ⟨_, rfl, _, _, _, [], _, [], hW', trodAll_mk1 (shut_bool Try.underlying4 _), (trodAll_cons_mk (Below.trod laidOut (by kernel_rfl) (of_decide_eq_true (by kernel_rfl)) h0 bel (lt_of_Trod h0)) trodAll_mk0), rfl, bel.frame _, fun h => by cases h⟩

/-- FooterDecodes: for every slice of bytes the law returns true and changes nothing. No condition. -/
theorem proved : Rows.FooterDecodesSaid :=
  OpenClaim.holds_of_wide 4 Try.f4 rfl rfl rfl rfl rfl rfl rfl ⟨rfl, rfl, rfl, rfl, rfl⟩ rfl rfl rfl rfl rfl (by kernel_rfl) Try.func4 (by kernel_rfl)
    (of_decide_eq_true (by kernel_rfl)) (by unfold Func.isWrapper; first | (rw [if_pos (by decide +kernel)]; kernel_rfl) | (rw [if_neg (by decide +kernel)]; exact ⟨rfl, rfl⟩))
    (fun os started H enc _ => lifted os started H enc)
#print axioms proved
end Go.Proofs.Ytiobnhdcapfhgaa.footerDecodes
