/-
  FooterReads: for every slice of bytes the law returns true and changes nothing. No condition.
-/
import Derived.Test.YtiobnhdcapfhgaaOpen
import Derived.Test.YtiobnhdcapfhgaaArg
import Derived.Test.YtiobnhdcapfhgaaFwk
import Derived.Test.YtiobnhdcapfhgaaFdr
namespace Go.Proofs.Ytiobnhdcapfhgaa.footerReads
open Go.ChangeShapes Go.WideShapes Go.ChangeAt Go.RowKit
open Go.ChangeMaps (open_string shut_string)
set_option linter.unusedVariables false

set_option maxHeartbeats 6400000 in
set_option maxRecDepth 100000 in
theorem walk {H : Type} {enc : TypeId × Value → H} (W : World) (base : Nat) {v0 : Value} {d0 : DataW H} {p0 : List MemPlace} (o0 : Value.okWide Try.prog W .any base 24 v0) (h0 : DataW.Trod enc Try.prog W 0 (fun _ => true) true 24 v0 d0 p0) :
    Calls Try.prog 6 #[v0] W fun e W' => e = .returned (.bool true) ∧ Below W.heap.size W W' := by
  obtain ⟨a1, n1, c1, M, rfl, hm1, hm2, hm3, hm4, hm5⟩ := open_bytes o0 h0
  have hM : BS W a1 n1 c1 M := ⟨hm1, hm2, hm3, hm4, hm5⟩
  clear o0 h0
  have hn1 : n1 ≤ 9223372036854775807 := by unfold maxLen at hm5; omega
  by_cases g1 : 100 < n1
  · have g1' : (100 : Int) < (n1 : Int) := by omega
    clear hm1 hm2 hm3 hm4 hm5 hM
    go_enter Try.func6, Try.ntmps6
    go_wp2_with fail
    refine (works_true _).mono ?_
    rintro e w9 ⟨rfl, hb9⟩
    go_wp2_with fail
    go_ret
    exact ⟨rfl, hb9⟩
  · have g1' : (n1 : Int) ≤ 100 := by omega
    have hd := fun (w : World) (h : Below W.heap.size W w) => fde_any a1 n1 c1 M w (fun hp => (hm2 hp).later h) hm1 hm3 hm4 hm5
    rcases fdec_err M with h0 | h0 | h0 | h0
    · obtain ⟨⟨c, l, e0⟩, hcl⟩ : ∃ x, x = fdec M := ⟨_, rfl⟩
      rw [← hcl] at h0 hd
      have h0 : e0 = 0 := h0
      subst h0
      obtain ⟨hok, hle16, htk⟩ := fdec_ok hm3 hcl.symm
      rw [hm1] at hle16
      have hd : ∀ w : World, Below W.heap.size W w → Calls Try.prog 18 #[.slice a1 n1 c1] w fun e w' => e = .returned (.tuple #[.agg #[.int .i64 c, .int .i64 l], .int .i64 0]) ∧ Below w.heap.size w w' := hd
      have hen := fun w => fen_yes hok w
      clear hcl hok
      go_enter Try.func6, Try.ntmps6
      go_wp2_with fail
      refine (hd _ (Below.refl _ _)).mono ?_
      rintro e w1 ⟨rfl, hb1⟩
      have hY1 : Below W.heap.size W w1 := b_then (by repeat first | exact Below.refl _ _ | apply Below.drew | apply b_alloc) hb1
      have bel1 := hY1
      clear hb1
      clear hd
      go_wp2_with fail
      refine (hen _).mono ?_
      rintro e w2 ⟨⟨g, cap, rfl, hle, hcm, hg, hI⟩, hb2⟩
      have hY2 : Below w1.heap.size w1 w2 := b_then (by repeat first | exact Below.refl _ _ | apply Below.drew | apply b_alloc) hb2
      have hS2 : Blk w2 (w1.heap.size) 23 #[.int .i64 c, .int .i64 l] := (hb2.block _ (by simp <;> omega)).trans (by repeat (first | ((with_reducible refine alloc_here' ?_); (simp; done)) | (with_reducible apply alloc_old') | (with_reducible apply drew_old)))
      have bel2 := b_then bel1 hY2
      clear bel1 hb2 hY2
      have cS := hS2.cell
      have lS := hS2.lt
      have hr1 := hI.rb
      have hr2 := ((hm2 (by omega)).later bel2).cut_ 16
      rw [htk] at hr2
      have heq := seq_any (some ⟨g, 0, none⟩) a1 16 16 cap c1 (fenc c l) (fenc c l) w2 (fun _ => hr1) (fun _ => hr2) rfl rfl (by unfold maxLen; omega) (by unfold maxLen; omega)
      rw [show decide (fenc c l = fenc c l) = true from decide_eq_true rfl] at heq
      have y1 : (16 : Int) ≤ (n1 : Int) := by omega
      have y2 : (16 : Int) ≤ (c1 : Int) := by omega
      have y3 : (0 : Int) ≤ (16 : Int) := by omega
      clear hen hr1 hr2 hI htk hm2 hm3 hM
      go_wp2_with fail
      refine heq.mono ?_
      rintro e w3 ⟨rfl, hb3⟩
      have bel3 := b_then bel2 hb3
      go_wp2_with fail
      refine (works_true _).mono ?_
      rintro e w9 ⟨rfl, hb9⟩
      go_wp2_with fail
      go_ret
      exact ⟨rfl, b_then bel3 hb9⟩
    · have hz : n1 < 16 := by have := (fdec_torn M).1 (by rw [h0]); omega
      have hz' : (n1 : Int) < 16 := by omega
      simp only [h0] at hd
      clear h0 hm1 hm2 hm3 hm4 hm5 hM
      go_enter Try.func6, Try.ntmps6
      go_wp2_with fail
      refine (hd _ (Below.refl _ _)).mono ?_
      rintro e w1 ⟨rfl, hb1⟩
      have hY1 : Below W.heap.size W w1 := b_then (by repeat first | exact Below.refl _ _ | apply Below.drew | apply b_alloc) hb1
      have bel1 := hY1
      clear hb1
      have hS := Blk.new w1 23 #[.int .i64 0, .int .i64 0]
      have cS := hS.cell
      have bel2 := b_alloc bel1 (.cells #[.int .i64 0, .int .i64 0] 23)
      clear hd
      go_wp2_with fail
      refine (works_true _).mono ?_
      rintro e w9 ⟨rfl, hb9⟩
      go_wp2_with fail
      go_ret
      exact ⟨rfl, b_then bel2 hb9⟩
    · have hz : ¬ n1 < 16 := by intro hq; have := (fdec_torn M).2 (by omega); rw [h0] at this; exact absurd this (by decide)
      have hz' : decide ((n1 : Int) < 16) = false := by rw [decide_eq_false_iff_not]; omega
      simp only [h0] at hd
      clear h0 hm1 hm2 hm3 hm4 hm5 hM
      go_enter Try.func6, Try.ntmps6
      go_wp2_with fail
      refine (hd _ (Below.refl _ _)).mono ?_
      rintro e w1 ⟨rfl, hb1⟩
      have hY1 : Below W.heap.size W w1 := b_then (by repeat first | exact Below.refl _ _ | apply Below.drew | apply b_alloc) hb1
      have bel1 := hY1
      clear hb1
      have hS := Blk.new w1 23 #[.int .i64 0, .int .i64 0]
      have cS := hS.cell
      have bel2 := b_alloc bel1 (.cells #[.int .i64 0, .int .i64 0] 23)
      clear hd
      go_wp2_with fail
      refine (works_true _).mono ?_
      rintro e w9 ⟨rfl, hb9⟩
      go_wp2_with fail
      go_ret
      exact ⟨rfl, b_then bel2 hb9⟩
    · have hz : ¬ n1 < 16 := by intro hq; have := (fdec_torn M).2 (by omega); rw [h0] at this; exact absurd this (by decide)
      have hz' : decide ((n1 : Int) < 16) = false := by rw [decide_eq_false_iff_not]; omega
      simp only [h0] at hd
      clear h0 hm1 hm2 hm3 hm4 hm5 hM
      go_enter Try.func6, Try.ntmps6
      go_wp2_with fail
      refine (hd _ (Below.refl _ _)).mono ?_
      rintro e w1 ⟨rfl, hb1⟩
      have hY1 : Below W.heap.size W w1 := b_then (by repeat first | exact Below.refl _ _ | apply Below.drew | apply b_alloc) hb1
      have bel1 := hY1
      clear hb1
      have hS := Blk.new w1 23 #[.int .i64 0, .int .i64 0]
      have cS := hS.cell
      have bel2 := b_alloc bel1 (.cells #[.int .i64 0, .int .i64 0] 23)
      clear hd
      go_wp2_with fail
      refine (works_true _).mono ?_
      rintro e w9 ⟨rfl, hb9⟩
      go_wp2_with fail
      go_ret
      exact ⟨rfl, b_then bel2 hb9⟩

set_option maxRecDepth 100000 in
theorem lifted (os : Os) (started : os.Started) (H : Type) (enc : TypeId × Value → H) :
    ReturnsInHanded {} Try.checked os 6 .any (Rows.footerReadsSpec.pre6 enc Try.prog Try.f6 Rows.footerReadsRow.domain false) (Rows.footerReadsSpec.post enc Try.prog Try.f6 false true false false) := by
  refine returnsInHanded_of_change (C := Try.checked) own started (by kernel_rfl) Try.func6
    (ChangeSpec.witness6 (enc := enc) (C := Try.checked) false ⟨#[], #[.slice none 0 0], []⟩ 8 (by kernel_rfl) (by kernel_rfl) (by kernel_rfl) (by kernel_rfl)) ?_
  intro W base args ds gs before hval0 hW hcnd _
  have hval : ∀ (j : Nat) t v, Try.f6.params[j]? = some t → args[j]? = some v → Value.okWide Try.prog W .any base t v := hval0
  have hW' := hW
  obtain ⟨p, q, hA0, hV, rfl, hfz, hnd⟩ := hW
  have hA : DataW.TrodAll enc Try.prog W 0 (fun _ => true) true Try.f6.params.toList args.toList ds p := hA0
  rw [Try.params6] at hA hval
  obtain ⟨v0, vs0, d0, ds0, p0, q0, hargs, rfl, rfl, h0, r0⟩ := trodAll_cons hA
  obtain ⟨rfl, rfl, rfl⟩ := trodAll_nil r0
  obtain rfl : args = #[v0] := by cases args; simp_all
  obtain ⟨rfl, rfl⟩ := trodVars_none hV
  refine (walk (H := H) (enc := enc) W base (hval 0 24 v0 rfl rfl) h0).mono fun e W' ⟨he, bel⟩ => ?_
  subst he
  exact ⟨_, rfl, _, _, _, [], _, [], hW', trodAll_mk1 (shut_bool Try.underlying4 _), (trodAll_cons_mk (Below.trod laidOut (by kernel_rfl) (of_decide_eq_true (by kernel_rfl)) h0 bel (lt_of_Trod h0)) trodAll_mk0), rfl, bel.frame _, fun h => by cases h⟩

/-- FooterReads: for every slice of bytes the law returns true and changes nothing. No condition. -/
theorem proved : Rows.FooterReadsSaid :=
  OpenClaim.holds_of_wide 6 Try.f6 rfl rfl rfl rfl rfl rfl rfl ⟨rfl, rfl, rfl, rfl, rfl⟩ rfl rfl rfl rfl rfl (by kernel_rfl) Try.func6 (by kernel_rfl)
    (of_decide_eq_true (by kernel_rfl)) (by unfold Func.isWrapper; first | (rw [if_pos (by decide +kernel)]; kernel_rfl) | (rw [if_neg (by decide +kernel)]; exact ⟨rfl, rfl⟩))
    (fun os started H enc _ => lifted os started H enc)
#print axioms proved
end Go.Proofs.Ytiobnhdcapfhgaa.footerReads
