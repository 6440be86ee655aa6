/-
  ScannerEntries: for every slice of bytes and every number the law returns true and changes nothing. No condition.
-/
import Derived.Test.YtjcdflohkajbcaaOpen
import Derived.Test.YtjcdflohkajbcaaSB
namespace Go.Proofs.Ytjcdflohkajbcaa.scannerEntries
open Go.ChangeShapes Go.WideShapes Go.ChangeAt Go.RowKit
open Go.ChangeMaps (open_string shut_string)
set_option linter.unusedVariables false

set_option maxHeartbeats 6400000 in
set_option maxRecDepth 100000 in
theorem walk {H : Type} {enc : TypeId × Value → H} (W : World) (base : Nat) {v0 v1 : Value} {d0 d1 : DataW H} {p0 p1 : List MemPlace} (o0 : Value.okWide Try.prog W .any base 25 v0) (h0 : DataW.Trod enc Try.prog W 0 (fun _ => true) true 25 v0 d0 p0) (o1 : Value.okWide Try.prog W .any base 3 v1) (h1 : DataW.Trod enc Try.prog W 0 (fun _ => true) true 3 v1 d1 p1) :
    Calls Try.prog 6 #[v0, v1] W fun e W' => e = .returned (.bool true) ∧ Below W.heap.size W W' := by
  obtain ⟨a1, n1, c1, M, rfl, hM⟩ := open_ba o0 h0
  clear o0 h0
  have hn1 : n1 ≤ 9223372036854775807 := by have := hM.2.2.2; unfold maxLen at this; omega
  obtain ⟨slot, rfl, rfl, rfl, ws⟩ := open_int Try.underlying3 o1 h1
  clear o1 h1
  by_cases g1 : (3000 < n1 ∧ n1 ≤ 8192) ∨ 9000 < n1
  · rcases g1 with ⟨g1, g2⟩ | g2
    · have g1' : (3000 : Int) < (n1 : Int) := by omega
      have g2' : (n1 : Int) ≤ 8192 := by omega
      clear hM
      go_enter Try.func6, Try.ntmps6
      go_wp2_with fail
      refine (works_true _).mono ?_
      rintro e w9 ⟨rfl, hb9⟩
      go_wp2_with fail
      go_ret
      exact ⟨rfl, hb9⟩
    · have g1' : (3000 : Int) < (n1 : Int) := by omega
      have g2' : (8192 : Int) < (n1 : Int) := by omega
      have g3' : (9000 : Int) < (n1 : Int) := by omega
      clear hM
      go_enter Try.func6, Try.ntmps6
      go_wp2_with fail
      refine (works_true _).mono ?_
      rintro e w9 ⟨rfl, hb9⟩
      go_wp2_with fail
      go_ret
      exact ⟨rfl, hb9⟩
  · by_cases gl : 8192 < n1
    · have y1 : (3000 : Int) < (n1 : Int) := by omega
      have y2 : (8192 : Int) < (n1 : Int) := by omega
      have y3 : (n1 : Int) ≤ 9000 := by omega
      by_cases gs : slot < 0 ∨ 32 ≤ slot
      · clear hM
        go_enter Try.func6, Try.ntmps6
        go_wp2_with fail
        refine (entries_range a1 n1 c1 slot _ gs).mono ?_
        rintro e w1 ⟨rfl, hb1⟩
        go_wp2_with fail
        refine (rentries_range a1 n1 c1 slot _ gs).mono ?_
        rintro e w2 ⟨rfl, hb2⟩
        have bel2 := b_then hb1 hb2
        clear hb1 hb2
        go_wp2_with fail
        refine (same_true none none 0 0 0 0 [] _ rfl (by omega) (.inl rfl) (.inl rfl)).mono ?_
        rintro e w3 ⟨rfl, hb3⟩
        have bel3 := b_then bel2 hb3
        clear hb3
        go_wp2_with fail
        refine (works_true _).mono ?_
        rintro e w9 ⟨rfl, hb9⟩
        go_wp2_with fail
        go_ret
        exact ⟨rfl, b_then bel3 hb9⟩
      · have gs0 : 0 ≤ slot := by omega
        have gs1 : slot < 32 := by omega
        clear hM
        go_enter Try.func6, Try.ntmps6
        go_wp2_with fail
        refine (entries_long a1 n1 c1 slot _ gs0 gs1 gl).mono ?_
        rintro e w1 ⟨rfl, hb1⟩
        go_wp2_with fail
        refine (rentries_long a1 n1 c1 slot _ gs0 gs1 gl).mono ?_
        rintro e w2 ⟨rfl, hb2⟩
        have bel2 := b_then hb1 hb2
        clear hb1 hb2
        go_wp2_with fail
        refine (same_true none none 0 0 0 0 [] _ rfl (by omega) (.inl rfl) (.inl rfl)).mono ?_
        rintro e w3 ⟨rfl, hb3⟩
        have bel3 := b_then bel2 hb3
        clear hb3
        go_wp2_with fail
        refine (works_true _).mono ?_
        rintro e w9 ⟨rfl, hb9⟩
        go_wp2_with fail
        go_ret
        exact ⟨rfl, b_then bel3 hb9⟩
    · have y1 : (n1 : Int) ≤ 3000 := by omega
      have y3 : (n1 : Int) ≤ 9000 := by omega
      by_cases gs : slot < 0 ∨ 32 ≤ slot
      · clear hM
        go_enter Try.func6, Try.ntmps6
        go_wp2_with fail
        refine (entries_range a1 n1 c1 slot _ gs).mono ?_
        rintro e w1 ⟨rfl, hb1⟩
        go_wp2_with fail
        refine (rentries_range a1 n1 c1 slot _ gs).mono ?_
        rintro e w2 ⟨rfl, hb2⟩
        have bel2 := b_then hb1 hb2
        clear hb1 hb2
        go_wp2_with fail
        refine (same_true none none 0 0 0 0 [] _ rfl (by omega) (.inl rfl) (.inl rfl)).mono ?_
        rintro e w3 ⟨rfl, hb3⟩
        have bel3 := b_then bel2 hb3
        clear hb3
        go_wp2_with fail
        refine (works_true _).mono ?_
        rintro e w9 ⟨rfl, hb9⟩
        go_wp2_with fail
        go_ret
        exact ⟨rfl, b_then bel3 hb9⟩
      · have gs0 : 0 ≤ slot := by omega
        have gs1 : slot < 32 := by omega
        obtain ⟨xs, en, hS⟩ := scanned_exists hM.2.2.1
        have h5 : n1 ≤ 8192 := by omega
        have hcl := chain_len hM.2.2.1 hS.1
        rw [hM.1] at hcl
        have c_en := entries_yes a1 n1 c1 M slot W xs en hM gs0 gs1 h5 hS
        have c_re := fun (w : World) (hb : Below W.heap.size W w) => rentries_yes a1 n1 c1 M slot w xs en (hM.later hb) gs0 gs1 h5 hS
        clear hM hS
        go_enter Try.func6, Try.ntmps6
        go_wp2_with fail
        refine c_en.mono ?_
        rintro e w1 ⟨⟨v1, rfl, o1⟩, hb1⟩
        obtain ⟨A1, d1, rfl, hR1, _⟩ := RI.of_ownk o1
        clear o1 c_en
        go_wp2_with fail
        refine (c_re _ hb1).mono ?_
        rintro e w2 ⟨⟨v2, rfl, o2⟩, hb2⟩
        obtain ⟨A2, d2, rfl, hR2, _⟩ := RI.of_ownk o2
        have hR1' := hR1.later hb2
        have bel2 := b_then hb1 hb2
        have c_sm := same_true A1 A2 xs.length d1 d2 slot xs w2 rfl (by omega) hR1' hR2
        obtain ⟨n2, hn2⟩ : ∃ n2, n2 = xs.length := ⟨_, rfl⟩
        rw [← hn2] at c_sm ⊢
        clear o2 c_re hR1 hb1 hb2 hR1' hR2 hn2 hcl
        go_wp2_with fail
        refine (c_sm).mono ?_
        rintro e w3 ⟨rfl, hb3⟩
        have bel3 := b_then bel2 hb3
        clear hb3
        go_wp2_with fail
        refine (works_true _).mono ?_
        rintro e w9 ⟨rfl, hb9⟩
        go_wp2_with fail
        go_ret
        exact ⟨rfl, b_then bel3 hb9⟩

set_option maxRecDepth 100000 in
theorem lifted (os : Os) (started : os.Started) (H : Type) (enc : TypeId × Value → H) :
    ReturnsInHanded {} Try.checked os 6 .any (Rows.scannerEntriesSpec.pre6 enc Try.prog Try.f6 Rows.scannerEntriesRow.domain false) (Rows.scannerEntriesSpec.post enc Try.prog Try.f6 false true false false) := by
  refine returnsInHanded_of_change (C := Try.checked) own started (by kernel_rfl) Try.func6
    (ChangeSpec.witness6 (enc := enc) (C := Try.checked) false ⟨#[], #[.slice none 0 0, .int .i64 0], []⟩ 8 (by kernel_rfl) (by kernel_rfl) (by kernel_rfl) (by kernel_rfl)) ?_
  intro W base args ds gs before hval0 hW hcnd _
  have hval : ∀ (j : Nat) t v, Try.f6.params[j]? = some t → args[j]? = some v → Value.okWide Try.prog W .any base t v := hval0
  have hW' := hW
  obtain ⟨p, q, hA0, hV, rfl, hfz, hnd⟩ := hW
  have hA : DataW.TrodAll enc Try.prog W 0 (fun _ => true) true Try.f6.params.toList args.toList ds p := hA0
  rw [Try.params6] at hA hval
  obtain ⟨v0, vs0, d0, ds0, p0, q0, hargs, rfl, rfl, h0, r0⟩ := trodAll_cons hA
  obtain ⟨v1, vs1, d1, ds1, p1, q1, rfl, rfl, rfl, h1, r1⟩ := trodAll_cons r0
  obtain ⟨rfl, rfl, rfl⟩ := trodAll_nil r1
  obtain rfl : args = #[v0, v1] := by cases args; simp_all
  obtain ⟨rfl, rfl⟩ := trodVars_none hV
  refine (walk (H := H) (enc := enc) W base (hval 0 25 v0 rfl rfl) h0 (hval 1 3 v1 rfl rfl) h1).mono fun e W' ⟨he, bel⟩ => ?_
  subst he
  exact ⟨_, rfl, _, _, _, [], _, [], hW', trodAll_mk1 (shut_bool Try.underlying4 _), (trodAll_cons_mk (Below.trod laidOut (by kernel_rfl) (of_decide_eq_true (by kernel_rfl)) h0 bel (lt_of_Trod h0)) (trodAll_cons_mk (Below.trod laidOut (by kernel_rfl) (of_decide_eq_true (by kernel_rfl)) h1 bel (lt_of_Trod h1)) trodAll_mk0)), rfl, bel.frame _, fun h => by cases h⟩

/-- ScannerEntries: for every slice of bytes and every number the law returns true and changes nothing. No condition. -/
theorem proved : Rows.ScannerEntriesSaid :=
  OpenClaim.holds_of_wide 6 Try.f6 rfl rfl rfl rfl rfl rfl rfl ⟨rfl, rfl, rfl, rfl, rfl⟩ rfl rfl rfl rfl rfl (by kernel_rfl) Try.func6 (by kernel_rfl)
    (of_decide_eq_true (by kernel_rfl)) (by unfold Func.isWrapper; first | (rw [if_pos (by decide +kernel)]; kernel_rfl) | (rw [if_neg (by decide +kernel)]; exact ⟨rfl, rfl⟩))
    (fun os started H enc _ => lifted os started H enc)
#print axioms proved
end Go.Proofs.Ytjcdflohkajbcaa.scannerEntries
