/-
  ScannerReads: for every slice of bytes the law returns true and changes nothing. No condition.
-/
import Derived.Test.YtjcdflohkajbcaaOpen
import Derived.Test.YtjcdflohkajbcaaSB
namespace Go.Proofs.Ytjcdflohkajbcaa.scannerReads
open Go.ChangeShapes Go.WideShapes Go.ChangeAt Go.RowKit
open Go.ChangeMaps (open_string shut_string)
set_option linter.unusedVariables false

set_option maxHeartbeats 6400000 in
set_option maxRecDepth 100000 in
theorem walk {H : Type} {enc : TypeId × Value → H} (W : World) (base : Nat) {v0 : Value} {d0 : DataW H} {p0 : List MemPlace} (o0 : Value.okWide Try.prog W .any base 25 v0) (h0 : DataW.Trod enc Try.prog W 0 (fun _ => true) true 25 v0 d0 p0) :
    Calls Try.prog 5 #[v0] W fun e W' => e = .returned (.bool true) ∧ Below W.heap.size W W' := by
  obtain ⟨a1, n1, c1, M, rfl, hM⟩ := open_ba o0 h0
  clear o0 h0
  have hn1 : n1 ≤ 9223372036854775807 := by have := hM.2.2.2; unfold maxLen at this; omega
  by_cases g1 : 3000 < n1
  · have g1' : (3000 : Int) < (n1 : Int) := by omega
    clear hM
    go_enter Try.func5, Try.ntmps5
    go_wp2_with fail
    refine (works_true _).mono ?_
    rintro e w9 ⟨rfl, hb9⟩
    go_wp2_with fail
    go_ret
    exact ⟨rfl, hb9⟩
  · have g1' : (n1 : Int) ≤ 3000 := by omega
    obtain ⟨xs, en, hS⟩ := scanned_exists hM.2.2.1
    have h5 : n1 ≤ 100000 := by omega
    have hsz := own_sz hM.2.2.1 hS.1
    have hxl : (xs.map Prod.snd).length = xs.length := by simp
    have c_all := rall_any a1 n1 c1 M W xs en hM h5 hS
    have c_sc := fun (w : World) (hb : Below W.heap.size W w) (A1 A2 : Option Addr) (d1 d2 n : Nat) (hn : xs.length = n) (h1 : RI w A1 (offs xs)) (h2 : IsRs w A2 (xs.map Prod.snd)) => scanned_true a1 n1 c1 M A1 n d1 A2 d2 w xs en (hM.later hb) h5 hS hn h1 h2
    have c_se := fun (w : World) (hb : Below W.heap.size W w) => rsealed_any a1 n1 c1 M w xs en (hM.later hb) h5 hS
    have c_re := fun (w : World) (hb : Below W.heap.size W w) => rreason_any a1 n1 c1 M w xs en (hM.later hb) h5 hS
    obtain ⟨s, hs⟩ : ∃ s, sealB M (xs.map Prod.snd) en = s := ⟨_, rfl⟩
    obtain ⟨q, hq⟩ : ∃ q, reasonF M (xs.map Prod.snd) en = q := ⟨_, rfl⟩
    rw [hs] at c_se
    rw [hq] at c_re
    have c_sa := fun (w : World) (hb : Below W.heap.size W w) => says_true a1 n1 c1 M w xs en s q (hM.later hb) h5 hS hs hq
    clear hM hS hs hq
    go_enter Try.func5, Try.ntmps5
    go_wp2_with fail
    refine c_all.mono ?_
    rintro e w1 ⟨⟨v1, v2, rfl, oa, ol⟩, hb1⟩
    obtain ⟨A1, d1, rfl, hRI, _⟩ := RI.of_own oa
    obtain ⟨A2, d2, hv2, hRS, _⟩ := IsRs.of_own (rs := xs.map Prod.snd) (by rw [hxl]; exact ol) hsz
    rw [hxl] at hv2
    subst hv2
    have c_sc1 := c_sc w1 hb1 A1 A2 d1 d2 xs.length rfl hRI hRS
    obtain ⟨n2, hn2⟩ : ∃ n2, n2 = xs.length := ⟨_, rfl⟩
    rw [← hn2] at c_sc1 ⊢
    clear hn2 hxl oa ol hRI hRS hsz c_sc c_all
    go_wp2_with fail
    refine c_sc1.mono ?_
    rintro e w2 ⟨rfl, hb2⟩
    have bel2 := b_then hb1 hb2
    clear c_sc1 hb1 hb2
    go_wp2_with fail
    refine (c_se _ bel2).mono ?_
    rintro e w3 ⟨rfl, hb3⟩
    have bel3 := b_then bel2 hb3
    clear c_se bel2 hb3
    go_wp2_with fail
    refine (c_re _ bel3).mono ?_
    rintro e w4 ⟨rfl, hb4⟩
    have bel4 := b_then bel3 hb4
    clear c_re bel3 hb4
    go_wp2_with fail
    refine (c_sa _ bel4).mono ?_
    rintro e w5 ⟨rfl, hb5⟩
    have bel5 := b_then bel4 hb5
    clear c_sa bel4 hb5
    go_wp2_with fail
    refine (works_true _).mono ?_
    rintro e w9 ⟨rfl, hb9⟩
    go_wp2_with fail
    go_ret
    exact ⟨rfl, b_then bel5 hb9⟩

set_option maxRecDepth 100000 in
theorem lifted (os : Os) (started : os.Started) (H : Type) (enc : TypeId × Value → H) :
    ReturnsInHanded {} Try.checked os 5 .any (Rows.scannerReadsSpec.pre6 enc Try.prog Try.f5 Rows.scannerReadsRow.domain false) (Rows.scannerReadsSpec.post enc Try.prog Try.f5 false true false false) := by
  refine returnsInHanded_of_change (C := Try.checked) own started (by kernel_rfl) Try.func5
    (ChangeSpec.witness6 (enc := enc) (C := Try.checked) false ⟨#[], #[.slice none 0 0], []⟩ 8 (by kernel_rfl) (by kernel_rfl) (by kernel_rfl) (by kernel_rfl)) ?_
  intro W base args ds gs before hval0 hW hcnd _
  have hval : ∀ (j : Nat) t v, Try.f5.params[j]? = some t → args[j]? = some v → Value.okWide Try.prog W .any base t v := hval0
  have hW' := hW
  obtain ⟨p, q, hA0, hV, rfl, hfz, hnd⟩ := hW
  have hA : DataW.TrodAll enc Try.prog W 0 (fun _ => true) true Try.f5.params.toList args.toList ds p := hA0
  rw [Try.params5] at hA hval
  obtain ⟨v0, vs0, d0, ds0, p0, q0, hargs, rfl, rfl, h0, r0⟩ := trodAll_cons hA
  obtain ⟨rfl, rfl, rfl⟩ := trodAll_nil r0
  obtain rfl : args = #[v0] := by cases args; simp_all
  obtain ⟨rfl, rfl⟩ := trodVars_none hV
  refine (walk (H := H) (enc := enc) W base (hval 0 25 v0 rfl rfl) h0).mono fun e W' ⟨he, bel⟩ => ?_
  subst he
  exact ⟨_, rfl, _, _, _, [], _, [], hW', trodAll_mk1 (shut_bool Try.underlying4 _), (trodAll_cons_mk (Below.trod laidOut (by kernel_rfl) (of_decide_eq_true (by kernel_rfl)) h0 bel (lt_of_Trod h0)) trodAll_mk0), rfl, bel.frame _, fun h => by cases h⟩

/-- ScannerReads: for every slice of bytes the law returns true and changes nothing. No condition. -/
theorem proved : Rows.ScannerReadsSaid :=
  OpenClaim.holds_of_wide 5 Try.f5 rfl rfl rfl rfl rfl rfl rfl ⟨rfl, rfl, rfl, rfl, rfl⟩ rfl rfl rfl rfl rfl (by kernel_rfl) Try.func5 (by kernel_rfl)
    (of_decide_eq_true (by kernel_rfl)) (by unfold Func.isWrapper; first | (rw [if_pos (by decide +kernel)]; kernel_rfl) | (rw [if_neg (by decide +kernel)]; exact ⟨rfl, rfl⟩))
    (fun os started H enc _ => lifted os started H enc)
#print axioms proved
end Go.Proofs.Ytjcdflohkajbcaa.scannerReads
