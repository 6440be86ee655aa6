/-
  FooterEncodes: for every footer the law returns true and changes nothing. No condition.
-/
import Derived.Test.YtiobnhdcapfhgaaOpen
import Derived.Test.YtiobnhdcapfhgaaArg
import Derived.Test.YtiobnhdcapfhgaaFwk
import Derived.Test.YtiobnhdcapfhgaaFdr
namespace Go.Proofs.Ytiobnhdcapfhgaa.footerEncodes
open Go.ChangeShapes Go.WideShapes Go.ChangeAt Go.RowKit
open Go.ChangeMaps (open_string shut_string)
set_option linter.unusedVariables false

section
variable {H : Type} {enc : TypeId × Value → H} {w : World} {base b0 : Nat} {r : Reach} {v : Value} {d : DataW H} {p : List MemPlace}
set_option maxRecDepth 100000 in
theorem open_foot {spare : Nat → Bool} {held : Bool} (hv : Value.okWide Try.prog w r b0 23 v) (h : DataW.Trod enc Try.prog w base spare held 23 v d p) :
    ∃ c l : Int, v = .agg #[.int .i64 c, .int .i64 l] := by
  obtain ⟨cs, rfl, hsz, hf⟩ := open_struct Try.underlying23 (by kernel_rfl) (by kernel_rfl) hv h
  obtain ⟨x0, n0, y0, e0, g0⟩ := hf 0 _ rfl
  obtain ⟨x1, n1, y1, e1, g1⟩ := hf 1 _ rfl
  obtain ⟨a0, q0, _, _⟩ := DataW.trod_int Try.underlying3 g0
  obtain ⟨a1, q1, _, _⟩ := DataW.trod_int Try.underlying2 g1
  simp only [List.cons.injEq, and_true] at q0 q1
  subst q0 q1
  refine ⟨a0, a1, congrArg Value.agg ?_⟩
  apply Array.ext_getElem?
  intro i
  match i with
  | 0 => simpa using e0
  | 1 => simpa using e1
  | n + 2 => rw [Array.getElem?_eq_none (by simp at hsz; omega)]; simp
end
def KE (W : World) (t : Nat) (c l : Int) (n : Nat) (A1 A2 : Option Addr) (X : List Int) (w' : World) : Prop := Below W.heap.size W w' ∧ Blk w' t 23 #[.int .i64 c, .int .i64 l] ∧ (0 < n → RB w' A1 X) ∧ (0 < n → RB w' A2 X)
abbrev SE (W : World) (t : Nat) (c l : Int) (n : Nat) (A1 A2 : Option Addr) (X : List Int) (w' : World) : Prop := w'.cell? ⟨t, 0, none⟩ = some (.int .i64 c) ∧ w'.cell? ⟨t, 1, none⟩ = some (.int .i64 l) ∧ KE W t c l n A1 A2 X w'
theorem SE.mk {W : World} {t : Nat} {c l : Int} {n : Nat} {A1 A2 : Option Addr} {X : List Int} {w' : World} (h : KE W t c l n A1 A2 X w') : SE W t c l n A1 A2 X w' := ⟨h.2.1.cell 0, h.2.1.cell 1, h⟩
theorem SE.after {W : World} {t : Nat} {c l : Int} {n : Nat} {A1 A2 : Option Addr} {X : List Int} {w w' : World} (h : SE W t c l n A1 A2 X w) (hb : Below w.heap.size w w') : SE W t c l n A1 A2 X w' := by
  obtain ⟨_, _, h1, h2, h3, h4⟩ := h
  exact SE.mk ⟨b_then h1 hb, h2.below hb h2.lt, fun hp => (h3 hp).later hb, fun hp => (h4 hp).later hb⟩

set_option maxHeartbeats 6400000 in
set_option maxRecDepth 100000 in
theorem walk {H : Type} {enc : TypeId × Value → H} (W : World) (base : Nat) {v0 : Value} {d0 : DataW H} {p0 : List MemPlace} (o0 : Value.okWide Try.prog W .any base 23 v0) (h0 : DataW.Trod enc Try.prog W 0 (fun _ => true) true 23 v0 d0 p0) :
    Calls Try.prog 3 #[v0] W fun e W' => e = .returned (.bool true) ∧ Below W.heap.size W W' := by
  obtain ⟨c, l, rfl⟩ := open_foot o0 h0
  clear o0 h0
  have hall : ∃ (n : Nat) (E Q : Int) (X : List Int), X.length = n ∧ n ≤ 16 ∧ (∀ w : World, Calls Try.prog 11 #[.agg #[.int .i64 c, .int .i64 l]] w fun e w' => (∃ (A : Option Addr) (cap : Nat), e = .returned (.tuple #[.slice A n cap, .int .i64 E]) ∧ (0 < n → RB w' A X)) ∧ Below w.heap.size w w') ∧ (∀ w : World, Calls Try.prog 12 #[.agg #[.int .i64 c, .int .i64 l]] w fun e w' => (∃ (A : Option Addr) (cap : Nat), e = .returned (.tuple #[.slice A n cap, .int .i64 E]) ∧ (0 < n → RB w' A X)) ∧ Below w.heap.size w w') ∧ (∀ w : World, Calls Try.prog 13 #[.agg #[.int .i64 c, .int .i64 l]] w fun e w' => e = .returned (.int .i64 Q) ∧ Below w.heap.size w w') ∧ (∀ w : World, Calls Try.prog 14 #[.agg #[.int .i64 c, .int .i64 l]] w fun e w' => e = .returned (.int .i64 Q) ∧ Below w.heap.size w w') := by
    by_cases hok : FOk c l
    · exact ⟨16, 0, 0, fenc c l, rfl, Nat.le_refl _, fun w => (fen_yes hok w).mono fun e w' h => ⟨by obtain ⟨⟨g, cap, he, _, _, _, hI⟩, _⟩ := h; exact ⟨_, cap, he, fun _ => hI.rb⟩, h.2⟩, fun w => (rfen_yes hok w).mono fun e w' h => ⟨by obtain ⟨⟨g, cap, he, _, _, _, hI⟩, _⟩ := h; exact ⟨_, cap, he, fun _ => hI.rb⟩, h.2⟩, fun w => fchk_yes hok w, fun w => rfchk_yes hok w⟩
    · exact ⟨0, 2, 2, [], rfl, by omega, fun w => (fen_no hok w).mono fun e w' h => ⟨⟨none, 0, h.1, fun hp => absurd hp (by omega)⟩, h.2⟩, fun w => (rfen_no hok w).mono fun e w' h => ⟨⟨none, 0, h.1, fun hp => absurd hp (by omega)⟩, h.2⟩, fun w => fchk_no hok w, fun w => rfchk_no hok w⟩
  obtain ⟨n, E, Q, X, hXl, hn16, he1, he2, hc1, hc2⟩ := hall
  go_enter Try.func3, Try.ntmps3
  go_wp2_with fail
  refine (he1 _).mono ?_
  rintro e w1 ⟨⟨A1, cap1, rfl, hR1⟩, hb1⟩
  have hX1 := (Blk.new W 23 #[.int .i64 c, .int .i64 l]).below hb1 (Blk.new W _ _).lt
  have cX1 := hX1.cell
  have bel1 := b_then (b_alloc (Below.refl _ _) (.cells #[.int .i64 c, .int .i64 l] 23)) hb1
  clear he1 hb1
  go_wp2_with fail
  refine (he2 _).mono ?_
  rintro e w2 ⟨⟨A2, cap2, rfl, hR2⟩, hb2⟩
  have hX2 := hX1.below hb2 hX1.lt
  have cX2 := hX2.cell
  have bel2 := b_then bel1 hb2
  have hS0 := (SE.mk (show KE W W.heap.size c l n A1 A2 X w2 from ⟨bel2, hX2, fun hp => (hR1 hp).later hb2, hR2⟩)).after (Below.drew (Below.refl _ _))
  have heq : ∀ w : World, SE W W.heap.size c l n A1 A2 X w → Calls Try.prog 15 #[.slice A1 n cap1, .slice A2 n cap2] w fun e w' => e = .returned (.bool true) ∧ Below w.heap.size w w' := by
    intro w h
    have hq := seq_any A1 A2 n n cap1 cap2 X X w h.2.2.2.2.1 h.2.2.2.2.2 hXl hXl (by unfold maxLen; omega) (by unfold maxLen; omega)
    rw [show decide (X = X) = true from decide_eq_true rfl] at hq
    exact hq
  clear he2 hX1 cX1 bel1 hb2 hX2 bel2 hR1 hR2 hXl hn16
  go_wp2_with fail
  go_region_held3 (fun w' => w'.cell? ⟨W.heap.size, 0, none⟩ = some (.int .i64 c) ∧ w'.cell? ⟨W.heap.size, 1, none⟩ = some (.int .i64 l) ∧ KE W W.heap.size c l n A1 A2 X w') (first | (with_reducible assumption) | (with_reducible exact hS0) | go_keep) (first
    | (go_at_call 13; (with_reducible refine (hc1 _).mono ?_); rintro e w' ⟨rfl, hbk⟩; have hSk := SE.after (by assumption) hbk)
    | (go_at_call 14; (with_reducible refine (hc2 _).mono ?_); rintro e w' ⟨rfl, hbk⟩; have hSk := SE.after (by assumption) hbk)
    | (go_at_call 15; (with_reducible refine (heq _ (by assumption)).mono ?_); rintro e w' ⟨rfl, hbk⟩; have hSk := SE.after (by assumption) hbk)
    | (go_at_call 16; (with_reducible refine (works_true _).mono ?_); rintro e w' ⟨rfl, hbk⟩; have hSk := SE.after (by assumption) hbk))
  all_goals
    (rename_i hEnd
     go_wp2_with fail
     go_ret
     exact ⟨rfl, hEnd.2.2.1⟩)

set_option maxRecDepth 100000 in
theorem lifted (os : Os) (started : os.Started) (H : Type) (enc : TypeId × Value → H) :
    ReturnsInHanded {} Try.checked os 3 .any (Rows.footerEncodesSpec.pre6 enc Try.prog Try.f3 Rows.footerEncodesRow.domain false) (Rows.footerEncodesSpec.post enc Try.prog Try.f3 false true false false) := by
  refine returnsInHanded_of_change (C := Try.checked) own started (by kernel_rfl) Try.func3
    (ChangeSpec.witness6 (enc := enc) (C := Try.checked) false ⟨#[], #[.agg #[.int .i64 0, .int .i64 0]], []⟩ 8 (by kernel_rfl) (by kernel_rfl) (by kernel_rfl) (by kernel_rfl)) ?_
  intro W base args ds gs before hval0 hW hcnd _
  have hval : ∀ (j : Nat) t v, Try.f3.params[j]? = some t → args[j]? = some v → Value.okWide Try.prog W .any base t v := hval0
  have hW' := hW
  obtain ⟨p, q, hA0, hV, rfl, hfz, hnd⟩ := hW
  have hA : DataW.TrodAll enc Try.prog W 0 (fun _ => true) true Try.f3.params.toList args.toList ds p := hA0
  rw [Try.params3] at hA hval
  obtain ⟨v0, vs0, d0, ds0, p0, q0, hargs, rfl, rfl, h0, r0⟩ := trodAll_cons hA
  obtain ⟨rfl, rfl, rfl⟩ := trodAll_nil r0
  obtain rfl : args = #[v0] := by cases args; simp_all
  obtain ⟨rfl, rfl⟩ := trodVars_none hV
  refine (walk (H := H) (enc := enc) W base (hval 0 23 v0 rfl rfl) h0).mono fun e W' ⟨he, bel⟩ => ?_
  subst he
  exact ⟨_, rfl, _, _, _, [], _, [], hW', trodAll_mk1 (shut_bool Try.underlying4 _), (trodAll_cons_mk (Below.trod laidOut (by kernel_rfl) (of_decide_eq_true (by kernel_rfl)) h0 bel (lt_of_Trod h0)) trodAll_mk0), rfl, bel.frame _, fun h => by cases h⟩

/-- FooterEncodes: for every footer the law returns true and changes nothing. No condition. -/
theorem proved : Rows.FooterEncodesSaid :=
  OpenClaim.holds_of_wide 3 Try.f3 rfl rfl rfl rfl rfl rfl rfl ⟨rfl, rfl, rfl, rfl, rfl⟩ rfl rfl rfl rfl rfl (by kernel_rfl) Try.func3 (by kernel_rfl)
    (of_decide_eq_true (by kernel_rfl)) (by unfold Func.isWrapper; first | (rw [if_pos (by decide +kernel)]; kernel_rfl) | (rw [if_neg (by decide +kernel)]; exact ⟨rfl, rfl⟩))
    (fun os started H enc _ => lifted os started H enc)
#print axioms proved
end Go.Proofs.Ytiobnhdcapfhgaa.footerEncodes
