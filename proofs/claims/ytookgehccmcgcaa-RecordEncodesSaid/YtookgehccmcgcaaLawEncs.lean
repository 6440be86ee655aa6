/-
  RecordEncodes: for every record the law returns true and changes nothing. No condition.
-/
import Derived.Test.YtookgehccmcgcaaOpen
import Derived.Test.YtookgehccmcgcaaWks
import Derived.Test.YtookgehccmcgcaaArc
namespace Go.Proofs.Ytookgehccmcgcaa.recordEncodes
open Go.ChangeShapes Go.WideShapes Go.ChangeAt Go.RowKit
open Go.ChangeMaps (open_string shut_string)
set_option linter.unusedVariables false

def KN (W : World) (t : Nat) (rv : Array Value) (A1 A2 : Option Addr) (n : Nat) (E : List Int) (w' : World) : Prop := Below W.heap.size W w' ∧ Blk w' t 23 rv ∧ (0 < n → RB w' A1 E) ∧ (0 < n → RB w' A2 E)
abbrev SN (W : World) (t : Nat) (kind sq : Int) (key val : ByteArray) (A1 A2 : Option Addr) (n : Nat) (E : List Int) (w' : World) : Prop := w'.cell? ⟨t, 0, none⟩ = some (.int .i64 kind) ∧ w'.cell? ⟨t, 1, none⟩ = some (.int .i64 sq) ∧ w'.cell? ⟨t, 2, none⟩ = some (.string key) ∧ w'.cell? ⟨t, 3, none⟩ = some (.string val) ∧ KN W t #[.int .i64 kind, .int .i64 sq, .string key, .string val] A1 A2 n E w'
section
variable {W : World} {t : Nat} {kind sq : Int} {key val : ByteArray} {A1 A2 : Option Addr} {n : Nat} {E : List Int} {w w' : World}
theorem SN.mk (h : KN W t #[.int .i64 kind, .int .i64 sq, .string key, .string val] A1 A2 n E w) : SN W t kind sq key val A1 A2 n E w := ⟨h.2.1.cell 0, h.2.1.cell 1, h.2.1.cell 2, h.2.1.cell 3, h⟩
theorem SN.after (h : SN W t kind sq key val A1 A2 n E w) (hb : Below w.heap.size w w') : SN W t kind sq key val A1 A2 n E w' := by
  obtain ⟨_, _, _, _, h1, h2, h3, h4⟩ := h
  exact SN.mk ⟨b_then h1 hb, h2.below hb h2.lt, fun hp => (h3 hp).later hb, fun hp => (h4 hp).later hb⟩
theorem SN.k (h : SN W t kind sq key val A1 A2 n E w) : KN W t #[.int .i64 kind, .int .i64 sq, .string key, .string val] A1 A2 n E w := h.2.2.2.2
theorem KN.r1 {rv : Array Value} (h : KN W t rv A1 A2 n E w) : 0 < n → RB w A1 E := h.2.2.1
theorem KN.r2 {rv : Array Value} (h : KN W t rv A1 A2 n E w) : 0 < n → RB w A2 E := h.2.2.2
end

set_option maxHeartbeats 6400000 in
set_option maxRecDepth 100000 in
theorem walk {H : Type} {enc : TypeId × Value → H} (W : World) (base : Nat) {v0 : Value} {d0 : DataW H} {p0 : List MemPlace} (o0 : Value.okWide Try.prog W .any base 23 v0) (h0 : DataW.Trod enc Try.prog W 0 (fun _ => true) true 23 v0 d0 p0) :
    Calls Try.prog 3 #[v0] W fun e W' => e = .returned (.bool true) ∧ Below W.heap.size W W' := by
  obtain ⟨kind, sq, key, val, rfl, hkm, hvm⟩ := open_rec o0 h0
  clear o0 h0
  by_cases hlg : 1000 < key.size ∨ 1000 < val.size
  · go_enter Try.func3, Try.ntmps3
    go_wp2_with fail
    refine (long_yes kind sq key val _ hkm hvm hlg).mono ?_
    rintro e w1 ⟨rfl, hb1⟩
    go_wp2_with fail
    refine (works_true _).mono ?_
    rintro e w9 ⟨rfl, hb9⟩
    go_wp2_with fail
    go_ret
    exact ⟨rfl, b_then (b_then (b_alloc (Below.refl _ _) _) hb1) hb9⟩
  · have hall : ∃ (N Q : Int) (n : Nat) (E : List Int), E.length = n ∧ n ≤ 560 ∧
        (∀ w : World, Calls Try.prog 13 #[.agg #[.int .i64 kind, .int .i64 sq, .string key, .string val]] w fun e w' => e = .returned (.tuple #[.int .i64 N, .int .i64 Q]) ∧ Below w.heap.size w w') ∧ (∀ w : World, Calls Try.prog 14 #[.agg #[.int .i64 kind, .int .i64 sq, .string key, .string val]] w fun e w' => e = .returned (.tuple #[.int .i64 N, .int .i64 Q]) ∧ Below w.heap.size w w') ∧
        (∀ w : World, Calls Try.prog 15 #[.agg #[.int .i64 kind, .int .i64 sq, .string key, .string val]] w fun e w' => (∃ A c, e = .returned (.tuple #[.slice A n c, .int .i64 Q]) ∧ (0 < n → RB w' A E)) ∧ Below w.heap.size w w') ∧ (∀ w : World, Calls Try.prog 16 #[.agg #[.int .i64 kind, .int .i64 sq, .string key, .string val]] w fun e w' => (∃ A c, e = .returned (.tuple #[.slice A n c, .int .i64 Q]) ∧ (0 < n → RB w' A E)) ∧ Below w.heap.size w w') ∧
        (∀ w : World, Calls Try.prog 17 #[.agg #[.int .i64 kind, .int .i64 sq, .string key, .string val]] w fun e w' => e = .returned (.int .i64 Q) ∧ Below w.heap.size w w') ∧ (∀ w : World, Calls Try.prog 18 #[.agg #[.int .i64 kind, .int .i64 sq, .string key, .string val]] w fun e w' => e = .returned (.int .i64 Q) ∧ Below w.heap.size w w') := by
      by_cases hok : Rc.Ok ⟨kind, sq, key, val⟩
      · refine ⟨_, _, Rc.size ⟨kind, sq, key, val⟩, encF ⟨kind, sq, key, val⟩, encF_length _, hok.le, fun w => rsize_yes _ hok w, fun w => rsize4_yes _ hok w, fun w => ?_, fun w => ?_, fun w => rchk_yes _ hok w, fun w => rchk4_yes _ hok w⟩
        · refine (ren_yes _ hok w).mono ?_
          rintro e w' ⟨⟨g, rfl, hC⟩, hb⟩
          exact ⟨⟨_, _, rfl, fun _ => hC.rb⟩, hb⟩
        · refine (ren4_yes _ hok w).mono ?_
          rintro e w' ⟨⟨v', rfl, hI⟩, hb⟩
          obtain ⟨A, c, rfl, hR⟩ := RB.of_own hI
          exact ⟨⟨A, c, by rw [encF_length], fun _ => hR⟩, hb⟩
      · refine ⟨_, _, 0, [], rfl, by omega, fun w => rsize_no _ hok hkm hvm w, fun w => rsize4_no _ hok hkm hvm w, fun w => ?_, fun w => ?_, fun w => rchk_no _ hok hkm hvm w, fun w => rchk4_no _ hok hkm hvm w⟩
        · refine (ren_no _ hok hkm hvm w).mono ?_
          rintro e w' ⟨rfl, hb⟩
          exact ⟨⟨none, 0, rfl, fun h => absurd h (by omega)⟩, hb⟩
        · refine (ren4_no _ hok hkm hvm w).mono ?_
          rintro e w' ⟨rfl, hb⟩
          exact ⟨⟨none, 0, rfl, fun h => absurd h (by omega)⟩, hb⟩
    obtain ⟨N, Q, n, E, hEl, hn560, s1, s2, e1, e2, k1, k2⟩ := hall
    go_enter Try.func3, Try.ntmps3
    go_wp2_with fail
    refine (long_no kind sq key val _ (by omega) (by omega)).mono ?_
    rintro e w1 ⟨rfl, hb1⟩
    have hY1 : Below W.heap.size W w1 := b_then (by repeat first | exact Below.refl _ _ | apply Below.drew | apply b_alloc) hb1
    have hR1 : Blk w1 (W.heap.size) 23 #[.int .i64 kind, .int .i64 sq, .string key, .string val] := (hb1.block _ (by simp <;> omega)).trans (by repeat (first | ((with_reducible refine alloc_here' ?_); (simp; done)) | (with_reducible apply alloc_old') | (with_reducible apply drew_old)))
    have bel1 := hY1
    clear hb1
    have cR := hR1.cell
    have lR := hR1.lt
    go_wp2_with fail
    refine (s1 _).mono ?_
    rintro e w2 ⟨rfl, hb2⟩
    have hY2 : Below w1.heap.size w1 w2 := b_then (by repeat first | exact Below.refl _ _ | apply Below.drew | apply b_alloc) hb2
    have hR2 := hR1.below hY2 hR1.lt
    have bel2 := b_then bel1 hY2
    clear hR1 bel1 hb2 cR lR hY2
    have cR := hR2.cell
    have lR := hR2.lt
    go_wp2_with fail
    refine (s2 _).mono ?_
    rintro e w3 ⟨rfl, hb3⟩
    have hY3 : Below w2.heap.size w2 w3 := b_then (by repeat first | exact Below.refl _ _ | apply Below.drew | apply b_alloc) hb3
    have hR3 := hR2.below hY3 hR2.lt
    have bel3 := b_then bel2 hY3
    clear hR2 bel2 hb3 cR lR hY3
    have cR := hR3.cell
    have lR := hR3.lt
    go_wp2_with fail
    refine (e1 _).mono ?_
    rintro e w4 ⟨⟨A1, c1, rfl, r1⟩, hb4⟩
    have hY4 : Below w3.heap.size w3 w4 := b_then (by repeat first | exact Below.refl _ _ | apply Below.drew | apply b_alloc) hb4
    have hR4 := hR3.below hY4 hR3.lt
    have bel4 := b_then bel3 hY4
    clear hR3 bel3 hb4 cR lR hY4
    have cR := hR4.cell
    have lR := hR4.lt
    go_wp2_with fail
    refine (e2 _).mono ?_
    rintro e w5 ⟨⟨A2, c2, rfl, r2⟩, hb5⟩
    have hY5k : Below w4.heap.size w4 w5 := b_then (by repeat first | exact Below.refl _ _ | apply Below.drew | apply b_alloc) hb5
    have r1k := fun hp => RB.later (r1 hp) hY5k
    clear hY5k
    have hY5 : Below w4.heap.size w4 w5 := b_then (by repeat first | exact Below.refl _ _ | apply Below.drew | apply b_alloc) hb5
    have hR5 := hR4.below hY5 hR4.lt
    have bel5 := b_then bel4 hY5
    clear hR4 bel4 hb5 cR lR hY5
    have cR := hR5.cell
    have lR := hR5.lt
    clear s1 s2 e1 e2
    go_wp2_with fail
    have hK : KN W W.heap.size #[.int .i64 kind, .int .i64 sq, .string key, .string val] A1 A2 n E w5 := ⟨bel5, hR5, r1k, r2⟩
    have hS0 := (SN.mk hK).after (Below.drew (Below.refl _ _))
    have hEn : n ≤ 9223372036854775807 := by omega
    clear hK bel5 hR5 r1 r1k r2 cR lR
    go_region_held3 (fun w' => w'.cell? ⟨W.heap.size, 0, none⟩ = some (.int .i64 kind) ∧ w'.cell? ⟨W.heap.size, 1, none⟩ = some (.int .i64 sq) ∧ w'.cell? ⟨W.heap.size, 2, none⟩ = some (.string key) ∧ w'.cell? ⟨W.heap.size, 3, none⟩ = some (.string val) ∧ KN W W.heap.size #[.int .i64 kind, .int .i64 sq, .string key, .string val] A1 A2 n E w') (first | (with_reducible assumption) | (with_reducible exact hS0)) (first
      | (go_at_call 17; (with_reducible refine (k1 _).mono ?_); rintro e w' ⟨rfl, hbk⟩; have hSk := SN.after (by assumption) hbk)
      | (go_at_call 18; (with_reducible refine (k2 _).mono ?_); rintro e w' ⟨rfl, hbk⟩; have hSk := SN.after (by assumption) hbk)
      | (go_at_call 19; (with_reducible refine (same_any A1 A2 n c1 c2 E _ (KN.r1 (SN.k (by assumption))) (KN.r2 (SN.k (by assumption))) hEl hEn).mono ?_); rintro e w' ⟨rfl, hbk⟩; have hSk := SN.after (by assumption) hbk)
      | (go_at_call 12; (with_reducible refine (works_true _).mono ?_); rintro e w' ⟨rfl, hbk⟩; have hSk := SN.after (by assumption) hbk))
    all_goals
      (rename_i hEnd
       go_wp2_with fail
       go_ret
       exact ⟨rfl, hEnd.2.2.2.2.1⟩)

set_option maxRecDepth 100000 in
theorem lifted (os : Os) (started : os.Started) (H : Type) (enc : TypeId × Value → H) :
    ReturnsInHanded {} Try.checked os 3 .any (Rows.recordEncodesSpec.pre6 enc Try.prog Try.f3 Rows.recordEncodesRow.domain false) (Rows.recordEncodesSpec.post enc Try.prog Try.f3 false true false false) := by
  refine returnsInHanded_of_change (C := Try.checked) own started (by kernel_rfl) Try.func3
    (ChangeSpec.witness6 (enc := enc) (C := Try.checked) false ⟨#[], #[.agg #[.int .i64 0, .int .i64 0, .string ⟨#[]⟩, .string ⟨#[]⟩]], []⟩ 8 (by kernel_rfl) (by kernel_rfl) (by kernel_rfl) (by kernel_rfl)) ?_
  intro W base args ds gs before hval0 hW hcnd _
  have hval : ∀ (j : Nat) t v, Try.f3.params[j]? = some t → args[j]? = some v → Value.okWide Try.prog W .any base t v := hval0
  have hW' := hW
  obtain ⟨p, q, hA0, hV, rfl, hfz, hnd⟩ := hW
  have hA : DataW.TrodAll enc Try.prog W 0 (fun _ => true) true Try.f3.params.toList args.toList ds p := hA0
  rw [Try.params3] at hA hval
  obtain ⟨v0, vs0, d0, ds0, p0, q0, hargs, rfl, rfl, h0, r0⟩ := trodAll_cons hA
  obtain ⟨rfl, rfl, rfl⟩ := trodAll_nil r0
  obtain rfl : args = #[v0] := by cases args; simp_all
  obtain ⟨rfl, rfl⟩ := trodVars_none hV
  refine (walk (H := H) (enc := enc) W base (hval 0 23 v0 rfl rfl) h0).mono fun e W' ⟨he, bel⟩ => ?_
  subst he
  exact ⟨_, rfl, _, _, _, [], _, [], hW', trodAll_mk1 (shut_bool Try.underlying4 _), (trodAll_cons_mk (Below.trod laidOut (by kernel_rfl) (of_decide_eq_true (by kernel_rfl)) h0 bel (lt_of_Trod h0)) trodAll_mk0), rfl, bel.frame _, fun h => by cases h⟩

/-- RecordEncodes: for every record the law returns true and changes nothing. No condition. -/
theorem proved : Rows.RecordEncodesSaid :=
  OpenClaim.holds_of_wide 3 Try.f3 rfl rfl rfl rfl rfl rfl rfl ⟨rfl, rfl, rfl, rfl, rfl⟩ rfl rfl rfl rfl rfl (by kernel_rfl) Try.func3 (by kernel_rfl)
    (of_decide_eq_true (by kernel_rfl)) (by unfold Func.isWrapper; first | (rw [if_pos (by decide +kernel)]; kernel_rfl) | (rw [if_neg (by decide +kernel)]; exact ⟨rfl, rfl⟩))
    (fun os started H enc _ => lifted os started H enc)
#print axioms proved
end Go.Proofs.Ytookgehccmcgcaa.recordEncodes
