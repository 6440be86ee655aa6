/-
  RecordEntries: for every record and every two numbers the law returns true and changes nothing. No condition.
-/
import Derived.Test.YtookgehccmcgcaaOpen
import Derived.Test.YtookgehccmcgcaaWks
import Derived.Test.YtookgehccmcgcaaArc
namespace Go.Proofs.Ytookgehccmcgcaa.recordEntries
open Go.ChangeShapes Go.WideShapes Go.ChangeAt Go.RowKit
open Go.ChangeMaps (open_string shut_string)
set_option linter.unusedVariables false

def KT (W : World) (t s u : Nat) (rv ev : Array Value) (w' : World) : Prop := Below W.heap.size W w' ∧ Blk w' t 23 rv ∧ Blk w' s 38 ev ∧ Blk w' u 38 ev
abbrev ST (W : World) (t s u : Nat) (kind sq : Int) (key val : ByteArray) (x0 : Int) (x1 : ByteArray) (x2 : Bool) (x3 x4 x5 : Int) (w' : World) : Prop := w'.cell? ⟨t, 2, none⟩ = some (.string key) ∧ w'.cell? ⟨t, 3, none⟩ = some (.string val) ∧ w'.cell? ⟨s, 0, none⟩ = some (.int .i64 x0) ∧ w'.cell? ⟨s, 1, none⟩ = some (.string x1) ∧ w'.cell? ⟨s, 2, none⟩ = some (.bool x2) ∧ w'.cell? ⟨s, 3, none⟩ = some (.int .i64 x3) ∧ w'.cell? ⟨s, 4, none⟩ = some (.int .i64 x4) ∧ w'.cell? ⟨s, 5, none⟩ = some (.int .i64 x5) ∧ w'.cell? ⟨u, 0, none⟩ = some (.int .i64 x0) ∧ w'.cell? ⟨u, 1, none⟩ = some (.string x1) ∧ w'.cell? ⟨u, 2, none⟩ = some (.bool x2) ∧ w'.cell? ⟨u, 3, none⟩ = some (.int .i64 x3) ∧ w'.cell? ⟨u, 4, none⟩ = some (.int .i64 x4) ∧ w'.cell? ⟨u, 5, none⟩ = some (.int .i64 x5) ∧ KT W t s u (#[.int .i64 kind, .int .i64 sq, .string key, .string val]) (#[.int .i64 x0, .string x1, .bool x2, .int .i64 x3, .int .i64 x4, .int .i64 x5]) w'
theorem ST.mk {W : World} {t s u : Nat} {kind sq : Int} {key val : ByteArray} {x0 : Int} {x1 : ByteArray} {x2 : Bool} {x3 x4 x5 : Int} {w' : World} (h : KT W t s u (#[.int .i64 kind, .int .i64 sq, .string key, .string val]) (#[.int .i64 x0, .string x1, .bool x2, .int .i64 x3, .int .i64 x4, .int .i64 x5]) w') : ST W t s u kind sq key val x0 x1 x2 x3 x4 x5 w' :=
  ⟨h.2.1.cell 2, h.2.1.cell 3, h.2.2.1.cell 0, h.2.2.1.cell 1, h.2.2.1.cell 2, h.2.2.1.cell 3, h.2.2.1.cell 4, h.2.2.1.cell 5, h.2.2.2.cell 0, h.2.2.2.cell 1, h.2.2.2.cell 2, h.2.2.2.cell 3, h.2.2.2.cell 4, h.2.2.2.cell 5, h⟩
theorem ST.after {W : World} {t s u : Nat} {kind sq : Int} {key val : ByteArray} {x0 : Int} {x1 : ByteArray} {x2 : Bool} {x3 x4 x5 : Int} {w w' : World} (h : ST W t s u kind sq key val x0 x1 x2 x3 x4 x5 w) (hb : Below w.heap.size w w') : ST W t s u kind sq key val x0 x1 x2 x3 x4 x5 w' := by
  obtain ⟨_, _, _, _, _, _, _, _, _, _, _, _, _, _, h1, h2, h3, h4⟩ := h
  exact ST.mk ⟨b_then h1 hb, h2.below hb h2.lt, h3.below hb h3.lt, h4.below hb h4.lt⟩

set_option maxHeartbeats 6400000 in
set_option maxRecDepth 100000 in
theorem walk {H : Type} {enc : TypeId × Value → H} (W : World) (base : Nat) {v0 v1 v2 : Value} {d0 d1 d2 : DataW H} {p0 p1 p2 : List MemPlace} (o0 : Value.okWide Try.prog W .any base 23 v0) (h0 : DataW.Trod enc Try.prog W 0 (fun _ => true) true 23 v0 d0 p0) (o1 : Value.okWide Try.prog W .any base 3 v1) (h1 : DataW.Trod enc Try.prog W 0 (fun _ => true) true 3 v1 d1 p1) (o2 : Value.okWide Try.prog W .any base 3 v2) (h2 : DataW.Trod enc Try.prog W 0 (fun _ => true) true 3 v2 d2 p2) :
    Calls Try.prog 5 #[v0, v1, v2] W fun e W' => e = .returned (.bool true) ∧ Below W.heap.size W W' := by
  obtain ⟨kind, sq, key, val, rfl, hkm, hvm⟩ := open_rec o0 h0
  clear o0 h0
  obtain ⟨slot, rfl, rfl, rfl, ws⟩ := open_int Try.underlying3 o1 h1
  obtain ⟨off, rfl, rfl, rfl, wf⟩ := open_int Try.underlying3 o2 h2
  have bs := bounds_i64 ws
  have bf := bounds_i64 wf
  clear ws wf h1 o1 h2 o2
  by_cases hlg : 1000 < key.size ∨ 1000 < val.size
  · go_enter Try.func5, Try.ntmps5
    go_wp2_with fail
    refine (long_yes kind sq key val _ hkm hvm hlg).mono ?_
    rintro e w1 ⟨rfl, hb1⟩
    go_wp2_with fail
    refine (works_true _).mono ?_
    rintro e w9 ⟨rfl, hb9⟩
    go_wp2_with fail
    go_ret
    exact ⟨rfl, b_then (b_then (b_alloc (Below.refl _ _) _) hb1) hb9⟩
  · have hall : ∃ (x0 : Int) (x1 : ByteArray) (x2 : Bool) (x3 x4 x5 Q : Int),
        (∀ w : World, Calls Try.prog 22 #[.agg #[.int .i64 kind, .int .i64 sq, .string key, .string val], .int .i64 slot, .int .i64 off] w fun e w' => e = .returned (.tuple #[.agg #[.int .i64 x0, .string x1, .bool x2, .int .i64 x3, .int .i64 x4, .int .i64 x5], .int .i64 Q]) ∧ Below w.heap.size w w') ∧ (∀ w : World, Calls Try.prog 23 #[.agg #[.int .i64 kind, .int .i64 sq, .string key, .string val], .int .i64 slot, .int .i64 off] w fun e w' => e = .returned (.tuple #[.agg #[.int .i64 x0, .string x1, .bool x2, .int .i64 x3, .int .i64 x4, .int .i64 x5], .int .i64 Q]) ∧ Below w.heap.size w w') := by
      by_cases hok : Rc.Ok ⟨kind, sq, key, val⟩
      · by_cases ho : slot < 0 ∨ 32 ≤ slot ∨ off < 0 ∨ 8192 < off
        · exact ⟨_, _, _, _, _, _, _, fun w => entry_out _ slot off hok ho w, fun w => entry4_out _ slot off hok ho w⟩
        · exact ⟨_, _, _, _, _, _, _, fun w => entry_yes _ slot off hok (by omega) (by omega) (by omega) (by omega) w, fun w => entry4_yes _ slot off hok (by omega) (by omega) (by omega) (by omega) w⟩
      · exact ⟨_, _, _, _, _, _, _, fun w => entry_bad _ slot off hok hkm hvm w, fun w => entry4_bad _ slot off hok hkm hvm w⟩
    obtain ⟨x0, x1, x2, x3, x4, x5, Q, e1, e2⟩ := hall
    have k1 := fun w => cost_any key val (by omega) (by omega) w
    have k2 := fun w => cost4_any key val (by omega) (by omega) w
    go_enter Try.func5, Try.ntmps5
    go_wp2_with fail
    refine (long_no kind sq key val _ (by omega) (by omega)).mono ?_
    rintro e w1 ⟨rfl, hb1⟩
    have hY1 : Below W.heap.size W w1 := b_then (by repeat first | exact Below.refl _ _ | apply Below.drew | apply b_alloc) hb1
    have hR1 : Blk w1 (W.heap.size) 23 #[.int .i64 kind, .int .i64 sq, .string key, .string val] := (hb1.block _ (by simp <;> omega)).trans (by repeat (first | ((with_reducible refine alloc_here' ?_); (simp; done)) | (with_reducible apply alloc_old') | (with_reducible apply drew_old)))
    have bel1 := hY1
    clear hb1
    have cR := hR1.cell
    have lR := hR1.lt
    go_wp2_with fail
    refine (e1 _).mono ?_
    rintro e w2 ⟨rfl, hb2⟩
    have hY2 : Below w1.heap.size w1 w2 := b_then (by repeat first | exact Below.refl _ _ | apply Below.drew | apply b_alloc) hb2
    have hR2 := hR1.below hY2 hR1.lt
    have bel2 := b_then bel1 hY2
    clear hR1 bel1 hb2 cR lR hY2
    have cR := hR2.cell
    have lR := hR2.lt
    go_wp2_with fail
    refine (e2 _).mono ?_
    rintro e w3 ⟨rfl, hb3⟩
    have hY3 : Below w2.heap.size w2 w3 := b_then (by repeat first | exact Below.refl _ _ | apply Below.drew | apply b_alloc) hb3
    have hR3 := hR2.below hY3 hR2.lt
    have hP3 : Blk w3 (w2.heap.size) 38 #[.int .i64 x0, .string x1, .bool x2, .int .i64 x3, .int .i64 x4, .int .i64 x5] := (hb3.block _ (by simp <;> omega)).trans (by repeat (first | ((with_reducible refine alloc_here' ?_); (simp; done)) | (with_reducible apply alloc_old') | (with_reducible apply drew_old)))
    have bel3 := b_then bel2 hY3
    clear hR2 bel2 hb3 cR lR hY3
    have cR := hR3.cell
    have lR := hR3.lt
    have cP := hP3.cell
    have lP := hP3.lt
    have hQ3 := Blk.new w3 38 #[.int .i64 x0, .string x1, .bool x2, .int .i64 x3, .int .i64 x4, .int .i64 x5]
    have cQ := hQ3.cell
    clear e1 e2
    go_wp2_with fail
    have hK : KT W W.heap.size w2.heap.size w3.heap.size (#[.int .i64 kind, .int .i64 sq, .string key, .string val]) (#[.int .i64 x0, .string x1, .bool x2, .int .i64 x3, .int .i64 x4, .int .i64 x5]) (w3.alloc (.cells #[.int .i64 x0, .string x1, .bool x2, .int .i64 x3, .int .i64 x4, .int .i64 x5] 38)) := ⟨b_alloc bel3 _, hR3.alloc _, hP3.alloc _, hQ3⟩
    have hS0 := (ST.mk hK).after (Below.drew (Below.refl _ _))
    clear hK bel3 hR3 hP3 hQ3 cQ cR lR cP lP
    go_region_held3 (fun w' => w'.cell? ⟨W.heap.size, 2, none⟩ = some (.string key) ∧ w'.cell? ⟨W.heap.size, 3, none⟩ = some (.string val) ∧ w'.cell? ⟨w2.heap.size, 0, none⟩ = some (.int .i64 x0) ∧ w'.cell? ⟨w2.heap.size, 1, none⟩ = some (.string x1) ∧ w'.cell? ⟨w2.heap.size, 2, none⟩ = some (.bool x2) ∧ w'.cell? ⟨w2.heap.size, 3, none⟩ = some (.int .i64 x3) ∧ w'.cell? ⟨w2.heap.size, 4, none⟩ = some (.int .i64 x4) ∧ w'.cell? ⟨w2.heap.size, 5, none⟩ = some (.int .i64 x5) ∧ w'.cell? ⟨w3.heap.size, 0, none⟩ = some (.int .i64 x0) ∧ w'.cell? ⟨w3.heap.size, 1, none⟩ = some (.string x1) ∧ w'.cell? ⟨w3.heap.size, 2, none⟩ = some (.bool x2) ∧ w'.cell? ⟨w3.heap.size, 3, none⟩ = some (.int .i64 x3) ∧ w'.cell? ⟨w3.heap.size, 4, none⟩ = some (.int .i64 x4) ∧ w'.cell? ⟨w3.heap.size, 5, none⟩ = some (.int .i64 x5) ∧ KT W W.heap.size w2.heap.size w3.heap.size (#[.int .i64 kind, .int .i64 sq, .string key, .string val]) (#[.int .i64 x0, .string x1, .bool x2, .int .i64 x3, .int .i64 x4, .int .i64 x5]) w') (first | (with_reducible assumption) | (with_reducible exact hS0)) (first
      | (go_at_call 24; (with_reducible refine (k1 _).mono ?_); rintro e w' ⟨rfl, rfl⟩)
      | (go_at_call 25; (with_reducible refine (k2 _).mono ?_); rintro e w' ⟨rfl, rfl⟩)
      | (go_at_call 12; (with_reducible refine (works_true _).mono ?_); rintro e w' ⟨rfl, hbk⟩; have hSk := ST.after (by assumption) hbk))
    all_goals
      (rename_i hEnd
       go_wp2_with fail
       go_ret
       exact ⟨rfl, hEnd.2.2.2.2.2.2.2.2.2.2.2.2.2.2.1⟩)

set_option maxRecDepth 100000 in
theorem lifted (os : Os) (started : os.Started) (H : Type) (enc : TypeId × Value → H) :
    ReturnsInHanded {} Try.checked os 5 .any (Rows.recordEntriesSpec.pre6 enc Try.prog Try.f5 Rows.recordEntriesRow.domain false) (Rows.recordEntriesSpec.post enc Try.prog Try.f5 false true false false) := by
  refine returnsInHanded_of_change (C := Try.checked) own started (by kernel_rfl) Try.func5
    (ChangeSpec.witness6 (enc := enc) (C := Try.checked) false ⟨#[], #[.agg #[.int .i64 0, .int .i64 0, .string ⟨#[]⟩, .string ⟨#[]⟩], .int .i64 0, .int .i64 0], []⟩ 8 (by kernel_rfl) (by kernel_rfl) (by kernel_rfl) (by kernel_rfl)) ?_
  intro W base args ds gs before hval0 hW hcnd _
  have hval : ∀ (j : Nat) t v, Try.f5.params[j]? = some t → args[j]? = some v → Value.okWide Try.prog W .any base t v := hval0
  have hW' := hW
  obtain ⟨p, q, hA0, hV, rfl, hfz, hnd⟩ := hW
  have hA : DataW.TrodAll enc Try.prog W 0 (fun _ => true) true Try.f5.params.toList args.toList ds p := hA0
  rw [Try.params5] at hA hval
  obtain ⟨v0, vs0, d0, ds0, p0, q0, hargs, rfl, rfl, h0, r0⟩ := trodAll_cons hA
  obtain ⟨v1, vs1, d1, ds1, p1, q1, rfl, rfl, rfl, h1, r1⟩ := trodAll_cons r0
  obtain ⟨v2, vs2, d2, ds2, p2, q2, rfl, rfl, rfl, h2, r2⟩ := trodAll_cons r1
  obtain ⟨rfl, rfl, rfl⟩ := trodAll_nil r2
  obtain rfl : args = #[v0, v1, v2] := by cases args; simp_all
  obtain ⟨rfl, rfl⟩ := trodVars_none hV
  refine (walk (H := H) (enc := enc) W base (hval 0 23 v0 rfl rfl) h0 (hval 1 3 v1 rfl rfl) h1 (hval 2 3 v2 rfl rfl) h2).mono fun e W' ⟨he, bel⟩ => ?_
  subst he
  exact ⟨_, rfl, _, _, _, [], _, [], hW', trodAll_mk1 (shut_bool Try.underlying4 _), (trodAll_cons_mk (Below.trod laidOut (by kernel_rfl) (of_decide_eq_true (by kernel_rfl)) h0 bel (lt_of_Trod h0)) (trodAll_cons_mk (Below.trod laidOut (by kernel_rfl) (of_decide_eq_true (by kernel_rfl)) h1 bel (lt_of_Trod h1)) (trodAll_cons_mk (Below.trod laidOut (by kernel_rfl) (of_decide_eq_true (by kernel_rfl)) h2 bel (lt_of_Trod h2)) trodAll_mk0))), rfl, bel.frame _, fun h => by cases h⟩

/-- RecordEntries: for every record and every two numbers the law returns true and changes nothing. No condition. -/
theorem proved : Rows.RecordEntriesSaid :=
  OpenClaim.holds_of_wide 5 Try.f5 rfl rfl rfl rfl rfl rfl rfl ⟨rfl, rfl, rfl, rfl, rfl⟩ rfl rfl rfl rfl rfl (by kernel_rfl) Try.func5 (by kernel_rfl)
    (of_decide_eq_true (by kernel_rfl)) (by unfold Func.isWrapper; first | (rw [if_pos (by decide +kernel)]; kernel_rfl) | (rw [if_neg (by decide +kernel)]; exact ⟨rfl, rfl⟩))
    (fun os started H enc _ => lifted os started H enc)
#print axioms proved
end Go.Proofs.Ytookgehccmcgcaa.recordEntries
