/-
  HistoryNil: for every string and number the law returns true and changes nothing. No condition.
-/
import Derived.Test.YtohnoioblhkepaaOpen
import Derived.Test.YtohnoioblhkepaaWks
import Derived.Test.YtohnoioblhkepaaNo
namespace Go.Proofs.Ytohnoioblhkepaa.historyNil
open Go.ChangeShapes Go.WideShapes Go.ChangeAt Go.RowKit
open Go.ChangeMaps (open_string shut_string)
set_option linter.unusedSimpArgs false
set_option linter.unusedVariables false

set_option maxHeartbeats 6400000 in
set_option maxRecDepth 100000 in
theorem walk {H : Type} {enc : TypeId × Value → H} (W : World) (base : Nat) {v0 v1 : Value} {d0 d1 : DataW H} {p0 p1 : List MemPlace} (o0 : Value.okWide Try.prog W .any base 9 v0) (h0 : DataW.Trod enc Try.prog W 0 (fun _ => true) true 9 v0 d0 p0) (o1 : Value.okWide Try.prog W .any base 3 v1) (h1 : DataW.Trod enc Try.prog W 0 (fun _ => true) true 3 v1 d1 p1) :
    Calls Try.prog 8 #[v0, v1] W fun e W' => e = .returned (.bool true) ∧ Below W.heap.size W W' := by
  obtain ⟨x, rfl, rfl, rfl, hx⟩ := open_string Try.underlying9 o0 h0
  obtain ⟨i, rfl, rfl, rfl, wi⟩ := open_int Try.underlying3 o1 h1
  clear o0 h0 o1 h1 wi
  unfold maxLen at hx
  by_cases hl : x.size ≤ 1000
  · have z1 : (x.size : Int) ≤ 1000 := by omega
    clear hl
    go_enter Try.func8, Try.ntmps8
    go_wp2_with fail
    have hZ : Blk ((W.alloc (.cells #[.bool false, .int .i64 0, .int .i64 0, .slice none 0 0] 72)).alloc (.cells #[.pointer none, .pointer (some ⟨W.heap.size, 0, none⟩)] 57)) (W.heap.size + 1) 57 #[.pointer none, .pointer (some ⟨W.heap.size, 0, none⟩)] := by
      have h := Blk.new (W.alloc (.cells #[.bool false, .int .i64 0, .int .i64 0, .slice none 0 0] 72)) 57 #[.pointer none, .pointer (some ⟨W.heap.size, 0, none⟩)]
      rwa [World.size_alloc] at h
    have hN := (Blk.new W 72 #[.bool false, .int .i64 0, .int .i64 0, .slice none 0 0]).alloc (.cells #[.pointer none, .pointer (some ⟨W.heap.size, 0, none⟩)] 57)
    have hB := b_alloc (b_alloc (Below.refl _ W) (.cells #[.bool false, .int .i64 0, .int .i64 0, .slice none 0 0] 72)) (.cells #[.pointer none, .pointer (some ⟨W.heap.size, 0, none⟩)] 57)
    generalize ((W.alloc (.cells #[.bool false, .int .i64 0, .int .i64 0, .slice none 0 0] 72)).alloc (.cells #[.pointer none, .pointer (some ⟨W.heap.size, 0, none⟩)] 57)) = w2 at hZ hN hB ⊢
    go_loopw [17] (fun i wr => ∃ k : Nat, k ≤ 2 ∧ i = .int .i64 k ∧ Blk wr (W.heap.size + 1) 57 #[.pointer none, .pointer (some ⟨W.heap.size, 0, none⟩)] ∧ Blk wr W.heap.size 72 #[.bool false, .int .i64 0, .int .i64 0, .slice none 0 0] ∧ Below W.heap.size W wr) (fun i _ => 2 - (intOf i).toNat)
    case atStart => exact ⟨0, by omega, rfl, hZ, hN, hB⟩
    case round =>
      clear hZ hN hB
      obtain ⟨k, hk, rfl, hZ, hN, hB⟩ := hrel
      by_cases hlt : k < 2
      · obtain ⟨p, hp, hNo⟩ : ∃ p, wr.cell? ⟨W.heap.size + 1, k, none⟩ = some (.pointer p) ∧ Hs.No p wr := by
          rw [hZ.cell]
          match k, hlt with
          | 0, _ => exact ⟨none, rfl, .inl rfl⟩
          | 1, _ => exact ⟨_, rfl, .inr ⟨_, rfl, hN⟩⟩
        have z2 : (k : Int) < 2 := by omega
        have z3 : (0 : Int) ≤ (k : Int) := by omega
        have HZ := Lib.hid hZ
        have HN := Lib.hid hN
        clear hZ hN
        go_wp2_with fail
        refine (Hs.Mark_no p wr hNo).mono ?_
        rintro e w' ⟨rfl, rfl⟩
        go_wp2_with fail
        refine (Hs.Clear_no p wr hNo).mono ?_
        rintro e w' ⟨rfl, rfl⟩
        go_wp2_with fail
        refine (Hs.Add_no p wr hNo x).mono ?_
        rintro e w' ⟨rfl, rfl⟩
        go_wp2_with fail
        refine (Hs.Cut_no p wr hNo i).mono ?_
        rintro e w' ⟨rfl, rfl⟩
        go_wp2_with fail
        refine (Hs.shows_no p wr hNo i).mono ?_
        rintro e w3 ⟨rfl, hb3⟩
        have hNo3 := hNo.later hb3
        have hZ3 := HZ.out.below hb3 HZ.out.lt
        have hN3 := HN.out.below hb3 HN.out.lt
        have hB3 := b_then hB hb3
        clear hNo hp hB hb3
        go_wp2_with fail
        refine (Hs.Copy_no p w3 hNo3).mono ?_
        rintro e w' ⟨rfl, rfl⟩
        go_wp2_with fail
        go_roundw
        case rel => exact ⟨k + 1, by omega, by go_num, hZ3, hN3, hB3⟩
        case measure => simp [intOf]; omega
      · obtain rfl : k = 2 := by omega
        clear hZ hN
        go_wp2_with fail
        refine (works_true _).mono ?_
        rintro e wz ⟨rfl, hbz⟩
        go_wp2_with fail
        go_ret
        exact ⟨rfl, b_then hB hbz⟩
  · have z1 : (1000 : Int) < (x.size : Int) := by omega
    clear hl
    go_enter Try.func8, Try.ntmps8
    go_wp2_with fail
    refine (works_true _).mono ?_
    rintro e wz ⟨rfl, hbz⟩
    go_wp2_with fail
    go_ret
    exact ⟨rfl, hbz⟩

set_option maxRecDepth 100000 in
theorem lifted (os : Os) (started : os.Started) (H : Type) (enc : TypeId × Value → H) :
    ReturnsInHanded {} Try.checked os 8 .any (Rows.historyNilSpec.pre6 enc Try.prog Try.f8 Rows.historyNilRow.domain false) (Rows.historyNilSpec.post enc Try.prog Try.f8 false true false false) := by
  refine returnsInHanded_of_change (C := Try.checked) own started (by kernel_rfl) Try.func8
    (ChangeSpec.witness6 (enc := enc) (C := Try.checked) false ⟨#[], #[.string ⟨#[]⟩, .int .i64 0], []⟩ 8 (by kernel_rfl) (by kernel_rfl) (by kernel_rfl) (by kernel_rfl)) ?_
  intro W base args ds gs before hval0 hW hcnd _
  have hval : ∀ (j : Nat) t v, Try.f8.params[j]? = some t → args[j]? = some v → Value.okWide Try.prog W .any base t v := hval0
  have hW' := hW
  obtain ⟨p, q, hA0, hV, rfl, hfz, hnd⟩ := hW
  have hA : DataW.TrodAll enc Try.prog W 0 (fun _ => true) true Try.f8.params.toList args.toList ds p := hA0
  rw [Try.params8] at hA hval
  obtain ⟨v0, vs0, d0, ds0, p0, q0, hargs, rfl, rfl, h0, r0⟩ := trodAll_cons hA
  obtain ⟨v1, vs1, d1, ds1, p1, q1, rfl, rfl, rfl, h1, r1⟩ := trodAll_cons r0
  obtain ⟨rfl, rfl, rfl⟩ := trodAll_nil r1
  obtain rfl : args = #[v0, v1] := by cases args; simp_all
  obtain ⟨rfl, rfl⟩ := trodVars_none hV
  refine (walk (H := H) (enc := enc) W base (hval 0 9 v0 rfl rfl) h0 (hval 1 3 v1 rfl rfl) h1).mono fun e W' ⟨he, bel⟩ => ?_
  subst he
  exact ⟨_, rfl, _, _, _, [], _, [], hW', trodAll_mk1 (shut_bool Try.underlying4 _), (trodAll_cons_mk (Below.trod laidOut (by kernel_rfl) (of_decide_eq_true (by kernel_rfl)) h0 bel (lt_of_Trod h0)) (trodAll_cons_mk (Below.trod laidOut (by kernel_rfl) (of_decide_eq_true (by kernel_rfl)) h1 bel (lt_of_Trod h1)) trodAll_mk0)), rfl, bel.frame _, fun h => by cases h⟩

/-- HistoryNil: for every string and number the law returns true and changes nothing. No condition. -/
theorem proved : Rows.HistoryNilSaid :=
  OpenClaim.holds_of_wide 8 Try.f8 rfl rfl rfl rfl rfl rfl rfl ⟨rfl, rfl, rfl, rfl, rfl⟩ rfl rfl rfl rfl rfl (by kernel_rfl) Try.func8 (by kernel_rfl)
    (of_decide_eq_true (by kernel_rfl)) (by unfold Func.isWrapper; first | (rw [if_pos (by decide +kernel)]; kernel_rfl) | (rw [if_neg (by decide +kernel)]; exact ⟨rfl, rfl⟩))
    (fun os started H enc _ => lifted os started H enc)
#print axioms proved
end Go.Proofs.Ytohnoioblhkepaa.historyNil
