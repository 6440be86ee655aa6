/-
  RoundNil: for every slice and slot the law returns true and changes nothing.
-/
import Derived.Test.YtaidekdmhmoaeaaDoorTab
namespace Go.Proofs.YtaidekdmhmoaeaaDoor.roundNil
open Go.ChangeShapes Go.WideShapes Go.ChangeAt Go.RowKit
set_option linter.unusedVariables false
set_option linter.unusedSimpArgs false

set_option maxHeartbeats 6400000 in
set_option maxRecDepth 100000 in
theorem walk {H : Type} {enc : TypeId × Value → H} (W : World) (base : Nat) (hT : Rd.Tab W) {v0 v1 : Value} {d0 d1 : DataW H} {p0 p1 : List MemPlace} (o0 : Value.okWide Tryd.prog W .any base 22 v0) (h0 : DataW.Trod enc Tryd.prog W 0 (fun _ => true) true 22 v0 d0 p0) (o1 : Value.okWide Tryd.prog W .any base 3 v1) (h1 : DataW.Trod enc Tryd.prog W 0 (fun _ => true) true 3 v1 d1 p1) :
    Calls Tryd.prog 3 #[v0, v1] W fun e W' => e = .returned (.bool true) ∧ Below W.heap.size W W' := by
  obtain ⟨A, n, c, rfl⟩ := okWide_slice Tryd.underlying22 o0
  obtain ⟨x, rfl, rfl, rfl, wx⟩ := open_int Tryd.underlying3 o1 h1
  clear o0 h0 o1 h1 wx
  by_cases hl : n ≤ 50
  · have z1 : ¬ (50 : Int) < (n : Int) := by omega
    have z1' : (n : Int) ≤ 50 := by omega
    clear hl
    go_enter Tryd.func3, Tryd.ntmps3
    go_wp2_with fail
    have hZ : Blk ((W.alloc (.cells #[.int .i64 0, .int .u32 0, .int .i64 0] 27)).alloc (.cells #[.pointer none, .pointer (some ⟨W.heap.size, 0, none⟩)] 24)) (W.heap.size + 1) 24 #[.pointer none, .pointer (some ⟨W.heap.size, 0, none⟩)] := by
      have h := Blk.new (W.alloc (.cells #[.int .i64 0, .int .u32 0, .int .i64 0] 27)) 24 #[.pointer none, .pointer (some ⟨W.heap.size, 0, none⟩)]
      rwa [World.size_alloc] at h
    have hN := (Blk.new W 27 #[.int .i64 0, .int .u32 0, .int .i64 0]).alloc (.cells #[.pointer none, .pointer (some ⟨W.heap.size, 0, none⟩)] 24)
    have hB := b_alloc (b_alloc (Below.refl _ W) (.cells #[.int .i64 0, .int .u32 0, .int .i64 0] 27)) (.cells #[.pointer none, .pointer (some ⟨W.heap.size, 0, none⟩)] 24)
    generalize ((W.alloc (.cells #[.int .i64 0, .int .u32 0, .int .i64 0] 27)).alloc (.cells #[.pointer none, .pointer (some ⟨W.heap.size, 0, none⟩)] 24)) = w2 at hZ hN hB ⊢
    go_loopw [17] (fun i wr => ∃ k : Nat, k ≤ 2 ∧ i = .int .i64 k ∧ Blk wr (W.heap.size + 1) 24 #[.pointer none, .pointer (some ⟨W.heap.size, 0, none⟩)] ∧ Blk wr W.heap.size 27 #[.int .i64 0, .int .u32 0, .int .i64 0] ∧ Below W.heap.size W wr) (fun i _ => 2 - (intOf i).toNat)
    case atStart => exact ⟨0, by omega, rfl, hZ, hN, hB⟩
    case round =>
      clear hZ hN hB
      obtain ⟨k, hk, rfl, hZ, hN, hB⟩ := hrel
      by_cases hlt : k < 2
      · obtain ⟨p, hp, hNo⟩ : ∃ p, wr.cell? ⟨W.heap.size + 1, k, none⟩ = some (.pointer p) ∧ Rd.No p wr := by
          rw [hZ.cell]
          match k, hlt with
          | 0, _ => exact ⟨none, rfl, .inl rfl⟩
          | 1, _ => exact ⟨_, rfl, .inr ⟨_, rfl, hN⟩⟩
        have z2 : (k : Int) < 2 := by omega
        have z3 : (0 : Int) ≤ (k : Int) := by omega
        have HZ := Lib.hid hZ
        have HN := Lib.hid hN
        clear hZ hN
        go_wp2_with fail
        refine (Rd.beg_no p wr hNo A n c).mono ?_
        rintro e w1 ⟨rfl, hb1⟩
        have hNo1 := hNo.later hb1
        have hZ1 := HZ.out.below hb1 HZ.out.lt
        have hN1 := HN.out.below hb1 HN.out.lt
        have hB1 := b_then hB hb1
        have HZ1 := Lib.hid hZ1
        have HN1 := Lib.hid hN1
        clear hNo hp hB hb1 hZ1 hN1 HZ HN
        go_wp2_with fail
        refine (Rd.Done_no p w1 hNo1 x).mono ?_
        rintro e w' ⟨rfl, rfl⟩
        go_wp2_with fail
        refine (Rr.shows_no p x w1 hNo1 (hT.later hB1)).mono ?_
        rintro e w3 ⟨rfl, hb3⟩
        have hNo3 := hNo1.later hb3
        have hZ3 := HZ1.out.below hb3 HZ1.out.lt
        have hN3 := HN1.out.below hb3 HN1.out.lt
        have hB3 := b_then hB1 hb3
        clear hNo1 hB1 hb3 HZ1 HN1
        go_wp2_with fail
        refine (Rd.Copy_no p w3 hNo3).mono ?_
        rintro e w' ⟨rfl, rfl⟩
        go_wp2_with fail
        go_roundw
        case rel => exact ⟨k + 1, by omega, by go_num, hZ3, hN3, hB3⟩
        case measure => simp [intOf]; omega
      · obtain rfl : k = 2 := by omega
        clear hZ hN
        go_wp2_with fail
        refine (Rd.works_true _ (hT.later hB)).mono ?_
        rintro e wz ⟨rfl, hbz⟩
        go_wp2_with fail
        go_ret
        exact ⟨rfl, b_then hB hbz⟩
  · have z1 : (50 : Int) < (n : Int) := by omega
    clear hl
    go_enter Tryd.func3, Tryd.ntmps3
    go_wp2_with fail
    refine (Rd.works_true _ hT).mono ?_
    rintro e wz ⟨rfl, hbz⟩
    go_wp2_with fail
    go_ret
    exact ⟨rfl, hbz⟩

set_option maxRecDepth 100000 in
theorem lifted (os : Os) (started : os.Started) (H : Type) (enc : TypeId × Value → H) :
    ReturnsInHanded {} Tryd.checked os 3 .any (fun w args => (Rows.roundNilSpec.pre enc Tryd.prog Tryd.f3 [] false w args ∧ laidMetH Tryd.prog Rows.roundNilRow.laid w) ∧ sizedMet enc Tryd.prog Tryd.f3 (OpenSpec.ofChange Rows.roundNilSpec) false w args)
      (Rows.roundNilSpec.post enc Tryd.prog Tryd.f3 false true false false) := by
  refine returnsInHanded_of_change_and (C := Tryd.checked) (X := fun w _ => laidMetH Tryd.prog Rows.roundNilRow.laid w) (fun _ _ _ hh h => h.of_heap hh) own started (by kernel_rfl) Tryd.func3
    (ChangeSpec.witness_at (enc := enc) (C := Tryd.checked) (os := os) (X := fun w _ => laidMetH Tryd.prog Rows.roundNilRow.laid w) false (Rd.laidWorld os) #[.slice none 0 0, .int .i64 0] 8 rfl (by kernel_rfl) (by kernel_rfl) (by kernel_rfl) (by kernel_rfl) (by kernel_rfl) (Rd.laidWorld_met os _)) ?_
  intro W base args ds gs before hval0 hW _ _ hL _
  have hval : ∀ (j : Nat) t v, Tryd.f3.params[j]? = some t → args[j]? = some v → Value.okWide Tryd.prog W .any base t v := hval0
  have hT := Rd.tab_of_laid hL
  have hW' := hW
  obtain ⟨p, q, hA0, hV, rfl, hfz, hnd⟩ := hW
  have hA : DataW.TrodAll enc Tryd.prog W 0 (fun _ => true) true Tryd.f3.params.toList args.toList ds p := hA0
  rw [Tryd.params3] at hA hval
  obtain ⟨v0, vs0, d0, ds0, p0, q0, hargs, rfl, rfl, h0, r0⟩ := trodAll_cons hA
  obtain ⟨v1, vs1, d1, ds1, p1, q1, rfl, rfl, rfl, h1, r1⟩ := trodAll_cons r0
  obtain ⟨rfl, rfl, rfl⟩ := trodAll_nil r1
  obtain rfl : args = #[v0, v1] := by cases args; simp_all
  obtain ⟨rfl, rfl⟩ := trodVars_none hV
  refine (walk (H := H) (enc := enc) W base hT (hval 0 22 v0 rfl rfl) h0 (hval 1 3 v1 rfl rfl) h1).mono fun e W' ⟨he, bel⟩ => ?_
  subst he
  exact ⟨_, rfl, _, _, _, [], _, [], hW', trodAll_mk1 (shut_bool Tryd.underlying4 _), (trodAll_cons_mk (Below.trod laidOut (by kernel_rfl) (of_decide_eq_true (by kernel_rfl)) h0 bel (lt_of_Trod h0)) (trodAll_cons_mk (Below.trod laidOut (by kernel_rfl) (of_decide_eq_true (by kernel_rfl)) h1 bel (lt_of_Trod h1)) trodAll_mk0)), rfl, bel.frame _, fun h => by cases h⟩

theorem row_holds : Rows.RoundNilSaid :=
  OpenClaim.holds_of_wide 3 Tryd.f3 rfl rfl rfl rfl rfl rfl rfl ⟨rfl, rfl, rfl, rfl, rfl⟩ rfl rfl rfl rfl rfl (by kernel_rfl) Tryd.func3 (by kernel_rfl)
    (of_decide_eq_true (by kernel_rfl)) (by unfold Func.isWrapper; first | (rw [if_pos (by decide +kernel)]; kernel_rfl) | (rw [if_neg (by decide +kernel)]; exact ⟨rfl, rfl⟩))
    (fun os started H enc _ => lifted os started H enc)
set_option maxRecDepth 100000 in
/-- RoundNil: for every slice and slot the law returns true and changes nothing. No condition but the library's table. -/
theorem proved : Rows.RoundNilCardSaid :=
  Claim7.holds_tied_plain_at .later [] [.data] true (true, "78b4ba762495fc154c5a857764e62199e31d2c0b3599cef7315f08e2fe8f9bd5") false
    row_holds (fun _ h => by cases h) (by kernel_rfl) (fun _ h => by cases h) roundNil_row_tie rfl ⟨rfl, rfl⟩ (by kernel_rfl) rfl
    (fun f fn hf hfn => by
      obtain rfl : f = 3 := Option.some.inj ((show Tryd.prog.funcNamed "drumlin/drumlinlaw27.RoundNil" = some 3 by kernel_rfl).symm.trans hf) |>.symm
      obtain rfl : fn = Tryd.f3 := (Option.some.inj (Tryd.func3.symm.trans hfn)).symm
      exact ⟨by kernel_rfl, fun j t ht => by
        rw [Tryd.params3] at ht
        exact Rd.no_stand (l := [22, 3]) (by kernel_rfl) j t (by simpa using ht)⟩)
    (by kernel_rfl)
#print axioms proved
end Go.Proofs.YtaidekdmhmoaeaaDoor.roundNil
