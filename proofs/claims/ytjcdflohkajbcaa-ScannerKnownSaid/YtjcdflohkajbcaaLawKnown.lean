/-
  ScannerKnown: the law returns true. No condition.
-/
import Derived.Test.YtjcdflohkajbcaaOpen
import Derived.Test.YtjcdflohkajbcaaSB
namespace Go.Proofs.Ytjcdflohkajbcaa.scannerKnown
open Go.ChangeShapes Go.WideShapes Go.ChangeAt Go.RowKit
open Go.ChangeMaps (open_string shut_string)
set_option linter.unusedVariables false

theorem bb_zeros (n : Nat) : BB (List.replicate n 0) := by
  intro x hx
  rw [List.eq_of_mem_replicate hx]
  omega
theorem ba_zeros (w : World) (n : Nat) (hn : n ≤ 100000) : BA (w.alloc (.cells (zeros n) 5)) (some ⟨w.heap.size, 0, none⟩) n n (List.replicate n 0) := by
  refine ⟨by simp, fun _ => ⟨RB.zeros w n, fun b off e => ?_⟩, bb_zeros n, Nat.le_refl _, by unfold maxLen; omega⟩
  injection e with e
  injection e with e1 e2
  subst e1
  simp
theorem ba_nil (w : World) : BA w none 0 0 [] := ⟨rfl, fun hp => absurd hp (by omega), fun x hx => by simp at hx, Nat.le_refl _, by unfold maxLen; omega⟩
theorem sealing_ba {c l : Int} (h : FOk c l) (w : World) :
    Calls Try.prog 20 #[.int .i64 c, .int .i64 l] w fun e w' => (∃ g cap, e = .returned (.slice (some ⟨g, 0, none⟩) 16 cap) ∧ BA w' (some ⟨g, 0, none⟩) 16 cap (fenc c l)) ∧ Below w.heap.size w w' := by
  refine (sealing_yes h w).mono ?_
  rintro e w' ⟨⟨g, cap, rfl, h1, h2, _, hI⟩, hb⟩
  refine ⟨⟨g, cap, rfl, rfl, fun _ => ⟨hI.rb, fun b off e => ?_⟩, fenc_bb _ _, h1, h2⟩, hb⟩
  injection e with e
  injection e with e1 e2
  subst e1
  exact (World.ownsRow.lt hI _ rfl).2
theorem decF_zeros (n : Nat) (hn : 16 ≤ n) : decF (List.replicate n 0) = (Rc.zero, 0, 8) := by
  have hg : ∀ i, (List.replicate n (0 : Int)).getD i 0 = 0 := by
    intro i
    rw [List.getD_eq_getElem?_getD, List.getElem?_replicate]
    split <;> rfl
  unfold decF
  simp only []
  rw [if_neg (by simp; omega), if_pos]
  intro h
  have h1 : HOk ((List.replicate n (0 : Int)).getD 4 0) _ _ _ := h.1
  rw [hg 4] at h1
  unfold HOk at h1
  omega
theorem sc_of {Z : List Int} (h : (decF Z).2.2 ≠ 0) : Scanned Z [] 0 := scanned_encs (rs := []) (fun r hr => by simp at hr) (Z := Z) h
theorem f00 : FOk 0 0 := by decide
theorem k1 : Scanned [] [] 0 := sc_of (by decide)
theorem k2 : Scanned (fenc 2 2) [] 0 := sc_of (by have := decF_foot f22 []; rw [List.append_nil] at this; rw [this]; decide)
theorem k3 : Scanned (fenc 0 0) [] 0 := sc_of (by have := decF_foot f00 []; rw [List.append_nil] at this; rw [this]; decide)
theorem k4 : Scanned (List.replicate 15 0) [] 0 := sc_of (by decide)
theorem k5 : Scanned (List.replicate 16 0) [] 0 := sc_of (by rw [decF_zeros 16 (by omega)]; decide)
theorem k6 : Scanned (List.replicate 8192 0) [] 0 := sc_of (by rw [decF_zeros 8192 (by omega)]; decide)

set_option maxHeartbeats 6400000 in
set_option maxRecDepth 100000 in
theorem walk {H : Type} {enc : TypeId × Value → H} (W : World) (base : Nat)   :
    Calls Try.prog 4 #[] W fun e W' => e = .returned (.bool true) ∧ Below W.heap.size W W' := by
  have m1 : ∀ w : World, (Instr.makeSlice 25 (.int .i64 8192) (.int .i64 8192)).run Try.prog w = .ok (.slice (some ⟨w.heap.size, 0, none⟩) 8192 8192) (w.alloc (.cells (zeros 8192) 5)) := fun w => make_any 8192 (by omega) w
  have m2 : ∀ w : World, (Instr.makeSlice 25 (.int .i64 8193) (.int .i64 8193)).run Try.prog w = .ok (.slice (some ⟨w.heap.size, 0, none⟩) 8193 8193) (w.alloc (.cells (zeros 8193) 5)) := fun w => make_any 8193 (by omega) w
  have m3 : ∀ w : World, (Instr.makeSlice 25 (.int .i64 15) (.int .i64 15)).run Try.prog w = .ok (.slice (some ⟨w.heap.size, 0, none⟩) 15 15) (w.alloc (.cells (zeros 15) 5)) := fun w => make_any 15 (by omega) w
  have m4 : ∀ w : World, (Instr.makeSlice 25 (.int .i64 16) (.int .i64 16)).run Try.prog w = .ok (.slice (some ⟨w.heap.size, 0, none⟩) 16 16) (w.alloc (.cells (zeros 16) 5)) := fun w => make_any 16 (by omega) w
  go_enter Try.func4, Try.ntmps4
  go_wp2_with fail
  refine (entries_yes none 0 0 [] 31 W [] 0 (ba_nil W) (by omega) (by omega) (by omega) k1).mono ?_
  rintro e w1 ⟨⟨v1, rfl, o1⟩, hb1⟩
  have bel1 := hb1
  clear hb1
  obtain ⟨A1, d1, rfl, _⟩ := RI.of_ownk o1
  clear o1
  go_wp2_with fail
  refine (entries_yes (some ⟨w1.heap.size, 0, none⟩) 8192 8192 (List.replicate 8192 0) 0 _ [] 0 (ba_zeros w1 8192 (by omega)) (by omega) (by omega) (by omega) k6).mono ?_
  rintro e w2 ⟨⟨v2, rfl, o2⟩, hb2⟩
  have bel2 := b_then bel1 (b_then (b_alloc (Below.refl _ w1) _) hb2)
  clear hb2
  clear o2 bel1
  go_wp2_with fail
  refine (entries_range (some ⟨w2.heap.size, 0, none⟩) 8193 8193 32 _ (by omega)).mono ?_
  rintro e w3 ⟨rfl, hb3⟩
  have bel3 := b_then bel2 (b_then (b_alloc (Below.refl _ w2) _) hb3)
  clear hb3
  clear bel2
  go_wp2_with fail
  refine (says_true none 0 0 [] _ [] 0 false 0 (ba_nil _) (by omega) k1 (by decide +kernel) (by decide +kernel)).mono ?_
  rintro e w4 ⟨rfl, hb4⟩
  have bel4 := b_then bel3 hb4
  clear hb4
  clear bel3
  go_wp2_with fail
  refine (sealing_ba f22 _).mono ?_
  rintro e w5 ⟨⟨g5, c5, rfl, hA5⟩, hb5⟩
  have bel5 := b_then bel4 hb5
  clear hb5
  clear bel4
  go_wp2_with fail
  refine (says_true (some ⟨g5, 0, none⟩) 16 c5 (fenc 2 2) _ [] 0 false 8 hA5 (by omega) k2 (by decide +kernel) (by decide +kernel)).mono ?_
  rintro e w6 ⟨rfl, hb6⟩
  have bel6 := b_then bel5 hb6
  clear hb6
  clear bel5 hA5
  go_wp2_with fail
  refine (sealing_ba f00 _).mono ?_
  rintro e w7 ⟨⟨g7, c7, rfl, hA7⟩, hb7⟩
  have bel7 := b_then bel6 hb7
  clear hb7
  clear bel6
  go_wp2_with fail
  refine (says_true (some ⟨g7, 0, none⟩) 16 c7 (fenc 0 0) _ [] 0 true 0 hA7 (by omega) k3 (by decide +kernel) (by decide +kernel)).mono ?_
  rintro e w8 ⟨rfl, hb8⟩
  have bel8 := b_then bel7 hb8
  clear hb8
  clear bel7 hA7
  go_wp2_with fail
  refine (says_true (some ⟨w8.heap.size, 0, none⟩) 15 15 (List.replicate 15 0) _ [] 0 false 14 (ba_zeros w8 15 (by omega)) (by omega) k4 (by decide +kernel) (by decide +kernel)).mono ?_
  rintro e w10 ⟨rfl, hb10⟩
  have bel10 := b_then bel8 (b_then (b_alloc (Below.refl _ w8) _) hb10)
  clear hb10
  clear bel8
  go_wp2_with fail
  refine (says_true (some ⟨w10.heap.size, 0, none⟩) 16 16 (List.replicate 16 0) _ [] 0 false 8 (ba_zeros w10 16 (by omega)) (by omega) k5 (by decide +kernel) (by decide +kernel)).mono ?_
  rintro e w11 ⟨rfl, hb11⟩
  have bel11 := b_then bel10 (b_then (b_alloc (Below.refl _ w10) _) hb11)
  clear hb11
  clear bel10
  go_wp2_with fail
  refine (works_true _).mono ?_
  rintro e w9 ⟨rfl, hb9⟩
  go_wp2_with fail
  go_ret
  exact ⟨rfl, b_then bel11 hb9⟩

set_option maxRecDepth 100000 in
theorem lifted (os : Os) (started : os.Started) (H : Type) (enc : TypeId × Value → H) :
    ReturnsInHanded {} Try.checked os 4 .any (Rows.scannerKnownSpec.pre6 enc Try.prog Try.f4 Rows.scannerKnownRow.domain false) (Rows.scannerKnownSpec.post enc Try.prog Try.f4 false true false false) := by
  refine returnsInHanded_of_change (C := Try.checked) own started (by kernel_rfl) Try.func4
    (ChangeSpec.witness6 (enc := enc) (C := Try.checked) false ⟨#[], #[], []⟩ 8 (by kernel_rfl) (by kernel_rfl) (by kernel_rfl) (by kernel_rfl)) ?_
  intro W base args ds gs before hval0 hW hcnd _
  have hval : ∀ (j : Nat) t v, Try.f4.params[j]? = some t → args[j]? = some v → Value.okWide Try.prog W .any base t v := hval0
  have hW' := hW
  obtain ⟨p, q, hA0, hV, rfl, hfz, hnd⟩ := hW
  have hA : DataW.TrodAll enc Try.prog W 0 (fun _ => true) true Try.f4.params.toList args.toList ds p := hA0
  rw [Try.params4] at hA hval
  obtain ⟨rfl, rfl, rfl⟩ := trodAll_none hA
  obtain ⟨rfl, rfl⟩ := trodVars_none hV
  refine (walk (H := H) (enc := enc) W base ).mono fun e W' ⟨he, bel⟩ => ?_
  subst he
  exact ⟨_, rfl, _, _, _, [], _, [], hW', trodAll_mk1 (shut_bool Try.underlying4 _), rfl, rfl, bel.frame _, fun h => by cases h⟩

/-- ScannerKnown: the law returns true. No condition. -/
theorem proved : Rows.ScannerKnownSaid :=
  OpenClaim.holds_of_wide 4 Try.f4 rfl rfl rfl rfl rfl rfl rfl ⟨rfl, rfl, rfl, rfl, rfl⟩ rfl rfl rfl rfl rfl (by kernel_rfl) Try.func4 (by kernel_rfl)
    (of_decide_eq_true (by kernel_rfl)) (by unfold Func.isWrapper; first | (rw [if_pos (by decide +kernel)]; kernel_rfl) | (rw [if_neg (by decide +kernel)]; exact ⟨rfl, rfl⟩))
    (fun os started H enc _ => lifted os started H enc)
#print axioms proved
end Go.Proofs.Ytjcdflohkajbcaa.scannerKnown
