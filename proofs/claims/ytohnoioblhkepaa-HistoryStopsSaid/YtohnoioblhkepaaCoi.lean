/-
  All elements of a list of integers, collected.
-/
import Derived.Test.YtohnoioblhkepaaHii
namespace Go.Proofs.Ytohnoioblhkepaa.Hi
open Go.RowKit Go.Shelf
set_option linter.unusedVariables false
set_option linter.unusedSimpArgs false
attribute [local go_sem] Oper.semAt_some

/-- between two rounds of 'elements' -/
def elI (w : World) (b most : Nat) (base : Nat) (s : List (Nat × Int) × Option Nat) (W : World) : Prop :=
  ∃ (A' : Option Addr) (cap' : Nat), s.2 = rowOf A' ∧ W.ownsRow base 3 1 (.slice A' s.1.length cap') s.1.length (s.1.map fun x => (Value.int .i64) x.2) ∧ Blk W w.heap.size 3 #[.int .i64 most] ∧ Blk W (w.heap.size + 1) 27 #[.slice none 0 0] ∧ Blk W (w.heap.size + 1 + 1) 4 #[.bool false] ∧
    Blk W (w.heap.size + 1 + 1 + 1) 27 #[.slice A' s.1.length cap'] ∧ Blk W (w.heap.size + 1 + 1 + 1 + 1) 23 #[.pointer (some ⟨b, 0, none⟩)] ∧ Below w.heap.size w W
/-- a slice of the call's own that reads so -/
def Got (w : World) (n : Nat) (xs : List Int) (tail : Array Value) (e : Ending) (w' : World) : Prop := (∃ (A : Option Addr) (cap : Nat), e = .returned (.tuple (#[.slice A n cap] ++ tail)) ∧ w'.ownsRow w.heap.size 3 1 (.slice A n cap) n (xs.map (Value.int .i64))) ∧ Below w.heap.size w w'
set_option maxHeartbeats 3200000 in
set_option maxRecDepth 100000 in
theorem elements_any (B b mo m : Nat) (A : Option Addr) (n cap : Nat) (xs : List Int) (most : Nat) (w : World) (h : Is w B b mo m A n cap xs) (hmost : n ≤ most) (hm5 : most ≤ 100000) :
    Calls Try.prog 12 #[.pointer (some ⟨b, 0, none⟩), .int .i64 most] w (Got w n xs #[.bool true]) := by
  obtain ⟨i0, hi0, hz0, hz1, hz2⟩ := info_parts info
  have hln := Lib.hid h.len
  have hbl := h.lt
  refine (callsIn_wide (n := 5)).1 ?_
  refine callsIn_of_wp_marks Try.func12 rfl trivial ?_ rfl
  simp only [Try.ntmps12, List.size_toArray, List.length_cons, List.length_nil, Nat.reduceAdd, Nat.reduceSub, Array.replicate_succ, Array.replicate_zero, List.push_toArray, List.append_toArray, List.nil_append, List.cons_append]
  gi_wp2
  refine ⟨trivial, (callsIn_wide.2 (All_any _ _)).mono ?_⟩
  rintro e w' ⟨rfl, rfl⟩
  gi_wp2
  obtain ⟨w3, hw3⟩ : ∃ w3, w3 = ((((w.alloc (.cells #[.int .i64 most] 3)).alloc (.cells #[.slice none 0 0] 27)).alloc (.cells #[.bool false] 4)).alloc (.cells #[.slice none 0 0] 27)).alloc (.cells #[.pointer (some ⟨b, 0, none⟩)] 23) := ⟨_, rfl⟩
  have hb3 : Below w.heap.size w w3 := by rw [hw3]; exact b_alloc (b_alloc (b_alloc (b_alloc (b_alloc (Below.refl _ _) _) _) _) _) _
  have hsz : w3.heap.size = w.heap.size + 1 + 1 + 1 + 1 + 1 := by rw [hw3]; simp
  have x1 : Blk w3 w.heap.size 3 #[.int .i64 most] := by (rw [hw3]; unfold Blk; repeat (first | ((with_reducible refine alloc_here' ?_); (simp; done)) | (with_reducible apply alloc_old')))
  have x2 : Blk w3 (w.heap.size + 1) 27 #[.slice none 0 0] := by (rw [hw3]; unfold Blk; repeat (first | ((with_reducible refine alloc_here' ?_); (simp; done)) | (with_reducible apply alloc_old')))
  have x3 : Blk w3 (w.heap.size + 1 + 1) 4 #[.bool false] := by (rw [hw3]; unfold Blk; repeat (first | ((with_reducible refine alloc_here' ?_); (simp; done)) | (with_reducible apply alloc_old')))
  have x4 : Blk w3 (w.heap.size + 1 + 1 + 1) 27 #[.slice none 0 0] := by (rw [hw3]; unfold Blk; repeat (first | ((with_reducible refine alloc_here' ?_); (simp; done)) | (with_reducible apply alloc_old')))
  have x5 : Blk w3 (w.heap.size + 1 + 1 + 1 + 1) 23 #[.pointer (some ⟨b, 0, none⟩)] := by (rw [hw3]; unfold Blk; repeat (first | ((with_reducible refine alloc_here' ?_); (simp; done)) | (with_reducible apply alloc_old')))
  have hI0 : elI w b most w3.heap.size ([], none) w3 := ⟨none, 0, rfl, World.ownsRow_nil _ _ _ _, x1, x2, x3, x4, x5, hb3⟩
  clear x1 x2 x3 x4 x5
  rw [← hw3]
  have HW3 := Lib.hid hw3
  clear hw3
  refine range_k rfl (by omega) (gf := 61) (lb := #[.pointer (some ⟨w.heap.size + 1 + 1 + 1 + 1, 0, none⟩)]) rfl trivial (enters_of Try.func61 (by kernel_rfl) rfl)
    (encs := aEnc) (G := aG B b mo m A n cap xs (w.heap.size + 1 + 1 + 1 + 1)) (S := fun ys => ys = upto xs xs.length) (Sp := fun ys => ∃ j, j ≤ xs.length ∧ ys = upto xs j) (fun _ => rfl) none (fun k hk => by cases hk)
    (fun W1 hW1 hs1 => all_iter _ (by omega) _ B b mo m A n cap xs _ W1)
    (elI w b most w3.heap.size) (fun _ _ _ => False)
    (by
      rintro s A1 A2 row ⟨A', cap', h1, h2, h3, h4, h5, h6, h7, h8⟩ hg hr
      have hr' := fun r e => (hr r e).2
      exact ⟨A', cap', h1, own_turn' h2 hg hr', h3.turn hg hr', h4.turn hg hr', h5.turn hg hr', h6.turn hg hr', h7.turn hg hr', below_turn h8 hg (fun r e => by have := (hr r e).1; omega) h8.size⟩)
    (fun _ _ _ _ _ h _ _ => h)
    (by
      rintro s A1 ⟨A', cap', h1, h2, h3, h4, h5, h6, h7, h8⟩
      exact ⟨h.later h8, h7.cell 0⟩)
    hI0 ?round ?done ?stop
  case stop => exact fun D c pre r W hD _ _ h _ => h.elim
  case done =>
    clear hI0 hb3
    rintro D ys r W hD hDr rfl ⟨A', cap', h1, h2, h3, h4, h5, h6, h7, h8⟩ hK
    have hl : (upto xs xs.length).length = n := (upto_length xs _ (Nat.le_refl _)).trans hln.out
    have hmp : ((upto xs xs.length).map fun x => (Value.int .i64) x.2) = xs.map (Value.int .i64) := by rw [upto_map, List.take_length]
    rw [hl, hmp] at h2
    rw [hl] at h6
    have h1 : r = rowOf A' := h1
    subst h1
    have c4 := h4.cell
    have f4 := h4.frozen
    have c5 := h5.cell
    have f5 := h5.frozen
    have c6 := h6.cell
    have g4 := (h4.set_ 0 (.slice A' n cap')).far (p := ⟨w.heap.size + 1 + 1, 0, none⟩) (by show w.heap.size + 1 ≠ w.heap.size + 1 + 1; omega) (.bool true)
    have g5 := (h5.far (p := ⟨w.heap.size + 1, 0, none⟩) (by show w.heap.size + 1 + 1 ≠ w.heap.size + 1; omega) (.slice A' n cap')).set_ 0 (.bool true)
    have hK' : ((W.setCell ⟨w.heap.size + 1, 0, none⟩ (.slice A' n cap')).setCell ⟨w.heap.size + 1 + 1, 0, none⟩ (.bool true)).heap[D]? = some (.deferred (some [])) := (Below.heap_setCell _ _ _ D (by show D ≠ w.heap.size + 1 + 1; omega)).trans ((Below.heap_setCell _ _ _ D (by show D ≠ w.heap.size + 1; omega)).trans hK)
    have hB' := (h8.setCell (p := ⟨w.heap.size + 1, 0, none⟩) (by show w.heap.size ≤ w.heap.size + 1; omega) (.slice A' n cap')).setCell (p := ⟨w.heap.size + 1 + 1, 0, none⟩) (by show w.heap.size ≤ w.heap.size + 1 + 1; omega) (.bool true)
    have hro := own_row h2
    have o5 := own_setFar (own_setFar h2 (p := ⟨w.heap.size + 1, 0, none⟩) (by intro e; have := (hro _ e).1; simp at this; omega) (.slice A' n cap')) (p := ⟨w.heap.size + 1 + 1, 0, none⟩) (by intro e; have := (hro _ e).1; simp at this; omega) (.bool true)
    clear hro h1 h2 h3 h4 h5 h6 h7 h8 hK hl hmp
    gi_wp2
    refine ⟨by simp, .inl ⟨_, _, rfl, run_takeDeferred hK', ?_⟩⟩
    have g6 := (g4.putObj (l := D) (by omega) (.deferred none)).cell
    have g7 := (g5.putObj (l := D) (by omega) (.deferred none)).cell
    exact ⟨_, by simp [results, Try.results12, go_sem, g6, g7], ⟨A', cap', rfl, own_base (own_kept o5 fun g hg => World.putObj_heap_other (by rintro rfl; exact hDr hg.symm)) (by omega)⟩, hB'.trans (below_putObj _ D (.deferred none) (by omega))⟩
  case round =>
    clear hI0 hb3
    rintro l pre ⟨i, x⟩ r W hl1 hl2 hlr ⟨j, hj, hpre⟩ hI
    have hpl := congrArg List.length hpre
    rw [upto_length _ _ hj] at hpl
    obtain ⟨k0, hk0, e0⟩ : ∃ k0, k0 ≤ xs.length ∧ pre = upto xs k0 := by
      refine ⟨j - 1, by omega, ?_⟩
      have hj1 : 0 < j := by simp at hpl; omega
      obtain ⟨y, hy⟩ : ∃ y, xs[j - 1]? = some y := ⟨_, List.getElem?_eq_getElem (by omega)⟩
      have h2 := upto_succ xs (j - 1) y hy
      rw [show j - 1 + 1 = j by omega, ← hpre] at h2
      exact (List.append_inj' h2 rfl).1
    have hpre' := hpre
    rw [e0] at hpre'
    obtain ⟨hlt, rfl, hx, _⟩ := upto_inv hk0 hj hpre'
    have hpi : i = pre.length := by rw [e0, upto_length _ _ hk0]
    have hsl : (pre ++ [(i, x)]).length = pre.length + 1 := by simp
    have hsm : ((pre ++ [(i, x)]).map fun x => (Value.int .i64) x.2) = (pre.map fun x => (Value.int .i64) x.2) ++ [(Value.int .i64) x] := by simp
    obtain ⟨pr, hpr⟩ : ∃ pr, pr = pre ++ [(i, x)] := ⟨_, rfl⟩
    rw [← hpr] at hsl hsm ⊢
    clear hpre hpre' e0 hpl hj hx
    have hin : i < n := by have := hln.out; omega
    obtain ⟨L, hL⟩ : ∃ L, L = pre.length := ⟨_, rfl⟩
    rw [← hL] at hsl hpi
    subst hpi
    obtain ⟨FL, hFL⟩ : ∃ FL, FL = pre.map fun x => (Value.int .i64) x.2 := ⟨_, rfl⟩
    rw [← hFL] at hsm
    have HL := Lib.hid hL
    have HFL := Lib.hid hFL
    have HSL := Lib.hid hsl
    have HSM := Lib.hid hsm
    clear hL hFL hsl hsm hpr
    simp only [aEnc, List.zip_toArray, List.zip_cons_cons, List.zip_nil_right, List.foldl_toArray, List.foldl_cons, List.foldl_nil, List.setIfInBounds_toArray, List.set_cons_zero, List.set_cons_succ]
    gi_wp2
    refine ⟨Rd.refl _ _ _, hI, fun o hIo => ?_⟩
    clear hI
    generalize W.putObj l o = Wq at hIo ⊢
    obtain ⟨A', cap', h1, h2, h3, h4, h5, h6, h7, h8⟩ := hIo
    have h1 : r = rowOf A' := h1
    subst h1
    have h2 : Wq.ownsRow w3.heap.size 3 1 (.slice A' pre.length cap') pre.length (pre.map fun x => (Value.int .i64) x.2) := h2
    have h6 : Blk Wq (w.heap.size + 1 + 1 + 1) 27 #[.slice A' pre.length cap'] := h6
    rw [← HL.out, ← HFL.out] at h2
    rw [← HL.out] at h6
    have hro := own_row h2
    have hne : ∀ g, g < w3.heap.size → some g ≠ (Value.slice A' i cap').ownBlock := by
      intro g hg e
      rw [rowOf_own] at e
      have := (hro g e.symm).1
      omega
    have z1 : (i : Int) < (most : Int) := by omega
    have z2 : decide (most ≤ i) = false := by rw [decide_eq_false_iff_not]; omega
    have hb8 := h8.size
    have o2 := own_later h2 (b_alloc (Below.refl _ Wq) (.cells #[(Value.int .i64) x] 3))
    have hrd := Reads.one Wq 3 ((Value.int .i64) x)
    have k4 : ∀ u ∈ [(Value.int .i64) x], u.oneCell' = true := by intro u hu; simp at hu; subst hu; rfl
    have k5 : i + 1 ≤ maxLen := by unfold maxLen; omega
    have k6 : (i + 1) * 8 ≤ 140737488355328 := by omega
    have hlq : w3.heap.size ≤ Wq.heap.size := by have := h7.lt; omega
    have k7 : w3.heap.size ≤ (Wq.alloc (.cells #[(Value.int .i64) x] 3)).heap.size := by rw [World.size_alloc]; omega
    have g3 := h3.alloc (.cells #[(Value.int .i64) x] 3)
    have g4 := h4.alloc (.cells #[(Value.int .i64) x] 3)
    have g5 := h5.alloc (.cells #[(Value.int .i64) x] 3)
    have g6 := h6.alloc (.cells #[(Value.int .i64) x] 3)
    have g7 := h7.alloc (.cells #[(Value.int .i64) x] 3)
    have c3 := h3.cell
    have c6 := h6.cell
    gi_wp2_with (first
      | (gi_at_builtin; refine wpListIn_append_any _ rfl (.tmp 22) (.tmp 24) _ rfl w3.heap.size 3 i0 _ 1 8 Try.underlying27 hi0 hz0 hz1 hz2 rfl (by omega) _ i _ rfl o2 (Wq.heap.size + 1) _ 1 1 _ rfl hrd k4 k5 k6 k7 ?_; intro v5 w5 o5 hg5 hat5; obtain ⟨g5', cap5, rfl, hbg5, hlg5⟩ := own_head o5; have q6 := g6.grown hg5 (hne _ (by omega)); have f6 := q6.cell; have f6' := q6.frozen))
    have hg6 : (Wq.alloc (.cells #[(Value.int .i64) x] 3)).grownBy w5 ((Value.slice A' i cap').ownBlock) := hg5
    have q3 := g3.grown hg5 (hne _ (by omega))
    have q4 := g4.grown hg5 (hne _ (by omega))
    have q5 := g5.grown hg5 (hne _ (by omega))
    have q7 := g7.grown hg5 (hne _ (by omega))
    have hrow : NewRow Wq (rowOf A') (rowOf (some ⟨g5', 0, none⟩)) := by
      rcases hat5 with hq | hq
      · exact .inl ((rowOf_own _ (i + 1) cap5).symm.trans (hq.trans (rowOf_own A' i cap')))
      · injection hq with hq
        have hq' : g5' = (Wq.alloc (.cells #[(Value.int .i64) x] 3)).heap.size := hq
        exact NewRow.new (show Wq.heap.size ≤ g5' by rw [hq']; simp)
    have hR : Rd w3.heap.size (rowOf A') (rowOf (some ⟨g5', 0, none⟩)) Wq w5 :=
      ⟨Nat.le_trans (by simp) hg6.size, fun g hg1 hg2 hg3 => (hg6.block g (by simp; omega) (by rw [rowOf_own]; exact hg3)).trans (Below.heap_alloc _ _ g hg2), hrow⟩
    have hB5 : Below w.heap.size w w5 := (b_alloc h8 _).grown hg6 (by simp; omega) (fun k hk => by rw [rowOf_own] at hk; have := (hro k hk).1; omega)
    rw [← hsz]
    refine ⟨rowOf (some ⟨g5', 0, none⟩), hR.set_ (p := ⟨w.heap.size + 1 + 1 + 1, 0, none⟩) (.inl (by show w.heap.size + 1 + 1 + 1 < w3.heap.size; omega)) _, some ⟨g5', 0, none⟩, cap5, rfl, ?_, q3.far (p := ⟨w.heap.size + 1 + 1 + 1, 0, none⟩) (by show w.heap.size ≠ w.heap.size + 1 + 1 + 1; omega) _, q4.far (p := ⟨w.heap.size + 1 + 1 + 1, 0, none⟩) (by show w.heap.size + 1 ≠ w.heap.size + 1 + 1 + 1; omega) _, q5.far (p := ⟨w.heap.size + 1 + 1 + 1, 0, none⟩) (by show w.heap.size + 1 + 1 ≠ w.heap.size + 1 + 1 + 1; omega) _, ?_, q7.far (p := ⟨w.heap.size + 1 + 1 + 1, 0, none⟩) (by show w.heap.size + 1 + 1 + 1 + 1 ≠ w.heap.size + 1 + 1 + 1; omega) _, hB5.setCell (p := ⟨w.heap.size + 1 + 1 + 1, 0, none⟩) (by show w.heap.size ≤ w.heap.size + 1 + 1 + 1; omega) _⟩
    · show (w5.setCell ⟨w.heap.size + 1 + 1 + 1, 0, none⟩ _).ownsRow w3.heap.size 3 1 (.slice (some ⟨g5', 0, none⟩) pr.length cap5) pr.length (pr.map fun x => (Value.int .i64) x.2)
      rw [HSL.out, HSM.out]
      exact own_setFar o5 (by intro e; injection e with e; have e : g5' = w.heap.size + 1 + 1 + 1 := e; omega) _
    · show Blk _ _ _ #[.slice (some ⟨g5', 0, none⟩) pr.length cap5]
      rw [HSL.out]
      exact q6.set_ 0 _
end Go.Proofs.Ytohnoioblhkepaa.Hi
