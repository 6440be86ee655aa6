/-
  All elements of a list of strings, and those that are not marked, collected.
-/
import Derived.Test.YtohnoioblhkepaaHsi
namespace Go.Proofs.Ytohnoioblhkepaa.Hs
open Go.RowKit Go.Shelf
set_option linter.unusedVariables false
set_option linter.unusedSimpArgs false
attribute [local go_sem] Oper.semAt_some

theorem yields_any (lb : Array Value) (w : World) :
    Calls Try.prog 64 #[.func (.func 69) #[] lb] w fun e w' => e = .returned (.func (.func 69) #[] lb) ∧ w = w' := by
  have hq : ∀ w : World, (binOp .eql 103 (.func (.func 69) #[] lb) .nilFunc).run Try.prog w = .ok (.bool false) w := fun w => by kernel_rfl
  go_enter Try.func64, Try.ntmps64
  go_wp2
  go_ret
  exact ⟨rfl, rfl⟩
theorem yields1_any (lb : Array Value) (w : World) :
    Calls Try.prog 62 #[.func (.func 67) #[] lb] w fun e w' => e = .returned (.func (.func 67) #[] lb) ∧ w = w' := by
  have hq : ∀ w : World, (binOp .eql 99 (.func (.func 67) #[] lb) .nilFunc).run Try.prog w = .ok (.bool false) w := fun w => by kernel_rfl
  go_enter Try.func62, Try.ntmps62
  go_wp2
  go_ret
  exact ⟨rfl, rfl⟩

/-- between two rounds of 'all' -/
def allI (w : World) (b : Nat) (base : Nat) (s : List (Nat × ByteArray) × Option Nat) (W : World) : Prop :=
  ∃ (A' : Option Addr) (cap' : Nat), s.2 = rowOf A' ∧ W.ownsRow base 9 1 (.slice A' s.1.length cap') s.1.length (s.1.map (fun x => Value.string x.2)) ∧ Blk W (w.heap.size) 70 #[.slice none 0 0] ∧ Blk W (w.heap.size + 1) 4 #[.bool false] ∧ Blk W (w.heap.size + 1 + 1) 70 #[.slice A' s.1.length cap'] ∧ Blk W (w.heap.size + 1 + 1 + 1) 57 #[.pointer (some ⟨b, 0, none⟩)] ∧ Below w.heap.size w W
/-- a slice of the call's own that reads so -/
def Got (w : World) (n : Nat) (xs : List ByteArray) (e : Ending) (w' : World) : Prop := (∃ (A : Option Addr) (cap : Nat), e = .returned (.tuple #[.slice A n cap, .bool true]) ∧ w'.ownsRow w.heap.size 9 1 (.slice A n cap) n (xs.map Value.string)) ∧ Below w.heap.size w w'
set_option maxHeartbeats 3200000 in
set_option maxRecDepth 100000 in
theorem all_any (B b mo m : Nat) (A : Option Addr) (n cap : Nat) (xs : List ByteArray) (w : World) (h : Is w B b mo m A n cap xs) (hm : m ≤ n) (h9 : n ≤ 900) :
    Calls Try.prog 56 #[.pointer (some ⟨b, 0, none⟩)] w (Got w n xs) := by
  obtain ⟨i0, hi0, hz0, hz1, hz2⟩ := info_parts info
  have hln := Lib.hid h.len
  have hbl := h.lt
  refine (callsIn_wide (n := 9)).1 ?_
  refine callsIn_of_wp_marks Try.func56 rfl trivial ?_ rfl
  simp only [Try.ntmps56, List.size_toArray, List.length_cons, List.length_nil, Nat.reduceAdd, Nat.reduceSub, Array.replicate_succ, Array.replicate_zero, List.push_toArray, List.append_toArray, List.nil_append, List.cons_append]
  gi_wp2
  refine ⟨trivial, (callsIn_wide.2 (All_any _ _)).mono ?_⟩
  rintro e w' ⟨rfl, rfl⟩
  gi_wp2
  refine ⟨trivial, (callsIn_wide.2 (yields_any _ _)).mono ?_⟩
  rintro e w' ⟨rfl, rfl⟩
  gi_wp2
  obtain ⟨w3, hw3⟩ : ∃ w3, w3 = (((w.alloc (.cells #[.slice none 0 0] 70)).alloc (.cells #[.bool false] 4)).alloc (.cells #[.slice none 0 0] 70)).alloc (.cells #[.pointer (some ⟨b, 0, none⟩)] 57) := ⟨_, rfl⟩
  have hb3 : Below w.heap.size w w3 := by rw [hw3]; exact b_alloc (b_alloc (b_alloc (b_alloc (Below.refl _ _) _) _) _) _
  have hsz : w3.heap.size = w.heap.size + 1 + 1 + 1 + 1 := by rw [hw3]; simp
  have x0 : Blk w3 (w.heap.size) 70 #[.slice none 0 0] := by (rw [hw3]; unfold Blk; repeat (first | ((with_reducible refine alloc_here' ?_); (simp; done)) | (with_reducible apply alloc_old')))
  have x1 : Blk w3 (w.heap.size + 1) 4 #[.bool false] := by (rw [hw3]; unfold Blk; repeat (first | ((with_reducible refine alloc_here' ?_); (simp; done)) | (with_reducible apply alloc_old')))
  have x2 : Blk w3 (w.heap.size + 1 + 1) 70 #[.slice none 0 0] := by (rw [hw3]; unfold Blk; repeat (first | ((with_reducible refine alloc_here' ?_); (simp; done)) | (with_reducible apply alloc_old')))
  have x3 : Blk w3 (w.heap.size + 1 + 1 + 1) 57 #[.pointer (some ⟨b, 0, none⟩)] := by (rw [hw3]; unfold Blk; repeat (first | ((with_reducible refine alloc_here' ?_); (simp; done)) | (with_reducible apply alloc_old')))
  have hI0 : allI w b w3.heap.size ([], none) w3 := ⟨none, 0, rfl, World.ownsRow_nil _ _ _ _, x0, x1, x2, x3, hb3⟩
  clear x0 x1 x2 x3
  rw [← hw3]
  have HW3 := Lib.hid hw3
  clear hw3
  refine range_k rfl (by omega) (gf := 69) (lb := #[.pointer (some ⟨w.heap.size + 1 + 1 + 1, 0, none⟩)]) rfl trivial (enters_of Try.func69 (by kernel_rfl) rfl)
    (encs := aEnc) (G := aG B b mo m A n cap xs (w.heap.size + 1 + 1 + 1)) (S := fun ys => ys = upto xs xs.length) (Sp := fun ys => ∃ j, j ≤ xs.length ∧ ys = upto xs j) (fun _ => rfl) none (fun k hk => by cases hk)
    (fun W1 hW1 hs1 => all_iter _ (by omega) _ B b mo m A n cap xs _ W1)
    (allI w b w3.heap.size) (fun _ _ _ => False)
    (by
      rintro s A1 A2 row ⟨A', cap', h1, h2, k0, k1, k2, k3, h8⟩ hg hr
      have hr' := fun r e => (hr r e).2
      exact ⟨A', cap', h1, own_turn' h2 hg hr', k0.turn hg hr', k1.turn hg hr', k2.turn hg hr', k3.turn hg hr', below_turn h8 hg (fun r e => by have := (hr r e).1; omega) h8.size⟩)
    (fun _ _ _ _ _ h _ _ => h)
    (by
      rintro s A1 ⟨A', cap', h1, h2, k0, k1, k2, k3, h8⟩
      exact ⟨h.later h8, k3.cell 0⟩)
    hI0 ?round ?done ?stop
  case stop => exact fun D c pre r W hD _ _ h _ => h.elim
  case done =>
    clear hI0 hb3
    rintro D ys r W hD hDr rfl ⟨A', cap', h1, h2, k0, k1, k2, k3, h8⟩ hK
    have hl : (upto xs xs.length).length = n := (upto_length xs _ (Nat.le_refl _)).trans hln.out
    have hmp : ((upto xs xs.length).map (fun x => Value.string x.2)) = xs.map Value.string := by rw [upto_map, List.take_length]
    rw [hl, hmp] at h2
    rw [hl] at k2
    have h1 : r = rowOf A' := h1
    subst h1
    have hro := own_row h2
    have c0 := k0.cell
    have f0 := k0.frozen
    have c1 := k1.cell
    have f1 := k1.frozen
    have c2 := k2.cell
    have f2 := k2.frozen
    have c3 := k3.cell
    have f3 := k3.frozen
    have hK' : ((W.setCell ⟨w.heap.size, 0, none⟩ (.slice A' n cap')).setCell ⟨w.heap.size + 1, 0, none⟩ (.bool true)).heap[D]? = some (.deferred (some [])) := ((Below.heap_setCell _ _ _ D (by show D ≠ w.heap.size + 1; omega)).trans ((Below.heap_setCell _ _ _ D (by show D ≠ w.heap.size; omega)).trans hK))
    have hB' := ((h8.setCell (p := ⟨w.heap.size, 0, none⟩) (by show w.heap.size ≤ w.heap.size; omega) (.slice A' n cap')).setCell (p := ⟨w.heap.size + 1, 0, none⟩) (by show w.heap.size ≤ w.heap.size + 1; omega) (.bool true))
    have o5 := (own_setFar (own_setFar h2 (p := ⟨w.heap.size, 0, none⟩) (by intro e; have := (hro _ e).1; simp at this; omega) (.slice A' n cap')) (p := ⟨w.heap.size + 1, 0, none⟩) (by intro e; have := (hro _ e).1; simp at this; omega) (.bool true))
    have g0 := ((k0.set_ 0 (.slice A' n cap')).far (p := ⟨w.heap.size + 1, 0, none⟩) (by show w.heap.size ≠ w.heap.size + 1; omega) (.bool true))
    have g1 := ((k1.far (p := ⟨w.heap.size, 0, none⟩) (by show w.heap.size + 1 ≠ w.heap.size; omega) (.slice A' n cap')).set_ 0 (.bool true))
    clear hro h2 k0 k1 k2 k3 h8 hl hmp
    gi_wp2
    refine ⟨by simp, .inl ⟨_, _, rfl, run_takeDeferred hK', ?_⟩⟩
    have q0 := (g0.putObj (l := D) (by omega) (.deferred none)).cell
    have q1 := (g1.putObj (l := D) (by omega) (.deferred none)).cell
    exact ⟨_, by simp [results, Try.results56, go_sem, q0, q1], ⟨A', cap', rfl, own_base (B := w3.heap.size) (own_kept o5 fun g hg => World.putObj_heap_other (by rintro rfl; exact hDr hg.symm)) (show w.heap.size ≤ w3.heap.size by omega)⟩, hB'.trans (below_putObj _ D (.deferred none) (show w.heap.size ≤ D by omega))⟩
  case round =>
    clear hI0 hb3
    rintro l pre ⟨i, x⟩ r W hl1 hl2 hlr ⟨j, hj, hpre⟩ hI
    have hpl := congrArg List.length hpre
    rw [upto_length _ _ hj] at hpl
    obtain ⟨k0, hk0, e0⟩ : ∃ k0, k0 ≤ xs.length ∧ pre = upto xs k0 := by
      refine ⟨j - 1, by omega, ?_⟩
      have hj1 : 0 < j := by simp at hpl; omega
      obtain ⟨y, hy⟩ : ∃ y, xs[j - 1]? = some y := ⟨_, List.getElem?_eq_getElem (by omega)⟩
      have h2 := upto_succ xs (j - 1) y hy
      rw [show j - 1 + 1 = j by omega, ← hpre] at h2
      exact (List.append_inj' h2 rfl).1
    have hpre' := hpre
    rw [e0] at hpre'
    obtain ⟨hlt, rfl, hx, _⟩ := upto_inv hk0 hj hpre'
    have hpi : i = pre.length := by rw [e0, upto_length _ _ hk0]
    have hsl : (pre ++ [(i, x)]).length = pre.length + 1 := by simp
    have hsm : ((pre ++ [(i, x)]).map (fun x => Value.string x.2)) = (pre.map (fun x => Value.string x.2)) ++ [Value.string x] := by simp
    obtain ⟨pr, hpr⟩ : ∃ pr, pr = pre ++ [(i, x)] := ⟨_, rfl⟩
    rw [← hpr] at hsl hsm ⊢
    clear hpre hpl hj hpre' e0 hx
    have hin : i < n := by have := hln.out; omega
    obtain ⟨L, hL⟩ : ∃ L, L = pre.length := ⟨_, rfl⟩
    rw [← hL] at hsl hpi
    subst hpi
    obtain ⟨FL, hFL⟩ : ∃ FL, FL = pre.map (fun x => Value.string x.2) := ⟨_, rfl⟩
    rw [← hFL] at hsm
    have HL := Lib.hid hL
    have HFL := Lib.hid hFL
    have HSL := Lib.hid hsl
    have HSM := Lib.hid hsm
    clear hL hFL hsl hsm hpr
    simp only [aEnc, List.zip_toArray, List.zip_cons_cons, List.zip_nil_right, List.foldl_toArray, List.foldl_cons, List.foldl_nil, List.setIfInBounds_toArray, List.set_cons_zero, List.set_cons_succ]
    gi_wp2
    refine ⟨Rd.refl _ _ _, hI, fun o hIo => ?_⟩
    clear hI
    generalize W.putObj l o = Wq at hIo ⊢
    obtain ⟨A', cap', h1, h2, k0, k1, k2, k3, h8⟩ := hIo
    have h1 : r = rowOf A' := h1
    subst h1
    have h2 : Wq.ownsRow w3.heap.size 9 1 (.slice A' pre.length cap') pre.length (pre.map (fun x => Value.string x.2)) := h2
    have k2 : Blk Wq (w.heap.size + 1 + 1) 70 #[.slice A' pre.length cap'] := k2
    rw [← HL.out, ← HFL.out] at h2
    rw [← HL.out] at k2
    have hro := own_row h2
    have hne : ∀ g, g < w3.heap.size → some g ≠ (Value.slice A' i cap').ownBlock := by
      intro g hg e
      rw [rowOf_own] at e
      have := (hro g e.symm).1
      omega
    have z2 : ((i : Int) == 1000) = false := by rw [beq_eq_false_iff_ne]; omega
    have hb8 := h8.size
    have o2 := own_later h2 (b_alloc (Below.refl _ Wq) (.cells #[Value.string x] 9))
    have hrd := Reads.one Wq 9 (Value.string x)
    have k4' : ∀ u ∈ [Value.string x], u.oneCell' = true := by intro u hu; simp at hu; subst hu; rfl
    have k5' : i + 1 ≤ maxLen := by unfold maxLen; omega
    have k6' : (i + 1) * 16 ≤ 140737488355328 := by omega
    have hlq : w3.heap.size ≤ Wq.heap.size := by have := k3.lt; omega
    have k7' : w3.heap.size ≤ (Wq.alloc (.cells #[Value.string x] 9)).heap.size := by rw [World.size_alloc]; omega
    have g0 := k0.alloc (.cells #[Value.string x] 9)
    have c0 := k0.cell
    have g1 := k1.alloc (.cells #[Value.string x] 9)
    have c1 := k1.cell
    have g2 := k2.alloc (.cells #[Value.string x] 9)
    have c2 := k2.cell
    have g3 := k3.alloc (.cells #[Value.string x] 9)
    have c3 := k3.cell
    gi_wp2_with (first
      | (gi_at_builtin; refine wpListIn_append_any _ rfl (.tmp 21) (.tmp 23) _ rfl w3.heap.size 9 i0 _ 1 16 Try.underlying70 hi0 hz0 hz1 hz2 rfl (by omega) _ i _ rfl o2 (Wq.heap.size + 1) _ 1 1 _ rfl hrd k4' k5' k6' k7' ?_; intro v5 w5 o5 hg5 hat5; obtain ⟨g5', cap5, rfl, hbg5, hlg5⟩ := own_head o5; have qo := g2.grown hg5 (hne _ (by omega)); have f6 := qo.cell; have f6' := qo.frozen))
    have hg6 : (Wq.alloc (.cells #[Value.string x] 9)).grownBy w5 ((Value.slice A' i cap').ownBlock) := hg5
    have q0 := g0.grown hg5 (hne _ (by omega))
    have q1 := g1.grown hg5 (hne _ (by omega))
    have q3 := g3.grown hg5 (hne _ (by omega))
    have hrow : NewRow Wq (rowOf A') (rowOf (some ⟨g5', 0, none⟩)) := by
      rcases hat5 with hq | hq
      · exact .inl ((rowOf_own _ (i + 1) cap5).symm.trans (hq.trans (rowOf_own A' i cap')))
      · injection hq with hq
        have hq' : g5' = (Wq.alloc (.cells #[Value.string x] 9)).heap.size := hq
        exact NewRow.new (show Wq.heap.size ≤ g5' by rw [hq']; simp)
    have hR : Rd w3.heap.size (rowOf A') (rowOf (some ⟨g5', 0, none⟩)) Wq w5 :=
      ⟨Nat.le_trans (by simp) hg6.size, fun g hg1 hg2 hg3 => (hg6.block g (by simp; omega) (by rw [rowOf_own]; exact hg3)).trans (Below.heap_alloc _ _ g hg2), hrow⟩
    have hB5 : Below w.heap.size w w5 := (b_alloc h8 _).grown hg6 (by simp; omega) (fun k hk => by rw [rowOf_own] at hk; have := (hro k hk).1; omega)
    try rw [← hsz]
    refine ⟨rowOf (some ⟨g5', 0, none⟩), hR.set_ (p := ⟨w.heap.size + 1 + 1, 0, none⟩) (.inl (by show w.heap.size + 1 + 1 < w3.heap.size; omega)) _, some ⟨g5', 0, none⟩, cap5, rfl, ?_, q0.far (p := ⟨w.heap.size + 1 + 1, 0, none⟩) (by show w.heap.size ≠ w.heap.size + 1 + 1; omega) _, q1.far (p := ⟨w.heap.size + 1 + 1, 0, none⟩) (by show w.heap.size + 1 ≠ w.heap.size + 1 + 1; omega) _, ?_, q3.far (p := ⟨w.heap.size + 1 + 1, 0, none⟩) (by show w.heap.size + 1 + 1 + 1 ≠ w.heap.size + 1 + 1; omega) _, hB5.setCell (p := ⟨w.heap.size + 1 + 1, 0, none⟩) (by show w.heap.size ≤ w.heap.size + 1 + 1; omega) _⟩
    · show (w5.setCell ⟨w.heap.size + 1 + 1, 0, none⟩ _).ownsRow w3.heap.size 9 1 (.slice (some ⟨g5', 0, none⟩) pr.length cap5) pr.length (pr.map (fun x => Value.string x.2))
      rw [HSL.out, HSM.out]
      exact own_setFar o5 (by intro e; injection e with e; have e : g5' = w.heap.size + 1 + 1 := e; omega) _
    · show Blk _ _ _ #[.slice (some ⟨g5', 0, none⟩) pr.length cap5]
      rw [HSL.out]
      exact qo.set_ 0 _

/-- between two rounds of 'since' -/
def sinceI (w : World) (b : Nat) (base : Nat) (s : List (ByteArray) × Option Nat) (W : World) : Prop :=
  ∃ (A' : Option Addr) (cap' : Nat), s.2 = rowOf A' ∧ W.ownsRow base 9 1 (.slice A' s.1.length cap') s.1.length (s.1.map (Value.string)) ∧ Blk W (w.heap.size) 70 #[.slice A' s.1.length cap'] ∧ Blk W (w.heap.size + 1) 57 #[.pointer (some ⟨b, 0, none⟩)] ∧ Below w.heap.size w W
def Got1 (w : World) (n : Nat) (xs : List ByteArray) (e : Ending) (w' : World) : Prop := (∃ (A : Option Addr) (cap : Nat), e = .returned (.slice A n cap) ∧ w'.ownsRow w.heap.size 9 1 (.slice A n cap) n (xs.map Value.string)) ∧ Below w.heap.size w w'
set_option maxHeartbeats 3200000 in
set_option maxRecDepth 100000 in
theorem since_any (B b mo m : Nat) (A : Option Addr) (n cap : Nat) (xs : List ByteArray) (w : World) (h : Is w B b mo m A n cap xs) (hm : m ≤ n) (h9 : n ≤ 900) :
    Calls Try.prog 46 #[.pointer (some ⟨b, 0, none⟩)] w (Got1 w (n - m) (xs.drop m)) := by
  obtain ⟨i0, hi0, hz0, hz1, hz2⟩ := info_parts info
  have hln := Lib.hid h.len
  have hbl := h.lt
  refine (callsIn_wide (n := 9)).1 ?_
  refine callsIn_of_wp_marks Try.func46 rfl trivial ?_ rfl
  simp only [Try.ntmps46, List.size_toArray, List.length_cons, List.length_nil, Nat.reduceAdd, Nat.reduceSub, Array.replicate_succ, Array.replicate_zero, List.push_toArray, List.append_toArray, List.nil_append, List.cons_append]
  gi_wp2
  refine ⟨trivial, (callsIn_wide.2 (Since_any _ _)).mono ?_⟩
  rintro e w' ⟨rfl, rfl⟩
  gi_wp2
  refine ⟨trivial, (callsIn_wide.2 (yields1_any _ _)).mono ?_⟩
  rintro e w' ⟨rfl, rfl⟩
  gi_wp2
  obtain ⟨w3, hw3⟩ : ∃ w3, w3 = (w.alloc (.cells #[.slice none 0 0] 70)).alloc (.cells #[.pointer (some ⟨b, 0, none⟩)] 57) := ⟨_, rfl⟩
  have hb3 : Below w.heap.size w w3 := by rw [hw3]; exact b_alloc (b_alloc (Below.refl _ _) _) _
  have hsz : w3.heap.size = w.heap.size + 1 + 1 := by rw [hw3]; simp
  have x0 : Blk w3 (w.heap.size) 70 #[.slice none 0 0] := by (rw [hw3]; unfold Blk; repeat (first | ((with_reducible refine alloc_here' ?_); (simp; done)) | (with_reducible apply alloc_old')))
  have x1 : Blk w3 (w.heap.size + 1) 57 #[.pointer (some ⟨b, 0, none⟩)] := by (rw [hw3]; unfold Blk; repeat (first | ((with_reducible refine alloc_here' ?_); (simp; done)) | (with_reducible apply alloc_old')))
  have hI0 : sinceI w b w3.heap.size ([], none) w3 := ⟨none, 0, rfl, World.ownsRow_nil _ _ _ _, x0, x1, hb3⟩
  clear x0 x1
  rw [← hw3]
  have HW3 := Lib.hid hw3
  clear hw3
  refine range_k rfl (by omega) (gf := 67) (lb := #[.pointer (some ⟨w.heap.size + 1, 0, none⟩)]) rfl trivial (enters_of Try.func67 (by kernel_rfl) rfl)
    (encs := sEnc) (G := aG B b mo m A n cap xs (w.heap.size + 1)) (S := fun ys => ys = xs.drop m) (Sp := fun ys => ∃ j, j ≤ xs.length ∧ ys = (xs.take j).drop m) (fun _ => rfl) none (fun k hk => by cases hk)
    (fun W1 hW1 hs1 => since_iter _ (by omega) _ B b mo m A n cap xs _ W1 (by omega) hm)
    (sinceI w b w3.heap.size) (fun _ _ _ => False)
    (by
      rintro s A1 A2 row ⟨A', cap', h1, h2, k0, k1, h8⟩ hg hr
      have hr' := fun r e => (hr r e).2
      exact ⟨A', cap', h1, own_turn' h2 hg hr', k0.turn hg hr', k1.turn hg hr', below_turn h8 hg (fun r e => by have := (hr r e).1; omega) h8.size⟩)
    (fun _ _ _ _ _ h _ _ => h)
    (by
      rintro s A1 ⟨A', cap', h1, h2, k0, k1, h8⟩
      exact ⟨h.later h8, k1.cell 0⟩)
    hI0 ?round ?done ?stop
  case stop => exact fun D c pre r W hD _ _ h _ => h.elim
  case done =>
    clear hI0 hb3
    rintro D ys r W hD hDr rfl ⟨A', cap', h1, h2, k0, k1, h8⟩ hK
    have hl : (xs.drop m).length = n - m := by rw [List.length_drop, hln.out]
    replace h2 : W.ownsRow w3.heap.size 9 1 (.slice A' (xs.drop m).length cap') (xs.drop m).length ((xs.drop m).map Value.string) := h2
    replace k0 : Blk W (w.heap.size) 70 #[.slice A' (xs.drop m).length cap'] := k0
    rw [hl] at h2
    rw [hl] at k0
    have h1 : r = rowOf A' := h1
    subst h1
    have hro := own_row h2
    have c0 := k0.cell
    have f0 := k0.frozen
    have c1 := k1.cell
    have f1 := k1.frozen
    have hK' : W.heap[D]? = some (.deferred (some [])) := hK
    have hB' := h8
    have o5 := h2
    clear hro h2 k0 k1 h8 hl
    gi_wp2
    refine ⟨by simp, .inl ⟨_, _, rfl, run_takeDeferred hK', ?_⟩⟩
    exact ⟨_, results_tmp rfl _ _ _, ⟨A', cap', rfl, own_base (B := w3.heap.size) (own_kept o5 fun g hg => World.putObj_heap_other (by rintro rfl; exact hDr hg.symm)) (show w.heap.size ≤ w3.heap.size by omega)⟩, hB'.trans (below_putObj _ D (.deferred none) (show w.heap.size ≤ D by omega))⟩
  case round =>
    clear hI0 hb3
    rintro l pre x r W hl1 hl2 hlr ⟨j, hj, hpre⟩ hI
    have hpl := congrArg List.length hpre
    obtain ⟨i, hpi⟩ : ∃ i, i = pre.length := ⟨_, rfl⟩
    have hlt : i < xs.length := by simp at hpl; omega
    have hsl : (pre ++ [x]).length = pre.length + 1 := by simp
    have hsm : ((pre ++ [x]).map (Value.string)) = (pre.map (Value.string)) ++ [Value.string x] := by simp
    obtain ⟨pr, hpr⟩ : ∃ pr, pr = pre ++ [x] := ⟨_, rfl⟩
    rw [← hpr] at hsl hsm ⊢
    clear hpre hpl hj
    have hin : i < n := by have := hln.out; omega
    obtain ⟨L, hL⟩ : ∃ L, L = pre.length := ⟨_, rfl⟩
    rw [← hL] at hsl hpi
    subst hpi
    obtain ⟨FL, hFL⟩ : ∃ FL, FL = pre.map (Value.string) := ⟨_, rfl⟩
    rw [← hFL] at hsm
    have HL := Lib.hid hL
    have HFL := Lib.hid hFL
    have HSL := Lib.hid hsl
    have HSM := Lib.hid hsm
    clear hL hFL hsl hsm hpr
    simp only [sEnc, List.zip_toArray, List.zip_cons_cons, List.zip_nil_right, List.foldl_toArray, List.foldl_cons, List.foldl_nil, List.setIfInBounds_toArray, List.set_cons_zero, List.set_cons_succ]
    gi_wp2
    refine ⟨Rd.refl _ _ _, hI, fun o hIo => ?_⟩
    clear hI
    generalize W.putObj l o = Wq at hIo ⊢
    obtain ⟨A', cap', h1, h2, k0, k1, h8⟩ := hIo
    have h1 : r = rowOf A' := h1
    subst h1
    have h2 : Wq.ownsRow w3.heap.size 9 1 (.slice A' pre.length cap') pre.length (pre.map (Value.string)) := h2
    have k0 : Blk Wq (w.heap.size) 70 #[.slice A' pre.length cap'] := k0
    rw [← HL.out, ← HFL.out] at h2
    rw [← HL.out] at k0
    have hro := own_row h2
    have hne : ∀ g, g < w3.heap.size → some g ≠ (Value.slice A' i cap').ownBlock := by
      intro g hg e
      rw [rowOf_own] at e
      have := (hro g e.symm).1
      omega
    have z2 : ((i : Int) == 1000) = false := by rw [beq_eq_false_iff_ne]; omega
    have hb8 := h8.size
    have o2 := own_later h2 (b_alloc (Below.refl _ Wq) (.cells #[Value.string x] 9))
    have hrd := Reads.one Wq 9 (Value.string x)
    have k4' : ∀ u ∈ [Value.string x], u.oneCell' = true := by intro u hu; simp at hu; subst hu; rfl
    have k5' : i + 1 ≤ maxLen := by unfold maxLen; omega
    have k6' : (i + 1) * 16 ≤ 140737488355328 := by omega
    have hlq : w3.heap.size ≤ Wq.heap.size := by have := k1.lt; omega
    have k7' : w3.heap.size ≤ (Wq.alloc (.cells #[Value.string x] 9)).heap.size := by rw [World.size_alloc]; omega
    have g0 := k0.alloc (.cells #[Value.string x] 9)
    have c0 := k0.cell
    have g1 := k1.alloc (.cells #[Value.string x] 9)
    have c1 := k1.cell
    gi_wp2_with (first
      | (gi_at_builtin; refine wpListIn_append_any _ rfl (.tmp 12) (.tmp 14) _ rfl w3.heap.size 9 i0 _ 1 16 Try.underlying70 hi0 hz0 hz1 hz2 rfl (by omega) _ i _ rfl o2 (Wq.heap.size + 1) _ 1 1 _ rfl hrd k4' k5' k6' k7' ?_; intro v5 w5 o5 hg5 hat5; obtain ⟨g5', cap5, rfl, hbg5, hlg5⟩ := own_head o5; have qo := g0.grown hg5 (hne _ (by omega)); have f6 := qo.cell; have f6' := qo.frozen))
    have hg6 : (Wq.alloc (.cells #[Value.string x] 9)).grownBy w5 ((Value.slice A' i cap').ownBlock) := hg5
    have q1 := g1.grown hg5 (hne _ (by omega))
    have hrow : NewRow Wq (rowOf A') (rowOf (some ⟨g5', 0, none⟩)) := by
      rcases hat5 with hq | hq
      · exact .inl ((rowOf_own _ (i + 1) cap5).symm.trans (hq.trans (rowOf_own A' i cap')))
      · injection hq with hq
        have hq' : g5' = (Wq.alloc (.cells #[Value.string x] 9)).heap.size := hq
        exact NewRow.new (show Wq.heap.size ≤ g5' by rw [hq']; simp)
    have hR : Rd w3.heap.size (rowOf A') (rowOf (some ⟨g5', 0, none⟩)) Wq w5 :=
      ⟨Nat.le_trans (by simp) hg6.size, fun g hg1 hg2 hg3 => (hg6.block g (by simp; omega) (by rw [rowOf_own]; exact hg3)).trans (Below.heap_alloc _ _ g hg2), hrow⟩
    have hB5 : Below w.heap.size w w5 := (b_alloc h8 _).grown hg6 (by simp; omega) (fun k hk => by rw [rowOf_own] at hk; have := (hro k hk).1; omega)
    try rw [← hsz]
    refine ⟨rowOf (some ⟨g5', 0, none⟩), hR.set_ (p := ⟨w.heap.size, 0, none⟩) (.inl (by show w.heap.size < w3.heap.size; omega)) _, some ⟨g5', 0, none⟩, cap5, rfl, ?_, ?_, q1.far (p := ⟨w.heap.size, 0, none⟩) (by show w.heap.size + 1 ≠ w.heap.size; omega) _, hB5.setCell (p := ⟨w.heap.size, 0, none⟩) (by show w.heap.size ≤ w.heap.size; omega) _⟩
    · show (w5.setCell ⟨w.heap.size, 0, none⟩ _).ownsRow w3.heap.size 9 1 (.slice (some ⟨g5', 0, none⟩) pr.length cap5) pr.length (pr.map (Value.string))
      rw [HSL.out, HSM.out]
      exact own_setFar o5 (by intro e; injection e with e; have e : g5' = w.heap.size := e; omega) _
    · show Blk _ _ _ #[.slice (some ⟨g5', 0, none⟩) pr.length cap5]
      rw [HSL.out]
      exact qo.set_ 0 _
end Go.Proofs.Ytohnoioblhkepaa.Hs
