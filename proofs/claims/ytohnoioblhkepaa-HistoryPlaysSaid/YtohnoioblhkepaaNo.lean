/-
  Lists of strings that are nil, or were made by nobody; a reference that is nil.
-/
import Derived.Test.YtohnoioblhkepaaCos
import Derived.Test.YtohnoioblhkepaaEq
namespace Go.Proofs.Ytohnoioblhkepaa.Hs
open Go.RowKit Go.Shelf
set_option linter.unusedVariables false
set_option linter.unusedSimpArgs false
attribute [local go_sem] Oper.semAt_some
/-- no list -/
def No (p : Option Addr) (w : World) : Prop := p = none ∨ ∃ b, p = some ⟨b, 0, none⟩ ∧ Blk w b 72 #[.bool false, .int .i64 0, .int .i64 0, .slice none 0 0]
theorem No.later {p : Option Addr} {w w' : World} (h : No p w) (hb : Below w.heap.size w w') : No p w' := by
  rcases h with h | ⟨b, h, hk⟩
  · exact .inl h
  · exact .inr ⟨b, h, hk.below hb hk.lt⟩
theorem No.turn {p : Option Addr} {w w' : World} {row : Option Nat} (h : No p w) (hg : w.grownBy w' row) (hr : ∀ r, row = some r → ∃ o : Obj, w.heap[r]? = some o ∧ o.isCells = false) : No p w' := by
  rcases h with h | ⟨b, h, hk⟩
  · exact .inl h
  · exact .inr ⟨b, h, hk.turn hg hr⟩
section
variable (p : Option Addr) (w : World)
theorem valid_no (h : No p w) : Calls Try.prog 51 #[.pointer p] w fun e w' => e = .returned (.bool false) ∧ w = w' := by
  rcases h with rfl | ⟨b, rfl, hk⟩
  · go_enter Try.func51, Try.ntmps51
    go_wp2
    go_ret
    exact ⟨rfl, rfl⟩
  · have hc := hk.cell
    go_enter Try.func51, Try.ntmps51
    go_wp2
    go_ret
    exact ⟨rfl, rfl⟩
theorem Mark_no (h : No p w) : Calls Try.prog 28 #[.pointer p] w fun e w' => e = .returned (.tuple #[]) ∧ w = w' := by
  have hv := valid_no p w h
  go_enter Try.func28, Try.ntmps28
  go_wp2_with fail
  refine hv.mono ?_
  rintro e w' ⟨rfl, rfl⟩
  go_wp2_with fail
  go_end0
  exact ⟨rfl, rfl⟩
theorem Clear_no (h : No p w) : Calls Try.prog 32 #[.pointer p] w fun e w' => e = .returned (.tuple #[]) ∧ w = w' := by
  have hv := valid_no p w h
  go_enter Try.func32, Try.ntmps32
  go_wp2_with fail
  refine hv.mono ?_
  rintro e w' ⟨rfl, rfl⟩
  go_wp2_with fail
  go_end0
  exact ⟨rfl, rfl⟩
theorem Len_no (h : No p w) : Calls Try.prog 44 #[.pointer p] w fun e w' => e = .returned (.int .i64 0) ∧ w = w' := by
  have hv := valid_no p w h
  go_enter Try.func44, Try.ntmps44
  go_wp2_with fail
  refine hv.mono ?_
  rintro e w' ⟨rfl, rfl⟩
  go_wp2_with fail
  go_ret
  exact ⟨rfl, rfl⟩
theorem Marked_no (h : No p w) : Calls Try.prog 43 #[.pointer p] w fun e w' => e = .returned (.int .i64 0) ∧ w = w' := by
  have hv := valid_no p w h
  go_enter Try.func43, Try.ntmps43
  go_wp2_with fail
  refine hv.mono ?_
  rintro e w' ⟨rfl, rfl⟩
  go_wp2_with fail
  go_ret
  exact ⟨rfl, rfl⟩
theorem Copy_no (h : No p w) : Calls Try.prog 34 #[.pointer p] w fun e w' => e = .returned (.pointer none) ∧ w = w' := by
  have hv := valid_no p w h
  go_enter Try.func34, Try.ntmps34
  go_wp2_with fail
  refine hv.mono ?_
  rintro e w' ⟨rfl, rfl⟩
  go_wp2_with fail
  go_ret
  exact ⟨rfl, rfl⟩
theorem Add_no (h : No p w) (x : ByteArray) : Calls Try.prog 26 #[.pointer p, .string x] w fun e w' => e = .returned (.int .i64 1) ∧ w = w' := by
  have hv := valid_no p w h
  go_enter Try.func26, Try.ntmps26
  go_wp2_with fail
  refine hv.mono ?_
  rintro e w' ⟨rfl, rfl⟩
  go_wp2_with fail
  go_ret
  exact ⟨rfl, rfl⟩
theorem Cut_no (h : No p w) (i : Int) : Calls Try.prog 30 #[.pointer p, .int .i64 i] w fun e w' => e = .returned (.int .i64 1) ∧ w = w' := by
  have hv := valid_no p w h
  go_enter Try.func30, Try.ntmps30
  go_wp2_with fail
  refine hv.mono ?_
  rintro e w' ⟨rfl, rfl⟩
  go_wp2_with fail
  go_ret
  exact ⟨rfl, rfl⟩
theorem At_no (h : No p w) (i : Int) : Calls Try.prog 47 #[.pointer p, .int .i64 i] w fun e w' => e = .returned (.tuple #[.string ⟨#[]⟩, .int .i64 1]) ∧ w = w' := by
  have hv := valid_no p w h
  go_enter Try.func47, Try.ntmps47
  go_wp2_with fail
  refine hv.mono ?_
  rintro e w' ⟨rfl, rfl⟩
  go_wp2_with fail
  go_ret2
  exact ⟨rfl, rfl⟩
theorem rAt_no (w : World) (i : Int) : Calls Try.prog 55 #[.pointer none, .int .i64 i] w fun e w' => e = .returned (.tuple #[.string ⟨#[]⟩, .int .i64 1]) ∧ w = w' := by
  go_enter Try.func55, Try.ntmps55
  go_wp2
  go_ret2
  exact ⟨rfl, rfl⟩
theorem rAll_no (w : World)  : Calls Try.prog 57 #[.pointer none] w fun e w' => e = .returned (.slice none 0 0) ∧ w = w' := by
  go_enter Try.func57, Try.ntmps57
  go_wp2
  go_ret
  exact ⟨rfl, rfl⟩
theorem rSince_no (w : World)  : Calls Try.prog 58 #[.pointer none] w fun e w' => e = .returned (.slice none 0 0) ∧ w = w' := by
  go_enter Try.func58, Try.ntmps58
  go_wp2
  go_ret
  exact ⟨rfl, rfl⟩
theorem rLen_no (w : World)  : Calls Try.prog 59 #[.pointer none] w fun e w' => e = .returned (.int .i64 0) ∧ w = w' := by
  go_enter Try.func59, Try.ntmps59
  go_wp2
  go_ret
  exact ⟨rfl, rfl⟩
theorem rMarked_no (w : World)  : Calls Try.prog 60 #[.pointer none] w fun e w' => e = .returned (.int .i64 0) ∧ w = w' := by
  go_enter Try.func60, Try.ntmps60
  go_wp2
  go_ret
  exact ⟨rfl, rfl⟩
theorem rCopy_no (w : World)  : Calls Try.prog 35 #[.pointer none] w fun e w' => e = .returned (.pointer none) ∧ w = w' := by
  go_enter Try.func35, Try.ntmps35
  go_wp2
  go_ret
  exact ⟨rfl, rfl⟩
theorem rAdd_no (w : World) (x : ByteArray) : Calls Try.prog 27 #[.pointer none, .string x] w fun e w' => e = .returned (.int .i64 1) ∧ w = w' := by
  go_enter Try.func27, Try.ntmps27
  go_wp2
  go_ret
  exact ⟨rfl, rfl⟩
theorem rCut_no (w : World) (i : Int) : Calls Try.prog 31 #[.pointer none, .int .i64 i] w fun e w' => e = .returned (.int .i64 1) ∧ w = w' := by
  go_enter Try.func31, Try.ntmps31
  go_wp2
  go_ret
  exact ⟨rfl, rfl⟩
theorem rMark_no (w : World)  : Calls Try.prog 29 #[.pointer none] w fun e w' => e = .returned (.tuple #[]) ∧ w = w' := by
  go_enter Try.func29, Try.ntmps29
  go_wp2
  go_end0
  exact ⟨rfl, rfl⟩
theorem rClear_no (w : World)  : Calls Try.prog 33 #[.pointer none] w fun e w' => e = .returned (.tuple #[]) ∧ w = w' := by
  go_enter Try.func33, Try.ntmps33
  go_wp2
  go_end0
  exact ⟨rfl, rfl⟩
end
/-- what the iterators read -/
def nG (p : Option Addr) (Bn : Nat) (w : World) : Prop := No p w ∧ w.cell? ⟨Bn, 0, none⟩ = some (.pointer p)
set_option maxRecDepth 100000 in
theorem all_iter_no (d : Nat) (hd : 1 ≤ d) (C : Nat) (p : Option Addr) (Bn : Nat) (W : World) :
    IterK Fence.wide d Try.prog 69 #[.pointer (some ⟨Bn, 0, none⟩)] aEnc C (nG p Bn) (fun ys => ys = []) (fun _ => False) W := by
  intro l J Jx r0 hJ hJx hG hr0 hY h0
  obtain ⟨hI, hcl⟩ := hG _ _ h0
  have hv := valid_no p W hI
  refine callsIn_of_wp Try.func69 rfl trivial ?_
  simp only [Try.ntmps69, List.size_toArray, List.length_cons, List.length_nil, Nat.reduceAdd, Nat.reduceSub, Array.replicate_succ, Array.replicate_zero, List.push_toArray, List.append_toArray, List.nil_append, List.cons_append]
  clear hY hG hI
  gi_wp2
  refine ⟨trivial, (callsIn_wide.2 hv).mono ?_⟩
  rintro e w' ⟨rfl, rfl⟩
  gi_wp2
  exact bodyPost_ret (results_none rfl _ _ _) rfl ⟨⟨_, rfl⟩, .inl ⟨[], r0, rfl, h0⟩⟩
def nI (J : List ByteArray × Option Nat → World → Prop) (p : Option Addr) (B : Nat) (s : List (Nat × ByteArray) × Option Nat) (W' : World) : Prop := s.1 = [] ∧ J ([], s.2) W' ∧ Blk W' (B + 1) 57 #[.pointer p]
set_option maxHeartbeats 1600000 in
set_option maxRecDepth 100000 in
theorem since_iter_no (d : Nat) (hd : 3 ≤ d) (C : Nat) (p : Option Addr) (Bn : Nat) (W : World) (hC : C ≤ W.heap.size) :
    IterK Fence.wide d Try.prog 67 #[.pointer (some ⟨Bn, 0, none⟩)] sEnc C (nG p Bn) (fun ys => ys = []) (fun _ => False) W := by
  intro l J Jx r0 hJ hJx hG hr0 hY h0
  obtain ⟨hI, hcl⟩ := hG _ _ h0
  refine callsIn_of_wp_marks Try.func67 rfl trivial ?_ rfl
  simp only [Try.ntmps67, List.size_toArray, List.length_cons, List.length_nil, Nat.reduceAdd, Nat.reduceSub, Array.replicate_succ, Array.replicate_zero, List.push_toArray, List.append_toArray, List.nil_append, List.cons_append]
  have hBn : Bn < W.heap.size := block_lt_of_cell hcl
  have hd1 : 1 ≤ d := by omega
  gi_wp2
  refine ⟨trivial, (callsIn_wide.2 (All_any _ _)).mono ?_⟩
  rintro e w' ⟨rfl, rfl⟩
  gi_wp2
  obtain ⟨w3, hw3⟩ : ∃ w3, w3 = (W.alloc (.cells #[.func (.yield l) #[] #[]] 107)).alloc (.cells #[.pointer p] 57) := ⟨_, rfl⟩
  have hb3 : Below W.heap.size W w3 := by rw [hw3]; exact b_alloc (b_alloc (Below.refl _ _) _) _
  have hsz : w3.heap.size = W.heap.size + 1 + 1 := by rw [hw3]; simp
  have x2 : Blk w3 (W.heap.size + 1) 57 #[.pointer p] := by (rw [hw3]; unfold Blk; repeat (first | ((with_reducible refine alloc_here' ?_); (simp; done)) | (with_reducible apply alloc_old')))
  have h3 : J ([], r0) w3 := own_new hJ h0 hb3
  rw [← hw3]
  have HW3 := Lib.hid hw3
  clear hw3
  refine range_k rfl (by omega) (gf := 69) (lb := #[.pointer (some ⟨W.heap.size + 1, 0, none⟩)]) rfl trivial (enters_of Try.func69 (by kernel_rfl) rfl)
    (encs := aEnc) (G := nG p (W.heap.size + 1)) (S := fun ys => ys = []) (Sp := fun _ => False) (fun _ => rfl) r0 (fun k hk => by have := hr0 k hk; omega)
    (fun W1 hW1 hs1 => all_iter_no _ (by omega) _ p _ W1)
    (nI J p W.heap.size) (fun _ _ _ => False)
    (by
      rintro s A1 A2 row ⟨h1, h2, h3⟩ hg hr
      exact ⟨h1, hJ _ A1 A2 row h2 hg (fun r e => ⟨by have := (hr r e).1; omega, (hr r e).2⟩), h3.turn hg (fun r e => (hr r e).2)⟩)
    (fun _ _ _ _ _ h _ _ => h)
    (by
      rintro s A1 ⟨h1, h2, h3⟩
      exact ⟨(hG _ _ h2).1, h3.cell 0⟩)
    ⟨rfl, h3, x2⟩ ?round ?done ?stop
  case stop => exact fun D c pre r W hD _ h _ _ => h.elim
  case round => exact fun l pre x r W _ _ _ h _ => h.elim
  case done =>
    clear h0 h3 x2 hI hcl
    rintro D ys r W2 hD hDr rfl ⟨h1, h2, h3⟩ hK
    have h9 := hJ.putObj (l := D) (.deferred none) h2 (by omega) hK rfl
    clear h2 h3 hY hG
    gi_wp2
    refine ⟨by simp, .inl ⟨_, _, rfl, run_takeDeferred hK, ?_⟩⟩
    exact ⟨_, results_none rfl _ _ _, ⟨_, rfl⟩, _, h9⟩
def allJ (w : World) (p : Option Addr) (s : List (Nat × ByteArray) × Option Nat) (W : World) : Prop := Blk W (w.heap.size) 70 #[.slice none 0 0] ∧ Blk W (w.heap.size + 1) 4 #[.bool false] ∧ Blk W (w.heap.size + 1 + 1) 70 #[.slice none 0 0] ∧ Blk W (w.heap.size + 1 + 1 + 1) 57 #[.pointer p] ∧ Below w.heap.size w W
set_option maxHeartbeats 1600000 in
set_option maxRecDepth 100000 in
theorem all_no (p : Option Addr) (w : World) (h : No p w) : Calls Try.prog 56 #[.pointer p] w (Got w 0 []) := by
  refine (callsIn_wide (n := 9)).1 ?_
  refine callsIn_of_wp_marks Try.func56 rfl trivial ?_ rfl
  simp only [Try.ntmps56, List.size_toArray, List.length_cons, List.length_nil, Nat.reduceAdd, Nat.reduceSub, Array.replicate_succ, Array.replicate_zero, List.push_toArray, List.append_toArray, List.nil_append, List.cons_append]
  gi_wp2
  refine ⟨trivial, (callsIn_wide.2 (All_any _ _)).mono ?_⟩
  rintro e w' ⟨rfl, rfl⟩
  gi_wp2
  refine ⟨trivial, (callsIn_wide.2 (yields_any _ _)).mono ?_⟩
  rintro e w' ⟨rfl, rfl⟩
  gi_wp2
  obtain ⟨w3, hw3⟩ : ∃ w3, w3 = (((w.alloc (.cells #[.slice none 0 0] 70)).alloc (.cells #[.bool false] 4)).alloc (.cells #[.slice none 0 0] 70)).alloc (.cells #[.pointer p] 57) := ⟨_, rfl⟩
  have hb3 : Below w.heap.size w w3 := by rw [hw3]; exact b_alloc (b_alloc (b_alloc (b_alloc (Below.refl _ _) _) _) _) _
  have hsz : w3.heap.size = w.heap.size + 1 + 1 + 1 + 1 := by rw [hw3]; simp
  have x0 : Blk w3 (w.heap.size) 70 #[.slice none 0 0] := by (rw [hw3]; unfold Blk; repeat (first | ((with_reducible refine alloc_here' ?_); (simp; done)) | (with_reducible apply alloc_old')))
  have x1 : Blk w3 (w.heap.size + 1) 4 #[.bool false] := by (rw [hw3]; unfold Blk; repeat (first | ((with_reducible refine alloc_here' ?_); (simp; done)) | (with_reducible apply alloc_old')))
  have x2 : Blk w3 (w.heap.size + 1 + 1) 70 #[.slice none 0 0] := by (rw [hw3]; unfold Blk; repeat (first | ((with_reducible refine alloc_here' ?_); (simp; done)) | (with_reducible apply alloc_old')))
  have x3 : Blk w3 (w.heap.size + 1 + 1 + 1) 57 #[.pointer p] := by (rw [hw3]; unfold Blk; repeat (first | ((with_reducible refine alloc_here' ?_); (simp; done)) | (with_reducible apply alloc_old')))
  rw [← hw3]
  have HW3 := Lib.hid hw3
  clear hw3
  refine range_k rfl (by omega) (gf := 69) (lb := #[.pointer (some ⟨w.heap.size + 1 + 1 + 1, 0, none⟩)]) rfl trivial (enters_of Try.func69 (by kernel_rfl) rfl)
    (encs := aEnc) (G := nG p (w.heap.size + 1 + 1 + 1)) (S := fun ys => ys = []) (Sp := fun _ => False) (fun _ => rfl) none (fun k hk => by cases hk)
    (fun W1 hW1 hs1 => all_iter_no _ (by omega) _ p _ W1)
    (allJ w p) (fun _ _ _ => False)
    (by
      rintro s A1 A2 row ⟨k0, k1, k2, k3, h8⟩ hg hr
      have hr' := fun r e => (hr r e).2
      exact ⟨k0.turn hg hr', k1.turn hg hr', k2.turn hg hr', k3.turn hg hr', below_turn h8 hg (fun r e => by have := (hr r e).1; omega) h8.size⟩)
    (fun _ _ _ _ _ h _ _ => h)
    (by
      rintro s A1 ⟨k0, k1, k2, k3, h8⟩
      exact ⟨h.later h8, k3.cell 0⟩)
    ⟨x0, x1, x2, x3, hb3⟩ ?round ?done ?stop
  case stop => exact fun D c pre r W hD _ h _ _ => h.elim
  case round => exact fun l pre x r W _ _ _ h _ => h.elim
  case done =>
    clear hb3 x0 x1 x2 x3
    rintro D ys r W hD hDr rfl ⟨k0, k1, k2, k3, h8⟩ hK
    have c0 := k0.cell
    have f0 := k0.frozen
    have c1 := k1.cell
    have f1 := k1.frozen
    have c2 := k2.cell
    have f2 := k2.frozen
    have c3 := k3.cell
    have f3 := k3.frozen
    have hK' : ((W.setCell ⟨w.heap.size, 0, none⟩ (.slice none 0 0)).setCell ⟨w.heap.size + 1, 0, none⟩ (.bool true)).heap[D]? = some (.deferred (some [])) := ((Below.heap_setCell _ _ _ D (by show D ≠ w.heap.size + 1; omega)).trans ((Below.heap_setCell _ _ _ D (by show D ≠ w.heap.size; omega)).trans hK))
    have hB' := ((h8.setCell (p := ⟨w.heap.size, 0, none⟩) (by show w.heap.size ≤ w.heap.size; omega) (.slice none 0 0)).setCell (p := ⟨w.heap.size + 1, 0, none⟩) (by show w.heap.size ≤ w.heap.size + 1; omega) (.bool true))
    have g0 := ((k0.set_ 0 (.slice none 0 0)).far (p := ⟨w.heap.size + 1, 0, none⟩) (by show w.heap.size ≠ w.heap.size + 1; omega) (.bool true))
    have g1 := ((k1.far (p := ⟨w.heap.size, 0, none⟩) (by show w.heap.size + 1 ≠ w.heap.size; omega) (.slice none 0 0)).set_ 0 (.bool true))
    clear k0 k1 k2 k3 h8
    gi_wp2
    refine ⟨by simp, .inl ⟨_, _, rfl, run_takeDeferred hK', ?_⟩⟩
    have q0 := (g0.putObj (l := D) (by omega) (.deferred none)).cell
    have q1 := (g1.putObj (l := D) (by omega) (.deferred none)).cell
    exact ⟨_, by simp [results, Try.results56, go_sem, q0, q1], ⟨none, 0, rfl, World.ownsRow_nil _ _ _ _⟩, hB'.trans (below_putObj _ D (.deferred none) (show w.heap.size ≤ D by omega))⟩
def sinceJ (w : World) (p : Option Addr) (s : List (ByteArray) × Option Nat) (W : World) : Prop := Blk W (w.heap.size) 70 #[.slice none 0 0] ∧ Blk W (w.heap.size + 1) 57 #[.pointer p] ∧ Below w.heap.size w W
set_option maxHeartbeats 1600000 in
set_option maxRecDepth 100000 in
theorem since_no (p : Option Addr) (w : World) (h : No p w) : Calls Try.prog 46 #[.pointer p] w (Got1 w 0 []) := by
  refine (callsIn_wide (n := 9)).1 ?_
  refine callsIn_of_wp_marks Try.func46 rfl trivial ?_ rfl
  simp only [Try.ntmps46, List.size_toArray, List.length_cons, List.length_nil, Nat.reduceAdd, Nat.reduceSub, Array.replicate_succ, Array.replicate_zero, List.push_toArray, List.append_toArray, List.nil_append, List.cons_append]
  gi_wp2
  refine ⟨trivial, (callsIn_wide.2 (Since_any _ _)).mono ?_⟩
  rintro e w' ⟨rfl, rfl⟩
  gi_wp2
  refine ⟨trivial, (callsIn_wide.2 (yields1_any _ _)).mono ?_⟩
  rintro e w' ⟨rfl, rfl⟩
  gi_wp2
  obtain ⟨w3, hw3⟩ : ∃ w3, w3 = (w.alloc (.cells #[.slice none 0 0] 70)).alloc (.cells #[.pointer p] 57) := ⟨_, rfl⟩
  have hb3 : Below w.heap.size w w3 := by rw [hw3]; exact b_alloc (b_alloc (Below.refl _ _) _) _
  have hsz : w3.heap.size = w.heap.size + 1 + 1 := by rw [hw3]; simp
  have x0 : Blk w3 (w.heap.size) 70 #[.slice none 0 0] := by (rw [hw3]; unfold Blk; repeat (first | ((with_reducible refine alloc_here' ?_); (simp; done)) | (with_reducible apply alloc_old')))
  have x1 : Blk w3 (w.heap.size + 1) 57 #[.pointer p] := by (rw [hw3]; unfold Blk; repeat (first | ((with_reducible refine alloc_here' ?_); (simp; done)) | (with_reducible apply alloc_old')))
  rw [← hw3]
  have HW3 := Lib.hid hw3
  clear hw3
  refine range_k rfl (by omega) (gf := 67) (lb := #[.pointer (some ⟨w.heap.size + 1, 0, none⟩)]) rfl trivial (enters_of Try.func67 (by kernel_rfl) rfl)
    (encs := sEnc) (G := nG p (w.heap.size + 1)) (S := fun ys => ys = []) (Sp := fun _ => False) (fun _ => rfl) none (fun k hk => by cases hk)
    (fun W1 hW1 hs1 => since_iter_no _ (by omega) _ p _ W1 (by omega))
    (sinceJ w p) (fun _ _ _ => False)
    (by
      rintro s A1 A2 row ⟨k0, k1, h8⟩ hg hr
      have hr' := fun r e => (hr r e).2
      exact ⟨k0.turn hg hr', k1.turn hg hr', below_turn h8 hg (fun r e => by have := (hr r e).1; omega) h8.size⟩)
    (fun _ _ _ _ _ h _ _ => h)
    (by
      rintro s A1 ⟨k0, k1, h8⟩
      exact ⟨h.later h8, k1.cell 0⟩)
    ⟨x0, x1, hb3⟩ ?round ?done ?stop
  case stop => exact fun D c pre r W hD _ h _ _ => h.elim
  case round => exact fun l pre x r W _ _ _ h _ => h.elim
  case done =>
    clear hb3 x0 x1
    rintro D ys r W hD hDr rfl ⟨k0, k1, h8⟩ hK
    have c0 := k0.cell
    have f0 := k0.frozen
    have c1 := k1.cell
    have f1 := k1.frozen
    have hK' : W.heap[D]? = some (.deferred (some [])) := hK
    have hB' := h8
    clear k0 k1 h8
    gi_wp2
    refine ⟨by simp, .inl ⟨_, _, rfl, run_takeDeferred hK', ?_⟩⟩
    exact ⟨_, results_tmp rfl _ _ _, ⟨none, 0, rfl, World.ownsRow_nil _ _ _ _⟩, hB'.trans (below_putObj _ D (.deferred none) (show w.heap.size ≤ D by omega))⟩
set_option maxHeartbeats 1600000 in
set_option maxRecDepth 100000 in
theorem shows_no (p : Option Addr) (w : World) (h : No p w) (i : Int) : Calls Try.prog 36 #[.pointer p, .pointer none, .int .i64 i] w fun e w' => e = .returned (.bool true) ∧ Below w.heap.size w w' := by
  go_enter Try.func36, Try.ntmps36
  go_wp2_with fail
  refine (At_no p w h i).mono ?_
  rintro e w' ⟨rfl, rfl⟩
  go_wp2_with fail
  refine (rAt_no w i).mono ?_
  rintro e w' ⟨rfl, rfl⟩
  go_wp2_with fail
  refine (all_no p w h).mono ?_
  rintro e w1 ⟨⟨A1, c1, rfl, o1⟩, hb1⟩
  have h1 := h.later hb1
  go_wp2_with fail
  refine (rAll_no w1).mono ?_
  rintro e w' ⟨rfl, rfl⟩
  go_wp2_with fail
  refine (eqs_any A1 none 0 c1 0 [] _ rfl (.inl rfl) (.inl rfl) (by unfold maxLen; omega)).mono ?_
  rintro e w2 ⟨rfl, q2, rfl⟩
  have h2 := h1.later (below_drewN (Below.refl _ _) q2)
  have hb2 := below_drewN hb1 q2
  generalize World.drewN w1 q2 = w2 at h2 hb2 ⊢
  clear h1 hb1 o1
  go_wp2_with fail
  refine (since_no p w2 h2).mono ?_
  rintro e w3 ⟨⟨A3, c3, rfl, o3⟩, hb3⟩
  have h3 := h2.later hb3
  have hb3 := b_then hb2 hb3
  go_wp2_with fail
  refine (rSince_no w3).mono ?_
  rintro e w' ⟨rfl, rfl⟩
  go_wp2_with fail
  refine (eqs_any A3 none 0 c3 0 [] _ rfl (.inl rfl) (.inl rfl) (by unfold maxLen; omega)).mono ?_
  rintro e w4 ⟨rfl, q4, rfl⟩
  have h4 := h3.later (below_drewN (Below.refl _ _) q4)
  have hb4 := below_drewN hb3 q4
  generalize World.drewN w3 q4 = w4 at h4 hb4 ⊢
  clear h2 hb2 h3 hb3 o3
  go_wp2_with fail
  refine (Len_no p w4 h4).mono ?_
  rintro e w' ⟨rfl, rfl⟩
  go_wp2_with fail
  refine (rLen_no w4).mono ?_
  rintro e w' ⟨rfl, rfl⟩
  go_wp2_with fail
  refine (Marked_no p w4 h4).mono ?_
  rintro e w' ⟨rfl, rfl⟩
  go_wp2_with fail
  refine (rMarked_no w4).mono ?_
  rintro e w' ⟨rfl, rfl⟩
  go_wp2_with fail
  go_ret
  exact ⟨rfl, hb4⟩
end Go.Proofs.Ytohnoioblhkepaa.Hs
