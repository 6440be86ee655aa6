/-
  Lists of strings: the list's functions, each by its contract.
-/
import Derived.Test.YtohnoioblhkepaaDel
import Derived.Test.YtohnoioblhkepaaRg3
namespace Go.Proofs.Ytohnoioblhkepaa.Hs
open Go.RowKit
set_option linter.unusedVariables false
set_option linter.unusedSimpArgs false

/-- block b is a list: at most so many elements, so many of them marked, the slice, and what it holds -/
structure Is (w : World) (B b most m : Nat) (A : Option Addr) (n cap : Nat) (xs : List ByteArray) : Prop where
  blk : Blk w b 72 #[.bool true, .int .i64 most, .int .i64 m, .slice A n cap]
  own : w.ownsRow B 9 1 (.slice A n cap) n (xs.map Value.string)
  far : rowOf A ≠ some b
section
variable {w w' : World} {B b most m n cap : Nat} {A : Option Addr} {xs : List ByteArray}
theorem Is.len (h : Is w B b most m A n cap xs) : xs.length = n := by have := h.own.1; simpa using this
theorem Is.lt (h : Is w B b most m A n cap xs) : b < w.heap.size := h.blk.lt
theorem Is.later (h : Is w B b most m A n cap xs) (hb : Below w.heap.size w w') : Is w' B b most m A n cap xs := ⟨h.blk.below hb h.lt, own_later h.own hb, h.far⟩
theorem Is.drew (h : Is w B b most m A n cap xs) : Is w.drew B b most m A n cap xs := h.later (Below.refl _ _).drew
theorem Is.drewN (h : Is w B b most m A n cap xs) (k : Nat) : Is (w.drewN k) B b most m A n cap xs := h.later (below_drewN (Below.refl _ _) k)
theorem Is.alloc (h : Is w B b most m A n cap xs) (o : Obj) : Is (w.alloc o) B b most m A n cap xs := h.later (b_alloc (Below.refl _ _) o)
/-- another object's change leaves it -/
theorem Is.other {b' : Nat} {r' : Option Nat} (h : Is w B b most m A n cap xs) (k : Only b' r' w w') (h1 : b ≠ b') (h2 : some b ≠ r') (h3 : rowOf A ≠ some b') (h4 : rowOf A = none ∨ rowOf A ≠ r') : Is w' B b most m A n cap xs :=
  ⟨k.blk h.blk h1 h2, k.own h.own h3 h4, h.far⟩
theorem Is.turn {row : Option Nat} (h : Is w B b most m A n cap xs) (hg : w.grownBy w' row) (hr : ∀ r, row = some r → ∃ o : Obj, w.heap[r]? = some o ∧ o.isCells = false) : Is w' B b most m A n cap xs := by
  have hb : some b ≠ row := by
    intro e
    obtain ⟨o, ho, hc⟩ := hr b e.symm
    rw [show w.heap[b]? = _ from h.blk] at ho
    cases ho
    cases hc
  have ha : ∀ g, rowOf A = some g → some g ≠ row := by
    intro g hg' e
    obtain ⟨o, ho, hc⟩ := hr g e.symm
    rcases h.own.2 with ⟨h1, _⟩ | ⟨g', cap', cur, h1, h2, h3, h4⟩
    · injection h1 with h1; subst h1; cases hg'
    · injection h1 with h1; subst h1
      have : g' = g := by simpa [rowOf] using hg'
      subst this
      rw [h3] at ho
      cases ho
      cases hc
  exact ⟨(hg.block b h.lt hb).trans h.blk, own_kept h.own fun g hg' => hg.block g (own_row h.own g hg').2 (ha g hg'), h.far⟩
end
theorem info : (Try.prog.info? 9).map (fun i => (i.zero, i.size, i.bytes)) = some (some (.string ⟨#[]⟩), 1, 16) := by kernel_rfl
theorem New_ok (most : Nat) (w : World) (h : most ≤ 100000) : Calls Try.prog 24 #[.int .i64 most] w fun e w' => ∃ b : Nat, e = .returned (.tuple #[.pointer (some ⟨b, 0, none⟩), .int .i64 0]) ∧ Is w' b b most 0 none 0 0 [] ∧ w.heap.size ≤ b ∧ Below w.heap.size w w' := by
  go_enter Try.func24, Try.ntmps24
  go_wp2
  go_ret2
  exact ⟨_, rfl, ⟨Blk.new w _ _, World.ownsRow_nil _ _ _ _, by simp [rowOf]⟩, Nat.le_refl _, b_alloc (Below.refl _ _) _⟩
theorem New_err (most : Int) (w : World) (h : most < 0 ∨ 100000 < most) : Calls Try.prog 24 #[.int .i64 most] w fun e w' => e = .returned (.tuple #[.pointer none, .int .i64 2]) ∧ w = w' := by
  rcases h with h | h
  · go_enter Try.func24, Try.ntmps24
    go_wp2
    go_ret2
    exact ⟨rfl, rfl⟩
  · have h' : ¬ most < 0 := by omega
    go_enter Try.func24, Try.ntmps24
    go_wp2
    go_ret2
    exact ⟨rfl, rfl⟩
theorem cl_any (B n cap : Nat) (A : Option Addr) (xs : List ByteArray) (w : World) (h : w.ownsRow B 9 1 (.slice A n cap) n (xs.map Value.string)) (hl : n ≤ 100000) : Calls Try.prog 54 #[.slice A n cap] w fun e w' => (∃ A' cap', e = .returned (.slice A' n cap') ∧ w'.ownsRow w.heap.size 9 1 (.slice A' n cap') n (xs.map Value.string)) ∧ Below w.heap.size w w' := by
  obtain ⟨i0, hi0, hz0, hz1, hz2⟩ := info_parts info
  rcases own_shape h with ⟨rfl, rfl, rfl, _, hx⟩ | ⟨g, rfl, _, _, _, _, _⟩
  · have hx' : xs = [] := by simpa using hx
    subst hx'
    have hq : ∀ w : World, (binOp .eql 70 (.slice none 0 0) (.slice none 0 0)).run Try.prog w = .ok (.bool true) w := fun w => run_eql_slice_nil w _ _ none 0 0 Try.underlying70
    clear h
    go_enter Try.func54, Try.ntmps54
    go_wp2_with fail
    go_ret
    exact ⟨⟨none, 0, rfl, World.ownsRow_nil _ _ _ _⟩, Below.refl _ _⟩
  · have hrd := Reads.of_own (own_later h (b_alloc (Below.refl _ _) (.cells #[] 9)))
    have hq : ∀ w : World, (binOp .eql 70 (.slice (some ⟨g, 0, none⟩) n cap) (.slice none 0 0)).run Try.prog w = .ok (.bool false) w := fun w => run_eql_slice_nil w _ _ (some ⟨g, 0, none⟩) n cap Try.underlying70
    have o0 : (w.alloc (.cells #[] 9)).ownsRow w.heap.size 9 1 (.slice (some ⟨w.heap.size, 0, none⟩) 0 0) 0 [] := World.ownsRow_lit w #[] 0 (Nat.le_refl _) (by unfold maxLen; omega) rfl
    have k1 : 0 + n ≤ maxLen := by unfold maxLen; omega
    have k2 : (0 + n) * 16 ≤ 140737488355328 := by omega
    have k3 : w.heap.size ≤ (w.alloc (.cells #[] 9)).heap.size := by simp
    have k4 : ∀ u ∈ xs.map Value.string, u.oneCell' = true := by intro u hu; obtain ⟨x, _, rfl⟩ := List.mem_map.1 hu; rfl
    clear h
    go_enter Try.func54, Try.ntmps54
    go_wp2_with (first
      | (at_builtin; refine wpList_append_any _ rfl (.tmp 5) (.tmp 6) _ rfl w.heap.size 9 i0 _ 1 16 Try.underlying70 hi0 hz0 hz1 hz2 rfl (by omega) _ 0 _ rfl o0 (w.alloc (.cells #[] 9)).heap.size _ n cap (xs.map Value.string) rfl hrd k4 k1 k2 k3 ?_; intro v5 w5 o5 hg5 hat5; simp only [Nat.zero_add, List.nil_append] at o5))
    go_ret
    rcases own_form o5 with ⟨rfl, hn⟩ | ⟨g5, cap5, rfl, _, _⟩
    · subst hn
      exact ⟨⟨none, 0, rfl, o5⟩, b_g (b_alloc (Below.refl _ _) _) hg5 (Nat.le_refl _)⟩
    · exact ⟨⟨_, cap5, rfl, o5⟩, b_g (b_alloc (Below.refl _ _) _) hg5 (Nat.le_refl _)⟩
section
variable (B b most m n cap : Nat) (A : Option Addr) (xs : List ByteArray) (w : World)
set_option maxRecDepth 100000 in
theorem valid_any (h : Is w B b most m A n cap xs)  : Calls Try.prog 51 #[.pointer (some ⟨b, 0, none⟩)] w fun e w' => e = .returned (.bool true) ∧ w = w' := by
  have hc := h.blk.cell
  have hf := h.blk.frozen
  obtain ⟨_, hnc, hcm⟩ := own_cap h.own
  unfold maxLen at hcm
  go_enter Try.func51, Try.ntmps51
  go_wp2
  go_ret
  exact ⟨rfl, rfl⟩
set_option maxRecDepth 100000 in
theorem Len_any (h : Is w B b most m A n cap xs)  : Calls Try.prog 44 #[.pointer (some ⟨b, 0, none⟩)] w fun e w' => e = .returned (.int .i64 n) ∧ w = w' := by
  have hc := h.blk.cell
  have hf := h.blk.frozen
  obtain ⟨_, hnc, hcm⟩ := own_cap h.own
  unfold maxLen at hcm
  go_enter Try.func44, Try.ntmps44
  go_wp2
  go_ret
  exact ⟨rfl, rfl⟩
set_option maxRecDepth 100000 in
theorem Marked_any (h : Is w B b most m A n cap xs)  : Calls Try.prog 43 #[.pointer (some ⟨b, 0, none⟩)] w fun e w' => e = .returned (.int .i64 m) ∧ w = w' := by
  have hc := h.blk.cell
  have hf := h.blk.frozen
  obtain ⟨_, hnc, hcm⟩ := own_cap h.own
  unfold maxLen at hcm
  go_enter Try.func43, Try.ntmps43
  go_wp2
  go_ret
  exact ⟨rfl, rfl⟩
set_option maxRecDepth 100000 in
theorem Mark_any (h : Is w B b most m A n cap xs)  : Calls Try.prog 28 #[.pointer (some ⟨b, 0, none⟩)] w fun e w' => e = .returned (.tuple #[]) ∧ Is w' B b most n A n cap xs ∧ Only b (rowOf A) w w' := by
  have hc := h.blk.cell
  have hf := h.blk.frozen
  obtain ⟨_, hnc, hcm⟩ := own_cap h.own
  unfold maxLen at hcm
  go_enter Try.func28, Try.ntmps28
  go_wp2
  go_end0
  exact ⟨rfl, ⟨h.blk.set_ 2 _, own_setFar h.own (p := ⟨b, 2, none⟩) h.far _, h.far⟩, (Only.refl _ _ _).set_ _ _⟩
set_option maxRecDepth 100000 in
theorem Clear_any (h : Is w B b most m A n cap xs)  : Calls Try.prog 32 #[.pointer (some ⟨b, 0, none⟩)] w fun e w' => e = .returned (.tuple #[]) ∧ Is w' B b most 0 none 0 0 [] ∧ Only b (rowOf A) w w' := by
  have hc := h.blk.cell
  have hf := h.blk.frozen
  obtain ⟨_, hnc, hcm⟩ := own_cap h.own
  unfold maxLen at hcm
  go_enter Try.func32, Try.ntmps32
  go_wp2
  all_goals (try go_region)
  all_goals (try go_wp2)
  all_goals go_end0
  all_goals exact ⟨rfl, ⟨by first | exact ((h.blk.set_ 3 _).set_ 2 _) | exact ((h.blk.set_ 2 _).set_ 3 _) | exact ((h.blk.set_ 3 _).set_ 2 _).drew, World.ownsRow_nil _ _ _ _, by simp [rowOf]⟩, by first | exact ((Only.refl _ _ _).set_ _ _).set_ _ _ | exact (((Only.refl _ _ _).set_ _ _).set_ _ _).then_below (Below.refl _ _).drew⟩
set_option maxRecDepth 100000 in
theorem At_ok (h : Is w B b most m A n cap xs) (i : Nat) (x : ByteArray) (hx : xs[i]? = some x) : Calls Try.prog 47 #[.pointer (some ⟨b, 0, none⟩), .int .i64 i] w fun e w' => e = .returned (.tuple #[Value.string x, .int .i64 0]) ∧ w = w' := by
  have hc := h.blk.cell
  have hf := h.blk.frozen
  obtain ⟨_, hnc, hcm⟩ := own_cap h.own
  unfold maxLen at hcm
  have hi : i < n := by rw [← h.len]; exact (List.getElem?_eq_some_iff.1 hx).1
  have hi2 : (i : Int) < (n : Int) := by omega
  obtain ⟨g, rfl, _, _, c1, _⟩ := own_at h.own (i := i) (u := Value.string x) (by rw [List.getElem?_map, hx]; rfl)
  clear hx
  go_enter Try.func47, Try.ntmps47
  go_wp2
  go_ret2
  exact ⟨rfl, rfl⟩
set_option maxRecDepth 100000 in
theorem At_err (h : Is w B b most m A n cap xs) (i : Int) (hi : i < 0 ∨ (n : Int) ≤ i) : Calls Try.prog 47 #[.pointer (some ⟨b, 0, none⟩), .int .i64 i] w fun e w' => e = .returned (.tuple #[.string ⟨#[]⟩, .int .i64 3]) ∧ w = w' := by
  have hc := h.blk.cell
  have hf := h.blk.frozen
  obtain ⟨_, hnc, hcm⟩ := own_cap h.own
  unfold maxLen at hcm
  rcases hi with hi | hi
  case' inr =>
    have hi' : ¬ i < 0 := by omega
  all_goals go_enter Try.func47, Try.ntmps47
  all_goals go_wp2
  all_goals go_ret2
  all_goals exact ⟨rfl, rfl⟩
set_option maxRecDepth 100000 in
theorem Add_ok (h : Is w B b most m A n cap xs) (x : ByteArray) (hlt : n < most) (hmost : most ≤ 100000) (hBw : B ≤ w.heap.size) : Calls Try.prog 26 #[.pointer (some ⟨b, 0, none⟩), Value.string x] w fun e w' => ∃ A' cap', e = .returned (.int .i64 0) ∧ Is w' B b most m A' (n + 1) cap' (xs ++ [x]) ∧ Only b (rowOf A) w w' ∧ NewRow w (rowOf A) (rowOf A') := by
  have hc := h.blk.cell
  have hf := h.blk.frozen
  obtain ⟨_, hnc, hcm⟩ := own_cap h.own
  unfold maxLen at hcm
  have z1 : decide (most ≤ n) = false := by rw [decide_eq_false_iff_not]; omega
  have z2 : (n : Int) < (most : Int) := by omega
  obtain ⟨i0, hi0, hz0, hz1, hz2⟩ := info_parts info
  have k1 : n + 1 ≤ maxLen := by unfold maxLen; omega
  have k2 : (n + 1) * 16 ≤ 140737488355328 := by omega
  have k4 : ∀ u ∈ [Value.string x], u.oneCell' = true := by intro u hu; simp at hu; subst hu; rfl
  go_enter Try.func26, Try.ntmps26
  go_wp2
  go_quiet (fail)
  obtain ⟨wq, hwq⟩ : ∃ wq, w.drewN nq = wq := ⟨_, rfl⟩
  rw [hwq]
  have hO : Only b (rowOf A) w wq := by rw [← hwq]; exact Only.of_below (below_drewN (Below.refl _ _) _) _ _
  have hsz : wq.heap.size = w.heap.size := by rw [← hwq]; rfl
  have hh : Is wq B b most m A n cap xs := by rw [← hwq]; exact h.drewN nq
  have HS := Lib.hid hsz
  have hBq : B ≤ wq.heap.size := by omega
  clear hwq hc hf h hsz hBw
  have h := hh
  clear hh
  have hc := h.blk.cell
  have hf := h.blk.frozen
  have o1 := h.own.alloc (.cells #[Value.string x] 9)
  have hr := Reads.one wq 9 (Value.string x)
  have k3 : B ≤ (wq.alloc (.cells #[Value.string x] 9)).heap.size := by simp; omega
  have hB5 : ∀ {w5 : World}, (wq.alloc (.cells #[Value.string x] 9)).grownBy w5 ((Value.slice A n cap).ownBlock) → Blk w5 b 72 #[.bool true, .int .i64 most, .int .i64 m, .slice A n cap] := fun hg => (h.blk.alloc _).grown hg (by rw [rowOf_own]; exact fun e => h.far e.symm)
  go_wp2_with (at_builtin; refine wpList_append_any _ rfl (.tmp 24) (.tmp 26) _ rfl B 9 i0 _ 1 16 Try.underlying70 hi0 hz0 hz1 hz2 rfl (by omega) _ n _ rfl o1 (wq.heap.size + 1) _ 1 1 [Value.string x] rfl hr k4 k1 k2 k3 ?_; intro v5 w5 o5 hg5 hat5; obtain ⟨g5, cap5, rfl, hb5, hl5⟩ := own_head o5; have hc5 := (hB5 hg5).cell; have hf5 := (hB5 hg5).frozen)
  go_ret
  have hG : Only b (rowOf A) w w5 := hO.trans ((Only.of_below (b_alloc (Below.refl _ _) _) _ _).trans (Only.of_grown hg5 (.inr (.inl (rowOf_own A n cap)))) (.inl rfl)) (.inl rfl)
  have hsz := HS.out
  have hro : rowOf (some (⟨g5, 0, none⟩ : Addr)) = rowOf A ∨ wq.heap.size ≤ g5 := by
    rcases hat5 with hq | hq
    · exact .inl ((rowOf_own _ (n + 1) cap5).symm.trans (hq.trans (rowOf_own A n cap)))
    · injection hq with hq; have hq' : g5 = (wq.alloc (.cells #[Value.string x] 9)).heap.size := hq; exact .inr (by rw [hq']; simp)
  have hfar : rowOf (some (⟨g5, 0, none⟩ : Addr)) ≠ some b := by
    rcases hro with hq | hq
    · rw [hq]; exact h.far
    · intro e; injection e with e; have := h.lt; have e : g5 = b := e; omega
  refine ⟨some ⟨g5, 0, none⟩, cap5, rfl, ⟨(hB5 hg5).set_ 3 _, ?_, hfar⟩, hG.set_ _ _, ?_⟩
  · have := own_setFar o5 (p := ⟨b, 3, none⟩) hfar (.slice (some ⟨g5, 0, none⟩) (n + 1) cap5)
    rwa [List.map_append]
  · rcases hro with hq | hq
    · exact .inl hq
    · exact NewRow.new (show w.heap.size ≤ g5 by omega)
set_option maxRecDepth 100000 in
theorem Add_full (h : Is w B b most m A n cap xs) (x : ByteArray) (hge : most ≤ n) : Calls Try.prog 26 #[.pointer (some ⟨b, 0, none⟩), Value.string x] w fun e w' => e = .returned (.int .i64 4) ∧ Below w.heap.size w w' := by
  have hc := h.blk.cell
  have hf := h.blk.frozen
  obtain ⟨_, hnc, hcm⟩ := own_cap h.own
  unfold maxLen at hcm
  have z1 : decide (most ≤ n) = true := by rw [decide_eq_true_eq]; omega
  have z2 : (most : Int) ≤ (n : Int) := by omega
  go_enter Try.func26, Try.ntmps26
  go_wp2
  go_quiet (fail)
  go_wp2_with fail
  go_ret
  exact ⟨rfl, below_drewN (Below.refl _ _) _⟩
set_option maxRecDepth 100000 in
theorem Cut_err (h : Is w B b most m A n cap xs) (i : Int) (hi : i < (m : Int) ∨ (n : Int) < i) : Calls Try.prog 30 #[.pointer (some ⟨b, 0, none⟩), .int .i64 i] w fun e w' => e = .returned (.int .i64 3) ∧ w = w' := by
  have hc := h.blk.cell
  have hf := h.blk.frozen
  obtain ⟨_, hnc, hcm⟩ := own_cap h.own
  unfold maxLen at hcm
  rcases hi with hi | hi
  case' inr =>
    have hi' : i < (m : Int) ∨ ¬ i < (m : Int) := by omega
    rcases hi' with hi' | hi'
  all_goals go_enter Try.func30, Try.ntmps30
  all_goals go_wp2
  all_goals go_ret
  all_goals exact ⟨rfl, rfl⟩

theorem Del_end (h : Is w B b most m A n cap xs) (i : Nat) (hi : i ≤ n) : Calls Try.prog 53 #[.slice A n cap, .int .i64 i, .int .i64 n] w fun e w' => e = .returned (.slice A i cap) ∧ w'.ownsRow B 9 1 (.slice A i cap) i ((xs.take i).map Value.string) ∧ w.grownBy w' (rowOf A) := by
  rcases own_shape h.own with ⟨rfl, rfl, rfl, _, hx⟩ | ⟨g, rfl, _, _, _, _, _⟩
  · obtain rfl : i = 0 := by omega
    have hx' : xs = [] := by simpa using hx
    subst hx'
    go_enter Try.func53, Try.ntmps53
    go_wp2
    go_ret
    exact ⟨rfl, World.ownsRow_nil _ _ _ _, g_refl _ _⟩
  · refine (dls_any B g n cap i n xs w h.own hi (Nat.le_refl _)).mono ?_
    rintro e w' ⟨rfl, h1, h2⟩
    have hl := h.len
    rw [show n - (n - i) = i by omega, List.drop_eq_nil_of_le (by omega), List.append_nil] at h1
    exact ⟨by rw [show n - (n - i) = i by omega], h1, h2⟩
set_option maxRecDepth 100000 in
theorem Cut_ok (h : Is w B b most m A n cap xs) (i : Nat) (hm : m ≤ i) (hi : i ≤ n) : Calls Try.prog 30 #[.pointer (some ⟨b, 0, none⟩), .int .i64 i] w fun e w' => e = .returned (.int .i64 0) ∧ Is w' B b most m A i cap (xs.take i) ∧ Only b (rowOf A) w w' := by
  have hc := h.blk.cell
  have hf := h.blk.frozen
  obtain ⟨_, hnc, hcm⟩ := own_cap h.own
  unfold maxLen at hcm
  have HD : ∀ W : World, Below w.heap.size w W → Calls Try.prog 53 #[.slice A n cap, .int .i64 i, .int .i64 n] W fun e w' => e = .returned (.slice A i cap) ∧ w'.ownsRow B 9 1 (.slice A i cap) i ((xs.take i).map Value.string) ∧ Only b (rowOf A) w w' ∧ Blk w' b 72 #[.bool true, .int .i64 most, .int .i64 m, .slice A n cap] := by
    intro W hW
    refine (Del_end B b most m n cap A xs W (h.later hW) i hi).mono ?_
    rintro e w' ⟨h1, h2, h3⟩
    exact ⟨h1, h2, (Only.of_below hW b _).trans (Only.of_grown h3 (.inr (.inl rfl))) (.inl rfl), (h.later hW).blk.grown h3 (fun e => h.far e.symm)⟩
  have z1 : (m : Int) ≤ (i : Int) := by omega
  have z2 : (i : Int) ≤ (n : Int) := by omega
  go_enter Try.func30, Try.ntmps30
  go_wp2
  go_region_with ((with_reducible refine (HD _ (by first | exact Below.refl _ _ | exact (Below.refl _ _).drew)).mono ?_); rintro e w5 ⟨rfl, o5, hg5, hb5⟩; have hc5 := hb5.cell; have hf5 := hb5.frozen)
  all_goals go_wp2
  all_goals go_ret
  all_goals exact ⟨rfl, ⟨hb5.set_ 3 _, own_setFar o5 (p := ⟨b, 3, none⟩) h.far _, h.far⟩, hg5.set_ _ _⟩

theorem clone_any (h : Is w B b most m A n cap xs) (hl : n ≤ 100000) : Calls Try.prog 54 #[.slice A n cap] w fun e w' => (∃ A' cap', e = .returned (.slice A' n cap') ∧ w'.ownsRow w.heap.size 9 1 (.slice A' n cap') n (xs.map Value.string)) ∧ Below w.heap.size w w' :=
  cl_any B n cap A xs w h.own hl
set_option maxRecDepth 100000 in
theorem Copy_any (h : Is w B b most m A n cap xs) (hl : n ≤ 100000) : Calls Try.prog 34 #[.pointer (some ⟨b, 0, none⟩)] w fun e w' => ∃ b' A' cap', e = .returned (.pointer (some ⟨b', 0, none⟩)) ∧ Is w' w.heap.size b' most m A' n cap' xs ∧ w.heap.size ≤ b' ∧ Below w.heap.size w w' := by
  have hc := h.blk.cell
  have hf := h.blk.frozen
  obtain ⟨_, hnc, hcm⟩ := own_cap h.own
  unfold maxLen at hcm
  have HC : ∀ W : World, Below w.heap.size w W → Calls Try.prog 54 #[.slice A n cap] W fun e w' => (∃ A' cap', e = .returned (.slice A' n cap') ∧ w'.ownsRow W.heap.size 9 1 (.slice A' n cap') n (xs.map Value.string)) ∧ Below W.heap.size W w' := fun W hW => clone_any B b most m n cap A xs W (h.later hW) hl
  go_enter Try.func34, Try.ntmps34
  have hlt := h.lt
  go_wp2_with fail
  refine (valid_any B b most m n cap A xs _ h).mono ?_
  rintro e w' ⟨rfl, rfl⟩
  go_wp2_with fail
  have hWn : Below w.heap.size w (w.alloc (.cells #[.bool true, .int .i64 most, .int .i64 m, .slice A n cap] 72)) := b_alloc (Below.refl _ _) _
  refine (HC _ hWn).mono ?_
  rintro e w5 ⟨⟨A', cap', rfl, o5⟩, hb5⟩
  have hB5 := (Blk.new w 72 #[.bool true, .int .i64 most, .int .i64 m, .slice A n cap]).below hb5 (by simp)
  have hc5 := hB5.cell
  have hf5 := hB5.frozen
  go_wp2_with fail
  go_ret
  have hro := own_row o5
  have hfar : rowOf A' ≠ some w.heap.size := by
    intro e
    have := (hro _ e).1
    simp at this
    omega
  exact ⟨w.heap.size, A', cap', rfl, ⟨hB5.set_ 3 _, own_setFar (own_base o5 (by simp)) (p := ⟨w.heap.size, 3, none⟩) hfar _, hfar⟩, Nat.le_refl _, (b_then (b_alloc (Below.refl _ _) _) hb5).setCell (Nat.le_refl _) _⟩
end
end Go.Proofs.Ytohnoioblhkepaa.Hs
