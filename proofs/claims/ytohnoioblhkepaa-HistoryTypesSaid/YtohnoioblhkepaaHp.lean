/-
  Lists of points: the list's functions, each by its contract.
-/
import Derived.Test.YtohnoioblhkepaaOnl
namespace Go.Proofs.Ytohnoioblhkepaa.Hp
open Go.RowKit
set_option linter.unusedVariables false
set_option linter.unusedSimpArgs false
def flat (xs : List (Int × Int)) : List Value := xs.flatMap fun p => [.int .i64 p.1, .int .i64 p.2]
theorem flat_length (xs : List (Int × Int)) : (flat xs).length = xs.length * 2 := by
  induction xs with
  | nil => rfl
  | cons x xs ih =>
    have : flat (x :: xs) = [.int .i64 x.1, .int .i64 x.2] ++ flat xs := rfl
    have e : (x :: xs).length = xs.length + 1 := rfl
    rw [this, List.length_append, ih, e]
    show 2 + xs.length * 2 = _
    omega
theorem flat_snoc (xs : List (Int × Int)) (x y : Int) : flat (xs ++ [(x, y)]) = flat xs ++ [.int .i64 x, .int .i64 y] := by simp [flat]
theorem flat_at (xs : List (Int × Int)) : ∀ (i : Nat) (x y : Int), xs[i]? = some (x, y) → (flat xs)[i * 2]? = some (.int .i64 x) ∧ (flat xs)[i * 2 + 1]? = some (.int .i64 y) := by
  induction xs with
  | nil => intro i x y h; simp at h
  | cons a xs ih =>
    intro i x y h
    have e : flat (a :: xs) = [.int .i64 a.1, .int .i64 a.2] ++ flat xs := rfl
    cases i with
    | zero =>
      simp at h
      subst h
      rw [e]
      exact ⟨rfl, rfl⟩
    | succ i =>
      have h' := ih i x y (by simpa using h)
      rw [e, List.getElem?_append_right (by simp; omega), List.getElem?_append_right (by simp; omega)]
      have e1 : (i + 1) * 2 - [Value.int .i64 a.1, Value.int .i64 a.2].length = i * 2 := by simp; omega
      have e2 : (i + 1) * 2 + 1 - [Value.int .i64 a.1, Value.int .i64 a.2].length = i * 2 + 1 := by simp; omega
      rw [e1, e2]
      exact h'
theorem shape2 {w : World} {base : Nat} {e : TypeId} {n m cap size : Nat} {A : Option Addr} {xs : List Value} (h : w.ownsRow base e size (.slice A n cap) m xs) : (A = none ∧ n = 0 ∧ cap = 0 ∧ m = 0) ∨ ∃ g, A = some ⟨g, 0, none⟩ ∧ n = m ∧ base ≤ g ∧ g < w.heap.size ∧ n ≤ cap ∧ cap ≤ maxLen := by
  rcases h.2 with ⟨h', hn⟩ | ⟨g', cap', cur, h', h2, h3, h4, h5, h6, h7⟩
  · simp only [Value.slice.injEq] at h'
    obtain ⟨rfl, rfl, rfl⟩ := h'
    exact .inl ⟨rfl, rfl, rfl, hn⟩
  · simp only [Value.slice.injEq] at h'
    obtain ⟨rfl, rfl, rfl⟩ := h'
    exact .inr ⟨g', rfl, rfl, h2, lt_of_block h3, h4, h5⟩
theorem head2 {w : World} {base : Nat} {e : TypeId} {v : Value} {n size : Nat} {xs : List Value} (h : w.ownsRow base e size v (n + 1) xs) : ∃ g cap, v = .slice (some ⟨g, 0, none⟩) (n + 1) cap ∧ base ≤ g ∧ g < w.heap.size := by
  rcases h.2 with ⟨_, hn⟩ | ⟨g, cap, cur, rfl, h2, h3, _⟩
  · omega
  · exact ⟨g, cap, rfl, h2, lt_of_block h3⟩
structure Is (w : World) (B b most : Nat) (A : Option Addr) (n cap : Nat) (xs : List (Int × Int)) : Prop where
  blk : Blk w b 90 #[.bool true, .int .i64 most, .int .i64 0, .slice A n cap]
  own : w.ownsRow B 48 2 (.slice A n cap) n (flat xs)
  far : rowOf A ≠ some b
section
variable {w w' : World} {B b most n cap : Nat} {A : Option Addr} {xs : List (Int × Int)}
theorem Is.len (h : Is w B b most A n cap xs) : xs.length = n := by have := h.own.1; rw [flat_length] at this; omega
theorem Is.lt (h : Is w B b most A n cap xs) : b < w.heap.size := h.blk.lt
theorem Is.later (h : Is w B b most A n cap xs) (hb : Below w.heap.size w w') : Is w' B b most A n cap xs := ⟨h.blk.below hb h.lt, own_later h.own hb, h.far⟩
theorem Is.drewN (h : Is w B b most A n cap xs) (k : Nat) : Is (w.drewN k) B b most A n cap xs := h.later (below_drewN (Below.refl _ _) k)
theorem Is.kept {a : World} (h : Is w B b most A n cap xs) (hW : Below a.heap.size a w) (hab : a.heap.size ≤ B) (hBb : B ≤ b) (hO : Only b (rowOf A) w w') : Below a.heap.size a w' :=
  Only.below hW hO hW.size (by omega) (fun j hj => by have := (own_row h.own j hj).1; omega)
end
theorem info : (Try.prog.info? 48).map (fun i => (i.zero, i.size, i.bytes)) = some (some (.agg #[.int .i64 0, .int .i64 0]), 2, 16) := by kernel_rfl
theorem New_ok (most : Nat) (w : World) (h : most ≤ 100000) : Calls Try.prog 19 #[.int .i64 most] w fun e w' => ∃ b : Nat, e = .returned (.tuple #[.pointer (some ⟨b, 0, none⟩), .int .i64 0]) ∧ Is w' b b most none 0 0 [] ∧ w.heap.size ≤ b ∧ Below w.heap.size w w' := by
  go_enter Try.func19, Try.ntmps19
  go_wp2
  go_ret2
  exact ⟨_, rfl, ⟨Blk.new w _ _, World.ownsRow_nil _ _ _ _, by simp [rowOf]⟩, Nat.le_refl _, b_alloc (Below.refl _ _) _⟩
theorem New_err (most : Int) (w : World) (h : most < 0 ∨ 100000 < most) : Calls Try.prog 19 #[.int .i64 most] w fun e w' => e = .returned (.tuple #[.pointer none, .int .i64 2]) ∧ w = w' := by
  rcases h with h | h
  · go_enter Try.func19, Try.ntmps19
    go_wp2
    go_ret2
    exact ⟨rfl, rfl⟩
  · have h' : ¬ most < 0 := by omega
    go_enter Try.func19, Try.ntmps19
    go_wp2
    go_ret2
    exact ⟨rfl, rfl⟩
theorem Reads.two (w : World) (t : TypeId) (x y : Value) : Reads (w.alloc (.cells #[x, y] t)) (w.heap.size + 1) 2 (some ⟨w.heap.size, 0, none⟩) 1 [x, y] :=
  ⟨rfl, fun _ => ⟨_, rfl, Nat.lt_succ_self _, fun j u hu => by
    rw [Addr.add_lit, (Blk.new w t #[x, y]).cell, Nat.zero_add]
    simpa using hu⟩⟩
section
variable (B b most n cap : Nat) (A : Option Addr) (xs : List (Int × Int)) (w : World)
set_option maxRecDepth 100000 in
theorem valid_any (h : Is w B b most A n cap xs) : Calls Try.prog 50 #[.pointer (some ⟨b, 0, none⟩)] w fun e w' => e = .returned (.bool true) ∧ w = w' := by
  have hc := h.blk.cell
  go_enter Try.func50, Try.ntmps50
  go_wp2
  go_ret
  exact ⟨rfl, rfl⟩
set_option maxHeartbeats 3200000 in
set_option maxRecDepth 100000 in
theorem Add_ok (h : Is w B b most A n cap xs) (x y : Int) (hlt : n < most) (hmost : most ≤ 100000) (hBw : B ≤ w.heap.size) : Calls Try.prog 20 #[.pointer (some ⟨b, 0, none⟩), .agg #[.int .i64 x, .int .i64 y]] w fun e w' => ∃ A' cap', e = .returned (.int .i64 0) ∧ Is w' B b most A' (n + 1) cap' (xs ++ [(x, y)]) ∧ Only b (rowOf A) w w' := by
  have hbl := h.lt
  have z1 : decide (most ≤ n) = false := by rw [decide_eq_false_iff_not]; omega
  have z2 : (n : Int) < (most : Int) := by omega
  obtain ⟨i0, hi0, hz0, hz1, hz2⟩ := info_parts info
  have k1 : n + 1 ≤ maxLen := by unfold maxLen; omega
  have k2 : (n + 1) * 16 ≤ 140737488355328 := by omega
  have k4 : ∀ u ∈ [Value.int .i64 x, Value.int .i64 y], u.oneCell' = true := by intro u hu; simp at hu; rcases hu with rfl | rfl <;> rfl
  have hX := Blk.new w 48 #[.int .i64 x, .int .i64 y]
  have ha := h.later (b_alloc (Below.refl _ _) (.cells #[.int .i64 x, .int .i64 y] 48))
  have hba := b_alloc (Below.refl _ w) (.cells #[.int .i64 x, .int .i64 y] 48)
  go_enter Try.func20, Try.ntmps20
  go_wp2_with fail
  refine (valid_any B b most n cap A xs _ ha).mono ?_
  rintro e w' ⟨rfl, rfl⟩
  generalize hw1 : w.alloc (.cells #[.int .i64 x, .int .i64 y] 48) = w1 at hX ha hba ⊢
  have hs1 : w1.heap.size = w.heap.size + 1 := by rw [← hw1, World.size_alloc]
  have HS1 := Lib.hid hs1
  have hlt1 : w.heap.size < w1.heap.size := by omega
  have hBw1 : B ≤ w1.heap.size := by omega
  clear hw1 hs1
  have hc := ha.blk.cell
  go_wp2_with fail
  go_quiet (fail)
  obtain ⟨wq, hwq⟩ : ∃ wq, w1.drewN nq = wq := ⟨_, rfl⟩
  rw [hwq]
  have hbq : Below w.heap.size w wq := by rw [← hwq]; exact below_drewN hba _
  have hq : Is wq B b most A n cap xs := by rw [← hwq]; exact ha.drewN nq
  have hXq : Blk wq w.heap.size 48 #[.int .i64 x, .int .i64 y] := by rw [← hwq]; exact hX
  have hsq : wq.heap.size = w1.heap.size := by rw [← hwq]; rfl
  have hsq' : w.heap.size < wq.heap.size := by omega
  have hBq : B ≤ wq.heap.size := by omega
  clear hwq hc ha hX hba h hsq HS1 hlt1 hBw1 hBw
  go_wp2_with fail
  have hblq := hq.lt
  have cq := hq.blk.cell
  have fq := hq.blk.frozen
  have cX := hXq.cell
  have o1 : ((wq.alloc (.cells #[.int .i64 x, .int .i64 y] 48)).drew).ownsRow B 48 2 (.slice A n cap) n (flat xs) := own_later hq.own (Below.drew (b_alloc (Below.refl _ wq) (.cells #[.int .i64 x, .int .i64 y] 48)))
  have hr : Reads ((wq.alloc (.cells #[.int .i64 x, .int .i64 y] 48)).drew) (wq.heap.size + 1) 2 (some ⟨wq.heap.size, 0, none⟩) 1 [.int .i64 x, .int .i64 y] := Reads.two wq 48 _ _
  have k3 : B ≤ ((wq.alloc (.cells #[.int .i64 x, .int .i64 y] 48)).drew).heap.size := by show B ≤ (wq.alloc (.cells #[.int .i64 x, .int .i64 y] 48)).heap.size; simp; omega
  have hB5 : ∀ {w5 : World}, ((wq.alloc (.cells #[.int .i64 x, .int .i64 y] 48)).drew).grownBy w5 ((Value.slice A n cap).ownBlock) → Blk w5 b 90 #[.bool true, .int .i64 most, .int .i64 0, .slice A n cap] := fun hg => ((hq.blk.alloc _).drew).grown hg (by rw [rowOf_own]; exact fun e => hq.far e.symm)
  have hO5 : ∀ {w5 : World}, ((wq.alloc (.cells #[.int .i64 x, .int .i64 y] 48)).drew).grownBy w5 ((Value.slice A n cap).ownBlock) → Only b (rowOf A) w w5 := fun hg => (Only.of_below (Below.drew (b_alloc hbq _)) b (rowOf A)).trans (Only.of_grown hg (.inr (.inl (rowOf_own A n cap)))) (.inl rfl)
  have hQ := Lib.hid hq
  clear hq hXq hbq
  go_region_law (refine step_append_any _ rfl (.tmp 24) (.tmp 26) 88 rfl B 48 i0 _ 2 16 Try.underlying88 hi0 hz0 hz1 hz2 rfl (by omega) _ n _ rfl o1 (wq.heap.size + 1) _ 1 1 [.int .i64 x, .int .i64 y] rfl hr k4 k1 k2 k3 ?_; intro v5 w5 o5 hg5 hat5; obtain ⟨g5, cap5, rfl, hb5, hl5⟩ := head2 o5; have hb6 := hB5 hg5; have hO6 := hO5 hg5; have hc5 := hb6.cell; have hf5 := hb6.frozen)
  all_goals go_wp2_with fail
  all_goals go_ret
  all_goals
    have hgs : (wq.alloc (.cells #[.int .i64 x, .int .i64 y] 48)).heap.size = wq.heap.size + 1 := by simp
    have hfar : rowOf (some (⟨g5, 0, none⟩ : Addr)) ≠ some b := by
      have hro := rowOf_own (some (⟨g5, 0, none⟩ : Addr)) (n + 1) cap5
      rcases hat5 with hq | hq
      · rw [← hro, hq]
        show (Value.slice A n cap).ownBlock ≠ some b
        rw [rowOf_own]
        exact hQ.out.far
      · injection hq with hq
        have hq' : g5 = (wq.alloc (.cells #[.int .i64 x, .int .i64 y] 48)).heap.size := hq
        intro e
        injection e with e
        have e : g5 = b := e
        have := hQ.out.lt
        omega
    refine ⟨some ⟨g5, 0, none⟩, cap5, rfl, ⟨hb6.set_ 3 _, ?_, hfar⟩, hO6.set_ _ _⟩
    rw [flat_snoc]
    exact own_setFar o5 (p := ⟨b, 3, none⟩) hfar _
set_option maxRecDepth 100000 in
theorem Add_full (h : Is w B b most A n cap xs) (x y : Int) (hge : most ≤ n) : Calls Try.prog 20 #[.pointer (some ⟨b, 0, none⟩), .agg #[.int .i64 x, .int .i64 y]] w fun e w' => e = .returned (.int .i64 4) ∧ Below w.heap.size w w' := by
  have hbl := h.lt
  have z1 : decide (most ≤ n) = true := by rw [decide_eq_true_eq]; omega
  have z2 : (most : Int) ≤ (n : Int) := by omega
  have ha := h.later (b_alloc (Below.refl _ _) (.cells #[.int .i64 x, .int .i64 y] 48))
  have hba := b_alloc (Below.refl _ w) (.cells #[.int .i64 x, .int .i64 y] 48)
  go_enter Try.func20, Try.ntmps20
  go_wp2_with fail
  refine (valid_any B b most n cap A xs _ ha).mono ?_
  rintro e w' ⟨rfl, rfl⟩
  generalize hw1 : w.alloc (.cells #[.int .i64 x, .int .i64 y] 48) = w1 at ha hba ⊢
  clear hw1
  have hc := ha.blk.cell
  go_wp2_with fail
  go_quiet (fail)
  go_wp2_with fail
  go_ret
  exact ⟨rfl, below_drewN hba _⟩
set_option maxRecDepth 100000 in
theorem At_ok (h : Is w B b most A n cap xs) (i : Nat) (x y : Int) (hx : xs[i]? = some (x, y)) : Calls Try.prog 21 #[.pointer (some ⟨b, 0, none⟩), .int .i64 i] w fun e w' => e = .returned (.tuple #[.agg #[.int .i64 x, .int .i64 y], .int .i64 0]) ∧ Below w.heap.size w w' := by
  have hi : i < n := by rw [← h.len]; exact (List.getElem?_eq_some_iff.1 hx).1
  have hi2 : (i : Int) < (n : Int) := by omega
  have hbl := h.lt
  have e2 := flat_at xs i x y hx
  rcases shape2 h.own with ⟨rfl, h0, _⟩ | ⟨g, rfl, _, _, hgl, hnc, hcm⟩
  · omega
  unfold maxLen at hcm
  have c1 : w.cell? ⟨g, i * 2, none⟩ = some (.int .i64 x) := (World.ownsRow.cellAt h.own (i * 2) (by omega)).trans e2.1
  have c2 : w.cell? ⟨g, i * 2 + 1, none⟩ = some (.int .i64 y) := (World.ownsRow.cellAt h.own (i * 2 + 1) (by omega)).trans e2.2
  have ha := h.later (b_alloc (b_alloc (Below.refl _ w) (.cells #[.int .i64 0, .int .i64 0] 48)) (.cells #[.int .i64 0, .int .i64 0] 48))
  have hba := b_alloc (b_alloc (Below.refl _ w) (.cells #[.int .i64 0, .int .i64 0] 48)) (.cells #[.int .i64 0, .int .i64 0] 48)
  have hR := (Blk.new w 48 #[.int .i64 0, .int .i64 0]).alloc (.cells #[.int .i64 0, .int .i64 0] 48)
  clear hx e2
  go_enter Try.func21, Try.ntmps21
  go_wp2_with fail
  refine (valid_any B b most n cap _ xs _ ha).mono ?_
  rintro e w' ⟨rfl, rfl⟩
  have d1 := (hba.cell (p := ⟨g, i * 2, none⟩) hgl).trans c1
  have d2 := (hba.cell (p := ⟨g, i * 2 + 1, none⟩) hgl).trans c2
  generalize (w.alloc (.cells #[.int .i64 0, .int .i64 0] 48)).alloc (.cells #[.int .i64 0, .int .i64 0] 48) = w1 at ha hba hR d1 d2 ⊢
  have hc := ha.blk.cell
  have cR := hR.cell
  have fR := hR.frozen
  clear c1 c2 h
  go_wp2
  have hS := ((hR.set_ 0 (.int .i64 x)).set_ 1 (.int .i64 y)).cell
  refine bodyPost_ret (v := .tuple #[.agg #[.int .i64 x, .int .i64 y], .int .i64 0]) (by simp [results, Try.results21, go_sem, hS]) rfl ⟨rfl, ?_⟩
  exact (hba.setCell (p := ⟨w.heap.size, 0, none⟩) (Nat.le_refl _) _).setCell (p := ⟨w.heap.size, 1, none⟩) (Nat.le_refl _) _
end
end Go.Proofs.Ytohnoioblhkepaa.Hp
