/-
  The meter's functions, each by its contract: a meter is one block of eight cells.
-/
import Derived.Test.YtjnbkpjpcbmhcaaMem
namespace Go.Proofs.Ytjnbkpjpcbmhcaa
open Go.RowKit
set_option linter.unusedVariables false

/-- the cells of a meter: made, calls, then call, most and total of what was appended, and of what was got -/
def mcells (k c m t x y z : Int) : Array Value := #[.bool true, .int .i64 k, .int .i64 c, .int .i64 m, .int .i64 t, .int .i64 x, .int .i64 y, .int .i64 z]
/-- block b is that meter -/
def IsM (w : World) (b : Nat) (k c m t x y z : Int) : Prop := Blk w b 64 (mcells k c m t x y z)

theorem New_any (w : World) : Calls Try.prog 13 #[] w fun e w' => e = .returned (.pointer (some ⟨w.heap.size, 0, none⟩)) ∧ IsM w' w.heap.size 0 0 0 0 0 0 0 ∧ Below w.heap.size w w' ∧ w.heap.size < w'.heap.size := by
  go_enter Try.func13, Try.ntmps13
  go_wp2
  go_ret
  exact ⟨rfl, Blk.new w _ _, b_alloc (Below.refl _ _) _, by simp⟩

theorem g_at {a w : World} {g : Nat} (h : a.grownBy w (some g)) (o : Nat) (u : Value) : a.grownBy (w.setCell ⟨g, o, none⟩ u) (some g) := g_set h (.inl rfl) u

section
variable {b : Nat} {k c m t x y z : Int} {w : World}
theorem IsM.begin_ (h : IsM w b k c m t x y z) (u : Int) : IsM (((w.setCell ⟨b, 1, none⟩ (.int .i64 u)).setCell ⟨b, 2, none⟩ (.int .i64 0)).setCell ⟨b, 5, none⟩ (.int .i64 0)) b u 0 m t 0 y z := by
  have h1 := ((Blk.set_ h 1 (.int .i64 u)).set_ 2 (.int .i64 0)).set_ 5 (.int .i64 0)
  simpa [mcells, IsM] using h1
theorem IsM.wrote_ (h : IsM w b k c m t x y z) (u v q : Int) : IsM (((w.setCell ⟨b, 2, none⟩ (.int .i64 u)).setCell ⟨b, 3, none⟩ (.int .i64 v)).setCell ⟨b, 4, none⟩ (.int .i64 q)) b k u v q x y z := by
  have h1 := ((Blk.set_ h 2 (.int .i64 u)).set_ 3 (.int .i64 v)).set_ 4 (.int .i64 q)
  simpa [mcells, IsM] using h1
theorem IsM.read_ (h : IsM w b k c m t x y z) (u v q : Int) : IsM (((w.setCell ⟨b, 5, none⟩ (.int .i64 u)).setCell ⟨b, 6, none⟩ (.int .i64 v)).setCell ⟨b, 7, none⟩ (.int .i64 q)) b k c m t u v q := by
  have h1 := ((Blk.set_ h 5 (.int .i64 u)).set_ 6 (.int .i64 v)).set_ 7 (.int .i64 q)
  simpa [mcells, IsM] using h1
theorem IsM.drew (h : IsM w b k c m t x y z) : IsM w.drew b k c m t x y z := h
theorem IsM.below {w' : World} {B : Nat} (h : IsM w b k c m t x y z) (hb : Below B w w') (hg : b < B) : IsM w' b k c m t x y z := Blk.below h hb hg
theorem IsM.lt (h : IsM w b k c m t x y z) : b < w.heap.size := Blk.lt h
end

section
variable (b : Nat) (k c m t x y z n : Int) (w : World)
theorem valid_any (hM : IsM w b k c m t x y z)  : Calls Try.prog 31 #[.pointer (some ⟨b, 0, none⟩)] w fun e w' => e = .returned (.bool true) ∧ w = w' := by
  have hc := Blk.cell hM
  have hf := Blk.frozen hM
  unfold mcells at hc
  go_enter Try.func31, Try.ntmps31
  go_wp2
  go_ret
  exact ⟨rfl, rfl⟩
theorem Begin_any (hM : IsM w b k c m t x y z) (h0 : 0 ≤ k) (h1 : k ≤ 1000000) : Calls Try.prog 14 #[.pointer (some ⟨b, 0, none⟩)] w fun e w' => e = .returned (.tuple #[]) ∧ IsM w' b (k + 1) 0 m t 0 y z ∧ w.grownBy w' (some b) := by
  have hc := Blk.cell hM
  have hf := Blk.frozen hM
  unfold mcells at hc
  go_enter Try.func14, Try.ntmps14
  go_wp2
  go_end0
  exact ⟨rfl, hM.begin_ _, g_at (g_at (g_at (g_refl _ _) _ _) _ _) _ _⟩
theorem Wrote_ok (hM : IsM w b k c m t x y z) (hn : 0 ≤ n) (hk : (k == 0) = false) (h1 : 0 ≤ c) (h2 : c ≤ t) (h3 : 0 ≤ m) (h4 : m ≤ 1099511627776) (hle : n ≤ 1099511627776 - t) : Calls Try.prog 15 #[.pointer (some ⟨b, 0, none⟩), .int .i64 n] w fun e w' => e = .returned (.int .i64 0) ∧ IsM w' b k (c + n) (max m (c + n)) (t + n) x y z ∧ w.grownBy w' (some b) := by
  have hc := Blk.cell hM
  have hf := Blk.frozen hM
  unfold mcells at hc
  go_enter Try.func15, Try.ntmps15
  go_wp2
  go_region
  go_wp2
  all_goals
    go_ret
    refine ⟨rfl, ?_, g_drew (g_at (g_at (g_at (g_refl _ _) _ _) _ _) _ _)⟩
  · rw [show max m (c + n) = c + n from by omega]
    exact (hM.wrote_ _ _ _).drew
  · rw [show max m (c + n) = m from by omega]
    exact (hM.wrote_ _ _ _).drew
theorem Wrote_neg (hM : IsM w b k c m t x y z) (hn : n < 0) : Calls Try.prog 15 #[.pointer (some ⟨b, 0, none⟩), .int .i64 n] w fun e w' => e = .returned (.int .i64 2) ∧ w = w' := by
  have hc := Blk.cell hM
  have hf := Blk.frozen hM
  unfold mcells at hc
  go_enter Try.func15, Try.ntmps15
  go_wp2
  go_ret
  exact ⟨rfl, rfl⟩
theorem Wrote_state (hM : IsM w b k c m t x y z) (hn : 0 ≤ n) (hk : (k == 0) = true) : Calls Try.prog 15 #[.pointer (some ⟨b, 0, none⟩), .int .i64 n] w fun e w' => e = .returned (.int .i64 7) ∧ w = w' := by
  have hc := Blk.cell hM
  have hf := Blk.frozen hM
  unfold mcells at hc
  go_enter Try.func15, Try.ntmps15
  go_wp2
  go_ret
  exact ⟨rfl, rfl⟩
theorem Wrote_over (hM : IsM w b k c m t x y z) (hn : 0 ≤ n) (hk : (k == 0) = false) (h1 : 0 ≤ t) (h2 : t ≤ 1099511627776) (hgt : 1099511627776 - t < n) : Calls Try.prog 15 #[.pointer (some ⟨b, 0, none⟩), .int .i64 n] w fun e w' => e = .returned (.int .i64 16) ∧ w = w' := by
  have hc := Blk.cell hM
  have hf := Blk.frozen hM
  unfold mcells at hc
  go_enter Try.func15, Try.ntmps15
  go_wp2
  go_ret
  exact ⟨rfl, rfl⟩
theorem Read_ok (hM : IsM w b k c m t x y z) (hn : 0 ≤ n) (hk : (k == 0) = false) (h1 : 0 ≤ x) (h2 : x ≤ z) (h3 : 0 ≤ y) (h4 : y ≤ 1099511627776) (hle : n ≤ 1099511627776 - z) : Calls Try.prog 16 #[.pointer (some ⟨b, 0, none⟩), .int .i64 n] w fun e w' => e = .returned (.int .i64 0) ∧ IsM w' b k c m t (x + n) (max y (x + n)) (z + n) ∧ w.grownBy w' (some b) := by
  have hc := Blk.cell hM
  have hf := Blk.frozen hM
  unfold mcells at hc
  go_enter Try.func16, Try.ntmps16
  go_wp2
  go_region
  go_wp2
  all_goals
    go_ret
    refine ⟨rfl, ?_, g_drew (g_at (g_at (g_at (g_refl _ _) _ _) _ _) _ _)⟩
  · rw [show max y (x + n) = x + n from by omega]
    exact (hM.read_ _ _ _).drew
  · rw [show max y (x + n) = y from by omega]
    exact (hM.read_ _ _ _).drew
theorem Read_neg (hM : IsM w b k c m t x y z) (hn : n < 0) : Calls Try.prog 16 #[.pointer (some ⟨b, 0, none⟩), .int .i64 n] w fun e w' => e = .returned (.int .i64 2) ∧ w = w' := by
  have hc := Blk.cell hM
  have hf := Blk.frozen hM
  unfold mcells at hc
  go_enter Try.func16, Try.ntmps16
  go_wp2
  go_ret
  exact ⟨rfl, rfl⟩
theorem Read_state (hM : IsM w b k c m t x y z) (hn : 0 ≤ n) (hk : (k == 0) = true) : Calls Try.prog 16 #[.pointer (some ⟨b, 0, none⟩), .int .i64 n] w fun e w' => e = .returned (.int .i64 7) ∧ w = w' := by
  have hc := Blk.cell hM
  have hf := Blk.frozen hM
  unfold mcells at hc
  go_enter Try.func16, Try.ntmps16
  go_wp2
  go_ret
  exact ⟨rfl, rfl⟩
theorem Read_over (hM : IsM w b k c m t x y z) (hn : 0 ≤ n) (hk : (k == 0) = false) (h1 : 0 ≤ z) (h2 : z ≤ 1099511627776) (hgt : 1099511627776 - z < n) : Calls Try.prog 16 #[.pointer (some ⟨b, 0, none⟩), .int .i64 n] w fun e w' => e = .returned (.int .i64 16) ∧ w = w' := by
  have hc := Blk.cell hM
  have hf := Blk.frozen hM
  unfold mcells at hc
  go_enter Try.func16, Try.ntmps16
  go_wp2
  go_ret
  exact ⟨rfl, rfl⟩
theorem Call_any (hM : IsM w b k c m t x y z)  : Calls Try.prog 17 #[.pointer (some ⟨b, 0, none⟩)] w fun e w' => e = .returned (.tuple #[.int .i64 c, .int .i64 x]) ∧ w.drew = w' := by
  have hc := Blk.cell hM
  have hf := Blk.frozen hM
  unfold mcells at hc
  go_enter Try.func17, Try.ntmps17
  go_wp2
  go_region
  all_goals go_wp2
  all_goals go_ret2
  all_goals exact ⟨rfl, rfl⟩
theorem Most_any (hM : IsM w b k c m t x y z)  : Calls Try.prog 18 #[.pointer (some ⟨b, 0, none⟩)] w fun e w' => e = .returned (.tuple #[.int .i64 m, .int .i64 y]) ∧ w.drew = w' := by
  have hc := Blk.cell hM
  have hf := Blk.frozen hM
  unfold mcells at hc
  go_enter Try.func18, Try.ntmps18
  go_wp2
  go_region
  all_goals go_wp2
  all_goals go_ret2
  all_goals exact ⟨rfl, rfl⟩
theorem Total_any (hM : IsM w b k c m t x y z)  : Calls Try.prog 19 #[.pointer (some ⟨b, 0, none⟩)] w fun e w' => e = .returned (.tuple #[.int .i64 t, .int .i64 z]) ∧ w.drew = w' := by
  have hc := Blk.cell hM
  have hf := Blk.frozen hM
  unfold mcells at hc
  go_enter Try.func19, Try.ntmps19
  go_wp2
  go_region
  all_goals go_wp2
  all_goals go_ret2
  all_goals exact ⟨rfl, rfl⟩
theorem Calls_any (hM : IsM w b k c m t x y z)  : Calls Try.prog 20 #[.pointer (some ⟨b, 0, none⟩)] w fun e w' => e = .returned (.int .i64 k) ∧ w = w' := by
  have hc := Blk.cell hM
  have hf := Blk.frozen hM
  unfold mcells at hc
  go_enter Try.func20, Try.ntmps20
  go_wp2
  go_ret
  exact ⟨rfl, rfl⟩
theorem Copy_any (hM : IsM w b k c m t x y z)  : Calls Try.prog 27 #[.pointer (some ⟨b, 0, none⟩)] w fun e w' => e = .returned (.pointer (some ⟨w.heap.size, 0, none⟩)) ∧ IsM w' w.heap.size k c m t x y z ∧ Below w.heap.size w w' ∧ w.heap.size < w'.heap.size := by
  have hc := Blk.cell hM
  have hf := Blk.frozen hM
  unfold mcells at hc
  go_enter Try.func27, Try.ntmps27
  go_wp2
  go_ret
  exact ⟨rfl, Blk.new w _ _, b_alloc (Below.refl _ _) _, by simp⟩
end
/-- the same, the block named -/
theorem New_ex (w : World) : Calls Try.prog 13 #[] w fun e w' => ∃ b : Nat, e = .returned (.pointer (some ⟨b, 0, none⟩)) ∧ IsM w' b 0 0 0 0 0 0 0 ∧ w.heap.size ≤ b ∧ Below w.heap.size w w' :=
  (New_any w).mono fun _ _ ⟨he, hM, hB, _⟩ => ⟨_, he, hM, Nat.le_refl _, hB⟩
theorem Copy_ex (b : Nat) (k c m t x y z : Int) (w : World) (hM : IsM w b k c m t x y z) : Calls Try.prog 27 #[.pointer (some ⟨b, 0, none⟩)] w fun e w' => ∃ b' : Nat, e = .returned (.pointer (some ⟨b', 0, none⟩)) ∧ IsM w' b' k c m t x y z ∧ w.heap.size ≤ b' ∧ Below w.heap.size w w' :=
  (Copy_any b k c m t x y z w hM).mono fun _ _ ⟨he, hM, hB, _⟩ => ⟨_, he, hM, Nat.le_refl _, hB⟩
end Go.Proofs.Ytjnbkpjpcbmhcaa
