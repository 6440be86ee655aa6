/-
  The reference's lists of strings, each function by its contract.
-/
import Derived.Test.YtohnoioblhkepaaHs
namespace Go.Proofs.Ytohnoioblhkepaa.Rf
open Go.RowKit
set_option linter.unusedVariables false
set_option linter.unusedSimpArgs false
set_option maxRecDepth 100000 in
theorem slice_fromS {A : Option Addr} {len cap k : Nat} (h1 : k ≤ len) (w : World) : (Instr.sliceAt 70 (.slice A len cap) (some (.int .i64 (k : Nat))) none none).run Try.prog w = .ok (.slice (if cap = k then A else A.map (·.add k)) (len - k) (cap - k)) w := by
  have h := run_slice_l (P := Try.prog) (w := w) 70 A len cap Try.underlying70 .i64 (k : Nat) (by omega) (by omega)
  rw [run_sliceAt_slice (h := Try.underlying70), h]
  simp [go_sem, sliced]
theorem own_fresh {w : World} {B : Nat} {e : TypeId} {size n : Nat} {v : Value} {xs : List Value} (h : w.ownsRow B e size v n xs) (o : Obj) : (w.alloc o).ownsRow B e size v n xs := h.alloc o
theorem own_slice {w : World} {B : Nat} {e : TypeId} {v : Value} {n : Nat} {xs : List Value} (h : w.ownsRow B e 1 v n xs) : ∃ (A : Option Addr) (cap : Nat), v = .slice A n cap := by
  rcases own_form h with ⟨rfl, rfl⟩ | ⟨g, cap, rfl, _⟩
  · exact ⟨none, 0, rfl⟩
  · exact ⟨_, cap, rfl⟩
theorem own_cutAny {w : World} {base : Nat} {e : TypeId} {n cap k : Nat} {A : Option Addr} {xs : List Value} (h : w.ownsRow base e 1 (.slice A n cap) n xs) (hk : k ≤ n) : w.ownsRow base e 1 (.slice A k cap) k (xs.take k) := by
  rcases own_shape h with ⟨rfl, rfl, rfl, _, rfl⟩ | ⟨g, rfl, _⟩
  · obtain rfl : k = 0 := by omega
    exact World.ownsRow_nil _ _ _ _
  · exact own_cut h hk
structure Is (w : World) (B b most m : Nat) (A : Option Addr) (n cap : Nat) (xs : List ByteArray) : Prop where
  blk : Blk w b 92 #[.bool true, .slice A n cap, .int .i64 m, .int .i64 most]
  own : w.ownsRow B 9 1 (.slice A n cap) n (xs.map Value.string)
  far : rowOf A ≠ some b
section
variable {w w' : World} {B b most m n cap : Nat} {A : Option Addr} {xs : List ByteArray}
theorem Is.len (h : Is w B b most m A n cap xs) : xs.length = n := by have := h.own.1; simpa using this
theorem Is.lt (h : Is w B b most m A n cap xs) : b < w.heap.size := h.blk.lt
theorem Is.later (h : Is w B b most m A n cap xs) (hb : Below w.heap.size w w') : Is w' B b most m A n cap xs := ⟨h.blk.below hb h.lt, own_later h.own hb, h.far⟩
theorem Is.drewN (h : Is w B b most m A n cap xs) (k : Nat) : Is (w.drewN k) B b most m A n cap xs := h.later (below_drewN (Below.refl _ _) k)
theorem Is.other {b' : Nat} {r' : Option Nat} (h : Is w B b most m A n cap xs) (k : Only b' r' w w') (h1 : b ≠ b') (h2 : some b ≠ r') (h3 : rowOf A ≠ some b') (h4 : rowOf A = none ∨ rowOf A ≠ r') : Is w' B b most m A n cap xs :=
  ⟨k.blk h.blk h1 h2, k.own h.own h3 h4, h.far⟩
end
theorem New_ok (most : Nat) (w : World) (h : most ≤ 100000) : Calls Try.prog 25 #[.int .i64 most] w fun e w' => ∃ b : Nat, e = .returned (.tuple #[.pointer (some ⟨b, 0, none⟩), .int .i64 0]) ∧ Is w' b b most 0 none 0 0 [] ∧ w.heap.size ≤ b ∧ Below w.heap.size w w' := by
  go_enter Try.func25, Try.ntmps25
  go_wp2
  go_ret2
  exact ⟨_, rfl, ⟨Blk.new w _ _, World.ownsRow_nil _ _ _ _, by simp [rowOf]⟩, Nat.le_refl _, b_alloc (Below.refl _ _) _⟩
theorem New_err (most : Int) (w : World) (h : most < 0 ∨ 100000 < most) : Calls Try.prog 25 #[.int .i64 most] w fun e w' => e = .returned (.tuple #[.pointer none, .int .i64 2]) ∧ w = w' := by
  rcases h with h | h
  · go_enter Try.func25, Try.ntmps25
    go_wp2
    go_ret2
    exact ⟨rfl, rfl⟩
  · have h' : ¬ most < 0 := by omega
    go_enter Try.func25, Try.ntmps25
    go_wp2
    go_ret2
    exact ⟨rfl, rfl⟩
section
variable (B b most m n cap : Nat) (A : Option Addr) (xs : List ByteArray) (w : World)
set_option maxRecDepth 100000 in
set_option maxHeartbeats 800000 in
theorem valid_any (h : Is w B b most m A n cap xs)  : Calls Try.prog 52 #[.pointer (some ⟨b, 0, none⟩)] w fun e w' => e = .returned (.bool true) ∧ w = w' := by
  have hc := h.blk.cell
  have hf := h.blk.frozen
  have hbl := h.lt
  obtain ⟨_, hnc, hcm⟩ := own_cap h.own
  unfold maxLen at hcm
  go_enter Try.func52, Try.ntmps52
  go_wp2
  go_ret
  exact ⟨rfl, rfl⟩
set_option maxRecDepth 100000 in
set_option maxHeartbeats 800000 in
theorem Len_any (h : Is w B b most m A n cap xs)  : Calls Try.prog 59 #[.pointer (some ⟨b, 0, none⟩)] w fun e w' => e = .returned (.int .i64 n) ∧ w = w' := by
  have hc := h.blk.cell
  have hf := h.blk.frozen
  have hbl := h.lt
  obtain ⟨_, hnc, hcm⟩ := own_cap h.own
  unfold maxLen at hcm
  go_enter Try.func59, Try.ntmps59
  go_wp2
  go_ret
  exact ⟨rfl, rfl⟩
set_option maxRecDepth 100000 in
set_option maxHeartbeats 800000 in
theorem Marked_any (h : Is w B b most m A n cap xs)  : Calls Try.prog 60 #[.pointer (some ⟨b, 0, none⟩)] w fun e w' => e = .returned (.int .i64 m) ∧ w = w' := by
  have hc := h.blk.cell
  have hf := h.blk.frozen
  have hbl := h.lt
  obtain ⟨_, hnc, hcm⟩ := own_cap h.own
  unfold maxLen at hcm
  go_enter Try.func60, Try.ntmps60
  go_wp2
  go_ret
  exact ⟨rfl, rfl⟩
set_option maxRecDepth 100000 in
set_option maxHeartbeats 800000 in
theorem Mark_any (h : Is w B b most m A n cap xs)  : Calls Try.prog 29 #[.pointer (some ⟨b, 0, none⟩)] w fun e w' => e = .returned (.tuple #[]) ∧ Is w' B b most n A n cap xs ∧ Only b (rowOf A) w w' := by
  have hc := h.blk.cell
  have hf := h.blk.frozen
  have hbl := h.lt
  obtain ⟨_, hnc, hcm⟩ := own_cap h.own
  unfold maxLen at hcm
  go_enter Try.func29, Try.ntmps29
  go_wp2
  go_end0
  exact ⟨rfl, ⟨h.blk.set_ 2 _, own_setFar h.own (p := ⟨b, 2, none⟩) h.far _, h.far⟩, (Only.refl _ _ _).set_ _ _⟩
set_option maxRecDepth 100000 in
set_option maxHeartbeats 800000 in
theorem Clear_any (h : Is w B b most m A n cap xs)  : Calls Try.prog 33 #[.pointer (some ⟨b, 0, none⟩)] w fun e w' => e = .returned (.tuple #[]) ∧ Is w' B b most 0 none 0 0 [] ∧ Only b (rowOf A) w w' := by
  have hc := h.blk.cell
  have hf := h.blk.frozen
  have hbl := h.lt
  obtain ⟨_, hnc, hcm⟩ := own_cap h.own
  unfold maxLen at hcm
  go_enter Try.func33, Try.ntmps33
  go_wp2
  go_end0
  exact ⟨rfl, ⟨(h.blk.set_ 1 _).set_ 2 _, World.ownsRow_nil _ _ _ _, by simp [rowOf]⟩, ((Only.refl _ _ _).set_ _ _).set_ _ _⟩
set_option maxRecDepth 100000 in
set_option maxHeartbeats 800000 in
theorem At_ok (h : Is w B b most m A n cap xs) (i : Nat) (x : ByteArray) (hx : xs[i]? = some x) : Calls Try.prog 55 #[.pointer (some ⟨b, 0, none⟩), .int .i64 i] w fun e w' => e = .returned (.tuple #[.string x, .int .i64 0]) ∧ w = w' := by
  have hc := h.blk.cell
  have hf := h.blk.frozen
  have hbl := h.lt
  obtain ⟨_, hnc, hcm⟩ := own_cap h.own
  unfold maxLen at hcm
  have hi : i < n := by rw [← h.len]; exact (List.getElem?_eq_some_iff.1 hx).1
  have hi2 : (i : Int) < (n : Int) := by omega
  obtain ⟨g, rfl, _, _, c1, _⟩ := own_at h.own (i := i) (u := .string x) (by rw [List.getElem?_map, hx]; rfl)
  clear hx
  go_enter Try.func55, Try.ntmps55
  go_wp2
  go_ret2
  exact ⟨rfl, rfl⟩
set_option maxRecDepth 100000 in
set_option maxHeartbeats 800000 in
theorem At_err (h : Is w B b most m A n cap xs) (i : Int) (hi : i < 0 ∨ (n : Int) ≤ i) : Calls Try.prog 55 #[.pointer (some ⟨b, 0, none⟩), .int .i64 i] w fun e w' => e = .returned (.tuple #[.string ⟨#[]⟩, .int .i64 3]) ∧ w = w' := by
  have hc := h.blk.cell
  have hf := h.blk.frozen
  have hbl := h.lt
  obtain ⟨_, hnc, hcm⟩ := own_cap h.own
  unfold maxLen at hcm
  rcases hi with hi | hi
  case' inr =>
    have hi' : ¬ i < 0 := by omega
  all_goals go_enter Try.func55, Try.ntmps55
  all_goals go_wp2
  all_goals go_ret2
  all_goals exact ⟨rfl, rfl⟩
set_option maxRecDepth 100000 in
set_option maxHeartbeats 800000 in
theorem Cut_err (h : Is w B b most m A n cap xs) (i : Int) (hi : i < (m : Int) ∨ (n : Int) < i) : Calls Try.prog 31 #[.pointer (some ⟨b, 0, none⟩), .int .i64 i] w fun e w' => e = .returned (.int .i64 3) ∧ w = w' := by
  have hc := h.blk.cell
  have hf := h.blk.frozen
  have hbl := h.lt
  obtain ⟨_, hnc, hcm⟩ := own_cap h.own
  unfold maxLen at hcm
  rcases hi with hi | hi
  case' inr =>
    have hi' : i < (m : Int) ∨ ¬ i < (m : Int) := by omega
    rcases hi' with hi' | hi'
  all_goals go_enter Try.func31, Try.ntmps31
  all_goals go_wp2
  all_goals go_ret
  all_goals exact ⟨rfl, rfl⟩
set_option maxRecDepth 100000 in
set_option maxHeartbeats 800000 in
theorem Add_full (h : Is w B b most m A n cap xs) (x : ByteArray) (hge : most ≤ n) : Calls Try.prog 27 #[.pointer (some ⟨b, 0, none⟩), .string x] w fun e w' => e = .returned (.int .i64 4) ∧ Below w.heap.size w w' := by
  have hc := h.blk.cell
  have hf := h.blk.frozen
  have hbl := h.lt
  obtain ⟨_, hnc, hcm⟩ := own_cap h.own
  unfold maxLen at hcm
  have z1 : decide (most ≤ n) = true := by rw [decide_eq_true_eq]; omega
  have z2 : (most : Int) ≤ (n : Int) := by omega
  go_enter Try.func27, Try.ntmps27
  go_wp2
  go_quiet (fail)
  go_wp2_with fail
  go_ret
  exact ⟨rfl, below_drewN (Below.refl _ _) _⟩
set_option maxRecDepth 100000 in
set_option maxHeartbeats 800000 in
theorem Add_ok (h : Is w B b most m A n cap xs) (x : ByteArray) (hlt : n < most) (hmost : most ≤ 100000) : Calls Try.prog 27 #[.pointer (some ⟨b, 0, none⟩), .string x] w fun e w' => ∃ A' cap', e = .returned (.int .i64 0) ∧ Is w' w.heap.size b most m A' (n + 1) cap' (xs ++ [x]) ∧ Only b (rowOf A) w w' ∧ NewRow w (rowOf A) (rowOf A') := by
  have hc := h.blk.cell
  have hf := h.blk.frozen
  have hbl := h.lt
  obtain ⟨_, hnc, hcm⟩ := own_cap h.own
  unfold maxLen at hcm
  have z1 : decide (most ≤ n) = false := by rw [decide_eq_false_iff_not]; omega
  have z2 : (n : Int) < (most : Int) := by omega
  obtain ⟨i0, hi0, hz0, hz1, hz2⟩ := info_parts Hs.info
  go_enter Try.func27, Try.ntmps27
  go_wp2
  go_quiet (fail)
  obtain ⟨wq, hwq⟩ : ∃ wq, w.drewN nq = wq := ⟨_, rfl⟩
  rw [hwq]
  have hbq : Below w.heap.size w wq := by rw [← hwq]; exact below_drewN (Below.refl _ _) _
  have hsz : wq.heap.size = w.heap.size := by rw [← hwq]; rfl
  have hh : Is wq B b most m A n cap xs := by rw [← hwq]; exact h.drewN nq
  clear hwq hc hf hbl
  have hc := hh.blk.cell
  have hf := hh.blk.frozen
  have hbl := hh.lt
  have o0 : (wq.alloc (.cells #[] 9)).ownsRow wq.heap.size 9 1 (.slice (some ⟨wq.heap.size, 0, none⟩) 0 0) 0 [] := World.ownsRow_lit wq #[] 0 (Nat.le_refl _) (by unfold maxLen; omega) rfl
  have hrd := Reads.of_own (own_later hh.own (b_alloc (Below.refl _ _) (.cells #[] 9)))
  have k1 : 0 + n ≤ maxLen := by unfold maxLen; omega
  have k2 : (0 + n) * 16 ≤ 140737488355328 := by omega
  have k3 : wq.heap.size ≤ (wq.alloc (.cells #[] 9)).heap.size := by simp
  have k4 : ∀ u ∈ xs.map Value.string, u.oneCell' = true := by intro u hu; obtain ⟨x, _, rfl⟩ := List.mem_map.1 hu; rfl
  have j1 : n + 1 ≤ maxLen := by unfold maxLen; omega
  have j2 : (n + 1) * 16 ≤ 140737488355328 := by omega
  have j4 : ∀ u ∈ [Value.string x], u.oneCell' = true := by intro u hu; simp at hu; subst hu; rfl
  have hG5 : ∀ {w5 : World}, (wq.alloc (.cells #[] 9)).grownBy w5 (some wq.heap.size) → Below wq.heap.size wq w5 := fun hg => b_g (b_alloc (Below.refl _ _) _) hg (Nat.le_refl _)
  have HS := Lib.hid hsz
  have HH := Lib.hid hh
  clear h hh hsz
  go_wp2_with (first
    | (at_builtin; refine wpList_append_any _ rfl (.tmp 19) (.tmp 23) _ rfl wq.heap.size 9 i0 _ 1 16 Try.underlying70 hi0 hz0 hz1 hz2 rfl (by omega) _ 0 _ rfl o0 (wq.alloc (.cells #[] 9)).heap.size _ n cap (xs.map Value.string) rfl hrd k4 k1 k2 k3 ?_; intro v5 w5 o5 hg5 hat5; have hb5 := hG5 hg5; simp only [Nat.zero_add, List.nil_append] at o5; have o6 := own_fresh o5 (.cells #[.string x] 9); have hr6 := Reads.one w5 9 (.string x); have j3 : wq.heap.size ≤ (w5.alloc (.cells #[.string x] 9)).heap.size := Nat.le_trans hb5.size (by simp))
    | (at_builtin; refine wpList_append_any _ rfl (.tmp 24) (.tmp 26) _ rfl wq.heap.size 9 i0 _ 1 16 Try.underlying70 hi0 hz0 hz1 hz2 rfl (by omega) _ n _ rfl o6 (w5.heap.size + 1) _ 1 1 [.string x] rfl hr6 j4 j1 j2 j3 ?_; intro v7 w7 o7 hg7 hat7; obtain ⟨g7, cap7, rfl, hb7g, hl7⟩ := own_head o7; have hb7 : Below wq.heap.size wq w7 := (b_alloc hb5 _).grown hg7 j3 (fun k hk => (World.ownsRow.lt o6 k hk).1); have hB7 := HH.out.blk.below hb7 hbl; have hc7 := hB7.cell; have hf7 := hB7.frozen))
  go_ret
  have hfar : rowOf (some (⟨g7, 0, none⟩ : Addr)) ≠ some b := by intro e; injection e with e; have e : g7 = b := e; omega
  have hs := HS.out
  refine ⟨some ⟨g7, 0, none⟩, cap7, rfl, ⟨hB7.set_ 1 _, ?_, hfar⟩, ((Only.of_below hbq b (rowOf A)).trans (Only.of_below hb7 b (rowOf A)) (.inl rfl)).set_ _ _, NewRow.new (show w.heap.size ≤ g7 by omega)⟩
  rw [← hs, List.map_append]
  exact own_setFar o7 (p := ⟨b, 1, none⟩) hfar _
set_option maxRecDepth 100000 in
set_option maxHeartbeats 800000 in
theorem Cut_ok (h : Is w B b most m A n cap xs) (i : Nat) (hm : m ≤ i) (hi : i ≤ n) (hl : n ≤ 100000) : Calls Try.prog 31 #[.pointer (some ⟨b, 0, none⟩), .int .i64 i] w fun e w' => ∃ A' cap', e = .returned (.int .i64 0) ∧ Is w' w.heap.size b most m A' i cap' (xs.take i) ∧ Only b (rowOf A) w w' ∧ NewRow w (rowOf A) (rowOf A') := by
  have hc := h.blk.cell
  have hf := h.blk.frozen
  have hbl := h.lt
  obtain ⟨_, hnc, hcm⟩ := own_cap h.own
  unfold maxLen at hcm
  obtain ⟨i0, hi0, hz0, hz1, hz2⟩ := info_parts Hs.info
  have o0 : (w.alloc (.cells #[] 9)).ownsRow w.heap.size 9 1 (.slice (some ⟨w.heap.size, 0, none⟩) 0 0) 0 [] := World.ownsRow_lit w #[] 0 (Nat.le_refl _) (by unfold maxLen; omega) rfl
  have hal := h.later (b_alloc (Below.refl _ _) (.cells #[] 9))
  have k3 : w.heap.size ≤ (w.alloc (.cells #[] 9)).heap.size := by simp
  have hG5 : ∀ {w5 : World}, (w.alloc (.cells #[] 9)).grownBy w5 (some w.heap.size) → Below w.heap.size w w5 := fun hg => b_g (b_alloc (Below.refl _ _) _) hg (Nat.le_refl _)
  have hrd : Reads (w.alloc (.cells #[] 9)) (w.alloc (.cells #[] 9)).heap.size 1 A i ((xs.take i).map Value.string) := by
    have := Reads.of_own (own_cutAny hal.own hi)
    rwa [← List.map_take] at this
  have k1 : 0 + i ≤ maxLen := by unfold maxLen; omega
  have k2 : (0 + i) * 16 ≤ 140737488355328 := by omega
  have k4 : ∀ u ∈ (xs.take i).map Value.string, u.oneCell' = true := by intro u hu; obtain ⟨x, _, rfl⟩ := List.mem_map.1 hu; rfl
  have z1 : (m : Int) ≤ (i : Int) := by omega
  have z2 : (i : Int) ≤ (n : Int) := by omega
  go_enter Try.func31, Try.ntmps31
  go_wp2_with fail
  refine (valid_any B b most m n cap A xs _ h).mono ?_
  rintro e w' ⟨rfl, rfl⟩
  have HH := Lib.hid h
  clear h hal
  go_wp2_with (first
    | (at_builtin; refine wpList_append_any _ rfl (.tmp 24) (.tmp 30) _ rfl w.heap.size 9 i0 _ 1 16 Try.underlying70 hi0 hz0 hz1 hz2 rfl (by omega) _ 0 _ rfl o0 (w.alloc (.cells #[] 9)).heap.size _ i cap ((xs.take i).map Value.string) rfl hrd k4 k1 k2 k3 ?_; intro v5 w5 o5 hg5 hat5; have hb5 := hG5 hg5; simp only [Nat.zero_add, List.nil_append] at o5; obtain ⟨A5, cap5, rfl⟩ := own_slice o5; have hB5 := HH.out.blk.below hb5 hbl; have hc5 := hB5.cell; have hf5 := hB5.frozen))
  go_ret
  have hro := own_row o5
  have hfar : rowOf A5 ≠ some b := by intro e; have := (hro _ e).1; omega
  exact ⟨A5, cap5, rfl, ⟨hB5.set_ 1 _, own_setFar o5 (p := ⟨b, 1, none⟩) hfar _, hfar⟩, (Only.of_below hb5 b (rowOf A)).set_ _ _, .inr fun k hk => (hro k hk).1⟩
set_option maxRecDepth 100000 in
set_option maxHeartbeats 800000 in
theorem All_any (h : Is w B b most m A n cap xs) (hl : n ≤ 100000) : Calls Try.prog 57 #[.pointer (some ⟨b, 0, none⟩)] w fun e w' => (∃ A' cap', e = .returned (.slice A' n cap') ∧ w'.ownsRow w.heap.size 9 1 (.slice A' n cap') n (xs.map Value.string)) ∧ Below w.heap.size w w' := by
  have hc := h.blk.cell
  have hf := h.blk.frozen
  have hbl := h.lt
  obtain ⟨_, hnc, hcm⟩ := own_cap h.own
  unfold maxLen at hcm
  obtain ⟨i0, hi0, hz0, hz1, hz2⟩ := info_parts Hs.info
  have o0 : (w.alloc (.cells #[] 9)).ownsRow w.heap.size 9 1 (.slice (some ⟨w.heap.size, 0, none⟩) 0 0) 0 [] := World.ownsRow_lit w #[] 0 (Nat.le_refl _) (by unfold maxLen; omega) rfl
  have hal := h.later (b_alloc (Below.refl _ _) (.cells #[] 9))
  have k3 : w.heap.size ≤ (w.alloc (.cells #[] 9)).heap.size := by simp
  have hG5 : ∀ {w5 : World}, (w.alloc (.cells #[] 9)).grownBy w5 (some w.heap.size) → Below w.heap.size w w5 := fun hg => b_g (b_alloc (Below.refl _ _) _) hg (Nat.le_refl _)
  have hrd := Reads.of_own hal.own
  have k1 : 0 + n ≤ maxLen := by unfold maxLen; omega
  have k2 : (0 + n) * 16 ≤ 140737488355328 := by omega
  have k4 : ∀ u ∈ xs.map Value.string, u.oneCell' = true := by intro u hu; obtain ⟨x, _, rfl⟩ := List.mem_map.1 hu; rfl
  go_enter Try.func57, Try.ntmps57
  go_wp2_with fail
  refine (valid_any B b most m n cap A xs _ h).mono ?_
  rintro e w' ⟨rfl, rfl⟩
  clear h hal
  go_wp2_with (first
    | (at_builtin; refine wpList_append_any _ rfl (.tmp 6) (.tmp 10) _ rfl w.heap.size 9 i0 _ 1 16 Try.underlying70 hi0 hz0 hz1 hz2 rfl (by omega) _ 0 _ rfl o0 (w.alloc (.cells #[] 9)).heap.size _ n cap (xs.map Value.string) rfl hrd k4 k1 k2 k3 ?_; intro v5 w5 o5 hg5 hat5; have hb5 := hG5 hg5; simp only [Nat.zero_add, List.nil_append] at o5; obtain ⟨A5, cap5, rfl⟩ := own_slice o5))
  go_ret
  exact ⟨⟨A5, cap5, rfl, o5⟩, hb5⟩
set_option maxRecDepth 100000 in
set_option maxHeartbeats 800000 in
theorem Since_any (h : Is w B b most m A n cap xs) (hm : m ≤ n) (hl : n ≤ 100000) : Calls Try.prog 58 #[.pointer (some ⟨b, 0, none⟩)] w fun e w' => (∃ A' cap', e = .returned (.slice A' (n - m) cap') ∧ w'.ownsRow w.heap.size 9 1 (.slice A' (n - m) cap') (n - m) ((xs.drop m).map Value.string)) ∧ Below w.heap.size w w' := by
  have hc := h.blk.cell
  have hf := h.blk.frozen
  have hbl := h.lt
  obtain ⟨_, hnc, hcm⟩ := own_cap h.own
  unfold maxLen at hcm
  obtain ⟨i0, hi0, hz0, hz1, hz2⟩ := info_parts Hs.info
  have o0 : ((w.alloc (.cells #[] 9)).drew).ownsRow w.heap.size 9 1 (.slice (some ⟨w.heap.size, 0, none⟩) 0 0) 0 [] := World.ownsRow_lit w #[] 0 (Nat.le_refl _) (by unfold maxLen; omega) rfl
  have hal := h.later (Below.drew (b_alloc (Below.refl _ _) (.cells #[] 9)))
  have k3 : w.heap.size ≤ ((w.alloc (.cells #[] 9)).drew).heap.size := by show w.heap.size ≤ (w.alloc (.cells #[] 9)).heap.size; simp
  have hG5 : ∀ {w5 : World}, ((w.alloc (.cells #[] 9)).drew).grownBy w5 (some w.heap.size) → Below w.heap.size w w5 := fun hg => b_g (Below.drew (b_alloc (Below.refl _ _) _)) hg (Nat.le_refl _)
  have hl' := h.len
  have hrd : Reads ((w.alloc (.cells #[] 9)).drew) ((w.alloc (.cells #[] 9)).drew).heap.size 1 (if cap = m then A else A.map (·.add m)) (n - m) ((xs.drop m).map Value.string) := by
    have := (Reads.of_own hal.own).cut hm hnc
    rw [Nat.mul_one, ← List.map_drop] at this
    exact this
  clear hl'
  have k1 : 0 + (n - m) ≤ maxLen := by unfold maxLen; omega
  have k2 : (0 + (n - m)) * 16 ≤ 140737488355328 := by omega
  have k4 : ∀ u ∈ (xs.drop m).map Value.string, u.oneCell' = true := by intro u hu; obtain ⟨x, _, rfl⟩ := List.mem_map.1 hu; rfl
  obtain ⟨X, hX⟩ : ∃ X, X = (if cap = m then A else A.map (·.add m)) := ⟨_, rfl⟩
  rw [← hX] at hrd
  have hrun : ∀ W : World, (Instr.sliceAt 70 (.slice A n cap) (some (.int .i64 (m : Nat))) none none).run Try.prog W = .ok (.slice X (n - m) (cap - m)) W := fun W => by rw [hX]; exact slice_fromS hm W
  have HX := Lib.hid hX
  clear hX
  have z1 : (m : Int) ≤ (n : Int) := by omega
  have z2 : (m : Int) ≤ (cap : Int) := by omega
  go_enter Try.func58, Try.ntmps58
  go_wp2_with fail
  refine (valid_any B b most m n cap A xs _ h).mono ?_
  rintro e w' ⟨rfl, rfl⟩
  clear h hal
  go_wp2_with fail
  go_region_law (refine step_append_any _ rfl (.tmp 6) (.tmp 15) 70 rfl w.heap.size 9 i0 _ 1 16 Try.underlying70 hi0 hz0 hz1 hz2 rfl (by omega) _ 0 _ rfl o0 ((w.alloc (.cells #[] 9)).drew).heap.size _ (n - m) (cap - m) ((xs.drop m).map Value.string) rfl hrd k4 k1 k2 k3 ?_; intro v5 w5 o5 hg5 hat5; have hb5 := hG5 hg5; simp only [Nat.zero_add, List.nil_append] at o5; obtain ⟨A5, cap5, rfl⟩ := own_slice o5)
  all_goals go_wp2_with fail
  all_goals go_ret
  all_goals exact ⟨⟨A5, cap5, rfl, o5⟩, hb5⟩
set_option maxRecDepth 100000 in
set_option maxHeartbeats 6400000 in
theorem Copy_any (h : Is w B b most m A n cap xs) (hl : n ≤ 100000) : Calls Try.prog 35 #[.pointer (some ⟨b, 0, none⟩)] w fun e w' => ∃ b' A' cap', e = .returned (.pointer (some ⟨b', 0, none⟩)) ∧ Is w' w.heap.size b' most m A' n cap' xs ∧ w.heap.size ≤ b' ∧ Below w.heap.size w w' := by
  have hc := h.blk.cell
  have hf := h.blk.frozen
  have hbl := h.lt
  obtain ⟨_, hnc, hcm⟩ := own_cap h.own
  unfold maxLen at hcm
  obtain ⟨i0, hi0, hz0, hz1, hz2⟩ := info_parts Hs.info
  have o0 : ((w.alloc (.cells #[] 9)).drew).ownsRow w.heap.size 9 1 (.slice (some ⟨w.heap.size, 0, none⟩) 0 0) 0 [] := World.ownsRow_lit w #[] 0 (Nat.le_refl _) (by unfold maxLen; omega) rfl
  have hal := h.later (Below.drew (b_alloc (Below.refl _ _) (.cells #[] 9)))
  have k3 : w.heap.size ≤ ((w.alloc (.cells #[] 9)).drew).heap.size := by show w.heap.size ≤ (w.alloc (.cells #[] 9)).heap.size; simp
  have hG5 : ∀ {w5 : World}, ((w.alloc (.cells #[] 9)).drew).grownBy w5 (some w.heap.size) → Below w.heap.size w w5 := fun hg => b_g (Below.drew (b_alloc (Below.refl _ _) _)) hg (Nat.le_refl _)
  have hrd := Reads.of_own hal.own
  have hcA := hal.blk.cell
  have k1 : 0 + n ≤ maxLen := by unfold maxLen; omega
  have k2 : (0 + n) * 16 ≤ 140737488355328 := by omega
  have k4 : ∀ u ∈ xs.map Value.string, u.oneCell' = true := by intro u hu; obtain ⟨x, _, rfl⟩ := List.mem_map.1 hu; rfl
  clear hal
  go_enter Try.func35, Try.ntmps35
  go_wp2_with fail
  refine (valid_any B b most m n cap A xs _ h).mono ?_
  rintro e w' ⟨rfl, rfl⟩
  have HH := Lib.hid h
  clear h
  go_wp2_with fail
  go_region_law (refine step_append_any _ rfl (.tmp 6) (.tmp 10) 70 rfl w.heap.size 9 i0 _ 1 16 Try.underlying70 hi0 hz0 hz1 hz2 rfl (by omega) _ 0 _ rfl o0 ((w.alloc (.cells #[] 9)).drew).heap.size _ n cap (xs.map Value.string) rfl hrd k4 k1 k2 k3 ?_; intro v5 w5 o5 hg5 hat5; have hb5 := hG5 hg5; simp only [Nat.zero_add, List.nil_append] at o5; obtain ⟨A5, cap5, rfl⟩ := own_slice o5; have hB5 := HH.out.blk.below hb5 hbl; have hc5 := hB5.cell)
  all_goals go_wp2_with fail
  all_goals go_ret
  all_goals
    have hro := own_row o5
    exact ⟨_, A5, cap5, rfl, ⟨Blk.new w5 _ _, own_later o5 (b_alloc (Below.refl _ _) _), by intro e; have := (hro _ e).2; omega⟩, hb5.size, b_alloc hb5 _⟩
end
end Go.Proofs.Ytohnoioblhkepaa.Rf
