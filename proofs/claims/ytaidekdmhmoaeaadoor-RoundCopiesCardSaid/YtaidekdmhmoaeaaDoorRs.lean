/-
  The reference's round: New, Over, Copy, Begin.
-/
import Derived.Test.YtaidekdmhmoaeaaDoorRr
import Derived.Laws.OwnMore
namespace Go.Proofs.YtaidekdmhmoaeaaDoor.Rr
open Go.RowKit Bt
open Rd (ints inn orAll_snoc)
set_option linter.unusedVariables false
set_option linter.unusedSimpArgs false
theorem binfo : (Tryd.prog.info? 4).map (fun i => (i.zero, i.size, i.bytes)) = some (some (.bool false), 1, 1) := by kernel_rfl
def falses (n : Nat) : Array Value := (List.replicate n (Value.bool false)).toArray
theorem make_bool (n : Nat) (h : n ≤ 1000) (w : World) : (Instr.makeSlice 68 (.int .i64 (n : Int)) (.int .i64 (n : Int))).run Tryd.prog w = .ok (.slice (some ⟨w.heap.size, 0, none⟩) n n) (w.alloc (.cells (falses n) 4)) := by
  obtain ⟨i0, hi0, hz0, hz1, hz2⟩ := info_parts binfo
  rw [run_make w _ _ i0 (.bool false) Tryd.underlying68 hi0 hz0 .i64 .i64 n n (by omega) (Int.le_refl _) (by rw [hz2]; omega) (by omega)]
  rw [hz1]
  have hA : madeCells (Value.bool false).cells ((n : Int).toNat * 1) = falses n := by
    apply Array.toList_inj.1
    show (madeCells #[Value.bool false] ((n : Int).toNat * 1)).toList = _
    rw [toList_madeCells_one]
    simp [falses]
  rw [hA]
  simp
theorem falses_row (w : World) (s : Nat) : Row (w.alloc (.cells (falses s) 4)) w.heap.size s s 0 :=
  ⟨falses s, Blk.new w _ _, by simp [falses], fun i hi => by simp [falses, hi]⟩
theorem New_ok (s : Nat) (w : World) (h1 : 1 ≤ s) (h2 : s ≤ 32) : Calls Tryd.prog 14 #[.int .i64 s] w fun e w' => ∃ b g : Nat, e = .returned (.tuple #[.pointer (some ⟨b, 0, none⟩), .int .i64 0]) ∧ Is w' b g s s 0 0 ∧ w.heap.size ≤ b ∧ w.heap.size ≤ g ∧ Below w.heap.size w w' := by
  have hmk := fun w => make_bool s (by omega) w
  have hfr := falses_row w s
  have hb := b_alloc (Below.refl w.heap.size w) (.cells (falses s) 4)
  go_enter Tryd.func14, Tryd.ntmps14
  go_wp2
  go_ret2
  have hb2 := b_alloc (Below.refl (w.alloc (.cells (falses s) 4)).heap.size (w.alloc (.cells (falses s) 4))) (.cells #[.slice (some ⟨w.heap.size, 0, none⟩) s s, .int .i64 0] 70)
  have hbk := Blk.new (w.alloc (.cells (falses s) 4)) 70 #[.slice (some ⟨w.heap.size, 0, none⟩) s s, .int .i64 0]
  rw [World.size_alloc] at hbk
  exact ⟨_, _, rfl, ⟨hbk, hfr.kept (hb2.block _ hfr.lt), by simp, Nat.le_refl _, by unfold maxLen; omega, h1, h2, Nat.two_pow_pos s⟩, by simp, Nat.le_refl _, b_then hb hb2⟩
theorem New_err (s : Int) (w : World) (h : s < 1 ∨ 32 < s) : Calls Tryd.prog 14 #[.int .i64 s] w fun e w' => e = .returned (.tuple #[.pointer none, .int .i64 2]) ∧ w = w' := by
  rcases h with h | h
  · go_enter Tryd.func14, Tryd.ntmps14
    go_wp2
    go_ret2
    exact ⟨rfl, rfl⟩
  · have h' : ¬ s < 1 := by omega
    go_enter Tryd.func14, Tryd.ntmps14
    go_wp2
    go_ret2
    exact ⟨rfl, rfl⟩
theorem none_left {M : Nat} (hM : M < 2 ^ 32) : (((slots M).length : Int) == 0) = (M == 0) := by
  by_cases h : M = 0
  · subst h
    rw [slots_zero]
    rfl
  · have : slots M ≠ [] := fun e => h ((slots_nil hM).1 e)
    have h2 : (slots M).length ≠ 0 := fun e => this (List.length_eq_zero_iff.1 e)
    rw [beq_eq_false_iff_ne.2 h, beq_eq_false_iff_ne]
    omega
theorem Is.m32 {w : World} {b g s cap M : Nat} {N : Int} (h : Is w b g s cap M N) : M < 2 ^ 32 := Nat.lt_of_lt_of_le h.ml (Nat.pow_le_pow_right (by omega) h.s2)
theorem Over_any (b g s cap M : Nat) (N : Int) (w : World) (h : Is w b g s cap M N) : Calls Tryd.prog 35 #[.pointer (some ⟨b, 0, none⟩)] w fun e w' => e = .returned (.bool (M == 0)) ∧ Below w.heap.size w w' := by
  have hv := valid_any b g s cap M N w h
  have hl := Left_any b g s cap M N w h
  have hz := Lib.hid (none_left h.m32)
  clear h
  go_enter Tryd.func35, Tryd.ntmps35
  go_wp2_with fail
  refine hv.mono ?_
  rintro e w' ⟨rfl, rfl⟩
  clear hv
  go_wp2_with fail
  refine hl.mono ?_
  rintro e w' ⟨⟨A, c, rfl, _⟩, hb⟩
  clear hl
  go_wp2_with fail
  go_ret
  exact ⟨congrArg (fun x => Ending.returned (.bool x)) hz.out, hb⟩
theorem own_slice {w : World} {B : Nat} {e : TypeId} {v : Value} {n : Nat} {xs : List Value} (h : w.ownsRow B e 1 v n xs) : ∃ (A : Option Addr) (cap : Nat), v = .slice A n cap := by
  obtain ⟨_, ⟨rfl, rfl⟩ | ⟨g', cap', cur, rfl, _⟩⟩ := h
  · exact ⟨none, 0, rfl⟩
  · exact ⟨_, cap', rfl⟩
theorem own_head' {w : World} {B s cap : Nat} {A : Option Addr} {e : TypeId} {xs : List Value} (h : w.ownsRow B e 1 (.slice A s cap) s xs) (hs : 1 ≤ s) : ∃ g c, Value.slice A s cap = .slice (some ⟨g, 0, none⟩) s c ∧ B ≤ g ∧ g < w.heap.size := by
  obtain ⟨_, ⟨he, h0⟩ | ⟨g', cap', cur, he, h2, h3, _⟩⟩ := h
  · omega
  · exact ⟨g', cap', he, h2, lt_of_block h3⟩
theorem Copy_any (b g s cap M : Nat) (N : Int) (w : World) (h : Is w b g s cap M N) : Calls Tryd.prog 19 #[.pointer (some ⟨b, 0, none⟩)] w fun e w' => ∃ b' g' cap' : Nat, e = .returned (.pointer (some ⟨b', 0, none⟩)) ∧ Is w' b' g' s cap' M N ∧ w.heap.size ≤ b' ∧ w.heap.size ≤ g' ∧ Below w.heap.size w w' := by
  have hv := valid_any b g s cap M N w h
  obtain ⟨i0, hi0, hz0, hz1, hz2⟩ := info_parts binfo
  have hs2 := h.s2
  have hs1 := h.s1
  have hml := h.ml
  have hcap1 := h.cap1
  have hcap2 := h.cap2
  unfold maxLen at hcap2
  have o0 : ((w.alloc (.cells #[] 4)).drew).ownsRow w.heap.size 4 1 (.slice (some ⟨w.heap.size, 0, none⟩) 0 0) 0 [] := World.ownsRow_lit w #[] 0 (Nat.le_refl _) (by unfold maxLen; omega) rfl
  have hal := h.later (Below.drew (b_alloc (Below.refl _ _) (.cells #[] 4)))
  have k3 : w.heap.size ≤ ((w.alloc (.cells #[] 4)).drew).heap.size := by show w.heap.size ≤ (w.alloc (.cells #[] 4)).heap.size; simp
  have hG5 : ∀ {w5 : World}, ((w.alloc (.cells #[] 4)).drew).grownBy w5 (some w.heap.size) → Below w.heap.size w w5 := fun hg => b_g (Below.drew (b_alloc (Below.refl _ _) _)) hg (Nat.le_refl _)
  have hbl := h.lt
  have hrl := h.row.lt
  have hbk : b ≠ w.heap.size := by omega
  have hrd := Reads.of_own (hal.row.own h.cap1 h.cap2)
  have hc := h.blk.cell
  have hcA := hal.blk.cell
  have k1 : 0 + s ≤ maxLen := by unfold maxLen; omega
  have k2 : (0 + s) * 1 ≤ 140737488355328 := by omega
  have k4 : ∀ u ∈ bools s M, u.oneCell' = true := by intro u hu; obtain ⟨x, _, rfl⟩ := List.mem_map.1 hu; rfl
  have HH := Lib.hid h
  clear h hal
  go_enter Tryd.func19, Tryd.ntmps19
  go_wp2_with fail
  refine hv.mono ?_
  rintro e w' ⟨rfl, rfl⟩
  clear hv
  go_wp2_with fail
  go_region_law (refine step_append_any _ rfl (.tmp 6) (.tmp 10) 68 rfl w.heap.size 4 i0 _ 1 1 Tryd.underlying68 hi0 hz0 hz1 hz2 rfl (by omega) _ 0 _ rfl o0 ((w.alloc (.cells #[] 4)).drew).heap.size _ s cap (bools s M) rfl hrd k4 k1 k2 k3 ?_; intro v5 w5 o5 hg5 hat5; have hb5 := hG5 hg5; simp only [Nat.zero_add, List.nil_append] at o5; obtain ⟨A5, cap5, rfl⟩ := own_slice o5; have hB5b := HH.out.blk.below hb5 hbl; have hc5 := hB5b.cell)
  all_goals go_wp2_with fail
  all_goals go_ret
  all_goals
    obtain ⟨g5, c5, he5, hb, hlt⟩ := own_head' o5 hs1
    injection he5 with he1 he2 he3
    subst he1 he3
    obtain ⟨hR, hg, hc1, hc2⟩ := Row.of_own o5
    have hb6 := b_alloc (Below.refl w5.heap.size w5) (.cells #[.slice (some ⟨g5, 0, none⟩) s cap5, .int .i64 N] 70)
    exact ⟨_, _, _, rfl, ⟨Blk.new w5 _ _, hR.kept (hb6.block _ hR.lt), by omega, hc1, hc2, hs1, hs2, hml⟩, hb5.size, hg, b_then hb5 hb6⟩
end Go.Proofs.YtaidekdmhmoaeaaDoor.Rr
