/-
  slices.Clone over a slice that came in.
-/
import Derived.Test.YtaidekdmhmoaeaaDoorPs
namespace Go.Proofs.YtaidekdmhmoaeaaDoor.Pr
open Go.RowKit
set_option linter.unusedVariables false
set_option linter.unusedSimpArgs false
theorem Reads.of_ri {w : World} {A : Option Addr} {L : List Value} {n : Nat} (h : RI w A L) (hl : L.length = n) : Reads w w.heap.size 1 A n L := by
  refine ⟨by omega, fun hn => ?_⟩
  obtain ⟨b, off, rfl, hb, hc⟩ := h.resolve_left (by rintro rfl; simp at hl; omega)
  refine ⟨⟨b, off, none⟩, rfl, hb, fun j u hu => ?_⟩
  rw [show Addr.add ⟨b, off, none⟩ j = ⟨b, off + j, none⟩ from by unfold Addr.add; split <;> simp_all]
  exact hc j u hu
theorem cl_in (A : Option Addr) (n cap : Nat) (xs : List Int) (w : World) (hx : RI w A (xs.map (Value.int .i64))) (hxl : xs.length = n) (hA : A = none → n = 0 ∧ cap = 0) (hl : n ≤ 100000) (hnc : n ≤ cap) (hcm : cap ≤ maxLen) : Calls Tryd.prog 15 #[.slice A n cap] w fun e w' => (∃ A' cap', e = .returned (.slice A' n cap') ∧ w'.ownsRow w.heap.size 3 1 (.slice A' n cap') n (xs.map (Value.int .i64))) ∧ Below w.heap.size w w' := by
  obtain ⟨i0, hi0, hz0, hz1, hz2⟩ := info_parts Rd.info
  have hcm2 := hcm
  unfold maxLen at hcm2
  rcases A with _ | ad
  · obtain ⟨rfl, rfl⟩ := hA rfl
    obtain rfl : xs = [] := List.length_eq_zero_iff.1 hxl
    have hq : ∀ w : World, (binOp .eql 22 (.slice none 0 0) (.slice none 0 0)).run Tryd.prog w = .ok (.bool true) w := fun w => run_eql_slice_nil w _ _ none 0 0 Tryd.underlying22
    clear hx
    go_enter Tryd.func15, Tryd.ntmps15
    go_wp2_with fail
    go_ret
    exact ⟨⟨none, 0, rfl, World.ownsRow_nil _ _ _ _⟩, Below.refl _ _⟩
  · have hrd := Reads.of_ri (n := n) (hx.later (b_alloc (Below.refl _ _) (.cells #[] 3))) (by rw [List.length_map]; exact hxl)
    clear hA hxl
    have hq : ∀ w : World, (binOp .eql 22 (.slice (some ad) n cap) (.slice none 0 0)).run Tryd.prog w = .ok (.bool false) w := fun w => run_eql_slice_nil w _ _ (some ad) n cap Tryd.underlying22
    have o0 : (w.alloc (.cells #[] 3)).ownsRow w.heap.size 3 1 (.slice (some ⟨w.heap.size, 0, none⟩) 0 0) 0 [] := World.ownsRow_lit w #[] 0 (Nat.le_refl _) (by unfold maxLen; omega) rfl
    have k1 : 0 + n ≤ maxLen := by unfold maxLen; omega
    have k2 : (0 + n) * 8 ≤ 140737488355328 := by omega
    have k3 : w.heap.size ≤ (w.alloc (.cells #[] 3)).heap.size := by simp
    have k4 : ∀ u ∈ xs.map (Value.int .i64), u.oneCell' = true := by intro u hu; obtain ⟨x, _, rfl⟩ := List.mem_map.1 hu; rfl
    clear hx
    go_enter Tryd.func15, Tryd.ntmps15
    go_wp2_with (first
      | (at_builtin; refine wpList_append_any _ rfl (.tmp 5) (.tmp 6) _ rfl w.heap.size 3 i0 _ 1 8 Tryd.underlying22 hi0 hz0 hz1 hz2 rfl (by omega) _ 0 _ rfl o0 (w.alloc (.cells #[] 3)).heap.size _ n cap (xs.map (Value.int .i64)) rfl hrd k4 k1 k2 k3 ?_; intro v5 w5 o5 hg5 hat5; simp only [Nat.zero_add, List.nil_append] at o5))
    go_ret
    rcases own_form o5 with ⟨rfl, hn⟩ | ⟨g5, cap5, rfl, _, _⟩
    · subst hn
      exact ⟨⟨none, 0, rfl, o5⟩, b_g (b_alloc (Below.refl _ _) _) hg5 (Nat.le_refl _)⟩
    · exact ⟨⟨_, cap5, rfl, o5⟩, b_g (b_alloc (Below.refl _ _) _) hg5 (Nat.le_refl _)⟩
end Go.Proofs.YtaidekdmhmoaeaaDoor.Pr
