/-
  bytes.Clone of bytes of the call's own.
-/
import Derived.Test.YtagcaepkbilpbaaCod
namespace Go.Proofs.Ytagcaepkbilpbaa
open Go.RowKit
set_option linter.unusedVariables false

theorem bclone_any (B : Nat) (v : Value) (L : List Int) (w : World) (h : IsB w B v L) (hl : L.length ≤ 100000) (hpos : 0 < L.length) :
    Calls Try.prog 21 #[v] w fun e w' => (∃ v', e = .returned v' ∧ IsB w' w.heap.size v' L) ∧ Below w.heap.size w w' := by
  obtain ⟨i0, hi0, hz0, hz1, hz2⟩ := info_parts byte_info
  have q26 : ∀ (w : World) (a : Option Addr) (n c n' c' : Nat), (binOp .eql 26 (.slice a n c) (.slice none n' c')).run Try.prog w = .ok (.bool a.isNone) w := fun w a n c n' c' => Lib.run_eql_slice_nil w _ _ a n c n' c' Try.underlying26
  rcases own_form h with ⟨rfl, hn⟩ | ⟨g, cap, rfl, hb, hlt⟩
  · omega
  · have ra := (Reads.of_own h).alloc (Nat.le_refl _) (.cells #[] 5)
    have o0 : (w.alloc (.cells #[] 5)).ownsRow w.heap.size 5 1 (.slice (some ⟨w.heap.size, 0, none⟩) 0 0) 0 [] := World.ownsRow_lit w #[] 0 (Nat.le_refl _) (by unfold maxLen; omega) rfl
    have l1 : 0 + L.length ≤ maxLen := by unfold maxLen; omega
    have hBw1 : w.heap.size ≤ (w.alloc (.cells #[] 5)).heap.size := by simp
    go_enter Try.func21, Try.ntmps21
    go_wp2_with (at_builtin; refine wpList_append_any _ rfl (.tmp 5) (.tmp 6) _ rfl w.heap.size 5 i0 _ 1 1 Try.underlying26 hi0 hz0 hz1 hz2 rfl (by omega) _ 0 [] rfl o0 w.heap.size (some ⟨g, 0, none⟩) L.length cap (L.map (Value.int .u8)) rfl ra bytes_one l1 (by omega) hBw1 ?_; intro v1 w1 own1 hg1 hat1)
    go_ret
    refine ⟨⟨_, rfl, by unfold IsB; simpa using own1⟩, (b_alloc (Below.refl _ w) _).grown hg1 hBw1 (fun k hk => ?_)⟩
    have hk' : some w.heap.size = some k := hk
    injection hk' with hk'
    omega
end Go.Proofs.Ytagcaepkbilpbaa
