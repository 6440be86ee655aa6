/-
  slices.Equal and slices.Clone at bytes.
-/
import Derived.Test.YtiobnhdcapfhgaaStr
import Derived.Test.YtiobnhdcapfhgaaRdc
import Derived.Lib.LazyBuf
namespace Go.Proofs.Ytiobnhdcapfhgaa
open Go.RowKit
set_option linter.unusedVariables false
/-- a slice of bytes reads as M -/
def BS (w : World) (a : Option Addr) (n cap : Nat) (M : List Int) : Prop := M.length = n ∧ (0 < n → RB w a M) ∧ BB M ∧ n ≤ cap ∧ cap ≤ maxLen
theorem BS.later {w w' : World} {a : Option Addr} {n cap : Nat} {M : List Int} (h : BS w a n cap M) (hb : Below w.heap.size w w') : BS w' a n cap M := ⟨h.1, fun hp => (h.2.1 hp).later hb, h.2.2⟩
theorem BS.reads {w : World} {a : Option Addr} {n cap : Nat} {M : List Int} (h : BS w a n cap M) : Reads w w.heap.size 1 a n (M.map (Value.int .u8)) := by
  rcases Nat.eq_zero_or_pos n with h0 | hp
  · subst h0
    have : M = [] := List.eq_nil_of_length_eq_zero h.1
    subst this
    exact ⟨by simp, fun h => absurd h (by omega)⟩
  · have h1 := h.2.1 hp
    obtain ⟨b, off, rfl, hb⟩ := h1.some_ (by rw [h.1]; exact hp)
    have h2 := Reads.of_rb h1 hb
    rwa [h.1] at h2
theorem RB.cell1 {w : World} {b off : Nat} {M : List Int} (h : RB w (some ⟨b, off, none⟩) M) (k : Nat) (hk : k < M.length) : w.cell? ⟨b, off + k, none⟩ = some (.int .u8 (M.getD k 0)) := by
  rcases h with ⟨h, _⟩ | ⟨b', o', hq, hc⟩
  · cases h
  · injection hq with hq
    injection hq with q1 q2
    subst q1 q2
    exact hc k hk
theorem list_ext {M N : List Int} (h : M.length = N.length) (hk : ∀ i, i < M.length → M.getD i 0 = N.getD i 0) : M = N := by
  apply List.ext_getElem h
  intro i h1 h2
  have := hk i h1
  rwa [List.getD_eq_getElem?_getD, List.getD_eq_getElem?_getD, List.getElem?_eq_getElem h1, List.getElem?_eq_getElem h2] at this
theorem seq_any (A1 A2 : Option Addr) (n m c1 c2 : Nat) (M N : List Int) (w : World) (h1 : 0 < n → RB w A1 M) (h2 : 0 < m → RB w A2 N) (hn : M.length = n) (hm : N.length = m) (hx : n ≤ maxLen) (hy : m ≤ maxLen) :
    Calls Try.prog 15 #[.slice A1 n c1, .slice A2 m c2] w fun e w' => e = .returned (.bool (decide (M = N))) ∧ Below w.heap.size w w' := by
  unfold maxLen at hx hy
  by_cases hnm : n = m
  · subst hnm
    obtain ⟨R, hR⟩ : ∃ R, R = decide (M = N) := ⟨_, rfl⟩
    rw [← hR]
    have HR := Lib.hid hR
    clear hR
    go_enter Try.func15, Try.ntmps15
    go_wp2_with fail
    go_loopw [13] (fun i wr => ∃ k : Nat, k ≤ n ∧ i = .int .i64 k ∧ (∀ i, i < k → M.getD i 0 = N.getD i 0) ∧ Below w.heap.size w wr) (fun i _ => n - (intOf i).toNat)
    case atStart => exact ⟨0, by omega, rfl, fun i hi => absurd hi (by omega), Below.refl _ _⟩
    case round =>
      obtain ⟨k, hk, rfl, hq, hB⟩ := hrel
      have HQ := Lib.hid hq
      clear hq
      by_cases hlt : k < n
      · have r1 := (h1 (by omega)).later hB
        have r2 := (h2 (by omega)).later hB
        obtain ⟨b1, o1, rfl, _⟩ := r1.some_ (by omega)
        obtain ⟨b2, o2, rfl, _⟩ := r2.some_ (by omega)
        have e1 := r1.cell1 k (by omega)
        have e2 := r2.cell1 k (by omega)
        obtain ⟨X, hX⟩ : ∃ X, X = M.getD k 0 := ⟨_, rfl⟩
        obtain ⟨Y, hY⟩ : ∃ Y, Y = N.getD k 0 := ⟨_, rfl⟩
        rw [← hX] at e1
        rw [← hY] at e2
        have HX := Lib.hid hX
        have HY := Lib.hid hY
        have z0 : (0 : Int) ≤ (k : Int) := by omega
        have z1 : (k : Int) < (n : Int) := by omega
        clear h1 h2 r1 r2 hX hY
        by_cases hXY : X = Y
        · subst hXY
          go_wp2_with fail
          go_region
          all_goals
            (go_wp2_with fail
             go_roundw
             case rel => exact ⟨k + 1, by omega, by go_num, fun i hi => by
               rcases Nat.lt_or_ge i k with h | h
               · exact HQ.out i h
               · obtain rfl : i = k := by omega
                 rw [← HX.out, ← HY.out], hB.drew⟩
             case measure => simp [intOf]; omega)
        · have hne : (X != Y) = true := by rw [bne_iff_ne]; exact hXY
          have hRf : R = false := by
            rw [HR.out, decide_eq_false_iff_not]
            intro h
            exact hXY (by rw [HX.out, HY.out, h])
          subst hRf
          clear hXY
          go_wp2_with fail
          go_region
          all_goals
            (go_wp2_with fail
             go_ret
             exact ⟨rfl, hB.drew⟩)
      · obtain rfl : k = n := by omega
        have hRt : R = true := by
          rw [HR.out, decide_eq_true_eq]
          exact list_ext (by omega) (fun i hi => HQ.out i (by omega))
        subst hRt
        go_wp2_with fail
        go_ret
        exact ⟨rfl, hB⟩
  · have hf : decide (M = N) = false := by
      rw [decide_eq_false_iff_not]
      intro h
      exact hnm (by rw [← hn, ← hm, h])
    rw [hf]
    have z : ((n : Int) != (m : Int)) = true := by rw [bne_iff_ne]; omega
    go_enter Try.func15, Try.ntmps15
    go_wp2_with fail
    go_ret
    exact ⟨rfl, Below.refl _ _⟩
set_option maxRecDepth 100000 in
theorem bclone_any (A : Option Addr) (n cap : Nat) (M : List Int) (w : World) (h : BS w A n cap M) (hl : n ≤ 100000) :
    Calls Try.prog 17 #[.slice A n cap] w fun e w' => (∃ v, e = .returned v ∧ IsB w' w.heap.size v M) ∧ Below w.heap.size w w' := by
  obtain ⟨i0, hi0, hz0, hz1, hz2⟩ := info_parts byte_info
  rcases A with _ | ad
  · have hn : n = 0 := by
      rcases Nat.eq_zero_or_pos n with h0 | hp
      · exact h0
      · rcases h.2.1 hp with ⟨_, hM⟩ | ⟨b, off, hq, _⟩
        · have := h.1
          rw [hM] at this
          exact this.symm
        · cases hq
    subst hn
    have hM : M = [] := List.eq_nil_of_length_eq_zero h.1
    subst hM
    have hq : ∀ w : World, (binOp .eql 24 (.slice none 0 cap) (.slice none 0 0)).run Try.prog w = .ok (.bool true) w := fun w => run_eql_slice_nil w _ _ none 0 cap Try.underlying24
    clear h
    go_enter Try.func17, Try.ntmps17
    go_wp2_with fail
    go_ret
    exact ⟨⟨_, rfl, IsB.nil _ _⟩, Below.refl _ _⟩
  · have hrd := (h.later (b_alloc (Below.refl _ _) (.cells #[] 5))).reads
    have hML := h.1
    have hq : ∀ w : World, (binOp .eql 24 (.slice (some ad) n cap) (.slice none 0 0)).run Try.prog w = .ok (.bool false) w := fun w => run_eql_slice_nil w _ _ (some ad) n cap Try.underlying24
    have o0 : (w.alloc (.cells #[] 5)).ownsRow w.heap.size 5 1 (.slice (some ⟨w.heap.size, 0, none⟩) 0 0) 0 [] := World.ownsRow_lit w #[] 0 (Nat.le_refl _) (by unfold maxLen; omega) rfl
    have k1 : 0 + n ≤ maxLen := by unfold maxLen; omega
    have k2 : (0 + n) * 1 ≤ 140737488355328 := by omega
    have k3 : w.heap.size ≤ (w.alloc (.cells #[] 5)).heap.size := by simp
    have k4 : ∀ u ∈ M.map (Value.int .u8), u.oneCell' = true := bytes_one
    clear h
    go_enter Try.func17, Try.ntmps17
    go_wp2_with (first
      | (at_builtin; refine wpList_append_any _ rfl (.tmp 5) (.tmp 6) _ rfl w.heap.size 5 i0 _ 1 1 Try.underlying24 hi0 hz0 hz1 hz2 rfl (by omega) _ 0 _ rfl o0 (w.alloc (.cells #[] 5)).heap.size _ n cap (M.map (Value.int .u8)) rfl hrd k4 k1 k2 k3 ?_; intro v5 w5 o5 hg5 hat5; simp only [Nat.zero_add, List.nil_append] at o5))
    go_ret
    refine ⟨⟨_, rfl, by unfold IsB; rw [hML]; exact o5⟩, b_g (b_alloc (Below.refl _ _) _) hg5 (Nat.le_refl _)⟩
end Go.Proofs.Ytiobnhdcapfhgaa
