/-
  A move on a list of integers.
-/
import Derived.Test.YtohnoioblhkepaaHi
namespace Go.Proofs.Ytohnoioblhkepaa.Hi
open Go.RowKit
set_option linter.unusedVariables false
set_option linter.unusedSimpArgs false

/-- what a move leaves: how many elements are marked, and the elements -/
def mv (most : Nat) (k N : Nat) (m : Nat) (xs : List Int) : Nat × List Int :=
  if k % 8 = 5 then (xs.length, xs) else if k % 8 = 6 then (m, xs.take (m + N % (xs.length - m + 1)))
  else if k % 8 = 7 then (if N % 4 = 0 then (0, []) else (m, xs)) else if xs.length < most then (m, xs ++ [(N : Int)]) else (m, xs)
theorem mv_ok {most k N m : Nat} {xs : List Int} (h1 : m ≤ xs.length) (h2 : xs.length ≤ most) : (mv most k N m xs).1 ≤ (mv most k N m xs).2.length ∧ (mv most k N m xs).2.length ≤ most := by
  unfold mv
  split
  · exact ⟨Nat.le_refl _, h2⟩
  · split
    · have : N % (xs.length - m + 1) < xs.length - m + 1 := Nat.mod_lt _ (by omega)
      simp
      omega
    · split
      · split
        · simp
        · exact ⟨h1, h2⟩
      · split
        · simp; omega
        · exact ⟨h1, h2⟩
theorem Is.keptI {a w w' : World} {B b most m n cap : Nat} {A : Option Addr} {xs : List Int} (h : Is w B b most m A n cap xs) (hW : Below a.heap.size a w) (hab : a.heap.size ≤ B) (hBb : B ≤ b) (hO : Only b (rowOf A) w w') : Below a.heap.size a w' :=
  Only.below hW hO hW.size (by omega) (fun j hj => by have := (own_row h.own j hj).1; omega)
/-- what becomes of the list -/
def Mvd (w : World) (B b most m' : Nat) (A : Option Addr) (xs' : List Int) (e : Ending) (w' : World) : Prop :=
  ∃ A' cap', e = .returned (.bool true) ∧ Is w' B b most m' A' xs'.length cap' xs' ∧ Only b (rowOf A) w w' ∧ NewRow w (rowOf A) (rowOf A')
section
variable (B b most m n cap k N : Nat) (A : Option Addr) (xs : List Int) (w : World)
set_option maxHeartbeats 1600000 in
set_option maxRecDepth 100000 in
theorem mvd_mark (h : Is w B b most m A n cap xs) (hk : k ≤ 255) (hN : N ≤ 65535) (hm : m ≤ n) (hn : n ≤ most) (hmost : most ≤ 100000) (hBw : B ≤ w.heap.size) (hc : k % 8 = 5) :
    Calls Try.prog 11 #[.agg #[.int .u8 k, .int .u16 N], .pointer (some ⟨b, 0, none⟩), .int .i64 most] w (Mvd w B b most n A xs) := by
  have hln := Lib.hid h.len
  have h1 := h.alloc (.cells #[.int .u8 k, .int .u16 N] 30)
  have hOn : Only b (rowOf A) w (w.alloc (.cells #[.int .u8 k, .int .u16 N] 30)) := Only.of_below (b_alloc (Below.refl _ _) _) _ _
  have hNr : ∀ r', NewRow (w.alloc (.cells #[.int .u8 k, .int .u16 N] 30)) (rowOf A) r' → NewRow w (rowOf A) r' := fun r' hr => (NewRow.refl w (rowOf A)).trans hr (by simp)
  have hX := Blk.new w 30 #[.int .u8 k, .int .u16 N]
  have hsz : w.heap.size < (w.alloc (.cells #[.int .u8 k, .int .u16 N] 30)).heap.size := by simp
  have hbl := h.lt
  have z0 : (0 : Int) ≤ (k : Int) := by omega
  have z1 : (k : Int) ≤ 255 := by omega
  have z2 : (0 : Int) ≤ (N : Int) := by omega
  have z3 : (N : Int) ≤ 65535 := by omega
  have y1 : ((k : Int) % 8 == 5) = true := by rw [beq_iff_eq]; omega
  clear hc
  go_enter Try.func11, Try.ntmps11
  go_wp2_with fail
  refine (Len_any B b most m n cap A xs _ h1).mono ?_
  rintro e w' ⟨rfl, rfl⟩
  go_wp2_with fail
  refine (Mark_any B b most m n cap A xs _ h1).mono ?_
  rintro e w2 ⟨rfl, h2, hO2⟩
  have hOO := hOn.trans hO2 (.inl rfl)
  clear h1 hO2
  go_wp2_with fail
  refine (Marked_any B b most n n cap A xs _ h2).mono ?_
  rintro e w' ⟨rfl, rfl⟩
  go_wp2_with fail
  refine (Len_any B b most n n cap A xs _ h2).mono ?_
  rintro e w' ⟨rfl, rfl⟩
  go_wp2_with fail
  go_ret
  exact ⟨A, cap, rfl, by rw [hln.out]; exact h2, hOO, .inl rfl⟩

set_option maxHeartbeats 1600000 in
set_option maxRecDepth 100000 in
theorem mvd_clear (h : Is w B b most m A n cap xs) (hk : k ≤ 255) (hN : N ≤ 65535) (hm : m ≤ n) (hn : n ≤ most) (hmost : most ≤ 100000) (hBw : B ≤ w.heap.size) (hc : k % 8 = 7) (hN4 : N % 4 = 0) :
    Calls Try.prog 11 #[.agg #[.int .u8 k, .int .u16 N], .pointer (some ⟨b, 0, none⟩), .int .i64 most] w (Mvd w B b most 0 A []) := by
  have hln := Lib.hid h.len
  have h1 := h.alloc (.cells #[.int .u8 k, .int .u16 N] 30)
  have hOn : Only b (rowOf A) w (w.alloc (.cells #[.int .u8 k, .int .u16 N] 30)) := Only.of_below (b_alloc (Below.refl _ _) _) _ _
  have hNr : ∀ r', NewRow (w.alloc (.cells #[.int .u8 k, .int .u16 N] 30)) (rowOf A) r' → NewRow w (rowOf A) r' := fun r' hr => (NewRow.refl w (rowOf A)).trans hr (by simp)
  have hX := Blk.new w 30 #[.int .u8 k, .int .u16 N]
  have hsz : w.heap.size < (w.alloc (.cells #[.int .u8 k, .int .u16 N] 30)).heap.size := by simp
  have hbl := h.lt
  have z0 : (0 : Int) ≤ (k : Int) := by omega
  have z1 : (k : Int) ≤ 255 := by omega
  have z2 : (0 : Int) ≤ (N : Int) := by omega
  have z3 : (N : Int) ≤ 65535 := by omega
  have y0 : ((k : Int) % 8 == 5) = false := by rw [beq_eq_false_iff_ne]; omega
  have y2 : ((k : Int) % 8 == 6) = false := by rw [beq_eq_false_iff_ne]; omega
  have y1 : ((k : Int) % 8 == 7) = true := by rw [beq_iff_eq]; omega
  have y3 : ((N : Int) % 4 == 0) = true := by rw [beq_iff_eq]; omega
  have cX := hX.cell
  clear hc hN4
  go_enter Try.func11, Try.ntmps11
  go_wp2_with fail
  refine (Len_any B b most m n cap A xs _ h1).mono ?_
  rintro e w' ⟨rfl, rfl⟩
  go_wp2_with fail
  refine (Clear_any B b most m n cap A xs _ h1).mono ?_
  rintro e w2 ⟨rfl, h2, hO2⟩
  have hOO := hOn.trans hO2 (.inl rfl)
  clear h1 hO2 cX
  go_wp2_with fail
  refine (Len_any B b most 0 0 0 none [] _ h2).mono ?_
  rintro e w' ⟨rfl, rfl⟩
  go_wp2_with fail
  refine (Marked_any B b most 0 0 0 none [] _ h2).mono ?_
  rintro e w' ⟨rfl, rfl⟩
  go_wp2_with fail
  go_ret
  exact ⟨none, 0, rfl, h2, hOO, NewRow.none⟩

set_option maxHeartbeats 1600000 in
set_option maxRecDepth 100000 in
theorem mvd_keep (h : Is w B b most m A n cap xs) (hk : k ≤ 255) (hN : N ≤ 65535) (hm : m ≤ n) (hn : n ≤ most) (hmost : most ≤ 100000) (hBw : B ≤ w.heap.size) (hc : k % 8 = 7) (hN4 : ¬ N % 4 = 0) :
    Calls Try.prog 11 #[.agg #[.int .u8 k, .int .u16 N], .pointer (some ⟨b, 0, none⟩), .int .i64 most] w (Mvd w B b most m A xs) := by
  have hln := Lib.hid h.len
  have h1 := h.alloc (.cells #[.int .u8 k, .int .u16 N] 30)
  have hOn : Only b (rowOf A) w (w.alloc (.cells #[.int .u8 k, .int .u16 N] 30)) := Only.of_below (b_alloc (Below.refl _ _) _) _ _
  have hNr : ∀ r', NewRow (w.alloc (.cells #[.int .u8 k, .int .u16 N] 30)) (rowOf A) r' → NewRow w (rowOf A) r' := fun r' hr => (NewRow.refl w (rowOf A)).trans hr (by simp)
  have hX := Blk.new w 30 #[.int .u8 k, .int .u16 N]
  have hsz : w.heap.size < (w.alloc (.cells #[.int .u8 k, .int .u16 N] 30)).heap.size := by simp
  have hbl := h.lt
  have z0 : (0 : Int) ≤ (k : Int) := by omega
  have z1 : (k : Int) ≤ 255 := by omega
  have z2 : (0 : Int) ≤ (N : Int) := by omega
  have z3 : (N : Int) ≤ 65535 := by omega
  have y0 : ((k : Int) % 8 == 5) = false := by rw [beq_eq_false_iff_ne]; omega
  have y2 : ((k : Int) % 8 == 6) = false := by rw [beq_eq_false_iff_ne]; omega
  have y1 : ((k : Int) % 8 == 7) = true := by rw [beq_iff_eq]; omega
  have y3 : ((N : Int) % 4 == 0) = false := by rw [beq_eq_false_iff_ne]; omega
  have cX := hX.cell
  clear hc hN4
  go_enter Try.func11, Try.ntmps11
  go_wp2_with fail
  refine (Len_any B b most m n cap A xs _ h1).mono ?_
  rintro e w' ⟨rfl, rfl⟩
  go_wp2_with fail
  go_ret
  exact ⟨A, cap, rfl, by rw [hln.out]; exact h1, hOn, .inl rfl⟩

set_option maxHeartbeats 1600000 in
set_option maxRecDepth 100000 in
theorem mvd_cut (h : Is w B b most m A n cap xs) (hk : k ≤ 255) (hN : N ≤ 65535) (hm : m ≤ n) (hn : n ≤ most) (hmost : most ≤ 100000) (hBw : B ≤ w.heap.size) (hc : k % 8 = 6) :
    Calls Try.prog 11 #[.agg #[.int .u8 k, .int .u16 N], .pointer (some ⟨b, 0, none⟩), .int .i64 most] w (Mvd w B b most m A (xs.take (m + N % (n - m + 1)))) := by
  have hln := Lib.hid h.len
  have h1 := h.alloc (.cells #[.int .u8 k, .int .u16 N] 30)
  have hOn : Only b (rowOf A) w (w.alloc (.cells #[.int .u8 k, .int .u16 N] 30)) := Only.of_below (b_alloc (Below.refl _ _) _) _ _
  have hNr : ∀ r', NewRow (w.alloc (.cells #[.int .u8 k, .int .u16 N] 30)) (rowOf A) r' → NewRow w (rowOf A) r' := fun r' hr => (NewRow.refl w (rowOf A)).trans hr (by simp)
  have hX := Blk.new w 30 #[.int .u8 k, .int .u16 N]
  have hsz : w.heap.size < (w.alloc (.cells #[.int .u8 k, .int .u16 N] 30)).heap.size := by simp
  have hbl := h.lt
  have z0 : (0 : Int) ≤ (k : Int) := by omega
  have z1 : (k : Int) ≤ 255 := by omega
  have z2 : (0 : Int) ≤ (N : Int) := by omega
  have z3 : (N : Int) ≤ 65535 := by omega
  have y0 : ((k : Int) % 8 == 5) = false := by rw [beq_eq_false_iff_ne]; omega
  have y1 : ((k : Int) % 8 == 6) = true := by rw [beq_iff_eq]; omega
  have cX := hX.cell
  obtain ⟨q, hq⟩ : ∃ q, q = N % (n - m + 1) := ⟨_, rfl⟩
  have hql : q < n - m + 1 := by rw [hq]; exact Nat.mod_lt _ (by omega)
  have y3 : (N : Int) % ((n : Int) - (m : Int) + 1) = (q : Int) := by rw [hq]; have e : (n : Int) - (m : Int) + 1 = ((n - m + 1 : Nat) : Int) := by omega
                                                                      rw [e]; exact (Int.natCast_emod _ _).symm
  have y4 : (m : Int) ≤ (n : Int) := by omega
  have y5 : (n : Int) ≤ 100000 := by omega
  rw [← hq]
  obtain ⟨i, hi⟩ : ∃ i, i = m + q := ⟨_, rfl⟩
  rw [← hi]
  have y6 : (m : Int) + (q : Int) = (i : Int) := by omega
  have him : m ≤ i := by omega
  have hin : i ≤ n := by omega
  clear hc hq hi
  go_enter Try.func11, Try.ntmps11
  go_wp2_with fail
  refine (Len_any B b most m n cap A xs _ h1).mono ?_
  rintro e w' ⟨rfl, rfl⟩
  go_wp2_with fail
  refine (Marked_any B b most m n cap A xs _ h1).mono ?_
  rintro e w' ⟨rfl, rfl⟩
  go_wp2_with fail
  refine (Len_any B b most m n cap A xs _ h1).mono ?_
  rintro e w' ⟨rfl, rfl⟩
  go_wp2_with fail
  refine (Cut_ok B b most m n cap A xs _ h1 i him hin).mono ?_
  rintro e w2 ⟨rfl, h2, hO2⟩
  have hOO := hOn.trans hO2 (.inl rfl)
  clear h1 hO2 cX
  go_wp2_with fail
  refine (Len_any B b most m i cap A _ _ h2).mono ?_
  rintro e w' ⟨rfl, rfl⟩
  go_wp2_with fail
  refine (Marked_any B b most m i cap A _ _ h2).mono ?_
  rintro e w' ⟨rfl, rfl⟩
  go_wp2_with fail
  go_ret
  exact ⟨A, cap, rfl, by rw [h2.len]; exact h2, hOO, .inl rfl⟩

set_option maxHeartbeats 1600000 in
set_option maxRecDepth 100000 in
theorem mvd_add (h : Is w B b most m A n cap xs) (hk : k ≤ 255) (hN : N ≤ 65535) (hm : m ≤ n) (hn : n ≤ most) (hmost : most ≤ 100000) (hBw : B ≤ w.heap.size) (h5 : k % 8 ≠ 5) (h6 : k % 8 ≠ 6) (h7 : k % 8 ≠ 7) (hlt : n < most) :
    Calls Try.prog 11 #[.agg #[.int .u8 k, .int .u16 N], .pointer (some ⟨b, 0, none⟩), .int .i64 most] w (Mvd w B b most m A (xs ++ [(N : Int)])) := by
  have hln := Lib.hid h.len
  have h1 := h.alloc (.cells #[.int .u8 k, .int .u16 N] 30)
  have hOn : Only b (rowOf A) w (w.alloc (.cells #[.int .u8 k, .int .u16 N] 30)) := Only.of_below (b_alloc (Below.refl _ _) _) _ _
  have hNr : ∀ r', NewRow (w.alloc (.cells #[.int .u8 k, .int .u16 N] 30)) (rowOf A) r' → NewRow w (rowOf A) r' := fun r' hr => (NewRow.refl w (rowOf A)).trans hr (by simp)
  have hX := Blk.new w 30 #[.int .u8 k, .int .u16 N]
  have hsz : w.heap.size < (w.alloc (.cells #[.int .u8 k, .int .u16 N] 30)).heap.size := by simp
  have hbl := h.lt
  have z0 : (0 : Int) ≤ (k : Int) := by omega
  have z1 : (k : Int) ≤ 255 := by omega
  have z2 : (0 : Int) ≤ (N : Int) := by omega
  have z3 : (N : Int) ≤ 65535 := by omega
  have y0 : ((k : Int) % 8 == 5) = false := by rw [beq_eq_false_iff_ne]; omega
  have y1 : ((k : Int) % 8 == 6) = false := by rw [beq_eq_false_iff_ne]; omega
  have y2 : ((k : Int) % 8 == 7) = false := by rw [beq_eq_false_iff_ne]; omega
  have cX := hX.cell
  have y4 : decide (most ≤ n) = false := by rw [decide_eq_false_iff_not]; omega
  have y5 : (n : Int) < (most : Int) := by omega
  clear h5 h6 h7
  go_enter Try.func11, Try.ntmps11
  go_wp2_with fail
  refine (Len_any B b most m n cap A xs _ h1).mono ?_
  rintro e w' ⟨rfl, rfl⟩
  go_wp2_with fail
  refine (Add_ok B b most m n cap A xs _ h1 (N : Int) hlt hmost (by simp; omega)).mono ?_
  rintro e w2 ⟨A', cap', rfl, h2, hO2, hr2⟩
  have hOO := hOn.trans hO2 (.inl rfl)
  clear h1 hO2 cX
  go_wp2_with fail
  go_ret
  exact ⟨A', cap', rfl, by rw [List.length_append, hln.out]; exact h2, hOO, hNr _ hr2⟩

set_option maxHeartbeats 1600000 in
set_option maxRecDepth 100000 in
theorem mvd_full (h : Is w B b most m A n cap xs) (hk : k ≤ 255) (hN : N ≤ 65535) (hm : m ≤ n) (hn : n ≤ most) (hmost : most ≤ 100000) (hBw : B ≤ w.heap.size) (h5 : k % 8 ≠ 5) (h6 : k % 8 ≠ 6) (h7 : k % 8 ≠ 7) (hge : most ≤ n) :
    Calls Try.prog 11 #[.agg #[.int .u8 k, .int .u16 N], .pointer (some ⟨b, 0, none⟩), .int .i64 most] w (Mvd w B b most m A xs) := by
  have hln := Lib.hid h.len
  have h1 := h.alloc (.cells #[.int .u8 k, .int .u16 N] 30)
  have hOn : Only b (rowOf A) w (w.alloc (.cells #[.int .u8 k, .int .u16 N] 30)) := Only.of_below (b_alloc (Below.refl _ _) _) _ _
  have hNr : ∀ r', NewRow (w.alloc (.cells #[.int .u8 k, .int .u16 N] 30)) (rowOf A) r' → NewRow w (rowOf A) r' := fun r' hr => (NewRow.refl w (rowOf A)).trans hr (by simp)
  have hX := Blk.new w 30 #[.int .u8 k, .int .u16 N]
  have hsz : w.heap.size < (w.alloc (.cells #[.int .u8 k, .int .u16 N] 30)).heap.size := by simp
  have hbl := h.lt
  have z0 : (0 : Int) ≤ (k : Int) := by omega
  have z1 : (k : Int) ≤ 255 := by omega
  have z2 : (0 : Int) ≤ (N : Int) := by omega
  have z3 : (N : Int) ≤ 65535 := by omega
  have y0 : ((k : Int) % 8 == 5) = false := by rw [beq_eq_false_iff_ne]; omega
  have y1 : ((k : Int) % 8 == 6) = false := by rw [beq_eq_false_iff_ne]; omega
  have y2 : ((k : Int) % 8 == 7) = false := by rw [beq_eq_false_iff_ne]; omega
  have cX := hX.cell
  have y4 : decide (most ≤ n) = true := by rw [decide_eq_true_eq]; omega
  have y5 : (most : Int) ≤ (n : Int) := by omega
  clear h5 h6 h7
  go_enter Try.func11, Try.ntmps11
  go_wp2_with fail
  refine (Len_any B b most m n cap A xs _ h1).mono ?_
  rintro e w' ⟨rfl, rfl⟩
  go_wp2_with fail
  refine (Add_full B b most m n cap A xs _ h1 (N : Int) hge).mono ?_
  rintro e w2 ⟨rfl, hb2⟩
  have hOO := hOn.then_below hb2
  have h2 := h1.later hb2
  clear h1 hb2 cX
  go_wp2_with fail
  go_ret
  exact ⟨A, cap, rfl, by rw [hln.out]; exact h2, hOO, .inl rfl⟩


/-- a move does what 'mv' says -/
theorem moved_any (h : Is w B b most m A n cap xs) (hk : k ≤ 255) (hN : N ≤ 65535) (hm : m ≤ n) (hn : n ≤ most) (hmost : most ≤ 100000) (hBw : B ≤ w.heap.size) :
    Calls Try.prog 11 #[.agg #[.int .u8 k, .int .u16 N], .pointer (some ⟨b, 0, none⟩), .int .i64 most] w (Mvd w B b most (mv most k N m xs).1 A (mv most k N m xs).2) := by
  have hln := h.len
  unfold mv
  by_cases h5 : k % 8 = 5
  · rw [if_pos h5, hln]
    exact mvd_mark B b most m n cap k N A xs w h hk hN hm hn hmost hBw h5
  · rw [if_neg h5]
    by_cases h6 : k % 8 = 6
    · rw [if_pos h6, hln]
      exact mvd_cut B b most m n cap k N A xs w h hk hN hm hn hmost hBw h6
    · rw [if_neg h6]
      by_cases h7 : k % 8 = 7
      · rw [if_pos h7]
        by_cases h4 : N % 4 = 0
        · rw [if_pos h4]
          exact mvd_clear B b most m n cap k N A xs w h hk hN hm hn hmost hBw h7 h4
        · rw [if_neg h4]
          exact mvd_keep B b most m n cap k N A xs w h hk hN hm hn hmost hBw h7 h4
      · rw [if_neg h7, hln]
        by_cases hlt : n < most
        · rw [if_pos hlt]
          exact mvd_add B b most m n cap k N A xs w h hk hN hm hn hmost hBw h5 h6 h7 hlt
        · rw [if_neg hlt]
          exact mvd_full B b most m n cap k N A xs w h hk hN hm hn hmost hBw h5 h6 h7 (by omega)
end
end Go.Proofs.Ytohnoioblhkepaa.Hi
