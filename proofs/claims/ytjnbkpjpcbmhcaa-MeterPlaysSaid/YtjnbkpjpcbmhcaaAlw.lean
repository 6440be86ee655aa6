/-
  The greatest record and what a call may append, by both texts.
-/
import Derived.Test.YtjnbkpjpcbmhcaaCfh
namespace Go.Proofs.Ytjnbkpjpcbmhcaa
open Go.RowKit

/-- the closure that Record hands to checked -/
theorem rec1_any (g : Nat) (s z r wk k v p : Int) (w : World) (hg : Blk w g 23 #[.int .i64 s, .int .i64 z, .int .i64 r, .int .i64 wk, .int .i64 k, .int .i64 v, .int .i64 p]) :
    Calls Try.prog 35 #[.pointer (some ⟨g, 0, none⟩)] w fun e w' => e = .returned (.int .i64 (wrap64 (wrap64 (16 + k) + v))) ∧ Below w.heap.size w w' := by
  have hc := hg.cell
  go_enter Try.func35, Try.ntmps35
  go_wp2_with (go_at_call 36; refine (record_any s z r wk k v p _).mono ?_; rintro e w' ⟨rfl, rfl⟩)
  go_ret
  exact ⟨rfl, by repeat first | exact Below.refl _ _ | apply Below.drew | apply b_alloc⟩

theorem recv {s z r wk k v p : Int} (h : CfgOk s z r wk k v p) : wrap64 (wrap64 (16 + k) + v) = 16 + k + v := by
  unfold CfgOk at h
  rw [w64 (n := 16 + k) (by omega) (by omega), w64 (by omega) (by omega)]

theorem Record_yes (s z r wk k v p : Int) (w : World) (h : CfgOk s z r wk k v p) :
    Calls Try.prog 22 #[.agg #[.int .i64 s, .int .i64 z, .int .i64 r, .int .i64 wk, .int .i64 k, .int .i64 v, .int .i64 p]] w fun e w' =>
      e = .returned (.tuple #[.int .i64 (16 + k + v), .int .i64 0]) ∧ Below w.heap.size w w' := by
  rw [← recv h]
  go_enter Try.func22, Try.ntmps22
  go_wp2_with (first
    | (go_at_call 44; refine (check_yes s z r wk k v p _ h).mono ?_; rintro e w1 ⟨rfl, hb1⟩; have B1 := ((Blk.new w 23 #[.int .i64 s, .int .i64 z, .int .i64 r, .int .i64 wk, .int .i64 k, .int .i64 v, .int .i64 p]).alloc (.cells #[.int .i64 s, .int .i64 z, .int .i64 r, .int .i64 wk, .int .i64 k, .int .i64 v, .int .i64 p] 23)).below hb1 (by simp; omega))
    | (go_at_call 35; refine (rec1_any w.heap.size s z r wk k v p _ B1).mono ?_; rintro e w2 ⟨rfl, hb2⟩)
    | go_in)
  go_ret2
  exact ⟨rfl, b_then (b_then (by repeat first | exact Below.refl _ _ | apply Below.drew | apply b_alloc) hb1) hb2⟩
theorem Record_no (s z r wk k v p : Int) (w : World) (h : ¬CfgOk s z r wk k v p) :
    Calls Try.prog 22 #[.agg #[.int .i64 s, .int .i64 z, .int .i64 r, .int .i64 wk, .int .i64 k, .int .i64 v, .int .i64 p]] w fun e w' =>
      e = .returned (.tuple #[.int .i64 0, .int .i64 2]) ∧ Below w.heap.size w w' := by
  go_enter Try.func22, Try.ntmps22
  go_wp2_with (first
    | (go_at_call 44; refine (check_no s z r wk k v p _ h).mono ?_; rintro e w1 ⟨rfl, hb1⟩)
    | go_in)
  go_ret2
  exact ⟨rfl, b_then (by repeat first | exact Below.refl _ _ | apply Below.drew | apply b_alloc) hb1⟩
theorem rRecord_yes (s z r wk k v p : Int) (w : World) (h : CfgOk s z r wk k v p) :
    Calls Try.prog 30 #[.agg #[.int .i64 s, .int .i64 z, .int .i64 r, .int .i64 wk, .int .i64 k, .int .i64 v, .int .i64 p]] w fun e w' =>
      e = .returned (.tuple #[.int .i64 (16 + k + v), .int .i64 0]) ∧ Below w.heap.size w w' := by
  rw [← recv h]
  go_enter Try.func30, Try.ntmps30
  go_wp2_with (go_at_call 43; refine (rcheck_yes s z r wk k v p _ h).mono ?_; rintro e w1 ⟨rfl, hb1⟩; have B1 := ((Blk.new w 23 #[.int .i64 s, .int .i64 z, .int .i64 r, .int .i64 wk, .int .i64 k, .int .i64 v, .int .i64 p]).below hb1 (by simp)).cell)
  go_ret2
  exact ⟨rfl, b_then (by repeat first | exact Below.refl _ _ | apply Below.drew | apply b_alloc) hb1⟩
theorem rRecord_no (s z r wk k v p : Int) (w : World) (h : ¬CfgOk s z r wk k v p) :
    Calls Try.prog 30 #[.agg #[.int .i64 s, .int .i64 z, .int .i64 r, .int .i64 wk, .int .i64 k, .int .i64 v, .int .i64 p]] w fun e w' =>
      e = .returned (.tuple #[.int .i64 0, .int .i64 2]) ∧ Below w.heap.size w w' := by
  go_enter Try.func30, Try.ntmps30
  go_wp2_with (go_at_call 43; refine (rcheck_no s z r wk k v p _ h).mono ?_; rintro e w1 ⟨rfl, hb1⟩)
  go_ret2
  exact ⟨rfl, b_then (by repeat first | exact Below.refl _ _ | apply Below.drew | apply b_alloc) hb1⟩
theorem Allowed_yes (s z r wk k v p : Int) (w : World) (h : CfgOk s z r wk k v p) :
    Calls Try.prog 10 #[.agg #[.int .i64 s, .int .i64 z, .int .i64 r, .int .i64 wk, .int .i64 k, .int .i64 v, .int .i64 p]] w fun e w' =>
      e = .returned (.tuple #[.int .i64 (wk + (16 + k + v) + 16), .int .i64 0]) ∧ Below w.heap.size w w' := by
  obtain ⟨_, _, _, _, hk1, hk2, hv1, hv2, _, _, hw1, hw2, _, _⟩ := id h
  go_enter Try.func10, Try.ntmps10
  go_wp2_with (go_at_call 22; refine (Record_yes s z r wk k v p _ h).mono ?_; rintro e w1 ⟨rfl, hb1⟩; have B1 := ((Blk.new w 23 #[.int .i64 s, .int .i64 z, .int .i64 r, .int .i64 wk, .int .i64 k, .int .i64 v, .int .i64 p]).below hb1 (by simp)).cell)
  go_ret2
  exact ⟨rfl, b_then (by repeat first | exact Below.refl _ _ | apply Below.drew | apply b_alloc) hb1⟩
theorem Allowed_no (s z r wk k v p : Int) (w : World) (h : ¬CfgOk s z r wk k v p) :
    Calls Try.prog 10 #[.agg #[.int .i64 s, .int .i64 z, .int .i64 r, .int .i64 wk, .int .i64 k, .int .i64 v, .int .i64 p]] w fun e w' =>
      e = .returned (.tuple #[.int .i64 0, .int .i64 2]) ∧ Below w.heap.size w w' := by
  go_enter Try.func10, Try.ntmps10
  go_wp2_with (go_at_call 22; refine (Record_no s z r wk k v p _ h).mono ?_; rintro e w1 ⟨rfl, hb1⟩)
  go_ret2
  exact ⟨rfl, b_then (by repeat first | exact Below.refl _ _ | apply Below.drew | apply b_alloc) hb1⟩
theorem rAllowed_yes (s z r wk k v p : Int) (w : World) (h : CfgOk s z r wk k v p) :
    Calls Try.prog 11 #[.agg #[.int .i64 s, .int .i64 z, .int .i64 r, .int .i64 wk, .int .i64 k, .int .i64 v, .int .i64 p]] w fun e w' =>
      e = .returned (.tuple #[.int .i64 (wk + (16 + k + v) + 16), .int .i64 0]) ∧ Below w.heap.size w w' := by
  obtain ⟨_, _, _, _, hk1, hk2, hv1, hv2, _, _, hw1, hw2, _, _⟩ := id h
  go_enter Try.func11, Try.ntmps11
  go_wp2_with (go_at_call 30; refine (rRecord_yes s z r wk k v p _ h).mono ?_; rintro e w1 ⟨rfl, hb1⟩; have B1 := ((Blk.new w 23 #[.int .i64 s, .int .i64 z, .int .i64 r, .int .i64 wk, .int .i64 k, .int .i64 v, .int .i64 p]).below hb1 (by simp)).cell)
  go_ret2
  exact ⟨rfl, b_then (by repeat first | exact Below.refl _ _ | apply Below.drew | apply b_alloc) hb1⟩
theorem rAllowed_no (s z r wk k v p : Int) (w : World) (h : ¬CfgOk s z r wk k v p) :
    Calls Try.prog 11 #[.agg #[.int .i64 s, .int .i64 z, .int .i64 r, .int .i64 wk, .int .i64 k, .int .i64 v, .int .i64 p]] w fun e w' =>
      e = .returned (.tuple #[.int .i64 0, .int .i64 2]) ∧ Below w.heap.size w w' := by
  go_enter Try.func11, Try.ntmps11
  go_wp2_with (go_at_call 30; refine (rRecord_no s z r wk k v p _ h).mono ?_; rintro e w1 ⟨rfl, hb1⟩)
  go_ret2
  exact ⟨rfl, b_then (by repeat first | exact Below.refl _ _ | apply Below.drew | apply b_alloc) hb1⟩
end Go.Proofs.Ytjnbkpjpcbmhcaa
