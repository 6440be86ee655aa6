/-
  Which updates are accepted: the walks.
-/
import Derived.Test.YtkicciinneffcaaPut0
namespace Go.Proofs.Ytkicciinneffcaa
open Go.RowKit
set_option linter.unusedVariables false

set_option maxHeartbeats 6400000 in
theorem put_E (s z r wk k v p cost old : Int) (key val : ByteArray) (w : World) (hk : key.size ≤ maxLen) (hv : val.size ≤ maxLen) (q : Int) (hq : aChk s z r wk k v p key val = q) (hq0 : q ≠ 0) :
    Calls Try.prog 17 #[.agg #[.int .i64 s, .int .i64 z, .int .i64 r, .int .i64 wk, .int .i64 k, .int .i64 v, .int .i64 p], .int .i64 cost, .int .i64 old, .string key, .string val] w fun e w' => e = .returned (.int .i64 q) ∧ Below w.heap.size w w' := by
  have hL := Lim_any s z r wk k v p
  have hP := fun (w' : World) h1 h2 h3 => put1_any w.heap.size (w.heap.size + 1 + 1 + 1) (w.heap.size + 1 + 1 + 1 + 1) s z r wk k v p key val w' hk hv h1 h2 h3
  rw [hq] at hP
  clear hq
  have n1 : (q == 0) = false := by simpa using hq0
  have n2 : (q != 0) = true := by simpa using hq0
  clear hq0
  go_enter Try.func17, Try.ntmps17
  go_wp2_with fail
  refine (hL _).mono ?_
  rintro e w1 ⟨⟨L, e0, rfl, hLL⟩, hb1⟩
  have hY1 : Below w.heap.size w w1 := b_then (by repeat first | exact Below.refl _ _ | apply Below.drew | apply b_alloc) hb1
  have hC1 : Blk w1 (w.heap.size) 23 #[.int .i64 s, .int .i64 z, .int .i64 r, .int .i64 wk, .int .i64 k, .int .i64 v, .int .i64 p] := (hb1.block _ (by simp <;> omega)).trans (by repeat (first | ((with_reducible refine alloc_here' ?_); (simp; done)) | (with_reducible apply alloc_old') | (with_reducible apply drew_old)))
  have hO1 : Blk w1 (w.heap.size + 1) 3 #[.int .i64 cost] := (hb1.block _ (by simp <;> omega)).trans (by repeat (first | ((with_reducible refine alloc_here' ?_); (simp; done)) | (with_reducible apply alloc_old') | (with_reducible apply drew_old)))
  have hP1 : Blk w1 (w.heap.size + 1 + 1) 3 #[.int .i64 old] := (hb1.block _ (by simp <;> omega)).trans (by repeat (first | ((with_reducible refine alloc_here' ?_); (simp; done)) | (with_reducible apply alloc_old') | (with_reducible apply drew_old)))
  have hK1 : Blk w1 (w.heap.size + 1 + 1 + 1) 9 #[.string key] := (hb1.block _ (by simp <;> omega)).trans (by repeat (first | ((with_reducible refine alloc_here' ?_); (simp; done)) | (with_reducible apply alloc_old') | (with_reducible apply drew_old)))
  have hV1 : Blk w1 (w.heap.size + 1 + 1 + 1 + 1) 9 #[.string val] := (hb1.block _ (by simp <;> omega)).trans (by repeat (first | ((with_reducible refine alloc_here' ?_); (simp; done)) | (with_reducible apply alloc_old') | (with_reducible apply drew_old)))
  have bel1 := hY1
  clear hb1
  have cC := hC1.cell
  have lC := hC1.lt
  have cO := hO1.cell
  have lO := hO1.lt
  have cP := hP1.cell
  have lP := hP1.lt
  have cK := hK1.cell
  have lK := hK1.lt
  have cV := hV1.cell
  have lV := hV1.lt
  clear hLL
  have hcond : (cost < 0) ∨ (0 ≤ cost ∧ L < cost) ∨ (0 ≤ cost ∧ cost ≤ L ∧ old < 0) ∨ (0 ≤ cost ∧ cost ≤ L ∧ 0 ≤ old ∧ cost < old) ∨ (0 ≤ cost ∧ cost ≤ L ∧ 0 ≤ old ∧ old ≤ cost) := by omega
  rcases hcond with h1 | h1 | h1 | h1 | h1
  · have c1 : decide (0 ≤ cost) = false := decide_eq_false (by omega)
    clear h1
    go_wp2_with (first | (go_at_call 26; refine (must_any _ _ _).mono ?_; rintro e w' ⟨rfl, rfl⟩) | go_in)
    refine wp_loop_rounds 4 ?_
    rw [rounds_succ]
    go_wp2_with fail
    refine (hP _ (by have hh := hC1; unfold Blk at hh ⊢; repeat (first | (with_reducible exact hh) | (with_reducible apply alloc_old') | (with_reducible apply drew_old))) (by have hh := hK1; unfold Blk at hh ⊢; repeat (first | (with_reducible exact hh) | (with_reducible apply alloc_old') | (with_reducible apply drew_old))) (by have hh := hV1; unfold Blk at hh ⊢; repeat (first | (with_reducible exact hh) | (with_reducible apply alloc_old') | (with_reducible apply drew_old)))).mono ?_
    rintro e w2 ⟨rfl, hb2⟩
    have hY2 : Below w1.heap.size w1 w2 := b_then (by repeat first | exact Below.refl _ _ | apply Below.drew | apply b_alloc) hb2
    have hC2 := hC1.below hY2 hC1.lt
    have hO2 := hO1.below hY2 hO1.lt
    have hP2 := hP1.below hY2 hP1.lt
    have hK2 := hK1.below hY2 hK1.lt
    have hV2 := hV1.below hY2 hV1.lt
    have hL2 : Blk w2 (w1.heap.size) 3 #[.int .i64 L] := (hb2.block _ (by simp <;> omega)).trans (by repeat (first | ((with_reducible refine alloc_here' ?_); (simp; done)) | (with_reducible apply alloc_old') | (with_reducible apply drew_old)))
    have hB2 : Blk w2 (w1.heap.size + 1) 4 #[.bool false] := (hb2.block _ (by simp <;> omega)).trans (by repeat (first | ((with_reducible refine alloc_here' ?_); (simp; done)) | (with_reducible apply alloc_old') | (with_reducible apply drew_old)))
    have hE2 : Blk w2 (w1.heap.size + 1 + 1) 25 #[.int .i64 2] := (hb2.block _ (by simp <;> omega)).trans (by repeat (first | ((with_reducible refine alloc_here' ?_); (simp; done)) | (with_reducible apply alloc_old') | (with_reducible apply drew_old)))
    have hF2 : Blk w2 (w1.heap.size + 1 + 1 + 1) 48 #[.func (.func 37) #[] #[.pointer (some ⟨w.heap.size, 0, none⟩), .pointer (some ⟨w.heap.size + 1 + 1 + 1, 0, none⟩), .pointer (some ⟨w.heap.size + 1 + 1 + 1 + 1, 0, none⟩)], .func (.func 42) #[] #[.pointer (some ⟨w1.heap.size + 1, 0, none⟩), .pointer (some ⟨w1.heap.size + 1 + 1, 0, none⟩)], .func (.func 38) #[] #[.pointer (some ⟨w.heap.size + 1, 0, none⟩), .pointer (some ⟨w.heap.size + 1 + 1, 0, none⟩), .pointer (some ⟨w.heap.size + 1 + 1 + 1, 0, none⟩), .pointer (some ⟨w.heap.size + 1 + 1 + 1 + 1, 0, none⟩), .pointer (some ⟨w1.heap.size, 0, none⟩)]] := (hb2.block _ (by simp <;> omega)).trans (by repeat (first | ((with_reducible refine alloc_here' ?_); (simp; done)) | (with_reducible apply alloc_old') | (with_reducible apply drew_old)))
    have bel2 := b_then bel1 hY2
    clear hC1 hO1 hP1 hK1 hV1 bel1 hb2 cC lC cO lO cP lP cK lK cV lV hY2
    have cC := hC2.cell
    have lC := hC2.lt
    have cO := hO2.cell
    have lO := hO2.lt
    have cP := hP2.cell
    have lP := hP2.lt
    have cK := hK2.cell
    have lK := hK2.lt
    have cV := hV2.cell
    have lV := hV2.lt
    have cL := hL2.cell
    have lL := hL2.lt
    have cB := hB2.cell
    have lB := hB2.lt
    have cE := hE2.cell
    have lE := hE2.lt
    have cF := hF2.cell
    have lF := hF2.lt
    go_wp2_with fail
    go_ret
    exact ⟨rfl, bel2⟩
  · have c1 := h1.1
    have c2 : decide (cost ≤ L) = false := decide_eq_false (by omega)
    clear h1
    go_wp2_with (first | (go_at_call 26; refine (must_any _ _ _).mono ?_; rintro e w' ⟨rfl, rfl⟩) | go_in)
    refine wp_loop_rounds 4 ?_
    rw [rounds_succ]
    go_wp2_with fail
    refine (hP _ (by have hh := hC1; unfold Blk at hh ⊢; repeat (first | (with_reducible exact hh) | (with_reducible apply alloc_old') | (with_reducible apply drew_old))) (by have hh := hK1; unfold Blk at hh ⊢; repeat (first | (with_reducible exact hh) | (with_reducible apply alloc_old') | (with_reducible apply drew_old))) (by have hh := hV1; unfold Blk at hh ⊢; repeat (first | (with_reducible exact hh) | (with_reducible apply alloc_old') | (with_reducible apply drew_old)))).mono ?_
    rintro e w2 ⟨rfl, hb2⟩
    have hY2 : Below w1.heap.size w1 w2 := b_then (by repeat first | exact Below.refl _ _ | apply Below.drew | apply b_alloc) hb2
    have hC2 := hC1.below hY2 hC1.lt
    have hO2 := hO1.below hY2 hO1.lt
    have hP2 := hP1.below hY2 hP1.lt
    have hK2 := hK1.below hY2 hK1.lt
    have hV2 := hV1.below hY2 hV1.lt
    have hL2 : Blk w2 (w1.heap.size) 3 #[.int .i64 L] := (hb2.block _ (by simp <;> omega)).trans (by repeat (first | ((with_reducible refine alloc_here' ?_); (simp; done)) | (with_reducible apply alloc_old') | (with_reducible apply drew_old)))
    have hB2 : Blk w2 (w1.heap.size + 1) 4 #[.bool false] := (hb2.block _ (by simp <;> omega)).trans (by repeat (first | ((with_reducible refine alloc_here' ?_); (simp; done)) | (with_reducible apply alloc_old') | (with_reducible apply drew_old)))
    have hE2 : Blk w2 (w1.heap.size + 1 + 1) 25 #[.int .i64 2] := (hb2.block _ (by simp <;> omega)).trans (by repeat (first | ((with_reducible refine alloc_here' ?_); (simp; done)) | (with_reducible apply alloc_old') | (with_reducible apply drew_old)))
    have hF2 : Blk w2 (w1.heap.size + 1 + 1 + 1) 48 #[.func (.func 37) #[] #[.pointer (some ⟨w.heap.size, 0, none⟩), .pointer (some ⟨w.heap.size + 1 + 1 + 1, 0, none⟩), .pointer (some ⟨w.heap.size + 1 + 1 + 1 + 1, 0, none⟩)], .func (.func 42) #[] #[.pointer (some ⟨w1.heap.size + 1, 0, none⟩), .pointer (some ⟨w1.heap.size + 1 + 1, 0, none⟩)], .func (.func 38) #[] #[.pointer (some ⟨w.heap.size + 1, 0, none⟩), .pointer (some ⟨w.heap.size + 1 + 1, 0, none⟩), .pointer (some ⟨w.heap.size + 1 + 1 + 1, 0, none⟩), .pointer (some ⟨w.heap.size + 1 + 1 + 1 + 1, 0, none⟩), .pointer (some ⟨w1.heap.size, 0, none⟩)]] := (hb2.block _ (by simp <;> omega)).trans (by repeat (first | ((with_reducible refine alloc_here' ?_); (simp; done)) | (with_reducible apply alloc_old') | (with_reducible apply drew_old)))
    have bel2 := b_then bel1 hY2
    clear hC1 hO1 hP1 hK1 hV1 bel1 hb2 cC lC cO lO cP lP cK lK cV lV hY2
    have cC := hC2.cell
    have lC := hC2.lt
    have cO := hO2.cell
    have lO := hO2.lt
    have cP := hP2.cell
    have lP := hP2.lt
    have cK := hK2.cell
    have lK := hK2.lt
    have cV := hV2.cell
    have lV := hV2.lt
    have cL := hL2.cell
    have lL := hL2.lt
    have cB := hB2.cell
    have lB := hB2.lt
    have cE := hE2.cell
    have lE := hE2.lt
    have cF := hF2.cell
    have lF := hF2.lt
    go_wp2_with fail
    go_ret
    exact ⟨rfl, bel2⟩
  · obtain ⟨c1, c2, c3⟩ := h1
    go_wp2_with (first | (go_at_call 26; refine (must_any _ _ _).mono ?_; rintro e w' ⟨rfl, rfl⟩) | go_in)
    refine wp_loop_rounds 4 ?_
    rw [rounds_succ]
    go_wp2_with fail
    refine (hP _ (by have hh := hC1; unfold Blk at hh ⊢; repeat (first | (with_reducible exact hh) | (with_reducible apply alloc_old') | (with_reducible apply drew_old))) (by have hh := hK1; unfold Blk at hh ⊢; repeat (first | (with_reducible exact hh) | (with_reducible apply alloc_old') | (with_reducible apply drew_old))) (by have hh := hV1; unfold Blk at hh ⊢; repeat (first | (with_reducible exact hh) | (with_reducible apply alloc_old') | (with_reducible apply drew_old)))).mono ?_
    rintro e w2 ⟨rfl, hb2⟩
    have hY2 : Below w1.heap.size w1 w2 := b_then (by repeat first | exact Below.refl _ _ | apply Below.drew | apply b_alloc) hb2
    have hC2 := hC1.below hY2 hC1.lt
    have hO2 := hO1.below hY2 hO1.lt
    have hP2 := hP1.below hY2 hP1.lt
    have hK2 := hK1.below hY2 hK1.lt
    have hV2 := hV1.below hY2 hV1.lt
    have hL2 : Blk w2 (w1.heap.size) 3 #[.int .i64 L] := (hb2.block _ (by simp <;> omega)).trans (by repeat (first | ((with_reducible refine alloc_here' ?_); (simp; done)) | (with_reducible apply alloc_old') | (with_reducible apply drew_old)))
    have hB2 : Blk w2 (w1.heap.size + 1) 4 #[.bool false] := (hb2.block _ (by simp <;> omega)).trans (by repeat (first | ((with_reducible refine alloc_here' ?_); (simp; done)) | (with_reducible apply alloc_old') | (with_reducible apply drew_old)))
    have hE2 : Blk w2 (w1.heap.size + 1 + 1) 25 #[.int .i64 2] := (hb2.block _ (by simp <;> omega)).trans (by repeat (first | ((with_reducible refine alloc_here' ?_); (simp; done)) | (with_reducible apply alloc_old') | (with_reducible apply drew_old)))
    have hF2 : Blk w2 (w1.heap.size + 1 + 1 + 1) 48 #[.func (.func 37) #[] #[.pointer (some ⟨w.heap.size, 0, none⟩), .pointer (some ⟨w.heap.size + 1 + 1 + 1, 0, none⟩), .pointer (some ⟨w.heap.size + 1 + 1 + 1 + 1, 0, none⟩)], .func (.func 42) #[] #[.pointer (some ⟨w1.heap.size + 1, 0, none⟩), .pointer (some ⟨w1.heap.size + 1 + 1, 0, none⟩)], .func (.func 38) #[] #[.pointer (some ⟨w.heap.size + 1, 0, none⟩), .pointer (some ⟨w.heap.size + 1 + 1, 0, none⟩), .pointer (some ⟨w.heap.size + 1 + 1 + 1, 0, none⟩), .pointer (some ⟨w.heap.size + 1 + 1 + 1 + 1, 0, none⟩), .pointer (some ⟨w1.heap.size, 0, none⟩)]] := (hb2.block _ (by simp <;> omega)).trans (by repeat (first | ((with_reducible refine alloc_here' ?_); (simp; done)) | (with_reducible apply alloc_old') | (with_reducible apply drew_old)))
    have bel2 := b_then bel1 hY2
    clear hC1 hO1 hP1 hK1 hV1 bel1 hb2 cC lC cO lO cP lP cK lK cV lV hY2
    have cC := hC2.cell
    have lC := hC2.lt
    have cO := hO2.cell
    have lO := hO2.lt
    have cP := hP2.cell
    have lP := hP2.lt
    have cK := hK2.cell
    have lK := hK2.lt
    have cV := hV2.cell
    have lV := hV2.lt
    have cL := hL2.cell
    have lL := hL2.lt
    have cB := hB2.cell
    have lB := hB2.lt
    have cE := hE2.cell
    have lE := hE2.lt
    have cF := hF2.cell
    have lF := hF2.lt
    go_wp2_with fail
    go_ret
    exact ⟨rfl, bel2⟩
  · obtain ⟨c1, c2, c3, c4⟩ := h1
    have c5 : decide (old ≤ cost) = false := decide_eq_false (by omega)
    clear c4
    go_wp2_with (first | (go_at_call 26; refine (must_any _ _ _).mono ?_; rintro e w' ⟨rfl, rfl⟩) | go_in)
    refine wp_loop_rounds 4 ?_
    rw [rounds_succ]
    go_wp2_with fail
    refine (hP _ (by have hh := hC1; unfold Blk at hh ⊢; repeat (first | (with_reducible exact hh) | (with_reducible apply alloc_old') | (with_reducible apply drew_old))) (by have hh := hK1; unfold Blk at hh ⊢; repeat (first | (with_reducible exact hh) | (with_reducible apply alloc_old') | (with_reducible apply drew_old))) (by have hh := hV1; unfold Blk at hh ⊢; repeat (first | (with_reducible exact hh) | (with_reducible apply alloc_old') | (with_reducible apply drew_old)))).mono ?_
    rintro e w2 ⟨rfl, hb2⟩
    have hY2 : Below w1.heap.size w1 w2 := b_then (by repeat first | exact Below.refl _ _ | apply Below.drew | apply b_alloc) hb2
    have hC2 := hC1.below hY2 hC1.lt
    have hO2 := hO1.below hY2 hO1.lt
    have hP2 := hP1.below hY2 hP1.lt
    have hK2 := hK1.below hY2 hK1.lt
    have hV2 := hV1.below hY2 hV1.lt
    have hL2 : Blk w2 (w1.heap.size) 3 #[.int .i64 L] := (hb2.block _ (by simp <;> omega)).trans (by repeat (first | ((with_reducible refine alloc_here' ?_); (simp; done)) | (with_reducible apply alloc_old') | (with_reducible apply drew_old)))
    have hB2 : Blk w2 (w1.heap.size + 1) 4 #[.bool false] := (hb2.block _ (by simp <;> omega)).trans (by repeat (first | ((with_reducible refine alloc_here' ?_); (simp; done)) | (with_reducible apply alloc_old') | (with_reducible apply drew_old)))
    have hE2 : Blk w2 (w1.heap.size + 1 + 1) 25 #[.int .i64 2] := (hb2.block _ (by simp <;> omega)).trans (by repeat (first | ((with_reducible refine alloc_here' ?_); (simp; done)) | (with_reducible apply alloc_old') | (with_reducible apply drew_old)))
    have hF2 : Blk w2 (w1.heap.size + 1 + 1 + 1) 48 #[.func (.func 37) #[] #[.pointer (some ⟨w.heap.size, 0, none⟩), .pointer (some ⟨w.heap.size + 1 + 1 + 1, 0, none⟩), .pointer (some ⟨w.heap.size + 1 + 1 + 1 + 1, 0, none⟩)], .func (.func 42) #[] #[.pointer (some ⟨w1.heap.size + 1, 0, none⟩), .pointer (some ⟨w1.heap.size + 1 + 1, 0, none⟩)], .func (.func 38) #[] #[.pointer (some ⟨w.heap.size + 1, 0, none⟩), .pointer (some ⟨w.heap.size + 1 + 1, 0, none⟩), .pointer (some ⟨w.heap.size + 1 + 1 + 1, 0, none⟩), .pointer (some ⟨w.heap.size + 1 + 1 + 1 + 1, 0, none⟩), .pointer (some ⟨w1.heap.size, 0, none⟩)]] := (hb2.block _ (by simp <;> omega)).trans (by repeat (first | ((with_reducible refine alloc_here' ?_); (simp; done)) | (with_reducible apply alloc_old') | (with_reducible apply drew_old)))
    have bel2 := b_then bel1 hY2
    clear hC1 hO1 hP1 hK1 hV1 bel1 hb2 cC lC cO lO cP lP cK lK cV lV hY2
    have cC := hC2.cell
    have lC := hC2.lt
    have cO := hO2.cell
    have lO := hO2.lt
    have cP := hP2.cell
    have lP := hP2.lt
    have cK := hK2.cell
    have lK := hK2.lt
    have cV := hV2.cell
    have lV := hV2.lt
    have cL := hL2.cell
    have lL := hL2.lt
    have cB := hB2.cell
    have lB := hB2.lt
    have cE := hE2.cell
    have lE := hE2.lt
    have cF := hF2.cell
    have lF := hF2.lt
    go_wp2_with fail
    go_ret
    exact ⟨rfl, bel2⟩
  · obtain ⟨c1, c2, c3, c4⟩ := h1
    go_wp2_with (first | (go_at_call 26; refine (must_any _ _ _).mono ?_; rintro e w' ⟨rfl, rfl⟩) | go_in)
    refine wp_loop_rounds 4 ?_
    rw [rounds_succ]
    go_wp2_with fail
    refine (hP _ (by have hh := hC1; unfold Blk at hh ⊢; repeat (first | (with_reducible exact hh) | (with_reducible apply alloc_old') | (with_reducible apply drew_old))) (by have hh := hK1; unfold Blk at hh ⊢; repeat (first | (with_reducible exact hh) | (with_reducible apply alloc_old') | (with_reducible apply drew_old))) (by have hh := hV1; unfold Blk at hh ⊢; repeat (first | (with_reducible exact hh) | (with_reducible apply alloc_old') | (with_reducible apply drew_old)))).mono ?_
    rintro e w2 ⟨rfl, hb2⟩
    have hY2 : Below w1.heap.size w1 w2 := b_then (by repeat first | exact Below.refl _ _ | apply Below.drew | apply b_alloc) hb2
    have hC2 := hC1.below hY2 hC1.lt
    have hO2 := hO1.below hY2 hO1.lt
    have hP2 := hP1.below hY2 hP1.lt
    have hK2 := hK1.below hY2 hK1.lt
    have hV2 := hV1.below hY2 hV1.lt
    have hL2 : Blk w2 (w1.heap.size) 3 #[.int .i64 L] := (hb2.block _ (by simp <;> omega)).trans (by repeat (first | ((with_reducible refine alloc_here' ?_); (simp; done)) | (with_reducible apply alloc_old') | (with_reducible apply drew_old)))
    have hB2 : Blk w2 (w1.heap.size + 1) 4 #[.bool true] := (hb2.block _ (by simp <;> omega)).trans (by repeat (first | ((with_reducible refine alloc_here' ?_); (simp; done)) | (with_reducible apply alloc_old') | (with_reducible apply drew_old)))
    have hE2 : Blk w2 (w1.heap.size + 1 + 1) 25 #[.int .i64 2] := (hb2.block _ (by simp <;> omega)).trans (by repeat (first | ((with_reducible refine alloc_here' ?_); (simp; done)) | (with_reducible apply alloc_old') | (with_reducible apply drew_old)))
    have hF2 : Blk w2 (w1.heap.size + 1 + 1 + 1) 48 #[.func (.func 37) #[] #[.pointer (some ⟨w.heap.size, 0, none⟩), .pointer (some ⟨w.heap.size + 1 + 1 + 1, 0, none⟩), .pointer (some ⟨w.heap.size + 1 + 1 + 1 + 1, 0, none⟩)], .func (.func 42) #[] #[.pointer (some ⟨w1.heap.size + 1, 0, none⟩), .pointer (some ⟨w1.heap.size + 1 + 1, 0, none⟩)], .func (.func 38) #[] #[.pointer (some ⟨w.heap.size + 1, 0, none⟩), .pointer (some ⟨w.heap.size + 1 + 1, 0, none⟩), .pointer (some ⟨w.heap.size + 1 + 1 + 1, 0, none⟩), .pointer (some ⟨w.heap.size + 1 + 1 + 1 + 1, 0, none⟩), .pointer (some ⟨w1.heap.size, 0, none⟩)]] := (hb2.block _ (by simp <;> omega)).trans (by repeat (first | ((with_reducible refine alloc_here' ?_); (simp; done)) | (with_reducible apply alloc_old') | (with_reducible apply drew_old)))
    have bel2 := b_then bel1 hY2
    clear hC1 hO1 hP1 hK1 hV1 bel1 hb2 cC lC cO lO cP lP cK lK cV lV hY2
    have cC := hC2.cell
    have lC := hC2.lt
    have cO := hO2.cell
    have lO := hO2.lt
    have cP := hP2.cell
    have lP := hP2.lt
    have cK := hK2.cell
    have lK := hK2.lt
    have cV := hV2.cell
    have lV := hV2.lt
    have cL := hL2.cell
    have lL := hL2.lt
    have cB := hB2.cell
    have lB := hB2.lt
    have cE := hE2.cell
    have lE := hE2.lt
    have cF := hF2.cell
    have lF := hF2.lt
    go_wp2_with fail
    go_ret
    exact ⟨rfl, bel2⟩
set_option maxHeartbeats 6400000 in
theorem put_N (s z r wk k v p cost old : Int) (key val : ByteArray) (w : World) (hk : key.size ≤ maxLen) (hv : val.size ≤ maxLen) (hc : CfgOk s z r wk k v p) (hq : aChk s z r wk k v p key val = 0) (hn : ¬(0 ≤ cost ∧ cost ≤ climit s z r ∧ 0 ≤ old ∧ old ≤ cost)) :
    Calls Try.prog 17 #[.agg #[.int .i64 s, .int .i64 z, .int .i64 r, .int .i64 wk, .int .i64 k, .int .i64 v, .int .i64 p], .int .i64 cost, .int .i64 old, .string key, .string val] w fun e w' => e = .returned (.int .i64 2) ∧ Below w.heap.size w w' := by
  have hL := Lim_any s z r wk k v p
  have hP := fun (w' : World) h1 h2 h3 => put1_any w.heap.size (w.heap.size + 1 + 1 + 1) (w.heap.size + 1 + 1 + 1 + 1) s z r wk k v p key val w' hk hv h1 h2 h3
  rw [hq] at hP
  clear hq
  go_enter Try.func17, Try.ntmps17
  go_wp2_with fail
  refine (hL _).mono ?_
  rintro e w1 ⟨⟨L, e0, rfl, hLL⟩, hb1⟩
  have hY1 : Below w.heap.size w w1 := b_then (by repeat first | exact Below.refl _ _ | apply Below.drew | apply b_alloc) hb1
  have hC1 : Blk w1 (w.heap.size) 23 #[.int .i64 s, .int .i64 z, .int .i64 r, .int .i64 wk, .int .i64 k, .int .i64 v, .int .i64 p] := (hb1.block _ (by simp <;> omega)).trans (by repeat (first | ((with_reducible refine alloc_here' ?_); (simp; done)) | (with_reducible apply alloc_old') | (with_reducible apply drew_old)))
  have hO1 : Blk w1 (w.heap.size + 1) 3 #[.int .i64 cost] := (hb1.block _ (by simp <;> omega)).trans (by repeat (first | ((with_reducible refine alloc_here' ?_); (simp; done)) | (with_reducible apply alloc_old') | (with_reducible apply drew_old)))
  have hP1 : Blk w1 (w.heap.size + 1 + 1) 3 #[.int .i64 old] := (hb1.block _ (by simp <;> omega)).trans (by repeat (first | ((with_reducible refine alloc_here' ?_); (simp; done)) | (with_reducible apply alloc_old') | (with_reducible apply drew_old)))
  have hK1 : Blk w1 (w.heap.size + 1 + 1 + 1) 9 #[.string key] := (hb1.block _ (by simp <;> omega)).trans (by repeat (first | ((with_reducible refine alloc_here' ?_); (simp; done)) | (with_reducible apply alloc_old') | (with_reducible apply drew_old)))
  have hV1 : Blk w1 (w.heap.size + 1 + 1 + 1 + 1) 9 #[.string val] := (hb1.block _ (by simp <;> omega)).trans (by repeat (first | ((with_reducible refine alloc_here' ?_); (simp; done)) | (with_reducible apply alloc_old') | (with_reducible apply drew_old)))
  have bel1 := hY1
  clear hb1
  have cC := hC1.cell
  have lC := hC1.lt
  have cO := hO1.cell
  have lO := hO1.lt
  have cP := hP1.cell
  have lP := hP1.lt
  have cK := hK1.cell
  have lK := hK1.lt
  have cV := hV1.cell
  have lV := hV1.lt
  obtain rfl := hLL hc
  generalize climit s z r = L at hn
  have hcond : (cost < 0) ∨ (0 ≤ cost ∧ L < cost) ∨ (0 ≤ cost ∧ cost ≤ L ∧ old < 0) ∨ (0 ≤ cost ∧ cost ≤ L ∧ 0 ≤ old ∧ cost < old) := by omega
  rcases hcond with h1 | h1 | h1 | h1
  all_goals clear hn
  · have c1 : decide (0 ≤ cost) = false := decide_eq_false (by omega)
    clear h1
    go_wp2_with (first | (go_at_call 26; refine (must_any _ _ _).mono ?_; rintro e w' ⟨rfl, rfl⟩) | go_in)
    refine wp_loop_rounds 4 ?_
    rw [rounds_succ]
    go_wp2_with fail
    refine (hP _ (by have hh := hC1; unfold Blk at hh ⊢; repeat (first | (with_reducible exact hh) | (with_reducible apply alloc_old') | (with_reducible apply drew_old))) (by have hh := hK1; unfold Blk at hh ⊢; repeat (first | (with_reducible exact hh) | (with_reducible apply alloc_old') | (with_reducible apply drew_old))) (by have hh := hV1; unfold Blk at hh ⊢; repeat (first | (with_reducible exact hh) | (with_reducible apply alloc_old') | (with_reducible apply drew_old)))).mono ?_
    rintro e w2 ⟨rfl, hb2⟩
    have hY2 : Below w1.heap.size w1 w2 := b_then (by repeat first | exact Below.refl _ _ | apply Below.drew | apply b_alloc) hb2
    have hC2 := hC1.below hY2 hC1.lt
    have hO2 := hO1.below hY2 hO1.lt
    have hP2 := hP1.below hY2 hP1.lt
    have hK2 := hK1.below hY2 hK1.lt
    have hV2 := hV1.below hY2 hV1.lt
    have hL2 : Blk w2 (w1.heap.size) 3 #[.int .i64 L] := (hb2.block _ (by simp <;> omega)).trans (by repeat (first | ((with_reducible refine alloc_here' ?_); (simp; done)) | (with_reducible apply alloc_old') | (with_reducible apply drew_old)))
    have hB2 : Blk w2 (w1.heap.size + 1) 4 #[.bool false] := (hb2.block _ (by simp <;> omega)).trans (by repeat (first | ((with_reducible refine alloc_here' ?_); (simp; done)) | (with_reducible apply alloc_old') | (with_reducible apply drew_old)))
    have hE2 : Blk w2 (w1.heap.size + 1 + 1) 25 #[.int .i64 2] := (hb2.block _ (by simp <;> omega)).trans (by repeat (first | ((with_reducible refine alloc_here' ?_); (simp; done)) | (with_reducible apply alloc_old') | (with_reducible apply drew_old)))
    have hF2 : Blk w2 (w1.heap.size + 1 + 1 + 1) 48 #[.func (.func 37) #[] #[.pointer (some ⟨w.heap.size, 0, none⟩), .pointer (some ⟨w.heap.size + 1 + 1 + 1, 0, none⟩), .pointer (some ⟨w.heap.size + 1 + 1 + 1 + 1, 0, none⟩)], .func (.func 42) #[] #[.pointer (some ⟨w1.heap.size + 1, 0, none⟩), .pointer (some ⟨w1.heap.size + 1 + 1, 0, none⟩)], .func (.func 38) #[] #[.pointer (some ⟨w.heap.size + 1, 0, none⟩), .pointer (some ⟨w.heap.size + 1 + 1, 0, none⟩), .pointer (some ⟨w.heap.size + 1 + 1 + 1, 0, none⟩), .pointer (some ⟨w.heap.size + 1 + 1 + 1 + 1, 0, none⟩), .pointer (some ⟨w1.heap.size, 0, none⟩)]] := (hb2.block _ (by simp <;> omega)).trans (by repeat (first | ((with_reducible refine alloc_here' ?_); (simp; done)) | (with_reducible apply alloc_old') | (with_reducible apply drew_old)))
    have bel2 := b_then bel1 hY2
    clear hC1 hO1 hP1 hK1 hV1 bel1 hb2 cC lC cO lO cP lP cK lK cV lV hY2
    have cC := hC2.cell
    have lC := hC2.lt
    have cO := hO2.cell
    have lO := hO2.lt
    have cP := hP2.cell
    have lP := hP2.lt
    have cK := hK2.cell
    have lK := hK2.lt
    have cV := hV2.cell
    have lV := hV2.lt
    have cL := hL2.cell
    have lL := hL2.lt
    have cB := hB2.cell
    have lB := hB2.lt
    have cE := hE2.cell
    have lE := hE2.lt
    have cF := hF2.cell
    have lF := hF2.lt
    go_wp2_with fail
    rw [rounds_succ]
    go_wp2_with fail
    refine (mustf_no (w1.heap.size + 1) (w1.heap.size + 1 + 1) 2 _ hB2 hE2).mono ?_
    rintro e w3 ⟨rfl, hb3⟩
    have hY3 : Below w2.heap.size w2 w3 := b_then (by repeat first | exact Below.refl _ _ | apply Below.drew | apply b_alloc) hb3
    have hC3 := hC2.below hY3 hC2.lt
    have hO3 := hO2.below hY3 hO2.lt
    have hP3 := hP2.below hY3 hP2.lt
    have hK3 := hK2.below hY3 hK2.lt
    have hV3 := hV2.below hY3 hV2.lt
    have hL3 := hL2.below hY3 hL2.lt
    have hB3 := hB2.below hY3 hB2.lt
    have hE3 := hE2.below hY3 hE2.lt
    have hF3 := hF2.below hY3 hF2.lt
    have bel3 := b_then bel2 hY3
    clear hC2 hO2 hP2 hK2 hV2 hL2 hB2 hE2 hF2 bel2 hb3 cC lC cO lO cP lP cK lK cV lV cL lL cB lB cE lE cF lF hY3
    have cC := hC3.cell
    have lC := hC3.lt
    have cO := hO3.cell
    have lO := hO3.lt
    have cP := hP3.cell
    have lP := hP3.lt
    have cK := hK3.cell
    have lK := hK3.lt
    have cV := hV3.cell
    have lV := hV3.lt
    have cL := hL3.cell
    have lL := hL3.lt
    have cB := hB3.cell
    have lB := hB3.lt
    have cE := hE3.cell
    have lE := hE3.lt
    have cF := hF3.cell
    have lF := hF3.lt
    go_wp2_with fail
    go_ret
    exact ⟨rfl, bel3⟩
  · have c1 := h1.1
    have c2 : decide (cost ≤ L) = false := decide_eq_false (by omega)
    clear h1
    go_wp2_with (first | (go_at_call 26; refine (must_any _ _ _).mono ?_; rintro e w' ⟨rfl, rfl⟩) | go_in)
    refine wp_loop_rounds 4 ?_
    rw [rounds_succ]
    go_wp2_with fail
    refine (hP _ (by have hh := hC1; unfold Blk at hh ⊢; repeat (first | (with_reducible exact hh) | (with_reducible apply alloc_old') | (with_reducible apply drew_old))) (by have hh := hK1; unfold Blk at hh ⊢; repeat (first | (with_reducible exact hh) | (with_reducible apply alloc_old') | (with_reducible apply drew_old))) (by have hh := hV1; unfold Blk at hh ⊢; repeat (first | (with_reducible exact hh) | (with_reducible apply alloc_old') | (with_reducible apply drew_old)))).mono ?_
    rintro e w2 ⟨rfl, hb2⟩
    have hY2 : Below w1.heap.size w1 w2 := b_then (by repeat first | exact Below.refl _ _ | apply Below.drew | apply b_alloc) hb2
    have hC2 := hC1.below hY2 hC1.lt
    have hO2 := hO1.below hY2 hO1.lt
    have hP2 := hP1.below hY2 hP1.lt
    have hK2 := hK1.below hY2 hK1.lt
    have hV2 := hV1.below hY2 hV1.lt
    have hL2 : Blk w2 (w1.heap.size) 3 #[.int .i64 L] := (hb2.block _ (by simp <;> omega)).trans (by repeat (first | ((with_reducible refine alloc_here' ?_); (simp; done)) | (with_reducible apply alloc_old') | (with_reducible apply drew_old)))
    have hB2 : Blk w2 (w1.heap.size + 1) 4 #[.bool false] := (hb2.block _ (by simp <;> omega)).trans (by repeat (first | ((with_reducible refine alloc_here' ?_); (simp; done)) | (with_reducible apply alloc_old') | (with_reducible apply drew_old)))
    have hE2 : Blk w2 (w1.heap.size + 1 + 1) 25 #[.int .i64 2] := (hb2.block _ (by simp <;> omega)).trans (by repeat (first | ((with_reducible refine alloc_here' ?_); (simp; done)) | (with_reducible apply alloc_old') | (with_reducible apply drew_old)))
    have hF2 : Blk w2 (w1.heap.size + 1 + 1 + 1) 48 #[.func (.func 37) #[] #[.pointer (some ⟨w.heap.size, 0, none⟩), .pointer (some ⟨w.heap.size + 1 + 1 + 1, 0, none⟩), .pointer (some ⟨w.heap.size + 1 + 1 + 1 + 1, 0, none⟩)], .func (.func 42) #[] #[.pointer (some ⟨w1.heap.size + 1, 0, none⟩), .pointer (some ⟨w1.heap.size + 1 + 1, 0, none⟩)], .func (.func 38) #[] #[.pointer (some ⟨w.heap.size + 1, 0, none⟩), .pointer (some ⟨w.heap.size + 1 + 1, 0, none⟩), .pointer (some ⟨w.heap.size + 1 + 1 + 1, 0, none⟩), .pointer (some ⟨w.heap.size + 1 + 1 + 1 + 1, 0, none⟩), .pointer (some ⟨w1.heap.size, 0, none⟩)]] := (hb2.block _ (by simp <;> omega)).trans (by repeat (first | ((with_reducible refine alloc_here' ?_); (simp; done)) | (with_reducible apply alloc_old') | (with_reducible apply drew_old)))
    have bel2 := b_then bel1 hY2
    clear hC1 hO1 hP1 hK1 hV1 bel1 hb2 cC lC cO lO cP lP cK lK cV lV hY2
    have cC := hC2.cell
    have lC := hC2.lt
    have cO := hO2.cell
    have lO := hO2.lt
    have cP := hP2.cell
    have lP := hP2.lt
    have cK := hK2.cell
    have lK := hK2.lt
    have cV := hV2.cell
    have lV := hV2.lt
    have cL := hL2.cell
    have lL := hL2.lt
    have cB := hB2.cell
    have lB := hB2.lt
    have cE := hE2.cell
    have lE := hE2.lt
    have cF := hF2.cell
    have lF := hF2.lt
    go_wp2_with fail
    rw [rounds_succ]
    go_wp2_with fail
    refine (mustf_no (w1.heap.size + 1) (w1.heap.size + 1 + 1) 2 _ hB2 hE2).mono ?_
    rintro e w3 ⟨rfl, hb3⟩
    have hY3 : Below w2.heap.size w2 w3 := b_then (by repeat first | exact Below.refl _ _ | apply Below.drew | apply b_alloc) hb3
    have hC3 := hC2.below hY3 hC2.lt
    have hO3 := hO2.below hY3 hO2.lt
    have hP3 := hP2.below hY3 hP2.lt
    have hK3 := hK2.below hY3 hK2.lt
    have hV3 := hV2.below hY3 hV2.lt
    have hL3 := hL2.below hY3 hL2.lt
    have hB3 := hB2.below hY3 hB2.lt
    have hE3 := hE2.below hY3 hE2.lt
    have hF3 := hF2.below hY3 hF2.lt
    have bel3 := b_then bel2 hY3
    clear hC2 hO2 hP2 hK2 hV2 hL2 hB2 hE2 hF2 bel2 hb3 cC lC cO lO cP lP cK lK cV lV cL lL cB lB cE lE cF lF hY3
    have cC := hC3.cell
    have lC := hC3.lt
    have cO := hO3.cell
    have lO := hO3.lt
    have cP := hP3.cell
    have lP := hP3.lt
    have cK := hK3.cell
    have lK := hK3.lt
    have cV := hV3.cell
    have lV := hV3.lt
    have cL := hL3.cell
    have lL := hL3.lt
    have cB := hB3.cell
    have lB := hB3.lt
    have cE := hE3.cell
    have lE := hE3.lt
    have cF := hF3.cell
    have lF := hF3.lt
    go_wp2_with fail
    go_ret
    exact ⟨rfl, bel3⟩
  · obtain ⟨c1, c2, c3⟩ := h1
    go_wp2_with (first | (go_at_call 26; refine (must_any _ _ _).mono ?_; rintro e w' ⟨rfl, rfl⟩) | go_in)
    refine wp_loop_rounds 4 ?_
    rw [rounds_succ]
    go_wp2_with fail
    refine (hP _ (by have hh := hC1; unfold Blk at hh ⊢; repeat (first | (with_reducible exact hh) | (with_reducible apply alloc_old') | (with_reducible apply drew_old))) (by have hh := hK1; unfold Blk at hh ⊢; repeat (first | (with_reducible exact hh) | (with_reducible apply alloc_old') | (with_reducible apply drew_old))) (by have hh := hV1; unfold Blk at hh ⊢; repeat (first | (with_reducible exact hh) | (with_reducible apply alloc_old') | (with_reducible apply drew_old)))).mono ?_
    rintro e w2 ⟨rfl, hb2⟩
    have hY2 : Below w1.heap.size w1 w2 := b_then (by repeat first | exact Below.refl _ _ | apply Below.drew | apply b_alloc) hb2
    have hC2 := hC1.below hY2 hC1.lt
    have hO2 := hO1.below hY2 hO1.lt
    have hP2 := hP1.below hY2 hP1.lt
    have hK2 := hK1.below hY2 hK1.lt
    have hV2 := hV1.below hY2 hV1.lt
    have hL2 : Blk w2 (w1.heap.size) 3 #[.int .i64 L] := (hb2.block _ (by simp <;> omega)).trans (by repeat (first | ((with_reducible refine alloc_here' ?_); (simp; done)) | (with_reducible apply alloc_old') | (with_reducible apply drew_old)))
    have hB2 : Blk w2 (w1.heap.size + 1) 4 #[.bool false] := (hb2.block _ (by simp <;> omega)).trans (by repeat (first | ((with_reducible refine alloc_here' ?_); (simp; done)) | (with_reducible apply alloc_old') | (with_reducible apply drew_old)))
    have hE2 : Blk w2 (w1.heap.size + 1 + 1) 25 #[.int .i64 2] := (hb2.block _ (by simp <;> omega)).trans (by repeat (first | ((with_reducible refine alloc_here' ?_); (simp; done)) | (with_reducible apply alloc_old') | (with_reducible apply drew_old)))
    have hF2 : Blk w2 (w1.heap.size + 1 + 1 + 1) 48 #[.func (.func 37) #[] #[.pointer (some ⟨w.heap.size, 0, none⟩), .pointer (some ⟨w.heap.size + 1 + 1 + 1, 0, none⟩), .pointer (some ⟨w.heap.size + 1 + 1 + 1 + 1, 0, none⟩)], .func (.func 42) #[] #[.pointer (some ⟨w1.heap.size + 1, 0, none⟩), .pointer (some ⟨w1.heap.size + 1 + 1, 0, none⟩)], .func (.func 38) #[] #[.pointer (some ⟨w.heap.size + 1, 0, none⟩), .pointer (some ⟨w.heap.size + 1 + 1, 0, none⟩), .pointer (some ⟨w.heap.size + 1 + 1 + 1, 0, none⟩), .pointer (some ⟨w.heap.size + 1 + 1 + 1 + 1, 0, none⟩), .pointer (some ⟨w1.heap.size, 0, none⟩)]] := (hb2.block _ (by simp <;> omega)).trans (by repeat (first | ((with_reducible refine alloc_here' ?_); (simp; done)) | (with_reducible apply alloc_old') | (with_reducible apply drew_old)))
    have bel2 := b_then bel1 hY2
    clear hC1 hO1 hP1 hK1 hV1 bel1 hb2 cC lC cO lO cP lP cK lK cV lV hY2
    have cC := hC2.cell
    have lC := hC2.lt
    have cO := hO2.cell
    have lO := hO2.lt
    have cP := hP2.cell
    have lP := hP2.lt
    have cK := hK2.cell
    have lK := hK2.lt
    have cV := hV2.cell
    have lV := hV2.lt
    have cL := hL2.cell
    have lL := hL2.lt
    have cB := hB2.cell
    have lB := hB2.lt
    have cE := hE2.cell
    have lE := hE2.lt
    have cF := hF2.cell
    have lF := hF2.lt
    go_wp2_with fail
    rw [rounds_succ]
    go_wp2_with fail
    refine (mustf_no (w1.heap.size + 1) (w1.heap.size + 1 + 1) 2 _ hB2 hE2).mono ?_
    rintro e w3 ⟨rfl, hb3⟩
    have hY3 : Below w2.heap.size w2 w3 := b_then (by repeat first | exact Below.refl _ _ | apply Below.drew | apply b_alloc) hb3
    have hC3 := hC2.below hY3 hC2.lt
    have hO3 := hO2.below hY3 hO2.lt
    have hP3 := hP2.below hY3 hP2.lt
    have hK3 := hK2.below hY3 hK2.lt
    have hV3 := hV2.below hY3 hV2.lt
    have hL3 := hL2.below hY3 hL2.lt
    have hB3 := hB2.below hY3 hB2.lt
    have hE3 := hE2.below hY3 hE2.lt
    have hF3 := hF2.below hY3 hF2.lt
    have bel3 := b_then bel2 hY3
    clear hC2 hO2 hP2 hK2 hV2 hL2 hB2 hE2 hF2 bel2 hb3 cC lC cO lO cP lP cK lK cV lV cL lL cB lB cE lE cF lF hY3
    have cC := hC3.cell
    have lC := hC3.lt
    have cO := hO3.cell
    have lO := hO3.lt
    have cP := hP3.cell
    have lP := hP3.lt
    have cK := hK3.cell
    have lK := hK3.lt
    have cV := hV3.cell
    have lV := hV3.lt
    have cL := hL3.cell
    have lL := hL3.lt
    have cB := hB3.cell
    have lB := hB3.lt
    have cE := hE3.cell
    have lE := hE3.lt
    have cF := hF3.cell
    have lF := hF3.lt
    go_wp2_with fail
    go_ret
    exact ⟨rfl, bel3⟩
  · obtain ⟨c1, c2, c3, c4⟩ := h1
    have c5 : decide (old ≤ cost) = false := decide_eq_false (by omega)
    clear c4
    go_wp2_with (first | (go_at_call 26; refine (must_any _ _ _).mono ?_; rintro e w' ⟨rfl, rfl⟩) | go_in)
    refine wp_loop_rounds 4 ?_
    rw [rounds_succ]
    go_wp2_with fail
    refine (hP _ (by have hh := hC1; unfold Blk at hh ⊢; repeat (first | (with_reducible exact hh) | (with_reducible apply alloc_old') | (with_reducible apply drew_old))) (by have hh := hK1; unfold Blk at hh ⊢; repeat (first | (with_reducible exact hh) | (with_reducible apply alloc_old') | (with_reducible apply drew_old))) (by have hh := hV1; unfold Blk at hh ⊢; repeat (first | (with_reducible exact hh) | (with_reducible apply alloc_old') | (with_reducible apply drew_old)))).mono ?_
    rintro e w2 ⟨rfl, hb2⟩
    have hY2 : Below w1.heap.size w1 w2 := b_then (by repeat first | exact Below.refl _ _ | apply Below.drew | apply b_alloc) hb2
    have hC2 := hC1.below hY2 hC1.lt
    have hO2 := hO1.below hY2 hO1.lt
    have hP2 := hP1.below hY2 hP1.lt
    have hK2 := hK1.below hY2 hK1.lt
    have hV2 := hV1.below hY2 hV1.lt
    have hL2 : Blk w2 (w1.heap.size) 3 #[.int .i64 L] := (hb2.block _ (by simp <;> omega)).trans (by repeat (first | ((with_reducible refine alloc_here' ?_); (simp; done)) | (with_reducible apply alloc_old') | (with_reducible apply drew_old)))
    have hB2 : Blk w2 (w1.heap.size + 1) 4 #[.bool false] := (hb2.block _ (by simp <;> omega)).trans (by repeat (first | ((with_reducible refine alloc_here' ?_); (simp; done)) | (with_reducible apply alloc_old') | (with_reducible apply drew_old)))
    have hE2 : Blk w2 (w1.heap.size + 1 + 1) 25 #[.int .i64 2] := (hb2.block _ (by simp <;> omega)).trans (by repeat (first | ((with_reducible refine alloc_here' ?_); (simp; done)) | (with_reducible apply alloc_old') | (with_reducible apply drew_old)))
    have hF2 : Blk w2 (w1.heap.size + 1 + 1 + 1) 48 #[.func (.func 37) #[] #[.pointer (some ⟨w.heap.size, 0, none⟩), .pointer (some ⟨w.heap.size + 1 + 1 + 1, 0, none⟩), .pointer (some ⟨w.heap.size + 1 + 1 + 1 + 1, 0, none⟩)], .func (.func 42) #[] #[.pointer (some ⟨w1.heap.size + 1, 0, none⟩), .pointer (some ⟨w1.heap.size + 1 + 1, 0, none⟩)], .func (.func 38) #[] #[.pointer (some ⟨w.heap.size + 1, 0, none⟩), .pointer (some ⟨w.heap.size + 1 + 1, 0, none⟩), .pointer (some ⟨w.heap.size + 1 + 1 + 1, 0, none⟩), .pointer (some ⟨w.heap.size + 1 + 1 + 1 + 1, 0, none⟩), .pointer (some ⟨w1.heap.size, 0, none⟩)]] := (hb2.block _ (by simp <;> omega)).trans (by repeat (first | ((with_reducible refine alloc_here' ?_); (simp; done)) | (with_reducible apply alloc_old') | (with_reducible apply drew_old)))
    have bel2 := b_then bel1 hY2
    clear hC1 hO1 hP1 hK1 hV1 bel1 hb2 cC lC cO lO cP lP cK lK cV lV hY2
    have cC := hC2.cell
    have lC := hC2.lt
    have cO := hO2.cell
    have lO := hO2.lt
    have cP := hP2.cell
    have lP := hP2.lt
    have cK := hK2.cell
    have lK := hK2.lt
    have cV := hV2.cell
    have lV := hV2.lt
    have cL := hL2.cell
    have lL := hL2.lt
    have cB := hB2.cell
    have lB := hB2.lt
    have cE := hE2.cell
    have lE := hE2.lt
    have cF := hF2.cell
    have lF := hF2.lt
    go_wp2_with fail
    rw [rounds_succ]
    go_wp2_with fail
    refine (mustf_no (w1.heap.size + 1) (w1.heap.size + 1 + 1) 2 _ hB2 hE2).mono ?_
    rintro e w3 ⟨rfl, hb3⟩
    have hY3 : Below w2.heap.size w2 w3 := b_then (by repeat first | exact Below.refl _ _ | apply Below.drew | apply b_alloc) hb3
    have hC3 := hC2.below hY3 hC2.lt
    have hO3 := hO2.below hY3 hO2.lt
    have hP3 := hP2.below hY3 hP2.lt
    have hK3 := hK2.below hY3 hK2.lt
    have hV3 := hV2.below hY3 hV2.lt
    have hL3 := hL2.below hY3 hL2.lt
    have hB3 := hB2.below hY3 hB2.lt
    have hE3 := hE2.below hY3 hE2.lt
    have hF3 := hF2.below hY3 hF2.lt
    have bel3 := b_then bel2 hY3
    clear hC2 hO2 hP2 hK2 hV2 hL2 hB2 hE2 hF2 bel2 hb3 cC lC cO lO cP lP cK lK cV lV cL lL cB lB cE lE cF lF hY3
    have cC := hC3.cell
    have lC := hC3.lt
    have cO := hO3.cell
    have lO := hO3.lt
    have cP := hP3.cell
    have lP := hP3.lt
    have cK := hK3.cell
    have lK := hK3.lt
    have cV := hV3.cell
    have lV := hV3.lt
    have cL := hL3.cell
    have lL := hL3.lt
    have cB := hB3.cell
    have lB := hB3.lt
    have cE := hE3.cell
    have lE := hE3.lt
    have cF := hF3.cell
    have lF := hF3.lt
    go_wp2_with fail
    go_ret
    exact ⟨rfl, bel3⟩
set_option maxHeartbeats 6400000 in
theorem put_F (s z r wk k v p cost old : Int) (key val : ByteArray) (w : World) (hk : key.size ≤ maxLen) (hv : val.size ≤ maxLen) (hc : CfgOk s z r wk k v p) (hq : aChk s z r wk k v p key val = 0) (hh1 : 0 ≤ cost) (hh2 : cost ≤ climit s z r) (hh3 : 0 ≤ old) (hh4 : old ≤ cost) (hE : aErr cost old key val = 0) (hq2 : climit s z r < cost - old + (16 + key.size + val.size)) :
    Calls Try.prog 17 #[.agg #[.int .i64 s, .int .i64 z, .int .i64 r, .int .i64 wk, .int .i64 k, .int .i64 v, .int .i64 p], .int .i64 cost, .int .i64 old, .string key, .string val] w fun e w' => e = .returned (.int .i64 4) ∧ Below w.heap.size w w' := by
  have hL := Lim_any s z r wk k v p
  have hP := fun (w' : World) h1 h2 h3 => put1_any w.heap.size (w.heap.size + 1 + 1 + 1) (w.heap.size + 1 + 1 + 1 + 1) s z r wk k v p key val w' hk hv h1 h2 h3
  rw [hq] at hP
  clear hq
  go_enter Try.func17, Try.ntmps17
  go_wp2_with fail
  refine (hL _).mono ?_
  rintro e w1 ⟨⟨L, e0, rfl, hLL⟩, hb1⟩
  have hY1 : Below w.heap.size w w1 := b_then (by repeat first | exact Below.refl _ _ | apply Below.drew | apply b_alloc) hb1
  have hC1 : Blk w1 (w.heap.size) 23 #[.int .i64 s, .int .i64 z, .int .i64 r, .int .i64 wk, .int .i64 k, .int .i64 v, .int .i64 p] := (hb1.block _ (by simp <;> omega)).trans (by repeat (first | ((with_reducible refine alloc_here' ?_); (simp; done)) | (with_reducible apply alloc_old') | (with_reducible apply drew_old)))
  have hO1 : Blk w1 (w.heap.size + 1) 3 #[.int .i64 cost] := (hb1.block _ (by simp <;> omega)).trans (by repeat (first | ((with_reducible refine alloc_here' ?_); (simp; done)) | (with_reducible apply alloc_old') | (with_reducible apply drew_old)))
  have hP1 : Blk w1 (w.heap.size + 1 + 1) 3 #[.int .i64 old] := (hb1.block _ (by simp <;> omega)).trans (by repeat (first | ((with_reducible refine alloc_here' ?_); (simp; done)) | (with_reducible apply alloc_old') | (with_reducible apply drew_old)))
  have hK1 : Blk w1 (w.heap.size + 1 + 1 + 1) 9 #[.string key] := (hb1.block _ (by simp <;> omega)).trans (by repeat (first | ((with_reducible refine alloc_here' ?_); (simp; done)) | (with_reducible apply alloc_old') | (with_reducible apply drew_old)))
  have hV1 : Blk w1 (w.heap.size + 1 + 1 + 1 + 1) 9 #[.string val] := (hb1.block _ (by simp <;> omega)).trans (by repeat (first | ((with_reducible refine alloc_here' ?_); (simp; done)) | (with_reducible apply alloc_old') | (with_reducible apply drew_old)))
  have bel1 := hY1
  clear hb1
  have cC := hC1.cell
  have lC := hC1.lt
  have cO := hO1.cell
  have lO := hO1.lt
  have cP := hP1.cell
  have lP := hP1.lt
  have cK := hK1.cell
  have lK := hK1.lt
  have cV := hV1.cell
  have lV := hV1.lt
  obtain rfl := hLL hc
  have hR := fun (w' : World) h1 h2 h3 h4 h5 => put2_any (w.heap.size + 1) (w.heap.size + 1 + 1) (w.heap.size + 1 + 1 + 1) (w.heap.size + 1 + 1 + 1 + 1) w1.heap.size cost old (climit s z r) key val w' hk hv h1 h2 h3 h4 h5 hE 4 (if_pos hq2)
  generalize climit s z r = L at hh2 hR
  clear hq2
  go_wp2_with (first | (go_at_call 26; refine (must_any _ _ _).mono ?_; rintro e w' ⟨rfl, rfl⟩) | go_in)
  refine wp_loop_rounds 4 ?_
  rw [rounds_succ]
  go_wp2_with fail
  refine (hP _ (by have hh := hC1; unfold Blk at hh ⊢; repeat (first | (with_reducible exact hh) | (with_reducible apply alloc_old') | (with_reducible apply drew_old))) (by have hh := hK1; unfold Blk at hh ⊢; repeat (first | (with_reducible exact hh) | (with_reducible apply alloc_old') | (with_reducible apply drew_old))) (by have hh := hV1; unfold Blk at hh ⊢; repeat (first | (with_reducible exact hh) | (with_reducible apply alloc_old') | (with_reducible apply drew_old)))).mono ?_
  rintro e w2 ⟨rfl, hb2⟩
  have hY2 : Below w1.heap.size w1 w2 := b_then (by repeat first | exact Below.refl _ _ | apply Below.drew | apply b_alloc) hb2
  have hC2 := hC1.below hY2 hC1.lt
  have hO2 := hO1.below hY2 hO1.lt
  have hP2 := hP1.below hY2 hP1.lt
  have hK2 := hK1.below hY2 hK1.lt
  have hV2 := hV1.below hY2 hV1.lt
  have hL2 : Blk w2 (w1.heap.size) 3 #[.int .i64 L] := (hb2.block _ (by simp <;> omega)).trans (by repeat (first | ((with_reducible refine alloc_here' ?_); (simp; done)) | (with_reducible apply alloc_old') | (with_reducible apply drew_old)))
  have hB2 : Blk w2 (w1.heap.size + 1) 4 #[.bool true] := (hb2.block _ (by simp <;> omega)).trans (by repeat (first | ((with_reducible refine alloc_here' ?_); (simp; done)) | (with_reducible apply alloc_old') | (with_reducible apply drew_old)))
  have hE2 : Blk w2 (w1.heap.size + 1 + 1) 25 #[.int .i64 2] := (hb2.block _ (by simp <;> omega)).trans (by repeat (first | ((with_reducible refine alloc_here' ?_); (simp; done)) | (with_reducible apply alloc_old') | (with_reducible apply drew_old)))
  have hF2 : Blk w2 (w1.heap.size + 1 + 1 + 1) 48 #[.func (.func 37) #[] #[.pointer (some ⟨w.heap.size, 0, none⟩), .pointer (some ⟨w.heap.size + 1 + 1 + 1, 0, none⟩), .pointer (some ⟨w.heap.size + 1 + 1 + 1 + 1, 0, none⟩)], .func (.func 42) #[] #[.pointer (some ⟨w1.heap.size + 1, 0, none⟩), .pointer (some ⟨w1.heap.size + 1 + 1, 0, none⟩)], .func (.func 38) #[] #[.pointer (some ⟨w.heap.size + 1, 0, none⟩), .pointer (some ⟨w.heap.size + 1 + 1, 0, none⟩), .pointer (some ⟨w.heap.size + 1 + 1 + 1, 0, none⟩), .pointer (some ⟨w.heap.size + 1 + 1 + 1 + 1, 0, none⟩), .pointer (some ⟨w1.heap.size, 0, none⟩)]] := (hb2.block _ (by simp <;> omega)).trans (by repeat (first | ((with_reducible refine alloc_here' ?_); (simp; done)) | (with_reducible apply alloc_old') | (with_reducible apply drew_old)))
  have bel2 := b_then bel1 hY2
  clear hC1 hO1 hP1 hK1 hV1 bel1 hb2 cC lC cO lO cP lP cK lK cV lV hY2
  have cC := hC2.cell
  have lC := hC2.lt
  have cO := hO2.cell
  have lO := hO2.lt
  have cP := hP2.cell
  have lP := hP2.lt
  have cK := hK2.cell
  have lK := hK2.lt
  have cV := hV2.cell
  have lV := hV2.lt
  have cL := hL2.cell
  have lL := hL2.lt
  have cB := hB2.cell
  have lB := hB2.lt
  have cE := hE2.cell
  have lE := hE2.lt
  have cF := hF2.cell
  have lF := hF2.lt
  go_wp2_with fail
  rw [rounds_succ]
  go_wp2_with fail
  refine (mustf_yes (w1.heap.size + 1) (w1.heap.size + 1 + 1) _ hB2).mono ?_
  rintro e w3 ⟨rfl, hb3⟩
  have hY3 : Below w2.heap.size w2 w3 := b_then (by repeat first | exact Below.refl _ _ | apply Below.drew | apply b_alloc) hb3
  have hC3 := hC2.below hY3 hC2.lt
  have hO3 := hO2.below hY3 hO2.lt
  have hP3 := hP2.below hY3 hP2.lt
  have hK3 := hK2.below hY3 hK2.lt
  have hV3 := hV2.below hY3 hV2.lt
  have hL3 := hL2.below hY3 hL2.lt
  have hB3 := hB2.below hY3 hB2.lt
  have hE3 := hE2.below hY3 hE2.lt
  have hF3 := hF2.below hY3 hF2.lt
  have bel3 := b_then bel2 hY3
  clear hC2 hO2 hP2 hK2 hV2 hL2 hB2 hE2 hF2 bel2 hb3 cC lC cO lO cP lP cK lK cV lV cL lL cB lB cE lE cF lF hY3
  have cC := hC3.cell
  have lC := hC3.lt
  have cO := hO3.cell
  have lO := hO3.lt
  have cP := hP3.cell
  have lP := hP3.lt
  have cK := hK3.cell
  have lK := hK3.lt
  have cV := hV3.cell
  have lV := hV3.lt
  have cL := hL3.cell
  have lL := hL3.lt
  have cB := hB3.cell
  have lB := hB3.lt
  have cE := hE3.cell
  have lE := hE3.lt
  have cF := hF3.cell
  have lF := hF3.lt
  go_wp2_with fail
  rw [rounds_succ]
  go_wp2_with fail
  refine (hR _ hO3 hP3 hK3 hV3 hL3).mono ?_
  rintro e w4 ⟨rfl, hb4⟩
  have hY4 : Below w3.heap.size w3 w4 := b_then (by repeat first | exact Below.refl _ _ | apply Below.drew | apply b_alloc) hb4
  have hC4 := hC3.below hY4 hC3.lt
  have hO4 := hO3.below hY4 hO3.lt
  have hP4 := hP3.below hY4 hP3.lt
  have hK4 := hK3.below hY4 hK3.lt
  have hV4 := hV3.below hY4 hV3.lt
  have hL4 := hL3.below hY4 hL3.lt
  have hB4 := hB3.below hY4 hB3.lt
  have hE4 := hE3.below hY4 hE3.lt
  have hF4 := hF3.below hY4 hF3.lt
  have bel4 := b_then bel3 hY4
  clear hC3 hO3 hP3 hK3 hV3 hL3 hB3 hE3 hF3 bel3 hb4 cC lC cO lO cP lP cK lK cV lV cL lL cB lB cE lE cF lF hY4
  have cC := hC4.cell
  have lC := hC4.lt
  have cO := hO4.cell
  have lO := hO4.lt
  have cP := hP4.cell
  have lP := hP4.lt
  have cK := hK4.cell
  have lK := hK4.lt
  have cV := hV4.cell
  have lV := hV4.lt
  have cL := hL4.cell
  have lL := hL4.lt
  have cB := hB4.cell
  have lB := hB4.lt
  have cE := hE4.cell
  have lE := hE4.lt
  have cF := hF4.cell
  have lF := hF4.lt
  go_wp2_with fail
  go_ret
  exact ⟨rfl, bel4⟩
set_option maxHeartbeats 6400000 in
theorem put_Y (s z r wk k v p cost old : Int) (key val : ByteArray) (w : World) (hk : key.size ≤ maxLen) (hv : val.size ≤ maxLen) (hc : CfgOk s z r wk k v p) (hq : aChk s z r wk k v p key val = 0) (hh1 : 0 ≤ cost) (hh2 : cost ≤ climit s z r) (hh3 : 0 ≤ old) (hh4 : old ≤ cost) (hE : aErr cost old key val = 0) (hq2 : cost - old + (16 + key.size + val.size) ≤ climit s z r) :
    Calls Try.prog 17 #[.agg #[.int .i64 s, .int .i64 z, .int .i64 r, .int .i64 wk, .int .i64 k, .int .i64 v, .int .i64 p], .int .i64 cost, .int .i64 old, .string key, .string val] w fun e w' => e = .returned (.int .i64 0) ∧ Below w.heap.size w w' := by
  have hL := Lim_any s z r wk k v p
  have hP := fun (w' : World) h1 h2 h3 => put1_any w.heap.size (w.heap.size + 1 + 1 + 1) (w.heap.size + 1 + 1 + 1 + 1) s z r wk k v p key val w' hk hv h1 h2 h3
  rw [hq] at hP
  clear hq
  go_enter Try.func17, Try.ntmps17
  go_wp2_with fail
  refine (hL _).mono ?_
  rintro e w1 ⟨⟨L, e0, rfl, hLL⟩, hb1⟩
  have hY1 : Below w.heap.size w w1 := b_then (by repeat first | exact Below.refl _ _ | apply Below.drew | apply b_alloc) hb1
  have hC1 : Blk w1 (w.heap.size) 23 #[.int .i64 s, .int .i64 z, .int .i64 r, .int .i64 wk, .int .i64 k, .int .i64 v, .int .i64 p] := (hb1.block _ (by simp <;> omega)).trans (by repeat (first | ((with_reducible refine alloc_here' ?_); (simp; done)) | (with_reducible apply alloc_old') | (with_reducible apply drew_old)))
  have hO1 : Blk w1 (w.heap.size + 1) 3 #[.int .i64 cost] := (hb1.block _ (by simp <;> omega)).trans (by repeat (first | ((with_reducible refine alloc_here' ?_); (simp; done)) | (with_reducible apply alloc_old') | (with_reducible apply drew_old)))
  have hP1 : Blk w1 (w.heap.size + 1 + 1) 3 #[.int .i64 old] := (hb1.block _ (by simp <;> omega)).trans (by repeat (first | ((with_reducible refine alloc_here' ?_); (simp; done)) | (with_reducible apply alloc_old') | (with_reducible apply drew_old)))
  have hK1 : Blk w1 (w.heap.size + 1 + 1 + 1) 9 #[.string key] := (hb1.block _ (by simp <;> omega)).trans (by repeat (first | ((with_reducible refine alloc_here' ?_); (simp; done)) | (with_reducible apply alloc_old') | (with_reducible apply drew_old)))
  have hV1 : Blk w1 (w.heap.size + 1 + 1 + 1 + 1) 9 #[.string val] := (hb1.block _ (by simp <;> omega)).trans (by repeat (first | ((with_reducible refine alloc_here' ?_); (simp; done)) | (with_reducible apply alloc_old') | (with_reducible apply drew_old)))
  have bel1 := hY1
  clear hb1
  have cC := hC1.cell
  have lC := hC1.lt
  have cO := hO1.cell
  have lO := hO1.lt
  have cP := hP1.cell
  have lP := hP1.lt
  have cK := hK1.cell
  have lK := hK1.lt
  have cV := hV1.cell
  have lV := hV1.lt
  obtain rfl := hLL hc
  have hR := fun (w' : World) h1 h2 h3 h4 h5 => put2_any (w.heap.size + 1) (w.heap.size + 1 + 1) (w.heap.size + 1 + 1 + 1) (w.heap.size + 1 + 1 + 1 + 1) w1.heap.size cost old (climit s z r) key val w' hk hv h1 h2 h3 h4 h5 hE 0 (if_neg (by omega))
  generalize climit s z r = L at hh2 hR
  clear hq2
  go_wp2_with (first | (go_at_call 26; refine (must_any _ _ _).mono ?_; rintro e w' ⟨rfl, rfl⟩) | go_in)
  refine wp_loop_rounds 4 ?_
  rw [rounds_succ]
  go_wp2_with fail
  refine (hP _ (by have hh := hC1; unfold Blk at hh ⊢; repeat (first | (with_reducible exact hh) | (with_reducible apply alloc_old') | (with_reducible apply drew_old))) (by have hh := hK1; unfold Blk at hh ⊢; repeat (first | (with_reducible exact hh) | (with_reducible apply alloc_old') | (with_reducible apply drew_old))) (by have hh := hV1; unfold Blk at hh ⊢; repeat (first | (with_reducible exact hh) | (with_reducible apply alloc_old') | (with_reducible apply drew_old)))).mono ?_
  rintro e w2 ⟨rfl, hb2⟩
  have hY2 : Below w1.heap.size w1 w2 := b_then (by repeat first | exact Below.refl _ _ | apply Below.drew | apply b_alloc) hb2
  have hC2 := hC1.below hY2 hC1.lt
  have hO2 := hO1.below hY2 hO1.lt
  have hP2 := hP1.below hY2 hP1.lt
  have hK2 := hK1.below hY2 hK1.lt
  have hV2 := hV1.below hY2 hV1.lt
  have hL2 : Blk w2 (w1.heap.size) 3 #[.int .i64 L] := (hb2.block _ (by simp <;> omega)).trans (by repeat (first | ((with_reducible refine alloc_here' ?_); (simp; done)) | (with_reducible apply alloc_old') | (with_reducible apply drew_old)))
  have hB2 : Blk w2 (w1.heap.size + 1) 4 #[.bool true] := (hb2.block _ (by simp <;> omega)).trans (by repeat (first | ((with_reducible refine alloc_here' ?_); (simp; done)) | (with_reducible apply alloc_old') | (with_reducible apply drew_old)))
  have hE2 : Blk w2 (w1.heap.size + 1 + 1) 25 #[.int .i64 2] := (hb2.block _ (by simp <;> omega)).trans (by repeat (first | ((with_reducible refine alloc_here' ?_); (simp; done)) | (with_reducible apply alloc_old') | (with_reducible apply drew_old)))
  have hF2 : Blk w2 (w1.heap.size + 1 + 1 + 1) 48 #[.func (.func 37) #[] #[.pointer (some ⟨w.heap.size, 0, none⟩), .pointer (some ⟨w.heap.size + 1 + 1 + 1, 0, none⟩), .pointer (some ⟨w.heap.size + 1 + 1 + 1 + 1, 0, none⟩)], .func (.func 42) #[] #[.pointer (some ⟨w1.heap.size + 1, 0, none⟩), .pointer (some ⟨w1.heap.size + 1 + 1, 0, none⟩)], .func (.func 38) #[] #[.pointer (some ⟨w.heap.size + 1, 0, none⟩), .pointer (some ⟨w.heap.size + 1 + 1, 0, none⟩), .pointer (some ⟨w.heap.size + 1 + 1 + 1, 0, none⟩), .pointer (some ⟨w.heap.size + 1 + 1 + 1 + 1, 0, none⟩), .pointer (some ⟨w1.heap.size, 0, none⟩)]] := (hb2.block _ (by simp <;> omega)).trans (by repeat (first | ((with_reducible refine alloc_here' ?_); (simp; done)) | (with_reducible apply alloc_old') | (with_reducible apply drew_old)))
  have bel2 := b_then bel1 hY2
  clear hC1 hO1 hP1 hK1 hV1 bel1 hb2 cC lC cO lO cP lP cK lK cV lV hY2
  have cC := hC2.cell
  have lC := hC2.lt
  have cO := hO2.cell
  have lO := hO2.lt
  have cP := hP2.cell
  have lP := hP2.lt
  have cK := hK2.cell
  have lK := hK2.lt
  have cV := hV2.cell
  have lV := hV2.lt
  have cL := hL2.cell
  have lL := hL2.lt
  have cB := hB2.cell
  have lB := hB2.lt
  have cE := hE2.cell
  have lE := hE2.lt
  have cF := hF2.cell
  have lF := hF2.lt
  go_wp2_with fail
  rw [rounds_succ]
  go_wp2_with fail
  refine (mustf_yes (w1.heap.size + 1) (w1.heap.size + 1 + 1) _ hB2).mono ?_
  rintro e w3 ⟨rfl, hb3⟩
  have hY3 : Below w2.heap.size w2 w3 := b_then (by repeat first | exact Below.refl _ _ | apply Below.drew | apply b_alloc) hb3
  have hC3 := hC2.below hY3 hC2.lt
  have hO3 := hO2.below hY3 hO2.lt
  have hP3 := hP2.below hY3 hP2.lt
  have hK3 := hK2.below hY3 hK2.lt
  have hV3 := hV2.below hY3 hV2.lt
  have hL3 := hL2.below hY3 hL2.lt
  have hB3 := hB2.below hY3 hB2.lt
  have hE3 := hE2.below hY3 hE2.lt
  have hF3 := hF2.below hY3 hF2.lt
  have bel3 := b_then bel2 hY3
  clear hC2 hO2 hP2 hK2 hV2 hL2 hB2 hE2 hF2 bel2 hb3 cC lC cO lO cP lP cK lK cV lV cL lL cB lB cE lE cF lF hY3
  have cC := hC3.cell
  have lC := hC3.lt
  have cO := hO3.cell
  have lO := hO3.lt
  have cP := hP3.cell
  have lP := hP3.lt
  have cK := hK3.cell
  have lK := hK3.lt
  have cV := hV3.cell
  have lV := hV3.lt
  have cL := hL3.cell
  have lL := hL3.lt
  have cB := hB3.cell
  have lB := hB3.lt
  have cE := hE3.cell
  have lE := hE3.lt
  have cF := hF3.cell
  have lF := hF3.lt
  go_wp2_with fail
  rw [rounds_succ]
  go_wp2_with fail
  refine (hR _ hO3 hP3 hK3 hV3 hL3).mono ?_
  rintro e w4 ⟨rfl, hb4⟩
  have hY4 : Below w3.heap.size w3 w4 := b_then (by repeat first | exact Below.refl _ _ | apply Below.drew | apply b_alloc) hb4
  have hC4 := hC3.below hY4 hC3.lt
  have hO4 := hO3.below hY4 hO3.lt
  have hP4 := hP3.below hY4 hP3.lt
  have hK4 := hK3.below hY4 hK3.lt
  have hV4 := hV3.below hY4 hV3.lt
  have hL4 := hL3.below hY4 hL3.lt
  have hB4 := hB3.below hY4 hB3.lt
  have hE4 := hE3.below hY4 hE3.lt
  have hF4 := hF3.below hY4 hF3.lt
  have bel4 := b_then bel3 hY4
  clear hC3 hO3 hP3 hK3 hV3 hL3 hB3 hE3 hF3 bel3 hb4 cC lC cO lO cP lP cK lK cV lV cL lL cB lB cE lE cF lF hY4
  have cC := hC4.cell
  have lC := hC4.lt
  have cO := hO4.cell
  have lO := hO4.lt
  have cP := hP4.cell
  have lP := hP4.lt
  have cK := hK4.cell
  have lK := hK4.lt
  have cV := hV4.cell
  have lV := hV4.lt
  have cL := hL4.cell
  have lL := hL4.lt
  have cB := hB4.cell
  have lB := hB4.lt
  have cE := hE4.cell
  have lE := hE4.lt
  have cF := hF4.cell
  have lF := hF4.lt
  go_wp2_with fail
  rw [rounds_succ]
  go_wp2_with fail
  go_ret
  exact ⟨rfl, bel4⟩
theorem Put_any (s z r wk k v p cost old : Int) (key val : ByteArray) (w : World) (hk : key.size ≤ maxLen) (hv : val.size ≤ maxLen) :
    Calls Try.prog 17 #[.agg #[.int .i64 s, .int .i64 z, .int .i64 r, .int .i64 wk, .int .i64 k, .int .i64 v, .int .i64 p], .int .i64 cost, .int .i64 old, .string key, .string val] w fun e w' => e = .returned (.int .i64 (aPut s z r wk k v p cost old key val)) ∧ Below w.heap.size w w' := by
  by_cases h1 : aChk s z r wk k v p key val = 0
  · obtain ⟨hc, hf, hvv⟩ := aChk_zero h1
    by_cases h2 : 0 ≤ cost ∧ cost ≤ climit s z r ∧ 0 ≤ old ∧ old ≤ cost
    · have hE : aErr cost old key val = 0 := by
        have hb := climit_bds hc
        have hv5 : v ≤ 512 := by unfold CfgOk at hc; omega
        unfold aErr
        rw [if_neg (by omega), if_neg (by simpa using (fErr_zero hf).2.2.1), if_neg (by omega)]
      by_cases h3 : climit s z r < cost - old + (16 + key.size + val.size)
      · have hr : aPut s z r wk k v p cost old key val = 4 := by unfold aPut; rw [if_neg (by simpa using h1), if_neg (by simpa using h2), if_pos h3]
        rw [hr]
        exact put_F s z r wk k v p cost old key val w hk hv hc h1 h2.1 h2.2.1 h2.2.2.1 h2.2.2.2 hE h3
      · have hr : aPut s z r wk k v p cost old key val = 0 := by unfold aPut; rw [if_neg (by simpa using h1), if_neg (by simpa using h2), if_neg h3]
        rw [hr]
        exact put_Y s z r wk k v p cost old key val w hk hv hc h1 h2.1 h2.2.1 h2.2.2.1 h2.2.2.2 hE (by omega)
    · have hr : aPut s z r wk k v p cost old key val = 2 := by unfold aPut; rw [if_neg (by simpa using h1), if_pos h2]
      rw [hr]
      exact put_N s z r wk k v p cost old key val w hk hv hc h1 h2
  · have hr : aPut s z r wk k v p cost old key val = aChk s z r wk k v p key val := by unfold aPut; rw [if_pos h1]
    rw [hr]
    exact put_E s z r wk k v p cost old key val w hk hv _ rfl h1
end Go.Proofs.Ytkicciinneffcaa
