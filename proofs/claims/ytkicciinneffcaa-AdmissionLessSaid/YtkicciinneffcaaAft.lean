/-
  The cost afterwards.
-/
import Derived.Test.YtkicciinneffcaaAdm
namespace Go.Proofs.Ytkicciinneffcaa
open Go.RowKit
set_option linter.unusedVariables false

theorem aft1_any (g : Nat) (key : ByteArray) (w : World) (hk : key.size ≤ maxLen) (hg : Blk w g 9 #[.string key]) :
    Calls Try.prog 27 #[.pointer (some ⟨g, 0, none⟩)] w fun e w' => e = .returned (.int .i64 (kErr key)) ∧ Below w.heap.size w w' := by
  have c1 := hg.cell
  go_enter Try.func27, Try.ntmps27
  go_wp2_with (go_at_call 28; refine (kErr_any key hk _).mono ?_; rintro e w1 ⟨rfl, hb1⟩)
  go_ret
  exact ⟨rfl, hb1⟩
set_option maxHeartbeats 1600000 in
theorem after_n0 (cost old : Int) (key val : ByteArray) (w : World) (hk : key.size ≤ maxLen) (hv : val.size ≤ maxLen) (h1 : cost < 0) (b : Bool) (hb : decide ((val.size : Int) ≤ 512) = b) :
    Calls Try.prog 11 #[.int .i64 cost, .int .i64 old, .string key, .string val] w fun e w' => e = .returned (.tuple #[.int .i64 0, .int .i64 2]) ∧ Below w.heap.size w w' := by
  unfold maxLen at hv
  have hv' : (val.size : Int) ≤ 9223372036854775807 := by omega
  go_enter Try.func11, Try.ntmps11
  go_wp2_with (first | (go_at_call 26; refine (must_any _ _ _).mono ?_; rintro e w' ⟨rfl, rfl⟩) | go_in)
  refine wp_loop_rounds 4 ?_
  rw [rounds_succ]
  go_wp2_with fail
  refine (mustf_no (w.heap.size + 1) (w.heap.size + 1 + 1) 2 _ (by unfold Blk; repeat (first | ((with_reducible refine alloc_here' ?_); (simp; done)) | (with_reducible apply alloc_old') | (with_reducible apply drew_old))) (by unfold Blk; repeat (first | ((with_reducible refine alloc_here' ?_); (simp; done)) | (with_reducible apply alloc_old') | (with_reducible apply drew_old)))).mono ?_
  rintro e w1 ⟨rfl, hb1⟩
  have hY1 : Below w.heap.size w w1 := b_then (by repeat first | exact Below.refl _ _ | apply Below.drew | apply b_alloc) hb1
  have hK1 : Blk w1 (w.heap.size) 9 #[.string key] := (hb1.block _ (by simp <;> omega)).trans (by repeat (first | ((with_reducible refine alloc_here' ?_); (simp; done)) | (with_reducible apply alloc_old') | (with_reducible apply drew_old)))
  have hB1 : Blk w1 (w.heap.size + 1) 4 #[.bool false] := (hb1.block _ (by simp <;> omega)).trans (by repeat (first | ((with_reducible refine alloc_here' ?_); (simp; done)) | (with_reducible apply alloc_old') | (with_reducible apply drew_old)))
  have hE1 : Blk w1 (w.heap.size + 1 + 1) 25 #[.int .i64 2] := (hb1.block _ (by simp <;> omega)).trans (by repeat (first | ((with_reducible refine alloc_here' ?_); (simp; done)) | (with_reducible apply alloc_old') | (with_reducible apply drew_old)))
  have hD1 : Blk w1 (w.heap.size + 1 + 1 + 1) 4 #[.bool b] := (hb1.block _ (by simp <;> omega)).trans (by repeat (first | ((with_reducible refine alloc_here' ?_); (simp; done)) | (with_reducible apply alloc_old') | (with_reducible apply drew_old)))
  have hG1 : Blk w1 (w.heap.size + 1 + 1 + 1 + 1) 25 #[.int .i64 12] := (hb1.block _ (by simp <;> omega)).trans (by repeat (first | ((with_reducible refine alloc_here' ?_); (simp; done)) | (with_reducible apply alloc_old') | (with_reducible apply drew_old)))
  have hF1 : Blk w1 (w.heap.size + 1 + 1 + 1 + 1 + 1) 48 #[.func (.func 42) #[] #[.pointer (some ⟨w.heap.size + 1, 0, none⟩), .pointer (some ⟨w.heap.size + 1 + 1, 0, none⟩)], .func (.func 27) #[] #[.pointer (some ⟨w.heap.size, 0, none⟩)], .func (.func 42) #[] #[.pointer (some ⟨w.heap.size + 1 + 1 + 1, 0, none⟩), .pointer (some ⟨w.heap.size + 1 + 1 + 1 + 1, 0, none⟩)]] := (hb1.block _ (by simp <;> omega)).trans (by repeat (first | ((with_reducible refine alloc_here' ?_); (simp; done)) | (with_reducible apply alloc_old') | (with_reducible apply drew_old)))
  have bel1 := hY1
  clear hb1
  have cK := hK1.cell
  have lK := hK1.lt
  have cB := hB1.cell
  have lB := hB1.lt
  have cE := hE1.cell
  have lE := hE1.lt
  have cD := hD1.cell
  have lD := hD1.lt
  have cG := hG1.cell
  have lG := hG1.lt
  have cF := hF1.cell
  have lF := hF1.lt
  go_wp2_with fail
  go_ret2
  exact ⟨rfl, bel1⟩
set_option maxHeartbeats 1600000 in
theorem after_n1 (cost old : Int) (key val : ByteArray) (w : World) (hk : key.size ≤ maxLen) (hv : val.size ≤ maxLen) (h1 : 0 ≤ cost) (h2 : 262144 < cost) (b : Bool) (hb : decide ((val.size : Int) ≤ 512) = b) :
    Calls Try.prog 11 #[.int .i64 cost, .int .i64 old, .string key, .string val] w fun e w' => e = .returned (.tuple #[.int .i64 0, .int .i64 2]) ∧ Below w.heap.size w w' := by
  unfold maxLen at hv
  have hv' : (val.size : Int) ≤ 9223372036854775807 := by omega
  go_enter Try.func11, Try.ntmps11
  go_wp2_with (first | (go_at_call 26; refine (must_any _ _ _).mono ?_; rintro e w' ⟨rfl, rfl⟩) | go_in)
  refine wp_loop_rounds 4 ?_
  rw [rounds_succ]
  go_wp2_with fail
  refine (mustf_no (w.heap.size + 1) (w.heap.size + 1 + 1) 2 _ (by unfold Blk; repeat (first | ((with_reducible refine alloc_here' ?_); (simp; done)) | (with_reducible apply alloc_old') | (with_reducible apply drew_old))) (by unfold Blk; repeat (first | ((with_reducible refine alloc_here' ?_); (simp; done)) | (with_reducible apply alloc_old') | (with_reducible apply drew_old)))).mono ?_
  rintro e w1 ⟨rfl, hb1⟩
  have hY1 : Below w.heap.size w w1 := b_then (by repeat first | exact Below.refl _ _ | apply Below.drew | apply b_alloc) hb1
  have hK1 : Blk w1 (w.heap.size) 9 #[.string key] := (hb1.block _ (by simp <;> omega)).trans (by repeat (first | ((with_reducible refine alloc_here' ?_); (simp; done)) | (with_reducible apply alloc_old') | (with_reducible apply drew_old)))
  have hB1 : Blk w1 (w.heap.size + 1) 4 #[.bool false] := (hb1.block _ (by simp <;> omega)).trans (by repeat (first | ((with_reducible refine alloc_here' ?_); (simp; done)) | (with_reducible apply alloc_old') | (with_reducible apply drew_old)))
  have hE1 : Blk w1 (w.heap.size + 1 + 1) 25 #[.int .i64 2] := (hb1.block _ (by simp <;> omega)).trans (by repeat (first | ((with_reducible refine alloc_here' ?_); (simp; done)) | (with_reducible apply alloc_old') | (with_reducible apply drew_old)))
  have hD1 : Blk w1 (w.heap.size + 1 + 1 + 1) 4 #[.bool b] := (hb1.block _ (by simp <;> omega)).trans (by repeat (first | ((with_reducible refine alloc_here' ?_); (simp; done)) | (with_reducible apply alloc_old') | (with_reducible apply drew_old)))
  have hG1 : Blk w1 (w.heap.size + 1 + 1 + 1 + 1) 25 #[.int .i64 12] := (hb1.block _ (by simp <;> omega)).trans (by repeat (first | ((with_reducible refine alloc_here' ?_); (simp; done)) | (with_reducible apply alloc_old') | (with_reducible apply drew_old)))
  have hF1 : Blk w1 (w.heap.size + 1 + 1 + 1 + 1 + 1) 48 #[.func (.func 42) #[] #[.pointer (some ⟨w.heap.size + 1, 0, none⟩), .pointer (some ⟨w.heap.size + 1 + 1, 0, none⟩)], .func (.func 27) #[] #[.pointer (some ⟨w.heap.size, 0, none⟩)], .func (.func 42) #[] #[.pointer (some ⟨w.heap.size + 1 + 1 + 1, 0, none⟩), .pointer (some ⟨w.heap.size + 1 + 1 + 1 + 1, 0, none⟩)]] := (hb1.block _ (by simp <;> omega)).trans (by repeat (first | ((with_reducible refine alloc_here' ?_); (simp; done)) | (with_reducible apply alloc_old') | (with_reducible apply drew_old)))
  have bel1 := hY1
  clear hb1
  have cK := hK1.cell
  have lK := hK1.lt
  have cB := hB1.cell
  have lB := hB1.lt
  have cE := hE1.cell
  have lE := hE1.lt
  have cD := hD1.cell
  have lD := hD1.lt
  have cG := hG1.cell
  have lG := hG1.lt
  have cF := hF1.cell
  have lF := hF1.lt
  go_wp2_with fail
  go_ret2
  exact ⟨rfl, bel1⟩
set_option maxHeartbeats 1600000 in
theorem after_n2 (cost old : Int) (key val : ByteArray) (w : World) (hk : key.size ≤ maxLen) (hv : val.size ≤ maxLen) (h1 : 0 ≤ cost) (h2 : cost ≤ 262144) (h3 : old < 0) (b : Bool) (hb : decide ((val.size : Int) ≤ 512) = b) :
    Calls Try.prog 11 #[.int .i64 cost, .int .i64 old, .string key, .string val] w fun e w' => e = .returned (.tuple #[.int .i64 0, .int .i64 2]) ∧ Below w.heap.size w w' := by
  unfold maxLen at hv
  have hv' : (val.size : Int) ≤ 9223372036854775807 := by omega
  go_enter Try.func11, Try.ntmps11
  go_wp2_with (first | (go_at_call 26; refine (must_any _ _ _).mono ?_; rintro e w' ⟨rfl, rfl⟩) | go_in)
  refine wp_loop_rounds 4 ?_
  rw [rounds_succ]
  go_wp2_with fail
  refine (mustf_no (w.heap.size + 1) (w.heap.size + 1 + 1) 2 _ (by unfold Blk; repeat (first | ((with_reducible refine alloc_here' ?_); (simp; done)) | (with_reducible apply alloc_old') | (with_reducible apply drew_old))) (by unfold Blk; repeat (first | ((with_reducible refine alloc_here' ?_); (simp; done)) | (with_reducible apply alloc_old') | (with_reducible apply drew_old)))).mono ?_
  rintro e w1 ⟨rfl, hb1⟩
  have hY1 : Below w.heap.size w w1 := b_then (by repeat first | exact Below.refl _ _ | apply Below.drew | apply b_alloc) hb1
  have hK1 : Blk w1 (w.heap.size) 9 #[.string key] := (hb1.block _ (by simp <;> omega)).trans (by repeat (first | ((with_reducible refine alloc_here' ?_); (simp; done)) | (with_reducible apply alloc_old') | (with_reducible apply drew_old)))
  have hB1 : Blk w1 (w.heap.size + 1) 4 #[.bool false] := (hb1.block _ (by simp <;> omega)).trans (by repeat (first | ((with_reducible refine alloc_here' ?_); (simp; done)) | (with_reducible apply alloc_old') | (with_reducible apply drew_old)))
  have hE1 : Blk w1 (w.heap.size + 1 + 1) 25 #[.int .i64 2] := (hb1.block _ (by simp <;> omega)).trans (by repeat (first | ((with_reducible refine alloc_here' ?_); (simp; done)) | (with_reducible apply alloc_old') | (with_reducible apply drew_old)))
  have hD1 : Blk w1 (w.heap.size + 1 + 1 + 1) 4 #[.bool b] := (hb1.block _ (by simp <;> omega)).trans (by repeat (first | ((with_reducible refine alloc_here' ?_); (simp; done)) | (with_reducible apply alloc_old') | (with_reducible apply drew_old)))
  have hG1 : Blk w1 (w.heap.size + 1 + 1 + 1 + 1) 25 #[.int .i64 12] := (hb1.block _ (by simp <;> omega)).trans (by repeat (first | ((with_reducible refine alloc_here' ?_); (simp; done)) | (with_reducible apply alloc_old') | (with_reducible apply drew_old)))
  have hF1 : Blk w1 (w.heap.size + 1 + 1 + 1 + 1 + 1) 48 #[.func (.func 42) #[] #[.pointer (some ⟨w.heap.size + 1, 0, none⟩), .pointer (some ⟨w.heap.size + 1 + 1, 0, none⟩)], .func (.func 27) #[] #[.pointer (some ⟨w.heap.size, 0, none⟩)], .func (.func 42) #[] #[.pointer (some ⟨w.heap.size + 1 + 1 + 1, 0, none⟩), .pointer (some ⟨w.heap.size + 1 + 1 + 1 + 1, 0, none⟩)]] := (hb1.block _ (by simp <;> omega)).trans (by repeat (first | ((with_reducible refine alloc_here' ?_); (simp; done)) | (with_reducible apply alloc_old') | (with_reducible apply drew_old)))
  have bel1 := hY1
  clear hb1
  have cK := hK1.cell
  have lK := hK1.lt
  have cB := hB1.cell
  have lB := hB1.lt
  have cE := hE1.cell
  have lE := hE1.lt
  have cD := hD1.cell
  have lD := hD1.lt
  have cG := hG1.cell
  have lG := hG1.lt
  have cF := hF1.cell
  have lF := hF1.lt
  go_wp2_with fail
  go_ret2
  exact ⟨rfl, bel1⟩
set_option maxHeartbeats 1600000 in
theorem after_n3 (cost old : Int) (key val : ByteArray) (w : World) (hk : key.size ≤ maxLen) (hv : val.size ≤ maxLen) (h1 : 0 ≤ cost) (h2 : cost ≤ 262144) (h3 : 0 ≤ old) (h4 : cost < old) (b : Bool) (hb : decide ((val.size : Int) ≤ 512) = b) :
    Calls Try.prog 11 #[.int .i64 cost, .int .i64 old, .string key, .string val] w fun e w' => e = .returned (.tuple #[.int .i64 0, .int .i64 2]) ∧ Below w.heap.size w w' := by
  unfold maxLen at hv
  have hv' : (val.size : Int) ≤ 9223372036854775807 := by omega
  have hb4 : decide (old ≤ cost) = false := decide_eq_false (by omega)
  clear h4
  go_enter Try.func11, Try.ntmps11
  go_wp2_with (first | (go_at_call 26; refine (must_any _ _ _).mono ?_; rintro e w' ⟨rfl, rfl⟩) | go_in)
  refine wp_loop_rounds 4 ?_
  rw [rounds_succ]
  go_wp2_with fail
  refine (mustf_no (w.heap.size + 1) (w.heap.size + 1 + 1) 2 _ (by unfold Blk; repeat (first | ((with_reducible refine alloc_here' ?_); (simp; done)) | (with_reducible apply alloc_old') | (with_reducible apply drew_old))) (by unfold Blk; repeat (first | ((with_reducible refine alloc_here' ?_); (simp; done)) | (with_reducible apply alloc_old') | (with_reducible apply drew_old)))).mono ?_
  rintro e w1 ⟨rfl, hb1⟩
  have hY1 : Below w.heap.size w w1 := b_then (by repeat first | exact Below.refl _ _ | apply Below.drew | apply b_alloc) hb1
  have hK1 : Blk w1 (w.heap.size) 9 #[.string key] := (hb1.block _ (by simp <;> omega)).trans (by repeat (first | ((with_reducible refine alloc_here' ?_); (simp; done)) | (with_reducible apply alloc_old') | (with_reducible apply drew_old)))
  have hB1 : Blk w1 (w.heap.size + 1) 4 #[.bool false] := (hb1.block _ (by simp <;> omega)).trans (by repeat (first | ((with_reducible refine alloc_here' ?_); (simp; done)) | (with_reducible apply alloc_old') | (with_reducible apply drew_old)))
  have hE1 : Blk w1 (w.heap.size + 1 + 1) 25 #[.int .i64 2] := (hb1.block _ (by simp <;> omega)).trans (by repeat (first | ((with_reducible refine alloc_here' ?_); (simp; done)) | (with_reducible apply alloc_old') | (with_reducible apply drew_old)))
  have hD1 : Blk w1 (w.heap.size + 1 + 1 + 1) 4 #[.bool b] := (hb1.block _ (by simp <;> omega)).trans (by repeat (first | ((with_reducible refine alloc_here' ?_); (simp; done)) | (with_reducible apply alloc_old') | (with_reducible apply drew_old)))
  have hG1 : Blk w1 (w.heap.size + 1 + 1 + 1 + 1) 25 #[.int .i64 12] := (hb1.block _ (by simp <;> omega)).trans (by repeat (first | ((with_reducible refine alloc_here' ?_); (simp; done)) | (with_reducible apply alloc_old') | (with_reducible apply drew_old)))
  have hF1 : Blk w1 (w.heap.size + 1 + 1 + 1 + 1 + 1) 48 #[.func (.func 42) #[] #[.pointer (some ⟨w.heap.size + 1, 0, none⟩), .pointer (some ⟨w.heap.size + 1 + 1, 0, none⟩)], .func (.func 27) #[] #[.pointer (some ⟨w.heap.size, 0, none⟩)], .func (.func 42) #[] #[.pointer (some ⟨w.heap.size + 1 + 1 + 1, 0, none⟩), .pointer (some ⟨w.heap.size + 1 + 1 + 1 + 1, 0, none⟩)]] := (hb1.block _ (by simp <;> omega)).trans (by repeat (first | ((with_reducible refine alloc_here' ?_); (simp; done)) | (with_reducible apply alloc_old') | (with_reducible apply drew_old)))
  have bel1 := hY1
  clear hb1
  have cK := hK1.cell
  have lK := hK1.lt
  have cB := hB1.cell
  have lB := hB1.lt
  have cE := hE1.cell
  have lE := hE1.lt
  have cD := hD1.cell
  have lD := hD1.lt
  have cG := hG1.cell
  have lG := hG1.lt
  have cF := hF1.cell
  have lF := hF1.lt
  go_wp2_with fail
  go_ret2
  exact ⟨rfl, bel1⟩
set_option maxHeartbeats 1600000 in
theorem after_k (cost old : Int) (key val : ByteArray) (w : World) (hk : key.size ≤ maxLen) (hv : val.size ≤ maxLen) (h1 : 0 ≤ cost) (h2 : cost ≤ 262144) (h3 : 0 ≤ old) (h4 : old ≤ cost) (b : Bool) (hb : decide ((val.size : Int) ≤ 512) = b) (q : Int) (hq : kErr key = q) (hq0 : q ≠ 0) :
    Calls Try.prog 11 #[.int .i64 cost, .int .i64 old, .string key, .string val] w fun e w' => e = .returned (.tuple #[.int .i64 0, .int .i64 q]) ∧ Below w.heap.size w w' := by
  unfold maxLen at hv
  have hv' : (val.size : Int) ≤ 9223372036854775807 := by omega
  have hF := fun (w' : World) h1 => aft1_any w.heap.size key w' hk h1
  rw [hq] at hF
  clear hq
  have n1 : (q == 0) = false := by simpa using hq0
  have n2 : (q != 0) = true := by simpa using hq0
  clear hq0
  go_enter Try.func11, Try.ntmps11
  go_wp2_with (first | (go_at_call 26; refine (must_any _ _ _).mono ?_; rintro e w' ⟨rfl, rfl⟩) | go_in)
  refine wp_loop_rounds 4 ?_
  rw [rounds_succ]
  go_wp2_with fail
  refine (mustf_yes (w.heap.size + 1) (w.heap.size + 1 + 1) _ (by unfold Blk; repeat (first | ((with_reducible refine alloc_here' ?_); (simp; done)) | (with_reducible apply alloc_old') | (with_reducible apply drew_old))) ).mono ?_
  rintro e w1 ⟨rfl, hb1⟩
  have hY1 : Below w.heap.size w w1 := b_then (by repeat first | exact Below.refl _ _ | apply Below.drew | apply b_alloc) hb1
  have hK1 : Blk w1 (w.heap.size) 9 #[.string key] := (hb1.block _ (by simp <;> omega)).trans (by repeat (first | ((with_reducible refine alloc_here' ?_); (simp; done)) | (with_reducible apply alloc_old') | (with_reducible apply drew_old)))
  have hB1 : Blk w1 (w.heap.size + 1) 4 #[.bool true] := (hb1.block _ (by simp <;> omega)).trans (by repeat (first | ((with_reducible refine alloc_here' ?_); (simp; done)) | (with_reducible apply alloc_old') | (with_reducible apply drew_old)))
  have hE1 : Blk w1 (w.heap.size + 1 + 1) 25 #[.int .i64 2] := (hb1.block _ (by simp <;> omega)).trans (by repeat (first | ((with_reducible refine alloc_here' ?_); (simp; done)) | (with_reducible apply alloc_old') | (with_reducible apply drew_old)))
  have hD1 : Blk w1 (w.heap.size + 1 + 1 + 1) 4 #[.bool b] := (hb1.block _ (by simp <;> omega)).trans (by repeat (first | ((with_reducible refine alloc_here' ?_); (simp; done)) | (with_reducible apply alloc_old') | (with_reducible apply drew_old)))
  have hG1 : Blk w1 (w.heap.size + 1 + 1 + 1 + 1) 25 #[.int .i64 12] := (hb1.block _ (by simp <;> omega)).trans (by repeat (first | ((with_reducible refine alloc_here' ?_); (simp; done)) | (with_reducible apply alloc_old') | (with_reducible apply drew_old)))
  have hF1 : Blk w1 (w.heap.size + 1 + 1 + 1 + 1 + 1) 48 #[.func (.func 42) #[] #[.pointer (some ⟨w.heap.size + 1, 0, none⟩), .pointer (some ⟨w.heap.size + 1 + 1, 0, none⟩)], .func (.func 27) #[] #[.pointer (some ⟨w.heap.size, 0, none⟩)], .func (.func 42) #[] #[.pointer (some ⟨w.heap.size + 1 + 1 + 1, 0, none⟩), .pointer (some ⟨w.heap.size + 1 + 1 + 1 + 1, 0, none⟩)]] := (hb1.block _ (by simp <;> omega)).trans (by repeat (first | ((with_reducible refine alloc_here' ?_); (simp; done)) | (with_reducible apply alloc_old') | (with_reducible apply drew_old)))
  have bel1 := hY1
  clear hb1
  have cK := hK1.cell
  have lK := hK1.lt
  have cB := hB1.cell
  have lB := hB1.lt
  have cE := hE1.cell
  have lE := hE1.lt
  have cD := hD1.cell
  have lD := hD1.lt
  have cG := hG1.cell
  have lG := hG1.lt
  have cF := hF1.cell
  have lF := hF1.lt
  go_wp2_with fail
  rw [rounds_succ]
  go_wp2_with fail
  refine (hF _ hK1).mono ?_
  rintro e w2 ⟨rfl, hb2⟩
  have hY2 : Below w1.heap.size w1 w2 := b_then (by repeat first | exact Below.refl _ _ | apply Below.drew | apply b_alloc) hb2
  have hK2 := hK1.below hY2 hK1.lt
  have hB2 := hB1.below hY2 hB1.lt
  have hE2 := hE1.below hY2 hE1.lt
  have hD2 := hD1.below hY2 hD1.lt
  have hG2 := hG1.below hY2 hG1.lt
  have hF2 := hF1.below hY2 hF1.lt
  have bel2 := b_then bel1 hY2
  clear hK1 hB1 hE1 hD1 hG1 hF1 bel1 hb2 cK lK cB lB cE lE cD lD cG lG cF lF hY2
  have cK := hK2.cell
  have lK := hK2.lt
  have cB := hB2.cell
  have lB := hB2.lt
  have cE := hE2.cell
  have lE := hE2.lt
  have cD := hD2.cell
  have lD := hD2.lt
  have cG := hG2.cell
  have lG := hG2.lt
  have cF := hF2.cell
  have lF := hF2.lt
  go_wp2_with fail
  go_ret2
  exact ⟨rfl, bel2⟩
set_option maxHeartbeats 1600000 in
theorem after_v (cost old : Int) (key val : ByteArray) (w : World) (hk : key.size ≤ maxLen) (hv : val.size ≤ maxLen) (h1 : 0 ≤ cost) (h2 : cost ≤ 262144) (h3 : 0 ≤ old) (h4 : old ≤ cost) (hv1 : 512 < (val.size : Int)) (hq : kErr key = 0) :
    Calls Try.prog 11 #[.int .i64 cost, .int .i64 old, .string key, .string val] w fun e w' => e = .returned (.tuple #[.int .i64 0, .int .i64 12]) ∧ Below w.heap.size w w' := by
  unfold maxLen at hv
  have hv' : (val.size : Int) ≤ 9223372036854775807 := by omega
  have hb : decide ((val.size : Int) ≤ 512) = false := decide_eq_false (by omega)
  clear hv1
  have hF := fun (w' : World) h1 => aft1_any w.heap.size key w' hk h1
  rw [hq] at hF
  clear hq
  go_enter Try.func11, Try.ntmps11
  go_wp2_with (first | (go_at_call 26; refine (must_any _ _ _).mono ?_; rintro e w' ⟨rfl, rfl⟩) | go_in)
  refine wp_loop_rounds 4 ?_
  rw [rounds_succ]
  go_wp2_with fail
  refine (mustf_yes (w.heap.size + 1) (w.heap.size + 1 + 1) _ (by unfold Blk; repeat (first | ((with_reducible refine alloc_here' ?_); (simp; done)) | (with_reducible apply alloc_old') | (with_reducible apply drew_old))) ).mono ?_
  rintro e w1 ⟨rfl, hb1⟩
  have hY1 : Below w.heap.size w w1 := b_then (by repeat first | exact Below.refl _ _ | apply Below.drew | apply b_alloc) hb1
  have hK1 : Blk w1 (w.heap.size) 9 #[.string key] := (hb1.block _ (by simp <;> omega)).trans (by repeat (first | ((with_reducible refine alloc_here' ?_); (simp; done)) | (with_reducible apply alloc_old') | (with_reducible apply drew_old)))
  have hB1 : Blk w1 (w.heap.size + 1) 4 #[.bool true] := (hb1.block _ (by simp <;> omega)).trans (by repeat (first | ((with_reducible refine alloc_here' ?_); (simp; done)) | (with_reducible apply alloc_old') | (with_reducible apply drew_old)))
  have hE1 : Blk w1 (w.heap.size + 1 + 1) 25 #[.int .i64 2] := (hb1.block _ (by simp <;> omega)).trans (by repeat (first | ((with_reducible refine alloc_here' ?_); (simp; done)) | (with_reducible apply alloc_old') | (with_reducible apply drew_old)))
  have hD1 : Blk w1 (w.heap.size + 1 + 1 + 1) 4 #[.bool false] := (hb1.block _ (by simp <;> omega)).trans (by repeat (first | ((with_reducible refine alloc_here' ?_); (simp; done)) | (with_reducible apply alloc_old') | (with_reducible apply drew_old)))
  have hG1 : Blk w1 (w.heap.size + 1 + 1 + 1 + 1) 25 #[.int .i64 12] := (hb1.block _ (by simp <;> omega)).trans (by repeat (first | ((with_reducible refine alloc_here' ?_); (simp; done)) | (with_reducible apply alloc_old') | (with_reducible apply drew_old)))
  have hF1 : Blk w1 (w.heap.size + 1 + 1 + 1 + 1 + 1) 48 #[.func (.func 42) #[] #[.pointer (some ⟨w.heap.size + 1, 0, none⟩), .pointer (some ⟨w.heap.size + 1 + 1, 0, none⟩)], .func (.func 27) #[] #[.pointer (some ⟨w.heap.size, 0, none⟩)], .func (.func 42) #[] #[.pointer (some ⟨w.heap.size + 1 + 1 + 1, 0, none⟩), .pointer (some ⟨w.heap.size + 1 + 1 + 1 + 1, 0, none⟩)]] := (hb1.block _ (by simp <;> omega)).trans (by repeat (first | ((with_reducible refine alloc_here' ?_); (simp; done)) | (with_reducible apply alloc_old') | (with_reducible apply drew_old)))
  have bel1 := hY1
  clear hb1
  have cK := hK1.cell
  have lK := hK1.lt
  have cB := hB1.cell
  have lB := hB1.lt
  have cE := hE1.cell
  have lE := hE1.lt
  have cD := hD1.cell
  have lD := hD1.lt
  have cG := hG1.cell
  have lG := hG1.lt
  have cF := hF1.cell
  have lF := hF1.lt
  go_wp2_with fail
  rw [rounds_succ]
  go_wp2_with fail
  refine (hF _ hK1).mono ?_
  rintro e w2 ⟨rfl, hb2⟩
  have hY2 : Below w1.heap.size w1 w2 := b_then (by repeat first | exact Below.refl _ _ | apply Below.drew | apply b_alloc) hb2
  have hK2 := hK1.below hY2 hK1.lt
  have hB2 := hB1.below hY2 hB1.lt
  have hE2 := hE1.below hY2 hE1.lt
  have hD2 := hD1.below hY2 hD1.lt
  have hG2 := hG1.below hY2 hG1.lt
  have hF2 := hF1.below hY2 hF1.lt
  have bel2 := b_then bel1 hY2
  clear hK1 hB1 hE1 hD1 hG1 hF1 bel1 hb2 cK lK cB lB cE lE cD lD cG lG cF lF hY2
  have cK := hK2.cell
  have lK := hK2.lt
  have cB := hB2.cell
  have lB := hB2.lt
  have cE := hE2.cell
  have lE := hE2.lt
  have cD := hD2.cell
  have lD := hD2.lt
  have cG := hG2.cell
  have lG := hG2.lt
  have cF := hF2.cell
  have lF := hF2.lt
  go_wp2_with fail
  rw [rounds_succ]
  go_wp2_with fail
  refine (mustf_no (w.heap.size + 1 + 1 + 1) (w.heap.size + 1 + 1 + 1 + 1) 12 _ hD2 hG2).mono ?_
  rintro e w3 ⟨rfl, hb3⟩
  have hY3 : Below w2.heap.size w2 w3 := b_then (by repeat first | exact Below.refl _ _ | apply Below.drew | apply b_alloc) hb3
  have hK3 := hK2.below hY3 hK2.lt
  have hB3 := hB2.below hY3 hB2.lt
  have hE3 := hE2.below hY3 hE2.lt
  have hD3 := hD2.below hY3 hD2.lt
  have hG3 := hG2.below hY3 hG2.lt
  have hF3 := hF2.below hY3 hF2.lt
  have bel3 := b_then bel2 hY3
  clear hK2 hB2 hE2 hD2 hG2 hF2 bel2 hb3 cK lK cB lB cE lE cD lD cG lG cF lF hY3
  have cK := hK3.cell
  have lK := hK3.lt
  have cB := hB3.cell
  have lB := hB3.lt
  have cE := hE3.cell
  have lE := hE3.lt
  have cD := hD3.cell
  have lD := hD3.lt
  have cG := hG3.cell
  have lG := hG3.lt
  have cF := hF3.cell
  have lF := hF3.lt
  go_wp2_with fail
  go_ret2
  exact ⟨rfl, bel3⟩
set_option maxHeartbeats 1600000 in
theorem after_y (cost old : Int) (key val : ByteArray) (w : World) (hk : key.size ≤ maxLen) (hv : val.size ≤ maxLen) (h1 : 0 ≤ cost) (h2 : cost ≤ 262144) (h3 : 0 ≤ old) (h4 : old ≤ cost) (hv1 : (val.size : Int) ≤ 512) (hq : kErr key = 0) :
    Calls Try.prog 11 #[.int .i64 cost, .int .i64 old, .string key, .string val] w fun e w' => e = .returned (.tuple #[.int .i64 (cost - old + (16 + key.size + val.size)), .int .i64 0]) ∧ Below w.heap.size w w' := by
  unfold maxLen at hv
  have hv' : (val.size : Int) ≤ 9223372036854775807 := by omega
  have hb : decide ((val.size : Int) ≤ 512) = true := decide_eq_true hv1
  have hvn : val.size < 513 := by omega
  clear hv1
  have hk32 : (key.size : Int) ≤ 32 := by have := (kErr_zero hq).2.2; omega
  have hF := fun (w' : World) h1 => aft1_any w.heap.size key w' hk h1
  rw [hq] at hF
  clear hq
  go_enter Try.func11, Try.ntmps11
  go_wp2_with (first | (go_at_call 26; refine (must_any _ _ _).mono ?_; rintro e w' ⟨rfl, rfl⟩) | go_in)
  refine wp_loop_rounds 4 ?_
  rw [rounds_succ]
  go_wp2_with fail
  refine (mustf_yes (w.heap.size + 1) (w.heap.size + 1 + 1) _ (by unfold Blk; repeat (first | ((with_reducible refine alloc_here' ?_); (simp; done)) | (with_reducible apply alloc_old') | (with_reducible apply drew_old))) ).mono ?_
  rintro e w1 ⟨rfl, hb1⟩
  have hY1 : Below w.heap.size w w1 := b_then (by repeat first | exact Below.refl _ _ | apply Below.drew | apply b_alloc) hb1
  have hK1 : Blk w1 (w.heap.size) 9 #[.string key] := (hb1.block _ (by simp <;> omega)).trans (by repeat (first | ((with_reducible refine alloc_here' ?_); (simp; done)) | (with_reducible apply alloc_old') | (with_reducible apply drew_old)))
  have hB1 : Blk w1 (w.heap.size + 1) 4 #[.bool true] := (hb1.block _ (by simp <;> omega)).trans (by repeat (first | ((with_reducible refine alloc_here' ?_); (simp; done)) | (with_reducible apply alloc_old') | (with_reducible apply drew_old)))
  have hE1 : Blk w1 (w.heap.size + 1 + 1) 25 #[.int .i64 2] := (hb1.block _ (by simp <;> omega)).trans (by repeat (first | ((with_reducible refine alloc_here' ?_); (simp; done)) | (with_reducible apply alloc_old') | (with_reducible apply drew_old)))
  have hD1 : Blk w1 (w.heap.size + 1 + 1 + 1) 4 #[.bool true] := (hb1.block _ (by simp <;> omega)).trans (by repeat (first | ((with_reducible refine alloc_here' ?_); (simp; done)) | (with_reducible apply alloc_old') | (with_reducible apply drew_old)))
  have hG1 : Blk w1 (w.heap.size + 1 + 1 + 1 + 1) 25 #[.int .i64 12] := (hb1.block _ (by simp <;> omega)).trans (by repeat (first | ((with_reducible refine alloc_here' ?_); (simp; done)) | (with_reducible apply alloc_old') | (with_reducible apply drew_old)))
  have hF1 : Blk w1 (w.heap.size + 1 + 1 + 1 + 1 + 1) 48 #[.func (.func 42) #[] #[.pointer (some ⟨w.heap.size + 1, 0, none⟩), .pointer (some ⟨w.heap.size + 1 + 1, 0, none⟩)], .func (.func 27) #[] #[.pointer (some ⟨w.heap.size, 0, none⟩)], .func (.func 42) #[] #[.pointer (some ⟨w.heap.size + 1 + 1 + 1, 0, none⟩), .pointer (some ⟨w.heap.size + 1 + 1 + 1 + 1, 0, none⟩)]] := (hb1.block _ (by simp <;> omega)).trans (by repeat (first | ((with_reducible refine alloc_here' ?_); (simp; done)) | (with_reducible apply alloc_old') | (with_reducible apply drew_old)))
  have bel1 := hY1
  clear hb1
  have cK := hK1.cell
  have lK := hK1.lt
  have cB := hB1.cell
  have lB := hB1.lt
  have cE := hE1.cell
  have lE := hE1.lt
  have cD := hD1.cell
  have lD := hD1.lt
  have cG := hG1.cell
  have lG := hG1.lt
  have cF := hF1.cell
  have lF := hF1.lt
  go_wp2_with fail
  rw [rounds_succ]
  go_wp2_with fail
  refine (hF _ hK1).mono ?_
  rintro e w2 ⟨rfl, hb2⟩
  have hY2 : Below w1.heap.size w1 w2 := b_then (by repeat first | exact Below.refl _ _ | apply Below.drew | apply b_alloc) hb2
  have hK2 := hK1.below hY2 hK1.lt
  have hB2 := hB1.below hY2 hB1.lt
  have hE2 := hE1.below hY2 hE1.lt
  have hD2 := hD1.below hY2 hD1.lt
  have hG2 := hG1.below hY2 hG1.lt
  have hF2 := hF1.below hY2 hF1.lt
  have bel2 := b_then bel1 hY2
  clear hK1 hB1 hE1 hD1 hG1 hF1 bel1 hb2 cK lK cB lB cE lE cD lD cG lG cF lF hY2
  have cK := hK2.cell
  have lK := hK2.lt
  have cB := hB2.cell
  have lB := hB2.lt
  have cE := hE2.cell
  have lE := hE2.lt
  have cD := hD2.cell
  have lD := hD2.lt
  have cG := hG2.cell
  have lG := hG2.lt
  have cF := hF2.cell
  have lF := hF2.lt
  go_wp2_with fail
  rw [rounds_succ]
  go_wp2_with fail
  refine (mustf_yes (w.heap.size + 1 + 1 + 1) (w.heap.size + 1 + 1 + 1 + 1) _ hD2 ).mono ?_
  rintro e w3 ⟨rfl, hb3⟩
  have hY3 : Below w2.heap.size w2 w3 := b_then (by repeat first | exact Below.refl _ _ | apply Below.drew | apply b_alloc) hb3
  have hK3 := hK2.below hY3 hK2.lt
  have hB3 := hB2.below hY3 hB2.lt
  have hE3 := hE2.below hY3 hE2.lt
  have hD3 := hD2.below hY3 hD2.lt
  have hG3 := hG2.below hY3 hG2.lt
  have hF3 := hF2.below hY3 hF2.lt
  have bel3 := b_then bel2 hY3
  clear hK2 hB2 hE2 hD2 hG2 hF2 bel2 hb3 cK lK cB lB cE lE cD lD cG lG cF lF hY3
  have cK := hK3.cell
  have lK := hK3.lt
  have cB := hB3.cell
  have lB := hB3.lt
  have cE := hE3.cell
  have lE := hE3.lt
  have cD := hD3.cell
  have lD := hD3.lt
  have cG := hG3.cell
  have lG := hG3.lt
  have cF := hF3.cell
  have lF := hF3.lt
  go_wp2_with fail
  rw [rounds_succ]
  go_wp2_with fail
  refine (cost_any key val _ (by omega) (by omega)).mono ?_
  rintro e w4 ⟨rfl, rfl⟩
  go_wp2_with fail
  go_ret2
  exact ⟨rfl, bel3⟩
theorem After_any (cost old : Int) (key val : ByteArray) (w : World) (hk : key.size ≤ maxLen) (hv : val.size ≤ maxLen) :
    Calls Try.prog 11 #[.int .i64 cost, .int .i64 old, .string key, .string val] w fun e w' => e = .returned (.tuple #[.int .i64 (aVal cost old key val), .int .i64 (aErr cost old key val)]) ∧ Below w.heap.size w w' := by
  by_cases hc : 0 ≤ cost ∧ cost ≤ 262144 ∧ 0 ≤ old ∧ old ≤ cost
  · obtain ⟨h1, h2, h3, h4⟩ := hc
    by_cases hq : kErr key = 0
    · by_cases hv1 : 512 < val.size
      · have he : aErr cost old key val = 12 := by unfold aErr; rw [if_neg (by simp [h1, h2, h3, h4]), if_neg (by simpa using hq), if_pos hv1]
        have ha : aVal cost old key val = 0 := by unfold aVal; rw [he]; rfl
        rw [he, ha]
        exact after_v cost old key val w hk hv h1 h2 h3 h4 (by omega) hq
      · have he : aErr cost old key val = 0 := by unfold aErr; rw [if_neg (by simp [h1, h2, h3, h4]), if_neg (by simpa using hq), if_neg hv1]
        have ha : aVal cost old key val = cost - old + (16 + key.size + val.size) := by unfold aVal; rw [if_pos he]
        rw [he, ha]
        exact after_y cost old key val w hk hv h1 h2 h3 h4 (by omega) hq
    · have he : aErr cost old key val = kErr key := by unfold aErr; rw [if_neg (by simp [h1, h2, h3, h4]), if_pos hq]
      have ha : aVal cost old key val = 0 := by unfold aVal; rw [if_neg (by rw [he]; exact hq)]
      rw [he, ha]
      exact after_k cost old key val w hk hv h1 h2 h3 h4 _ rfl _ rfl hq
  · have he : aErr cost old key val = 2 := by unfold aErr; rw [if_pos hc]
    have ha : aVal cost old key val = 0 := by unfold aVal; rw [he]; rfl
    rw [he, ha]
    by_cases h1 : 0 ≤ cost
    · by_cases h2 : cost ≤ 262144
      · by_cases h3 : 0 ≤ old
        · exact after_n3 cost old key val w hk hv h1 h2 h3 (by omega) _ rfl
        · exact after_n2 cost old key val w hk hv h1 h2 (by omega) _ rfl
      · exact after_n1 cost old key val w hk hv h1 (by omega) _ rfl
    · exact after_n0 cost old key val w hk hv (by omega) _ rfl
end Go.Proofs.Ytkicciinneffcaa
