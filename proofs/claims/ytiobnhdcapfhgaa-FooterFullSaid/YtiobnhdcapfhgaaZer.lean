/-
  make([]byte, n): zeros.
-/
import Derived.Test.YtiobnhdcapfhgaaOpen
import Derived.Test.YtiobnhdcapfhgaaByt
namespace Go.Proofs.Ytiobnhdcapfhgaa
open Go.ChangeShapes Go.WideShapes Go.ChangeAt Go.RowKit Go.Joins Go.Deep
set_option linter.unusedVariables false
def zeros (n : Nat) : Array Value := ((List.replicate n (0 : Int)).map (Value.int .u8)).toArray
theorem make_any (n : Nat) (h : n ≤ 100000) (w : World) : (Instr.makeSlice 24 (.int .i64 (n : Int)) (.int .i64 (n : Int))).run Try.prog w = .ok (.slice (some ⟨w.heap.size, 0, none⟩) n n) (w.alloc (.cells (zeros n) 5)) := by
  obtain ⟨i0, hi0, hz0, hz1, hz2⟩ := info_parts byte_info
  rw [run_make w _ _ i0 (.int .u8 0) Try.underlying24 hi0 hz0 .i64 .i64 n n (by omega) (Int.le_refl _) (by rw [hz2]; omega) (by omega)]
  rw [hz1]
  have hA : madeCells (Value.int .u8 0).cells ((n : Int).toNat * 1) = zeros n := by
    apply Array.toList_inj.1
    show (madeCells #[Value.int .u8 0] ((n : Int).toNat * 1)).toList = _
    rw [toList_madeCells_one]
    simp [zeros]
  rw [hA]
  simp
/-- what make has just laid reads as zeros -/
theorem RB.zeros (w : World) (n : Nat) : RB (w.alloc (.cells (zeros n) 5)) (some ⟨w.heap.size, 0, none⟩) (List.replicate n 0) :=
  .inr ⟨w.heap.size, 0, rfl, fun i hi => by
    have hcell := (Blk.new w 5 (Go.Proofs.Ytiobnhdcapfhgaa.zeros n)).cell i
    rw [Nat.zero_add, hcell]
    unfold Go.Proofs.Ytiobnhdcapfhgaa.zeros
    have hi' : i < n := by simpa using hi
    rw [List.getElem?_toArray, List.getElem?_map, List.getElem?_replicate, if_pos hi', List.getD_eq_getElem?_getD, List.getElem?_replicate, if_pos hi']
    rfl⟩
theorem str_zeros (w : World) (n cap : Nat) : (convert 24 9 (.slice (some ⟨w.heap.size, 0, none⟩) n cap)).run Try.prog (w.alloc (.cells (zeros n) 5)) = .ok (.string (strOfNums (List.replicate n 0))) (w.alloc (.cells (zeros n) 5)) := by
  have h := conv_any (RB.zeros w n) cap
  rwa [List.length_replicate] at h
theorem size_zeros (n : Nat) : (strOfNums (List.replicate n 0)).size = n := by rw [strOfNums_size, List.length_replicate]
end Go.Proofs.Ytiobnhdcapfhgaa
