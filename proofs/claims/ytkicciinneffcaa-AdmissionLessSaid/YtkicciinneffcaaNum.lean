/-
  A configuration by numbers comes in; bytes that are made of zeros.
-/
import Derived.Test.YtkicciinneffcaaOpen
import Derived.Test.YtkicciinneffcaaBeg
namespace Go.Proofs.Ytkicciinneffcaa
open Go.ChangeShapes Go.WideShapes Go.ChangeAt Go.RowKit Go.Joins Go.Deep
set_option linter.unusedVariables false

theorem eq5 {cs : Array Value} {a b c d e : Value} (h : cs.size = 5) (h0 : cs[0]? = some a) (h1 : cs[1]? = some b) (h2 : cs[2]? = some c) (h3 : cs[3]? = some d) (h4 : cs[4]? = some e) :
    cs = #[a, b, c, d, e] := by
  apply Array.ext_getElem?
  intro i
  match i with
  | 0 => simpa using h0
  | 1 => simpa using h1
  | 2 => simpa using h2
  | 3 => simpa using h3
  | 4 => simpa using h4
  | n + 5 => rw [Array.getElem?_eq_none (by omega)]; simp
theorem open_beg {H : Type} {enc : TypeId × Value → H} {w : World} {base b0 : Nat} {spare : Nat → Bool} {held : Bool} {r : Reach} {v : Value} {d : DataW H} {p : List MemPlace}
    (hv : Value.okWide Try.prog w r b0 34 v) (h : DataW.Trod enc Try.prog w base spare held 34 v d p) :
    ∃ re mo ke va si : Int, v = .agg #[.int .u8 re, .int .u8 mo, .int .u8 ke, .int .u16 va, .int .u16 si] ∧ 0 ≤ re ∧ 0 ≤ mo ∧ mo ≤ 255 ∧ 0 ≤ ke ∧ 0 ≤ va ∧ 0 ≤ si ∧ si ≤ 65535 := by
  obtain ⟨cs, rfl, hsz, hf⟩ := open_struct Try.underlying34 (by kernel_rfl) (by kernel_rfl) hv h
  obtain ⟨x0, n0, y0, e0, g0⟩ := hf 0 _ rfl
  obtain ⟨x1, n1, y1, e1, g1⟩ := hf 1 _ rfl
  obtain ⟨x2, n2, y2, e2, g2⟩ := hf 2 _ rfl
  obtain ⟨x3, n3, y3, e3, g3⟩ := hf 3 _ rfl
  obtain ⟨x4, n4, y4, e4, g4⟩ := hf 4 _ rfl
  obtain ⟨a0, q0, _, w0⟩ := DataW.trod_int Try.underlying5 g0
  obtain ⟨a1, q1, _, w1⟩ := DataW.trod_int Try.underlying5 g1
  obtain ⟨a2, q2, _, w2⟩ := DataW.trod_int Try.underlying5 g2
  obtain ⟨a3, q3, _, w3⟩ := DataW.trod_int Try.underlying32 g3
  obtain ⟨a4, q4, _, w4⟩ := DataW.trod_int Try.underlying32 g4
  simp only [List.cons.injEq, and_true] at q0 q1 q2 q3 q4
  subst q0 q1 q2 q3 q4
  have b0 := bounds_u8 w0
  have b1 := bounds_u8 w1
  have b2 := bounds_u8 w2
  have b3 := bounds_u16 w3
  have b4 := bounds_u16 w4
  exact ⟨a0, a1, a2, a3, a4, by rw [eq5 hsz e0 e1 e2 e3 e4], by omega, by omega, by omega, by omega, by omega, by omega, by omega⟩

def zeros (n : Nat) : Array Value := ((List.replicate n (0 : Int)).map (Value.int .u8)).toArray
theorem make_any (n : Nat) (h : n ≤ 100000) (w : World) : (Instr.makeSlice 40 (.int .i64 (n : Int)) (.int .i64 (n : Int))).run Try.prog w = .ok (.slice (some ⟨w.heap.size, 0, none⟩) n n) (w.alloc (.cells (zeros n) 5)) := by
  obtain ⟨i0, hi0, hz0, hz1, hz2⟩ := info_parts byte_info
  rw [run_make w _ _ i0 (.int .u8 0) Try.underlying40 hi0 hz0 .i64 .i64 n n (by omega) (Int.le_refl _) (by rw [hz2]; omega) (by omega)]
  rw [hz1]
  have hA : madeCells (Value.int .u8 0).cells ((n : Int).toNat * 1) = zeros n := by
    apply Array.toList_inj.1
    show (madeCells #[Value.int .u8 0] ((n : Int).toNat * 1)).toList = _
    rw [toList_madeCells_one]
    simp [zeros]
  rw [hA]
  simp
/-- what make has just laid reads as zeros -/
theorem RB.zeros (w : World) (n : Nat) : RB (w.alloc (.cells (zeros n) 5)) (some ⟨w.heap.size, 0, none⟩) (List.replicate n 0) :=
  .inr ⟨w.heap.size, 0, rfl, fun i hi => by
    have hcell := (Blk.new w 5 (Go.Proofs.Ytkicciinneffcaa.zeros n)).cell i
    rw [Nat.zero_add, hcell]
    unfold Go.Proofs.Ytkicciinneffcaa.zeros
    have hi' : i < n := by simpa using hi
    rw [List.getElem?_toArray, List.getElem?_map, List.getElem?_replicate, if_pos hi', List.getD_eq_getElem?_getD, List.getElem?_replicate, if_pos hi']
    rfl⟩
theorem str_zeros (w : World) (n cap : Nat) : (convert 40 9 (.slice (some ⟨w.heap.size, 0, none⟩) n cap)).run Try.prog (w.alloc (.cells (zeros n) 5)) = .ok (.string (strOfNums (List.replicate n 0))) (w.alloc (.cells (zeros n) 5)) := by
  have h := conv_any (RB.zeros w n) cap
  rwa [List.length_replicate] at h
theorem size_zeros (n : Nat) : (strOfNums (List.replicate n 0)).size = n := by rw [strOfNums_size, List.length_replicate]
end Go.Proofs.Ytkicciinneffcaa
