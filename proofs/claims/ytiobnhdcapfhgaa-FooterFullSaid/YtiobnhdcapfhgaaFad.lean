/-
  A footer with one more record: the program and the reference.
-/
import Derived.Test.YtiobnhdcapfhgaaFch
import Derived.Test.YtiobnhdcapfhgaaRc4
import Derived.Test.YtiobnhdcapfhgaaRes
import Derived.Test.YtiobnhdcapfhgaaUp
namespace Go.Proofs.Ytiobnhdcapfhgaa
open Go.RowKit
set_option linter.unusedVariables false
theorem b_setR {a w : World} (h : Below a.heap.size a w) (o : Nat) (u : Value) : Below a.heap.size a (w.setCell ⟨a.heap.size + 1 + 1, o, none⟩ u) := h.setCell (by exact Nat.le_trans (Nat.le_succ _) (Nat.le_succ _)) u
/-- a footer with one more record, and the error -/
def addF (c l : Int) (r : Rc) : Int × Int × Int := if ¬ FOk c l ∨ ¬ r.Ok then (0, 0, 2) else if c = 65535 then (0, 0, 16) else (c + 1, max l r.seq, 0)
theorem fad_bad (c l kind sq : Int) (key val : ByteArray) (hf : ¬ FOk c l) (w : World) :
    Calls Try.prog 21 #[.agg #[.int .i64 c, .int .i64 l], .agg #[.int .i64 kind, .int .i64 sq, .string key, .string val]] w fun e w' => e = .returned (.tuple #[.agg #[.int .i64 0, .int .i64 0], .int .i64 2]) ∧ Below w.heap.size w w' := by
  have h1 := fun w => fchk_no hf w
  clear hf
  go_enter Try.func21, Try.ntmps21
  go_wp2_with fail
  refine (h1 _).mono ?_
  rintro e w1 ⟨rfl, hb1⟩
  have hY1 : Below w.heap.size w w1 := b_then (by repeat first | exact Below.refl _ _ | apply Below.drew | apply b_alloc) hb1
  have hF1 : Blk w1 (w.heap.size) 23 #[.int .i64 c, .int .i64 l] := (hb1.block _ (by simp <;> omega)).trans (by repeat (first | ((with_reducible refine alloc_here' ?_); (simp; done)) | (with_reducible apply alloc_old') | (with_reducible apply drew_old)))
  have hX1 : Blk w1 (w.heap.size + 1) 46 #[.int .i64 kind, .int .i64 sq, .string key, .string val] := (hb1.block _ (by simp <;> omega)).trans (by repeat (first | ((with_reducible refine alloc_here' ?_); (simp; done)) | (with_reducible apply alloc_old') | (with_reducible apply drew_old)))
  have hR1 : Blk w1 (w.heap.size + 1 + 1) 23 #[.int .i64 0, .int .i64 0] := (hb1.block _ (by simp <;> omega)).trans (by repeat (first | ((with_reducible refine alloc_here' ?_); (simp; done)) | (with_reducible apply alloc_old') | (with_reducible apply drew_old)))
  have bel1 := hY1
  clear hb1
  have cF := hF1.cell
  have lF := hF1.lt
  have cX := hX1.cell
  have lX := hX1.lt
  have cR := hR1.cell
  have lR := hR1.lt
  clear h1
  have fR := hR1.frozen
  go_wp2_with fail
  refine bodyPost_ret (v := .tuple #[.agg #[.int .i64 0, .int .i64 0], .int .i64 2]) (results_c1 Try.results21 _ _ (w.heap.size + 1 + 1) #[.int .i64 0, .int .i64 0] _ rfl (by repeat first | (with_reducible exact hR1.set2 _ _) | (with_reducible apply Blk.alloc) | (with_reducible apply Blk.drew)) Try.underlying23 rfl (by kernel_rfl)) rfl ⟨rfl, ?_⟩
  repeat first | (with_reducible exact bel1) | (with_reducible apply Below.drew) | (with_reducible apply b_setR) | (with_reducible apply b_alloc)
theorem fad_rec (c l kind sq : Int) (key val : ByteArray) (hf : FOk c l) (hr : ¬ Rc.Ok ⟨kind, sq, key, val⟩) (hk : key.size ≤ maxLen) (hv : val.size ≤ maxLen) (w : World) :
    Calls Try.prog 21 #[.agg #[.int .i64 c, .int .i64 l], .agg #[.int .i64 kind, .int .i64 sq, .string key, .string val]] w fun e w' => e = .returned (.tuple #[.agg #[.int .i64 0, .int .i64 0], .int .i64 2]) ∧ Below w.heap.size w w' := by
  have h1 := fun w => fchk_yes hf w
  have h2 : ∀ w : World, Calls Try.prog 40 #[.agg #[.int .i64 kind, .int .i64 sq, .string key, .string val]] w fun e w' => e = .returned (.int .i64 2) ∧ Below w.heap.size w w' := fun w => rchk_no ⟨kind, sq, key, val⟩ hr hk hv w
  clear hf hr hk hv
  go_enter Try.func21, Try.ntmps21
  go_wp2_with fail
  refine (h1 _).mono ?_
  rintro e w1 ⟨rfl, hb1⟩
  have hY1 : Below w.heap.size w w1 := b_then (by repeat first | exact Below.refl _ _ | apply Below.drew | apply b_alloc) hb1
  have hF1 : Blk w1 (w.heap.size) 23 #[.int .i64 c, .int .i64 l] := (hb1.block _ (by simp <;> omega)).trans (by repeat (first | ((with_reducible refine alloc_here' ?_); (simp; done)) | (with_reducible apply alloc_old') | (with_reducible apply drew_old)))
  have hX1 : Blk w1 (w.heap.size + 1) 46 #[.int .i64 kind, .int .i64 sq, .string key, .string val] := (hb1.block _ (by simp <;> omega)).trans (by repeat (first | ((with_reducible refine alloc_here' ?_); (simp; done)) | (with_reducible apply alloc_old') | (with_reducible apply drew_old)))
  have hR1 : Blk w1 (w.heap.size + 1 + 1) 23 #[.int .i64 0, .int .i64 0] := (hb1.block _ (by simp <;> omega)).trans (by repeat (first | ((with_reducible refine alloc_here' ?_); (simp; done)) | (with_reducible apply alloc_old') | (with_reducible apply drew_old)))
  have bel1 := hY1
  clear hb1
  have cF := hF1.cell
  have lF := hF1.lt
  have cX := hX1.cell
  have lX := hX1.lt
  have cR := hR1.cell
  have lR := hR1.lt
  go_wp2_with fail
  refine (h2 _).mono ?_
  rintro e w2 ⟨rfl, hb2⟩
  have hY2 : Below w1.heap.size w1 w2 := b_then (by repeat first | exact Below.refl _ _ | apply Below.drew | apply b_alloc) hb2
  have hF2 := hF1.below hY2 hF1.lt
  have hX2 := hX1.below hY2 hX1.lt
  have hR2 := hR1.below hY2 hR1.lt
  have bel2 := b_then bel1 hY2
  clear hF1 hX1 hR1 bel1 hb2 cF lF cX lX cR lR hY2
  have cF := hF2.cell
  have lF := hF2.lt
  have cX := hX2.cell
  have lX := hX2.lt
  have cR := hR2.cell
  have lR := hR2.lt
  clear h1 h2
  have fR := hR2.frozen
  go_wp2_with fail
  refine bodyPost_ret (v := .tuple #[.agg #[.int .i64 0, .int .i64 0], .int .i64 2]) (results_c1 Try.results21 _ _ (w.heap.size + 1 + 1) #[.int .i64 0, .int .i64 0] _ rfl (by repeat first | (with_reducible exact hR2.set2 _ _) | (with_reducible apply Blk.alloc) | (with_reducible apply Blk.drew)) Try.underlying23 rfl (by kernel_rfl)) rfl ⟨rfl, ?_⟩
  repeat first | (with_reducible exact bel2) | (with_reducible apply Below.drew) | (with_reducible apply b_setR) | (with_reducible apply b_alloc)
theorem fad_over (c l kind sq : Int) (key val : ByteArray) (hf : FOk c l) (hr : Rc.Ok ⟨kind, sq, key, val⟩) (hc : c = 65535) (w : World) :
    Calls Try.prog 21 #[.agg #[.int .i64 c, .int .i64 l], .agg #[.int .i64 kind, .int .i64 sq, .string key, .string val]] w fun e w' => e = .returned (.tuple #[.agg #[.int .i64 0, .int .i64 0], .int .i64 16]) ∧ Below w.heap.size w w' := by
  have h1 := fun w => fchk_yes hf w
  have h2 : ∀ w : World, Calls Try.prog 40 #[.agg #[.int .i64 kind, .int .i64 sq, .string key, .string val]] w fun e w' => e = .returned (.int .i64 0) ∧ Below w.heap.size w w' := fun w => rchk_yes ⟨kind, sq, key, val⟩ hr w
  subst hc
  clear hf hr
  go_enter Try.func21, Try.ntmps21
  go_wp2_with fail
  refine (h1 _).mono ?_
  rintro e w1 ⟨rfl, hb1⟩
  have hY1 : Below w.heap.size w w1 := b_then (by repeat first | exact Below.refl _ _ | apply Below.drew | apply b_alloc) hb1
  have hF1 : Blk w1 (w.heap.size) 23 #[.int .i64 65535, .int .i64 l] := (hb1.block _ (by simp <;> omega)).trans (by repeat (first | ((with_reducible refine alloc_here' ?_); (simp; done)) | (with_reducible apply alloc_old') | (with_reducible apply drew_old)))
  have hX1 : Blk w1 (w.heap.size + 1) 46 #[.int .i64 kind, .int .i64 sq, .string key, .string val] := (hb1.block _ (by simp <;> omega)).trans (by repeat (first | ((with_reducible refine alloc_here' ?_); (simp; done)) | (with_reducible apply alloc_old') | (with_reducible apply drew_old)))
  have hR1 : Blk w1 (w.heap.size + 1 + 1) 23 #[.int .i64 0, .int .i64 0] := (hb1.block _ (by simp <;> omega)).trans (by repeat (first | ((with_reducible refine alloc_here' ?_); (simp; done)) | (with_reducible apply alloc_old') | (with_reducible apply drew_old)))
  have bel1 := hY1
  clear hb1
  have cF := hF1.cell
  have lF := hF1.lt
  have cX := hX1.cell
  have lX := hX1.lt
  have cR := hR1.cell
  have lR := hR1.lt
  go_wp2_with fail
  refine (h2 _).mono ?_
  rintro e w2 ⟨rfl, hb2⟩
  have hY2 : Below w1.heap.size w1 w2 := b_then (by repeat first | exact Below.refl _ _ | apply Below.drew | apply b_alloc) hb2
  have hF2 := hF1.below hY2 hF1.lt
  have hX2 := hX1.below hY2 hX1.lt
  have hR2 := hR1.below hY2 hR1.lt
  have bel2 := b_then bel1 hY2
  clear hF1 hX1 hR1 bel1 hb2 cF lF cX lX cR lR hY2
  have cF := hF2.cell
  have lF := hF2.lt
  have cX := hX2.cell
  have lX := hX2.lt
  have cR := hR2.cell
  have lR := hR2.lt
  clear h1 h2
  have fR := hR2.frozen
  go_wp2_with fail
  refine bodyPost_ret (v := .tuple #[.agg #[.int .i64 0, .int .i64 0], .int .i64 16]) (results_c1 Try.results21 _ _ (w.heap.size + 1 + 1) #[.int .i64 0, .int .i64 0] _ rfl (by repeat first | (with_reducible exact hR2.set2 _ _) | (with_reducible apply Blk.alloc) | (with_reducible apply Blk.drew)) Try.underlying23 rfl (by kernel_rfl)) rfl ⟨rfl, ?_⟩
  repeat first | (with_reducible exact bel2) | (with_reducible apply Below.drew) | (with_reducible apply b_setR) | (with_reducible apply b_alloc)
theorem fad_yes (c l kind sq : Int) (key val : ByteArray) (hf : FOk c l) (hr : Rc.Ok ⟨kind, sq, key, val⟩) (hc : c ≠ 65535) (w : World) :
    Calls Try.prog 21 #[.agg #[.int .i64 c, .int .i64 l], .agg #[.int .i64 kind, .int .i64 sq, .string key, .string val]] w fun e w' => e = .returned (.tuple #[.agg #[.int .i64 (c + 1), .int .i64 (max l sq)], .int .i64 0]) ∧ Below w.heap.size w w' := by
  have h1 := fun w => fchk_yes hf w
  have h2 : ∀ w : World, Calls Try.prog 40 #[.agg #[.int .i64 kind, .int .i64 sq, .string key, .string val]] w fun e w' => e = .returned (.int .i64 0) ∧ Below w.heap.size w w' := fun w => rchk_yes ⟨kind, sq, key, val⟩ hr w
  have b1 : (c == 65535) = false := by rw [beq_eq_false_iff_ne]; exact hc
  have u1 : IntKind.i64.wrap (c + 1) = c + 1 := by rw [IntKind.wrap_i64]; unfold FOk at hf; omega
  clear hf hr hc
  go_enter Try.func21, Try.ntmps21
  go_wp2_with fail
  refine (h1 _).mono ?_
  rintro e w1 ⟨rfl, hb1⟩
  have hY1 : Below w.heap.size w w1 := b_then (by repeat first | exact Below.refl _ _ | apply Below.drew | apply b_alloc) hb1
  have hF1 : Blk w1 (w.heap.size) 23 #[.int .i64 c, .int .i64 l] := (hb1.block _ (by simp <;> omega)).trans (by repeat (first | ((with_reducible refine alloc_here' ?_); (simp; done)) | (with_reducible apply alloc_old') | (with_reducible apply drew_old)))
  have hX1 : Blk w1 (w.heap.size + 1) 46 #[.int .i64 kind, .int .i64 sq, .string key, .string val] := (hb1.block _ (by simp <;> omega)).trans (by repeat (first | ((with_reducible refine alloc_here' ?_); (simp; done)) | (with_reducible apply alloc_old') | (with_reducible apply drew_old)))
  have hR1 : Blk w1 (w.heap.size + 1 + 1) 23 #[.int .i64 0, .int .i64 0] := (hb1.block _ (by simp <;> omega)).trans (by repeat (first | ((with_reducible refine alloc_here' ?_); (simp; done)) | (with_reducible apply alloc_old') | (with_reducible apply drew_old)))
  have bel1 := hY1
  clear hb1
  have cF := hF1.cell
  have lF := hF1.lt
  have cX := hX1.cell
  have lX := hX1.lt
  have cR := hR1.cell
  have lR := hR1.lt
  go_wp2_with fail
  refine (h2 _).mono ?_
  rintro e w2 ⟨rfl, hb2⟩
  have hY2 : Below w1.heap.size w1 w2 := b_then (by repeat first | exact Below.refl _ _ | apply Below.drew | apply b_alloc) hb2
  have hF2 := hF1.below hY2 hF1.lt
  have hX2 := hX1.below hY2 hX1.lt
  have hR2 := hR1.below hY2 hR1.lt
  have bel2 := b_then bel1 hY2
  clear hF1 hX1 hR1 bel1 hb2 cF lF cX lX cR lR hY2
  have cF := hF2.cell
  have lF := hF2.lt
  have cX := hX2.cell
  have lX := hX2.lt
  have cR := hR2.cell
  have lR := hR2.lt
  clear h1 h2
  have fR := hR2.frozen
  go_wp2_with fail
  refine bodyPost_ret (v := .tuple #[.agg #[.int .i64 (c + 1), .int .i64 (max l sq)], .int .i64 0]) (results_c1 Try.results21 _ _ (w.heap.size + 1 + 1) #[.int .i64 (c + 1), .int .i64 (max l sq)] _ rfl (by repeat first | (with_reducible exact hR2.set2 _ _) | (with_reducible apply Blk.alloc) | (with_reducible apply Blk.drew)) Try.underlying23 rfl (by kernel_rfl)) rfl ⟨rfl, ?_⟩
  repeat first | (with_reducible exact bel2) | (with_reducible apply Below.drew) | (with_reducible apply b_setR) | (with_reducible apply b_alloc)
theorem fad_any (c l : Int) (r : Rc) (hk : r.key.size ≤ maxLen) (hv : r.val.size ≤ maxLen) (w : World) :
    Calls Try.prog 21 #[.agg #[.int .i64 c, .int .i64 l], r.v] w fun e w' => e = .returned (.tuple #[.agg #[.int .i64 (addF c l r).1, .int .i64 (addF c l r).2.1], .int .i64 (addF c l r).2.2]) ∧ Below w.heap.size w w' := by
  obtain ⟨kind, sq, key, val⟩ := r
  unfold addF
  by_cases h1 : FOk c l
  · by_cases h2 : Rc.Ok ⟨kind, sq, key, val⟩
    · by_cases h3 : c = 65535
      · rw [if_neg (by simp [h1, h2]), if_pos h3]
        exact fad_over c l kind sq key val h1 h2 h3 w
      · rw [if_neg (by simp [h1, h2]), if_neg h3]
        exact fad_yes c l kind sq key val h1 h2 h3 w
    · rw [if_pos (.inr h2)]
      exact fad_rec c l kind sq key val h1 h2 hk hv w
  · rw [if_pos (.inl h1)]
    exact fad_bad c l kind sq key val h1 w
theorem rfad_bad (c l kind sq : Int) (key val : ByteArray) (hf : ¬ FOk c l) (w : World) :
    Calls Try.prog 29 #[.agg #[.int .i64 c, .int .i64 l], .agg #[.int .i64 kind, .int .i64 sq, .string key, .string val]] w fun e w' => e = .returned (.tuple #[.agg #[.int .i64 0, .int .i64 0], .int .i64 2]) ∧ Below w.heap.size w w' := by
  have h1 := fun w => rfchk_no hf w
  clear hf
  go_enter Try.func29, Try.ntmps29
  go_wp2_with fail
  refine (h1 _).mono ?_
  rintro e w1 ⟨rfl, hb1⟩
  have hY1 : Below w.heap.size w w1 := b_then (by repeat first | exact Below.refl _ _ | apply Below.drew | apply b_alloc) hb1
  have hF1 : Blk w1 (w.heap.size) 29 #[.int .i64 c, .int .i64 l] := (hb1.block _ (by simp <;> omega)).trans (by repeat (first | ((with_reducible refine alloc_here' ?_); (simp; done)) | (with_reducible apply alloc_old') | (with_reducible apply drew_old)))
  have hX1 : Blk w1 (w.heap.size + 1) 46 #[.int .i64 kind, .int .i64 sq, .string key, .string val] := (hb1.block _ (by simp <;> omega)).trans (by repeat (first | ((with_reducible refine alloc_here' ?_); (simp; done)) | (with_reducible apply alloc_old') | (with_reducible apply drew_old)))
  have hR1 : Blk w1 (w.heap.size + 1 + 1) 29 #[.int .i64 0, .int .i64 0] := (hb1.block _ (by simp <;> omega)).trans (by repeat (first | ((with_reducible refine alloc_here' ?_); (simp; done)) | (with_reducible apply alloc_old') | (with_reducible apply drew_old)))
  have bel1 := hY1
  clear hb1
  have cF := hF1.cell
  have lF := hF1.lt
  have cX := hX1.cell
  have lX := hX1.lt
  have cR := hR1.cell
  have lR := hR1.lt
  clear h1
  have fR := hR1.frozen
  go_wp2_with fail
  refine bodyPost_ret (v := .tuple #[.agg #[.int .i64 0, .int .i64 0], .int .i64 2]) (results_c1 Try.results29 _ _ (w.heap.size + 1 + 1) #[.int .i64 0, .int .i64 0] _ rfl (by repeat first | (with_reducible exact hR1.set2 _ _) | (with_reducible apply Blk.alloc) | (with_reducible apply Blk.drew)) Try.underlying29 rfl (by kernel_rfl)) rfl ⟨rfl, ?_⟩
  repeat first | (with_reducible exact bel1) | (with_reducible apply Below.drew) | (with_reducible apply b_setR) | (with_reducible apply b_alloc)
theorem rfad_rec (c l kind sq : Int) (key val : ByteArray) (hf : FOk c l) (hr : ¬ Rc.Ok ⟨kind, sq, key, val⟩) (hk : key.size ≤ maxLen) (hv : val.size ≤ maxLen) (w : World) :
    Calls Try.prog 29 #[.agg #[.int .i64 c, .int .i64 l], .agg #[.int .i64 kind, .int .i64 sq, .string key, .string val]] w fun e w' => e = .returned (.tuple #[.agg #[.int .i64 0, .int .i64 0], .int .i64 2]) ∧ Below w.heap.size w w' := by
  have h1 := fun w => rfchk_yes hf w
  have h2 : ∀ w : World, Calls Try.prog 43 #[.agg #[.int .i64 kind, .int .i64 sq, .string key, .string val]] w fun e w' => e = .returned (.int .i64 2) ∧ Below w.heap.size w w' := fun w => rchk4_no ⟨kind, sq, key, val⟩ hr hk hv w
  clear hf hr hk hv
  go_enter Try.func29, Try.ntmps29
  go_wp2_with fail
  refine (h1 _).mono ?_
  rintro e w1 ⟨rfl, hb1⟩
  have hY1 : Below w.heap.size w w1 := b_then (by repeat first | exact Below.refl _ _ | apply Below.drew | apply b_alloc) hb1
  have hF1 : Blk w1 (w.heap.size) 29 #[.int .i64 c, .int .i64 l] := (hb1.block _ (by simp <;> omega)).trans (by repeat (first | ((with_reducible refine alloc_here' ?_); (simp; done)) | (with_reducible apply alloc_old') | (with_reducible apply drew_old)))
  have hX1 : Blk w1 (w.heap.size + 1) 46 #[.int .i64 kind, .int .i64 sq, .string key, .string val] := (hb1.block _ (by simp <;> omega)).trans (by repeat (first | ((with_reducible refine alloc_here' ?_); (simp; done)) | (with_reducible apply alloc_old') | (with_reducible apply drew_old)))
  have hR1 : Blk w1 (w.heap.size + 1 + 1) 29 #[.int .i64 0, .int .i64 0] := (hb1.block _ (by simp <;> omega)).trans (by repeat (first | ((with_reducible refine alloc_here' ?_); (simp; done)) | (with_reducible apply alloc_old') | (with_reducible apply drew_old)))
  have bel1 := hY1
  clear hb1
  have cF := hF1.cell
  have lF := hF1.lt
  have cX := hX1.cell
  have lX := hX1.lt
  have cR := hR1.cell
  have lR := hR1.lt
  go_wp2_with fail
  refine (h2 _).mono ?_
  rintro e w2 ⟨rfl, hb2⟩
  have hY2 : Below w1.heap.size w1 w2 := b_then (by repeat first | exact Below.refl _ _ | apply Below.drew | apply b_alloc) hb2
  have hF2 := hF1.below hY2 hF1.lt
  have hX2 := hX1.below hY2 hX1.lt
  have hR2 := hR1.below hY2 hR1.lt
  have bel2 := b_then bel1 hY2
  clear hF1 hX1 hR1 bel1 hb2 cF lF cX lX cR lR hY2
  have cF := hF2.cell
  have lF := hF2.lt
  have cX := hX2.cell
  have lX := hX2.lt
  have cR := hR2.cell
  have lR := hR2.lt
  clear h1 h2
  have fR := hR2.frozen
  go_wp2_with fail
  refine bodyPost_ret (v := .tuple #[.agg #[.int .i64 0, .int .i64 0], .int .i64 2]) (results_c1 Try.results29 _ _ (w.heap.size + 1 + 1) #[.int .i64 0, .int .i64 0] _ rfl (by repeat first | (with_reducible exact hR2.set2 _ _) | (with_reducible apply Blk.alloc) | (with_reducible apply Blk.drew)) Try.underlying29 rfl (by kernel_rfl)) rfl ⟨rfl, ?_⟩
  repeat first | (with_reducible exact bel2) | (with_reducible apply Below.drew) | (with_reducible apply b_setR) | (with_reducible apply b_alloc)
theorem rfad_over (c l kind sq : Int) (key val : ByteArray) (hf : FOk c l) (hr : Rc.Ok ⟨kind, sq, key, val⟩) (hc : c = 65535) (w : World) :
    Calls Try.prog 29 #[.agg #[.int .i64 c, .int .i64 l], .agg #[.int .i64 kind, .int .i64 sq, .string key, .string val]] w fun e w' => e = .returned (.tuple #[.agg #[.int .i64 0, .int .i64 0], .int .i64 16]) ∧ Below w.heap.size w w' := by
  have h1 := fun w => rfchk_yes hf w
  have h2 : ∀ w : World, Calls Try.prog 43 #[.agg #[.int .i64 kind, .int .i64 sq, .string key, .string val]] w fun e w' => e = .returned (.int .i64 0) ∧ Below w.heap.size w w' := fun w => rchk4_yes ⟨kind, sq, key, val⟩ hr w
  subst hc
  clear hf hr
  go_enter Try.func29, Try.ntmps29
  go_wp2_with fail
  refine (h1 _).mono ?_
  rintro e w1 ⟨rfl, hb1⟩
  have hY1 : Below w.heap.size w w1 := b_then (by repeat first | exact Below.refl _ _ | apply Below.drew | apply b_alloc) hb1
  have hF1 : Blk w1 (w.heap.size) 29 #[.int .i64 65535, .int .i64 l] := (hb1.block _ (by simp <;> omega)).trans (by repeat (first | ((with_reducible refine alloc_here' ?_); (simp; done)) | (with_reducible apply alloc_old') | (with_reducible apply drew_old)))
  have hX1 : Blk w1 (w.heap.size + 1) 46 #[.int .i64 kind, .int .i64 sq, .string key, .string val] := (hb1.block _ (by simp <;> omega)).trans (by repeat (first | ((with_reducible refine alloc_here' ?_); (simp; done)) | (with_reducible apply alloc_old') | (with_reducible apply drew_old)))
  have hR1 : Blk w1 (w.heap.size + 1 + 1) 29 #[.int .i64 0, .int .i64 0] := (hb1.block _ (by simp <;> omega)).trans (by repeat (first | ((with_reducible refine alloc_here' ?_); (simp; done)) | (with_reducible apply alloc_old') | (with_reducible apply drew_old)))
  have bel1 := hY1
  clear hb1
  have cF := hF1.cell
  have lF := hF1.lt
  have cX := hX1.cell
  have lX := hX1.lt
  have cR := hR1.cell
  have lR := hR1.lt
  go_wp2_with fail
  refine (h2 _).mono ?_
  rintro e w2 ⟨rfl, hb2⟩
  have hY2 : Below w1.heap.size w1 w2 := b_then (by repeat first | exact Below.refl _ _ | apply Below.drew | apply b_alloc) hb2
  have hF2 := hF1.below hY2 hF1.lt
  have hX2 := hX1.below hY2 hX1.lt
  have hR2 := hR1.below hY2 hR1.lt
  have bel2 := b_then bel1 hY2
  clear hF1 hX1 hR1 bel1 hb2 cF lF cX lX cR lR hY2
  have cF := hF2.cell
  have lF := hF2.lt
  have cX := hX2.cell
  have lX := hX2.lt
  have cR := hR2.cell
  have lR := hR2.lt
  clear h1 h2
  have fR := hR2.frozen
  go_wp2_with fail
  refine bodyPost_ret (v := .tuple #[.agg #[.int .i64 0, .int .i64 0], .int .i64 16]) (results_c1 Try.results29 _ _ (w.heap.size + 1 + 1) #[.int .i64 0, .int .i64 0] _ rfl (by repeat first | (with_reducible exact hR2.set2 _ _) | (with_reducible apply Blk.alloc) | (with_reducible apply Blk.drew)) Try.underlying29 rfl (by kernel_rfl)) rfl ⟨rfl, ?_⟩
  repeat first | (with_reducible exact bel2) | (with_reducible apply Below.drew) | (with_reducible apply b_setR) | (with_reducible apply b_alloc)
theorem rfad_yes (c l kind sq : Int) (key val : ByteArray) (hf : FOk c l) (hr : Rc.Ok ⟨kind, sq, key, val⟩) (hc : c ≠ 65535) (w : World) :
    Calls Try.prog 29 #[.agg #[.int .i64 c, .int .i64 l], .agg #[.int .i64 kind, .int .i64 sq, .string key, .string val]] w fun e w' => e = .returned (.tuple #[.agg #[.int .i64 (c + 1), .int .i64 (max l sq)], .int .i64 0]) ∧ Below w.heap.size w w' := by
  have h1 := fun w => rfchk_yes hf w
  have h2 : ∀ w : World, Calls Try.prog 43 #[.agg #[.int .i64 kind, .int .i64 sq, .string key, .string val]] w fun e w' => e = .returned (.int .i64 0) ∧ Below w.heap.size w w' := fun w => rchk4_yes ⟨kind, sq, key, val⟩ hr w
  have b1 : (c == 65535) = false := by rw [beq_eq_false_iff_ne]; exact hc
  have u1 : IntKind.i64.wrap (c + 1) = c + 1 := by rw [IntKind.wrap_i64]; unfold FOk at hf; omega
  clear hf hr hc
  go_enter Try.func29, Try.ntmps29
  go_wp2_with fail
  refine (h1 _).mono ?_
  rintro e w1 ⟨rfl, hb1⟩
  have hY1 : Below w.heap.size w w1 := b_then (by repeat first | exact Below.refl _ _ | apply Below.drew | apply b_alloc) hb1
  have hF1 : Blk w1 (w.heap.size) 29 #[.int .i64 c, .int .i64 l] := (hb1.block _ (by simp <;> omega)).trans (by repeat (first | ((with_reducible refine alloc_here' ?_); (simp; done)) | (with_reducible apply alloc_old') | (with_reducible apply drew_old)))
  have hX1 : Blk w1 (w.heap.size + 1) 46 #[.int .i64 kind, .int .i64 sq, .string key, .string val] := (hb1.block _ (by simp <;> omega)).trans (by repeat (first | ((with_reducible refine alloc_here' ?_); (simp; done)) | (with_reducible apply alloc_old') | (with_reducible apply drew_old)))
  have hR1 : Blk w1 (w.heap.size + 1 + 1) 29 #[.int .i64 0, .int .i64 0] := (hb1.block _ (by simp <;> omega)).trans (by repeat (first | ((with_reducible refine alloc_here' ?_); (simp; done)) | (with_reducible apply alloc_old') | (with_reducible apply drew_old)))
  have bel1 := hY1
  clear hb1
  have cF := hF1.cell
  have lF := hF1.lt
  have cX := hX1.cell
  have lX := hX1.lt
  have cR := hR1.cell
  have lR := hR1.lt
  go_wp2_with fail
  refine (h2 _).mono ?_
  rintro e w2 ⟨rfl, hb2⟩
  have hY2 : Below w1.heap.size w1 w2 := b_then (by repeat first | exact Below.refl _ _ | apply Below.drew | apply b_alloc) hb2
  have hF2 := hF1.below hY2 hF1.lt
  have hX2 := hX1.below hY2 hX1.lt
  have hR2 := hR1.below hY2 hR1.lt
  have bel2 := b_then bel1 hY2
  clear hF1 hX1 hR1 bel1 hb2 cF lF cX lX cR lR hY2
  have cF := hF2.cell
  have lF := hF2.lt
  have cX := hX2.cell
  have lX := hX2.lt
  have cR := hR2.cell
  have lR := hR2.lt
  clear h1 h2
  have fR := hR2.frozen
  go_wp2_with fail
  refine bodyPost_ret (v := .tuple #[.agg #[.int .i64 (c + 1), .int .i64 (max l sq)], .int .i64 0]) (results_c1 Try.results29 _ _ (w.heap.size + 1 + 1) #[.int .i64 (c + 1), .int .i64 (max l sq)] _ rfl (by repeat first | (with_reducible exact hR2.set2 _ _) | (with_reducible apply Blk.alloc) | (with_reducible apply Blk.drew)) Try.underlying29 rfl (by kernel_rfl)) rfl ⟨rfl, ?_⟩
  repeat first | (with_reducible exact bel2) | (with_reducible apply Below.drew) | (with_reducible apply b_setR) | (with_reducible apply b_alloc)
theorem rfad_any (c l : Int) (r : Rc) (hk : r.key.size ≤ maxLen) (hv : r.val.size ≤ maxLen) (w : World) :
    Calls Try.prog 29 #[.agg #[.int .i64 c, .int .i64 l], r.v] w fun e w' => e = .returned (.tuple #[.agg #[.int .i64 (addF c l r).1, .int .i64 (addF c l r).2.1], .int .i64 (addF c l r).2.2]) ∧ Below w.heap.size w w' := by
  obtain ⟨kind, sq, key, val⟩ := r
  unfold addF
  by_cases h1 : FOk c l
  · by_cases h2 : Rc.Ok ⟨kind, sq, key, val⟩
    · by_cases h3 : c = 65535
      · rw [if_neg (by simp [h1, h2]), if_pos h3]
        exact rfad_over c l kind sq key val h1 h2 h3 w
      · rw [if_neg (by simp [h1, h2]), if_neg h3]
        exact rfad_yes c l kind sq key val h1 h2 h3 w
    · rw [if_pos (.inr h2)]
      exact rfad_rec c l kind sq key val h1 h2 hk hv w
  · rw [if_pos (.inl h1)]
    exact rfad_bad c l kind sq key val h1 w
end Go.Proofs.Ytiobnhdcapfhgaa
