/-
  The examples of the chapter.
-/
import Derived.Test.YtiobnhdcapfhgaaFof
import Derived.Test.YtiobnhdcapfhgaaFde
import Derived.Test.YtiobnhdcapfhgaaSeq
import Derived.Test.YtiobnhdcapfhgaaZer
import Derived.Test.YtiobnhdcapfhgaaUp
namespace Go.Proofs.Ytiobnhdcapfhgaa
open Go.RowKit
set_option linter.unusedVariables false
set_option linter.unusedSimpArgs false
def rc (s : Int) : Rc := ⟨1, s, ⟨#[107]⟩, ⟨#[118]⟩⟩
theorem put_any (s : Int) (w : World) : Calls Try.prog 22 #[.int .i64 s] w fun e w' => e = .returned (.agg #[.int .i64 1, .int .i64 s, .string ⟨#[107]⟩, .string ⟨#[118]⟩]) ∧ Below w.heap.size w w' := by
  go_enter Try.func22, Try.ntmps22
  go_wp2
  exact bodyPost_ret (v := .agg #[.int .i64 1, .int .i64 s, .string ⟨#[107]⟩, .string ⟨#[118]⟩]) (by simp [results, Try.results22, go_sem]) rfl ⟨rfl, by repeat first | exact Below.refl _ _ | apply Below.drew | apply b_set0 | apply b_alloc⟩
/-- a row of records, one behind the other -/
def flat (rs : List Rc) : List Value := rs.flatMap fun r => r.cs.toList
theorem flat_at : ∀ (rs : List Rc) (i : Nat) (r : Rc), rs[i]? = some r → ∀ (j : Nat) (u : Value), r.cs[j]? = some u → (flat rs)[i * 4 + j]? = some u := by
  intro rs
  induction rs with
  | nil => intro i r h; simp at h
  | cons r0 rs ih =>
    intro i r h j u hu
    have hj : j < 4 := by
      rcases Nat.lt_or_ge j 4 with hj | hj
      · exact hj
      · rw [Array.getElem?_eq_none (by simpa [Rc.cs] using hj)] at hu; cases hu
    have h4 : r0.cs.toList.length = 4 := rfl
    have hf : flat (r0 :: rs) = r0.cs.toList ++ flat rs := rfl
    rw [hf]
    cases i with
    | zero =>
      injection h with h
      subst h
      rw [List.getElem?_append_left (by omega)]
      simpa using hu
    | succ i =>
      have h : rs[i]? = some r := h
      rw [List.getElem?_append_right (by omega), h4, show (i + 1) * 4 + j - 4 = i * 4 + j by omega]
      exact ih i r h j u hu
theorem IsRs.of_blk {w : World} {g : Nat} {t : TypeId} {rs : List Rc} (h : Blk w g t (flat rs).toArray) (hs : ∀ r ∈ rs, r.Sz) : IsRs w (some ⟨g, 0, none⟩) rs :=
  ⟨hs, .inr ⟨g, 0, rfl, h.lt, fun i r hr j u hu => by rw [Nat.zero_add, h.cell]; simpa using flat_at rs i r hr j u hu⟩⟩
theorem rc_sz (s : Int) : (rc s).Sz := ⟨by show 1 ≤ maxLen; unfold maxLen; omega, by show 1 ≤ maxLen; unfold maxLen; omega⟩
theorem rc_ok {s : Int} (h : 1 ≤ s) (h2 : s ≤ 1099511627776) : (rc s).Ok := ⟨.inl rfl, h, h2, by show keyB (⟨#[107]⟩ : ByteArray) = true; decide, by show 1 ≤ (⟨#[107]⟩ : ByteArray).size; decide, by show (⟨#[107]⟩ : ByteArray).size ≤ 32; decide, by show (⟨#[118]⟩ : ByteArray).size ≤ 512; decide⟩
theorem fdec_z16 : fdec (List.replicate 16 0) = (0, 0, 8) := by
  unfold fdec
  simp only []
  rw [if_neg (by decide), if_pos (fun h => absurd h.2.1 (by decide))]
theorem bb_zeros (n : Nat) : BB (List.replicate n 0) := by
  intro x hx
  rw [List.eq_of_mem_replicate hx]
  omega
theorem RB.of_blk {w : World} {g : Nat} {M : List Int} (h : Blk w g 5 (M.map (Value.int .u8)).toArray) : RB w (some ⟨g, 0, none⟩) M :=
  .inr ⟨g, 0, rfl, fun i hi => by
    rw [Nat.zero_add, h.cell, List.getElem?_toArray, List.getElem?_map, List.getElem?_eq_getElem hi, List.getD_eq_getElem?_getD, List.getElem?_eq_getElem hi]
    rfl⟩
def KW (w : World) (g1 g3 : Nat) (w' : World) : Prop := Below w.heap.size w w' ∧ Blk w' g1 23 #[.int .i64 3, .int .i64 9] ∧ Blk w' g3 23 #[.int .i64 0, .int .i64 0]
abbrev SW (w : World) (g1 g3 : Nat) (w' : World) : Prop := w'.cell? ⟨g3, 0, none⟩ = some (.int .i64 0) ∧ w'.cell? ⟨g3, 1, none⟩ = some (.int .i64 0) ∧ KW w g1 g3 w'
theorem SW.mk {w : World} {g1 g3 : Nat} {w' : World} (h : KW w g1 g3 w') : SW w g1 g3 w' := ⟨h.2.2.cell 0, h.2.2.cell 1, h⟩
theorem SW.after {w : World} {g1 g3 : Nat} {w1 w' : World} (h : SW w g1 g3 w1) (hb : Below w1.heap.size w1 w') : SW w g1 g3 w' := by
  obtain ⟨_, _, h1, h2, h3⟩ := h
  exact SW.mk ⟨b_then h1 hb, h2.below hb h2.lt, h3.below hb h3.lt⟩
theorem KW.setN {w W' : World} {g1 g3 g : Nat} (h : KW w g1 g3 W') (hn : g1 ≠ g ∧ g3 ≠ g ∧ w.heap.size ≤ g) (a b : Value) : KW w g1 g3 ((W'.setCell ⟨g, 0, none⟩ a).setCell ⟨g, 1, none⟩ b) :=
  ⟨(h.1.setCell (by exact hn.2.2) _).setCell (by exact hn.2.2) _, (h.2.1.far (p := ⟨g, 0, none⟩) (by exact hn.1) _).far (p := ⟨g, 1, none⟩) (by exact hn.1) _, (h.2.2.far (p := ⟨g, 0, none⟩) (by exact hn.2.1) _).far (p := ⟨g, 1, none⟩) (by exact hn.2.1) _⟩
theorem SW.ne {w W' : World} {g1 g3 : Nat} (h : SW w g1 g3 W') : g1 ≠ W'.heap.size ∧ g3 ≠ W'.heap.size ∧ w.heap.size ≤ W'.heap.size :=
  ⟨Nat.ne_of_lt h.2.2.2.1.lt, Nat.ne_of_lt h.2.2.2.2.lt, h.2.2.1.size⟩
set_option maxHeartbeats 3200000 in
set_option maxRecDepth 100000 in
theorem works_true (w : World) : Calls Try.prog 16 #[] w fun e w' => e = .returned (.bool true) ∧ Below w.heap.size w w' := by
  have o1 : ∀ w : World, Calls Try.prog 23 #[.slice (some ⟨w.heap.size, 0, none⟩) 3 3] (w.alloc (.cells #[.int .i64 1, .int .i64 3, .string ⟨#[107]⟩, .string ⟨#[118]⟩, .int .i64 1, .int .i64 9, .string ⟨#[107]⟩, .string ⟨#[118]⟩, .int .i64 1, .int .i64 4, .string ⟨#[107]⟩, .string ⟨#[118]⟩] 46)) fun e w' => e = .returned (.tuple #[.agg #[.int .i64 3, .int .i64 9], .int .i64 0]) ∧ Below (w.alloc (.cells #[.int .i64 1, .int .i64 3, .string ⟨#[107]⟩, .string ⟨#[118]⟩, .int .i64 1, .int .i64 9, .string ⟨#[107]⟩, .string ⟨#[118]⟩, .int .i64 1, .int .i64 4, .string ⟨#[107]⟩, .string ⟨#[118]⟩] 46)).heap.size (w.alloc (.cells #[.int .i64 1, .int .i64 3, .string ⟨#[107]⟩, .string ⟨#[118]⟩, .int .i64 1, .int .i64 9, .string ⟨#[107]⟩, .string ⟨#[118]⟩, .int .i64 1, .int .i64 4, .string ⟨#[107]⟩, .string ⟨#[118]⟩] 46)) w' := by
    intro w
    have h := fof_any (some ⟨w.heap.size, 0, none⟩) 3 [rc 3, rc 9, rc 4] (w.alloc (.cells #[.int .i64 1, .int .i64 3, .string ⟨#[107]⟩, .string ⟨#[118]⟩, .int .i64 1, .int .i64 9, .string ⟨#[107]⟩, .string ⟨#[118]⟩, .int .i64 1, .int .i64 4, .string ⟨#[107]⟩, .string ⟨#[118]⟩] 46)) (IsRs.of_blk (Blk.new w 46 #[.int .i64 1, .int .i64 3, .string ⟨#[107]⟩, .string ⟨#[118]⟩, .int .i64 1, .int .i64 9, .string ⟨#[107]⟩, .string ⟨#[118]⟩, .int .i64 1, .int .i64 4, .string ⟨#[107]⟩, .string ⟨#[118]⟩]) (by intro r hr; simp at hr; rcases hr with rfl | rfl | rfl <;> exact rc_sz _)) (Nat.le_refl _) (by unfold maxLen; decide)
    rw [show ofF [rc 3, rc 9, rc 4] = (3, 9, 0) by decide +kernel] at h
    exact h
  have o2 : ∀ w : World, Calls Try.prog 23 #[.slice none 0 0] w fun e w' => e = .returned (.tuple #[.agg #[.int .i64 0, .int .i64 0], .int .i64 0]) ∧ Below w.heap.size w w' := fun w => fof_any none 0 [] w (IsRs.nil _ _) (Nat.le_refl _) (by unfold maxLen; decide)
  have o3 : ∀ w : World, Calls Try.prog 21 #[.agg #[.int .i64 0, .int .i64 0], .agg #[.int .i64 1, .int .i64 5, .string ⟨#[107]⟩, .string ⟨#[118]⟩]] w fun e w' => e = .returned (.tuple #[.agg #[.int .i64 1, .int .i64 5], .int .i64 0]) ∧ Below w.heap.size w w' := by
    intro w
    have h := fad_any 0 0 (rc 5) (rc_sz 5).1 (rc_sz 5).2 w
    rw [show addF 0 0 (rc 5) = (1, 5, 0) by decide +kernel] at h
    exact h
  go_enter Try.func16, Try.ntmps16
  go_wp2_with fail
  refine (put_any 3 _).mono ?_
  rintro e w1 ⟨rfl, hb1⟩
  have hY1 : Below w.heap.size w w1 := b_then (by repeat first | exact Below.refl _ _ | apply Below.drew | apply b_alloc) hb1
  have bel1 := hY1
  clear hb1
  go_wp2_with fail
  refine (put_any 9 _).mono ?_
  rintro e w2 ⟨rfl, hb2⟩
  have hY2 : Below w1.heap.size w1 w2 := b_then (by repeat first | exact Below.refl _ _ | apply Below.drew | apply b_alloc) hb2
  have bel2 := b_then bel1 hY2
  clear bel1 hb2 hY2
  go_wp2_with fail
  refine (put_any 4 _).mono ?_
  rintro e w3 ⟨rfl, hb3⟩
  have hY3 : Below w2.heap.size w2 w3 := b_then (by repeat first | exact Below.refl _ _ | apply Below.drew | apply b_alloc) hb3
  have bel3 := b_then bel2 hY3
  clear bel2 hb3 hY3
  go_wp2_with fail
  refine (o1 _).mono ?_
  rintro e w4 ⟨rfl, hb4⟩
  have hY4 : Below w3.heap.size w3 w4 := b_then (by repeat first | exact Below.refl _ _ | apply Below.drew | apply b_alloc) hb4
  have bel4 := b_then bel3 hY4
  clear bel3 hb4 hY4
  go_wp2_with fail
  refine (o2 _).mono ?_
  rintro e w5 ⟨rfl, hb5⟩
  have hY5 : Below w4.heap.size w4 w5 := b_then (by repeat first | exact Below.refl _ _ | apply Below.drew | apply b_alloc) hb5
  have hF5 : Blk w5 (w4.heap.size) 23 #[.int .i64 3, .int .i64 9] := (hb5.block _ (by simp <;> omega)).trans (by repeat (first | ((with_reducible refine alloc_here' ?_); (simp; done)) | (with_reducible apply alloc_old') | (with_reducible apply drew_old)))
  have bel5 := b_then bel4 hY5
  clear bel4 hb5 hY5
  have cF := hF5.cell
  have lF := hF5.lt
  go_wp2_with fail
  have hK5 : KW w w4.heap.size w5.heap.size (w5.alloc (.cells #[.int .i64 0, .int .i64 0] 23)) := ⟨b_alloc bel5 _, hF5.alloc _, Blk.new w5 _ _⟩
  have hS0 := (SW.mk hK5).after (Below.drew (Below.refl _ _))
  clear hK5 bel5 hF5 o1 o2 cF lF
  go_cut [5, 6] (fun s5 s6 wx => ∃ g : Nat, s5 = .pointer (some ⟨g, 0, none⟩) ∧ s6 = .int .i64 0 ∧ KW w w4.heap.size w5.heap.size wx ∧ Blk wx g 23 #[.int .i64 1, .int .i64 5])
  case first =>
    have ne0 := hS0.ne
    have hA0 := SW.after hS0 (b_alloc (Below.refl _ _) (.cells #[.int .i64 0, .int .i64 0] 23))
    have hZ0 := Blk.new (w5.alloc (.cells #[.int .i64 0, .int .i64 0] 23)).drew 23 #[.int .i64 0, .int .i64 0]
    have hsz0 : (w5.alloc (.cells #[.int .i64 0, .int .i64 0] 23)).drew.heap.size = w5.heap.size + 1 := World.size_alloc _ _
    rw [hsz0] at hZ0 ne0
    clear hsz0
    have ha0 := hA0.1
    have ha1 := hA0.2.1
    have hs0 := hS0.1
    have hs1 := hS0.2.1
    go_region_with (first
      | (go_at_call 22; (with_reducible refine (put_any 5 _).mono ?_); rintro e w7 ⟨rfl, hbk⟩; (first | (have hSk := SW.after hS0 hbk) | (have hSk := SW.after hA0 hbk; have hNb := hZ0.below hbk hZ0.lt; have neN := ne0)); have hc0 := hSk.1; have hc1 := hSk.2.1; have ne7 := hSk.ne; have hAk := SW.after hSk (b_alloc (Below.refl _ w7) (.cells #[.int .i64 0, .int .i64 0] 23)); have hd0 := hAk.1; have hd1 := hAk.2.1; have hZk := Blk.new w7 23 #[.int .i64 0, .int .i64 0])
      | (go_at_call 21; (with_reducible refine (o3 _).mono ?_); rintro e w8 ⟨rfl, hbk2⟩; (first | (have hSm := SW.after hSk hbk2; (try (have hNb := hNb.below hbk2 hNb.lt))) | (have hSm := SW.after hAk hbk2; have hNb := hZk.below hbk2 hZk.lt; have neN := ne7)); (try (have cNb := hNb.cell; have fNb := hNb.frozen))))
    all_goals (go_wp2_with fail; go_meet; (first | exact ⟨_, rfl, rfl, (SW.after hSm (b_alloc (Below.refl _ _) _)).2.2, Blk.new _ _ _⟩ | exact ⟨_, rfl, rfl, hSm.2.2.setN neN _ _, hNb.set2 _ _⟩))
  case rest =>
    obtain ⟨g5, rfl, rfl, hK6, hG⟩ := hcut
    obtain ⟨bel6, hF6, hN6⟩ := hK6
    clear hS0 o3
    have o4 : ∀ w : World, _ := fun w => fen_yes (show FOk 3 9 by decide) w
    have m15 : ∀ w : World, (Instr.makeSlice 24 (.int .i64 15) (.int .i64 15)).run Try.prog w = .ok (.slice (some ⟨w.heap.size, 0, none⟩) 15 15) (w.alloc (.cells (zeros 15) 5)) := fun w => make_any 15 (by omega) w
    have m16 : ∀ w : World, (Instr.makeSlice 24 (.int .i64 16) (.int .i64 16)).run Try.prog w = .ok (.slice (some ⟨w.heap.size, 0, none⟩) 16 16) (w.alloc (.cells (zeros 16) 5)) := fun w => make_any 16 (by omega) w
    have o5 : ∀ w : World, Calls Try.prog 18 #[.slice (some ⟨w.heap.size, 0, none⟩) 15 15] (w.alloc (.cells (zeros 15) 5)) fun e w' => e = .returned (.tuple #[.agg #[.int .i64 0, .int .i64 0], .int .i64 14]) ∧ Below (w.alloc (.cells (zeros 15) 5)).heap.size (w.alloc (.cells (zeros 15) 5)) w' := by
      intro w
      have h := fde_any (some ⟨w.heap.size, 0, none⟩) 15 15 (List.replicate 15 0) (w.alloc (.cells (zeros 15) 5)) (fun _ => RB.zeros w 15) (by simp) (bb_zeros 15) (Nat.le_refl _) (by unfold maxLen; omega)
      rw [fdec_short (by decide)] at h
      exact h
    have o6 : ∀ w : World, Calls Try.prog 18 #[.slice (some ⟨w.heap.size + 1, 0, none⟩) 16 16] ((w.alloc (.cells #[.int .i64 0, .int .i64 0] 23)).alloc (.cells (zeros 16) 5)) fun e w' => e = .returned (.tuple #[.agg #[.int .i64 0, .int .i64 0], .int .i64 8]) ∧ Below ((w.alloc (.cells #[.int .i64 0, .int .i64 0] 23)).alloc (.cells (zeros 16) 5)).heap.size ((w.alloc (.cells #[.int .i64 0, .int .i64 0] 23)).alloc (.cells (zeros 16) 5)) w' := by
      intro w
      have hz := RB.zeros (w.alloc (.cells #[.int .i64 0, .int .i64 0] 23)) 16
      rw [World.size_alloc] at hz
      have h := fde_any (some ⟨w.heap.size + 1, 0, none⟩) 16 16 (List.replicate 16 0) ((w.alloc (.cells #[.int .i64 0, .int .i64 0] 23)).alloc (.cells (zeros 16) 5)) (fun _ => hz) (by simp) (bb_zeros 16) (Nat.le_refl _) (by unfold maxLen; omega)
      rw [fdec_z16] at h
      exact h
    have o8 := fun w => fchk_no (show ¬ FOk 0 5 by decide) w
    have o9 := fun w => fchk_no (show ¬ FOk 1 0 by decide) w
    have cF := hF6.cell
    have cN := hN6.cell
    have cG := hG.cell
    go_wp2_with fail
    (with_reducible refine (o4 _).mono ?_)
    rintro e w1 ⟨⟨gb, cb, rfl, hle, hcm, hgb, hI⟩, hb1⟩
    have hY1 : Below wc.heap.size wc w1 := b_then (by repeat first | exact Below.refl _ _ | apply Below.drew | apply b_alloc) hb1
    have hF1 := hF6.below hY1 hF6.lt
    have hN1 := hN6.below hY1 hN6.lt
    have hG1 := hG.below hY1 hG.lt
    have bel1 := b_then bel6 hY1
    clear hF6 hN6 hG bel6 hb1 cF cN cG hY1
    have cF := hF1.cell
    have lF := hF1.lt
    have cN := hN1.cell
    have lN := hN1.lt
    have cG := hG1.cell
    have lG := hG1.lt
    go_wp2_with fail
    (with_reducible refine (o5 _).mono ?_)
    rintro e w2 ⟨rfl, hb2⟩
    have hY2 : Below w1.heap.size w1 w2 := b_then (by repeat first | exact Below.refl _ _ | apply Below.drew | apply b_alloc) hb2
    have hF2 := hF1.below hY2 hF1.lt
    have hN2 := hN1.below hY2 hN1.lt
    have hG2 := hG1.below hY2 hG1.lt
    have hI2 := hI.later hY2
    have bel2 := b_then bel1 hY2
    clear hF1 hN1 hG1 hI bel1 hb2 cF lF cN lN cG lG hY2
    have cF := hF2.cell
    have lF := hF2.lt
    have cN := hN2.cell
    have lN := hN2.lt
    have cG := hG2.cell
    have lG := hG2.lt
    go_wp2_with fail
    (with_reducible refine (o6 _).mono ?_)
    rintro e w3 ⟨rfl, hb3⟩
    have hY3 : Below w2.heap.size w2 w3 := b_then (by repeat first | exact Below.refl _ _ | apply Below.drew | apply b_alloc) hb3
    have hF3 := hF2.below hY3 hF2.lt
    have hN3 := hN2.below hY3 hN2.lt
    have hG3 := hG2.below hY3 hG2.lt
    have hI3 := hI2.later hY3
    have bel3 := b_then bel2 hY3
    clear hF2 hN2 hG2 hI2 bel2 hb3 cF lF cN lN cG lG hY3
    have cF := hF3.cell
    have lF := hF3.lt
    have cN := hN3.cell
    have lN := hN3.lt
    have cG := hG3.cell
    have lG := hG3.lt
    have y1 : (16 : Int) ≤ (cb : Int) := by omega
    have y2 : ¬ cb = 4 := by omega
    have hL := Blk.new (w3.alloc (.cells #[.int .i64 0, .int .i64 0] 23)) 5 #[.int .u8 3, .int .u8 0, .int .u8 3, .int .u8 0, .int .u8 9, .int .u8 0, .int .u8 0, .int .u8 0, .int .u8 0, .int .u8 0, .int .u8 0, .int .u8 0]
    rw [World.size_alloc] at hL
    have hI4 := (hI3.later (b_alloc (Below.refl _ w3) (.cells #[.int .i64 0, .int .i64 0] 23))).later (b_alloc (Below.refl _ _) (.cells #[.int .u8 3, .int .u8 0, .int .u8 3, .int .u8 0, .int .u8 9, .int .u8 0, .int .u8 0, .int .u8 0, .int .u8 0, .int .u8 0, .int .u8 0, .int .u8 0] 5))
    have o7 : Calls Try.prog 15 #[.slice (some ⟨gb, 4, none⟩) 12 (cb - 4), .slice (some ⟨w3.heap.size + 1, 0, none⟩) 12 12] ((w3.alloc (.cells #[.int .i64 0, .int .i64 0] 23)).alloc (.cells #[.int .u8 3, .int .u8 0, .int .u8 3, .int .u8 0, .int .u8 9, .int .u8 0, .int .u8 0, .int .u8 0, .int .u8 0, .int .u8 0, .int .u8 0, .int .u8 0] 5)) fun e w' => e = .returned (.bool true) ∧ Below ((w3.alloc (.cells #[.int .i64 0, .int .i64 0] 23)).alloc (.cells #[.int .u8 3, .int .u8 0, .int .u8 3, .int .u8 0, .int .u8 9, .int .u8 0, .int .u8 0, .int .u8 0, .int .u8 0, .int .u8 0, .int .u8 0, .int .u8 0] 5)).heap.size ((w3.alloc (.cells #[.int .i64 0, .int .i64 0] 23)).alloc (.cells #[.int .u8 3, .int .u8 0, .int .u8 3, .int .u8 0, .int .u8 9, .int .u8 0, .int .u8 0, .int .u8 0, .int .u8 0, .int .u8 0, .int .u8 0, .int .u8 0] 5)) w' := by
      have h := seq_any (some ⟨gb, 4, none⟩) (some ⟨w3.heap.size + 1, 0, none⟩) 12 12 (cb - 4) 12 (hrest 3 0 3 9) [3, 0, 3, 0, 9, 0, 0, 0, 0, 0, 0, 0] ((w3.alloc (.cells #[.int .i64 0, .int .i64 0] 23)).alloc (.cells #[.int .u8 3, .int .u8 0, .int .u8 3, .int .u8 0, .int .u8 9, .int .u8 0, .int .u8 0, .int .u8 0, .int .u8 0, .int .u8 0, .int .u8 0, .int .u8 0] 5)) (fun _ => hI4.rb.zero4 4 (by show 4 ≤ 16; omega)) (fun _ => RB.of_blk (M := [3, 0, 3, 0, 9, 0, 0, 0, 0, 0, 0, 0]) hL) rfl rfl (by unfold maxLen; omega) (by unfold maxLen; omega)
      rw [show decide (hrest 3 0 3 9 = [3, 0, 3, 0, 9, 0, 0, 0, 0, 0, 0, 0]) = true by decide] at h
      exact h
    clear hI3 hI4 hL
    go_wp2_with fail
    (with_reducible refine (o7).mono ?_)
    rintro e w4 ⟨rfl, hb4⟩
    have hY4 : Below w3.heap.size w3 w4 := b_then (by repeat first | exact Below.refl _ _ | apply Below.drew | apply b_alloc) hb4
    have hF4 := hF3.below hY4 hF3.lt
    have hN4 := hN3.below hY4 hN3.lt
    have hG4 := hG3.below hY4 hG3.lt
    have bel4 := b_then bel3 hY4
    clear hF3 hN3 hG3 bel3 hb4 cF lF cN lN cG lG hY4
    have cF := hF4.cell
    have lF := hF4.lt
    have cN := hN4.cell
    have lN := hN4.lt
    have cG := hG4.cell
    have lG := hG4.lt
    go_wp2_with fail
    (with_reducible refine (o8 _).mono ?_)
    rintro e w5 ⟨rfl, hb5⟩
    have hY5 : Below w4.heap.size w4 w5 := b_then (by repeat first | exact Below.refl _ _ | apply Below.drew | apply b_alloc) hb5
    have hF5 := hF4.below hY5 hF4.lt
    have hN5 := hN4.below hY5 hN4.lt
    have hG5 := hG4.below hY5 hG4.lt
    have bel5 := b_then bel4 hY5
    clear hF4 hN4 hG4 bel4 hb5 cF lF cN lN cG lG hY5
    have cF := hF5.cell
    have lF := hF5.lt
    have cN := hN5.cell
    have lN := hN5.lt
    have cG := hG5.cell
    have lG := hG5.lt
    go_wp2_with fail
    (with_reducible refine (o9 _).mono ?_)
    rintro e w6 ⟨rfl, hb6⟩
    have hY6 : Below w5.heap.size w5 w6 := b_then (by repeat first | exact Below.refl _ _ | apply Below.drew | apply b_alloc) hb6
    have hF6 := hF5.below hY6 hF5.lt
    have hN6 := hN5.below hY6 hN5.lt
    have hG6 := hG5.below hY6 hG5.lt
    have bel6 := b_then bel5 hY6
    clear hF5 hN5 hG5 bel5 hb6 cF lF cN lN cG lG hY6
    have cF := hF6.cell
    have lF := hF6.lt
    have cN := hN6.cell
    have lN := hN6.lt
    have cG := hG6.cell
    have lG := hG6.lt
    go_wp2_with fail
    go_ret
    exact ⟨rfl, bel6⟩
end Go.Proofs.Ytiobnhdcapfhgaa
