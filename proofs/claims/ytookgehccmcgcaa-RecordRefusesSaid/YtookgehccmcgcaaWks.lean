/-
  The examples of the chapter hold.
-/
import Derived.Test.YtookgehccmcgcaaRdx
import Derived.Test.YtookgehccmcgcaaRen
import Derived.Test.YtookgehccmcgcaaRet
import Derived.Test.YtookgehccmcgcaaApf
import Derived.Laws.OwnMore
namespace Go.Proofs.Ytookgehccmcgcaa
open Go.RowKit
set_option linter.unusedVariables false
set_option linter.unusedSimpArgs false

def exR : Rc := ⟨1, 1, ⟨#[97]⟩, ⟨#[98, 99]⟩⟩
def exD : Rc := ⟨2, 2, ⟨#[97]⟩, ⟨#[]⟩⟩
theorem exR_ok : exR.Ok := by decide +kernel
theorem exD_ok : exD.Ok := by decide +kernel
theorem exR_str : strOfNums ((encF exR).drop 4) = ⟨#[1, 1, 2, 0, 1, 0, 0, 0, 0, 0, 0, 0, 97, 98, 99]⟩ := by
  have h : (encF exR).drop 4 = rrest exR := List.drop_left' rfl
  rw [h]
  rfl
theorem exR_set : decF ((encF exR).set 18 100) = (Rc.zero, 0, 15) := by kernel_rfl
theorem Clip.set {w : World} {B g : Nat} {L : List Int} (h : Clip w B g L) (j : Nat) (x : Int) : Clip (w.setCell ⟨g, j, none⟩ (.int .u8 x)) B g (L.set j x) := by
  obtain ⟨c, h⟩ := h
  refine ⟨c, ?_⟩
  have h1 := (World.ownsRow.stored h j (.int .u8 x)).1
  unfold IsB
  rw [List.length_set, List.map_set]
  exact h1
theorem Clip.frozen {w : World} {B g : Nat} {L : List Int} (h : Clip w B g L) (j : Nat) : w.frozen? ⟨g, j, none⟩ = false := by
  obtain ⟨c, h⟩ := h
  exact World.ownsRow.frozenAt h j
theorem RB.take {w : World} {A : Option Addr} {M : List Int} (h : RB w A M) (k : Nat) : RB w A (M.take k) := by
  rcases h with ⟨h1, h2⟩ | ⟨b, off, rfl, hc⟩
  · exact .inl ⟨h1, by rw [h2]; simp⟩
  · refine .inr ⟨b, off, rfl, fun i hi => ?_⟩
    rw [List.length_take] at hi
    rw [hc i (by omega), List.getD_eq_getElem?_getD, List.getD_eq_getElem?_getD, List.getElem?_take, if_pos (by omega)]
theorem RB.cell {w : World} {g : Nat} {M : List Int} (h : RB w (some ⟨g, 0, none⟩) M) (i : Nat) (hi : i < M.length) : w.cell? ⟨g, i, none⟩ = some (.int .u8 (M.getD i 0)) := by
  rcases h with ⟨h, _⟩ | ⟨b', off', hq, hc⟩
  · cases h
  · injection hq with hq
    injection hq with hq1 hq2
    subst hq1 hq2
    have := hc i hi
    rwa [Nat.zero_add] at this
theorem exR_dec (A : Option Addr) (c : Nat) (w : World) (h : RB w A (encF exR ++ [120])) (h1 : 20 ≤ c) (h2 : c ≤ maxLen) :
    Calls Try.prog 20 #[.slice A 20 c] w fun e w' => e = .returned (.tuple #[.agg #[.int .i64 1, .int .i64 1, .string ⟨#[97]⟩, .string ⟨#[98, 99]⟩], .int .i64 19, .int .i64 0]) ∧ Below w.heap.size w w' := by
  have d := decode_any A 20 c (encF exR ++ [120]) w h (by rw [List.length_append, encF_length]; rfl) ((encF_bb _).app (by intro x hx; simp at hx; omega)) h1 h2
  rw [decF_enc exR_ok] at d
  exact d
theorem exR_short (g : Nat) (w : World) (h : RB w (some ⟨g, 0, none⟩) (encF exR)) :
    Calls Try.prog 20 #[.slice (some ⟨g, 0, none⟩) 18 19] w fun e w' => e = .returned (.tuple #[.agg #[.int .i64 0, .int .i64 0, .string ⟨#[]⟩, .string ⟨#[]⟩], .int .i64 0, .int .i64 14]) ∧ Below w.heap.size w w' := by
  have d := decode_any (some ⟨g, 0, none⟩) 18 19 ((encF exR).take 18) w (h.take 18) (by rw [List.length_take, encF_length]; rfl) ((encF_bb _).take _) (by omega) (by unfold maxLen; omega)
  rw [decF_short exR_ok (by decide)] at d
  exact d
theorem exR_bad (g : Nat) (w : World) (h : RB w (some ⟨g, 0, none⟩) ((encF exR).set 18 100)) :
    Calls Try.prog 20 #[.slice (some ⟨g, 0, none⟩) 19 19] w fun e w' => e = .returned (.tuple #[.agg #[.int .i64 0, .int .i64 0, .string ⟨#[]⟩, .string ⟨#[]⟩], .int .i64 0, .int .i64 15]) ∧ Below w.heap.size w w' := by
  have d := decode_any (some ⟨g, 0, none⟩) 19 19 ((encF exR).set 18 100) w h (by rw [List.length_set, encF_length]; rfl) (by intro x hx; rcases List.mem_or_eq_of_mem_set hx with h | h; exact encF_bb _ x h; omega) (by omega) (by unfold maxLen; omega)
  rw [exR_set] at d
  exact d
theorem exD_ent (w : World) :
    Calls Try.prog 22 #[.agg #[.int .i64 2, .int .i64 2, .string ⟨#[97]⟩, .string ⟨#[]⟩], .int .i64 3, .int .i64 40] w fun e w' => e = .returned (.tuple #[.agg #[.int .i64 2, .string ⟨#[97]⟩, .bool true, .int .i64 3, .int .i64 40, .int .i64 17], .int .i64 0]) ∧ Below w.heap.size w w' :=
  entry_yes exD 3 40 exD_ok (by omega) (by omega) (by omega) (by omega) w
theorem exR_enc (w : World) :
    Calls Try.prog 15 #[.agg #[.int .i64 1, .int .i64 1, .string ⟨#[97]⟩, .string ⟨#[98, 99]⟩]] w fun e w' => (∃ g, e = .returned (.tuple #[.slice (some ⟨g, 0, none⟩) 19 19, .int .i64 0]) ∧ Clip w' w.heap.size g (encF exR)) ∧ Below w.heap.size w w' :=
  ren_yes exR exR_ok w
theorem exR_conv {w : World} {B g : Nat} (h : Clip w B g (encF exR)) : (convert 29 9 (.slice (some ⟨g, 4, none⟩) 15 15)).run Try.prog w = .ok (.string ⟨#[1, 1, 2, 0, 1, 0, 0, 0, 0, 0, 0, 0, 97, 98, 99]⟩) w := by
  have h1 := conv_any (h.rb.zero4 4 (by rw [encF_length]; decide)) 15
  rw [exR_str] at h1
  rwa [show ((encF exR).drop 4).length = 15 by rw [List.length_drop, encF_length]; rfl] at h1
set_option maxHeartbeats 2000000 in
theorem works_true (w : World) :
    Calls Try.prog 12 #[] w fun e w' => e = .returned (.bool true) ∧ Below w.heap.size w w' := by
  obtain ⟨i0, hi0, hz0, hz1, hz2⟩ := info_parts byte_info
  have hl19 : (encF exR).length = 19 := encF_length exR
  go_enter Try.func12, Try.ntmps12
  go_wp2_with fail
  refine (exR_enc _).mono ?_
  rintro e w1 ⟨⟨g, rfl, hC⟩, hb1⟩
  have hY1 : Below w.heap.size w w1 := b_then (by repeat first | exact Below.refl _ _ | apply Below.drew | apply b_alloc) hb1
  have hR1 : Blk w1 (w.heap.size) 23 #[.int .i64 1, .int .i64 1, .string ⟨#[97]⟩, .string ⟨#[98, 99]⟩] := (hb1.block _ (by simp <;> omega)).trans (by repeat (first | ((with_reducible refine alloc_here' ?_); (simp; done)) | (with_reducible apply alloc_old') | (with_reducible apply drew_old)))
  have bel1 := hY1
  clear hb1
  have cR := hR1.cell
  have lR := hR1.lt
  have hcv := exR_conv hC
  have hgl := hC.lt.2
  have hgR : w.heap.size < g := by have := hC.lt.1; simp at this; omega
  have hCr := hC.rb
  have a1 : 19 + 1 ≤ maxLen := by unfold maxLen; omega
  have hrA := RB.later hCr (b_alloc (Below.refl _ w1) (.cells #[.int .u8 120] 5))
  have hgA : g < (w1.alloc (.cells #[.int .u8 120] 5)).heap.size := by simp; omega
  go_wp2_with (at_builtin; refine wpList_append_full rfl (.tmp 35) (.tmp 36) _ rfl 5 i0 Try.underlying29 hi0 hz0 hz1 hz2 g 19 (encF exR) rfl hl19 (by decide) hrA hgA _ 1 1 [120] rfl (Reads.byte _ _ _) a1 (by decide) ?_; intro A2 c2 w2 h1 h2 hP2 hb2)
  clear hcv hrA hgA
  have hY2 : Below w1.heap.size w1 w2 := b_then (by repeat first | exact Below.refl _ _ | apply Below.drew | apply b_alloc) hb2
  have hR2 := hR1.below hY2 hR1.lt
  have hC2 := hC.later hY2
  have hg2 := Nat.lt_of_lt_of_le hgl hY2.size
  have bel2 := b_then bel1 hY2
  clear hR1 hC hgl bel1 hb2 cR lR hY2
  have cR := hR2.cell
  have lR := hR2.lt
  refine (exR_dec A2 c2 _ hP2 h1 h2).mono ?_
  rintro e w3 ⟨rfl, hb3⟩
  have hY3 : Below w2.heap.size w2 w3 := b_then (by repeat first | exact Below.refl _ _ | apply Below.drew | apply b_alloc) hb3
  have hR3 := hR2.below hY3 hR2.lt
  have hC3 := hC2.later hY3
  have hg3 := Nat.lt_of_lt_of_le hg2 hY3.size
  have bel3 := b_then bel2 hY3
  clear hR2 hC2 hg2 bel2 hb3 cR lR hY3
  have cR := hR3.cell
  have lR := hR3.lt
  clear hP2
  have hgS := hg3
  go_wp2_with fail
  refine (exR_short g _ (Clip.rb (Clip.later hC3 (b_alloc (Below.refl _ _) _)))).mono ?_
  rintro e w4 ⟨rfl, hb4⟩
  have hY4 : Below w3.heap.size w3 w4 := b_then (by repeat first | exact Below.refl _ _ | apply Below.drew | apply b_alloc) hb4
  have hR4 := hR3.below hY4 hR3.lt
  have hC4 := hC3.later hY4
  have hg4 := Nat.lt_of_lt_of_le hg3 hY4.size
  have hS4 : Blk w4 (w3.heap.size) 23 #[.int .i64 1, .int .i64 1, .string ⟨#[97]⟩, .string ⟨#[98, 99]⟩] := (hb4.block _ (by simp <;> omega)).trans (by repeat (first | ((with_reducible refine alloc_here' ?_); (simp; done)) | (with_reducible apply alloc_old') | (with_reducible apply drew_old)))
  have bel4 := b_then bel3 hY4
  clear hR3 hC3 hg3 bel3 hb4 cR lR hY4
  have cR := hR4.cell
  have lR := hR4.lt
  have cS := hS4.cell
  have lS := hS4.lt
  have hCa := Clip.later hC4 (b_alloc (Below.refl _ w4) (.cells #[.int .i64 0, .int .i64 0, .string ⟨#[]⟩, .string ⟨#[]⟩] 23))
  have hca := hCa.rb.cell 18 (by rw [hl19]; omega)
  have hfa := hCa.frozen 18
  have hR5 := hR4.far (p := ⟨g, 18, none⟩) (by simp; omega) (.int .u8 100)
  have hS5 := hS4.far (p := ⟨g, 18, none⟩) (by simp; omega) (.int .u8 100)
  have hC5 := hC4.set 18 100
  have bel5 : Below w.heap.size w (w4.setCell ⟨g, 18, none⟩ (.int .u8 100)) := bel4.setCell (by simp; omega) _
  have l5 : g < (w4.setCell ⟨g, 18, none⟩ (.int .u8 100)).heap.size := hC5.lt.2
  clear hCa hR4 hS4 hC4 bel4 cR lR cS lS
  go_wp2_with fail
  clear hca hfa
  generalize w4.setCell ⟨g, 18, none⟩ (.int .u8 100) = w5 at hR5 hS5 hC5 bel5 l5 ⊢
  refine (exR_bad g _ (Clip.rb (Clip.later hC5 (b_alloc (Below.refl _ _) _)))).mono ?_
  rintro e w6 ⟨rfl, hb6⟩
  have hY6 : Below w5.heap.size w5 w6 := b_then (by repeat first | exact Below.refl _ _ | apply Below.drew | apply b_alloc) hb6
  have hR6 := hR5.below hY6 hR5.lt
  have hS6 := hS5.below hY6 hS5.lt
  have bel6 := b_then bel5 hY6
  clear hR5 hS5 bel5 hb6 hY6
  have cR := hR6.cell
  have lR := hR6.lt
  have cS := hS6.cell
  have lS := hS6.lt
  clear hC5
  go_wp2_with fail
  refine (exD_ent _).mono ?_
  rintro e w7 ⟨rfl, hb7⟩
  have hY7 : Below w6.heap.size w6 w7 := b_then (by repeat first | exact Below.refl _ _ | apply Below.drew | apply b_alloc) hb7
  have hR7 := hR6.below hY7 hR6.lt
  have hS7 := hS6.below hY7 hS6.lt
  have bel7 := b_then bel6 hY7
  clear hR6 hS6 bel6 hb7 cR lR cS lS hY7
  have cR := hR7.cell
  have lR := hR7.lt
  have cS := hS7.cell
  have lS := hS7.lt
  go_wp2_with fail
  refine (cost_any ⟨#[97]⟩ ⟨#[98, 99]⟩ (by decide) (by decide) _).mono ?_
  rintro e w9 ⟨rfl, rfl⟩
  go_wp2_with fail
  go_ret
  exact ⟨rfl, by repeat first | (with_reducible exact bel7) | (with_reducible apply Below.drew) | (with_reducible apply b_alloc)⟩
end Go.Proofs.Ytookgehccmcgcaa
