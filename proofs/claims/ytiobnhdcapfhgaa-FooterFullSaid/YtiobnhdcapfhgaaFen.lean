/-
  The bytes of a footer: the program and the reference.
-/
import Derived.Test.YtiobnhdcapfhgaaFch
import Derived.Test.YtiobnhdcapfhgaaRcr
import Derived.Test.YtiobnhdcapfhgaaStr
import Derived.Test.YtiobnhdcapfhgaaRdc
import Derived.Test.YtiobnhdcapfhgaaRen3
namespace Go.Proofs.Ytiobnhdcapfhgaa
open Go.RowKit
set_option linter.unusedVariables false

theorem fen_no {c l : Int} (h : ¬ FOk c l) (w : World) : Calls Try.prog 11 #[.agg #[.int .i64 c, .int .i64 l]] w fun e w' => e = .returned (.tuple #[.slice none 0 0, .int .i64 2]) ∧ Below w.heap.size w w' := by
  have hc := fun w => fchk_no h w
  clear h
  go_enter Try.func11, Try.ntmps11
  go_wp2_with fail
  refine (hc _).mono ?_
  rintro e w1 ⟨rfl, hb1⟩
  go_wp2_with fail
  go_ret2
  exact ⟨rfl, b_then (b_alloc (Below.refl _ _) _) hb1⟩
set_option maxRecDepth 100000 in
theorem fen_yes {c l : Int} (h : FOk c l) (w : World) : Calls Try.prog 11 #[.agg #[.int .i64 c, .int .i64 l]] w fun e w' =>
    (∃ (g cap : Nat), e = .returned (.tuple #[.slice (some ⟨g, 0, none⟩) 16 cap, .int .i64 0]) ∧ 16 ≤ cap ∧ cap ≤ maxLen ∧ w.heap.size ≤ g ∧ IsB w' w.heap.size (.slice (some ⟨g, 0, none⟩) 16 cap) (fenc c l)) ∧ Below w.heap.size w w' := by
  have hc := fun w => fchk_yes h w
  have he := fun w => enc_yes 0 3 0 c l w (by omega) (by omega) h.hok
  have hS := csI_bd (hrest_bb 3 0 c l)
  obtain ⟨S, hSe⟩ : ∃ S, S = csI (hrest 3 0 c l) := ⟨_, rfl⟩
  have hf : fenc c l = hbytes S 3 0 c l := by rw [hSe]; rfl
  rw [← hSe] at hS
  have he2 := fun w => enc_yes S 3 0 c l w hS.1 hS.2 h.hok
  rw [← hf] at he2
  have hs : ∀ (g cap : Nat) (w : World), RB w (some ⟨g, 0, none⟩) (hbytes 0 3 0 c l) → 16 ≤ cap → cap ≤ maxLen → Calls Try.prog 35 #[.slice (some ⟨g, 4, none⟩) 12 (cap - 4)] w fun e w' => e = .returned (.int .u32 S) ∧ Below w.heap.size w w' := by
    intro g cap w hr h1 h2
    rw [hSe]
    exact sum_any (some ⟨g, 4, none⟩) (cap - 4) (hrest 3 0 c l) w (hr.zero4 4 (by show 4 ≤ 16; omega)) (hrest_bb _ _ _ _) (by show 12 ≤ cap - 4; omega) (by omega)
  have HF := Lib.hid hf
  clear hS hSe hf h
  go_enter Try.func11, Try.ntmps11
  go_wp2_with fail
  refine (hc _).mono ?_
  rintro e w1 ⟨rfl, hb1⟩
  have bel1 := b_then (b_alloc (Below.refl _ _) _) hb1
  have hX := (Blk.new w 23 #[.int .i64 c, .int .i64 l]).below hb1 (Blk.new w _ _).lt
  have cX := hX.cell
  have hH := Blk.new w1 67 #[.int .u32 0, .int .i64 3, .int .i64 0, .int .i64 c, .int .i64 l]
  have cH := hH.cell
  have bel2 := b_alloc bel1 (.cells #[.int .u32 0, .int .i64 3, .int .i64 0, .int .i64 c, .int .i64 l] 67)
  have hws : w.heap.size ≤ w1.heap.size := bel1.size
  clear hc hb1 bel1
  go_wp2_with fail
  refine (he _).mono ?_
  rintro e w2 ⟨⟨v2, rfl, hI2⟩, hb2⟩
  obtain ⟨g, cap, rfl, hg0, hg1, hle, hcm⟩ := hI2.head (by show 0 < 16; omega)
  have hle : 16 ≤ cap := hle
  have hH2 := hH.below hb2 hH.lt
  have cH2 := hH2.cell
  have fH2 := hH2.frozen
  have bel3 := b_then bel2 hb2
  have hR2 := hI2.rb
  have y1 : ¬ cap = 4 := by omega
  have y2 : (4 : Int) ≤ (16 : Int) := by omega
  have y3 : (16 : Int) ≤ (cap : Int) := by omega
  clear he hb2 cH bel2 hI2 cX hX
  go_wp2_with fail
  refine (hs g cap _ hR2 hle hcm).mono ?_
  rintro e w3 ⟨rfl, hb3⟩
  have hH3 := hH2.below hb3 hH2.lt
  have bel4 := b_then bel3 hb3
  clear hb3
  have cH3 := hH3.cell
  have fH3 := hH3.frozen
  have hN3 : Blk (w3.setCell ⟨w1.heap.size, 0, none⟩ (.int .u32 S)) w1.heap.size 67 #[.int .u32 S, .int .i64 3, .int .i64 0, .int .i64 c, .int .i64 l] := hH3.set_ 0 (.int .u32 S)
  have cN3 := hN3.cell
  have bel5 : Below w.heap.size w (w3.setCell ⟨w1.heap.size, 0, none⟩ (.int .u32 S)) := bel4.setCell (by exact hws) _
  clear hs hR2 cH2 fH2 bel3 hH2 hH
  go_wp2_with fail
  generalize w3.setCell ⟨w1.heap.size, 0, none⟩ (.int .u32 S) = w4 at cN3 bel5 hN3 ⊢
  refine (he2 _).mono ?_
  rintro e w5 ⟨⟨v5, rfl, hI5⟩, hb5⟩
  have hl : (fenc c l).length = 16 := rfl
  obtain ⟨g5, cap5, rfl, hg5, hg6, hle5, hcm5⟩ := hI5.head (by rw [hl]; omega)
  rw [hl] at hle5 hI5 ⊢
  go_wp2_with fail
  go_ret2
  exact ⟨⟨g5, cap5, rfl, hle5, hcm5, Nat.le_trans bel5.size hg5, hI5.base bel5.size⟩, b_then bel5 hb5⟩

theorem rfen_no {c l : Int} (h : ¬ FOk c l) (w : World) : Calls Try.prog 12 #[.agg #[.int .i64 c, .int .i64 l]] w fun e w' => e = .returned (.tuple #[.slice none 0 0, .int .i64 2]) ∧ Below w.heap.size w w' := by
  have hc := fun w => rfchk_no h w
  clear h
  go_enter Try.func12, Try.ntmps12
  go_wp2_with fail
  refine (hc _).mono ?_
  rintro e w1 ⟨rfl, hb1⟩
  go_wp2_with fail
  go_ret2
  exact ⟨rfl, b_then (b_alloc (Below.refl _ _) _) hb1⟩
set_option maxRecDepth 100000 in
theorem rfen_yes {c l : Int} (h : FOk c l) (w : World) : Calls Try.prog 12 #[.agg #[.int .i64 c, .int .i64 l]] w fun e w' =>
    (∃ (g cap : Nat), e = .returned (.tuple #[.slice (some ⟨g, 0, none⟩) 16 cap, .int .i64 0]) ∧ 16 ≤ cap ∧ cap ≤ maxLen ∧ w.heap.size ≤ g ∧ IsB w' w.heap.size (.slice (some ⟨g, 0, none⟩) 16 cap) (fenc c l)) ∧ Below w.heap.size w w' := by
  have hc := fun w => rfchk_yes h w
  have he := fun w => renc_yes 0 3 0 c l w (by omega) (by omega) h.hok
  have hS := csI_bd (hrest_bb 3 0 c l)
  obtain ⟨S, hSe⟩ : ∃ S, S = csI (hrest 3 0 c l) := ⟨_, rfl⟩
  have hf : fenc c l = hbytes S 3 0 c l := by rw [hSe]; rfl
  rw [← hSe] at hS
  have he2 := fun w => renc_yes S 3 0 c l w hS.1 hS.2 h.hok
  rw [← hf] at he2
  have hs : ∀ (g cap : Nat) (w : World), RB w (some ⟨g, 0, none⟩) (hbytes 0 3 0 c l) → 16 ≤ cap → cap ≤ maxLen → Calls Try.prog 37 #[.slice (some ⟨g, 4, none⟩) 12 (cap - 4)] w fun e w' => e = .returned (.int .u32 S) ∧ w = w' := by
    intro g cap w hr h1 h2
    rw [hSe]
    exact rsum_any (some ⟨g, 4, none⟩) 12 (cap - 4) (hrest 3 0 c l) w (hr.zero4 4 (by show 4 ≤ 16; omega)) (hrest_bb _ _ _ _) rfl (by omega) (by omega)
  have HF := Lib.hid hf
  clear hS hSe hf h
  go_enter Try.func12, Try.ntmps12
  go_wp2_with fail
  refine (hc _).mono ?_
  rintro e w1 ⟨rfl, hb1⟩
  have bel1 := b_then (b_alloc (Below.refl _ _) _) hb1
  have hX := (Blk.new w 29 #[.int .i64 c, .int .i64 l]).below hb1 (Blk.new w _ _).lt
  have cX := hX.cell
  have hH := Blk.new w1 70 #[.int .u32 0, .int .i64 3, .int .i64 0, .int .i64 c, .int .i64 l]
  have cH := hH.cell
  have bel2 := b_alloc bel1 (.cells #[.int .u32 0, .int .i64 3, .int .i64 0, .int .i64 c, .int .i64 l] 70)
  have hws : w.heap.size ≤ w1.heap.size := bel1.size
  clear hc hb1 bel1
  go_wp2_with fail
  refine (he _).mono ?_
  rintro e w2 ⟨⟨v2, rfl, hI2⟩, hb2⟩
  obtain ⟨g, cap, rfl, hg0, hg1, hle, hcm⟩ := hI2.head (by show 0 < 16; omega)
  have hle : 16 ≤ cap := hle
  have hH2 := hH.below hb2 hH.lt
  have cH2 := hH2.cell
  have fH2 := hH2.frozen
  have bel3 := b_then bel2 hb2
  have hR2 := hI2.rb
  have y1 : ¬ cap = 4 := by omega
  have y2 : (4 : Int) ≤ (16 : Int) := by omega
  have y3 : (16 : Int) ≤ (cap : Int) := by omega
  clear he hb2 cH bel2 hI2 cX hX
  go_wp2_with fail
  refine (hs g cap _ hR2 hle hcm).mono ?_
  rintro e w3 ⟨rfl, rfl⟩
  have hH3 := hH2
  have bel4 := bel3
  skip
  have cH3 := hH3.cell
  have fH3 := hH3.frozen
  have hN3 : Blk (w2.setCell ⟨w1.heap.size, 0, none⟩ (.int .u32 S)) w1.heap.size 70 #[.int .u32 S, .int .i64 3, .int .i64 0, .int .i64 c, .int .i64 l] := hH3.set_ 0 (.int .u32 S)
  have cN3 := hN3.cell
  have bel5 : Below w.heap.size w (w2.setCell ⟨w1.heap.size, 0, none⟩ (.int .u32 S)) := bel4.setCell (by exact hws) _
  clear hs hR2 cH2 fH2 bel3 hH2 hH
  go_wp2_with fail
  generalize w2.setCell ⟨w1.heap.size, 0, none⟩ (.int .u32 S) = w4 at cN3 bel5 hN3 ⊢
  refine (he2 _).mono ?_
  rintro e w5 ⟨⟨v5, rfl, hI5⟩, hb5⟩
  have hl : (fenc c l).length = 16 := rfl
  obtain ⟨g5, cap5, rfl, hg5, hg6, hle5, hcm5⟩ := hI5.head (by rw [hl]; omega)
  rw [hl] at hle5 hI5 ⊢
  go_wp2_with fail
  go_ret2
  exact ⟨⟨g5, cap5, rfl, hle5, hcm5, Nat.le_trans bel5.size hg5, hI5.base bel5.size⟩, b_then bel5 hb5⟩
end Go.Proofs.Ytiobnhdcapfhgaa
