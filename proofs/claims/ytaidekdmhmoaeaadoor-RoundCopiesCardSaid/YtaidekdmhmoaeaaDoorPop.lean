/-
  bits.OnesCount32: how many slots a set has.
-/
import Derived.Test.YtaidekdmhmoaeaaDoorRd
import Derived.BigQuiet
namespace Go.Proofs.YtaidekdmhmoaeaaDoor.Rd
open Go.RowKit Bt
set_option linter.unusedVariables false
set_option linter.unusedSimpArgs false
def o (b : Bool) : Nat := if b then 1 else 0
theorem cnt_succ (p : Nat → Bool) (s : Nat) : ((List.range (s + 1)).filter p).length = ((List.range s).filter p).length + o (p s) := by
  rw [List.range_succ, List.filter_append, List.length_append]
  cases h : p s <;> simp [List.filter, h, o]
theorem cnt8 (p : Nat → Bool) (a : Nat) : ((List.range (a + 8)).filter p).length = ((List.range a).filter p).length + (o (p a) + o (p (a + 1)) + o (p (a + 2)) + o (p (a + 3)) + o (p (a + 4)) + o (p (a + 5)) + o (p (a + 6)) + o (p (a + 7))) := by
  rw [cnt_succ p (a + 7), cnt_succ p (a + 6), cnt_succ p (a + 5), cnt_succ p (a + 4), cnt_succ p (a + 3), cnt_succ p (a + 2), cnt_succ p (a + 1), cnt_succ p a]
  omega
def c8 (b : Nat) : Nat := ((List.range 8).filter b.testBit).length
theorem c8_at (M a b : Nat) (hb : ∀ i, i < 8 → b.testBit i = M.testBit (a + i)) : ((List.range (a + 8)).filter M.testBit).length = ((List.range a).filter M.testBit).length + c8 b := by
  have h := cnt8 b.testBit 0
  rw [cnt8 M.testBit a]
  unfold c8
  simp only [Nat.zero_add] at h
  rw [h, hb 0 (by omega), hb 1 (by omega), hb 2 (by omega), hb 3 (by omega), hb 4 (by omega), hb 5 (by omega), hb 6 (by omega), hb 7 (by omega)]
  simp
theorem slots_parts (M b0 b1 b2 b3 : Nat) (h0 : b0 = M % 256) (h1 : b1 = M / 256 % 256) (h2 : b2 = M / 65536 % 256) (h3 : b3 = M / 16777216) : (slots M).length = c8 b3 + c8 b2 + c8 b1 + c8 b0 := by
  have e0 := c8_at M 0 b0 (fun i hi => by rw [h0, show (256 : Nat) = 2 ^ 8 from rfl, Nat.testBit_mod_two_pow, Nat.zero_add]; simp [hi])
  have e1 := c8_at M 8 b1 (fun i hi => by rw [h1, show (256 : Nat) = 2 ^ 8 from rfl, Nat.testBit_mod_two_pow, Nat.testBit_div_two_pow]; simp [hi, Nat.add_comm])
  have e2 := c8_at M 16 b2 (fun i hi => by rw [h2, show (256 : Nat) = 2 ^ 8 from rfl, show (65536 : Nat) = 2 ^ 16 from rfl, Nat.testBit_mod_two_pow, Nat.testBit_div_two_pow]; simp [hi, Nat.add_comm])
  have e3 := c8_at M 24 b3 (fun i hi => by rw [h3, show (16777216 : Nat) = 2 ^ 24 from rfl, Nat.testBit_div_two_pow]; simp [Nat.add_comm])
  have e : ((List.range 0).filter M.testBit).length = 0 := rfl
  simp only [Nat.reduceAdd] at e0 e1 e2 e3
  unfold slots
  omega
theorem tab_c8 : ∀ n : Fin 256, ((Lib.pop8tab[n.val]?).getD 0).toNat = c8 n.val := by decide +kernel
theorem tab_at (b : Nat) (hb : b < Lib.pop8tab.size) : (Lib.pop8tab[b]'hb).toNat = c8 b ∧ c8 b ≤ 8 := by
  have h := tab_c8 ⟨b, by rw [← Lib.pop8tab_size]; exact hb⟩
  rw [getElem?_pos Lib.pop8tab b hb] at h
  exact ⟨h, Nat.le_trans (List.length_filter_le _ _) (by simp)⟩
set_option maxHeartbeats 1600000 in
set_option maxRecDepth 100000 in
theorem pop_any (M : Nat) (hM : M < 2 ^ 32) (w : World) : Calls Tryd.prog 32 #[.int .u32 M] w fun e w' => e = .returned (.int .i64 ((slots M).length : Nat)) ∧ ∃ k, w' = w.drewN k := by
  have g0 : bits BinOp.and IntKind.u32 (M : Int) 255 = ((M % 256 : Nat) : Int) := by
    rw [show (255 : Int) = ((255 : Nat) : Int) from rfl, u32_and_nat _ _ hM (by decide), Nat.and_two_pow_sub_one_eq_mod M 8]
  have g1 : bits BinOp.and IntKind.u32 ((M : Int) / 256) 255 = ((M / 256 % 256 : Nat) : Int) := by
    rw [show (255 : Int) = ((255 : Nat) : Int) from rfl, show (M : Int) / 256 = ((M / 256 : Nat) : Int) from by omega, u32_and_nat _ _ (by omega) (by decide), Nat.and_two_pow_sub_one_eq_mod (M / 256) 8]
  have g2 : bits BinOp.and IntKind.u32 ((M : Int) / 65536) 255 = ((M / 65536 % 256 : Nat) : Int) := by
    rw [show (255 : Int) = ((255 : Nat) : Int) from rfl, show (M : Int) / 65536 = ((M / 65536 : Nat) : Int) from by omega, u32_and_nat _ _ (by omega) (by decide), Nat.and_two_pow_sub_one_eq_mod (M / 65536) 8]
  have g3 : (M : Int) / 16777216 = ((M / 16777216 : Nat) : Int) := by omega
  obtain ⟨b0, h0⟩ : ∃ b, b = M % 256 := ⟨_, rfl⟩
  obtain ⟨b1, h1⟩ : ∃ b, b = M / 256 % 256 := ⟨_, rfl⟩
  obtain ⟨b2, h2⟩ : ∃ b, b = M / 65536 % 256 := ⟨_, rfl⟩
  obtain ⟨b3, h3⟩ : ∃ b, b = M / 16777216 := ⟨_, rfl⟩
  rw [← h0] at g0
  rw [← h1] at g1
  rw [← h2] at g2
  rw [← h3] at g3
  have l0 : b0 < Lib.pop8tab.size := by rw [Lib.pop8tab_size]; omega
  have l1 : b1 < Lib.pop8tab.size := by rw [Lib.pop8tab_size]; omega
  have l2 : b2 < Lib.pop8tab.size := by rw [Lib.pop8tab_size]; omega
  have l3 : b3 < Lib.pop8tab.size := by rw [Lib.pop8tab_size]; omega
  have H0 := Lib.hid h0
  have H1 := Lib.hid h1
  have H2 := Lib.hid h2
  have H3 := Lib.hid h3
  clear h0 h1 h2 h3
  go_enter Tryd.func32, Tryd.ntmps32
  go_wp2_with fail
  go_region
  go_wp2_with fail
  go_ret
  obtain ⟨t0, u0⟩ := tab_at b0 l0
  obtain ⟨t1, u1⟩ := tab_at b1 l1
  obtain ⟨t2, u2⟩ := tab_at b2 l2
  obtain ⟨t3, u3⟩ := tab_at b3 l3
  rw [slots_parts M b0 b1 b2 b3 H0.out H1.out H2.out H3.out, t0, t1, t2, t3]
  refine ⟨congrArg (fun x => Ending.returned (.int .i64 x)) ?_, 1, rfl⟩
  omega
end Go.Proofs.YtaidekdmhmoaeaaDoor.Rd
