/-
  Rounds: the round's functions, each by its contract.
-/
import Derived.Test.YtaidekdmhmoaeaaDoorOnl
import Derived.Test.YtaidekdmhmoaeaaDoorBt
namespace Go.Proofs.YtaidekdmhmoaeaaDoor.Rd
open Go.RowKit Bt
set_option linter.unusedVariables false
set_option linter.unusedSimpArgs false
structure Is (w : World) (b s M : Nat) (N : Int) : Prop where
  blk : Blk w b 27 #[.int .i64 s, .int .u32 M, .int .i64 N]
  s1 : 1 ≤ s
  s2 : s ≤ 32
  ml : M < 2 ^ s
/-- nil, or not returned by New or Copy -/
def No (p : Option Addr) (w : World) : Prop := p = none ∨ ∃ b, p = some ⟨b, 0, none⟩ ∧ Blk w b 27 #[.int .i64 0, .int .u32 0, .int .i64 0]
section
variable {w w' : World} {b s M : Nat} {N : Int} {p : Option Addr}
theorem Is.lt (h : Is w b s M N) : b < w.heap.size := h.blk.lt
theorem Is.later (h : Is w b s M N) (hb : Below w.heap.size w w') : Is w' b s M N := ⟨h.blk.below hb h.lt, h.s1, h.s2, h.ml⟩
theorem Is.m32 (h : Is w b s M N) : M < 2 ^ 32 := Nat.lt_of_lt_of_le h.ml (Nat.pow_le_pow_right (by omega) h.s2)
theorem No.later (h : No p w) (hb : Below w.heap.size w w') : No p w' := by
  rcases h with h | ⟨b, h, hk⟩
  · exact .inl h
  · exact .inr ⟨b, h, hk.below hb hk.lt⟩
end
theorem New_ok (s : Nat) (w : World) (h1 : 1 ≤ s) (h2 : s ≤ 32) : Calls Tryd.prog 13 #[.int .i64 s] w fun e w' => ∃ b : Nat, e = .returned (.tuple #[.pointer (some ⟨b, 0, none⟩), .int .i64 0]) ∧ Is w' b s 0 0 ∧ w.heap.size ≤ b ∧ Below w.heap.size w w' := by
  go_enter Tryd.func13, Tryd.ntmps13
  go_wp2
  go_ret2
  exact ⟨_, rfl, ⟨Blk.new w _ _, h1, h2, Nat.two_pow_pos s⟩, Nat.le_refl _, b_alloc (Below.refl _ _) _⟩
theorem New_err (s : Int) (w : World) (h : s < 1 ∨ 32 < s) : Calls Tryd.prog 13 #[.int .i64 s] w fun e w' => e = .returned (.tuple #[.pointer none, .int .i64 2]) ∧ w = w' := by
  rcases h with h | h
  · go_enter Tryd.func13, Tryd.ntmps13
    go_wp2
    go_ret2
    exact ⟨rfl, rfl⟩
  · have h' : ¬ s < 1 := by omega
    go_enter Tryd.func13, Tryd.ntmps13
    go_wp2
    go_ret2
    exact ⟨rfl, rfl⟩
theorem valid_no (p : Option Addr) (w : World) (h : No p w) : Calls Tryd.prog 28 #[.pointer p] w fun e w' => e = .returned (.bool false) ∧ w = w' := by
  rcases h with rfl | ⟨b, rfl, hk⟩
  · go_enter Tryd.func28, Tryd.ntmps28
    go_wp2
    go_ret
    exact ⟨rfl, rfl⟩
  · have hc := hk.cell
    go_enter Tryd.func28, Tryd.ntmps28
    go_wp2
    go_ret
    exact ⟨rfl, rfl⟩
theorem has_bit (M k : Nat) (hM : M < 2 ^ 32) : (bits BinOp.and IntKind.u32 ((M : Int) / 2 ^ k) 1 == 1) = M.testBit k := by
  have e : (M : Int) / 2 ^ k = ((M / 2 ^ k : Nat) : Int) := by simp
  have hl : M / 2 ^ k < 4294967296 := Nat.lt_of_le_of_lt (Nat.div_le_self _ _) hM
  have h1 := u32_and_nat (M / 2 ^ k) 1 hl (by decide)
  rw [e, show (1 : Int) = ((1 : Nat) : Int) from rfl, h1, nat_mask1, Nat.testBit_eq_decide_div_mod_eq]
  by_cases h : M / 2 ^ k % 2 = 1
  · rw [h]; rfl
  · rw [decide_eq_false h, beq_eq_false_iff_ne]
    omega
theorem del_bits {M k : Nat} (hk : k < 32) (hM : M < 2 ^ 32) : bits BinOp.andNot IntKind.u32 (M : Int) (2 ^ k % 4294967296) = ((M &&& (4294967295 - 2 ^ k) : Nat) : Int) := by
  have h1 : 2 ^ k < 2 ^ 32 := Nat.pow_lt_pow_right (by omega) hk
  have e1 : ((2 ^ k : Nat) : Int) = (2 : Int) ^ k := by simp
  rw [← e1]
  generalize 2 ^ k = q at h1 ⊢
  have e : ((q : Int) % 4294967296) = (q : Int) := by omega
  rw [e]
  exact u32_andNot_nat M q hM h1
theorem is_zero (M : Nat) : ((M : Int) == 0) = (M == 0) := by
  by_cases h : M = 0
  · subst h; rfl
  · rw [beq_eq_false_iff_ne.2 h, beq_eq_false_iff_ne]
    omega
theorem valid_any (b s M : Nat) (N : Int) (w : World) (h : Is w b s M N) : Calls Tryd.prog 28 #[.pointer (some ⟨b, 0, none⟩)] w fun e w' => e = .returned (.bool true) ∧ w = w' := by
  have hc := h.blk.cell
  have z1 : (0 : Nat) < s := h.s1
  go_enter Tryd.func28, Tryd.ntmps28
  go_wp2
  go_ret
  exact ⟨rfl, rfl⟩
theorem exists_any (b s M : Nat) (N : Int) (x : Int) (w : World) (h : Is w b s M N) : Calls Tryd.prog 31 #[.pointer (some ⟨b, 0, none⟩), .int .i64 x] w fun e w' => e = .returned (.bool (decide (0 ≤ x ∧ x < s))) ∧ w = w' := by
  have hc := h.blk.cell
  by_cases h1 : 0 ≤ x
  · by_cases h2 : x < (s : Int)
    · rw [show decide (0 ≤ x ∧ x < (s : Int)) = true from decide_eq_true ⟨h1, h2⟩]
      go_enter Tryd.func31, Tryd.ntmps31
      go_wp2
      go_ret
      exact ⟨rfl, rfl⟩
    · rw [show decide (0 ≤ x ∧ x < (s : Int)) = false from decide_eq_false fun h => h2 h.2]
      go_enter Tryd.func31, Tryd.ntmps31
      go_wp2
      go_ret
      exact ⟨rfl, rfl⟩
  · rw [show decide (0 ≤ x ∧ x < (s : Int)) = false from decide_eq_false fun h => h1 h.1]
    go_enter Tryd.func31, Tryd.ntmps31
    go_wp2
    go_ret
    exact ⟨rfl, rfl⟩
theorem Has_no (p : Option Addr) (w : World) (h : No p w) (x : Int) : Calls Tryd.prog 25 #[.pointer p, .int .i64 x] w fun e w' => e = .returned (.bool false) ∧ w = w' := by
  have hv := valid_no p w h
  go_enter Tryd.func25, Tryd.ntmps25
  go_wp2_with fail
  refine hv.mono ?_
  rintro e w' ⟨rfl, rfl⟩
  clear hv
  go_wp2_with fail
  go_ret
  exact ⟨rfl, rfl⟩
theorem Over_no (p : Option Addr) (w : World) (h : No p w) : Calls Tryd.prog 21 #[.pointer p] w fun e w' => e = .returned (.bool false) ∧ w = w' := by
  have hv := valid_no p w h
  go_enter Tryd.func21, Tryd.ntmps21
  go_wp2_with fail
  refine hv.mono ?_
  rintro e w' ⟨rfl, rfl⟩
  clear hv
  go_wp2_with fail
  go_ret
  exact ⟨rfl, rfl⟩
theorem Count_no (p : Option Addr) (w : World) (h : No p w) : Calls Tryd.prog 23 #[.pointer p] w fun e w' => e = .returned (.int .i64 0) ∧ w = w' := by
  have hv := valid_no p w h
  go_enter Tryd.func23, Tryd.ntmps23
  go_wp2_with fail
  refine hv.mono ?_
  rintro e w' ⟨rfl, rfl⟩
  clear hv
  go_wp2_with fail
  go_ret
  exact ⟨rfl, rfl⟩
theorem Copy_no (p : Option Addr) (w : World) (h : No p w) : Calls Tryd.prog 12 #[.pointer p] w fun e w' => e = .returned (.pointer none) ∧ w = w' := by
  have hv := valid_no p w h
  go_enter Tryd.func12, Tryd.ntmps12
  go_wp2_with fail
  refine hv.mono ?_
  rintro e w' ⟨rfl, rfl⟩
  clear hv
  go_wp2_with fail
  go_ret
  exact ⟨rfl, rfl⟩
theorem Done_no (p : Option Addr) (w : World) (h : No p w) (x : Int) : Calls Tryd.prog 10 #[.pointer p, .int .i64 x] w fun e w' => e = .returned (.int .i64 1) ∧ w = w' := by
  have hv := valid_no p w h
  go_enter Tryd.func10, Tryd.ntmps10
  go_wp2_with fail
  refine hv.mono ?_
  rintro e w' ⟨rfl, rfl⟩
  clear hv
  go_wp2_with fail
  go_ret
  exact ⟨rfl, rfl⟩
theorem Count_any (b s M : Nat) (N : Int) (w : World) (h : Is w b s M N) : Calls Tryd.prog 23 #[.pointer (some ⟨b, 0, none⟩)] w fun e w' => e = .returned (.int .i64 N) ∧ w = w' := by
  have hv := valid_any b s M N w h
  have hc := h.blk.cell
  go_enter Tryd.func23, Tryd.ntmps23
  go_wp2_with fail
  refine hv.mono ?_
  rintro e w' ⟨rfl, rfl⟩
  clear hv
  go_wp2_with fail
  go_ret
  exact ⟨rfl, rfl⟩
theorem Over_any (b s M : Nat) (N : Int) (w : World) (h : Is w b s M N) : Calls Tryd.prog 21 #[.pointer (some ⟨b, 0, none⟩)] w fun e w' => e = .returned (.bool (M == 0)) ∧ w = w' := by
  have hv := valid_any b s M N w h
  have hc := h.blk.cell
  go_enter Tryd.func21, Tryd.ntmps21
  go_wp2_with fail
  refine hv.mono ?_
  rintro e w' ⟨rfl, rfl⟩
  clear hv
  go_wp2_with fail
  go_ret
  exact ⟨congrArg (fun x => Ending.returned (.bool x)) (is_zero M), rfl⟩
theorem Copy_any (b s M : Nat) (N : Int) (w : World) (h : Is w b s M N) : Calls Tryd.prog 12 #[.pointer (some ⟨b, 0, none⟩)] w fun e w' => ∃ b' : Nat, e = .returned (.pointer (some ⟨b', 0, none⟩)) ∧ Is w' b' s M N ∧ w.heap.size ≤ b' ∧ Below w.heap.size w w' := by
  have hv := valid_any b s M N w h
  have hc := h.blk.cell
  go_enter Tryd.func12, Tryd.ntmps12
  go_wp2_with fail
  refine hv.mono ?_
  rintro e w' ⟨rfl, rfl⟩
  clear hv
  go_wp2_with fail
  go_ret
  exact ⟨_, rfl, ⟨Blk.new _ _ _, h.s1, h.s2, h.ml⟩, Nat.le_refl _, b_alloc (Below.refl _ _) _⟩
theorem Has_any (b s M : Nat) (N : Int) (x : Int) (w : World) (h : Is w b s M N) : Calls Tryd.prog 25 #[.pointer (some ⟨b, 0, none⟩), .int .i64 x] w fun e w' => e = .returned (.bool (decide (0 ≤ x ∧ x < s) && M.testBit x.toNat)) ∧ w = w' := by
  have hv := valid_any b s M N w h
  have he := exists_any b s M N x w h
  have hc := h.blk.cell
  by_cases hx : 0 ≤ x ∧ x < (s : Int)
  · rw [show decide (0 ≤ x ∧ x < (s : Int)) = true from decide_eq_true hx] at he ⊢
    obtain ⟨k, rfl⟩ : ∃ k : Nat, x = (k : Int) := ⟨x.toNat, by omega⟩
    have z1 : (0 : Int) ≤ (k : Int) := by omega
    have z2 : (k : Int) ≤ 31 := by have := h.s2; omega
    clear hx
    go_enter Tryd.func25, Tryd.ntmps25
    go_wp2_with fail
    refine hv.mono ?_
    rintro e w' ⟨rfl, rfl⟩
    go_wp2_with fail
    refine he.mono ?_
    rintro e w' ⟨rfl, rfl⟩
    clear hv he
    go_wp2_with fail
    go_ret
    exact ⟨congrArg (fun x => Ending.returned (.bool x)) ((has_bit M k h.m32).trans (Bool.true_and _).symm), rfl⟩
  · rw [show decide (0 ≤ x ∧ x < (s : Int)) = false from decide_eq_false hx] at he ⊢
    clear hx
    go_enter Tryd.func25, Tryd.ntmps25
    go_wp2_with fail
    refine hv.mono ?_
    rintro e w' ⟨rfl, rfl⟩
    go_wp2_with fail
    refine he.mono ?_
    rintro e w' ⟨rfl, rfl⟩
    clear hv he
    go_wp2_with fail
    go_ret
    exact ⟨rfl, rfl⟩
theorem Done_ok (b s M : Nat) (N : Int) (k : Nat) (w : World) (h : Is w b s M N) (hk : k < s) (hm : M.testBit k = true) : Calls Tryd.prog 10 #[.pointer (some ⟨b, 0, none⟩), .int .i64 k] w fun e w' => e = .returned (.int .i64 0) ∧ Is w' b s (M &&& (4294967295 - 2 ^ k)) N ∧ Only b none w w' := by
  have hv := valid_any b s M N w h
  have he := Has_any b s M N k w h
  rw [show decide (0 ≤ (k : Int) ∧ (k : Int) < (s : Int)) = true from decide_eq_true ⟨by omega, by omega⟩, Int.toNat_natCast, hm, Bool.true_and] at he
  have hc := h.blk.cell
  have hf := h.blk.frozen
  have z1 : (0 : Int) ≤ (k : Int) := by omega
  have z2 : (k : Int) ≤ 31 := by have := h.s2; omega
  go_enter Tryd.func10, Tryd.ntmps10
  go_wp2_with fail
  refine hv.mono ?_
  rintro e w' ⟨rfl, rfl⟩
  go_wp2_with fail
  refine he.mono ?_
  rintro e w' ⟨rfl, rfl⟩
  clear hv he
  go_wp2_with fail
  go_region
  all_goals
    (go_wp2_with fail
     go_ret
     rw [del_bits (by have := h.s2; omega) h.m32]
     exact ⟨rfl, ⟨(h.blk.set_ 1 _).drew, h.s1, h.s2, Nat.lt_of_le_of_lt Nat.and_le_left h.ml⟩, ((Only.refl b none w).set_ 1 _).then_below (Below.drew (Below.refl _ _))⟩)
theorem Done_err (b s M : Nat) (N : Int) (x : Int) (w : World) (h : Is w b s M N) (hm : (decide (0 ≤ x ∧ x < s) && M.testBit x.toNat) = false) : Calls Tryd.prog 10 #[.pointer (some ⟨b, 0, none⟩), .int .i64 x] w fun e w' => e = .returned (.int .i64 5) ∧ w = w' := by
  have hv := valid_any b s M N w h
  have he := Has_any b s M N x w h
  rw [hm] at he
  clear hm
  go_enter Tryd.func10, Tryd.ntmps10
  go_wp2_with fail
  refine hv.mono ?_
  rintro e w' ⟨rfl, rfl⟩
  go_wp2_with fail
  refine he.mono ?_
  rintro e w' ⟨rfl, rfl⟩
  clear hv he
  go_wp2_with fail
  go_ret
  exact ⟨rfl, rfl⟩
/-- the library's table of 32 bytes -/
def Tab (w : World) : Prop := ∀ j, j < 32 → w.cell? ⟨0, j, none⟩ = some (.int .u8 (Lib.deBruijn32tab.getD j 0))
theorem tz_key (x a : Nat) (hx : x < 4294967296) (hx0 : x ≠ 0) (hlow : x &&& (4294967296 - x) = a) :
    bits BinOp.and IntKind.u32 (x : Int) (-(x : Int) % 4294967296) * 125613361 % 4294967296 / 134217728 = ((a * 125613361 % 4294967296 / 134217728 : Nat) : Int) := by
  have e1 : -(x : Int) % 4294967296 = ((4294967296 - x : Nat) : Int) := by omega
  rw [e1, u32_and_nat x _ hx (by omega), hlow]
  omega
theorem tz_core (x k idx : Nat) (w : World) (hx0 : ((x : Int) == 0) = false)
    (key : bits BinOp.and IntKind.u32 (x : Int) (-(x : Int) % 4294967296) * 125613361 % 4294967296 / 134217728 = (idx : Int))
    (hi : idx < 32) (hk : k < 32) (hcell : w.cell? ⟨0, idx, none⟩ = some (.int .u8 k)) :
    Calls Tryd.prog 42 #[.int .u32 x] w fun e w' => e = .returned (.int .i64 k) ∧ w = w' := by
  go_enter Tryd.func42, Tryd.ntmps42
  go_wp2_with (simp only [key])
  go_ret
  exact ⟨rfl, rfl⟩
theorem tz_any (M : Nat) (h0 : M ≠ 0) (hM : M < 2 ^ 32) (w : World) (hT : Tab w) : Calls Tryd.prog 42 #[.int .u32 M] w fun e w' => e = .returned (.int .i64 (Lib.ctz 32 M)) ∧ w = w' := by
  obtain ⟨hlow, hk⟩ := Lib.lowest_bit 32 M h0 hM
  obtain ⟨hi, htab⟩ := Lib.deBruijn32_at _ hk
  have hcell := hT _ hi
  rw [htab] at hcell
  exact tz_core M _ _ w (by rw [beq_eq_false_iff_ne]; omega) (tz_key M _ hM h0 hlow) hi hk hcell
end Go.Proofs.YtaidekdmhmoaeaaDoor.Rd
