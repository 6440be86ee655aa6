/-
  The reference's round: its functions, each by its contract.
-/
import Derived.Test.YtaidekdmhmoaeaaDoorLft
namespace Go.Proofs.YtaidekdmhmoaeaaDoor.Rr
open Go.RowKit Bt
open Rd (ints inn orAll_snoc)
set_option linter.unusedVariables false
set_option linter.unusedSimpArgs false
/-- the row of the slots -/
def Row (w : World) (g s cap M : Nat) : Prop := ∃ cs : Array Value, Blk w g 4 cs ∧ cs.size = cap ∧ ∀ i, i < s → cs[i]? = some (.bool (M.testBit i))
def bools (s M : Nat) : List Value := (List.range s).map fun i => Value.bool (M.testBit i)
structure Is (w : World) (b g s cap M : Nat) (N : Int) : Prop where
  blk : Blk w b 70 #[.slice (some ⟨g, 0, none⟩) s cap, .int .i64 N]
  row : Row w g s cap M
  far : g ≠ b
  cap1 : s ≤ cap
  cap2 : cap ≤ maxLen
  s1 : 1 ≤ s
  s2 : s ≤ 32
  ml : M < 2 ^ s
section
variable {w w' : World} {b g s cap M : Nat} {N : Int}
theorem Row.lt (h : Row w g s cap M) : g < w.heap.size := h.choose_spec.1.lt
theorem Row.kept (h : Row w g s cap M) (hk : w'.heap[g]? = w.heap[g]?) : Row w' g s cap M := by
  obtain ⟨cs, h1, h2, h3⟩ := h
  exact ⟨cs, hk.trans h1, h2, h3⟩
theorem Row.cell (h : Row w g s cap M) {i : Nat} (hi : i < s) : w.cell? ⟨g, i, none⟩ = some (.bool (M.testBit i)) := by
  obtain ⟨cs, h1, h2, h3⟩ := h
  exact (h1.cell i).trans (h3 i hi)
theorem Row.frozen (h : Row w g s cap M) (i : Nat) : w.frozen? ⟨g, i, none⟩ = false := h.choose_spec.1.frozen i
theorem Row.set_ (h : Row w g s cap M) {M' : Nat} (hsc : s ≤ cap) (k : Nat) (v : Bool) (hv : ∀ i, i < s → M'.testBit i = if i = k then v else M.testBit i) : Row (w.setCell ⟨g, k, none⟩ (.bool v)) g s cap M' := by
  obtain ⟨cs, h1, h2, h3⟩ := h
  refine ⟨_, h1.set_ k (.bool v), by rw [Array.size_setIfInBounds]; exact h2, fun i hi => ?_⟩
  rw [hv i hi, Array.getElem?_setIfInBounds]
  by_cases hk : k = i
  · subst hk
    rw [if_pos rfl, if_pos rfl, if_pos (by omega)]
  · rw [if_neg hk, if_neg (fun h => hk h.symm), h3 i hi]
theorem Row.own (h : Row w g s cap M) (h1 : s ≤ cap) (h2 : cap ≤ maxLen) : w.ownsRow 0 4 1 (.slice (some ⟨g, 0, none⟩) s cap) s (bools s M) := by
  obtain ⟨cs, hb, hc, hi⟩ := h
  refine ⟨by simp [bools], .inr ⟨g, cap, cs, rfl, Nat.zero_le _, hb, h1, h2, by rw [hc, Nat.mul_one], ?_⟩⟩
  apply List.ext_getElem?
  intro i
  rw [Nat.mul_one, List.getElem?_take]
  by_cases hs : i < s
  · rw [if_pos hs, Array.getElem?_toList, hi i hs]
    simp [bools, hs]
  · rw [if_neg hs]
    simp [bools, hs]
theorem Row.of_own {B : Nat} (h : w.ownsRow B 4 1 (.slice (some ⟨g, 0, none⟩) s cap) s (bools s M)) : Row w g s cap M ∧ B ≤ g ∧ s ≤ cap ∧ cap ≤ maxLen := by
  obtain ⟨_, ⟨he, _⟩ | ⟨g', cap', cur, he, h2, h3, h4, h5, h6, h7⟩⟩ := h
  · simp at he
  · simp only [Value.slice.injEq, Option.some.injEq, Addr.mk.injEq, and_true, true_and] at he
    obtain ⟨rfl, rfl⟩ := he
    refine ⟨⟨cur, h3, by rw [h6, Nat.mul_one], fun i hi => ?_⟩, h2, h4, h5⟩
    have e : (cur.toList.take (s * 1))[i]? = (bools s M)[i]? := by rw [h7]
    rw [Nat.mul_one, List.getElem?_take, if_pos hi, Array.getElem?_toList] at e
    rw [e]
    simp [bools, hi]
theorem Is.lt (h : Is w b g s cap M N) : b < w.heap.size := h.blk.lt
theorem Is.later (h : Is w b g s cap M N) (hb : Below w.heap.size w w') : Is w' b g s cap M N :=
  ⟨h.blk.below hb h.lt, h.row.kept (hb.block g h.row.lt), h.far, h.cap1, h.cap2, h.s1, h.s2, h.ml⟩
end
theorem valid_no (w : World) : Calls Tryd.prog 37 #[.pointer none] w fun e w' => e = .returned (.bool false) ∧ w = w' := by
  go_enter Tryd.func37, Tryd.ntmps37
  go_wp2
  go_ret
  exact ⟨rfl, rfl⟩
theorem valid_any (b g s cap M : Nat) (N : Int) (w : World) (h : Is w b g s cap M N) : Calls Tryd.prog 37 #[.pointer (some ⟨b, 0, none⟩)] w fun e w' => e = .returned (.bool true) ∧ w = w' := by
  have hc := h.blk.cell
  have z1 : 0 < s := h.s1
  go_enter Tryd.func37, Tryd.ntmps37
  go_wp2
  go_ret
  exact ⟨rfl, rfl⟩
theorem Has_no (w : World) (x : Int) : Calls Tryd.prog 33 #[.pointer none, .int .i64 x] w fun e w' => e = .returned (.bool false) ∧ w = w' := by
  have hv := valid_no w
  go_enter Tryd.func33, Tryd.ntmps33
  go_wp2_with fail
  refine hv.mono ?_
  rintro e w' ⟨rfl, rfl⟩
  clear hv
  go_wp2_with fail
  go_ret
  exact ⟨rfl, rfl⟩
theorem Over_no (w : World) : Calls Tryd.prog 35 #[.pointer none] w fun e w' => e = .returned (.bool false) ∧ w = w' := by
  have hv := valid_no w
  go_enter Tryd.func35, Tryd.ntmps35
  go_wp2_with fail
  refine hv.mono ?_
  rintro e w' ⟨rfl, rfl⟩
  clear hv
  go_wp2_with fail
  go_ret
  exact ⟨rfl, rfl⟩
theorem Count_no (w : World) : Calls Tryd.prog 36 #[.pointer none] w fun e w' => e = .returned (.int .i64 0) ∧ w = w' := by
  have hv := valid_no w
  go_enter Tryd.func36, Tryd.ntmps36
  go_wp2_with fail
  refine hv.mono ?_
  rintro e w' ⟨rfl, rfl⟩
  clear hv
  go_wp2_with fail
  go_ret
  exact ⟨rfl, rfl⟩
theorem Copy_no (w : World) : Calls Tryd.prog 19 #[.pointer none] w fun e w' => e = .returned (.pointer none) ∧ w = w' := by
  have hv := valid_no w
  go_enter Tryd.func19, Tryd.ntmps19
  go_wp2_with fail
  refine hv.mono ?_
  rintro e w' ⟨rfl, rfl⟩
  clear hv
  go_wp2_with fail
  go_ret
  exact ⟨rfl, rfl⟩
theorem Done_no (w : World) (x : Int) : Calls Tryd.prog 18 #[.pointer none, .int .i64 x] w fun e w' => e = .returned (.int .i64 1) ∧ w = w' := by
  have hv := valid_no w
  go_enter Tryd.func18, Tryd.ntmps18
  go_wp2_with fail
  refine hv.mono ?_
  rintro e w' ⟨rfl, rfl⟩
  clear hv
  go_wp2_with fail
  go_ret
  exact ⟨rfl, rfl⟩
theorem Begin_no (w : World) (A : Option Addr) (n cap : Nat) : Calls Tryd.prog 16 #[.pointer none, .slice A n cap] w fun e w' => e = .returned (.int .i64 1) ∧ w = w' := by
  have hv := valid_no w
  go_enter Tryd.func16, Tryd.ntmps16
  go_wp2_with fail
  refine hv.mono ?_
  rintro e w' ⟨rfl, rfl⟩
  clear hv
  go_wp2_with fail
  go_ret
  exact ⟨rfl, rfl⟩
theorem Count_any (b g s cap M : Nat) (N : Int) (w : World) (h : Is w b g s cap M N) : Calls Tryd.prog 36 #[.pointer (some ⟨b, 0, none⟩)] w fun e w' => e = .returned (.int .i64 N) ∧ w = w' := by
  have hv := valid_any b g s cap M N w h
  have hc := h.blk.cell
  go_enter Tryd.func36, Tryd.ntmps36
  go_wp2_with fail
  refine hv.mono ?_
  rintro e w' ⟨rfl, rfl⟩
  clear hv
  go_wp2_with fail
  go_ret
  exact ⟨rfl, rfl⟩
theorem Has_any (b g s cap M : Nat) (N : Int) (x : Int) (w : World) (h : Is w b g s cap M N) : Calls Tryd.prog 33 #[.pointer (some ⟨b, 0, none⟩), .int .i64 x] w fun e w' => e = .returned (.bool (inn s x && M.testBit x.toNat)) ∧ w = w' := by
  have hv := valid_any b g s cap M N w h
  have hc := h.blk.cell
  by_cases h1 : 0 ≤ x
  · by_cases h2 : x < (s : Int)
    · rw [show inn s x = true from decide_eq_true ⟨h1, h2⟩, Bool.true_and]
      obtain ⟨k, rfl⟩ : ∃ k : Nat, x = (k : Int) := ⟨x.toNat, by omega⟩
      have hk := h.row.cell (i := k) (by omega)
      rw [Int.toNat_natCast]
      generalize M.testBit k = v at hk ⊢
      go_enter Tryd.func33, Tryd.ntmps33
      go_wp2_with fail
      refine hv.mono ?_
      rintro e w' ⟨rfl, rfl⟩
      clear hv
      go_wp2_with fail
      go_ret
      exact ⟨rfl, rfl⟩
    · rw [show inn s x = false from decide_eq_false fun h => h2 h.2]
      go_enter Tryd.func33, Tryd.ntmps33
      go_wp2_with fail
      refine hv.mono ?_
      rintro e w' ⟨rfl, rfl⟩
      clear hv
      go_wp2_with fail
      go_ret
      exact ⟨rfl, rfl⟩
  · rw [show inn s x = false from decide_eq_false fun h => h1 h.1]
    go_enter Tryd.func33, Tryd.ntmps33
    go_wp2_with fail
    refine hv.mono ?_
    rintro e w' ⟨rfl, rfl⟩
    clear hv
    go_wp2_with fail
    go_ret
    exact ⟨rfl, rfl⟩
theorem Done_err (b g s cap M : Nat) (N : Int) (x : Int) (w : World) (h : Is w b g s cap M N) (hm : (inn s x && M.testBit x.toNat) = false) : Calls Tryd.prog 18 #[.pointer (some ⟨b, 0, none⟩), .int .i64 x] w fun e w' => e = .returned (.int .i64 5) ∧ w = w' := by
  have hv := valid_any b g s cap M N w h
  have hc := h.blk.cell
  have he := Has_any b g s cap M N x w h
  rw [hm] at he
  clear hm hc
  go_enter Tryd.func18, Tryd.ntmps18
  go_wp2_with fail
  refine hv.mono ?_
  rintro e w' ⟨rfl, rfl⟩
  clear hv
  go_wp2_with fail
  refine he.mono ?_
  rintro e w' ⟨rfl, rfl⟩
  clear he
  go_wp2_with fail
  go_ret
  exact ⟨rfl, rfl⟩
theorem Done_ok (b g s cap M : Nat) (N : Int) (k : Nat) (w : World) (h : Is w b g s cap M N) (hk : k < s) (hm : M.testBit k = true) : Calls Tryd.prog 18 #[.pointer (some ⟨b, 0, none⟩), .int .i64 k] w fun e w' => e = .returned (.int .i64 0) ∧ Is w' b g s cap (M &&& (4294967295 - 2 ^ k)) N ∧ Only g none w w' := by
  have hv := valid_any b g s cap M N w h
  have hc := h.blk.cell
  have he := Has_any b g s cap M N k w h
  rw [show inn s k = true from decide_eq_true ⟨by omega, by omega⟩, Int.toNat_natCast, hm, Bool.true_and] at he
  have hM : M < 2 ^ 32 := Nat.lt_of_lt_of_le h.ml (Nat.pow_le_pow_right (by omega) h.s2)
  have hkc := h.row.cell hk
  have hkf := h.row.frozen
  have z1 : (0 : Int) ≤ (k : Int) := by omega
  have z2 : (k : Int) < (s : Int) := by omega
  have hfin : Is (w.setCell ⟨g, k, none⟩ (.bool false)) b g s cap (M &&& (4294967295 - 2 ^ k)) N :=
    ⟨h.blk.far (p := ⟨g, k, none⟩) (by show b ≠ g; exact fun e => h.far e.symm) _, h.row.set_ h.cap1 k false (fun i hi => by
      rw [bit_del hM (by have := h.s2; omega)]
      by_cases e : i = k
      · rw [if_pos e]; simp [e]
      · rw [if_neg e]; simp [e]), h.far, h.cap1, h.cap2, h.s1, h.s2, Nat.lt_of_le_of_lt Nat.and_le_left h.ml⟩
  clear hm hM
  go_enter Tryd.func18, Tryd.ntmps18
  go_wp2_with fail
  refine hv.mono ?_
  rintro e w' ⟨rfl, rfl⟩
  clear hv
  go_wp2_with fail
  refine he.mono ?_
  rintro e w' ⟨rfl, rfl⟩
  clear he
  go_wp2_with fail
  go_ret
  exact ⟨rfl, hfin, (Only.refl g none _).set_ k _⟩
theorem Left_no (w : World) : Calls Tryd.prog 34 #[.pointer none] w fun e w' => e = .returned (.slice none 0 0) ∧ w = w' := by
  have hv := valid_no w
  go_enter Tryd.func34, Tryd.ntmps34
  go_wp2_with fail
  go_loopw [3, 4] (fun v i wr => v = .slice none 0 0 ∧ i = .int .i64 0 ∧ wr = w) (fun _ _ _ => 0)
  case atStart => exact ⟨rfl, rfl, rfl⟩
  case round =>
    obtain ⟨rfl, rfl, rfl⟩ := hrel
    go_wp2_with fail
    refine hv.mono ?_
    rintro e w' ⟨rfl, rfl⟩
    clear hv
    go_wp2_with fail
    go_ret
    exact ⟨rfl, rfl⟩
/-- the slots below k -/
def low (k M : Nat) : List Nat := (List.range k).filter M.testBit
theorem low_succ (k M : Nat) : low (k + 1) M = if M.testBit k then low k M ++ [k] else low k M := by
  unfold low
  rw [List.range_succ, List.filter_append]
  cases h : M.testBit k <;> simp [List.filter, h]
theorem low_len (k M : Nat) : (low k M).length ≤ k := Nat.le_trans (List.length_filter_le _ _) (by simp)
theorem low_all {s M : Nat} (hs : s ≤ 32) (hM : M < 2 ^ s) : low s M = slots M := by
  have key : ∀ d, low (s + d) M = low s M := by
    intro d
    induction d with
    | zero => rfl
    | succ d ih =>
      rw [show s + (d + 1) = s + d + 1 from rfl, low_succ, ih, if_neg]
      rw [Nat.testBit_lt_two_pow (Nat.lt_of_lt_of_le hM (Nat.pow_le_pow_right (by omega) (by omega)))]
      simp
  have h := key (32 - s)
  rw [show s + (32 - s) = 32 by omega] at h
  exact h.symm
set_option maxHeartbeats 1600000 in
theorem Left_any (b g s cap M : Nat) (N : Int) (w : World) (h : Is w b g s cap M N) : Calls Tryd.prog 34 #[.pointer (some ⟨b, 0, none⟩)] w fun e w' => (∃ (A : Option Addr) (c : Nat), e = .returned (.slice A (slots M).length c) ∧ w'.ownsRow w.heap.size 3 1 (.slice A (slots M).length c) (slots M).length ((ints (slots M)).map (Value.int .i64))) ∧ Below w.heap.size w w' := by
  obtain ⟨i0, hi0, hz0, hz1, hz2⟩ := info_parts Rd.info
  have hs1 := h.s1
  have hs2 := h.s2
  have hla := low_all hs2 h.ml
  have HLA := Lib.hid hla
  have hcap1 := h.cap1
  have hcap2 := h.cap2
  unfold maxLen at hcap2
  clear hla
  go_enter Tryd.func34, Tryd.ntmps34
  go_wp2_with fail
  go_loopw [3, 4] (fun v i wr => ∃ (k n : Nat) (A : Option Addr) (c : Nat), k ≤ s ∧ i = .int .i64 k ∧ v = .slice A n c ∧ n = (low k M).length ∧ wr.ownsRow w.heap.size 3 1 (.slice A n c) n ((ints (low k M)).map (Value.int .i64)) ∧ Below w.heap.size w wr) (fun _ i _ => s - (intOf i).toNat)
  case atStart => exact ⟨0, 0, none, 0, Nat.zero_le _, rfl, rfl, rfl, World.ownsRow_nil _ _ _ _, Below.refl _ _⟩
  case round =>
    obtain ⟨k, n, A, c, hk, rfl, rfl, hn, ho, hB⟩ := hrel
    have hI := h.later hB
    have hv := valid_any b g s cap M N wr hI
    have hc := hI.blk.cell
    have hnk : n ≤ k := by rw [hn]; exact low_len k M
    have HN := Lib.hid hn
    clear hn
    by_cases hlt : k < s
    · have hkc := hI.row.cell hlt
      have z1 : (k : Int) < (s : Int) := by omega
      have z2 : (0 : Int) ≤ (k : Int) := by omega
      have hsu := low_succ k M
      cases hb : M.testBit k with
      | false =>
        rw [hb] at hkc hsu
        have HSU := Lib.hid hsu
        clear hsu hb
        go_wp2_with fail
        refine hv.mono ?_
        rintro e w' ⟨rfl, rfl⟩
        clear hv
        go_wp2_with fail
        go_roundw
        case rel => exact ⟨k + 1, n, A, c, by omega, by go_num, rfl, by rw [HSU.out]; exact HN.out, by rw [HSU.out]; exact ho, hB⟩
        case measure => simp [intOf]; omega
      | true =>
        rw [hb] at hkc hsu
        rw [if_pos rfl] at hsu
        have HSU := Lib.hid hsu
        have hB2 := b_alloc hB (.cells #[.int .i64 k] 3)
        have o2 := own_later ho (b_alloc (Below.refl _ wr) (.cells #[.int .i64 k] 3))
        have hrd := Reads.one wr 3 (.int .i64 k)
        have k4 : ∀ u ∈ [Value.int .i64 k], u.oneCell' = true := by intro u hu; simp at hu; subst hu; rfl
        have k5 : n + 1 ≤ maxLen := by unfold maxLen; omega
        have k6 : (n + 1) * 8 ≤ 140737488355328 := by omega
        have k7 := hB2.size
        clear hsu hb
        go_wp2_with fail
        refine hv.mono ?_
        rintro e w' ⟨rfl, rfl⟩
        clear hv
        go_wp2_with (first
          | (at_builtin; refine wpList_append_any _ rfl (.tmp 25) (.tmp 27) _ rfl w.heap.size 3 i0 _ 1 8 Tryd.underlying22 hi0 hz0 hz1 hz2 rfl (by omega) _ n _ rfl o2 _ _ 1 1 _ rfl hrd k4 k5 k6 k7 ?_; intro v7 w7 o7 hg7 hat7; obtain ⟨g7, cap7, rfl, _, _⟩ := own_head o7; have hB7 := hB2.grown hg7 k7 (fun k hk => (World.ownsRow.lt o2 k hk).1); clear hg7 hat7 o2 ho))
        go_roundw
        case rel => exact ⟨k + 1, n + 1, _, cap7, by omega, by go_num, rfl, by rw [HSU.out, List.length_append, HN.out]; rfl, by
          rw [HSU.out]
          have e : (ints (low k M ++ [k])).map (Value.int .i64) = (ints (low k M)).map (Value.int .i64) ++ [Value.int .i64 k] := by simp [ints]
          rw [e]
          exact o7, hB7⟩
        case measure => simp [intOf]; omega
    · obtain rfl : k = s := by omega
      go_wp2_with fail
      refine hv.mono ?_
      rintro e w' ⟨rfl, rfl⟩
      clear hv
      go_wp2_with fail
      go_ret
      have e1 : n = (slots M).length := by rw [← HLA.out]; exact HN.out
      subst e1
      rw [HLA.out] at ho
      exact ⟨⟨A, c, rfl, ho⟩, hB⟩
end Go.Proofs.YtaidekdmhmoaeaaDoor.Rr
