/-
  The reference's round: Begin.
-/
import Derived.Test.YtaidekdmhmoaeaaDoorRs
import Derived.BigQuiet
namespace Go.Proofs.YtaidekdmhmoaeaaDoor.Rr
open Go.RowKit Bt
open Rd (ints inn orAll_snoc)
set_option linter.unusedVariables false
set_option linter.unusedSimpArgs false
theorem dup_snoc (xs : List Nat) (x : Nat) : ∀ M, dup M (xs ++ [x]) = (dup M xs || (orAll M xs).testBit x) := by
  induction xs with
  | nil => intro M; simp [dup, orAll]
  | cons y ys ih =>
    intro M
    show (M.testBit y || dup (M ||| 2 ^ y) (ys ++ [x])) = _
    rw [ih]
    show _ = ((M.testBit y || dup (M ||| 2 ^ y) ys) || (orAll (M ||| 2 ^ y) ys).testBit x)
    rw [Bool.or_assoc]
/-- the slots as numbers -/
def nats (xs : List Int) : List Nat := xs.map Int.toNat
theorem nats_ints (ks : List Nat) : nats (ints ks) = ks := by simp [nats, ints, Function.comp_def]
theorem nats_snoc {xs : List Int} {k x : Nat} (h : xs[k]? = some (x : Int)) : nats (xs.take (k + 1)) = nats (xs.take k) ++ [x] := by
  rw [List.take_add_one, h]
  simp [nats]
theorem beg_state (b g s cap M : Nat) (N : Int) (w : World) (h : Is w b g s cap M N) (h0 : M ≠ 0) (A : Option Addr) (n c : Nat) : Calls Tryd.prog 16 #[.pointer (some ⟨b, 0, none⟩), .slice A n c] w fun e w' => e = .returned (.int .i64 7) ∧ Below w.heap.size w w' := by
  have hv := valid_any b g s cap M N w h
  have ho := Over_any b g s cap M N w h
  rw [beq_eq_false_iff_ne.2 h0] at ho
  clear h h0
  go_enter Tryd.func16, Tryd.ntmps16
  go_wp2_with fail
  refine hv.mono ?_
  rintro e w' ⟨rfl, rfl⟩
  clear hv
  go_wp2_with fail
  refine ho.mono ?_
  rintro e w' ⟨rfl, hb⟩
  clear ho
  go_wp2_with fail
  go_ret
  exact ⟨rfl, hb⟩
/-- what Begin answers -/
def BegPost (w : World) (b s : Nat) (N : Int) (xs : List Int) (e : Ending) (w' : World) : Prop :=
  (xs.all (inn s) = false ∧ e = .returned (.int .i64 3) ∧ Below w.heap.size w w') ∨ (xs.all (inn s) = true ∧ dup 0 (nats xs) = true ∧ e = .returned (.int .i64 6) ∧ Below w.heap.size w w') ∨
    (xs.all (inn s) = true ∧ dup 0 (nats xs) = false ∧ e = .returned (.int .i64 0) ∧ ∃ g', Is w' b g' s s (orAll 0 (nats xs)) (N + 1) ∧ w.heap.size ≤ g' ∧ Only b none w w')
set_option maxHeartbeats 3200000 in
theorem beg_any (b g s cap : Nat) (N : Int) (w : World) (h : Is w b g s cap 0 N) (hN : 0 ≤ N ∧ N ≤ 100000) (A : Option Addr) (n c : Nat) (xs : List Int) (hx : RI w A (xs.map (Value.int .i64))) (hl : xs.length = n) (hn : n ≤ maxLen) :
    Calls Tryd.prog 16 #[.pointer (some ⟨b, 0, none⟩), .slice A n c] w (BegPost w b s N xs) := by
  have hv := valid_any b g s cap 0 N w h
  have ho := Over_any b g s cap 0 N w h
  have ho : Calls Tryd.prog 35 #[.pointer (some ⟨b, 0, none⟩)] w fun e w' => e = .returned (.bool true) ∧ Below w.heap.size w w' := ho
  have hs1 := h.s1
  have hs2 := h.s2
  have hmk := fun w => make_bool s (by omega) w
  unfold maxLen at hn
  have n1 := hN.1
  have n2 := hN.2
  have hbl := h.lt
  have HL := Lib.hid hl
  clear hl hN
  go_enter Tryd.func16, Tryd.ntmps16
  go_wp2_with fail
  refine hv.mono ?_
  rintro e w' ⟨rfl, rfl⟩
  clear hv
  go_wp2_with fail
  refine ho.mono ?_
  rintro e w1 ⟨rfl, hb1⟩
  clear ho
  have h1 := h.later hb1
  have hc := h1.blk.cell
  have hrow := falses_row w1 s
  have hgl := hb1.size
  have hx1 := hx.later hb1
  have hB0 := b_alloc hb1 (.cells (falses s) 4)
  have h2 := h1.later (b_alloc (Below.refl w1.heap.size w1) (.cells (falses s) 4))
  have hx2 := hx1.later (b_alloc (Below.refl w1.heap.size w1) (.cells (falses s) 4))
  go_wp2_with fail
  obtain ⟨gL, hgL⟩ : ∃ gL, gL = w1.heap.size := ⟨_, rfl⟩
  rw [← hgL] at hrow hgl ⊢
  generalize w1.alloc (.cells (falses s) 4) = w2 at hrow hB0 h2 hx2 ⊢
  clear hb1 h1 hc hx1 hgL hmk
  go_loopw [6, 7] (fun v i wr => ∃ k : Nat, k ≤ n ∧ i = .int .i64 k ∧ v = .bool (dup 0 (nats (xs.take k))) ∧ (xs.take k).all (inn s) = true ∧ Row wr gL s s (orAll 0 (nats (xs.take k))) ∧ Below w.heap.size w wr) (fun _ i _ => n - (intOf i).toNat)
  case atStart => exact ⟨0, Nat.zero_le _, rfl, rfl, rfl, hrow, hB0⟩
  case round =>
    obtain ⟨k, hk, rfl, rfl, hin, hR, hB⟩ := hrel
    clear hrow hB0 h2 hx2
    have hI := h.later hB
    have hxr := hx.later hB
    have hc := hI.blk.cell
    have HIN := Lib.hid hin
    clear hin
    by_cases hlt : k < n
    · obtain ⟨x, hxk⟩ : ∃ x, xs[k]? = some x := ⟨_, List.getElem?_eq_getElem (by have := HL.out; omega)⟩
      obtain ⟨b1, o1, rfl, _, hc1⟩ := hxr.resolve_left (by intro h; rw [List.map_eq_nil_iff] at h; subst h; simp at hxk)
      have e1 : wr.cell? ⟨b1, o1 + k, none⟩ = some ((Value.int .i64) x) := hc1 k _ (by rw [List.getElem?_map, hxk]; rfl)
      have z1 : (k : Int) < (n : Int) := by omega
      have z2 : (0 : Int) ≤ (k : Int) := by omega
      have HX := Lib.hid hxk
      clear hxk hxr hc1
      by_cases hx0 : x < 0
      · have hall : xs.all (inn s) = false := by
          rw [List.all_eq_false]
          exact ⟨x, List.mem_of_getElem? HX.out, by simp [inn]; omega⟩
        have HA := Lib.hid hall
        clear hall
        go_wp2_with fail
        go_quiet (fail)
        have hB4 := below_drewN hB nq
        go_wp2_with fail
        go_ret
        exact .inl ⟨HA.out, rfl, hB4⟩
      · by_cases hxs : (s : Int) ≤ x
        · have hall : xs.all (inn s) = false := by
            rw [List.all_eq_false]
            exact ⟨x, List.mem_of_getElem? HX.out, by simp [inn]; omega⟩
          have HA := Lib.hid hall
          clear hall
          go_wp2_with fail
          go_quiet (fail)
          have hB4 := below_drewN hB nq
          go_wp2_with fail
          go_ret
          exact .inl ⟨HA.out, rfl, hB4⟩
        · obtain ⟨y, rfl⟩ : ∃ y : Nat, x = (y : Int) := ⟨x.toNat, by omega⟩
          have hns := nats_snoc HX.out
          have hds := dup_snoc (nats (xs.take k)) y 0
          have hos := orAll_snoc 0 (nats (xs.take k)) y
          rw [← hns] at hds hos
          have hal : (xs.take (k + 1)).all (inn s) = true := by
            rw [List.take_add_one, HX.out]
            rw [List.all_append, HIN.out]
            simp [inn]
            omega
          have HAL := Lib.hid hal
          have hys : y < s := by omega
          have e5 := hR.cell hys
          obtain ⟨M, hM⟩ : ∃ M, M = orAll 0 (nats (xs.take k)) := ⟨_, rfl⟩
          obtain ⟨dd, hdd⟩ : ∃ dd, dd = dup 0 (nats (xs.take k)) := ⟨_, rfl⟩
          rw [← hM] at hR hds hos e5
          rw [← hdd] at hds ⊢
          obtain ⟨bb, hbb⟩ : ∃ bb, bb = M.testBit y := ⟨_, rfl⟩
          rw [← hbb] at hds e5
          have HDS := Lib.hid hds
          have HOS := Lib.hid hos
          have z3 : (y : Int) < (s : Int) := by omega
          have z4 : (0 : Int) ≤ (y : Int) := by omega
          have z5 : ¬ (y : Int) < 0 := by omega
          have z6 : ¬ (s : Int) ≤ (y : Int) := by omega
          clear hal hns hds hos hM hdd hbb hx0 hxs
          cases dd
          all_goals
            (go_wp2_with fail
             go_quiet (fail)
             have hB4 := below_drewN hB nq
             have hR4 : Row (World.drewN wr nq) gL s s M := hR.kept rfl
             have e4 : (World.drewN wr nq).cell? ⟨b1, o1 + k, none⟩ = some (.int .i64 y) := e1
             have e6 : (World.drewN wr nq).cell? ⟨gL, y, none⟩ = some (.bool bb) := e5
             generalize World.drewN wr nq = w4 at hB4 hR4 e4 e6 ⊢
             have hf4 := hR4.frozen y
             clear hB hR e1 e5 hI hc
             go_wp2_with fail
             go_roundw
             case rel =>
               refine ⟨k + 1, by omega, by go_num, by rw [HDS.out]; first | rfl | simp, HAL.out, ?_, hB4.setCell (p := ⟨gL, y, none⟩) hgl _⟩
               rw [HOS.out]
               exact hR4.set_ (Nat.le_refl _) y true (fun i _ => by
                 rw [bit_or]
                 by_cases e : i = y
                 · rw [if_pos e]; simp [e]
                 · rw [if_neg e]; simp [e])
             case measure => simp [intOf]; omega)
    · obtain rfl : k = n := by omega
      have htk : xs.take k = xs := List.take_of_length_le (by rw [HL.out]; exact Nat.le_refl _)
      rw [htk] at HIN hR ⊢
      cases hd : dup 0 (nats xs) with
      | true =>
        have HD := Lib.hid hd
        clear hd htk
        go_wp2_with fail
        go_ret
        exact .inr (.inl ⟨HIN.out, HD.out, rfl, hB⟩)
      | false =>
        have HD := Lib.hid hd
        clear hd htk
        have hf := hI.blk.frozen
        have hc2 := (hI.blk.set_ 0 (.slice (some ⟨gL, 0, none⟩) s s)).cell
        have hf2 := (hI.blk.set_ 0 (.slice (some ⟨gL, 0, none⟩) s s)).frozen
        have hgb : gL ≠ b := by omega
        have hrl := hR.lt
        have hs0 : orAll 0 (nats xs) < 2 ^ s := by
          apply Nat.lt_pow_two_of_testBit
          intro i hi
          rw [orAll_bit, Nat.zero_testBit, Bool.false_or, decide_eq_false_iff_not]
          intro hm
          obtain ⟨x, hx', rfl⟩ := List.mem_map.1 hm
          have := of_decide_eq_true (List.all_eq_true.1 HIN.out x hx')
          omega
        go_wp2_with fail
        go_ret
        refine .inr (.inr ⟨HIN.out, HD.out, rfl, gL, ⟨(hI.blk.set_ 0 _).set_ 1 _, ?_, hgb, Nat.le_refl _, by unfold maxLen; omega, hs1, hs2, hs0⟩, hgl, ((Only.of_below hB b none).set_ 0 _).set_ 1 _⟩)
        exact (hR.kept (Below.heap_setCell _ _ _ gL hgb)).kept (Below.heap_setCell _ _ _ gL hgb)
end Go.Proofs.YtaidekdmhmoaeaaDoor.Rr
