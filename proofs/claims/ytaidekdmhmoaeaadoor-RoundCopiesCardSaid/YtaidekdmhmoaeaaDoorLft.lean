/-
  The slots that are left: the iterator; what the law collects.
-/
import Derived.Shelf.Abstract
import Derived.Shelf.RegionOpen
import Derived.WalkKit
import Derived.OwnWalkIn
import Derived.TacticsInMore
import Derived.LoopNIn
import Derived.LoopIn
import Derived.WalkMore
import Derived.Test.YtaidekdmhmoaeaaDoorBeg
namespace Go.Proofs.YtaidekdmhmoaeaaDoor.Rd
open Go.RowKit Go.Shelf Bt
set_option linter.unusedVariables false
set_option linter.unusedSimpArgs false
attribute [local go_sem] Oper.semAt_some
/-- a round, or none, and its slots -/
def RS (p : Option Addr) (LL : List Int) (w : World) : Prop := (No p w ∧ LL = []) ∨ ∃ b s M N, p = some ⟨b, 0, none⟩ ∧ Is w b s M N ∧ LL = ints (slots M)
theorem RS.later {p : Option Addr} {LL : List Int} {w w' : World} (h : RS p LL w) (hb : Below w.heap.size w w') : RS p LL w' := by
  rcases h with ⟨h, e⟩ | ⟨b, s, M, N, e, h, e'⟩
  · exact .inl ⟨h.later hb, e⟩
  · exact .inr ⟨b, s, M, N, e, h.later hb, e'⟩
theorem Tab.later {w w' : World} (h : Tab w) (hb : Below w.heap.size w w') : Tab w' := fun j hj => (hb.cell (p := ⟨0, j, none⟩) (block_lt_of_cell (h j hj))).trans (h j hj)
theorem RS.len {p : Option Addr} {LL : List Int} {w : World} (h : RS p LL w) : LL.length ≤ 32 := by
  rcases h with ⟨_, rfl⟩ | ⟨b, s, M, N, _, _, rfl⟩
  · exact Nat.zero_le _
  · unfold ints slots
    rw [List.length_map]
    exact Nat.le_trans (List.length_filter_le _ _) (by simp)
theorem Left_any (p : Option Addr) (w : World) : Calls Tryd.prog 27 #[.pointer p] w fun e w' => e = .returned (.func (.func 41) #[] #[.pointer (some ⟨w.heap.size, 0, none⟩)]) ∧ w' = w.alloc (.cells #[.pointer p] 24) := by
  go_enter Tryd.func27, Tryd.ntmps27
  go_wp2
  go_ret
  exact ⟨rfl, rfl⟩
def sEnc (x : Int) : Array Value := #[(Value.int .i64) x]
/-- what the iterator reads between two rounds -/
def aG (p : Option Addr) (LL : List Int) (Bn : Nat) (w : World) : Prop := RS p LL w ∧ Tab w ∧ w.cell? ⟨Bn, 0, none⟩ = some (.pointer p)
theorem and_pred {R : Nat} (h0 : R ≠ 0) (hR : R < 2 ^ 32) : bits BinOp.and IntKind.u32 (R : Int) ((R : Int) - 1) = ((R &&& (R - 1) : Nat) : Int) := by
  rw [show (R : Int) - 1 = ((R - 1 : Nat) : Int) from by omega]
  exact u32_and_nat R (R - 1) hR (by omega)
theorem info : (Tryd.prog.info? 3).map (fun i => (i.zero, i.size, i.bytes)) = some (some (.int .i64 0), 1, 8) := by kernel_rfl
set_option maxHeartbeats 1600000 in
set_option maxRecDepth 100000 in
theorem left_iter (d : Nat) (hd : 1 ≤ d) (C : Nat) (p : Option Addr) (LL : List Int) (Bn : Nat) (W : World) :
    IterK Fence.wide d Tryd.prog 41 #[.pointer (some ⟨Bn, 0, none⟩)] sEnc C (aG p LL Bn) (fun ys => ys = LL) (fun ys => ∃ j, j ≤ LL.length ∧ ys = LL.take j) W := by
  intro l J Jx r0 hJ hJx hG hr0 hY h0
  obtain ⟨hR, hT, hcl⟩ := hG _ _ h0
  rcases hR with ⟨hN, rfl⟩ | ⟨b, s, M, N, rfl, hI, rfl⟩
  · clear hY hG hJ hJx
    refine callsIn_of_wp Tryd.func41 rfl trivial ?_
    simp only [Tryd.ntmps41, List.size_toArray, List.length_cons, List.length_nil, Nat.reduceAdd, Nat.reduceSub, Array.replicate_succ, Array.replicate_zero, List.push_toArray, List.append_toArray, List.nil_append, List.cons_append]
    gi_wp2
    refine ⟨trivial, (callsIn_wide.2 (valid_no p _ hN)).mono ?_⟩
    rintro e w' ⟨rfl, rfl⟩
    gi_wp2
    exact bodyPost_ret (results_none rfl _ _ _) rfl ⟨⟨_, rfl⟩, .inl ⟨_, r0, rfl, h0⟩⟩
  · have hc := hI.blk.cell
    refine callsIn_of_wp Tryd.func41 rfl trivial ?_
    simp only [Tryd.ntmps41, List.size_toArray, List.length_cons, List.length_nil, Nat.reduceAdd, Nat.reduceSub, Array.replicate_succ, Array.replicate_zero, List.push_toArray, List.append_toArray, List.nil_append, List.cons_append]
    gi_wp2
    refine ⟨trivial, (callsIn_wide.2 (valid_any b s M N _ hI)).mono ?_⟩
    rintro e w' ⟨rfl, rfl⟩
    gi_wp2
    gi_loopw [3] (fun v wr => ∃ (k : Nat) (r : Option Nat) (R : Nat), v = .int .u32 R ∧ R < 2 ^ 32 ∧ slots R = (slots M).drop k ∧ k ≤ (slots M).length ∧ J ((ints (slots M)).take k, r) wr) (fun v _ => (slots (intOf v).toNat).length)
    case atStart => exact ⟨0, r0, M, rfl, hI.m32, rfl, Nat.zero_le _, h0⟩
    case round =>
      have hM32 := hI.m32
      clear h0 hI hcl hc hT
      obtain ⟨k, r, R, rfl, hR, hdr, hk, hJs⟩ := hrel
      by_cases hz : R = 0
      · subst hz
        rw [slots_zero] at hdr
        have hkl : (slots M).length ≤ k := List.drop_eq_nil_iff.1 hdr.symm
        have z : ((0 : Int) != 0) = false := rfl
        clear hY hG hdr
        gi_wp2
        go_end0
        exact ⟨⟨_, rfl⟩, .inl ⟨_, r, List.take_of_length_le (by unfold ints; rw [List.length_map]; exact hkl), hJs⟩⟩
      · have hcons := slots_cons hz hR
        have hR' := drop_lt hR
        have hap := and_pred hz hR
        have hcl32 := (low_bits hz hR).1
        have htz := tz_any R hz hR
        obtain ⟨_, hT, hcl⟩ := hG _ _ hJs
        have htz := htz wr hT
        rw [hdr] at hcons
        have hkk : k < (slots M).length := by
          rcases Nat.lt_or_ge k (slots M).length with h | h
          · exact h
          · rw [List.drop_eq_nil_iff.2 h] at hcons; cases hcons
        have hdc := List.drop_eq_getElem_cons hkk
        have hg := hcons.symm.trans hdc
        injection hg with hg1 hg2
        have htk : (ints (slots M)).take (k + 1) = (ints (slots M)).take k ++ [((Lib.ctz 32 R : Nat) : Int)] := by
          rw [List.take_add_one]
          congr 1
          rw [show (ints (slots M))[k]? = some ((Lib.ctz 32 R : Nat) : Int) from by simp [ints, List.getElem?_map, List.getElem?_eq_getElem hkk, hg1]]
          rfl
        obtain ⟨fn, tmps, assign, body, hy, hRR⟩ := hY ((ints (slots M)).take k) ((Lib.ctz 32 R : Nat) : Int) r wr hJs ⟨k + 1, by unfold ints; rw [List.length_map]; exact hkk, htk.symm⟩
        have hy : (Instr.yield l #[.int .i64 ((Lib.ctz 32 R : Nat) : Int)]).run Tryd.prog wr = .ok (.round l fn tmps assign body) wr := hy
        rw [← htk] at hRR
        have z1 : ((R : Int) != 0) = true := by rw [bne_iff_ne]; omega
        have z2 : (1 : Int) ≤ (R : Int) := by omega
        have z3 : (R : Int) ≤ 4294967295 := by omega
        have HC := Lib.hid hcons
        have HS := Lib.hid hdr
        have HG2 := Lib.hid hg2
        have HZ := Lib.hid hz
        have HR := Lib.hid hR
        obtain ⟨R', hRe⟩ : ∃ R', R' = R &&& (R - 1) := ⟨_, rfl⟩
        rw [← hRe] at hap hR'
        have HRE := Lib.hid hRe
        generalize hcz : Lib.ctz 32 R = c at *
        have HCZ := Lib.hid hcz
        clear hcons hdr hdc hg1 hg2 hz hR hRe htk hY hG hcz
        gi_wp2
        refine ⟨trivial, (callsIn_wide.2 htz).mono ?_⟩
        rintro e w' ⟨rfl, rfl⟩
        gi_wp2
        refine hRR.mono ?_
        rintro e W3 ⟨r', hrd, (⟨rfl, hJ3⟩ | ⟨rfl, hJx3⟩)⟩
        · gi_wp2
          go_roundw
          case rel => exact ⟨k + 1, r', R', by go_num, hR', by rw [HRE.out]; exact HG2.out, hkk, hJ3⟩
          case measure =>
            simp only [intOf, Int.toNat_natCast]
            have h1 := slots_cons HZ.out HR.out
            rw [← HRE.out] at h1
            rw [h1, List.length_cons]
            omega
        · gi_wp2
          exact bodyPost_ret (results_none rfl _ _ _) rfl ⟨⟨_, rfl⟩, .inr ⟨_, r', ⟨k + 1, by unfold ints; rw [List.length_map]; exact hkk, rfl⟩, hJx3⟩⟩
theorem yields1_any (lb : Array Value) (w : World) :
    Calls Tryd.prog 39 #[.func (.func 41) #[] lb] w fun e w' => e = .returned (.func (.func 41) #[] lb) ∧ w = w' := by
  have hq : ∀ w : World, (binOp .eql 61 (.func (.func 41) #[] lb) .nilFunc).run Tryd.prog w = .ok (.bool false) w := fun w => by kernel_rfl
  go_enter Tryd.func39, Tryd.ntmps39
  go_wp2
  go_ret
  exact ⟨rfl, rfl⟩
/-- between two rounds of 'left' -/
def leftI (w : World) (p : Option Addr) (base : Nat) (s : List (Int) × Option Nat) (W : World) : Prop :=
  ∃ (A' : Option Addr) (cap' : Nat), s.2 = rowOf A' ∧ W.ownsRow base 3 1 (.slice A' s.1.length cap') s.1.length (s.1.map (Value.int .i64)) ∧ Blk W (w.heap.size) 22 #[.slice A' s.1.length cap'] ∧ Blk W (w.heap.size + 1) 24 #[.pointer p] ∧ Below w.heap.size w W
def Got1 (w : World) (n : Nat) (xs : List Int) (e : Ending) (w' : World) : Prop := (∃ (A : Option Addr) (cap : Nat), e = .returned (.slice A n cap) ∧ w'.ownsRow w.heap.size 3 1 (.slice A n cap) n (xs.map (Value.int .i64))) ∧ Below w.heap.size w w'
set_option maxHeartbeats 3200000 in
set_option maxRecDepth 100000 in
theorem left_any (p : Option Addr) (xs : List Int) (w : World) (h : RS p xs w) (hT : Tab w) :
    Calls Tryd.prog 24 #[.pointer p] w (Got1 w xs.length xs) := by
  obtain ⟨i0, hi0, hz0, hz1, hz2⟩ := info_parts info
  have hln := h.len
  refine (callsIn_wide (n := 9)).1 ?_
  refine callsIn_of_wp_marks Tryd.func24 rfl trivial ?_ rfl
  simp only [Tryd.ntmps24, List.size_toArray, List.length_cons, List.length_nil, Nat.reduceAdd, Nat.reduceSub, Array.replicate_succ, Array.replicate_zero, List.push_toArray, List.append_toArray, List.nil_append, List.cons_append]
  gi_wp2
  refine ⟨trivial, (callsIn_wide.2 (Left_any _ _)).mono ?_⟩
  rintro e w' ⟨rfl, rfl⟩
  gi_wp2
  refine ⟨trivial, (callsIn_wide.2 (yields1_any _ _)).mono ?_⟩
  rintro e w' ⟨rfl, rfl⟩
  gi_wp2
  obtain ⟨w3, hw3⟩ : ∃ w3, w3 = (w.alloc (.cells #[.slice none 0 0] 22)).alloc (.cells #[.pointer p] 24) := ⟨_, rfl⟩
  have hb3 : Below w.heap.size w w3 := by rw [hw3]; exact b_alloc (b_alloc (Below.refl _ _) _) _
  have hsz : w3.heap.size = w.heap.size + 1 + 1 := by rw [hw3]; simp
  have x0 : Blk w3 (w.heap.size) 22 #[.slice none 0 0] := by (rw [hw3]; unfold Blk; repeat (first | ((with_reducible refine alloc_here' ?_); (simp; done)) | (with_reducible apply alloc_old')))
  have x1 : Blk w3 (w.heap.size + 1) 24 #[.pointer p] := by (rw [hw3]; unfold Blk; repeat (first | ((with_reducible refine alloc_here' ?_); (simp; done)) | (with_reducible apply alloc_old')))
  have hI0 : leftI w p w3.heap.size ([], none) w3 := ⟨none, 0, rfl, World.ownsRow_nil _ _ _ _, x0, x1, hb3⟩
  clear x0 x1
  rw [← hw3]
  have HW3 := Lib.hid hw3
  clear hw3
  refine range_k rfl (by omega) (gf := 41) (lb := #[.pointer (some ⟨w.heap.size + 1, 0, none⟩)]) rfl trivial (enters_of Tryd.func41 (by kernel_rfl) rfl)
    (encs := sEnc) (G := aG p xs (w.heap.size + 1)) (S := fun ys => ys = xs) (Sp := fun ys => ∃ j, j ≤ xs.length ∧ ys = xs.take j) (fun _ => rfl) none (fun k hk => by cases hk)
    (fun W1 hW1 hs1 => left_iter _ (by omega) _ p xs _ W1)
    (leftI w p w3.heap.size) (fun _ _ _ => False)
    (by
      rintro s A1 A2 row ⟨A', cap', h1, h2, k0, k1, h8⟩ hg hr
      have hr' := fun r e => (hr r e).2
      exact ⟨A', cap', h1, own_turn' h2 hg hr', k0.turn hg hr', k1.turn hg hr', below_turn h8 hg (fun r e => by have := (hr r e).1; omega) h8.size⟩)
    (fun _ _ _ _ _ h _ _ => h)
    (by
      rintro s A1 ⟨A', cap', h1, h2, k0, k1, h8⟩
      exact ⟨h.later h8, hT.later h8, k1.cell 0⟩)
    hI0 ?round ?done ?stop
  case stop => exact fun D c pre r W hD _ _ h _ => h.elim
  case done =>
    clear hI0 hb3
    rintro D ys r W hD hDr rfl ⟨A', cap', h1, h2, k0, k1, h8⟩ hK
    replace h2 : W.ownsRow w3.heap.size 3 1 (.slice A' ys.length cap') ys.length (ys.map (Value.int .i64)) := h2
    replace k0 : Blk W (w.heap.size) 22 #[.slice A' ys.length cap'] := k0
    have h1 : r = rowOf A' := h1
    subst h1
    have hro := own_row h2
    have c0 := k0.cell
    have f0 := k0.frozen
    have c1 := k1.cell
    have f1 := k1.frozen
    have hK' : W.heap[D]? = some (.deferred (some [])) := hK
    have hB' := h8
    have o5 := h2
    clear hro h2 k0 k1 h8
    gi_wp2
    refine ⟨by simp, .inl ⟨_, _, rfl, run_takeDeferred hK', ?_⟩⟩
    exact ⟨_, results_tmp rfl _ _ _, ⟨A', cap', rfl, own_base (B := w3.heap.size) (own_kept o5 fun g hg => World.putObj_heap_other (by rintro rfl; exact hDr hg.symm)) (show w.heap.size ≤ w3.heap.size by omega)⟩, hB'.trans (below_putObj _ D (.deferred none) (show w.heap.size ≤ D by omega))⟩
  case round =>
    clear hI0 hb3
    rintro l pre x r W hl1 hl2 hlr ⟨j, hj, hpre⟩ hI
    have hpl := congrArg List.length hpre
    obtain ⟨i, hpi⟩ : ∃ i, i = pre.length := ⟨_, rfl⟩
    have hlt : i < xs.length := by simp at hpl; omega
    have hsl : (pre ++ [x]).length = pre.length + 1 := by simp
    have hsm : ((pre ++ [x]).map (Value.int .i64)) = (pre.map (Value.int .i64)) ++ [(Value.int .i64) x] := by simp
    obtain ⟨pr, hpr⟩ : ∃ pr, pr = pre ++ [x] := ⟨_, rfl⟩
    rw [← hpr] at hsl hsm ⊢
    clear hpre hpl hj
    have hin : i < 32 := by omega
    obtain ⟨L, hL⟩ : ∃ L, L = pre.length := ⟨_, rfl⟩
    rw [← hL] at hsl hpi
    subst hpi
    obtain ⟨FL, hFL⟩ : ∃ FL, FL = pre.map (Value.int .i64) := ⟨_, rfl⟩
    rw [← hFL] at hsm
    have HL := Lib.hid hL
    have HFL := Lib.hid hFL
    have HSL := Lib.hid hsl
    have HSM := Lib.hid hsm
    clear hL hFL hsl hsm hpr
    simp only [sEnc, List.zip_toArray, List.zip_cons_cons, List.zip_nil_right, List.foldl_toArray, List.foldl_cons, List.foldl_nil, List.setIfInBounds_toArray, List.set_cons_zero, List.set_cons_succ]
    gi_wp2
    refine ⟨Rd.refl _ _ _, hI, fun o hIo => ?_⟩
    clear hI
    generalize W.putObj l o = Wq at hIo ⊢
    obtain ⟨A', cap', h1, h2, k0, k1, h8⟩ := hIo
    have h1 : r = rowOf A' := h1
    subst h1
    have h2 : Wq.ownsRow w3.heap.size 3 1 (.slice A' pre.length cap') pre.length (pre.map (Value.int .i64)) := h2
    have k0 : Blk Wq (w.heap.size) 22 #[.slice A' pre.length cap'] := k0
    rw [← HL.out, ← HFL.out] at h2
    rw [← HL.out] at k0
    have hro := own_row h2
    have hne : ∀ g, g < w3.heap.size → some g ≠ (Value.slice A' i cap').ownBlock := by
      intro g hg e
      rw [rowOf_own] at e
      have := (hro g e.symm).1
      omega
    have z2 : ((i : Int) == 40) = false := by rw [beq_eq_false_iff_ne]; omega
    have hb8 := h8.size
    have o2 := own_later h2 (b_alloc (Below.refl _ Wq) (.cells #[(Value.int .i64) x] 3))
    have hrd := Reads.one Wq 3 ((Value.int .i64) x)
    have k4' : ∀ u ∈ [(Value.int .i64) x], u.oneCell' = true := by intro u hu; simp at hu; subst hu; rfl
    have k5' : i + 1 ≤ maxLen := by unfold maxLen; omega
    have k6' : (i + 1) * 8 ≤ 140737488355328 := by omega
    have hlq : w3.heap.size ≤ Wq.heap.size := by have := k1.lt; omega
    have k7' : w3.heap.size ≤ (Wq.alloc (.cells #[(Value.int .i64) x] 3)).heap.size := by rw [World.size_alloc]; omega
    have g0 := k0.alloc (.cells #[(Value.int .i64) x] 3)
    have c0 := k0.cell
    have g1 := k1.alloc (.cells #[(Value.int .i64) x] 3)
    have c1 := k1.cell
    gi_wp2_with (first
      | (gi_at_builtin; refine wpListIn_append_any _ rfl (.tmp 12) (.tmp 14) _ rfl w3.heap.size 3 i0 _ 1 8 Tryd.underlying22 hi0 hz0 hz1 hz2 rfl (by omega) _ i _ rfl o2 (Wq.heap.size + 1) _ 1 1 _ rfl hrd k4' k5' k6' k7' ?_; intro v5 w5 o5 hg5 hat5; obtain ⟨g5', cap5, rfl, hbg5, hlg5⟩ := own_head o5; have qo := g0.grown hg5 (hne _ (by omega)); have f6 := qo.cell; have f6' := qo.frozen))
    have hg6 : (Wq.alloc (.cells #[(Value.int .i64) x] 3)).grownBy w5 ((Value.slice A' i cap').ownBlock) := hg5
    have q1 := g1.grown hg5 (hne _ (by omega))
    have hrow : NewRow Wq (rowOf A') (rowOf (some ⟨g5', 0, none⟩)) := by
      rcases hat5 with hq | hq
      · exact .inl ((rowOf_own _ (i + 1) cap5).symm.trans (hq.trans (rowOf_own A' i cap')))
      · injection hq with hq
        have hq' : g5' = (Wq.alloc (.cells #[(Value.int .i64) x] 3)).heap.size := hq
        exact NewRow.new (show Wq.heap.size ≤ g5' by rw [hq']; simp)
    have hR : Rd w3.heap.size (rowOf A') (rowOf (some ⟨g5', 0, none⟩)) Wq w5 :=
      ⟨Nat.le_trans (by simp) hg6.size, fun g hg1 hg2 hg3 => (hg6.block g (by simp; omega) (by rw [rowOf_own]; exact hg3)).trans (Below.heap_alloc _ _ g hg2), hrow⟩
    have hB5 : Below w.heap.size w w5 := (b_alloc h8 _).grown hg6 (by simp; omega) (fun k hk => by rw [rowOf_own] at hk; have := (hro k hk).1; omega)
    try rw [← hsz]
    refine ⟨rowOf (some ⟨g5', 0, none⟩), hR.set_ (p := ⟨w.heap.size, 0, none⟩) (.inl (by show w.heap.size < w3.heap.size; omega)) _, some ⟨g5', 0, none⟩, cap5, rfl, ?_, ?_, q1.far (p := ⟨w.heap.size, 0, none⟩) (by show w.heap.size + 1 ≠ w.heap.size; omega) _, hB5.setCell (p := ⟨w.heap.size, 0, none⟩) (by show w.heap.size ≤ w.heap.size; omega) _⟩
    · show (w5.setCell ⟨w.heap.size, 0, none⟩ _).ownsRow w3.heap.size 3 1 (.slice (some ⟨g5', 0, none⟩) pr.length cap5) pr.length (pr.map (Value.int .i64))
      rw [HSL.out, HSM.out]
      exact own_setFar o5 (by intro e; injection e with e; have e : g5' = w.heap.size := e; omega) _
    · show Blk _ _ _ #[.slice (some ⟨g5', 0, none⟩) pr.length cap5]
      rw [HSL.out]
      exact qo.set_ 0 _
end Go.Proofs.YtaidekdmhmoaeaaDoor.Rd
