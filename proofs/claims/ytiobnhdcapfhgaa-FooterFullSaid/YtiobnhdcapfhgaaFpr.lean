/-
  The footers of all prefixes of a list of records: the iterator.
-/
import Derived.Shelf.Abstract
import Derived.Shelf.RegionOpen
import Derived.WalkKit
import Derived.OwnWalkIn
import Derived.TacticsInMore
import Derived.LoopNIn
import Derived.LoopIn
import Derived.Test.YtiobnhdcapfhgaaRng
import Derived.Test.YtiobnhdcapfhgaaFor
namespace Go.Proofs.Ytiobnhdcapfhgaa
open Go.RowKit Go.Shelf
set_option linter.unusedVariables false
attribute [local go_sem] Oper.semAt_some

theorem prefixes_any (A : Option Addr) (n cap : Nat) (w : World) :
    Calls Try.prog 41 #[.slice A n cap] w fun e w' => e = .returned (.func (.func 57) #[] #[.pointer (some ⟨w.heap.size, 0, none⟩)]) ∧ w' = w.alloc (.cells #[.slice A n cap] 49) := by
  go_enter Try.func41, Try.ntmps41
  go_wp2
  go_ret
  exact ⟨rfl, rfl⟩
/-- what is yielded: a footer and an error -/
def pEnc (x : Int × Int × Int) : Array Value := #[.agg #[.int .i64 x.1, .int .i64 x.2.1], .int .i64 x.2.2]
def good (rs : List Rc) (q : Nat) : Int × Int × Int := ((q : Int) + 1, lastF (rs.take (q + 1)), 0)
def goods (rs : List Rc) (q : Nat) : List (Int × Int × Int) := (List.range q).map (good rs)
theorem goods_succ (rs : List Rc) (q : Nat) : goods rs (q + 1) = goods rs q ++ [good rs q] := by simp [goods, List.range_succ]
theorem goods_zero {rs : List Rc} {q : Nat} : ∀ x ∈ goods rs q, x.2.2 = 0 := by
  intro x hx
  obtain ⟨i, _, rfl⟩ := List.mem_map.1 hx
  rfl
def Bad (rs : List Rc) (q : Nat) : Prop := ∃ r, rs[q]? = some r ∧ ¬ r.Ok
def pS (rs : List Rc) (xs : List (Int × Int × Int)) : Prop := (allOk rs = true ∧ xs = goods rs rs.length) ∨ (∃ q, Bad rs q ∧ xs = goods rs q ++ [(0, 0, 2)])
def pSp (rs : List Rc) (xs : List (Int × Int × Int)) : Prop := (∃ q, xs = goods rs q) ∨ (∃ q, Bad rs q ∧ xs = goods rs q ++ [(0, 0, 2)])
set_option maxHeartbeats 1600000 in
set_option maxRecDepth 100000 in
theorem prefixes_iter (n : Nat) (hn : 1 ≤ n) (A : Option Addr) (cap : Nat) (rs : List Rc) (w0 W : World) (C Bn : Nat) (hr : IsRs w0 A rs) (hl : rs.length ≤ cap) (hc : cap ≤ maxLen)
    (hb : Below w0.heap.size w0 W) (hC : C ≤ W.heap.size) (hlo : w0.heap.size ≤ C) (hBn : W.cell? ⟨Bn, 0, none⟩ = some (.slice A rs.length cap)) (hBl : Bn < W.heap.size) :
    IterC Fence.wide n Try.prog 57 #[.pointer (some ⟨Bn, 0, none⟩)] pEnc w0.heap.size C (pS rs) (pSp rs) W := by
  intro l J Jx hJ hJx hY h0
  have hBn' : (W.alloc (.cells #[.int .i64 0, .int .i64 0] 23)).cell? ⟨Bn, 0, none⟩ = some (.slice A rs.length cap) := ((b_alloc (Below.refl _ W) (.cells #[.int .i64 0, .int .i64 0] 23)).cell (p := ⟨Bn, 0, none⟩) hBl).trans hBn
  have hF0 := Blk.new W 23 #[.int .i64 0, .int .i64 0]
  have hb0 := b_alloc hb (.cells #[.int .i64 0, .int .i64 0] 23)
  have hJ0 : J (goods rs 0) (W.alloc (.cells #[.int .i64 0, .int .i64 0] 23)) := hJ _ _ _ h0 ((b_alloc (Below.refl _ W) (.cells #[.int .i64 0, .int .i64 0] 23)).mono hC)
  unfold maxLen at hc
  refine callsIn_of_wp Try.func57 rfl trivial ?_
  simp only [Try.ntmps57, List.size_toArray, List.length_cons, List.length_nil, Nat.reduceAdd, Nat.reduceSub, Array.replicate_succ, Array.replicate_zero, List.push_toArray, List.append_toArray, List.nil_append, List.cons_append]
  gi_wp2
  obtain ⟨m, hm⟩ : ∃ m, m = rs.length := ⟨_, rfl⟩
  rw [← hm] at hl ⊢
  have HM := Lib.hid hm
  clear hm hBn hBn' h0 hb
  gi_loopw [8] (fun i wr => ∃ q : Nat, q ≤ m ∧ i = .int .i64 q ∧ allOk (rs.take q) = true ∧ J (goods rs q) wr ∧ Blk wr W.heap.size 23 #[.int .i64 (q : Int), .int .i64 (lastF (rs.take q))] ∧ Below w0.heap.size w0 wr ∧ C ≤ wr.heap.size) (fun i _ => m - (intOf i).toNat)
  case atStart => exact ⟨0, Nat.zero_le _, rfl, by simp [allOk], hJ0, hF0, hb0, Nat.le_trans hC (b_alloc (Below.refl _ W) _).size⟩
  case round =>
    clear hJ0 hF0 hb0
    obtain ⟨q, hq, rfl, ha, hJs, hF, hB, hCw⟩ := hrel
    by_cases hlt : q < m
    · obtain ⟨r, hrq⟩ : ∃ r, rs[q]? = some r := ⟨_, List.getElem?_eq_getElem (by have := HM.out; omega)⟩
      obtain ⟨b, off, rfl, hbl, k0, k1, k2, k3⟩ := (hr.below hB (Nat.le_refl _)).at_ hrq
      have hsz := hr.1 r (List.mem_of_getElem? hrq)
      have hts := take_snoc hrq
      have z1 : (q : Int) < (m : Int) := by omega
      have z2 : (0 : Int) ≤ (q : Int) := by omega
      have hFl := hF.lt
      have hX := Blk.new wr 46 #[.int .i64 r.kind, .int .i64 r.seq, .string r.key, .string r.val]
      have hF1 := hF.alloc (.cells #[.int .i64 r.kind, .int .i64 r.seq, .string r.key, .string r.val] 46)
      by_cases hok : r.Ok
      · have hck := fun w => rchk_yes r hok w
        obtain ⟨L, hL⟩ : ∃ L, L = lastF (rs.take q) := ⟨_, rfl⟩
        have hg : good rs q = ((q : Int) + 1, max L r.seq, 0) := by unfold good; rw [hts, lastF_snoc, hL]
        have hl2 : lastF (rs.take (q + 1)) = max L r.seq := by rw [hts, lastF_snoc, hL]
        have ha2 : allOk (rs.take (q + 1)) = true := by rw [hts, allOk_snoc, ha]; simp [hok]
        rw [← hL] at hF hF1
        clear hL hts hok
        obtain ⟨kind, sq, key, val⟩ := r
        have hck : ∀ w : World, Calls Try.prog 40 #[.agg #[.int .i64 kind, .int .i64 sq, .string key, .string val]] w fun e w' => e = .returned (.int .i64 0) ∧ Below w.heap.size w w' := hck
        have k0 : wr.cell? ⟨b, off + q * 4, none⟩ = some (.int .i64 kind) := k0
        have k1 : wr.cell? ⟨b, off + q * 4 + 1, none⟩ = some (.int .i64 sq) := k1
        have k2 : wr.cell? ⟨b, off + q * 4 + 2, none⟩ = some (.string key) := k2
        have k3 : wr.cell? ⟨b, off + q * 4 + 3, none⟩ = some (.string val) := k3
        have hg : good rs q = ((q : Int) + 1, max L sq, 0) := hg
        have hl2 : lastF (rs.take (q + 1)) = max L sq := hl2
        have cX := hX.cell
        gi_wp2
        refine ⟨trivial, (callsIn_wide.2 (hck _)).mono ?_⟩
        rintro e w1 ⟨rfl, hb1⟩
        have hX1 := hX.below hb1 hX.lt
        have cX1 := hX1.cell
        have hF2 := hF1.below hb1 hF1.lt
        have cF2 := hF2.cell
        have fF2 := hF2.frozen
        have hw1 : Below wr.heap.size wr w1 := b_then (b_alloc (Below.refl _ wr) _) hb1
        obtain ⟨w2, hw2⟩ : ∃ w2, w2 = (w1.setCell ⟨W.heap.size, 0, none⟩ (.int .i64 ((q : Int) + 1))).setCell ⟨W.heap.size, 1, none⟩ (.int .i64 (max L sq)) := ⟨_, rfl⟩
        have hF3 : Blk w2 W.heap.size 23 #[.int .i64 ((q : Int) + 1), .int .i64 (max L sq)] := by rw [hw2]; exact hF2.set2 _ _
        have cF3 := hF3.cell
        have hbC : Below C wr w2 := by rw [hw2]; exact ((hw1.mono hCw).setCell (by exact hC) _).setCell (by exact hC) _
        have hB2 : Below w0.heap.size w0 w2 := hB.trans (hbC.mono hlo)
        have hC2 : C ≤ w2.heap.size := Nat.le_trans hCw hbC.size
        obtain ⟨fn, tmps, assign, body, hy, hR⟩ := hY (goods rs q) (good rs q) w2 (hJ _ _ _ hJs hbC)
        have u1 : IntKind.i64.wrap ((q : Int) + 1) = (q : Int) + 1 := by rw [IntKind.wrap_i64]; omega
        rw [hg] at hy
        have hy : (Instr.yield l #[.agg #[.int .i64 ((q : Int) + 1), .int .i64 (max L sq)], .int .i64 0]).run Try.prog w2 = .ok (.round l fn tmps assign body) w2 := hy
        rw [hw2] at hy cF3
        clear hck hb1 k0 k1 k2 k3 hX cX hF hF1 hJs hB hbC hw1 hg hX1
        gi_wp2
        rw [← hw2]
        have hl3 : goods rs (q + 1) = goods rs q ++ [good rs q] := goods_succ rs q
        refine hR.mono ?_
        rintro e W3 (⟨rfl, hJ3, hk3⟩ | ⟨rfl, hJx3⟩)
        · have hF4 := hk3.blk hF3 (.inr hC)
          have hB4 := hB2.trans (hk3.below hB2.size)
          have hC4 := Nat.le_trans hC2 hk3.size
          gi_wp2
          go_roundw
          case rel => exact ⟨q + 1, by omega, by go_num, ha2, by rw [hl3]; exact hJ3, by rw [hl2]; exact hF4, hB4, hC4⟩
          case measure => simp [intOf]; omega
        · gi_wp2
          refine bodyPost_ret (results_none rfl _ _ _) rfl ?_
          exact ⟨⟨_, rfl⟩, .inr ⟨goods rs (q + 1), .inl ⟨q + 1, rfl⟩, by rw [hl3]; exact hJx3⟩⟩
      · have hck := fun w => rchk_no r hok hsz.1 hsz.2 w
        have hbad : Bad rs q := ⟨r, hrq, hok⟩
        clear hts hok hrq
        obtain ⟨kind, sq, key, val⟩ := r
        have hck : ∀ w : World, Calls Try.prog 40 #[.agg #[.int .i64 kind, .int .i64 sq, .string key, .string val]] w fun e w' => e = .returned (.int .i64 2) ∧ Below w.heap.size w w' := hck
        have k0 : wr.cell? ⟨b, off + q * 4, none⟩ = some (.int .i64 kind) := k0
        have k1 : wr.cell? ⟨b, off + q * 4 + 1, none⟩ = some (.int .i64 sq) := k1
        have k2 : wr.cell? ⟨b, off + q * 4 + 2, none⟩ = some (.string key) := k2
        have k3 : wr.cell? ⟨b, off + q * 4 + 3, none⟩ = some (.string val) := k3
        have cX := hX.cell
        gi_wp2
        refine ⟨trivial, (callsIn_wide.2 (hck _)).mono ?_⟩
        rintro e w1 ⟨rfl, hb1⟩
        have hw1 : Below wr.heap.size wr w1 := b_then (b_alloc (Below.refl _ wr) _) hb1
        obtain ⟨fn, tmps, assign, body, hy, hR⟩ := hY (goods rs q) (0, 0, 2) w1 (hJ _ _ _ hJs (hw1.mono hCw))
        have hy : (Instr.yield l #[.agg #[.int .i64 0, .int .i64 0], .int .i64 2]).run Try.prog w1 = .ok (.round l fn tmps assign body) w1 := hy
        clear hck hb1 k0 k1 k2 k3 hX cX hF hF1 hJs hB hw1 hsz
        gi_wp2
        refine hR.mono ?_
        rintro e W3 (⟨rfl, hJ3, hk3⟩ | ⟨rfl, hJx3⟩)
        · gi_wp2
          refine bodyPost_ret (results_none rfl _ _ _) rfl ?_
          exact ⟨⟨_, rfl⟩, .inl ⟨_, .inr ⟨q, hbad, rfl⟩, hJ3⟩⟩
        · gi_wp2
          refine bodyPost_ret (results_none rfl _ _ _) rfl ?_
          exact ⟨⟨_, rfl⟩, .inr ⟨_, .inr ⟨q, hbad, rfl⟩, hJx3⟩⟩
    · obtain rfl : m = q := by omega
      have hta : rs.take m = rs := List.take_of_length_le (by rw [HM.out]; exact Nat.le_refl _)
      rw [hta] at ha
      clear hF hta
      gi_wp2
      go_end0
      exact ⟨⟨_, rfl⟩, .inl ⟨goods rs m, .inl ⟨ha, by rw [HM.out]⟩, hJs⟩⟩
end Go.Proofs.Ytiobnhdcapfhgaa
