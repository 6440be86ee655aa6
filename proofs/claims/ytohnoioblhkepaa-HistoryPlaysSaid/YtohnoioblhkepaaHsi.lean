/-
  Lists of strings: the iterators.
-/
import Derived.Shelf.Abstract
import Derived.Shelf.RegionOpen
import Derived.WalkKit
import Derived.OwnWalkIn
import Derived.TacticsInMore
import Derived.LoopNIn
import Derived.LoopIn
import Derived.WalkMore
import Derived.Test.YtohnoioblhkepaaHs
import Derived.Test.YtohnoioblhkepaaIdx
namespace Go.Proofs.Ytohnoioblhkepaa.Hs
open Go.RowKit Go.Shelf
set_option linter.unusedVariables false
set_option linter.unusedSimpArgs false
attribute [local go_sem] Oper.semAt_some

theorem All_any (p : Option Addr) (w : World) : Calls Try.prog 65 #[.pointer p] w fun e w' => e = .returned (.func (.func 69) #[] #[.pointer (some ⟨w.heap.size, 0, none⟩)]) ∧ w' = w.alloc (.cells #[.pointer p] 57) := by
  go_enter Try.func65, Try.ntmps65
  go_wp2
  go_ret
  exact ⟨rfl, rfl⟩
theorem Since_any (p : Option Addr) (w : World) : Calls Try.prog 63 #[.pointer p] w fun e w' => e = .returned (.func (.func 67) #[] #[.pointer (some ⟨w.heap.size, 0, none⟩)]) ∧ w' = w.alloc (.cells #[.pointer p] 57) := by
  go_enter Try.func63, Try.ntmps63
  go_wp2
  go_ret
  exact ⟨rfl, rfl⟩
def aEnc (x : Nat × ByteArray) : Array Value := #[.int .i64 x.1, Value.string x.2]
def sEnc (x : ByteArray) : Array Value := #[Value.string x]
/-- what the iterators read between two rounds -/
def aG (B b most m : Nat) (A : Option Addr) (n cap : Nat) (xs : List ByteArray) (Bn : Nat) (w : World) : Prop := Is w B b most m A n cap xs ∧ w.cell? ⟨Bn, 0, none⟩ = some (.pointer (some ⟨b, 0, none⟩))
set_option maxHeartbeats 1600000 in
set_option maxRecDepth 100000 in
theorem all_iter (d : Nat) (hd : 1 ≤ d) (C B b most m : Nat) (A : Option Addr) (n cap : Nat) (xs : List ByteArray) (Bn : Nat) (W : World) :
    IterK Fence.wide d Try.prog 69 #[.pointer (some ⟨Bn, 0, none⟩)] aEnc C (aG B b most m A n cap xs Bn) (fun ys => ys = upto xs xs.length) (fun ys => ∃ j, j ≤ xs.length ∧ ys = upto xs j) W := by
  intro l J Jx r0 hJ hJx hG hr0 hY h0
  obtain ⟨hI, hcl⟩ := hG _ _ h0
  have hc := hI.blk.cell
  have hln := hI.len
  obtain ⟨_, hnc, hcm⟩ := own_cap hI.own
  unfold maxLen at hcm
  have HLN := Lib.hid hln
  clear hln
  refine callsIn_of_wp Try.func69 rfl trivial ?_
  simp only [Try.ntmps69, List.size_toArray, List.length_cons, List.length_nil, Nat.reduceAdd, Nat.reduceSub, Array.replicate_succ, Array.replicate_zero, List.push_toArray, List.append_toArray, List.nil_append, List.cons_append]
  gi_wp2
  refine ⟨trivial, (callsIn_wide.2 (valid_any B b most m n cap A xs _ hI)).mono ?_⟩
  rintro e w' ⟨rfl, rfl⟩
  gi_wp2
  gi_loopw [13] (fun i wr => ∃ (k : Nat) (r : Option Nat), k ≤ n ∧ i = .int .i64 k ∧ J (upto xs k, r) wr) (fun i _ => n - (intOf i).toNat)
  case atStart => exact ⟨0, r0, by omega, rfl, by rw [upto_zero]; exact h0⟩
  case round =>
    clear h0 hI hcl hc
    obtain ⟨k, r, hk, rfl, hJs⟩ := hrel
    by_cases hlt : k < n
    · obtain ⟨hI, hcl⟩ := hG _ _ hJs
      have hln := HLN.out
      obtain ⟨x, hx⟩ : ∃ x, xs[k]? = some x := ⟨_, List.getElem?_eq_getElem (by omega)⟩
      have hus := upto_succ xs k x hx
      obtain ⟨g, rfl, _, _, c1, _⟩ := own_at hI.own (i := k) (u := Value.string x) (by rw [List.getElem?_map, hx]; rfl)
      obtain ⟨fn, tmps, assign, body, hy, hR⟩ := hY (upto xs k) (k, x) r wr hJs ⟨k + 1, by omega, hus.symm⟩
      have hy : (Instr.yield l #[.int .i64 k, Value.string x]).run Try.prog wr = .ok (.round l fn tmps assign body) wr := hy
      rw [← hus] at hR
      have z1 : (k : Int) < (n : Int) := by omega
      have z2 : (0 : Int) ≤ (k : Int) := by omega
      have hc := hI.blk.cell
      clear hus hx hln hY hG hI
      gi_wp2
      refine hR.mono ?_
      rintro e W3 ⟨r', hrd, (⟨rfl, hJ3⟩ | ⟨rfl, hJx3⟩)⟩
      · gi_wp2
        go_roundw
        case rel => exact ⟨k + 1, r', by omega, by go_num, hJ3⟩
        case measure => simp [intOf]; omega
      · gi_wp2
        have hln := HLN.out
        exact bodyPost_ret (results_none rfl _ _ _) rfl ⟨⟨_, rfl⟩, .inr ⟨_, r', ⟨k + 1, by omega, rfl⟩, hJx3⟩⟩
    · obtain rfl : k = n := by omega
      have hln := HLN.out
      gi_wp2
      go_end0
      exact ⟨⟨_, rfl⟩, .inl ⟨_, r, by rw [← hln], hJs⟩⟩
/-- what holds between two rounds of Since's own loop -/
def sI (J : List ByteArray × Option Nat → World → Prop) (xs : List ByteArray) (m l B b : Nat) (s : List (Nat × ByteArray) × Option Nat) (W' : World) : Prop :=
  ∃ k, k ≤ xs.length ∧ s.1 = upto xs k ∧ J ((xs.take k).drop m, s.2) W' ∧ Blk W' B 107 #[.func (.yield l) #[] #[]] ∧ Blk W' (B + 1) 57 #[.pointer (some ⟨b, 0, none⟩)] ∧ some B ≠ s.2 ∧ some (B + 1) ≠ s.2
def sIx (Jx : List ByteArray × Option Nat → World → Prop) (xs : List ByteArray) (m : Nat) (c : Code) (s : List (Nat × ByteArray) × Option Nat) (W' : World) : Prop := c = .ret ∧ ∃ k, k ≤ xs.length ∧ Jx ((xs.take k).drop m, s.2) W'
set_option maxHeartbeats 3200000 in
set_option maxRecDepth 100000 in
theorem since_iter (d : Nat) (hd : 3 ≤ d) (C B b most m : Nat) (A : Option Addr) (n cap : Nat) (xs : List ByteArray) (Bn : Nat) (W : World) (hC : C ≤ W.heap.size) (hm : m ≤ n) :
    IterK Fence.wide d Try.prog 67 #[.pointer (some ⟨Bn, 0, none⟩)] sEnc C (aG B b most m A n cap xs Bn) (fun ys => ys = xs.drop m) (fun ys => ∃ j, j ≤ xs.length ∧ ys = (xs.take j).drop m) W := by
  intro l J Jx r0 hJ hJx hG hr0 hY h0
  obtain ⟨hI, hcl⟩ := hG _ _ h0
  have hln := hI.len
  have HLN := Lib.hid hln
  clear hln
  refine callsIn_of_wp_marks Try.func67 rfl trivial ?_ rfl
  simp only [Try.ntmps67, List.size_toArray, List.length_cons, List.length_nil, Nat.reduceAdd, Nat.reduceSub, Array.replicate_succ, Array.replicate_zero, List.push_toArray, List.append_toArray, List.nil_append, List.cons_append]
  have hBn : Bn < W.heap.size := block_lt_of_cell hcl
  have hd1 : 1 ≤ d := by omega
  gi_wp2
  refine ⟨trivial, (callsIn_wide.2 (All_any _ _)).mono ?_⟩
  rintro e w' ⟨rfl, rfl⟩
  gi_wp2
  obtain ⟨w3, hw3⟩ : ∃ w3, w3 = (W.alloc (.cells #[.func (.yield l) #[] #[]] 107)).alloc (.cells #[.pointer (some ⟨b, 0, none⟩)] 57) := ⟨_, rfl⟩
  have hb3 : Below W.heap.size W w3 := by rw [hw3]; exact b_alloc (b_alloc (Below.refl _ _) _) _
  have hsz : w3.heap.size = W.heap.size + 1 + 1 := by rw [hw3]; simp
  have x1 : Blk w3 W.heap.size 107 #[.func (.yield l) #[] #[]] := by (rw [hw3]; unfold Blk; repeat (first | ((with_reducible refine alloc_here' ?_); (simp; done)) | (with_reducible apply alloc_old')))
  have x2 : Blk w3 (W.heap.size + 1) 57 #[.pointer (some ⟨b, 0, none⟩)] := by (rw [hw3]; unfold Blk; repeat (first | ((with_reducible refine alloc_here' ?_); (simp; done)) | (with_reducible apply alloc_old')))
  have h3 : J ([], r0) w3 := own_new hJ h0 hb3
  rw [← hw3]
  have HW3 := Lib.hid hw3
  clear hw3
  refine range_k rfl (by omega) (gf := 69) (lb := #[.pointer (some ⟨W.heap.size + 1, 0, none⟩)]) rfl trivial (enters_of Try.func69 (by kernel_rfl) rfl)
    (encs := aEnc) (G := aG B b most m A n cap xs (W.heap.size + 1)) (S := fun ys => ys = upto xs xs.length) (Sp := fun ys => ∃ j, j ≤ xs.length ∧ ys = upto xs j) (fun _ => rfl) r0 (fun k hk => by have := hr0 k hk; omega)
    (fun W1 hW1 hs1 => all_iter _ (by omega) _ B b most m A n cap xs _ W1)
    (sI J xs m l W.heap.size b) (sIx Jx xs m)
    (by
      rintro s A1 A2 row ⟨k, h1, h2, h4, h5, h6, h7, h8⟩ hg hr
      exact ⟨k, h1, h2, hJ _ A1 A2 row h4 hg (fun r e => ⟨by have := (hr r e).1; omega, (hr r e).2⟩), h5.turn hg (fun r e => (hr r e).2), h6.turn hg (fun r e => (hr r e).2), h7, h8⟩)
    (by
      rintro c s A1 A2 row ⟨h0, k, h1, h2⟩ hg hr
      exact ⟨h0, k, h1, hJx _ A1 A2 row h2 hg (fun r e => ⟨by have := (hr r e).1; omega, (hr r e).2⟩)⟩)
    (by
      rintro s A1 ⟨k, h1, h2, h4, h5, h6, h7, h8⟩
      exact ⟨(hG _ _ h4).1, h6.cell 0⟩)
    ⟨0, Nat.zero_le _, (upto_zero xs).symm, by show J ((xs.take 0).drop m, r0) w3; rw [cut_zero]; exact h3, x1, x2, fun e => by have := hr0 _ e.symm; omega, fun e => by have := hr0 _ e.symm; omega⟩ ?round ?done ?stop
  case done =>
    clear h0 h3 x1 x2 hI hcl
    rintro D ys r W2 hD hDr rfl ⟨k, h1, h2, h4, h5, h6, h7, h8⟩ hK
    have hk := (upto_eq h1 h2.symm)
    subst hk
    rw [List.take_length] at h4
    have h9 := hJ.putObj (l := D) (.deferred none) h4 (by omega) hK rfl
    clear h4 h5 h6 hY hG
    gi_wp2
    refine ⟨by simp, .inl ⟨_, _, rfl, run_takeDeferred hK, ?_⟩⟩
    refine ⟨_, results_none rfl _ _ _, ⟨_, rfl⟩, .inl ⟨r, h9⟩⟩
  case stop =>
    clear h0 h3 x1 x2 hI hcl
    rintro D c pre r W2 hD hDr _ ⟨rfl, k, h1, h2⟩ hK
    have h9 := hJx.putObj (l := D) (.deferred none) h2 (by omega) hK rfl
    clear h2 hY hG
    gi_wp2
    refine ⟨by simp, .inl ⟨_, _, rfl, run_takeDeferred hK, ?_⟩⟩
    refine ⟨_, results_none rfl _ _ _, ⟨_, rfl⟩, .inr ⟨_, ⟨k, h1, rfl⟩, r, h9⟩⟩
  case round =>
    clear h0 h3 x1 x2 hI hcl
    rintro l2 pre ⟨i, x⟩ r W2 hl1 hl2 hlr ⟨j, hj, hpre⟩ ⟨k, hk, e0, h4, h5, h6, h7, h8⟩
    have e0 : pre = upto xs k := e0
    subst e0
    obtain ⟨hlt, rfl, hx, hus⟩ := upto_inv hk hj hpre
    clear hpre
    simp only [aEnc, List.zip_toArray, List.zip_cons_cons, List.zip_nil_right, List.foldl_toArray, List.foldl_cons, List.foldl_nil, List.setIfInBounds_toArray, List.set_cons_zero, List.set_cons_succ]
    have HUS := Lib.hid hus
    clear hus
    gi_wp2
    refine ⟨Rd.refl _ _ _, ⟨i, hk, rfl, h4, h5, h6, h7, h8⟩, fun o hIo => ?_⟩
    clear h4 h5 h6 h7 h8
    generalize W2.putObj l2 o = Wq at hIo ⊢
    obtain ⟨k', hk', e', h4, h5, h6, h7, h8⟩ := hIo
    have hkk : k' = i := by
      have := congrArg List.length e'
      rw [upto_length _ _ hk, upto_length _ _ hk'] at this
      exact this.symm
    subst hkk
    clear e' hk'
    obtain ⟨hI, hcl⟩ := hG _ _ h4
    have hc := hI.blk.cell
    have c5 := h5.cell
    by_cases hmk : m ≤ k'
    · have hcs := cut_succ xs m k' x hx hmk
      obtain ⟨fn, tmps, assign, body, hy, hR⟩ := YieldAt.deep rfl (d - 1 - 1 - 1) (hY ((xs.take k').drop m) x r Wq h4 ⟨k' + 1, by omega, hcs.symm⟩)
      have hy : (Instr.yield l #[Value.string x]).run Try.prog Wq = .ok (.round l fn tmps assign body) Wq := hy
      rw [← hcs] at hR
      have z1 : decide (m ≤ k') = true := by rw [decide_eq_true_eq]; exact hmk
      have z2 : (m : Int) ≤ (k' : Int) := by omega
      have H5 := Lib.hid h5
      have H6 := Lib.hid h6
      have H7 := Lib.hid h7
      have H8 := Lib.hid h8
      clear hcs h5 h6 h7 h8 hY hG hI h4 hx
      gi_wp2
      refine ⟨fun _ => by omega, RoundIn.mono (F := Fence.wide.inRound l2) hR ?_⟩
      rintro e W3 ⟨r', hrd, (⟨rfl, hJ3⟩ | ⟨rfl, hJx3⟩)⟩
      · gi_wp2
        exact ⟨r', hrd.mono (by omega), k' + 1, by omega, HUS.out.symm, hJ3, (hrd.block _ hC H5.out.lt H7.out).trans H5.out, (hrd.block _ (by omega) H6.out.lt H8.out).trans H6.out, hrd.row.ne H5.out.lt H7.out, hrd.row.ne H6.out.lt H8.out⟩
      · gi_wp2
        exact ⟨r', hrd.mono (by omega), rfl, k' + 1, by omega, hJx3⟩
    · have hcs := cut_none xs m k' (by omega)
      have h4' : J ((xs.take (k' + 1)).drop m, r) Wq := by rw [hcs]; exact h4
      have z1 : decide (m ≤ k') = false := by rw [decide_eq_false_iff_not]; exact hmk
      have z2 : (k' : Int) < (m : Int) := by omega
      have H5 := Lib.hid h5
      have H6 := Lib.hid h6
      have H7 := Lib.hid h7
      have H8 := Lib.hid h8
      clear hcs h5 h6 h7 h8 hY hG hI h4 hx
      gi_wp2
      refine ⟨fun _ h => (by cases h), ?_⟩
      gi_wp2
      exact ⟨r, Rd.refl _ _ _, k' + 1, by omega, HUS.out.symm, h4', H5.out, H6.out, H7.out, H8.out⟩
end Go.Proofs.Ytohnoioblhkepaa.Hs
