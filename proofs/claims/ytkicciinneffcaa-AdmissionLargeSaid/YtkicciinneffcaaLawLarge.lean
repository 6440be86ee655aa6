/-
  AdmissionLarge: for every configuration by numbers and two numbers the law returns true and changes nothing. No condition.
-/
import Derived.Test.YtkicciinneffcaaOpen
import Derived.Lib.ConvBytes
import Derived.Test.YtkicciinneffcaaNum
namespace Go.Proofs.Ytkicciinneffcaa.admissionLarge
open Go.ChangeShapes Go.WideShapes Go.ChangeAt Go.RowKit
open Go.ChangeMaps (open_string shut_string)
set_option linter.unusedVariables false

/-- a key character as a number -/
def Ky (x : Int) : Prop := 0 ≤ x ∧ x ≤ 255 ∧ kch x.toNat = true
theorem ky_letter (q : Nat) : Ky (97 + (q : Int) % 26) := by
  refine ⟨by omega, by omega, ?_⟩
  unfold kch
  exact decide_eq_true (by omega)
theorem arr_set (L : List Int) (q : Nat) (x : Int) : ((L.map (Value.int .u8)).toArray).setIfInBounds q (.int .u8 x) = ((L.set q x).map (Value.int .u8)).toArray := by
  apply Array.toList_inj.1
  simp [List.map_set]
theorem keyAll_app {a b : ByteArray} (ha : keyAll a) (hb : keyAll b) : keyAll (a ++ b) := by
  intro i hi
  by_cases h : i < a.size
  · rw [ByteArray.getElem_append_left h]; exact ha i h
  · have hs : (a ++ b).size = a.size + b.size := ByteArray.size_append
    rw [ByteArray.getElem_append_right (by omega)]; exact hb _ (by omega)
theorem RB.of_arr {w : World} {g : Nat} {M : List Int} (h : Blk w g 5 (M.map (Value.int .u8)).toArray) : RB w (some ⟨g, 0, none⟩) M :=
  .inr ⟨g, 0, rfl, fun i hi => by
    have hcell := h.cell i
    rw [Nat.zero_add, hcell, List.getElem?_toArray, List.getElem?_map, List.getElem?_eq_getElem hi, List.getD_eq_getElem?_getD, List.getElem?_eq_getElem hi]
    rfl⟩
theorem str_arr {w : World} {g n : Nat} {M : List Int} (h : Blk w g 5 (M.map (Value.int .u8)).toArray) (hn : M.length = n) (cap : Nat) : (convert 40 9 (.slice (some ⟨g, 0, none⟩) n cap)).run Try.prog w = .ok (.string (strOfNums M)) w := by
  have := conv_any (RB.of_arr h) cap
  rwa [hn] at this
def nums (s : ByteArray) : List Int := s.data.toList.map (fun b => (b.toNat : Int))
theorem nums_len (s : ByteArray) : (nums s).length = s.size := by unfold nums; rw [List.length_map]; simp
theorem nums_get (s : ByteArray) (i : Nat) (hi : i < s.size) : (nums s).getD i 0 = ((s.data.toList.getD i 0).toNat : Nat) := by
  have hi' : i < s.data.toList.length := by simpa using hi
  unfold nums
  rw [List.getD_eq_getElem?_getD, List.getElem?_map, List.getD_eq_getElem?_getD, List.getElem?_eq_getElem hi']
  rfl
theorem below_bytes (w : World) (T : TypeId) (s : ByteArray) : Below w.heap.size w (Lib.bytesWorld w T s) := by
  refine ⟨?_, ?_, ?_, ?_, ?_⟩
  · simp [Lib.bytesWorld, World.freeze, World.alloc, World.drew, -World.alloc_eq, -World.drew_eq]
  · simp [Lib.bytesWorld, World.freeze, World.alloc, World.drew, -World.alloc_eq, -World.drew_eq]
  · simp [Lib.bytesWorld, World.freeze, World.alloc, World.drew, -World.alloc_eq, -World.drew_eq]
  · rw [Lib.bytesWorld_size]; omega
  · intro i hi
    exact Lib.bytesWorld_at_old w T s i hi
theorem bytes_frozen (w : World) (T : TypeId) (s : ByteArray) (q : Nat) (hq : q < s.size) : (Lib.bytesWorld w T s).frozen? ⟨w.heap.size, q, none⟩ = false := by
  have hz : s.size ≤ (Lib.bytesCells w T s).size := by simp [Lib.bytesCells]
  simp [World.frozen?, Lib.bytesWorld_at_new]
  omega
theorem rb_bytes_set (w : World) (T : TypeId) (s : ByteArray) (q : Nat) (x : Int) (hq : q < s.size) :
    RB ((Lib.bytesWorld w T s).setCell ⟨w.heap.size, q, none⟩ (.int .u8 x)) (some ⟨w.heap.size, 0, none⟩) ((nums s).set q x) :=
  .inr ⟨w.heap.size, 0, rfl, fun i hi => by
    rw [List.length_set, nums_len] at hi
    rw [Nat.zero_add]
    have hz : s.size ≤ (Lib.bytesCells w T s).size := by simp [Lib.bytesCells]
    by_cases hiq : i = q
    · subst hiq
      rw [List.getD_eq_getElem?_getD, List.getElem?_set_self (by rw [nums_len]; exact hi)]
      simp [World.cell?, World.setCell, Array.getElem?_modify, Lib.bytesWorld_at_new]
      rw [Array.getElem?_setIfInBounds_self_of_lt (by omega)]
    · rw [List.getD_eq_getElem?_getD, List.getElem?_set_ne (Ne.symm hiq), ← List.getD_eq_getElem?_getD, nums_get s i hi, ← Lib.bytesWorld_cell w T s i hi]
      simp [World.cell?, World.setCell, Array.getElem?_modify, Lib.bytesWorld_at_new, Ne.symm hiq]⟩
theorem not_key_set (s : ByteArray) (q : Nat) (hq : q < s.size) : ¬ keyAll (strOfNums ((nums s).set q 65)) := by
  apply not_keyAll_of
  rw [strOfNums_data]
  apply Bool.eq_false_iff.2
  intro h
  have hm : (65 : Int) ∈ (nums s).set q 65 := List.mem_set (by rw [nums_len]; exact hq) 65
  have := List.all_eq_true.1 h _ (List.mem_map.2 ⟨65, hm, rfl⟩)
  exact absurd this (by decide)
theorem fErr_long {s : ByteArray} {most : Int} (h1 : 1 ≤ most) (h2 : most ≤ 32) (hk : keyAll s) (h0 : 1 ≤ s.size) (h3 : most < s.size) : fErr s most = 12 := by
  unfold fErr
  rw [if_neg (by omega)]
  by_cases h : s.size ≤ 32
  · rw [if_neg (by rw [kErr_of hk h0 h]; simp), if_pos h3]
  · have : kErr s = 12 := by unfold kErr keyErr; rw [if_pos hk]; repeat (first | rw [if_pos (by omega)] | rw [if_neg (by omega)])
    rw [if_pos (by rw [this]; decide), this]
theorem fErr_bad {s : ByteArray} {most : Int} (h1 : 1 ≤ most) (h2 : most ≤ 32) (hk : ¬ keyAll s) : fErr s most = 2 := by
  have : kErr s = 2 := by unfold kErr; rw [if_neg hk]
  unfold fErr
  rw [if_neg (by omega), if_pos (by rw [this]; decide), this]
theorem fErr_empty {most : Int} (h1 : 1 ≤ most) (h2 : most ≤ 32) : fErr ⟨#[]⟩ most = 2 := by
  have : kErr ⟨#[]⟩ = 2 := by unfold kErr; rw [if_pos (keyAll_of (by decide))]; decide
  unfold fErr
  rw [if_neg (by omega), if_pos (by rw [this]; decide), this]
/-- block g, which stands, begins with the bytes M -/
structure RBl (w : World) (g : Nat) (M : List Int) : Prop where
  lt : g < w.heap.size
  rb : RB w (some ⟨g, 0, none⟩) M
theorem RBl.below {w w' : World} {g B : Nat} {M : List Int} (h : RBl w g M) (hb : Below B w w') (hg : g < B) : RBl w' g M := by
  refine ⟨?_, h.rb.keep hb (fun b off e => by injection e with e; injection e with e; omega)⟩
  exact Nat.lt_of_lt_of_le h.lt hb.size
theorem RBl.conv {w : World} {g n : Nat} {M : List Int} (h : RBl w g M) (hn : M.length = n) (cap : Nat) : (convert 40 9 (.slice (some ⟨g, 0, none⟩) n cap)).run Try.prog w = .ok (.string (strOfNums M)) w := by
  have := conv_any h.rb cap
  rwa [hn] at this
theorem zeros_arr (n : Nat) : zeros n = ((List.replicate n (0 : Int)).map (Value.int .u8)).toArray := rfl

set_option maxHeartbeats 6400000 in
set_option maxRecDepth 100000 in
theorem walk {H : Type} {enc : TypeId × Value → H} (W : World) (base : Nat) {v0 v1 v2 : Value} {d0 d1 d2 : DataW H} {p0 p1 p2 : List MemPlace} (o0 : Value.okWide Try.prog W .any base 34 v0) (h0 : DataW.Trod enc Try.prog W 0 (fun _ => true) true 34 v0 d0 p0) (o1 : Value.okWide Try.prog W .any base 5 v1) (h1 : DataW.Trod enc Try.prog W 0 (fun _ => true) true 5 v1 d1 p1) (o2 : Value.okWide Try.prog W .any base 5 v2) (h2 : DataW.Trod enc Try.prog W 0 (fun _ => true) true 5 v2 d2 p2) :
    Calls Try.prog 7 #[v0, v1, v2] W fun e W' => e = .returned (.bool true) ∧ Below W.heap.size W W' := by
  obtain ⟨re, mo, ke, va, si, rfl, r0, m0, m1, k0, v0, s0, s1⟩ := open_beg o0 h0
  clear o0 h0
  obtain ⟨more, rfl, rfl, rfl, wn⟩ := open_int Try.underlying5 o1 h1
  obtain ⟨at_, rfl, rfl, rfl, ww⟩ := open_int Try.underlying5 o2 h2
  obtain ⟨e0, e1⟩ := bounds_u8 wn
  obtain ⟨f0, f1⟩ := bounds_u8 ww
  clear wn ww o1 h1 o2 h2
  obtain ⟨mn, rfl⟩ : ∃ mn : Nat, more = mn := ⟨more.toNat, by omega⟩
  obtain ⟨an, rfl⟩ : ∃ an : Nat, at_ = an := ⟨at_.toNat, by omega⟩
  go_enter Try.func7, Try.ntmps7
  go_wp2_with fail
  refine (Config_any re mo ke va si _ r0 m0 m1 k0 v0 s0 s1).mono ?_
  rintro e w1 ⟨⟨s, z, r, wk, k, v, p, rfl, hc⟩, hb1⟩
  have hY1 : Below W.heap.size W w1 := b_then (by repeat first | exact Below.refl _ _ | apply Below.drew | apply b_alloc) hb1
  have bel1 := hY1
  clear hb1
  obtain ⟨kn, rfl⟩ : ∃ kn : Nat, k = kn := ⟨k.toNat, by unfold CfgOk at hc; omega⟩
  obtain ⟨vn, rfl⟩ : ∃ vn : Nat, v = vn := ⟨v.toNat, by unfold CfgOk at hc; omega⟩
  have hk1 : (1 : Int) ≤ kn := by unfold CfgOk at hc; omega
  have hk32 : (kn : Int) ≤ 32 := by unfold CfgOk at hc; omega
  have hv512 : (vn : Int) ≤ 512 := by unfold CfgOk at hc; omega
  have hgc : W.heap.size ≤ w1.heap.size := bel1.size
  have hmk := fun w => make_any kn (by omega) w
  go_wp2_with fail
  have hC0 : Blk ((w1.alloc (.cells #[.int .i64 s, .int .i64 z, .int .i64 r, .int .i64 wk, .int .i64 kn, .int .i64 vn, .int .i64 p] 23)).alloc (.cells (zeros kn) 5)) (w1.heap.size) 23 #[.int .i64 s, .int .i64 z, .int .i64 r, .int .i64 wk, .int .i64 kn, .int .i64 vn, .int .i64 p] := (by unfold Blk; repeat (first | ((with_reducible refine alloc_here' ?_); (simp; done)) | (with_reducible apply alloc_old') | (with_reducible apply drew_old)))
  have hG0 : Blk ((w1.alloc (.cells #[.int .i64 s, .int .i64 z, .int .i64 r, .int .i64 wk, .int .i64 kn, .int .i64 vn, .int .i64 p] 23)).alloc (.cells (zeros kn) 5)) (w1.heap.size + 1) 5 (zeros kn) := (by unfold Blk; repeat (first | ((with_reducible refine alloc_here' ?_); (simp; done)) | (with_reducible apply alloc_old') | (with_reducible apply drew_old)))
  have hYs : Below w1.heap.size w1 ((w1.alloc (.cells #[.int .i64 s, .int .i64 z, .int .i64 r, .int .i64 wk, .int .i64 kn, .int .i64 vn, .int .i64 p] 23)).alloc (.cells (zeros kn) 5)) := (by repeat first | exact Below.refl _ _ | apply Below.drew | apply b_alloc)
  generalize (w1.alloc (.cells #[.int .i64 s, .int .i64 z, .int .i64 r, .int .i64 wk, .int .i64 kn, .int .i64 vn, .int .i64 p] 23)).alloc (.cells (zeros kn) 5) = wa at hC0 hG0 hYs ⊢
  have belwa := b_then bel1 hYs
  clear bel1 hYs
  clear hmk
  go_loopw [9] (fun i wr => ∃ (q : Nat) (M : List Int), q ≤ kn ∧ i = .int .i64 q ∧ M.length = kn ∧ (∀ j, j < q → Ky (M.getD j 0)) ∧ Blk wr (w1.heap.size + 1) 5 (M.map (Value.int .u8)).toArray ∧ Blk wr w1.heap.size 23 #[.int .i64 s, .int .i64 z, .int .i64 r, .int .i64 wk, .int .i64 kn, .int .i64 vn, .int .i64 p] ∧ Below W.heap.size W wr) (fun i _ => kn - (intOf i).toNat)
  case atStart => exact ⟨0, List.replicate kn 0, by omega, rfl, by simp, fun j hj => by omega, hG0, hC0, belwa⟩
  case round =>
    obtain ⟨q, M, hq, rfl, hM, hky, hG, hC, hB⟩ := hrel
    clear hG0 hC0 belwa
    have HM := Lib.hid hM
    have HKY := Lib.hid hky
    clear hM hky
    by_cases hqn : q < kn
    · have i0 : (0 : Int) ≤ (q : Int) := by omega
      have i1 : (q : Int) < (kn : Int) := by omega
      have tq : (q : Int).tmod 26 = (q : Int) % 26 := Int.tmod_eq_emod_of_nonneg i0
      have cq : wr.cell? ⟨w1.heap.size + 1, q, none⟩ = some (.int .u8 (M.getD q 0)) := by
        rw [hG.cell q]
        have hql : q < M.length := by rw [HM.out]; exact hqn
        rw [List.getElem?_toArray, List.getElem?_map, List.getElem?_eq_getElem hql, List.getD_eq_getElem?_getD, List.getElem?_eq_getElem hql]
        rfl
      have fq := hG.frozen q
      have uq : IntKind.u8.wrap ((q : Int) % 26) = (q : Int) % 26 := by rw [IntKind.wrap_u8]; omega
      have uq2 : IntKind.u8.wrap (97 + (q : Int) % 26) = 97 + (q : Int) % 26 := by rw [IntKind.wrap_u8]; omega
      have hG2 := hG.set_ q (.int .u8 (97 + (q : Int) % 26))
      rw [arr_set] at hG2
      have hC2 := hC.far (p := ⟨w1.heap.size + 1, q, none⟩) (by show w1.heap.size ≠ w1.heap.size + 1; omega) (.int .u8 (97 + (q : Int) % 26))
      have hB2 := hB.setCell (p := ⟨w1.heap.size + 1, q, none⟩) (by show W.heap.size ≤ w1.heap.size + 1; omega) (.int .u8 (97 + (q : Int) % 26))
      go_wp2
      go_roundw
      case rel =>
        refine ⟨q + 1, M.set q (97 + (q : Int) % 26), by omega, by go_num, by rw [List.length_set]; exact HM.out, ?_, hG2, hC2, hB2⟩
        intro j hj
        by_cases hjq : j = q
        · subst hjq
          rw [List.getD_eq_getElem?_getD, List.getElem?_set_self (by rw [HM.out]; exact hqn)]
          exact ky_letter j
        · rw [List.getD_eq_getElem?_getD, List.getElem?_set_ne (Ne.symm hjq), ← List.getD_eq_getElem?_getD]
          exact HKY.out j (by omega)
      case measure => simp [intOf]; omega
    · have hge : ¬ (q : Int) < (kn : Int) := by omega
      obtain rfl : q = kn := by omega
      have hkA : keyAll (strOfNums M) := keyAll_nums (fun x hx => by
        obtain ⟨i, hi, rfl⟩ := List.getElem_of_mem hx
        have := HKY.out i (by have := HM.out; omega)
        rwa [List.getD_eq_getElem?_getD, List.getElem?_eq_getElem hi] at this)
      have hks : (strOfNums M).size = q := by rw [strOfNums_size]; exact HM.out
      have c1 : (convert 40 9 (.slice (some ⟨w1.heap.size + 1, 0, none⟩) q q)).run Try.prog wr.drew = .ok (.string (strOfNums M)) wr.drew := str_arr hG.drew HM.out q
      have c2 : ∀ o, (convert 40 9 (.slice (some ⟨w1.heap.size + 1, 0, none⟩) q q)).run Try.prog (wr.alloc o).drew = .ok (.string (strOfNums M)) (wr.alloc o).drew := fun o => str_arr (hG.alloc o).drew HM.out q
      have c3 : ∀ w : World, (convert 40 9 (.slice (some ⟨w.heap.size, 0, none⟩) vn vn)).run Try.prog (w.alloc (.cells (zeros vn) 5)).drew = .ok (.string (strOfNums (List.replicate vn 0))) (w.alloc (.cells (zeros vn) 5)).drew := fun w => str_zeros w.drew vn vn
      have hm2 := fun w => make_any vn (by omega) w
      have hzz := size_zeros vn
      generalize strOfNums (List.replicate vn 0) = zz at c3 hzz
      have hm3 : ∀ w : World, (Instr.makeSlice 40 (.int .i64 ((vn : Int) + 1 + (mn : Int))) (.int .i64 ((vn : Int) + 1 + (mn : Int)))).run Try.prog w = .ok (.slice (some ⟨w.heap.size, 0, none⟩) (vn + 1 + mn) (vn + 1 + mn)) (w.alloc (.cells (zeros (vn + 1 + mn)) 5)) := fun w => by
        have := make_any (vn + 1 + mn) (by omega) w
        rwa [show ((vn + 1 + mn : Nat) : Int) = (vn : Int) + 1 + (mn : Int) by push_cast; rfl] at this
      have c4 : (convert 40 9 (.slice (some ⟨wr.heap.size + 1, 0, none⟩) (vn + 1 + mn) (vn + 1 + mn))).run Try.prog (((wr.alloc (.cells (zeros vn) 5)).alloc (.cells (zeros (vn + 1 + mn)) 5)).drew) = .ok (.string (strOfNums (List.replicate (vn + 1 + mn) 0))) (((wr.alloc (.cells (zeros vn) 5)).alloc (.cells (zeros (vn + 1 + mn)) 5)).drew) := by
        have := str_zeros (wr.alloc (.cells (zeros vn) 5)).drew (vn + 1 + mn) (vn + 1 + mn)
        rw [show ((wr.alloc (.cells (zeros vn) 5)).drew).heap.size = wr.heap.size + 1 by simp] at this
        exact this
      have hff := size_zeros (vn + 1 + mn)
      generalize strOfNums (List.replicate (vn + 1 + mn) 0) = far at c4 hff
      generalize strOfNums M = ks at c1 c2 hkA hks
      have HZ := Lib.hid hzz
      have HF := Lib.hid hff
      have HS := Lib.hid hks
      have HA := Lib.hid hkA
      clear hzz hks hkA HM HKY hff
      have cC := hC.cell
      have lC := hC.lt
      have hrw := hB.size
      go_wp2_with fail
      go_region
      all_goals clear c1 c2 c3 hm2
      go_wp2_with fail
      have hYs : Below wr.heap.size wr (((wr.alloc (.cells (zeros vn) 5)).alloc (.cells (zeros (vn + 1 + mn)) 5)).drew) := (by repeat first | exact Below.refl _ _ | apply Below.drew | apply b_alloc)
      generalize ((wr.alloc (.cells (zeros vn) 5)).alloc (.cells (zeros (vn + 1 + mn)) 5)).drew = wb at hYs ⊢
      have hCs := hC.below hYs hC.lt
      have hGs := hG.below hYs hG.lt
      have belwb := b_then hB hYs
      clear hC hG hB hYs
      clear hm3 c4 cC lC hrw
      obtain ⟨lr, hr⟩ : ∃ lr : Nat, (mn : Int) % 40 = lr := ⟨((mn : Int) % 40).toNat, by omega⟩
      have hr40 : lr < 40 := by omega
      have ur1 : IntKind.u8.wrap (lr : Int) = (lr : Int) := by rw [IntKind.wrap_u8]; omega
      have ur2 : IntKind.i64.wrap (lr : Int) = (lr : Int) := iw64 (by omega) (by omega)
      have tr : (mn : Int).tmod 40 = (lr : Int) := by rw [Int.tmod_eq_emod_of_nonneg (by omega), hr]
      clear hr
      have ks1 : ks.size ≤ maxLen := by rw [HS.out]; unfold maxLen; omega
      have zz1 : zz.size ≤ maxLen := by rw [HZ.out]; unfold maxLen; omega
      have far1 : far.size ≤ maxLen := by rw [HF.out]; unfold maxLen; omega
      have zz2 : (zz.size : Int) ≤ (vn : Int) := by rw [HZ.out]; omega
      have far2 : (vn : Int) < (far.size : Int) := by rw [HF.out]; omega
      have fk : fErr ks (q : Int) = 0 := fErr_of hk1 hk32 (kErr_of HA.out (by rw [HS.out]; omega) (by rw [HS.out]; omega)) (by rw [HS.out]; omega)
      have fe : fErr ⟨#[]⟩ (q : Int) = 2 := fErr_empty hk1 hk32
      have FK := Lib.hid fk
      have FE := Lib.hid fe
      have Z2 := Lib.hid zz2
      have F2 := Lib.hid far2
      have K1 := Lib.hid ks1
      have Z1 := Lib.hid zz1
      have F1 := Lib.hid far1
      have HC := Lib.hid hc
      clear fk fe zz2 far2 ks1 zz1 far1 hc
      go_loopw [13, 14] (fun v i wr => ∃ (j : Nat) (L : ByteArray), j ≤ lr + 1 ∧ v = .string L ∧ i = .int .i64 j ∧ keyAll L ∧ L.size = q + j ∧ wr = wb) (fun _ i _ => lr + 1 - (intOf i).toNat)
      case atStart => exact ⟨0, ks, by omega, rfl, rfl, HA.out, by rw [HS.out]; rfl, rfl⟩
      case round =>
        obtain ⟨j, L, hj, rfl, rfl, hLA, hLS, rfl⟩ := hrel
        have HLA := Lib.hid hLA
        have HLS := Lib.hid hLS
        clear hLA hLS
        by_cases hjr : j ≤ lr
        · have hjr' : (j : Int) ≤ (lr : Int) := by omega
          have hcat : ¬ (9223372036854775807 : Nat) < L.size + 1 := by rw [HLS.out]; omega
          go_wp2
          go_roundw
          case rel =>
            refine ⟨j + 1, L ++ ⟨#[122]⟩, by omega, rfl, by go_num, keyAll_app HLA.out (keyAll_of (by decide)), by rw [ByteArray.size_append, HLS.out]; rfl, trivial⟩
          case measure => simp [intOf]; omega
        · have hjr' : ¬ (j : Int) ≤ (lr : Int) := by omega
          have hL1 : (q : Int) < (L.size : Int) := by rw [HLS.out]; omega
          have hL2 : L.size ≤ 1000 := by rw [HLS.out]; omega
          obtain ⟨x, hx⟩ : ∃ x : Nat, (an : Int) % (L.size : Int) = x := ⟨((an : Int) % (L.size : Int)).toNat, by have := Int.emod_nonneg (an : Int) (show (L.size : Int) ≠ 0 by omega); omega⟩
          have hxl : x < L.size := by have := Int.emod_lt_of_pos (an : Int) (show 0 < (L.size : Int) by omega); omega
          have tx : (an : Int).tmod (L.size : Int) = (x : Int) := by rw [Int.tmod_eq_emod_of_nonneg (by omega), hx]
          clear hx
          have x0 : (0 : Int) ≤ (x : Int) := by omega
          have x1 : (x : Int) < (L.size : Int) := by omega
          have ux : IntKind.i64.wrap (x : Int) = (x : Int) := iw64 (by omega) (by omega)
          have ul : IntKind.i64.wrap (L.size : Int) = (L.size : Int) := iw64 (by omega) (by omega)
          have ua : IntKind.i64.wrap (an : Int) = (an : Int) := iw64 (by omega) (by omega)
          have hl0 : ((L.size : Int) == 0) = false := by rw [beq_eq_false_iff_ne]; omega
          have hl0' : ¬ (L.size : Int) = 0 := by omega
          have hl0n : ¬ L.size = 0 := by omega
          have fl : fErr L (q : Int) = 12 := fErr_long hk1 hk32 HLA.out (by omega) hL1
          have hcv := Lib.run_convert_string_bytes (P := Try.prog) wr 9 40 5 L Try.underlying9 Try.underlying40 Try.underlying5
          have cx := Lib.bytesWorld_cell wr 5 L x hxl
          have fx := bytes_frozen wr 5 L x hxl
          have rS := rb_bytes_set wr 5 L x 65 hxl
          have hBs := (below_bytes wr 5 L).setCell (p := ⟨wr.heap.size, x, none⟩) (Nat.le_refl _) (.int .u8 65)
          have nk := not_key_set L x hxl
          have nl : ((nums L).set x 65).length = L.size := by rw [List.length_set, nums_len]
          have hsz3 := Lib.bytesWorld_size wr 5 L
          have hLx : wr.heap.size < ((Lib.bytesWorld wr 5 L).setCell ⟨wr.heap.size, x, none⟩ (.int .u8 65)).heap.size := by simp [World.setCell, hsz3]
          generalize Lib.bytesWorld wr 5 L = wc at hcv cx fx rS hBs hLx hsz3
          generalize grownCap wr L.size 0 5 = cap at hcv
          generalize (nums L).set x 65 = bl at rS nk nl
          have fb : fErr (strOfNums bl) (q : Int) = 2 := fErr_bad hk1 hk32 nk
          have mb : (strOfNums bl).size ≤ maxLen := by rw [strOfNums_size, nl]; unfold maxLen; omega
          have ml : L.size ≤ maxLen := by unfold maxLen; omega
          have FL := Lib.hid fl
          have FB := Lib.hid fb
          have MB := Lib.hid mb
          have ML := Lib.hid ml
          have NL := Lib.hid nl
          clear fl fb nk mb ml nl hsz3
          have hBd := b_then belwb hBs
          have hCd := hCs.below hBs hCs.lt
          have cC := hCd.cell
          have lC := hCs.lt
          go_wp2_with fail
          generalize wc.setCell ⟨wr.heap.size, x, none⟩ (.int .u8 65) = wd at rS hBs hLx hBd hCd cC ⊢
          have hRd : RBl wd wr.heap.size bl := ⟨hLx, rS⟩
          clear belwb hBs hCs rS hLx hcv cx fx lC
          refine (Check_at (key := ks) (val := zz) (aChk_of HC.out FK.out Z2.out) _ K1.out Z1.out).mono ?_
          rintro e w1 ⟨rfl, hb1⟩
          have hY1 : Below wd.heap.size wd w1 := b_then (by repeat first | exact Below.refl _ _ | apply Below.drew | apply b_alloc) hb1
          have hC1 := hCd.below hY1 hCd.lt
          have hR1 := hRd.below hY1 hRd.lt
          have bel1 := b_then hBd hY1
          clear hCd hRd hBd hb1 cC hY1
          have cC := hC1.cell
          have lC := hC1.lt
          go_wp2_with fail
          refine (Check_at (key := ks) (val := far) (aChk_v HC.out FK.out F2.out) _ K1.out F1.out).mono ?_
          rintro e w2 ⟨rfl, hb2⟩
          have hY2 : Below w1.heap.size w1 w2 := b_then (by repeat first | exact Below.refl _ _ | apply Below.drew | apply b_alloc) hb2
          have hC2 := hC1.below hY2 hC1.lt
          have hR2 := hR1.below hY2 hR1.lt
          have bel2 := b_then bel1 hY2
          clear hC1 hR1 bel1 hb2 cC lC hY2
          have cC := hC2.cell
          have lC := hC2.lt
          go_wp2_with fail
          refine (Check_at (key := L) (val := zz) (aChk_f HC.out FL.out (by decide)) _ ML.out Z1.out).mono ?_
          rintro e w3 ⟨rfl, hb3⟩
          have hY3 : Below w2.heap.size w2 w3 := b_then (by repeat first | exact Below.refl _ _ | apply Below.drew | apply b_alloc) hb3
          have hC3 := hC2.below hY3 hC2.lt
          have hR3 := hR2.below hY3 hR2.lt
          have bel3 := b_then bel2 hY3
          clear hC2 hR2 bel2 hb3 cC lC hY3
          have cC := hC3.cell
          have lC := hC3.lt
          go_wp2_with fail
          refine (Check_at (key := L) (val := far) (aChk_f HC.out FL.out (by decide)) _ ML.out F1.out).mono ?_
          rintro e w4 ⟨rfl, hb4⟩
          have hY4 : Below w3.heap.size w3 w4 := b_then (by repeat first | exact Below.refl _ _ | apply Below.drew | apply b_alloc) hb4
          have hC4 := hC3.below hY4 hC3.lt
          have hR4 := hR3.below hY4 hR3.lt
          have bel4 := b_then bel3 hY4
          clear hC3 hR3 bel3 hb4 cC lC hY4
          have cC := hC4.cell
          have lC := hC4.lt
          have cv := (hR4).conv NL.out cap
          go_wp2_with fail
          refine (Check_at (key := strOfNums bl) (val := far) (aChk_f HC.out FB.out (by decide)) _ MB.out F1.out).mono ?_
          rintro e w5 ⟨rfl, hb5⟩
          have hY5 : Below w4.heap.size w4 w5 := b_then (by repeat first | exact Below.refl _ _ | apply Below.drew | apply b_alloc) hb5
          have hC5 := hC4.below hY5 hC4.lt
          have hR5 := hR4.below hY5 hR4.lt
          have bel5 := b_then bel4 hY5
          clear hC4 hR4 bel4 hb5 cC lC hY5
          have cC := hC5.cell
          have lC := hC5.lt
          clear cv
          go_wp2_with fail
          refine (Check_at (key := ⟨#[]⟩) (val := zz) (aChk_f HC.out FE.out (by decide)) _ (by decide) Z1.out).mono ?_
          rintro e w6 ⟨rfl, hb6⟩
          have hY6 : Below w5.heap.size w5 w6 := b_then (by repeat first | exact Below.refl _ _ | apply Below.drew | apply b_alloc) hb6
          have hC6 := hC5.below hY6 hC5.lt
          have hR6 := hR5.below hY6 hR5.lt
          have bel6 := b_then bel5 hY6
          clear hC5 hR5 bel5 hb6 cC lC hY6
          have cC := hC6.cell
          have lC := hC6.lt
          go_wp2_with fail
          refine (Put_at (cost := -1) (old := -1) (key := L) (val := zz) (aPut_e (aChk_f HC.out FL.out (by decide)) (by decide)) _ ML.out Z1.out).mono ?_
          rintro e w7 ⟨rfl, hb7⟩
          have hY7 : Below w6.heap.size w6 w7 := b_then (by repeat first | exact Below.refl _ _ | apply Below.drew | apply b_alloc) hb7
          have hC7 := hC6.below hY7 hC6.lt
          have hR7 := hR6.below hY7 hR6.lt
          have bel7 := b_then bel6 hY7
          clear hC6 hR6 bel6 hb7 cC lC hY7
          have cC := hC7.cell
          have lC := hC7.lt
          have cv := (hR7).conv NL.out cap
          go_wp2_with fail
          refine (Put_at (cost := -1) (old := 0) (key := strOfNums bl) (val := zz) (aPut_e (aChk_f HC.out FB.out (by decide)) (by decide)) _ MB.out Z1.out).mono ?_
          rintro e w8 ⟨rfl, hb8⟩
          have hY8 : Below w7.heap.size w7 w8 := b_then (by repeat first | exact Below.refl _ _ | apply Below.drew | apply b_alloc) hb8
          have hC8 := hC7.below hY8 hC7.lt
          have hR8 := hR7.below hY8 hR7.lt
          have bel8 := b_then bel7 hY8
          clear hC7 hR7 bel7 hb8 cC lC hY8
          have cC := hC8.cell
          have lC := hC8.lt
          clear cv
          go_wp2_with fail
          refine (Put_at (cost := -1) (old := 0) (key := ks) (val := far) (aPut_e (aChk_v HC.out FK.out F2.out) (by decide)) _ K1.out F1.out).mono ?_
          rintro e w9 ⟨rfl, hb9⟩
          have hY9 : Below w8.heap.size w8 w9 := b_then (by repeat first | exact Below.refl _ _ | apply Below.drew | apply b_alloc) hb9
          have hC9 := hC8.below hY9 hC8.lt
          have hR9 := hR8.below hY9 hR8.lt
          have bel9 := b_then bel8 hY9
          clear hC8 hR8 bel8 hb9 cC lC hY9
          have cC := hC9.cell
          have lC := hC9.lt
          go_wp2_with fail
          refine (Put_at (cost := -1) (old := 0) (key := ks) (val := zz) (aPut_n (aChk_of HC.out FK.out Z2.out) (by omega)) _ K1.out Z1.out).mono ?_
          rintro e w10 ⟨rfl, hb10⟩
          have hY10 : Below w9.heap.size w9 w10 := b_then (by repeat first | exact Below.refl _ _ | apply Below.drew | apply b_alloc) hb10
          have hC10 := hC9.below hY10 hC9.lt
          have hR10 := hR9.below hY10 hR9.lt
          have bel10 := b_then bel9 hY10
          clear hC9 hR9 bel9 hb10 cC lC hY10
          have cC := hC10.cell
          have lC := hC10.lt
          go_wp2_with fail
          refine (FK.out ▸ fits_any ks (q : Int) K1.out _).mono ?_
          rintro e w11 ⟨rfl, hb11⟩
          have hY11 : Below w10.heap.size w10 w11 := b_then (by repeat first | exact Below.refl _ _ | apply Below.drew | apply b_alloc) hb11
          have hC11 := hC10.below hY11 hC10.lt
          have hR11 := hR10.below hY11 hR10.lt
          have bel11 := b_then bel10 hY11
          clear hC10 hR10 bel10 hb11 cC lC hY11
          have cC := hC11.cell
          have lC := hC11.lt
          go_wp2_with fail
          refine (works_true _).mono ?_
          rintro e w12 ⟨rfl, hb12⟩
          have hY12 : Below w11.heap.size w11 w12 := b_then (by repeat first | exact Below.refl _ _ | apply Below.drew | apply b_alloc) hb12
          have hC12 := hC11.below hY12 hC11.lt
          have hR12 := hR11.below hY12 hR11.lt
          have bel12 := b_then bel11 hY12
          clear hC11 hR11 bel11 hb12 cC lC hY12
          have cC := hC12.cell
          have lC := hC12.lt
          go_wp2_with fail
          go_ret
          exact ⟨rfl, bel12⟩

set_option maxRecDepth 100000 in
theorem lifted (os : Os) (started : os.Started) (H : Type) (enc : TypeId × Value → H) :
    ReturnsInHanded {} Try.checked os 7 .any (Rows.admissionLargeSpec.pre6 enc Try.prog Try.f7 Rows.admissionLargeRow.domain false) (Rows.admissionLargeSpec.post enc Try.prog Try.f7 false true false false) := by
  refine returnsInHanded_of_change (C := Try.checked) own started (by kernel_rfl) Try.func7
    (ChangeSpec.witness6 (enc := enc) (C := Try.checked) false ⟨#[], #[.agg #[.int .u8 0, .int .u8 0, .int .u8 0, .int .u16 0, .int .u16 0], .int .u8 0, .int .u8 0], []⟩ 8 (by kernel_rfl) (by kernel_rfl) (by kernel_rfl) (by kernel_rfl)) ?_
  intro W base args ds gs before hval0 hW hcnd _
  have hval : ∀ (j : Nat) t v, Try.f7.params[j]? = some t → args[j]? = some v → Value.okWide Try.prog W .any base t v := hval0
  have hW' := hW
  obtain ⟨p, q, hA0, hV, rfl, hfz, hnd⟩ := hW
  have hA : DataW.TrodAll enc Try.prog W 0 (fun _ => true) true Try.f7.params.toList args.toList ds p := hA0
  rw [Try.params7] at hA hval
  obtain ⟨v0, vs0, d0, ds0, p0, q0, hargs, rfl, rfl, h0, r0⟩ := trodAll_cons hA
  obtain ⟨v1, vs1, d1, ds1, p1, q1, rfl, rfl, rfl, h1, r1⟩ := trodAll_cons r0
  obtain ⟨v2, vs2, d2, ds2, p2, q2, rfl, rfl, rfl, h2, r2⟩ := trodAll_cons r1
  obtain ⟨rfl, rfl, rfl⟩ := trodAll_nil r2
  obtain rfl : args = #[v0, v1, v2] := by cases args; simp_all
  obtain ⟨rfl, rfl⟩ := trodVars_none hV
  refine (walk (H := H) (enc := enc) W base (hval 0 34 v0 rfl rfl) h0 (hval 1 5 v1 rfl rfl) h1 (hval 2 5 v2 rfl rfl) h2).mono fun e W' ⟨he, bel⟩ => ?_
  subst he
  exact ⟨_, rfl, _, _, _, [], _, [], hW', trodAll_mk1 (shut_bool Try.underlying4 _), (trodAll_cons_mk (Below.trod laidOut (by kernel_rfl) (of_decide_eq_true (by kernel_rfl)) h0 bel (lt_of_Trod h0)) (trodAll_cons_mk (Below.trod laidOut (by kernel_rfl) (of_decide_eq_true (by kernel_rfl)) h1 bel (lt_of_Trod h1)) (trodAll_cons_mk (Below.trod laidOut (by kernel_rfl) (of_decide_eq_true (by kernel_rfl)) h2 bel (lt_of_Trod h2)) trodAll_mk0))), rfl, bel.frame _, fun h => by cases h⟩

/-- AdmissionLarge: for every configuration by numbers and two numbers the law returns true and changes nothing. No condition. -/
theorem proved : Rows.AdmissionLargeSaid :=
  OpenClaim.holds_of_wide 7 Try.f7 rfl rfl rfl rfl rfl rfl rfl ⟨rfl, rfl, rfl, rfl, rfl⟩ rfl rfl rfl rfl rfl (by kernel_rfl) Try.func7 (by kernel_rfl)
    (of_decide_eq_true (by kernel_rfl)) (by unfold Func.isWrapper; first | (rw [if_pos (by decide +kernel)]; kernel_rfl) | (rw [if_neg (by decide +kernel)]; exact ⟨rfl, rfl⟩))
    (fun os started H enc _ => lifted os started H enc)
#print axioms proved
end Go.Proofs.Ytkicciinneffcaa.admissionLarge
