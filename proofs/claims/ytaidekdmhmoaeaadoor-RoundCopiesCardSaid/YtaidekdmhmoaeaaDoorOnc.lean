/-
  The law's helpers: members, ordered; slices.Concat at two slices of ints.
-/
import Derived.Test.YtaidekdmhmoaeaaDoorWks
import Derived.Test.YtaidekdmhmoaeaaDoorCln
import Derived.Test.YtaidekdmhmoaeaaDoorDel
import Derived.Test.YtaidekdmhmoaeaaDoorOnm
import Derived.Lib.AppendZerosOnto
namespace Go.Proofs.YtaidekdmhmoaeaaDoor.On
open Go.RowKit Bt
open Rd (ints inn Tab Got1 left_any RS)
open Rr (low low_succ low_len low_all)
open Pr (cl_in Reads.of_ri)
set_option linter.unusedVariables false
set_option linter.unusedSimpArgs false
theorem low_mod (s S : Nat) : low s (S % 2 ^ s) = low s S := by
  unfold low
  apply List.filter_congr
  intro i hi
  rw [List.mem_range] at hi
  rw [Nat.testBit_mod_two_pow]
  simp [hi]
theorem low_slots (s S : Nat) (hs : s ≤ 32) : low s S = slots (S % 2 ^ s) := by
  rw [← low_mod, low_all hs (Nat.mod_lt _ (Nat.pow_pos (by omega)))]
/-- what a slice of ints holds -/
structure InS (w : World) (A : Option Addr) (n c : Nat) (xs : List Int) : Prop where
  len : xs.length = n
  ri : RI w A (xs.map (Value.int .i64))
  nil : A = none → n = 0 ∧ c = 0
  nc : n ≤ c
  cm : c ≤ maxLen
theorem InS.of_own {w : World} {B n c : Nat} {A : Option Addr} {xs : List Int} (h : w.ownsRow B 3 1 (.slice A n c) n (xs.map (Value.int .i64))) : InS w A n c xs := by
  obtain ⟨_, h2, h3⟩ := own_cap h
  refine ⟨by have := h.1; simpa using this, RI.of_row h, ?_, h2, h3⟩
  rintro rfl
  rcases own_shape h with ⟨_, h4, h5, _⟩ | ⟨g, h4, _⟩
  · exact ⟨h4, h5⟩
  · cases h4
theorem InS.later {w w' : World} {A : Option Addr} {n c : Nat} {xs : List Int} (h : InS w A n c xs) (hb : Below w.heap.size w w') : InS w' A n c xs := ⟨h.len, h.ri.later hb, h.nil, h.nc, h.cm⟩
set_option maxHeartbeats 1600000 in
theorem mem_low (S s : Nat) (w : World) (hs : s ≤ 32) (hS : S < 2 ^ 32) : Calls Tryd.prog 20 #[.int .u32 S, .int .i64 s] w (Got1 w (low s S).length (ints (low s S))) := by
  obtain ⟨i0, hi0, hz0, hz1, hz2⟩ := info_parts Rd.info
  have HS := Lib.hid hS
  have y1 : S ≤ 4294967295 := by omega
  clear hS
  go_enter Tryd.func20, Tryd.ntmps20
  go_wp2_with fail
  go_loopw [5, 8] (fun v i wr => ∃ (k n : Nat) (A : Option Addr) (c : Nat), k ≤ s ∧ i = .int .i64 k ∧ v = .slice A n c ∧ n = (low k S).length ∧ wr.ownsRow w.heap.size 3 1 (.slice A n c) n ((ints (low k S)).map (Value.int .i64)) ∧ Below w.heap.size w wr) (fun _ i _ => s - (intOf i).toNat)
  case atStart => exact ⟨0, 0, none, 0, Nat.zero_le _, rfl, rfl, rfl, World.ownsRow_nil _ _ _ _, Below.refl _ _⟩
  case round =>
    obtain ⟨k, n, A, c, hk, rfl, rfl, hn, ho, hB⟩ := hrel
    have hnk : n ≤ k := by rw [hn]; exact low_len k S
    have HN := Lib.hid hn
    clear hn
    by_cases hlt : k < s
    · have z1 : (k : Int) < (s : Int) := by omega
      have z2 : (0 : Int) ≤ (k : Int) := by omega
      have z3 : (k : Int) ≤ 31 := by omega
      have hsu := low_succ k S
      have hbit := Rd.has_bit S k HS.out
      cases hb : S.testBit k with
      | false =>
        rw [hb] at hbit hsu
        have HSU := Lib.hid hsu
        clear hsu hb
        go_wp2_with fail
        go_roundw
        case rel => exact ⟨k + 1, n, A, c, by omega, by go_num, rfl, by rw [HSU.out]; exact HN.out, by rw [HSU.out]; exact ho, hB⟩
        case measure => simp [intOf]; omega
      | true =>
        rw [hb] at hbit hsu
        rw [if_pos rfl] at hsu
        have HSU := Lib.hid hsu
        have hB2 := b_alloc hB (.cells #[.int .i64 k] 3)
        have o2 := own_later ho (b_alloc (Below.refl _ wr) (.cells #[.int .i64 k] 3))
        have hrd := Reads.one wr 3 (.int .i64 k)
        have k4 : ∀ u ∈ [Value.int .i64 k], u.oneCell' = true := by intro u hu; simp at hu; subst hu; rfl
        have k5 : n + 1 ≤ maxLen := by unfold maxLen; omega
        have k6 : (n + 1) * 8 ≤ 140737488355328 := by omega
        have k7 := hB2.size
        clear hsu hb
        go_wp2_with (first
          | (at_builtin; refine wpList_append_any _ rfl (.tmp 16) (.tmp 18) _ rfl w.heap.size 3 i0 _ 1 8 Tryd.underlying22 hi0 hz0 hz1 hz2 rfl (by omega) _ n _ rfl o2 _ _ 1 1 _ rfl hrd k4 k5 k6 k7 ?_; intro v7 w7 o7 hg7 hat7; obtain ⟨g7, cap7, rfl, _, _⟩ := own_head o7; have hB7 := hB2.grown hg7 k7 (fun k hk => (World.ownsRow.lt o2 k hk).1); clear hg7 hat7 o2 ho))
        go_roundw
        case rel => exact ⟨k + 1, n + 1, _, cap7, by omega, by go_num, rfl, by rw [HSU.out, List.length_append, HN.out]; rfl, by
          rw [HSU.out]
          have e : (ints (low k S ++ [k])).map (Value.int .i64) = (ints (low k S)).map (Value.int .i64) ++ [Value.int .i64 k] := by simp [ints]
          rw [e]
          exact o7, hB7⟩
        case measure => simp [intOf]; omega
    · obtain rfl : k = s := by omega
      go_wp2_with fail
      go_ret
      have e1 : n = (low k S).length := HN.out
      subst e1
      exact ⟨⟨A, c, rfl, ho⟩, hB⟩
/-- members: the slots of the set's bits below s -/
theorem mem_any (S s : Nat) (w : World) (hs : s ≤ 32) (hS : S < 2 ^ 32) : Calls Tryd.prog 20 #[.int .u32 S, .int .i64 s] w (Got1 w (slots (S % 2 ^ s)).length (ints (slots (S % 2 ^ s)))) := by
  rw [← low_slots s S hs]
  exact mem_low S s w hs hS
/-- a row of the call's own that is some order of xs -/
def Ord (w : World) (n : Nat) (xs : List Int) (e : Ending) (w' : World) : Prop := (∃ (A : Option Addr) (c : Nat) (ys : List Int), ys.Perm xs ∧ e = .returned (.slice A n c) ∧ w'.ownsRow w.heap.size 3 1 (.slice A n c) n (ys.map (Value.int .i64))) ∧ Below w.heap.size w w'
def lenOf : Value → Nat
  | .slice _ n _ => n
  | _ => 0
theorem perm_step {os rs xs : List Int} {k : Nat} {x : Int} (h : (os ++ rs).Perm xs) (hx : rs[k]? = some x) : ((os ++ [x]) ++ (rs.take k ++ rs.drop (k + 1))).Perm xs := by
  have hk := (List.getElem?_eq_some_iff.1 hx).1
  have e : rs = rs.take k ++ x :: rs.drop (k + 1) := by
    have h1 := (List.take_append_drop k rs).symm
    rw [List.drop_eq_getElem_cons hk] at h1
    rw [(List.getElem?_eq_some_iff.1 hx).2] at h1
    exact h1
  have h2 : ((os ++ [x]) ++ (rs.take k ++ rs.drop (k + 1))).Perm (os ++ (rs.take k ++ x :: rs.drop (k + 1))) := by
    rw [List.append_assoc]
    refine List.Perm.append_left os ?_
    exact (List.perm_middle (a := x) (l₁ := rs.take k) (l₂ := rs.drop (k + 1))).symm
  rw [← e] at h2
  exact h2.trans h
theorem u64_nonneg (z : Int) : 0 ≤ IntKind.u64.wrap z := by rw [IntKind.wrap_u64]; omega
/-- append at one row: the other row stays, and the two stay apart -/
theorem two_rows {w w' : World} {B : Nat} {e : TypeId} {m cr : Nat} {g : Nat} {rs : List Value} {A : Option Addr} {q c g7 n7 c7 : Nat} (h : w.ownsRow B e 1 (.slice (some ⟨g, 0, none⟩) m cr) m rs) (hg : w.grownBy w' (Value.slice A q c).ownBlock) (hat : (Value.slice (some ⟨g7, 0, none⟩) n7 c7).ownBlock = (Value.slice A q c).ownBlock ∨ (Value.slice (some ⟨g7, 0, none⟩) n7 c7).ownBlock = some w.heap.size) (hne : rowOf A ≠ some g) (hlt : g < w.heap.size) :
    w'.ownsRow B e 1 (.slice (some ⟨g, 0, none⟩) m cr) m rs ∧ g7 ≠ g := by
  rw [rowOf_own] at hg
  refine ⟨own_kept h fun j hj => hg.block j (own_row h j hj).2 (fun e => hne (e.symm.trans hj.symm)), ?_⟩
  rw [rowOf_own, rowOf_own] at hat
  rintro rfl
  rcases hat with hat | hat
  · exact hne hat.symm
  · injection hat with hat
    have hat : g7 = w.heap.size := hat
    omega
set_option maxHeartbeats 3200000 in
set_option maxRecDepth 100000 in
theorem ord_any (A : Option Addr) (n c : Nat) (xs : List Int) (b : Int) (w : World) (hI : InS w A n c xs) (hn : n ≤ 1000) (hb0 : 0 ≤ b) : Calls Tryd.prog 22 #[.slice A n c, .int .u64 b] w (Ord w n xs) := by
  obtain ⟨i0, hi0, hz0, hz1, hz2⟩ := info_parts Rd.info
  have hcl := cl_in A n c xs w hI.ri hI.len hI.nil (by omega) hI.nc hI.cm
  have hlx := hI.len
  have HLX := Lib.hid hlx
  clear hI hlx
  go_enter Tryd.func22, Tryd.ntmps22
  go_wp2_with fail
  refine hcl.mono ?_
  rintro e w1 ⟨⟨A1, c1, rfl, o1⟩, hb1⟩
  clear hcl
  go_wp2_with fail
  have oE : (w1.alloc (.cells #[] 3)).ownsRow w.heap.size 3 1 (.slice (some ⟨w1.heap.size, 0, none⟩) 0 0) 0 [] := World.ownsRow_lit w1 #[] 0 hb1.size (by unfold maxLen; omega) rfl
  have o2 := own_later o1 (b_alloc (Below.refl _ w1) (.cells #[] 3))
  have hB2 := b_alloc hb1 (.cells #[] 3)
  have hfar : rowOf A1 = none ∨ rowOf A1 ≠ some w1.heap.size := .inr (fun e => by have := (own_row o1 _ e).2; omega)
  obtain ⟨E, hE⟩ : ∃ E, E = w1.heap.size := ⟨_, rfl⟩
  rw [← hE] at oE hfar ⊢
  generalize w1.alloc (.cells #[] 3) = w2 at oE o2 hB2 ⊢
  clear o1 hb1 hE
  go_loopw [1, 5, 6] (fun vb vr vo wr => ∃ (b : Int) (m q : Nat) (Ar Ao : Option Addr) (cr co : Nat) (rs os : List Int), 0 ≤ b ∧ vb = .int .u64 b ∧ vr = .slice Ar m cr ∧ vo = .slice Ao q co ∧ wr.ownsRow w.heap.size 3 1 (.slice Ar m cr) m (rs.map (Value.int .i64)) ∧ wr.ownsRow w.heap.size 3 1 (.slice Ao q co) q (os.map (Value.int .i64)) ∧ (rowOf Ar = none ∨ rowOf Ar ≠ rowOf Ao) ∧ (os ++ rs).Perm xs ∧ q + m = n ∧ Below w.heap.size w wr) (fun _ vr _ _ => lenOf vr)
  case atStart => exact ⟨b, n, 0, A1, some ⟨E, 0, none⟩, c1, 0, xs, [], hb0, rfl, rfl, rfl, o2, oE, hfar, List.Perm.refl _, by omega, hB2⟩
  case round =>
    clear oE o2 hB2 hfar
    obtain ⟨b, m, q, Ar, Ao, cr, co, rs, os, hb0, rfl, rfl, rfl, oR, oO, hfar, hperm, hqm, hB⟩ := hrel
    have HQM := Lib.hid hqm
    have hq1 : q + m ≤ n := by omega
    have hq2 : n ≤ q + m := by omega
    clear hqm
    by_cases hlt : 0 < m
    · have z1 : (0 : Int) < (m : Int) := by omega
      have z2 : IntKind.u64.wrap (m : Int) = (m : Int) := by rw [IntKind.wrap_u64]; omega
      obtain ⟨k, hk⟩ : ∃ k : Nat, b % (m : Int) = (k : Int) := ⟨(b % (m : Int)).toNat, by have := Int.emod_nonneg b (show (m : Int) ≠ 0 by omega); omega⟩
      have z3 : (k : Int) < (m : Int) := by have := Int.emod_lt_of_pos b z1; omega
      have z4 : (0 : Int) ≤ (k : Int) := by omega
      have hlr : rs.length = m := by have := oR.1; simpa using this
      obtain ⟨x, hx⟩ : ∃ x, rs[k]? = some x := ⟨_, List.getElem?_eq_getElem (by omega)⟩
      obtain ⟨g, rfl, hg1, hg2, cc, _⟩ := own_at oR (i := k) (u := .int .i64 x) (by rw [List.getElem?_map, hx]; rfl)
      have HP := Lib.hid (perm_step hperm hx)
      have hne : rowOf Ao ≠ some g := by
        rcases hfar with h | h
        · cases h
        · exact fun e => h e.symm
      have hB3 := b_alloc hB (.cells #[.int .i64 x] 3)
      have oO3 := own_later oO (b_alloc (Below.refl _ wr) (.cells #[.int .i64 x] 3))
      have oR3 := own_later oR (b_alloc (Below.refl _ wr) (.cells #[.int .i64 x] 3))
      have hrd := Reads.one wr 3 (.int .i64 x)
      have k4 : ∀ u ∈ [Value.int .i64 x], u.oneCell' = true := by intro u hu; simp at hu; subst hu; rfl
      have k5 : q + 1 ≤ maxLen := by unfold maxLen; omega
      have k6 : (q + 1) * 8 ≤ 140737488355328 := by omega
      have k7 := hB3.size
      have HNE := Lib.hid hne
      clear hperm hx oR oO hfar hlr hne
      go_wp2_with (first
        | (at_builtin; refine wpList_append_any _ rfl (.tmp 20) (.tmp 25) _ rfl w.heap.size 3 i0 _ 1 8 Tryd.underlying22 hi0 hz0 hz1 hz2 rfl (by omega) _ q _ rfl oO3 _ _ 1 1 _ rfl hrd k4 k5 k6 k7 ?_; intro v7 w7 o7 hg7 hat7; obtain ⟨g7, cap7, rfl, hb7, hl7⟩ := own_head o7; have hB7 := hB3.grown hg7 k7 (fun k hk => (World.ownsRow.lt oO3 k hk).1); obtain ⟨oR7, hne7⟩ := two_rows oR3 hg7 hat7 HNE.out (by simp; omega); clear hg7 hat7 oO3 oR3))
      have h8 := dli_any w.heap.size g m cr k (k + 1) rs w7 oR7 (by omega) (by omega)
      rw [show (((k + 1 : Nat)) : Int) = (k : Int) + 1 from by omega, show m - (k + 1 - k) = m - 1 by omega] at h8
      clear oR7 hrd
      refine h8.mono ?_
      rintro e w8 ⟨rfl, oR8, hg8⟩
      have o8 := own_kept o7 fun j hj => hg8.block j (own_row o7 j hj).2 (by injection hj with hj; have hj : g7 = j := hj; intro e; injection e with e; omega)
      have hB8 := b_g hB7 hg8 hg1
      clear h8 o7 hB7 hg8
      go_wp2_with fail
      go_roundw
      case rel =>
        exact ⟨_, m - 1, q + 1, some ⟨g, 0, none⟩, some ⟨g7, 0, none⟩, cr, cap7, _, os ++ [x], u64_nonneg _, rfl, rfl, rfl, oR8, by rw [List.map_append]; exact o8, .inr (by
          intro e
          injection e with e
          exact hne7 e.symm), HP.out, by omega, hB8⟩
      case measure => simp [lenOf]; omega
    · obtain rfl : m = 0 := by omega
      have hr0 : rs = [] := List.eq_nil_of_length_eq_zero (by have := oR.1; simpa using this)
      subst hr0
      rw [List.append_nil] at hperm
      obtain rfl : q = n := by omega
      have HP := Lib.hid hperm
      clear hperm
      go_wp2_with fail
      go_ret
      exact ⟨⟨Ao, co, os, HP.out, rfl, oO⟩, hB⟩
/-- slices.Grow at nil: an empty row of the call's own -/
def Own0 (w : World) (e : Ending) (w' : World) : Prop := ∃ (A : Option Addr) (c : Nat), e = .returned (.slice A 0 c) ∧ w'.ownsRow w.heap.size 3 1 (.slice A 0 c) 0 [] ∧ Below w.heap.size w w'
set_option maxHeartbeats 1600000 in
theorem grow_nil (n : Nat) (w : World) (hn : n ≤ 200000) : Calls Tryd.prog 40 #[.slice none 0 0, .int .i64 n] w (Own0 w) := by
  obtain ⟨i0, hi0, hz0, hz1, hz2⟩ := info_parts Rd.info
  by_cases h0 : n = 0
  · subst h0
    go_enter Tryd.func40, Tryd.ntmps40
    go_wp2_with fail
    go_ret
    exact ⟨none, 0, rfl, World.ownsRow_nil _ _ _ _, Below.refl _ _⟩
  · have z1 : (0 : Int) < (n : Int) := by omega
    have z2 : (0 : Int) ≤ (n : Int) := by omega
    obtain ⟨G, hG⟩ : ∃ G, G = grownCap w n 0 3 := ⟨_, rfl⟩
    have hGn : n ≤ G := by rw [hG]; exact grownCap_ge w n 0 3
    have hGm : G ≤ maxLen := by rw [hG]; exact grownCap_le_maxLen w n 0 3 (by unfold maxLen; omega)
    have hrz : ∀ ty, (Builtin.append_ #[22, 3] ty #[.slice none 0 0, .int .i64 (n : Int)]).run Tryd.prog w = .ok (.slice (some ⟨w.heap.size, 0, none⟩) n G) (w.drew.alloc (.cells (Builtin.zeroCells #[.int .i64 0] n ++ Builtin.zeroCells #[.int .i64 0] (G - n)) 3)) := by
      intro ty
      have h := Lib.run_append_grow_zeros (P := Tryd.prog) w 22 3 ty 3 i0 _ .i64 .i64 Tryd.underlying22 Tryd.underlying3 hi0 hz0 none 0 0 [] (run_firstCells_none w.drew i0.size 0 0 0) n (by omega) (by omega) (by omega) (by omega) (by rw [hz2]; omega)
        (by
          have := nextslicecap_zero (show 0 < 0 + n by omega)
          rw [hz2, this]; omega)
      simp only [Nat.zero_add] at h
      rw [← hG] at h
      simpa [Value.cells] using h
    have hcz : (Builtin.zeroCells #[Value.int .i64 0] n ++ Builtin.zeroCells #[Value.int .i64 0] (G - n)).size = G := by
      simp [size_zeroCells]; omega
    obtain ⟨cz, hcz'⟩ : ∃ cz, cz = Builtin.zeroCells #[Value.int .i64 0] n ++ Builtin.zeroCells #[Value.int .i64 0] (G - n) := ⟨_, rfl⟩
    rw [← hcz'] at hrz hcz
    have HG := Lib.hid hG
    have HC := Lib.hid hcz
    have hGi : (G : Int) ≤ 9223372036854775807 := by unfold maxLen at hGm; omega
    clear hG hcz' hcz h0
    go_enter Tryd.func40, Tryd.ntmps40
    go_wp2_with (at_builtin; refine Lib.wpList_append_run _ rfl _ _ _ _ rfl _ _ rfl rfl _ _ (hrz _) ?_)
    go_ret
    refine ⟨_, G, rfl, ⟨rfl, .inr ⟨w.heap.size, G, cz, rfl, Nat.le_refl _, heap_alloc_new w.drew _, Nat.zero_le _, hGm, by rw [HC.out, Nat.mul_one], by simp⟩⟩, b_alloc (Below.drew (Below.refl _ _)) _⟩
set_option maxHeartbeats 3200000 in
theorem concat_two (g : Nat) (A1 A2 : Option Addr) (n1 c1 n2 c2 : Nat) (xs1 xs2 : List Int) (w : World) (hg : Blk w g 22 #[.slice A1 n1 c1, .slice A2 n2 c2]) (h1 : InS w A1 n1 c1 xs1) (h2 : InS w A2 n2 c2 xs2) (hn1 : n1 ≤ 1000) (hn2 : n2 ≤ 1000) :
    Calls Tryd.prog 26 #[.slice (some ⟨g, 0, none⟩) 2 2] w (Got1 w (n1 + n2) (xs1 ++ xs2)) := by
  obtain ⟨i0, hi0, hz0, hz1, hz2⟩ := info_parts Rd.info
  have c0 := hg.cell 0
  have c1' := hg.cell 1
  have hgl := hg.lt
  have hx1 : ∀ u ∈ xs1.map (Value.int .i64), u.oneCell' = true := by intro u hu; obtain ⟨x, _, rfl⟩ := List.mem_map.1 hu; rfl
  have hx2 : ∀ u ∈ xs2.map (Value.int .i64), u.oneCell' = true := by intro u hu; obtain ⟨x, _, rfl⟩ := List.mem_map.1 hu; rfl
  simp at c0 c1'
  go_enter Tryd.func26, Tryd.ntmps26
  go_wp2_with fail
  refine wp_loop_rounds 3 ?_
  rw [rounds_succ]
  go_wp2_with fail
  rw [rounds_succ]
  go_wp2_with fail
  rw [rounds_succ]
  go_wp2_with fail
  have hG := grow_nil (n1 + n2) w (by omega)
  rw [show ((n1 + n2 : Nat) : Int) = (n1 : Int) + (n2 : Int) from by omega] at hG
  refine hG.mono ?_
  rintro e w1 ⟨A, c, rfl, o1, hb1⟩
  clear hG
  have d0 : w1.cell? ⟨g, 0, none⟩ = some (.slice A1 n1 c1) := (hb1.cell (p := ⟨g, 0, none⟩) hgl).trans c0
  have hr1 := Reads.of_ri (h1.ri.later hb1) (n := n1) (by rw [List.length_map]; exact h1.len)
  have j1 : 0 + n1 ≤ maxLen := by unfold maxLen; omega
  have j2 : (0 + n1) * 8 ≤ 140737488355328 := by omega
  have j3 := hb1.size
  have j4 : n1 + n2 ≤ maxLen := by unfold maxLen; omega
  have j5 : (n1 + n2) * 8 ≤ 140737488355328 := by omega
  have C1 := Lib.hid c1'
  have H2 := Lib.hid h2
  clear c0 c1' h1 h2 hg
  go_wp2_with fail
  refine wp_loop_rounds 3 ?_
  rw [rounds_succ]
  go_wp2_with (first
    | (at_builtin; refine wpList_append_any _ rfl (.tmp 31) (.tmp 32) _ rfl w.heap.size 3 i0 _ 1 8 Tryd.underlying22 hi0 hz0 hz1 hz2 rfl (by omega) _ 0 _ rfl o1 w1.heap.size _ n1 c1 _ rfl hr1 hx1 j1 j2 j3 ?_; intro v2 w2 o2 hg2 hat2; simp only [Nat.zero_add, List.nil_append] at o2; have hB2 := hb1.grown hg2 j3 (fun k hk => (World.ownsRow.lt o1 k hk).1); have d1 : w2.cell? ⟨g, 1, none⟩ = some (.slice A2 n2 c2) := (hB2.cell (p := ⟨g, 1, none⟩) hgl).trans C1.out; have hr2 := Reads.of_ri (H2.out.ri.later hB2) (n := n2) (by rw [List.length_map]; exact H2.out.len); have j6 := hB2.size; clear o1 hr1 hg2 hat2 d0))
  rw [rounds_succ]
  go_wp2_with (first
    | (at_builtin; refine wpList_append_any _ rfl (.tmp 31) (.tmp 32) _ rfl w.heap.size 3 i0 _ 1 8 Tryd.underlying22 hi0 hz0 hz1 hz2 rfl (by omega) _ n1 _ rfl o2 w2.heap.size _ n2 c2 _ rfl hr2 hx2 j4 j5 j6 ?_; intro v3 w3 o3 hg3 hat3; have hB3 := hB2.grown hg3 j6 (fun k hk => (World.ownsRow.lt o2 k hk).1); clear o2 hr2 hg3 hat3 d1))
  rw [rounds_succ]
  go_wp2_with fail
  go_ret
  obtain ⟨A3, c3, rfl⟩ := Rr.own_slice o3
  rw [← List.map_append] at o3
  exact ⟨⟨A3, c3, rfl, o3⟩, hB3⟩
end Go.Proofs.YtaidekdmhmoaeaaDoor.On
