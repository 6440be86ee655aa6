/-
  The reference meter, each function by its contract: a block with two lists, each in a row of its own.
-/
import Derived.Test.YtjnbkpjpcbmhcaaMpm
import Derived.Test.YtjnbkpjpcbmhcaaOnl
import Derived.Test.YtjnbkpjpcbmhcaaMet
import Derived.RegionTactic
import Derived.BigRegion
namespace Go.Proofs.Ytjnbkpjpcbmhcaa.Rm
open Go.RowKit
set_option linter.unusedVariables false
set_option linter.unusedSimpArgs false
theorem info : (Try.prog.info? 3).map (fun i => (i.zero, i.size, i.bytes)) = some (some (.int .i64 0), 1, 8) := by kernel_rfl
theorem own_slice {w : World} {B : Nat} {e : TypeId} {v : Value} {n : Nat} {xs : List Value} (h : w.ownsRow B e 1 v n xs) : ∃ (A : Option Addr) (cap : Nat), v = .slice A n cap := by
  rcases own_form h with ⟨rfl, rfl⟩ | ⟨g, cap, rfl, _⟩
  · exact ⟨none, 0, rfl⟩
  · exact ⟨_, cap, rfl⟩
theorem own_fresh {w : World} {B : Nat} {e : TypeId} {size n : Nat} {v : Value} {xs : List Value} (h : w.ownsRow B e size v n xs) (o : Obj) : (w.alloc o).ownsRow B e size v n xs := h.alloc o
theorem own_put {w : World} {B : Nat} {e : TypeId} {g n cap k : Nat} {xs : List Value} (h : w.ownsRow B e 1 (.slice (some ⟨g, 0, none⟩) n cap) n xs) (u : Value) : (w.setCell ⟨g, k, none⟩ u).ownsRow B e 1 (.slice (some ⟨g, 0, none⟩) n cap) n (xs.set k u) := by
  have hl := h.1
  rcases h.2 with ⟨h', _⟩ | ⟨g', cap', cur, h', h2, h3, h4, h5, h6, h7⟩
  · cases h'
  · simp only [Value.slice.injEq, Option.some.injEq, Addr.mk.injEq, and_true, true_and] at h'
    obtain ⟨rfl, rfl⟩ := h'
    refine ⟨by rw [List.length_set]; exact hl, .inr ⟨g, cap, cur.setIfInBounds k u, rfl, h2, Blk.set_ h3 k u, h4, h5, by rw [Array.size_setIfInBounds]; exact h6, ?_⟩⟩
    rw [Array.toList_setIfInBounds, ← h7, List.take_set]
structure Is (w : World) (B r n : Nat) (Aa : Option Addr) (ca : Nat) (Ag : Option Addr) (cg : Nat) (A G : List Int) : Prop where
  blk : Blk w r 73 #[.bool true, .slice Aa n ca, .slice Ag n cg]
  oa : w.ownsRow B 3 1 (.slice Aa n ca) n (A.map (Value.int .i64))
  og : w.ownsRow B 3 1 (.slice Ag n cg) n (G.map (Value.int .i64))
  fa : rowOf Aa ≠ some r
  fg : rowOf Ag ≠ some r
  fag : rowOf Aa = none ∨ rowOf Aa ≠ rowOf Ag
section
variable {w w' : World} {B r n ca cg : Nat} {Aa Ag : Option Addr} {A G : List Int}
theorem Is.lt (h : Is w B r n Aa ca Ag cg A G) : r < w.heap.size := h.blk.lt
theorem Is.lenA (h : Is w B r n Aa ca Ag cg A G) : A.length = n := by have := h.oa.1; simpa using this
theorem Is.lenG (h : Is w B r n Aa ca Ag cg A G) : G.length = n := by have := h.og.1; simpa using this
theorem Is.later (h : Is w B r n Aa ca Ag cg A G) (hb : Below w.heap.size w w') : Is w' B r n Aa ca Ag cg A G := ⟨h.blk.below hb h.lt, own_later h.oa hb, own_later h.og hb, h.fa, h.fg, h.fag⟩
theorem Is.kept (h : Is w B r n Aa ca Ag cg A G) (h1 : w'.heap[r]? = w.heap[r]?) (h2 : ∀ g, rowOf Aa = some g → w'.heap[g]? = w.heap[g]?) (h3 : ∀ g, rowOf Ag = some g → w'.heap[g]? = w.heap[g]?) : Is w' B r n Aa ca Ag cg A G :=
  ⟨h1.trans h.blk, own_kept h.oa h2, own_kept h.og h3, h.fa, h.fg, h.fag⟩
end
/-- the lists' numbers -/
def Good (l : List Int) : Prop := (∀ x ∈ l, 0 ≤ x) ∧ sm l ≤ 1099511627776
theorem New_ex (w : World) : Calls Try.prog 23 #[] w fun e w' => ∃ r : Nat, e = .returned (.pointer (some ⟨r, 0, none⟩)) ∧ Is w' w.heap.size r 0 none 0 none 0 [] [] ∧ w.heap.size ≤ r ∧ Below w.heap.size w w' := by
  go_enter Try.func23, Try.ntmps23
  go_wp2
  go_ret
  exact ⟨_, rfl, ⟨Blk.new w _ _, World.ownsRow_nil _ _ _ _, World.ownsRow_nil _ _ _ _, by simp [rowOf], by simp [rowOf], .inl rfl⟩, Nat.le_refl _, b_alloc (Below.refl _ _) _⟩
section
variable (B r n ca cg : Nat) (Aa Ag : Option Addr) (A G : List Int) (w : World)
theorem valid_any (h : Is w B r n Aa ca Ag cg A G) : Calls Try.prog 37 #[.pointer (some ⟨r, 0, none⟩)] w fun e w' => e = .returned (.bool true) ∧ w = w' := by
  have hc := h.blk.cell
  go_enter Try.func37, Try.ntmps37
  go_wp2
  go_ret
  exact ⟨rfl, rfl⟩
theorem Calls_any (h : Is w B r n Aa ca Ag cg A G) : Calls Try.prog 42 #[.pointer (some ⟨r, 0, none⟩)] w fun e w' => e = .returned (.int .i64 n) ∧ w = w' := by
  have hc := h.blk.cell
  obtain ⟨_, _, hcm⟩ := own_cap h.og
  obtain ⟨_, hnc, _⟩ := own_cap h.og
  have hn : (n : Int) ≤ 9223372036854775807 := by unfold maxLen at hcm; omega
  go_enter Try.func42, Try.ntmps42
  go_wp2_with fail
  refine (valid_any B r n ca cg Aa Ag A G _ h).mono ?_
  rintro e w' ⟨rfl, rfl⟩
  go_wp2
  go_ret
  exact ⟨rfl, rfl⟩
set_option maxHeartbeats 3200000 in
set_option maxRecDepth 100000 in
theorem Begin_any (h : Is w B r n Aa ca Ag cg A G) (hn : n ≤ 100000) : Calls Try.prog 24 #[.pointer (some ⟨r, 0, none⟩)] w fun e w' => e = .returned (.tuple #[]) ∧ (∃ Aa' ca' Ag' cg', Is w' w.heap.size r (n + 1) Aa' ca' Ag' cg' (A ++ [0]) (G ++ [0])) ∧ Only r none w w' := by
  have hc := h.blk.cell
  have hf := h.blk.frozen
  have hbl := h.lt
  have hgl := h.fg
  obtain ⟨i0, hi0, hz0, hz1, hz2⟩ := info_parts info
  have o0 : (w.alloc (.cells #[] 3)).ownsRow w.heap.size 3 1 (.slice (some ⟨w.heap.size, 0, none⟩) 0 0) 0 [] := World.ownsRow_lit w #[] 0 (Nat.le_refl _) (by unfold maxLen; omega) rfl
  have hrd := Reads.of_own (own_later h.oa (b_alloc (Below.refl _ _) (.cells #[] 3)))
  have k1 : 0 + n ≤ maxLen := by unfold maxLen; omega
  have k2 : (0 + n) * 8 ≤ 140737488355328 := by omega
  have k3 : w.heap.size ≤ (w.alloc (.cells #[] 3)).heap.size := by simp
  have k4 : ∀ u ∈ A.map (Value.int .i64), u.oneCell' = true := by intro u hu; obtain ⟨x, _, rfl⟩ := List.mem_map.1 hu; rfl
  have k4' : ∀ u ∈ G.map (Value.int .i64), u.oneCell' = true := by intro u hu; obtain ⟨x, _, rfl⟩ := List.mem_map.1 hu; rfl
  have j1 : n + 1 ≤ maxLen := by unfold maxLen; omega
  have j2 : (n + 1) * 8 ≤ 140737488355328 := by omega
  have j4 : ∀ u ∈ [Value.int .i64 0], u.oneCell' = true := by intro u hu; simp at hu; subst hu; rfl
  have hG5 : ∀ {w5 : World}, (w.alloc (.cells #[] 3)).grownBy w5 (some w.heap.size) → Below w.heap.size w w5 := fun hg => b_g (b_alloc (Below.refl _ _) _) hg (Nat.le_refl _)
  go_enter Try.func24, Try.ntmps24
  go_wp2_with fail
  refine (valid_any B r n ca cg Aa Ag A G _ h).mono ?_
  rintro e w' ⟨rfl, rfl⟩
  have HH := Lib.hid h
  clear h
  go_upto_region 2 with (first
    | (at_builtin; refine wpList_append_any _ rfl (.tmp 5) (.tmp 9) _ rfl w.heap.size 3 i0 _ 1 8 Try.underlying71 hi0 hz0 hz1 hz2 rfl (by omega) _ 0 _ rfl o0 (w.alloc (.cells #[] 3)).heap.size _ n ca (A.map (Value.int .i64)) rfl hrd k4 k1 k2 k3 ?_; intro v5 w5 o5 hg5 hat5; have hb5 := hG5 hg5; simp only [Nat.zero_add, List.nil_append] at o5; have o6 := own_fresh o5 (.cells #[.int .i64 0] 3); have hr6 := Reads.one w5 3 (.int .i64 0); have j3 : w.heap.size ≤ (w5.alloc (.cells #[.int .i64 0] 3)).heap.size := Nat.le_trans hb5.size (by simp))
    | (at_builtin; refine wpList_append_any _ rfl (.tmp 10) (.tmp 11) _ rfl w.heap.size 3 i0 _ 1 8 Try.underlying71 hi0 hz0 hz1 hz2 rfl (by omega) _ n _ rfl o6 (w5.heap.size + 1) _ 1 1 [.int .i64 0] rfl hr6 j4 j1 j2 j3 ?_; intro v7 w7 o7 hg7 hat7; obtain ⟨g7, cap7, rfl, hb7g, hl7⟩ := own_head o7; have hb7 : Below w.heap.size w w7 := (b_alloc hb5 _).grown hg7 j3 (fun k hk => (World.ownsRow.lt o6 k hk).1); have hB7 := HH.out.blk.below hb7 hbl; have hc7 := hB7.cell; have hf7 := hB7.frozen))
  have hS8 := hB7.set_ 1 (.slice (some ⟨g7, 0, none⟩) (n + 1) cap7)
  have hS8 : Blk (w7.setCell ⟨r, 1, none⟩ (.slice (some ⟨g7, 0, none⟩) (n + 1) cap7)) r 73 #[.bool true, .slice (some ⟨g7, 0, none⟩) (n + 1) cap7, .slice Ag n cg] := hS8
  have og8 := own_setFar (own_later HH.out.og hb7) (p := ⟨r, 1, none⟩) hgl (.slice (some ⟨g7, 0, none⟩) (n + 1) cap7)
  have hfar7 : rowOf (some (⟨g7, 0, none⟩ : Addr)) ≠ some r := by intro e; injection e with e; have e : g7 = r := e; omega
  have o8 := own_setFar o7 (p := ⟨r, 1, none⟩) hfar7 (.slice (some ⟨g7, 0, none⟩) (n + 1) cap7)
  have hO8 := (Only.of_below hb7 r none).set_ 1 (.slice (some ⟨g7, 0, none⟩) (n + 1) cap7)
  have hsz8 : w.heap.size ≤ (w7.setCell ⟨r, 1, none⟩ (.slice (some ⟨g7, 0, none⟩) (n + 1) cap7)).heap.size := hO8.size
  generalize w7.setCell ⟨r, 1, none⟩ (.slice (some ⟨g7, 0, none⟩) (n + 1) cap7) = w8 at hS8 og8 o8 hO8 hsz8 ⊢
  clear hB7 hc7 hf7 o7 o6 hr6 j3 o5 hrd o0 k3 hg7 hat7 hg5 hat5 hG5 hc hf
  have hc := hS8.cell
  have hf := hS8.frozen
  have hbl8 := hS8.lt
  have p0 : (w8.alloc (.cells #[] 3)).ownsRow w8.heap.size 3 1 (.slice (some ⟨w8.heap.size, 0, none⟩) 0 0) 0 [] := World.ownsRow_lit w8 #[] 0 (Nat.le_refl _) (by unfold maxLen; omega) rfl
  have hrd := Reads.of_own (own_later og8 (b_alloc (Below.refl _ _) (.cells #[] 3)))
  have k3 : w8.heap.size ≤ (w8.alloc (.cells #[] 3)).heap.size := by simp
  have hG5 : ∀ {w5 : World}, (w8.alloc (.cells #[] 3)).grownBy w5 (some w8.heap.size) → Below w8.heap.size w8 w5 := fun hg => b_g (b_alloc (Below.refl _ _) _) hg (Nat.le_refl _)
  go_wp2_with (first
    | (at_builtin; refine wpList_append_any _ rfl (.tmp 16) (.tmp 20) _ rfl w8.heap.size 3 i0 _ 1 8 Try.underlying71 hi0 hz0 hz1 hz2 rfl (by omega) _ 0 _ rfl p0 (w8.alloc (.cells #[] 3)).heap.size _ n cg (G.map (Value.int .i64)) rfl hrd k4' k1 k2 k3 ?_; intro v5 w5 o5 hg5 hat5; have hb5 := hG5 hg5; simp only [Nat.zero_add, List.nil_append] at o5; have o6 := own_fresh o5 (.cells #[.int .i64 0] 3); have hr6 := Reads.one w5 3 (.int .i64 0); have j3 : w8.heap.size ≤ (w5.alloc (.cells #[.int .i64 0] 3)).heap.size := Nat.le_trans hb5.size (by simp))
    | (at_builtin; refine wpList_append_any _ rfl (.tmp 21) (.tmp 22) _ rfl w8.heap.size 3 i0 _ 1 8 Try.underlying71 hi0 hz0 hz1 hz2 rfl (by omega) _ n _ rfl o6 (w5.heap.size + 1) _ 1 1 [.int .i64 0] rfl hr6 j4 j1 j2 j3 ?_; intro v9 w9 o9 hg9 hat9; obtain ⟨g9, cap9, rfl, hb9g, hl9⟩ := own_head o9; have hb9 : Below w8.heap.size w8 w9 := (b_alloc hb5 _).grown hg9 j3 (fun k hk => (World.ownsRow.lt o6 k hk).1); have hB9 := hS8.below hb9 hS8.lt; have hc9 := hB9.cell; have hf9 := hB9.frozen))
  go_end0
  have hl8 := (own_row o8 g7 rfl).2
  have hfar9 : rowOf (some (⟨g9, 0, none⟩ : Addr)) ≠ some r := by intro e; injection e with e; have e : g9 = r := e; omega
  have oA := own_setFar (own_later o8 hb9) (p := ⟨r, 2, none⟩) hfar7 (.slice (some ⟨g9, 0, none⟩) (n + 1) cap9)
  have oG := own_setFar (own_base o9 hsz8) (p := ⟨r, 2, none⟩) hfar9 (.slice (some ⟨g9, 0, none⟩) (n + 1) cap9)
  refine ⟨rfl, ⟨some ⟨g7, 0, none⟩, cap7, some ⟨g9, 0, none⟩, cap9, hB9.set_ 2 _, by rw [List.map_append]; exact oA, by rw [List.map_append]; exact oG, hfar7, hfar9, .inr ?_⟩, (hO8.then_below hb9).set_ 2 _⟩
  intro e
  injection e with e
  have e : g7 = g9 := e
  omega
theorem sum_n (cap : Nat) (Ad : Option Addr) (L : List Int) (h : w.ownsRow B 3 1 (.slice Ad n cap) n (L.map (Value.int .i64))) (hg : Good L) (hn : n ≤ 100000) (k : Nat) : Calls Try.prog 45 #[.slice Ad n cap] (w.drewN k) fun e w' => e = .returned (.int .i64 (sm L)) ∧ w' = w.drewN k := by
  have hl : L.length = n := by have := h.1; simpa using this
  subst hl
  exact (sum_any Ad cap L (w.drewN k) (Ints.of_own (own_later h (below_drewN (Below.refl _ _) k))) hg.1 hg.2 hn).mono fun _ _ h => ⟨h.1, h.2.symm⟩
theorem most_n (cap : Nat) (Ad : Option Addr) (L : List Int) (h : w.ownsRow B 3 1 (.slice Ad n cap) n (L.map (Value.int .i64))) (hg : Good L) (hn : n ≤ 100000) (k : Nat) : Calls Try.prog 46 #[.slice Ad n cap] (w.drewN k) fun e w' => e = .returned (.int .i64 (mx L)) ∧ w' = w.drewN k := by
  have hl : L.length = n := by have := h.1; simpa using this
  subst hl
  exact (most_any Ad cap L (w.drewN k) (Ints.of_own (own_later h (below_drewN (Below.refl _ _) k))) hg.1 hg.2 hn).mono fun _ _ h => ⟨h.1, h.2.symm⟩
theorem Most_any (h : Is w B r n Aa ca Ag cg A G) (hA : Good A) (hG : Good G) (hn : n ≤ 100000) : Calls Try.prog 40 #[.pointer (some ⟨r, 0, none⟩)] w fun e w' => e = .returned (.tuple #[.int .i64 (mx A), .int .i64 (mx G)]) ∧ Below w.heap.size w w' := by
  have hc := h.blk.cell
  have e1 := most_n B n w ca Aa A h.oa hA hn
  have e2 := most_n B n w cg Ag G h.og hG hn
  go_enter Try.func40, Try.ntmps40
  go_wp2_with fail
  refine (valid_any B r n ca cg Aa Ag A G _ h).mono ?_
  rintro e w' ⟨rfl, rfl⟩
  clear h
  go_wp2_with fail
  go_quiet ((first | (with_reducible exact Calls.quiet_of_same (e1 _)) | (with_reducible exact Calls.quiet_of_same (e2 _))))
  go_wp2
  go_ret2
  exact ⟨rfl, below_drewN (Below.refl _ _) _⟩
theorem Total_any (h : Is w B r n Aa ca Ag cg A G) (hA : Good A) (hG : Good G) (hn : n ≤ 100000) : Calls Try.prog 41 #[.pointer (some ⟨r, 0, none⟩)] w fun e w' => e = .returned (.tuple #[.int .i64 (sm A), .int .i64 (sm G)]) ∧ Below w.heap.size w w' := by
  have hc := h.blk.cell
  have e1 := sum_n B n w ca Aa A h.oa hA hn
  have e2 := sum_n B n w cg Ag G h.og hG hn
  go_enter Try.func41, Try.ntmps41
  go_wp2_with fail
  refine (valid_any B r n ca cg Aa Ag A G _ h).mono ?_
  rintro e w' ⟨rfl, rfl⟩
  clear h
  go_wp2_with fail
  go_quiet ((first | (with_reducible exact Calls.quiet_of_same (e1 _)) | (with_reducible exact Calls.quiet_of_same (e2 _))))
  go_wp2
  go_ret2
  exact ⟨rfl, below_drewN (Below.refl _ _) _⟩
set_option maxHeartbeats 1600000 in
theorem Call_any (h : Is w B r n Aa ca Ag cg A G) (hn : n ≤ 100000) : Calls Try.prog 39 #[.pointer (some ⟨r, 0, none⟩)] w fun e w' => e = .returned (.tuple #[.int .i64 (lastD A), .int .i64 (lastD G)]) ∧ Below w.heap.size w w' := by
  have hc := h.blk.cell
  by_cases h0 : n = 0
  · have hA : A = [] := List.eq_nil_of_length_eq_zero (by have := h.lenA; omega)
    have hG : G = [] := List.eq_nil_of_length_eq_zero (by have := h.lenG; omega)
    subst h0 hA hG
    go_enter Try.func39, Try.ntmps39
    go_wp2_with fail
    refine (valid_any B r 0 ca cg Aa Ag [] [] _ h).mono ?_
    rintro e w' ⟨rfl, rfl⟩
    clear h
    go_wp2_with fail
    go_ret2
    exact ⟨rfl, Below.refl _ _⟩
  · obtain ⟨m, hm⟩ : ∃ m, n = m + 1 := ⟨n - 1, by omega⟩
    have hAn : A ≠ [] := by intro e; have := h.lenA; rw [e] at this; simp at this; omega
    have hGn : G ≠ [] := by intro e; have := h.lenG; rw [e] at this; simp at this; omega
    have lA := h.lenA
    have lG := h.lenG
    have aA := at_last hAn
    have aG := at_last hGn
    rw [lA, hm] at aA
    rw [lG, hm] at aG
    simp only [Nat.add_sub_cancel] at aA aG
    obtain ⟨ga, rfl, _, _, cA, _⟩ := own_at h.oa (i := m) (u := .int .i64 (lastD A)) (by rw [List.getElem?_map, aA]; rfl)
    obtain ⟨gg, rfl, _, _, cG, _⟩ := own_at h.og (i := m) (u := .int .i64 (lastD G)) (by rw [List.getElem?_map, aG]; rfl)
    have z0 : ((n : Int) == 0) = false := by rw [beq_eq_false_iff_ne]; omega
    have z1 : (n : Int) - 1 = (m : Int) := by omega
    have z2 : IntKind.i64.wrap (m : Int) = (m : Int) := by rw [IntKind.wrap_i64]; omega
    have z3 : (0 : Int) ≤ (m : Int) := by omega
    have z4 : (m : Int) < (n : Int) := by omega
    obtain ⟨va, hva⟩ : ∃ va, va = lastD A := ⟨_, rfl⟩
    obtain ⟨vg, hvg⟩ : ∃ vg, vg = lastD G := ⟨_, rfl⟩
    rw [← hva] at cA ⊢
    rw [← hvg] at cG ⊢
    have hv := valid_any B r n ca cg _ _ A G w h
    clear h hm hAn hGn lA lG aA aG hva hvg h0
    go_enter Try.func39, Try.ntmps39
    go_wp2_with fail
    refine hv.mono ?_
    rintro e w' ⟨rfl, rfl⟩
    clear hv
    go_wp2_with fail
    go_quiet (fail)
    go_wp2
    go_ret2
    exact ⟨rfl, below_drewN (Below.refl _ _) _⟩
section
variable (cap : Nat) (Ad : Option Addr) (L : List Int) (x : Int)
theorem check_neg (h : Is w B r n Aa ca Ag cg A G) (hx : x < 0) : Calls Try.prog 38 #[.pointer (some ⟨r, 0, none⟩), .slice Ad n cap, .int .i64 x] w fun e w' => e = .returned (.int .i64 2) ∧ w = w' := by
  go_enter Try.func38, Try.ntmps38
  go_wp2_with fail
  refine (valid_any B r n ca cg Aa Ag A G _ h).mono ?_
  rintro e w' ⟨rfl, rfl⟩
  clear h
  go_wp2_with fail
  go_ret
  exact ⟨rfl, rfl⟩
theorem check_state (h : Is w B r n Aa ca Ag cg A G) (hx : 0 ≤ x) (h0 : n = 0) : Calls Try.prog 38 #[.pointer (some ⟨r, 0, none⟩), .slice Ad n cap, .int .i64 x] w fun e w' => e = .returned (.int .i64 7) ∧ w = w' := by
  have hv := valid_any B r n ca cg Aa Ag A G _ h
  have hx' : ¬ x < 0 := by omega
  subst h0
  clear h
  go_enter Try.func38, Try.ntmps38
  go_wp2_with fail
  refine hv.mono ?_
  rintro e w' ⟨rfl, rfl⟩
  go_wp2_with fail
  go_ret
  exact ⟨rfl, rfl⟩
theorem check_over (h : Is w B r n Aa ca Ag cg A G) (ho : w.ownsRow B 3 1 (.slice Ad n cap) n (L.map (Value.int .i64))) (hg : Good L) (hn : n ≤ 100000) (hx : 0 ≤ x) (h0 : ((n : Int) == 0) = false) (hgt : 1099511627776 - sm L < x) : Calls Try.prog 38 #[.pointer (some ⟨r, 0, none⟩), .slice Ad n cap, .int .i64 x] w fun e w' => e = .returned (.int .i64 16) ∧ w = w' := by
  have hs := sum_n B n w cap Ad L ho hg hn 0
  have hs : Calls Try.prog 45 #[.slice Ad n cap] w fun e w' => e = .returned (.int .i64 (sm L)) ∧ w' = w := hs
  have s0 := sm_nonneg L hg.1
  have s1 := hg.2
  have hv := valid_any B r n ca cg Aa Ag A G _ h
  have hx' : ¬ x < 0 := by omega
  generalize sm L = sl at hs s0 s1 hgt
  clear h ho hg
  go_enter Try.func38, Try.ntmps38
  go_wp2_with fail
  refine hv.mono ?_
  rintro e w' ⟨rfl, rfl⟩
  go_wp2_with fail
  refine hs.mono ?_
  rintro e w' ⟨rfl, rfl⟩
  clear hv hs
  go_wp2_with fail
  go_ret
  exact ⟨rfl, rfl⟩
theorem check_ok (h : Is w B r n Aa ca Ag cg A G) (ho : w.ownsRow B 3 1 (.slice Ad n cap) n (L.map (Value.int .i64))) (hg : Good L) (hn : n ≤ 100000) (hx : 0 ≤ x) (h0 : ((n : Int) == 0) = false) (hle : x ≤ 1099511627776 - sm L) : Calls Try.prog 38 #[.pointer (some ⟨r, 0, none⟩), .slice Ad n cap, .int .i64 x] w fun e w' => e = .returned (.int .i64 0) ∧ w = w' := by
  have hs := sum_n B n w cap Ad L ho hg hn 0
  have hs : Calls Try.prog 45 #[.slice Ad n cap] w fun e w' => e = .returned (.int .i64 (sm L)) ∧ w' = w := hs
  have s0 := sm_nonneg L hg.1
  have s1 := hg.2
  have hv := valid_any B r n ca cg Aa Ag A G _ h
  have hx' : ¬ x < 0 := by omega
  generalize sm L = sl at hs s0 s1 hle
  clear h ho hg
  go_enter Try.func38, Try.ntmps38
  go_wp2_with fail
  refine hv.mono ?_
  rintro e w' ⟨rfl, rfl⟩
  go_wp2_with fail
  refine hs.mono ?_
  rintro e w' ⟨rfl, rfl⟩
  clear hv hs
  go_wp2_with fail
  go_ret
  exact ⟨rfl, rfl⟩
end
theorem Wrote_code (h : Is w B r n Aa ca Ag cg A G) (x c : Int) (hck : Calls Try.prog 38 #[.pointer (some ⟨r, 0, none⟩), .slice Aa n ca, .int .i64 x] w fun e w' => e = .returned (.int .i64 c) ∧ w = w') (h0 : (c == 0) = false) : Calls Try.prog 25 #[.pointer (some ⟨r, 0, none⟩), .int .i64 x] w fun e w' => e = .returned (.int .i64 c) ∧ w = w' := by
  have hc := h.blk.cell
  have hv := valid_any B r n ca cg Aa Ag A G _ h
  clear h
  go_enter Try.func25, Try.ntmps25
  go_wp2_with fail
  refine hv.mono ?_
  rintro e w' ⟨rfl, rfl⟩
  go_wp2_with fail
  refine hck.mono ?_
  rintro e w' ⟨rfl, rfl⟩
  clear hv hck
  go_wp2_with fail
  go_ret
  exact ⟨rfl, rfl⟩
set_option maxHeartbeats 3200000 in
theorem Wrote_ok (h : Is w B r n Aa ca Ag cg A G) (x : Int) (hck : Calls Try.prog 38 #[.pointer (some ⟨r, 0, none⟩), .slice Aa n ca, .int .i64 x] w fun e w' => e = .returned (.int .i64 0) ∧ w = w') (hn : n ≤ 100000) (h0 : n ≠ 0) (hg : Good A) (hx : 0 ≤ x) (hle : x ≤ 1099511627776 - sm A) : Calls Try.prog 25 #[.pointer (some ⟨r, 0, none⟩), .int .i64 x] w fun e w' => e = .returned (.int .i64 0) ∧ Is w' B r n Aa ca Ag cg (addLast A x) G ∧ Only r (rowOf Aa) w w' := by
  have hc := h.blk.cell
  have hf := h.blk.frozen
  have hbl := h.lt
  obtain ⟨m, hm⟩ : ∃ m, n = m + 1 := ⟨n - 1, by omega⟩
  have hAn : A ≠ [] := by intro e; have := h.lenA; rw [e] at this; simp at this; omega
  have lA := h.lenA
  have aA := at_last hAn
  have hb := last_le hg.1
  rw [lA, hm] at aA
  simp only [Nat.add_sub_cancel] at aA
  obtain ⟨ga, rfl, _, hgl, cA, fA⟩ := own_at h.oa (i := m) (u := .int .i64 (lastD A)) (by rw [List.getElem?_map, aA]; rfl)
  have z1 : (n : Int) - 1 = (m : Int) := by omega
  have z2 : IntKind.i64.wrap (m : Int) = (m : Int) := by rw [IntKind.wrap_i64]; omega
  have z3 : (0 : Int) ≤ (m : Int) := by omega
  have z4 : (m : Int) < (n : Int) := by omega
  have hset : A.set m (lastD A + x) = addLast A x := by
    have := set_last x hAn
    rwa [lA, hm, Nat.add_sub_cancel] at this
  have HSET := Lib.hid hset
  obtain ⟨va, hva⟩ : ∃ va, va = lastD A := ⟨_, rfl⟩
  have hvb : 0 ≤ va ∧ va ≤ 1099511627776 := by rw [hva]; have := hg.2; omega
  have hvx : va + x ≤ 1099511627776 := by rw [hva]; have := hg.2; omega
  have z5 : IntKind.i64.wrap (va + x) = va + x := by rw [IntKind.wrap_i64]; omega
  rw [← hva] at cA
  have HVA := Lib.hid hva
  have hv := valid_any B r n ca cg _ _ A G _ h
  have HH := Lib.hid h
  clear h hm hAn lA aA hva hset hb hg hle
  go_enter Try.func25, Try.ntmps25
  go_wp2_with fail
  refine hv.mono ?_
  rintro e w' ⟨rfl, rfl⟩
  go_wp2_with fail
  refine hck.mono ?_
  rintro e w' ⟨rfl, rfl⟩
  clear hv hck
  go_wp2_with fail
  go_region
  all_goals go_wp2
  all_goals go_ret
  all_goals
    have hS := HSET.out
    rw [← HVA.out] at hS
    have hI := HH.out
    have hIs : Is (w.setCell ⟨ga, m, none⟩ (.int .i64 (va + x))) B r n (some ⟨ga, 0, none⟩) ca Ag cg (addLast A x) G := ⟨hI.blk.far (p := ⟨ga, m, none⟩) (by rintro rfl; exact hI.fa rfl) _, by rw [← hS, List.map_set]; exact own_put hI.oa _, own_setFar hI.og (p := ⟨ga, m, none⟩) (fun e => hI.fag.elim (fun h1 => by cases h1) (fun h1 => h1 e.symm)) _, hI.fa, hI.fg, hI.fag⟩
    have hOn : Only r (rowOf (some (⟨ga, 0, none⟩ : Addr))) w (w.setCell ⟨ga, m, none⟩ (.int .i64 (va + x))) := ⟨rfl, rfl, rfl, by simp [World.setCell], fun k hk h1 h2 => Below.heap_setCell w ⟨ga, m, none⟩ _ k (by rintro rfl; exact h2 rfl)⟩
    exact ⟨rfl, hIs.later (Below.drew (Below.refl _ _)), hOn.then_below (Below.drew (Below.refl _ _))⟩
theorem Read_code (h : Is w B r n Aa ca Ag cg A G) (x c : Int) (hck : Calls Try.prog 38 #[.pointer (some ⟨r, 0, none⟩), .slice Ag n cg, .int .i64 x] w fun e w' => e = .returned (.int .i64 c) ∧ w = w') (h0 : (c == 0) = false) : Calls Try.prog 26 #[.pointer (some ⟨r, 0, none⟩), .int .i64 x] w fun e w' => e = .returned (.int .i64 c) ∧ w = w' := by
  have hc := h.blk.cell
  have hv := valid_any B r n ca cg Aa Ag A G _ h
  clear h
  go_enter Try.func26, Try.ntmps26
  go_wp2_with fail
  refine hv.mono ?_
  rintro e w' ⟨rfl, rfl⟩
  go_wp2_with fail
  refine hck.mono ?_
  rintro e w' ⟨rfl, rfl⟩
  clear hv hck
  go_wp2_with fail
  go_ret
  exact ⟨rfl, rfl⟩
set_option maxHeartbeats 3200000 in
theorem Read_ok (h : Is w B r n Aa ca Ag cg A G) (x : Int) (hck : Calls Try.prog 38 #[.pointer (some ⟨r, 0, none⟩), .slice Ag n cg, .int .i64 x] w fun e w' => e = .returned (.int .i64 0) ∧ w = w') (hn : n ≤ 100000) (h0 : n ≠ 0) (hg : Good G) (hx : 0 ≤ x) (hle : x ≤ 1099511627776 - sm G) : Calls Try.prog 26 #[.pointer (some ⟨r, 0, none⟩), .int .i64 x] w fun e w' => e = .returned (.int .i64 0) ∧ Is w' B r n Aa ca Ag cg A (addLast G x) ∧ Only r (rowOf Ag) w w' := by
  have hc := h.blk.cell
  have hf := h.blk.frozen
  have hbl := h.lt
  obtain ⟨m, hm⟩ : ∃ m, n = m + 1 := ⟨n - 1, by omega⟩
  have hAn : G ≠ [] := by intro e; have := h.lenG; rw [e] at this; simp at this; omega
  have lA := h.lenG
  have aA := at_last hAn
  have hb := last_le hg.1
  rw [lA, hm] at aA
  simp only [Nat.add_sub_cancel] at aA
  obtain ⟨ga, rfl, _, hgl, cA, fA⟩ := own_at h.og (i := m) (u := .int .i64 (lastD G)) (by rw [List.getElem?_map, aA]; rfl)
  have z1 : (n : Int) - 1 = (m : Int) := by omega
  have z2 : IntKind.i64.wrap (m : Int) = (m : Int) := by rw [IntKind.wrap_i64]; omega
  have z3 : (0 : Int) ≤ (m : Int) := by omega
  have z4 : (m : Int) < (n : Int) := by omega
  have hset : G.set m (lastD G + x) = addLast G x := by
    have := set_last x hAn
    rwa [lA, hm, Nat.add_sub_cancel] at this
  have HSET := Lib.hid hset
  obtain ⟨va, hva⟩ : ∃ va, va = lastD G := ⟨_, rfl⟩
  have hvb : 0 ≤ va ∧ va ≤ 1099511627776 := by rw [hva]; have := hg.2; omega
  have hvx : va + x ≤ 1099511627776 := by rw [hva]; have := hg.2; omega
  have z5 : IntKind.i64.wrap (va + x) = va + x := by rw [IntKind.wrap_i64]; omega
  rw [← hva] at cA
  have HVA := Lib.hid hva
  have hv := valid_any B r n ca cg _ _ A G _ h
  have HH := Lib.hid h
  clear h hm hAn lA aA hva hset hb hg hle
  go_enter Try.func26, Try.ntmps26
  go_wp2_with fail
  refine hv.mono ?_
  rintro e w' ⟨rfl, rfl⟩
  go_wp2_with fail
  refine hck.mono ?_
  rintro e w' ⟨rfl, rfl⟩
  clear hv hck
  go_wp2_with fail
  go_region
  all_goals go_wp2
  all_goals go_ret
  all_goals
    have hS := HSET.out
    rw [← HVA.out] at hS
    have hI := HH.out
    have hIs : Is (w.setCell ⟨ga, m, none⟩ (.int .i64 (va + x))) B r n Aa ca (some ⟨ga, 0, none⟩) cg A (addLast G x) := ⟨hI.blk.far (p := ⟨ga, m, none⟩) (by rintro rfl; exact hI.fg rfl) _, own_setFar hI.oa (p := ⟨ga, m, none⟩) (fun e => hI.fag.elim (fun h1 => by rw [h1] at e; cases e) (fun h1 => h1 e)) _, by rw [← hS, List.map_set]; exact own_put hI.og _, hI.fa, hI.fg, hI.fag⟩
    have hOn : Only r (rowOf (some (⟨ga, 0, none⟩ : Addr))) w (w.setCell ⟨ga, m, none⟩ (.int .i64 (va + x))) := ⟨rfl, rfl, rfl, by simp [World.setCell], fun k hk h1 h2 => Below.heap_setCell w ⟨ga, m, none⟩ _ k (by rintro rfl; exact h2 rfl)⟩
    exact ⟨rfl, hIs.later (Below.drew (Below.refl _ _)), hOn.then_below (Below.drew (Below.refl _ _))⟩
theorem app_below {w W w5 : World} {b : Nat} (hb : Below w.heap.size w W) (hg : W.grownBy w5 (Value.slice (some ⟨b, 0, none⟩) 0 0).ownBlock) (hl : w.heap.size ≤ b) : Below w.heap.size w w5 :=
  hb.grown hg hb.size (fun i hi => by rw [rowOf_own] at hi; injection hi with hi; have hi : b = i := hi; omega)
theorem row_in {A : Option Addr} {n cap b N : Nat} (h : (Value.slice A n cap).ownBlock = (Value.slice (some ⟨b, 0, none⟩) 0 0).ownBlock ∨ (Value.slice A n cap).ownBlock = some N) : ∀ g, rowOf A = some g → g = b ∨ g = N := by
  intro g hg
  rw [rowOf_own, rowOf_own] at h
  rcases h with h | h
  · rw [hg] at h; injection h with h; exact .inl h
  · rw [hg] at h; injection h with h; exact .inr h
theorem own_up {w : World} {B B' : Nat} {e : TypeId} {n cap m : Nat} {A : Option Addr} {xs : List Value} (h : w.ownsRow B e 1 (.slice A n cap) m xs) (hb : ∀ g, rowOf A = some g → B' ≤ g) : w.ownsRow B' e 1 (.slice A n cap) m xs := by
  refine ⟨h.1, ?_⟩
  rcases h.2 with hn | ⟨g, cap', cur, h1, h2, h3⟩
  · exact .inl hn
  · injection h1 with h1' h1''
    exact .inr ⟨g, cap', cur, by rw [h1']; congr 1, hb g (by rw [h1']; rfl), h3⟩
theorem app_old {W w5 : World} {b k : Nat} {o : Obj} (hg : W.grownBy w5 (Value.slice (some ⟨b, 0, none⟩) 0 0).ownBlock) (h : W.heap[k]? = some o) (hk : k ≠ b) : w5.heap[k]? = some o :=
  (hg.block k (Array.getElem?_eq_some_iff.1 h).1 (by rw [rowOf_own]; intro e; injection e with e; exact hk e)).trans h
def KW (a w : World) : Prop := Below a.heap.size a w
theorem KW.bel {a w : World} (h : KW a w) : Below a.heap.size a w := h
abbrev S2 (a : World) (r : Nat) (v u : Value) (w' : World) : Prop := w'.cell? ⟨r, 1, none⟩ = some v ∧ w'.cell? ⟨r, 2, none⟩ = some u ∧ KW a w'
theorem S2.after {a w w' : World} {r : Nat} {v u : Value} (h : S2 a r v u w) (hl : r < a.heap.size) (hb : Below w.heap.size w w') : S2 a r v u w' := by
  have hs : r < w.heap.size := Nat.lt_of_lt_of_le hl h.2.2.size
  exact ⟨(hb.cell (p := ⟨r, 1, none⟩) hs).trans h.1, (hb.cell (p := ⟨r, 2, none⟩) hs).trans h.2.1, b_then h.2.2 hb⟩
theorem S2.to {a w' : World} {r : Nat} {v u : Value} (hl : r < a.heap.size) (h1 : a.cell? ⟨r, 1, none⟩ = some v) (h2 : a.cell? ⟨r, 2, none⟩ = some u) (hb : Below a.heap.size a w') : S2 a r v u w' :=
  ⟨(hb.cell (p := ⟨r, 1, none⟩) hl).trans h1, (hb.cell (p := ⟨r, 2, none⟩) hl).trans h2, hb⟩
theorem b_alloc' {a w : World} {o : Obj} (h : Below a.heap.size a w) : Below a.heap.size a (w.alloc o) := b_alloc h o
theorem lit_at {w : World} {b : Nat} (h : w.heap[b]? = some (.cells #[] 3 (0, 0))) : w.ownsRow 0 3 1 (.slice (some ⟨b, 0, none⟩) 0 0) 0 [] :=
  ⟨rfl, .inr ⟨b, 0, #[], rfl, Nat.zero_le _, h, Nat.le_refl _, by unfold maxLen; omega, rfl, rfl⟩⟩
set_option maxHeartbeats 6400000 in
set_option maxRecDepth 100000 in
theorem Copy_any (h : Is w B r n Aa ca Ag cg A G) (hn : n ≤ 100000) : Calls Try.prog 28 #[.pointer (some ⟨r, 0, none⟩)] w fun e w' => ∃ r' Aa' ca' Ag' cg', e = .returned (.pointer (some ⟨r', 0, none⟩)) ∧ Is w' w.heap.size r' n Aa' ca' Ag' cg' A G ∧ w.heap.size ≤ r' ∧ Below w.heap.size w w' := by
  have hc := h.blk.cell
  have hbl := h.lt
  obtain ⟨i0, hi0, hz0, hz1, hz2⟩ := info_parts info
  have k1 : 0 + n ≤ maxLen := by unfold maxLen; omega
  have k2 : (0 + n) * 8 ≤ 140737488355328 := by omega
  have k4 : ∀ u ∈ A.map (Value.int .i64), u.oneCell' = true := by intro u hu; obtain ⟨x, _, rfl⟩ := List.mem_map.1 hu; rfl
  have k4' : ∀ u ∈ G.map (Value.int .i64), u.oneCell' = true := by intro u hu; obtain ⟨x, _, rfl⟩ := List.mem_map.1 hu; rfl
  have hrA : ∀ w1, Below w.heap.size w w1 → Reads w1 w1.heap.size 1 Aa n (A.map (Value.int .i64)) := fun w1 hb => Reads.of_own (own_later h.oa hb)
  have hrG : ∀ w1, Below w.heap.size w w1 → Reads w1 w1.heap.size 1 Ag n (G.map (Value.int .i64)) := fun w1 hb => Reads.of_own (own_later h.og hb)
  have hcc : ∀ w1, Below w.heap.size w w1 → ∀ i, w1.cell? ⟨r, i, none⟩ = #[Value.bool true, .slice Aa n ca, .slice Ag n cg][i]? := fun w1 hb => (h.blk.below hb h.lt).cell
  have HRA := Lib.hid hrA
  have HRG := Lib.hid hrG
  have HCC := Lib.hid hcc
  clear hrA hrG hcc
  go_enter Try.func28, Try.ntmps28
  go_wp2_with fail
  refine (valid_any B r n ca cg Aa Ag A G _ h).mono ?_
  rintro e w' ⟨rfl, rfl⟩
  clear h
  go_wp2_with fail
  have h1 : w.cell? ⟨r, 1, none⟩ = some (.slice Aa n ca) := (hc 1)
  have h2 : w.cell? ⟨r, 2, none⟩ = some (.slice Ag n cg) := (hc 2)
  have hS0 : S2 w r (.slice Aa n ca) (.slice Ag n cg) w.drew := S2.to hbl h1 h2 (Below.drew (Below.refl _ _))
  clear hc
  go_region_held3 (fun w' => w'.cell? ⟨r, 1, none⟩ = some (.slice Aa n ca) ∧ w'.cell? ⟨r, 2, none⟩ = some (.slice Ag n cg) ∧ KW w w') (first | (with_reducible assumption) | (with_reducible exact hS0) | exact S2.after (by assumption) hbl (b_alloc (Below.refl _ _) _) | go_keep) (first
    | (refine step_append_any _ (by rfl) (.tmp 6) (.tmp 10) 71 (by rfl) 0 3 i0 _ 1 8 Try.underlying71 hi0 hz0 hz1 hz2 rfl (by omega) _ 0 _ (by rfl) (lit_at (by repeat (first | ((with_reducible refine alloc_here' ?_); (simp; done)) | (with_reducible apply alloc_old') | (with_reducible apply drew_old) | (refine app_old hg5 ?_ (by omega))))) _ _ n ca (A.map (Value.int .i64)) (by rfl) (HRA.out _ (by repeat first | exact Below.refl _ _ | assumption | apply Below.drew | apply b_alloc')) k4 k1 k2 (Nat.zero_le _) ?_; intro v5 w5 o5 hg5 hat5; simp only [Nat.zero_add, List.nil_append] at o5; obtain ⟨A5, cap5, rfl⟩ := own_slice o5; have hb5 : Below w.heap.size w w5 := app_below (by repeat first | exact Below.refl _ _ | assumption | apply Below.drew | apply b_alloc') hg5 (by (try simp only [World.size_alloc, World.size_drew]); omega); have hS5 : S2 w r (.slice Aa n ca) (.slice Ag n cg) w5 := S2.to hbl h1 h2 hb5)
    | (refine step_append_any _ (by rfl) (.tmp 12) (.tmp 16) 71 (by rfl) 0 3 i0 _ 1 8 Try.underlying71 hi0 hz0 hz1 hz2 rfl (by omega) _ 0 _ (by rfl) (lit_at (by repeat (first | ((with_reducible refine alloc_here' ?_); (simp; done)) | (with_reducible apply alloc_old') | (with_reducible apply drew_old) | (refine app_old hg5 ?_ (by omega))))) _ _ n cg (G.map (Value.int .i64)) (by rfl) (HRG.out _ (by repeat first | exact Below.refl _ _ | assumption | apply Below.drew | apply b_alloc')) k4' k1 k2 (Nat.zero_le _) ?_; intro v7 w7 o7 hg7 hat7; simp only [Nat.zero_add, List.nil_append] at o7; obtain ⟨A7, cap7, rfl⟩ := own_slice o7; have hb7 : Below w.heap.size w w7 := app_below (by repeat first | exact Below.refl _ _ | assumption | apply Below.drew | apply b_alloc') hg7 (by have := hb5.size; (try simp only [World.size_alloc, World.size_drew]); omega); have hS7 : S2 w r (.slice Aa n ca) (.slice Ag n cg) w7 := S2.to hbl h1 h2 hb7))
  all_goals go_wp2_with fail
  all_goals go_ret
  all_goals
    have r5 := row_in hat5
    have r7 := row_in hat7
    have l5 := fun g hg => (own_row o5 g hg).2
    have l7 := fun g hg => (own_row o7 g hg).2
    have z5 := hb5.size
    have z7 := hg7.size
    have z5' := hg5.size
    simp only [World.size_alloc, World.size_drew] at r5 r7 z7 z5'
    have o5' := own_kept (w' := w7) o5 (fun g hg => (hg7.block g (by have := l5 g hg; (try simp only [World.size_alloc]); omega) (by rw [rowOf_own]; simp only [rowOf, Option.map_some, ne_eq, Option.some.injEq]; have := r5 g hg; have := l5 g hg; omega)).trans (by first | rfl | exact Below.heap_alloc _ _ g (l5 g hg)))
    have u5 := own_up (B' := w.heap.size) o5' (fun g hg => by have := r5 g hg; omega)
    have u7 := own_up (B' := w.heap.size) o7 (fun g hg => by have := r7 g hg; omega)
    have bn := b_alloc (Below.refl w7.heap.size w7) (.cells #[.bool true, .slice A5 n cap5, .slice A7 n cap7] 73)
    refine ⟨_, A5, cap5, A7, cap7, rfl, ⟨Blk.new w7 _ _, own_later u5 bn, own_later u7 bn, ?_, ?_, ?_⟩, hb7.size, b_then hb7 bn⟩
    · intro e
      have := l5 _ e
      have := hb7.size
      omega
    · intro e
      have := l7 _ e
      omega
    · by_cases hr : rowOf A5 = none
      · exact .inl hr
      · refine .inr fun e => ?_
        obtain ⟨g, hg⟩ := Option.ne_none_iff_exists'.1 hr
        have a1 := r5 g hg
        have a2 := r7 g (e ▸ hg)
        have a3 := l5 g hg
        omega
end
end Go.Proofs.Ytjnbkpjpcbmhcaa.Rm
