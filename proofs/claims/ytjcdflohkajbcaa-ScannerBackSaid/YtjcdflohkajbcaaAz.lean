/-
  append(b, make([]byte, n)...) at a row of one's own: zeros are set behind it.
-/
import Derived.Test.YtjcdflohkajbcaaSC
import Derived.Maps.AppendAt
namespace Go.Proofs.Ytjcdflohkajbcaa
open Go.ChangeShapes Go.WideShapes Go.ChangeAt Go.RowKit Go.Joins Go.Deep
set_option linter.unusedVariables false
set_option linter.unusedSimpArgs false
theorem zc_list (n : Nat) : (Builtin.zeroCells #[.int .u8 0] n).toList = List.replicate n (.int .u8 0) := by
  apply List.ext_getElem?
  intro j
  by_cases hj : j < n
  · simp [Builtin.zeroCells, hj, Nat.mod_one]
  · simp [Builtin.zeroCells, hj]
theorem app_zeros (w : World) (B : Nat) (v : Value) (n m : Nat) (xs : List Value) (ty : TypeId) (hown : w.ownsRow B 5 1 v n xs) (hn : n ≤ 100000) (hm : m ≤ 100000) (hbase : B ≤ w.heap.size) :
    ∃ v' w', (Builtin.append_ #[25, 3] ty #[v, .int .i64 (m : Int)]).run Try.prog w = .ok v' w' ∧ w'.ownsRow B 5 1 v' (n + m) (xs ++ List.replicate m (.int .u8 0)) ∧ w.grownBy w' v.ownBlock ∧ (v'.ownBlock = v.ownBlock ∨ v'.ownBlock = some w.heap.size) := by
  obtain ⟨i, hi, hz, hz1, hz2⟩ := info_parts byte_info'
  have hwrap : IntKind.i64.wrap (m : Int) = m := by rw [IntKind.wrap_i64]; omega
  have ht : Try.prog.underlying 25 = some (.slice 5) := Try.underlying25
  have hti : Try.prog.underlying 3 = some (.int .i64) := Try.underlying3
  have hw0 : IntKind.i64.wrap 0 = 0 := by decide
  have hneg : ¬ ((m : Int) < 0) := by omega
  have h48 : ¬ (281474976710656 < (m : Int)) := by omega
  have hzc := zc_list m
  have hlen : (xs ++ List.replicate m (Value.int .u8 0)).length = (n + m) * 1 := by rw [List.length_append, hown.1, List.length_replicate]; omega
  have grown : ∀ (old : Nat), old < n + m → ∀ (row : Option Nat),
      (w.drew.alloc (.cells (xs.toArray ++ Builtin.zeroCells #[.int .u8 0] m ++ Builtin.zeroCells #[.int .u8 0] (grownCap w (n + m) old 5 - (n + m))) 5)).ownsRow B 5 1
        (.slice (some ⟨w.heap.size, 0, none⟩) (n + m) (grownCap w (n + m) old 5)) (n + m) (xs ++ List.replicate m (.int .u8 0)) ∧
      w.grownBy (w.drew.alloc (.cells (xs.toArray ++ Builtin.zeroCells #[.int .u8 0] m ++ Builtin.zeroCells #[.int .u8 0] (grownCap w (n + m) old 5 - (n + m))) 5)) row := by
    intro old ho row
    have hge := grownCap_ge w (n + m) old 5
    have hcm : grownCap w (n + m) old 5 ≤ maxLen := grownCap_le_maxLen w (n + m) old 5 (by unfold maxLen; omega)
    refine ⟨⟨hlen, .inr ⟨w.heap.size, _, _, rfl, hbase, heap_alloc_new w.drew _, hge, hcm, ?_, ?_⟩⟩, ⟨rfl, rfl, rfl, by simp, fun k hk _ => heap_alloc_old w.drew _ (by simpa using hk)⟩⟩
    · simp only [Array.size_append, List.size_toArray, size_zeroCells, hown.1, List.size_toArray, List.length_cons, List.length_nil]
      omega
    · simp only [Array.toList_append, hzc]
      rw [← hlen]
      exact List.take_left
  rcases hown.2 with ⟨rfl, rfl⟩ | ⟨g, cap, cur, rfl, hbg, hg, hnc, hcm, hcs, htake⟩
  · have hx : xs = [] := List.eq_nil_of_length_eq_zero (by simpa using hown.1)
    subst hx
    by_cases h0 : m = 0
    · subst h0
      refine ⟨.slice none 0 0, w, ?_, World.ownsRow_nil w _ _ _, World.grownBy.refl w _, Or.inl rfl⟩
      simp [Builtin.append_, run_underlying ht, run_underlying hti, sizeOf, typeInfo, hi, hz1, hz2, asInt, asIntOf, hw0, hwrap]
    · have hgr := grown 0 (by omega) (Value.ownBlock (.slice none 0 0))
      have h48' : ¬ (281474976710656 < Builtin.nextslicecap m 0) := by rw [nextslicecap_zero (by omega)]; omega
      have h63' : ¬ (9223372036854775807 < (m : Int)) := by omega
      have hr : (Builtin.append_ #[25, 3] ty #[.slice none 0 0, .int .i64 (m : Int)]).run Try.prog w = .ok (.slice (some ⟨w.heap.size, 0, none⟩) m (grownCap w m 0 5)) (w.drew.alloc (.cells (Builtin.zeroCells #[.int .u8 0] m ++ Builtin.zeroCells #[.int .u8 0] (grownCap w m 0 5 - m)) 5)) := by
        simp [Builtin.append_, run_underlying ht, run_underlying hti, sizeOf, typeInfo, zeroValue, hi, hz, hz1, hz2, asInt, asIntOf, hw0, hwrap, hneg, h48, h0, h63', h48', Question.forced, run_firstCells_none, newRow, grownCap, Value.cells]
      simp only [Nat.zero_add, List.nil_append, Array.empty_append] at hgr hr ⊢
      exact ⟨_, _, hr, hgr.1, hgr.2, Or.inr rfl⟩
  · by_cases hroom : n + m ≤ cap
    · have hr : (Builtin.append_ #[25, 3] ty #[.slice (some ⟨g, 0, none⟩) n cap, .int .i64 (m : Int)]).run Try.prog w = .ok (.slice (some ⟨g, 0, none⟩) (n + m) cap) (w.setRow g (cur.toList.take n ++ List.replicate m (Value.int .u8 0) ++ cur.toList.drop (n + m)).toArray) := by
        have hst := run_storeCells_at Try.prog g n 5 (List.replicate m (.int .u8 0)) 0 cur w hg (by rw [List.length_replicate, hcs]; omega) (by intro u hu; rw [List.eq_of_mem_replicate hu]; rfl)
        simp only [Nat.add_zero, List.length_replicate] at hst
        by_cases h0 : m = 0
        · subst h0
          have hnc' : n ≤ cap := hnc
          have e1 : w.setRow g (cur.toList.take n ++ List.replicate 0 (Value.int .u8 0) ++ cur.toList.drop (n + 0)).toArray = w := by
            rw [List.replicate_zero, List.append_nil, Nat.add_zero, List.take_append_drop, Array.toArray_toList]
            exact setRow_self w g cur _ (0, 0) hg
          rw [e1]
          simp [Builtin.append_, run_underlying ht, run_underlying hti, sizeOf, typeInfo, zeroValue, hi, hz, hz1, hz2, asInt, asIntOf, hw0, hnc', Addr.add_lit, storeCells]
        · simp [Builtin.append_, run_underlying ht, run_underlying hti, sizeOf, typeInfo, zeroValue, hi, hz, hz1, hz2, asInt, asIntOf, hw0, hwrap, hneg, h48, h0, hroom, Addr.add_lit, Value.cells, hzc, hst]
      refine ⟨_, _, hr, ⟨hlen, .inr ⟨g, cap, _, rfl, hbg, setRow_heap w g cur _ _ _ hg, hroom, hcm, ?_, ?_⟩⟩, ⟨rfl, rfl, rfl, by simp, fun k _ hk => setRow_other w g k _ (fun e => hk (by simp [Value.ownBlock, e]))⟩, Or.inl rfl⟩
      · simp only [List.size_toArray, List.length_append, List.length_take, List.length_drop, Array.length_toList, List.length_replicate]
        omega
      · rw [Nat.mul_one] at htake
        rw [htake, ← hlen]
        exact List.take_left
    · have holds : ∀ j u, xs[j]? = some u → w.cell? ((⟨g, 0, none⟩ : Addr).add j) = some u := hown.cells (g := g) rfl
      have hfo := run_firstCells_some (P := Try.prog) w.drew 1 n ⟨g, 0, none⟩ n cap xs hown.1 (by simpa using holds)
      have hgr := grown cap (by omega) (Value.ownBlock (.slice (some ⟨g, 0, none⟩) n cap))
      have h0 : ¬ m = 0 := by omega
      have h63' : ¬ (9223372036854775807 < ((n : Int) + (m : Int))) := by omega
      have h48' : ¬ (281474976710656 < Builtin.nextslicecap (n + m) cap) := by have := nextslicecap_le (need := n + m) (old := cap) (by omega); omega
      have hr : (Builtin.append_ #[25, 3] ty #[.slice (some ⟨g, 0, none⟩) n cap, .int .i64 (m : Int)]).run Try.prog w = .ok (.slice (some ⟨w.heap.size, 0, none⟩) (n + m) (grownCap w (n + m) cap 5)) (w.drew.alloc (.cells (xs.toArray ++ Builtin.zeroCells #[.int .u8 0] m ++ Builtin.zeroCells #[.int .u8 0] (grownCap w (n + m) cap 5 - (n + m))) 5)) := by
        simp [Builtin.append_, run_underlying ht, run_underlying hti, sizeOf, typeInfo, zeroValue, hi, hz, hz1, hz2, asInt, asIntOf, hw0, hwrap, hneg, h48, h0, hroom, h63', h48', Question.forced, hfo, newRow, grownCap, Value.cells]
      exact ⟨_, _, hr, hgr.1, hgr.2, Or.inr rfl⟩
theorem wpList_append_zeros {ops : Array Oper} {rest : List Oper} {o : Oper} {a : Act} {Q : Exit → Act → World → Prop} (w : World) (hgd : o.guard = none) (s x : Operand)
    (ho : o.op = .call { callee := .builtin .append, args := #[s, x], argTypes := #[25, 3] })
    (B : Nat) (v : Value) (n m : Nat) (xs : List Value) (hs : a.eval s = v) (hx : a.eval x = .int .i64 (m : Int)) (hown : w.ownsRow B 5 1 v n xs) (hn : n ≤ 100000) (hm : m ≤ 100000) (hbase : B ≤ w.heap.size)
    (h : ∀ v' w', w'.ownsRow B 5 1 v' (n + m) (xs ++ List.replicate m (.int .u8 0)) → w.grownBy w' v.ownBlock → (v'.ownBlock = v.ownBlock ∨ v'.ownBlock = some w.heap.size) → wpList Try.prog ops Q rest (a.put o.dst v') w') : wpList Try.prog ops Q (o :: rest) a w :=
  wpList_plain hgd fun K hK => by
    obtain ⟨v', w', hrun, h2, h3, h4⟩ := app_zeros w B v n m xs o.type hown hn hm hbase
    unfold Oper.wp execOp
    simp only [ho, resolve, invoke, builtin, Sem.run_bind, Sem.run_pure, Result.andThen_ok, List.map_toArray, List.map_cons, List.map_nil, hs, hx, hrun]
    exact hK _ _ (h v' w' h2 h3 h4)
theorem zdec (m : Nat) : (decF (List.replicate m 0)).2.2 ≠ 0 := by
  rcases Nat.lt_or_ge m 16 with h | h
  · unfold decF
    simp only []
    rw [if_pos (by simpa using h)]
    decide
  · have hg : ∀ i, (List.replicate m (0 : Int)).getD i 0 = 0 := by
      intro i
      rw [List.getD_eq_getElem?_getD, List.getElem?_replicate]
      split <;> rfl
    unfold decF
    simp only []
    rw [if_neg (by simp; omega), if_pos]
    · decide
    · intro h
      have h1 : HOk ((List.replicate m (0 : Int)).getD 4 0) _ _ _ := h.1
      rw [hg 4] at h1
      unfold HOk at h1
      omega
theorem zfdec (m : Nat) (h : 16 ≤ m) : (fdec (List.replicate m 0)).2.2 ≠ 0 := by
  have hg : ∀ i, (List.replicate m (0 : Int)).getD i 0 = 0 := by
    intro i
    rw [List.getD_eq_getElem?_getD, List.getElem?_replicate]
    split <;> rfl
  unfold fdec
  simp only []
  rw [if_neg (by simp; omega), if_pos]
  · decide
  · intro h
    have h1 := h.2.1
    rw [hg 4] at h1
    omega
theorem back_facts {rs : List Rc} (hok : ∀ r ∈ rs, r.Ok) (m : Nat) :
    Scanned (encL rs ++ List.replicate m 0) (pairsF 0 rs) (sizeL rs) ∧ (0 < m → sealB (encL rs ++ List.replicate m 0) rs (sizeL rs) = false ∧ reasonF (encL rs ++ List.replicate m 0) rs (sizeL rs) ≠ 0) := by
  have hd : (encL rs ++ List.replicate m (0 : Int)).drop (sizeL rs) = List.replicate m 0 := List.drop_left' rfl
  have hl : (encL rs ++ List.replicate m (0 : Int)).length = sizeL rs + m := by rw [List.length_append, List.length_replicate]; rfl
  refine ⟨scanned_encs hok (zdec m), fun hm => ?_⟩
  have hs : sealB (encL rs ++ List.replicate m 0) rs (sizeL rs) = false := sealB_no fun h16 => by
    rw [hd]
    exact zfdec m (by omega)
  refine ⟨hs, ?_⟩
  unfold reasonF
  rw [hs, hd, hl, if_neg (by simp; omega)]
  exact zdec m
theorem zeros_bb (m : Nat) : BB (List.replicate m (0 : Int)) := by
  intro x hx
  rw [List.eq_of_mem_replicate hx]
  omega
theorem RI.cellAt {w w' : World} {b o : Nat} {L : List Value} (h : RI w (some ⟨b, o, none⟩) L) (hb : Below w.heap.size w w') {i : Nat} {u : Value} (hu : L[i]? = some u) : w'.cell? ⟨b, o + i, none⟩ = some u := by
  obtain ⟨b', o', e, _, h2⟩ := (h.later hb).cell hu
  injection e with e
  injection e with e1 e2
  subst e1 e2
  exact h2
end Go.Proofs.Ytjcdflohkajbcaa
