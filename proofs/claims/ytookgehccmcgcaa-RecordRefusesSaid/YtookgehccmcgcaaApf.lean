/-
  append onto a slice that is full (its capacity is its length): what comes reads as both, one behind the other.
-/
import Derived.Test.YtookgehccmcgcaaStr
import Derived.Deep.AppendLies
namespace Go.Proofs.Ytookgehccmcgcaa
open Go.RowKit
set_option linter.unusedVariables false
theorem RB.of_reads {w : World} {A : Option Addr} {n : Nat} {M : List Int} (h : Reads w w.heap.size 1 A n (M.map (Value.int .u8))) (hp : 0 < n) : RB w A M := by
  have hl : M.length = n := by have := h.1; simpa using this
  obtain ⟨ad, rfl, hb, hc⟩ := h.2 hp
  obtain ⟨b, off, spot⟩ := ad
  have hg : ∀ i, i < n → (M.map (Value.int .u8))[i]? = some (.int .u8 (M.getD i 0)) := fun i hi => by
    rw [List.getElem?_map, List.getElem?_eq_getElem (by omega), List.getD_eq_getElem?_getD, List.getElem?_eq_getElem (by omega)]
    rfl
  have hx0 := hc 0 _ (hg 0 hp)
  have hsp : spot = none := by simpa [Addr.add] using World.cell?_spot hx0
  subst hsp
  exact .inr ⟨b, off, rfl, fun i hi => by have := hc i _ (hg i (by omega)); rwa [Addr.add_lit] at this⟩
theorem Reads.byte (w : World) (t : TypeId) (x : Int) : Reads (w.alloc (.cells #[.int .u8 x] t)) (w.alloc (.cells #[.int .u8 x] t)).heap.size 1 (some ⟨w.heap.size, 0, none⟩) 1 ([x].map (Value.int .u8)) := by
  have := Reads.one w t (.int .u8 x)
  simpa using this
theorem wpList_append_full {P : Program} {w : World} {ops : Array Oper} {rest : List Oper} {o : Oper} {a : Act} {Q : Exit → Act → World → Prop} (hgd : o.guard = none) (s x : Operand) (t : TypeId)
    (ho : o.op = .call { callee := .builtin .append, args := #[s, x], argTypes := #[t, t] })
    (e : TypeId) (i : TypeInfo) (ht : P.underlying t = some (.slice e)) (hi : P.info? e = some i) (hz : i.zero = some (.int .u8 0))
    (hsize : i.size = 1) (hby : i.bytes = 1)
    (b n : Nat) (M : List Int) (hs : a.eval s = .slice (some ⟨b, 0, none⟩) n n) (hn : M.length = n) (hp : 0 < n) (hR : RB w (some ⟨b, 0, none⟩) M) (hb : b < w.heap.size)
    (A : Option Addr) (m c : Nat) (N : List Int) (hx : a.eval x = .slice A m c) (hr : Reads w w.heap.size 1 A m (N.map (Value.int .u8))) (h63 : n + m ≤ maxLen) (hbytes : n + m ≤ 140737488355328)
    (h : ∀ A' c' w', n + m ≤ c' → c' ≤ maxLen → RB w' A' (M ++ N) → Below w.heap.size w w' → wpList P ops Q rest (a.put o.dst (.slice A' (n + m) c')) w') : wpList P ops Q (o :: rest) a w := by
  refine wpList_plain hgd fun _ hK => ?_
  have hN : N.length = m := by have := hr.1; simpa using this
  have holds : ∀ j u, (M.map (Value.int .u8))[j]? = some u → w.cell? ⟨b, 0 + j, none⟩ = some u := by
    rcases hR with ⟨h, _⟩ | ⟨b', off', hq, hc⟩
    · cases h
    · injection hq with hq
      injection hq with hq1 hq2
      subst hq1 hq2
      intro j u hj
      rw [List.getElem?_map] at hj
      have hl : j < M.length := by
        rcases Nat.lt_or_ge j M.length with h | h
        · exact h
        · rw [List.getElem?_eq_none h] at hj; cases hj
      rw [List.getElem?_eq_getElem hl] at hj
      injection hj with hj
      rw [hc j hl, ← hj, List.getD_eq_getElem?_getD, List.getElem?_eq_getElem hl]
      rfl
  have key : ∃ A' c' w', (Builtin.append_ #[t, t] o.type #[.slice (some ⟨b, 0, none⟩) n n, .slice A m c]).run P w = .ok (.slice A' (n + m) c') w' ∧ n + m ≤ c' ∧ c' ≤ maxLen ∧
      RB w' A' (M ++ N) ∧ Below w.heap.size w w' := by
    rcases Nat.eq_zero_or_pos m with h0 | h0
    · subst h0
      have hn0 : N = [] := List.eq_nil_of_length_eq_zero hN
      subst hn0
      refine ⟨some ⟨b, 0, none⟩, n, w, ?_, Nat.le_refl _, h63, by simpa using hR, Below.refl _ _⟩
      cases A <;> simp [Builtin.append_, run_underlying ht, sizeOf, typeInfo, hi, Builtin.lenOf, Builtin.firstCells, storeCells, loadCells, loadCellsFrom]
    · obtain ⟨ad, rfl, hlt, hc⟩ := hr.2 h0
      obtain ⟨v', w', hrun, h2, h3⟩ := run_append_arg_grows (P := P) w t o.type e i (.int .u8 0) 1 1 ht hi hz hsize hby rfl (by decide) ⟨b, 0, none⟩ n n (M.map (Value.int .u8)) (by simpa using hn) (fun j u hj => by rw [Addr.add_lit]; exact holds j u hj) ad m c _ hr.1 hc (by omega) h63 (by omega)
      rcases own_form h2 with ⟨rfl, hn⟩ | ⟨g, cap, rfl, hg, hgl⟩
      · omega
      · rcases h2.2 with ⟨hx, _⟩ | ⟨g', cap', cur, hx, _, _, h4, h5, _⟩
        · cases hx
        · injection hx with hx1 hx2 hx3
          subst hx3
          have hrd := Reads.of_own h2
          rw [← List.map_append] at hrd
          exact ⟨_, cap, w', hrun, h4, h5, RB.of_reads hrd (by omega), (Below.refl _ w).grown h3 (Nat.le_refl _) (fun k hk => by cases hk)⟩
  obtain ⟨A', c', w', hrun, h2, h3, h4, h5⟩ := key
  unfold Oper.wp execOp
  simp only [ho, resolve, invoke, builtin, Sem.run_bind, Sem.run_pure, Result.andThen_ok, List.map_toArray, List.map_cons, List.map_nil, hs, hx, hrun]
  exact hK _ _ (h A' c' w' h2 h3 h4 h5)
end Go.Proofs.Ytookgehccmcgcaa
