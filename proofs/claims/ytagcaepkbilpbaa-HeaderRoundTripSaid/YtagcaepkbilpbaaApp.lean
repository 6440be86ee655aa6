/-
  append onto a slice that is full (its capacity is its length): whatever source; what the result reads as.
-/
import Derived.Test.YtagcaepkbilpbaaArg
import Derived.Test.YtagcaepkbilpbaaWords
namespace Go.Proofs.Ytagcaepkbilpbaa
open Go.RowKit
set_option linter.unusedVariables false

theorem run_append_full {P : Program} (w : World) (t ty e : TypeId) (i : TypeInfo) (z : Value) (bytes : Nat) (ht : P.underlying t = some (.slice e)) (hi : P.info? e = some i) (hz : i.zero = some z)
    (hsize : i.size = 1) (hby : i.bytes = bytes) (hzs : z.cells.size = 1)
    (b off n : Nat) (olds : List Value) (hlo : olds.length = n) (hb : b < w.heap.size) (holds : ∀ j u, olds[j]? = some u → w.cell? ⟨b, off + j, none⟩ = some u)
    (A : Option Addr) (m c : Nat) (news : List Value) (hr : Reads w w.heap.size 1 A m news) (h63 : n + m ≤ maxLen) (hbytes : (n + m) * bytes ≤ 140737488355328) :
    ∃ A' c' w', (Builtin.append_ #[t, t] ty #[.slice (some ⟨b, off, none⟩) n n, .slice A m c]).run P w = .ok (.slice A' (n + m) c') w' ∧ n + m ≤ c' ∧ c' ≤ maxLen ∧
      Reads w' w'.heap.size 1 A' (n + m) (olds ++ news) ∧ Below w.heap.size w w' := by
  rcases Nat.eq_zero_or_pos m with h0 | h0
  · subst h0
    have hn : news = [] := List.eq_nil_of_length_eq_zero (by simpa using hr.1)
    subst hn
    refine ⟨some ⟨b, off, none⟩, n, w, ?_, Nat.le_refl _, h63, ⟨by simpa using hlo, fun _ => ⟨_, rfl, hb, fun j u hj => by rw [Addr.add_lit]; exact holds j u (by simpa using hj)⟩⟩, Below.refl _ _⟩
    cases A <;> simp [Builtin.append_, run_underlying ht, sizeOf, typeInfo, hi, Builtin.lenOf, Builtin.firstCells, storeCells, loadCells, loadCellsFrom]
  · obtain ⟨ad, rfl, hlt, hc⟩ := hr.2 h0
    obtain ⟨v', w', hrun, h2, h3⟩ := run_append_arg_grows (P := P) w t ty e i z 1 bytes ht hi hz hsize hby hzs (by decide) ⟨b, off, none⟩ n n olds (by omega) (fun j u hj => by rw [Addr.add_lit]; exact holds j u hj) ad m c news hr.1 hc (by omega) h63 hbytes
    rcases own_form h2 with ⟨rfl, hn⟩ | ⟨g, cap, rfl, hg, hgl⟩
    · omega
    · rcases h2.2 with ⟨hx, _⟩ | ⟨g', cap', cur, hx, _, _, h4, h5, _⟩
      · cases hx
      · injection hx with hx1 hx2 hx3
        subst hx3
        exact ⟨_, cap, w', hrun, h4, h5, Reads.of_own h2, (Below.refl _ w).grown h3 (Nat.le_refl _) (fun k hk => by cases hk)⟩

theorem step_append_full {P : Program} {w : World} {ops : Array Oper} {o : Oper} {a : Act} {K : Act → World → Prop} {Q : Exit → Act → World → Prop} {E : Prop} (hgd : o.guard = none) (s x : Operand) (t : TypeId)
    (ho : o.op = .call { callee := .builtin .append, args := #[s, x], argTypes := #[t, t] })
    (e : TypeId) (i : TypeInfo) (z : Value) (bytes : Nat) (ht : P.underlying t = some (.slice e)) (hi : P.info? e = some i) (hz : i.zero = some z)
    (hsize : i.size = 1) (hby : i.bytes = bytes) (hzs : z.cells.size = 1)
    (b off n : Nat) (olds : List Value) (hs : a.eval s = .slice (some ⟨b, off, none⟩) n n) (hlo : olds.length = n) (hb : b < w.heap.size) (holds : ∀ j u, olds[j]? = some u → w.cell? ⟨b, off + j, none⟩ = some u)
    (A : Option Addr) (m c : Nat) (news : List Value) (hx : a.eval x = .slice A m c) (hr : Reads w w.heap.size 1 A m news) (h63 : n + m ≤ maxLen) (hbytes : (n + m) * bytes ≤ 140737488355328)
    (h : ∀ A' c' w', n + m ≤ c' → c' ≤ maxLen → Reads w' w'.heap.size 1 A' (n + m) (olds ++ news) → Below w.heap.size w w' → K (a.put o.dst (.slice A' (n + m) c')) w') :
    if Region.wanted o (yielded ops a.tmps) = true then Oper.wp P o a w K Q else E := by
  have hw : Region.wanted o (yielded ops a.tmps) = true := by simp [Region.wanted, hgd]
  rw [if_pos hw]
  obtain ⟨A', c', w', hrun, h2, h3, h4, h5⟩ := run_append_full (P := P) w t o.type e i z bytes ht hi hz hsize hby hzs b off n olds hlo hb holds A m c news hr h63 hbytes
  unfold Oper.wp execOp
  simp only [ho, resolve, invoke, builtin, Sem.run_bind, Sem.run_pure, Result.andThen_ok, List.map_toArray, List.map_cons, List.map_nil, hs, hx, hrun]
  exact h A' c' w' h2 h3 h4 h5

/-- what reads as numbers is bytes -/
theorem Byts.of_reads {w : World} {A : Option Addr} {n cap : Nat} {M : List Int} (h : Reads w w.heap.size 1 A n (M.map (Value.int .u8))) (hn : n ≤ cap) (hm : cap ≤ maxLen) (hr : ∀ i, i < M.length → 0 ≤ M.getD i 0 ∧ M.getD i 0 ≤ 255) :
    Byts w A n cap (fun i => M.getD i 0) := by
  have hl : M.length = n := by have := h.1; simpa using this
  refine ⟨hn, hm, fun i hi => hr i (by omega), fun hp => ?_⟩
  obtain ⟨ad, rfl, hb, hc⟩ := h.2 hp
  obtain ⟨b, off, spot⟩ := ad
  have hg : ∀ i, i < n → (M.map (Value.int .u8))[i]? = some (.int .u8 (M.getD i 0)) := fun i hi => by
    rw [List.getElem?_map, List.getElem?_eq_getElem (by omega), List.getD_eq_getElem?_getD, List.getElem?_eq_getElem (by omega)]
    rfl
  have hx0 := hc 0 _ (hg 0 hp)
  have hsp : spot = none := by simpa [Addr.add] using World.cell?_spot hx0
  subst hsp
  exact ⟨b, off, rfl, hb, fun i hi => by have := hc i _ (hg i hi); rwa [Addr.add_lit] at this⟩
/-- a slice that came in reads as its first k numbers -/
theorem Byts.reads {w : World} {a : Option Addr} {n cap : Nat} {L : Nat → Int} (h : Byts w a n cap L) {k : Nat} (hk : k ≤ n) : Reads w w.heap.size 1 a k (((List.range k).map L).map (Value.int .u8)) := by
  refine ⟨by simp, fun hp => ?_⟩
  obtain ⟨b, off, rfl, hb, hc⟩ := h.2.2.2 (by omega)
  refine ⟨_, rfl, hb, fun j u hj => ?_⟩
  rw [Addr.add_lit]
  by_cases hjk : j < k
  · have hh := hc j (by omega)
    rw [hh]
    simp [List.getElem?_map, List.getElem?_range hjk] at hj
    rw [hj]
  · rw [List.getElem?_eq_none (by simp; omega)] at hj
    cases hj
theorem getD_app_l {l m : List Int} {i : Nat} (h : i < l.length) : (l ++ m).getD i 0 = l.getD i 0 := by
  rw [List.getD_eq_getElem?_getD, List.getElem?_append_left h, ← List.getD_eq_getElem?_getD]
end Go.Proofs.Ytagcaepkbilpbaa
