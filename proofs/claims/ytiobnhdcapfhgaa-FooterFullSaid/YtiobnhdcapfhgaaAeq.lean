/-
  Arrays of sixteen bytes: out of a slice, and compared.
-/
import Derived.DeepKeys
import Derived.Deep.MidRow
import Derived.Test.YtiobnhdcapfhgaaRdc
namespace Go.Proofs.Ytiobnhdcapfhgaa
open Go.RowKit
set_option linter.unusedVariables false
def vals (L : List Int) : Array Value := (L.map (Value.int .u8)).toArray
theorem lits16 {L : List Int} (h : L.length = 16) (hB : BB L) : Try.prog.keyLits 2 74 (L.map (Value.int .u8)) = some (L.map (Lit.int .u8)) := by
  have hw : ∀ x ∈ L, (Lit.int .u8 x).wf = true := by
    intro x hx
    have := hB x hx
    have h0 : IntKind.u8.min = 0 := rfl
    have h1 : IntKind.u8.max = 255 := rfl
    simp [Lit.wf, h0, h1]
    omega
  have ht : Try.prog.cellsOf 74 = 16 := by kernel_rfl
  have he : Try.prog.cellsOf 5 = 1 := by kernel_rfl
  unfold Program.keyLits
  simp only [Try.underlying74, ht, he, List.length_map, h, if_true]
  match L, h with
  | [x0, x1, x2, x3, x4, x5, x6, x7, x8, x9, x10, x11, x12, x13, x14, x15], _ =>
    simp only [List.mem_cons, List.not_mem_nil, or_false, forall_eq_or_imp, forall_eq] at hw
    obtain ⟨h0, h1, h2, h3, h4, h5, h6, h7, h8, h9, h10, h11, h12, h13, h14, h15⟩ := hw
    simp [List.range, List.range.loop, Program.keyLits, Try.underlying5, *]
theorem map_inj_lit {L M : List Int} (h : L.map (Lit.int .u8) = M.map (Lit.int .u8)) : L = M := by
  induction L generalizing M with
  | nil =>
    cases M with
    | nil => rfl
    | cons y M => simp at h
  | cons x L ih =>
    cases M with
    | nil => simp at h
    | cons y M =>
      simp only [List.map_cons, List.cons.injEq] at h
      obtain ⟨h1, h2⟩ := h
      injection h1 with _ h1
      rw [h1, ih h2]
set_option maxRecDepth 100000 in
theorem arr_eq {L M : List Int} (hl : L.length = 16) (hm : M.length = 16) (hL : BB L) (hM : BB M) (w : World) :
    (binOp .neq 74 (.agg (vals L)) (.agg (vals M))).run Try.prog w = .ok (.bool (decide (L ≠ M))) w := by
  have ht : Try.prog.cellsOf 74 = 16 := by kernel_rfl
  have fo : ∀ {L : List Int}, L.length = 16 → (Value.agg (vals L)).formed Try.prog 74 = true := by
    intro L h
    simp [Value.formed, Try.underlying74, ht, vals, h]
  obtain ⟨r, hr, hi⟩ := run_equalIn_deep (P := Try.prog) 9998 2 74 (by kernel_rfl) w 2 2 (.agg (vals L)) (.agg (vals M)) _ _ (fo hl) (fo hm) (lits16 hl hL) (lits16 hm hM)
  rw [show (9998 + 2 : Nat) = 10000 from rfl] at hr
  rw [run_neq_struct, hr]
  simp only [Result.andThen_ok]
  congr 2
  by_cases h : L = M
  · have : r = true := hi.2 (by rw [h])
    rw [this]
    simp [h]
  · have : r = false := by
      cases r with
      | false => rfl
      | true => exact absurd (map_inj_lit (hi.1 rfl)) h
    rw [this]
    simp [h]
set_option maxRecDepth 100000 in
theorem arr_eq0 {L M : List Int} (hl : L.length = 16) (hm : M.length = 16) (hL : BB L) (hM : BB M) (w : World) :
    (Op.equalIn 10000 74 (.agg (vals L)) (.agg (vals M))).run Try.prog w = .ok (decide (L = M)) w := by
  have ht : Try.prog.cellsOf 74 = 16 := by kernel_rfl
  have fo : ∀ {L : List Int}, L.length = 16 → (Value.agg (vals L)).formed Try.prog 74 = true := by
    intro L h
    simp [Value.formed, Try.underlying74, ht, vals, h]
  obtain ⟨r, hr, hi⟩ := run_equalIn_deep (P := Try.prog) 9998 2 74 (by kernel_rfl) w 2 2 (.agg (vals L)) (.agg (vals M)) _ _ (fo hl) (fo hm) (lits16 hl hL) (lits16 hm hM)
  rw [show (9998 + 2 : Nat) = 10000 from rfl] at hr
  rw [hr]
  congr 1
  by_cases h : L = M
  · have : r = true := hi.2 (by rw [h])
    rw [this]
    simp [h]
  · have : r = false := by
      cases r with
      | false => rfl
      | true => exact absurd (map_inj_lit (hi.1 rfl)) h
    rw [this]
    simp [h]
theorem sixteen {L : List Int} (h : L.length = 16) : ∃ x0 x1 x2 x3 x4 x5 x6 x7 x8 x9 x10 x11 x12 x13 x14 x15 : Int, L = [x0, x1, x2, x3, x4, x5, x6, x7, x8, x9, x10, x11, x12, x13, x14, x15] := by
  match L, h with
  | [x0, x1, x2, x3, x4, x5, x6, x7, x8, x9, x10, x11, x12, x13, x14, x15], _ => exact ⟨x0, x1, x2, x3, x4, x5, x6, x7, x8, x9, x10, x11, x12, x13, x14, x15, rfl⟩
theorem RB.at_ {w : World} {b off : Nat} {M : List Int} (h : RB w (some ⟨b, off, none⟩) M) (i : Nat) (x : Int) (hi : M[i]? = some x) : w.cell? ⟨b, off + i, none⟩ = some (.int .u8 x) := by
  have hl : i < M.length := by
    rcases Nat.lt_or_ge i M.length with h | h
    · exact h
    · rw [List.getElem?_eq_none h] at hi; cases hi
  rcases h with ⟨h, _⟩ | ⟨b', off', hq, hc⟩
  · cases h
  · injection hq with hq
    injection hq with hq1 hq2
    subst hq1 hq2
    rw [hc i hl, List.getD_eq_getElem?_getD, hi]
    rfl
theorem arr_at (A : Option Addr) (n cap : Nat) (h : 16 ≤ n) (w : World) : (Instr.arrayAt 74 (.slice A n cap)).run Try.prog w = .ok (.pointer A) w := by
  simp [Instr.arrayAt, Sem.run_bind, run_underlying Try.underlying74]
  omega
theorem RB.range {w : World} {b off : Nat} {L : List Int} (h : RB w (some ⟨b, off, none⟩) L) : w.rangeAt b off (L.map (Value.int .u8)) := by
  intro j v hj
  rcases h with ⟨h, _⟩ | ⟨b', off', hq, hc⟩
  · cases h
  · injection hq with hq
    injection hq with hq1 hq2
    subst hq1 hq2
    rw [List.getElem?_map] at hj
    have hjl : j < L.length := by
      rcases Nat.lt_or_ge j L.length with h | h
      · exact h
      · rw [List.getElem?_eq_none h] at hj; cases hj
    rw [List.getElem?_eq_getElem hjl] at hj
    injection hj with hj
    rw [hc j hjl, ← hj, List.getD_eq_getElem?_getD, List.getElem?_eq_getElem hjl]
    rfl
theorem arr_size {L : List Int} (hl : L.length = 16) : (Try.prog.info? 74).map (·.size) = some (L.map (Value.int .u8)).length := by
  rw [List.length_map, hl]
  kernel_rfl
theorem arr_load {w : World} {b off : Nat} {L : List Int} (h : RB w (some ⟨b, off, none⟩) L) (hl : L.length = 16) : (Instr.loadAt 74 (.pointer (some ⟨b, off, none⟩))).run Try.prog w = .ok (.agg (vals L)) w := by
  exact run_loadAt_mid w b off _ (L.map (Value.int .u8)) _ h.range Try.underlying74 rfl (arr_size hl)
end Go.Proofs.Ytiobnhdcapfhgaa
