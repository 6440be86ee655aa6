/-
  A range over a function whose iterator keeps state of its own in cells: between two rounds it may write whatever has been laid since the loop began.
-/
import Derived.RangeFuncNested
import Derived.RangeFuncBound
import Derived.RangeFuncCalls
import Derived.RangeFuncLeaves
import Derived.Test.YtiobnhdcapfhgaaMem
namespace Go.Proofs.Ytiobnhdcapfhgaa
open Go.RowKit
set_option linter.unusedVariables false

/-- from A to B: whatever lay below lo, and whatever lay from hi on, lies as it lay -/
structure Keep (lo hi : Nat) (A B : World) : Prop where
  os : B.os = A.os
  tape : B.tape = A.tape
  output : B.output = A.output
  size : A.heap.size ≤ B.heap.size
  block : ∀ k, k < A.heap.size → (k < lo ∨ hi ≤ k) → B.heap[k]? = A.heap[k]?
section
variable {lo hi : Nat} {A B C : World}
theorem Keep.refl (lo hi : Nat) (A : World) : Keep lo hi A A := ⟨rfl, rfl, rfl, Nat.le_refl _, fun _ _ _ => rfl⟩
theorem Keep.trans (h : Keep lo hi A B) (k : Keep lo hi B C) : Keep lo hi A C :=
  ⟨k.os.trans h.os, k.tape.trans h.tape, k.output.trans h.output, Nat.le_trans h.size k.size, fun i hi ho => (k.block i (Nat.lt_of_lt_of_le hi h.size) ho).trans (h.block i hi ho)⟩
theorem Keep.of_below (h : Below A.heap.size A B) (lo hi : Nat) : Keep lo hi A B := ⟨h.os, h.tape, h.output, h.size, fun k hk _ => h.block k hk⟩
theorem Keep.then_below (h : Keep lo hi A B) (k : Below B.heap.size B C) : Keep lo hi A C := h.trans (Keep.of_below k _ _)
theorem Keep.setCell (h : Keep lo hi A B) {p : Addr} (h1 : lo ≤ p.block) (h2 : p.block < hi) (u : Value) : Keep lo hi A (B.setCell p u) :=
  ⟨h.os, h.tape, h.output, by simpa [World.setCell] using h.size, fun k hk ho => (Below.heap_setCell B p u k (by omega)).trans (h.block k hk ho)⟩
theorem Keep.setNew (h : Keep lo hi A B) {p : Addr} (h1 : A.heap.size ≤ p.block) (u : Value) : Keep lo hi A (B.setCell p u) :=
  ⟨h.os, h.tape, h.output, by simpa [World.setCell] using h.size, fun k hk ho => (Below.heap_setCell B p u k (by omega)).trans (h.block k hk ho)⟩
theorem Keep.putObj (W : World) (l : Nat) (o : Obj) (h1 : lo ≤ l) (h2 : l < hi) : Keep lo hi W (W.putObj l o) :=
  ⟨rfl, rfl, rfl, by simp [World.putObj], fun k _ ho => World.putObj_heap_other (by omega)⟩
theorem Keep.mono {hi' : Nat} (h : Keep lo hi A B) (hh : hi ≤ hi') : Keep lo hi' A B := ⟨h.os, h.tape, h.output, h.size, fun k hk ho => h.block k hk (by omega)⟩
theorem Keep.below (h : Keep lo hi A B) (hl : lo ≤ A.heap.size) : Below lo A B := ⟨h.os, h.tape, h.output, h.size, fun k hk => h.block k (by omega) (.inl hk)⟩
theorem Keep.blk {g : Nat} {t : TypeId} {cs : Array Value} (h : Keep lo hi A B) (hb : Blk A g t cs) (ho : g < lo ∨ hi ≤ g) : Blk B g t cs := (h.block g hb.lt ho).trans hb
theorem below_putObj (W : World) (l : Nat) (o : Obj) {b : Nat} (h : b ≤ l) : Below b W (W.putObj l o) :=
  ⟨rfl, rfl, rfl, by simp [World.putObj], fun k hk => World.putObj_heap_other (by omega)⟩
theorem size_putObj (W : World) (l : Nat) (o : Obj) : (W.putObj l o).heap.size = W.heap.size := by simp [World.putObj]
theorem Blk.putObj {W : World} {g : Nat} {t : TypeId} {cs : Array Value} (hb : Blk W g t cs) {l : Nat} (h : g ≠ l) (o : Obj) : Blk (W.putObj l o) g t cs := (World.putObj_heap_other h).trans hb
end

/-- the iterator's contract: C: its own blocks begin there; lo: what lay below it the rounds keep -/
def IterC {α : Type} (F : Fence) (n : Nat) (P : Program) (g : Nat) (lb : Array Value) (encs : α → Array Value) (lo C : Nat) (S Sp : List α → Prop) (W : World) : Prop :=
  ∀ (l : Nat) (J Jx : List α → World → Prop), (∀ s A B, J s A → Below C A B → J s B) → (∀ s A B, Jx s A → Below C A B → Jx s B) →
    (∀ pre x W1, J pre W1 → YieldAt F (n - 1) P l (encs x) W1 fun e W' => (e = .returned (.bool true) ∧ J (pre ++ [x]) W' ∧ Keep lo C W1 W') ∨ (e = .returned (.bool false) ∧ Jx (pre ++ [x]) W')) →
    J [] W → CallsIn F n P g (#[.func (.yield l) #[] #[]] ++ lb) W fun e W' => (∃ v, e = .returned v) ∧ ((∃ xs, S xs ∧ J xs W') ∨ (∃ pre, Sp pre ∧ Jx pre W'))
/-- how a round may be left -/
def roundOut {α : Type} (lo hi : Nat) (I : List α → World → Prop) (Ix : Code → List α → World → Prop) (xs : List α) (W : World) : Exit → Act → World → Prop
  | .normal, _, W' => Keep lo hi W W' ∧ I xs W'
  | .ret, _, W' => Keep lo hi W W' ∧ Ix .ret xs W'
  | .exit id, _, W' => Keep lo hi W W' ∧ Ix (.exit id) xs W'
  | .goto t, _, W' => Keep lo hi W W' ∧ Ix (.goto t) xs W'
  | .panic _, _, _ => False
  | .outgrown, _, _ => False

theorem range_cells {F : Fence} {n : Nat} {P : Program} {α : Type} {g : Operand} {ps : Array Tmp} {assign body : Code} {Q : Exit → Act → World → Prop} {a : Act} {w : World}
    (hro : F.round = none) (h1 : 1 ≤ n) {gf : Nat} {lb : Array Value} (hg : a.eval g = .func (.func gf) #[] lb) (hFg : F.fn gf) (eg : ∀ args w, (callFunc gf args).run P w = .ok (.enter gf args) w)
    {encs : α → Array Value} {lo : Nat} {S Sp : List α → Prop} (hlo : lo ≤ w.heap.size) (hps : ∀ x, (encs x).size = ps.size)
    (hseq : ∀ W1, Below w.heap.size w W1 → W1.heap.size = w.heap.size + 2 → IterC F (n - 1) P gf lb encs lo (w.heap.size + 2) S Sp W1)
    (I : List α → World → Prop) (Ix : Code → List α → World → Prop) (hI : ∀ s A B, I s A → Below w.heap.size A B → I s B) (hIx : ∀ c s A B, Ix c s A → Below w.heap.size A B → Ix c s B) (h0 : I [] w)
    (hround : ∀ (l : Nat) (pre : List α) (x : α) (W : World), w.heap.size < l → l < W.heap.size → I pre W →
      assign.wpIn (F.inRound l) (n - 1 - 1) P (Exit.then (fun a' W' => Keep lo w.heap.size W W' ∧ I pre W' ∧ ∀ o, body.wpIn (F.inRound l) (n - 1 - 1) P (roundOut lo w.heap.size I Ix (pre ++ [x]) (W'.putObj l o)) a' (W'.putObj l o)) (fun _ _ _ => False))
        { tmps := (ps.zip (encs x)).foldl (fun t (p, v) => t.setIfInBounds p v) a.tmps, defers := [] } W)
    (hdone : ∀ (D : Nat) (xs : List α) (W : World), w.heap.size ≤ D → S xs → I xs W → W.heap[D]? = some (.deferred (some [])) → Q .normal { a with defers := { target := .collected D, args := #[] } :: a.defers } W)
    (hstop : ∀ (D : Nat) (c : Code) (pre : List α) (W : World), w.heap.size ≤ D → Sp pre → Ix c pre W → W.heap[D]? = some (.deferred (some [])) → c.wpIn F n P Q { a with defers := { target := .collected D, args := #[] } :: a.defers } W) :
    (Code.rangeFunc g ps assign body).wpIn F n P Q a w := by
  refine wpIn_rangeFunc fun fn hfn => ?_
  rw [hro]
  generalize hB : w.heap.size = b at *
  obtain ⟨rec, hrec⟩ : ∃ rec : LoopState → Option Code → Loop, rec = fun st pe => { state := st, pending := pe, fn, tmps := a.tmps, params := ps, assign, body, defers := b } := ⟨_, rfl⟩
  obtain ⟨V, hV⟩ : ∃ V, V = (w.alloc (.deferred (some []))).alloc (.loop (rec .ready none)) := ⟨_, rfl⟩
  have hbV : Below b w V := by rw [hV, ← hB]; exact b_alloc (b_alloc (Below.refl _ _) _) _
  have hsV : V.heap.size = b + 2 := by rw [hV]; simp [hB]
  have dV : V.heap[b]? = some (.deferred (some [])) := by
    rw [hV, Below.heap_alloc _ _ _ (by simp [hB]), ← hB]
    exact World.alloc_heap_new w _
  have lV : V.heap[b + 1]? = some (.loop (rec .ready none)) := by
    have h := World.alloc_heap_new (w.alloc (.deferred (some []))) (.loop (rec .ready none))
    rw [World.size_alloc, hB] at h
    rw [hV]
    exact h
  refine ⟨b + 1, [{ target := .collected b, args := #[] }], V, { target := .fn (.func gf) lb, args := #[.func (.yield (b + 1)) #[] #[]] }, V, gf, #[.func (.yield (b + 1)) #[] #[]] ++ lb, V, ?_, ?_, ?_, ?_, fun _ => h1, ?_⟩
  · have h := run_enterLoop_outer (P := P) (w := w) fn a.tmps ps assign body
    rw [hB] at h
    rw [hV, hrec]
    exact h
  · simp only [resolve, hg]
    simp [go_sem]
  · intro f' hf'
    simp [Target.leads] at hf'
    subst hf'
    exact hFg
  · simp [invoke, go_sem, eg]
  · refine (hseq V hbV hsV (b + 1) (fun s W => I s W ∧ W.heap[b]? = some (.deferred (some [])) ∧ W.heap[b + 1]? = some (.loop (rec .ready none)))
      (fun s W => ∃ c, Ix c s W ∧ W.heap[b]? = some (.deferred (some [])) ∧ W.heap[b + 1]? = some (.loop (rec .done (some c))))
      (fun s A B h hb => ⟨hI s A B h.1 (hb.mono (by omega)), (hb.block b (by omega)).trans h.2.1, (hb.block (b + 1) (by omega)).trans h.2.2⟩)
      (fun s A B h hb => by
        obtain ⟨c, hc, hd, hl⟩ := h
        exact ⟨c, hIx c s A B hc (hb.mono (by omega)), (hb.block b (by omega)).trans hd, (hb.block (b + 1) (by omega)).trans hl⟩)
      ?_ ⟨hI _ _ _ h0 hbV, dV, lV⟩).mono ?_
    · rintro pre x W ⟨hi, hd, hl⟩
      have hlt : b + 1 < W.heap.size := (Array.getElem?_eq_some_iff.1 hl).1
      have hy := run_yield (P := P) (args := encs x) hl (by rw [hrec]; exact hps x)
      rw [hrec] at hy
      refine ⟨fn, _, assign, body, hy, roundIn_of_wpIn hfn (wpIn_mono (hround (b + 1) pre x W (by omega) hlt hi) ?_)⟩
      intro e a3 W3 hp
      cases e with
      | normal =>
        obtain ⟨hk, hi3, hbody⟩ := hp
        have hd3 : W3.heap[b]? = some (.deferred (some [])) := (hk.block b (by omega) (.inr (Nat.le_refl _))).trans hd
        have hl3 : W3.heap[b + 1]? = some (.loop (rec .ready none)) := (hk.block (b + 1) hlt (.inr (by omega))).trans hl
        refine ⟨_, run_beginRound hl3 (by rw [hrec]), ?_⟩
        obtain ⟨o, ho⟩ : ∃ o : Obj, o = .loop { rec .ready none with state := .busy } := ⟨_, rfl⟩
        rw [← ho]
        have hlt3 : b + 1 < W3.heap.size := (Array.getElem?_eq_some_iff.1 hl3).1
        have hk4 : Keep lo (b + 2) W (W3.putObj (b + 1) o) := (hk.mono (by omega)).trans (Keep.putObj _ _ _ (by omega) (by omega))
        have hd4 : (W3.putObj (b + 1) o).heap[b]? = some (.deferred (some [])) := (World.putObj_heap_other (by omega)).trans hd3
        have hl4 : (W3.putObj (b + 1) o).heap[b + 1]? = some o := World.putObj_heap_same hlt3
        refine wpIn_mono (hbody o) ?_
        have fin : ∀ (jump : Option Code) (W5 : World), Keep lo b (W3.putObj (b + 1) o) W5 →
            (Instr.endRound (b + 1) jump).run P W5 = .ok (.bool jump.isNone) (W5.putObj (b + 1) (.loop (rec (if jump.isNone then .ready else .done) jump))) ∧
            (W5.putObj (b + 1) (.loop (rec (if jump.isNone then .ready else .done) jump))).heap[b]? = some (.deferred (some [])) ∧
            (W5.putObj (b + 1) (.loop (rec (if jump.isNone then .ready else .done) jump))).heap[b + 1]? = some (.loop (rec (if jump.isNone then .ready else .done) jump)) ∧
            Keep lo (b + 2) W (W5.putObj (b + 1) (.loop (rec (if jump.isNone then .ready else .done) jump))) := by
          intro jump W5 k5
          have hd5 := (k5.block b (by rw [size_putObj]; omega) (.inr (Nat.le_refl _))).trans hd4
          have hl5 := (k5.block (b + 1) (by rw [size_putObj]; exact hlt3) (.inr (by omega))).trans hl4
          rw [ho] at hl5
          have hr := run_endRound (P := P) jump hl5
          rw [hrec] at hr ⊢
          exact ⟨hr, (World.putObj_heap_other (by omega)).trans hd5, World.putObj_heap_same (Array.getElem?_eq_some_iff.1 hl5).1, (hk4.trans (k5.mono (by omega))).trans (Keep.putObj _ _ _ (by omega) (by omega))⟩
        intro e a5 W5 hq
        cases e with
        | normal =>
          obtain ⟨k5, i5⟩ := hq
          obtain ⟨hr, hd6, hl6, k6⟩ := fin none W5 k5
          exact ⟨_, _, hr, .inl ⟨rfl, ⟨hI _ _ _ i5 (below_putObj _ _ _ (by omega)), hd6, hl6⟩, k6⟩⟩
        | ret =>
          obtain ⟨k5, i5⟩ := hq
          obtain ⟨hr, hd6, hl6, k6⟩ := fin (some .ret) W5 k5
          exact ⟨_, _, hr, .inr ⟨rfl, .ret, hIx _ _ _ _ i5 (below_putObj _ _ _ (by omega)), hd6, hl6⟩⟩
        | exit id =>
          obtain ⟨k5, i5⟩ := hq
          obtain ⟨hr, hd6, hl6, k6⟩ := fin (some (.exit id)) W5 k5
          exact ⟨_, _, hr, .inr ⟨rfl, .exit id, hIx _ _ _ _ i5 (below_putObj _ _ _ (by omega)), hd6, hl6⟩⟩
        | goto t =>
          obtain ⟨k5, i5⟩ := hq
          obtain ⟨hr, hd6, hl6, k6⟩ := fin (some (.goto t)) W5 k5
          exact ⟨_, _, hr, .inr ⟨rfl, .goto t, hIx _ _ _ _ i5 (below_putObj _ _ _ (by omega)), hd6, hl6⟩⟩
        | panic ch => exact hq.elim
        | outgrown => exact hq.elim
      | ret => exact hp.elim
      | exit id => exact hp.elim
      | goto t => exact hp.elim
      | panic ch => exact hp.elim
      | outgrown => exact hp.elim
    · rintro e W2 ⟨⟨v, rfl⟩, (⟨xs, hS, hi, hd, hl⟩ | ⟨pre, hSp, c, hi, hd, hl⟩)⟩
      · have hr := run_endLoop (P := P) hl (by rw [hrec]; simp)
        rw [hrec] at hr
        exact ⟨none, _, hr, hdone b xs _ (Nat.le_refl _) hS (hI _ _ _ hi (below_putObj _ _ _ (by omega))) ((World.putObj_heap_other (by omega)).trans hd)⟩
      · have hr := run_endLoop (P := P) hl (by rw [hrec]; simp)
        rw [hrec] at hr
        exact ⟨some c, _, hr, hstop b c pre _ (Nat.le_refl _) hSp (hIx _ _ _ _ hi (below_putObj _ _ _ (by omega))) ((World.putObj_heap_other (by omega)).trans hd)⟩
end Go.Proofs.Ytiobnhdcapfhgaa
