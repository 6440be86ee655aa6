/-
  A range over a function whose iterator only reads, lays blocks of its own, and may range over another; the body may let one row grow.
-/
import Derived.Test.YtjnbkpjpcbmhcaaRng
namespace Go.Proofs.Ytjnbkpjpcbmhcaa
open Go.RowKit
set_option linter.unusedVariables false

/-- a row that is r, or none, or new since w -/
def NewRow (w : World) (r r' : Option Nat) : Prop := r' = r ∨ ∀ k, r' = some k → w.heap.size ≤ k
/-- what lay from C on, but for block r, lies as it lay; the row is r' now -/
structure Rd (C : Nat) (r r' : Option Nat) (A B : World) : Prop where
  size : A.heap.size ≤ B.heap.size
  block : ∀ g, C ≤ g → g < A.heap.size → some g ≠ r → B.heap[g]? = A.heap[g]?
  row : NewRow A r r'
section
variable {b C C' : Nat} {r r' r'' : Option Nat} {A B D w : World}
theorem NewRow.refl (w : World) (r : Option Nat) : NewRow w r r := .inl rfl
theorem NewRow.trans (h : NewRow A r r') (k : NewRow B r' r'') (hs : A.heap.size ≤ B.heap.size) : NewRow A r r'' := by
  rcases k with rfl | hj
  · exact h
  · exact .inr fun k hk => Nat.le_trans hs (hj k hk)
theorem NewRow.new {g : Nat} (hg : w.heap.size ≤ g) : NewRow w r (some g) := .inr fun k hk => by injection hk with hk; omega
theorem NewRow.none : NewRow w r none := .inr fun k hk => by cases hk
theorem NewRow.ne (h : NewRow w r r') {g : Nat} (hg : g < w.heap.size) (hr : some g ≠ r) : some g ≠ r' := by
  rcases h with rfl | hj
  · exact hr
  · intro e
    have := hj g e.symm
    omega
theorem Rd.refl (C : Nat) (r : Option Nat) (A : World) : Rd C r r A A := ⟨Nat.le_refl _, fun _ _ _ _ => rfl, .inl rfl⟩
theorem Rd.trans (h : Rd C r r' A B) (k : Rd C r' r'' B D) : Rd C r r'' A D :=
  ⟨Nat.le_trans h.size k.size, fun g hC hg hr => (k.block g hC (Nat.lt_of_lt_of_le hg h.size) (h.row.ne hg hr)).trans (h.block g hC hg hr), h.row.trans k.row h.size⟩
theorem Rd.mono (h : Rd C r r' A B) (hC : C ≤ C') : Rd C' r r' A B := ⟨h.size, fun g hg => h.block g (Nat.le_trans hC hg), h.row⟩
theorem Rd.new (h : Below A.heap.size A B) (C : Nat) (r : Option Nat) : Rd C r r A B := ⟨h.size, fun g _ hg _ => h.block g hg, .inl rfl⟩
theorem Rd.then_below (h : Rd C r r' A B) (k : Below B.heap.size B D) : Rd C r r' A D := h.trans (Rd.new k C r')
theorem Rd.set_ (h : Rd C r r' A B) {p : Addr} (hp : p.block < C ∨ A.heap.size ≤ p.block) (u : Value) : Rd C r r' A (B.setCell p u) :=
  ⟨by simpa [World.setCell] using h.size, fun g hC hg hr => (Below.heap_setCell B p u g (by omega)).trans (h.block g hC hg hr), h.row⟩
theorem Rd.putObj {l : Nat} (A : World) (o : Obj) (r : Option Nat) (h : l < C) : Rd C r r A (A.putObj l o) := ⟨by simp [World.putObj], fun g hC _ _ => World.putObj_heap_other (by omega), .inl rfl⟩
/-- a row that grew: the block as it was, or a new one -/
theorem Rd.grown (hg : A.grownBy B r) (hr : NewRow A r r') : Rd C r r' A B := ⟨hg.size, fun g _ h hne => hg.block g h hne, hr⟩
theorem own_new {β : Type} {b : Nat} {I : β → World → Prop} (h : OwnFrom b I) {s : β} {A B : World} (hs : I s A) (hb : Below A.heap.size A B) : I s B := h s A B none hs (g_of_below hb none) (fun r e => by cases e)
end
/-- the iterator's contract; C: its own blocks begin there; G: what holds at each round's beginning and end -/
def IterK {α : Type} (F : Fence) (n : Nat) (P : Program) (g : Nat) (lb : Array Value) (encs : α → Array Value) (C : Nat) (G : World → Prop) (S Sp : List α → Prop) (W : World) : Prop :=
  ∀ (l : Nat) (J Jx : List α × Option Nat → World → Prop) (r0 : Option Nat), OwnFrom C J → OwnFrom C Jx → (∀ s A, J s A → G A) → (∀ k, r0 = some k → k < W.heap.size) →
    (∀ pre x r W1, J (pre, r) W1 → Sp (pre ++ [x]) → YieldAt F (n - 1) P l (encs x) W1 fun e W' => ∃ r', Rd C r r' W1 W' ∧ ((e = .returned (.bool true) ∧ J (pre ++ [x], r') W') ∨ (e = .returned (.bool false) ∧ Jx (pre ++ [x], r') W'))) →
    J ([], r0) W → CallsIn F n P g (#[.func (.yield l) #[] #[]] ++ lb) W fun e W' => (∃ v, e = .returned v) ∧ ((∃ xs r, S xs ∧ J (xs, r) W') ∨ (∃ pre r, Sp pre ∧ Jx (pre, r) W'))
/-- how a round may be left -/
def outK {α : Type} (b : Nat) (I : List α × Option Nat → World → Prop) (Ix : Code → List α × Option Nat → World → Prop) (xs : List α) (r : Option Nat) (W : World) : Exit → Act → World → Prop
  | .normal, _, W' => ∃ r', Rd b r r' W W' ∧ I (xs, r') W'
  | .ret, _, W' => ∃ r', Rd b r r' W W' ∧ Ix .ret (xs, r') W'
  | .exit id, _, W' => ∃ r', Rd b r r' W W' ∧ Ix (.exit id) (xs, r') W'
  | .goto t, _, W' => ∃ r', Rd b r r' W W' ∧ Ix (.goto t) (xs, r') W'
  | .panic _, _, _ => False
  | .outgrown, _, _ => False

theorem range_k {F : Fence} {n : Nat} {P : Program} {α : Type} {g : Operand} {ps : Array Tmp} {assign body : Code} {Q : Exit → Act → World → Prop} {a : Act} {w : World}
    (hro : F.round = none) (h1 : 1 ≤ n) {gf : Nat} {lb : Array Value} (hg : a.eval g = .func (.func gf) #[] lb) (hFg : F.fn gf) (eg : ∀ args w, (callFunc gf args).run P w = .ok (.enter gf args) w)
    {encs : α → Array Value} {G : World → Prop} {S Sp : List α → Prop} (hps : ∀ x, (encs x).size = ps.size) (r0 : Option Nat) (hr0 : ∀ k, r0 = some k → k < w.heap.size)
    (hseq : ∀ W1, Below w.heap.size w W1 → W1.heap.size = w.heap.size + 2 → IterK F (n - 1) P gf lb encs (w.heap.size + 2) G S Sp W1)
    (I : List α × Option Nat → World → Prop) (Ix : Code → List α × Option Nat → World → Prop) (hI : OwnFrom w.heap.size I) (hIx : ∀ c, OwnFrom w.heap.size (Ix c)) (hIG : ∀ s A, I s A → G A) (h0 : I ([], r0) w)
    (hround : ∀ (l : Nat) (pre : List α) (x : α) (r : Option Nat) (W : World), w.heap.size < l → l < W.heap.size → some l ≠ r → Sp (pre ++ [x]) → I (pre, r) W →
      assign.wpIn (F.inRound l) (n - 1 - 1) P (Exit.then (fun a' W' => Rd w.heap.size r r W W' ∧ I (pre, r) W' ∧ ∀ o, I (pre, r) (W'.putObj l o) → body.wpIn (F.inRound l) (n - 1 - 1) P (outK w.heap.size I Ix (pre ++ [x]) r (W'.putObj l o)) a' (W'.putObj l o)) (fun _ _ _ => False))
        { tmps := (ps.zip (encs x)).foldl (fun t (p, v) => t.setIfInBounds p v) a.tmps, defers := [] } W)
    (hdone : ∀ (D : Nat) (xs : List α) (r : Option Nat) (W : World), w.heap.size ≤ D → some D ≠ r → S xs → I (xs, r) W → W.heap[D]? = some (.deferred (some [])) → Q .normal { a with defers := { target := .collected D, args := #[] } :: a.defers } W)
    (hstop : ∀ (D : Nat) (c : Code) (pre : List α) (r : Option Nat) (W : World), w.heap.size ≤ D → some D ≠ r → Sp pre → Ix c (pre, r) W → W.heap[D]? = some (.deferred (some [])) → c.wpIn F n P Q { a with defers := { target := .collected D, args := #[] } :: a.defers } W) :
    (Code.rangeFunc g ps assign body).wpIn F n P Q a w := by
  refine wpIn_rangeFunc fun fn hfn => ?_
  rw [hro]
  generalize hB : w.heap.size = b at *
  obtain ⟨rec, hrec⟩ : ∃ rec : LoopState → Option Code → Loop, rec = fun st pe => { state := st, pending := pe, fn, tmps := a.tmps, params := ps, assign, body, defers := b } := ⟨_, rfl⟩
  obtain ⟨V, hV⟩ : ∃ V, V = (w.alloc (.deferred (some []))).alloc (.loop (rec .ready none)) := ⟨_, rfl⟩
  have hbV : Below b w V := by rw [hV, ← hB]; exact b_alloc (b_alloc (Below.refl _ _) _) _
  have hsV : V.heap.size = b + 2 := by rw [hV]; simp [hB]
  have dV : V.heap[b]? = some (.deferred (some [])) := by
    rw [hV, Below.heap_alloc _ _ _ (by simp [hB]), ← hB]
    exact World.alloc_heap_new w _
  have lV : V.heap[b + 1]? = some (.loop (rec .ready none)) := by
    have h := World.alloc_heap_new (w.alloc (.deferred (some []))) (.loop (rec .ready none))
    rw [World.size_alloc, hB] at h
    rw [hV]
    exact h
  have turn : ∀ {β : Type} {I' : β → World → Prop} {s : β} {A : World} {r : Loop} (o : Obj), OwnFrom b I' → I' s A → A.heap[b + 1]? = some (.loop r) → I' s (A.putObj (b + 1) o) := by
    intro β I' s A r o h hs hl
    exact h s A _ (some (b + 1)) hs (grownBy_putObj' A (b + 1) o) (fun k e => by cases e; exact ⟨by omega, _, hl, rfl⟩)
  refine ⟨b + 1, [{ target := .collected b, args := #[] }], V, { target := .fn (.func gf) lb, args := #[.func (.yield (b + 1)) #[] #[]] }, V, gf, #[.func (.yield (b + 1)) #[] #[]] ++ lb, V, ?_, ?_, ?_, ?_, fun _ => h1, ?_⟩
  · have h := run_enterLoop_outer (P := P) (w := w) fn a.tmps ps assign body
    rw [hB] at h
    rw [hV, hrec]
    exact h
  · simp only [resolve, hg]
    simp [go_sem]
  · intro f' hf'
    simp [Target.leads] at hf'
    subst hf'
    exact hFg
  · simp [invoke, go_sem, eg]
  · refine (hseq V hbV hsV (b + 1) (fun s W => I s W ∧ (s.2 ≠ some b ∧ s.2 ≠ some (b + 1)) ∧ W.heap[b]? = some (.deferred (some [])) ∧ W.heap[b + 1]? = some (.loop (rec .ready none)))
      (fun s W => ∃ c, Ix c s W ∧ (s.2 ≠ some b ∧ s.2 ≠ some (b + 1)) ∧ W.heap[b]? = some (.deferred (some [])) ∧ W.heap[b + 1]? = some (.loop (rec .done (some c)))) r0
      (fun s A B row h hg hr => ⟨hI s A B row h.1 hg (fun r e => ⟨by have := (hr r e).1; omega, (hr r e).2⟩), h.2.1, (hg.block b (Array.getElem?_eq_some_iff.1 h.2.2.1).1 (by intro e; have := (hr b e.symm).1; omega)).trans h.2.2.1, (hg.block (b + 1) (Array.getElem?_eq_some_iff.1 h.2.2.2).1 (by intro e; have := (hr (b + 1) e.symm).1; omega)).trans h.2.2.2⟩)
      (fun s A B row h hg hr => by
        obtain ⟨c, hc, hs, hd, hl⟩ := h
        exact ⟨c, hIx c s A B row hc hg (fun r e => ⟨by have := (hr r e).1; omega, (hr r e).2⟩), hs, (hg.block b (Array.getElem?_eq_some_iff.1 hd).1 (by intro e; have := (hr b e.symm).1; omega)).trans hd, (hg.block (b + 1) (Array.getElem?_eq_some_iff.1 hl).1 (by intro e; have := (hr (b + 1) e.symm).1; omega)).trans hl⟩)
      (fun s A h => hIG s A h.1) (fun k hk => by have := hr0 k hk; omega)
      ?_ ⟨own_new hI h0 (hB ▸ hbV), ⟨fun e => by have := hr0 b e; omega, fun e => by have := hr0 (b + 1) e; omega⟩, dV, lV⟩).mono ?_
    · rintro pre x r W ⟨hi, ⟨hs1, hs2⟩, hd, hl⟩ hsp
      have hs1 : some b ≠ r := fun e => hs1 e.symm
      have hs2 : some (b + 1) ≠ r := fun e => hs2 e.symm
      have hlt : b + 1 < W.heap.size := (Array.getElem?_eq_some_iff.1 hl).1
      have hy := run_yield (P := P) (args := encs x) hl (by rw [hrec]; exact hps x)
      rw [hrec] at hy
      refine ⟨fn, _, assign, body, hy, roundIn_of_wpIn hfn (wpIn_mono (hround (b + 1) pre x r W (by omega) hlt hs2 hsp hi) ?_)⟩
      intro e a3 W3 hp
      cases e with
      | normal =>
        obtain ⟨hk, hi3, hbody⟩ := hp
        have hd3 : W3.heap[b]? = some (.deferred (some [])) := (hk.block b (Nat.le_refl _) (by omega) hs1).trans hd
        have hl3 : W3.heap[b + 1]? = some (.loop (rec .ready none)) := (hk.block (b + 1) (by omega) hlt hs2).trans hl
        refine ⟨_, run_beginRound hl3 (by rw [hrec]), ?_⟩
        have hlt3 : b + 1 < W3.heap.size := (Array.getElem?_eq_some_iff.1 hl3).1
        have hi4 := turn (.loop { rec .ready none with state := .busy }) hI hi3 hl3
        have hd4 : (W3.putObj (b + 1) (.loop { rec .ready none with state := .busy })).heap[b]? = some (.deferred (some [])) := (World.putObj_heap_other (by omega)).trans hd3
        have hl4 : (W3.putObj (b + 1) (.loop { rec .ready none with state := .busy })).heap[b + 1]? = some (.loop { rec .ready none with state := .busy }) := World.putObj_heap_same hlt3
        refine wpIn_mono (hbody (.loop { rec .ready none with state := .busy }) hi4) ?_
        have hk4 : Rd (b + 2) r r W (W3.putObj (b + 1) (.loop { rec .ready none with state := .busy })) := (hk.mono (by omega)).trans (Rd.putObj _ _ _ (by omega))
        have hlt4 : b + 1 < (W3.putObj (b + 1) (.loop { rec .ready none with state := .busy })).heap.size := (Array.getElem?_eq_some_iff.1 hl4).1
        generalize W3.putObj (b + 1) (.loop { rec .ready none with state := .busy }) = W4 at *
        have fin : ∀ (jump : Option Code) (r5 : Option Nat) (W5 : World), Rd b r r5 W4 W5 →
            (Instr.endRound (b + 1) jump).run P W5 = .ok (.bool jump.isNone) (W5.putObj (b + 1) (.loop (rec (if jump.isNone then .ready else .done) jump))) ∧
            (W5.putObj (b + 1) (.loop (rec (if jump.isNone then .ready else .done) jump))).heap[b]? = some (.deferred (some [])) ∧
            (W5.putObj (b + 1) (.loop (rec (if jump.isNone then .ready else .done) jump))).heap[b + 1]? = some (.loop (rec (if jump.isNone then .ready else .done) jump)) ∧
            (∃ r, W5.heap[b + 1]? = some (.loop r)) ∧ Rd (b + 2) r r5 W (W5.putObj (b + 1) (.loop (rec (if jump.isNone then .ready else .done) jump))) ∧ (r5 ≠ some b ∧ r5 ≠ some (b + 1)) := by
          intro jump r5 W5 k5
          have hd5 := (k5.block b (Nat.le_refl _) (by omega) hs1).trans hd4
          have hl5 := (k5.block (b + 1) (by omega) hlt4 hs2).trans hl4
          have hr := run_endRound (P := P) jump hl5
          refine ⟨?_, (World.putObj_heap_other (by omega)).trans hd5, World.putObj_heap_same (Array.getElem?_eq_some_iff.1 hl5).1, ⟨_, hl5⟩, (hk4.trans (k5.mono (by omega))).trans (Rd.putObj _ _ _ (by omega)), fun e => k5.row.ne (by omega) hs1 e.symm, fun e => k5.row.ne hlt4 hs2 e.symm⟩
          rw [hrec] at hr ⊢
          exact hr
        intro e a5 W5 hq
        cases e with
        | normal =>
          obtain ⟨r5, k5, i5⟩ := hq
          obtain ⟨hr, hd6, hl6, ⟨r6, e6⟩, kk6, n6⟩ := fin none r5 W5 k5
          exact ⟨_, _, hr, r5, kk6, .inl ⟨rfl, turn _ hI i5 e6, n6, hd6, hl6⟩⟩
        | ret =>
          obtain ⟨r5, k5, i5⟩ := hq
          obtain ⟨hr, hd6, hl6, ⟨r6, e6⟩, kk6, n6⟩ := fin (some .ret) r5 W5 k5
          exact ⟨_, _, hr, r5, kk6, .inr ⟨rfl, .ret, turn _ (hIx _) i5 e6, n6, hd6, hl6⟩⟩
        | exit id =>
          obtain ⟨r5, k5, i5⟩ := hq
          obtain ⟨hr, hd6, hl6, ⟨r6, e6⟩, kk6, n6⟩ := fin (some (.exit id)) r5 W5 k5
          exact ⟨_, _, hr, r5, kk6, .inr ⟨rfl, .exit id, turn _ (hIx _) i5 e6, n6, hd6, hl6⟩⟩
        | goto t =>
          obtain ⟨r5, k5, i5⟩ := hq
          obtain ⟨hr, hd6, hl6, ⟨r6, e6⟩, kk6, n6⟩ := fin (some (.goto t)) r5 W5 k5
          exact ⟨_, _, hr, r5, kk6, .inr ⟨rfl, .goto t, turn _ (hIx _) i5 e6, n6, hd6, hl6⟩⟩
        | panic ch => exact hq.elim
        | outgrown => exact hq.elim
      | ret => exact hp.elim
      | exit id => exact hp.elim
      | goto t => exact hp.elim
      | panic ch => exact hp.elim
      | outgrown => exact hp.elim
    · rintro e W2 ⟨⟨v, rfl⟩, (⟨xs, r, hS, hi, hs, hd, hl⟩ | ⟨pre, r, hSp, c, hi, hs, hd, hl⟩)⟩
      · have hr := run_endLoop (P := P) hl (by rw [hrec]; simp)
        rw [hrec] at hr
        exact ⟨none, _, hr, hdone b xs r _ (Nat.le_refl _) (fun e => hs.1 e.symm) hS (turn _ hI hi hl) ((World.putObj_heap_other (by omega)).trans hd)⟩
      · have hr := run_endLoop (P := P) hl (by rw [hrec]; simp)
        rw [hrec] at hr
        exact ⟨some c, _, hr, hstop b c pre r _ (Nat.le_refl _) (fun e => hs.1 e.symm) hSp (turn _ (hIx _) hi hl) ((World.putObj_heap_other (by omega)).trans hd)⟩
theorem room_none {F : Fence} (hd : F.depth = none) (k : Nat) : F.room k := fun d h => by rw [hd] at h; cases h
theorem YieldAt.deep {F : Fence} (hd : F.depth = none) {m : Nat} (m' : Nat) {P : Program} {l : Nat} {args : Array Value} {W : World} {R : Ending → World → Prop} (h : YieldAt F m P l args W R) : YieldAt F m' P l args W R := by
  obtain ⟨fn, tmps, assign, body, hy, hR⟩ := h
  exact ⟨fn, tmps, assign, body, hy, hR.1, fun c cs _ => hR.2 c cs (room_none hd _)⟩
end Go.Proofs.Ytjnbkpjpcbmhcaa
