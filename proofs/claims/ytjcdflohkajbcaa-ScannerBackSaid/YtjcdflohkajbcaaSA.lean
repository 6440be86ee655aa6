/-
  Chapter 16, the first part: the scanner and its document, text by text. No condition.
-/
import Derived.Test.YtjcdflohkajbcaaRecp
import Derived.Test.YtjcdflohkajbcaaRng
import Derived.Sort.QuietIn
import Derived.OwnWalkIn
import Derived.Test.YtjcdflohkajbcaaMem
import Derived.Test.YtjcdflohkajbcaaRcs
import Derived.Test.YtjcdflohkajbcaaStr
import Derived.Shelf.Abstract
import Derived.Shelf.RegionOpen
import Derived.WalkKit
import Derived.TacticsInMore
import Derived.LoopNIn
import Derived.LoopIn
import Derived.WalkMore
import Derived.Test.YtjcdflohkajbcaaRdx
import Derived.Test.YtjcdflohkajbcaaRck
import Derived.Test.YtjcdflohkajbcaaUp
import Derived.Test.YtjcdflohkajbcaaFof
import Derived.Test.YtjcdflohkajbcaaFde
import Derived.Test.YtjcdflohkajbcaaFdr
import Derived.Test.YtjcdflohkajbcaaRdy
import Derived.Test.YtjcdflohkajbcaaFor
import Derived.Test.YtjcdflohkajbcaaFen
import Derived.Test.YtjcdflohkajbcaaRen
/-
  Plain: the records at the beginning of bytes, one behind the other, and where they end.
-/
namespace Go.Proofs.Ytjcdflohkajbcaa
set_option linter.unusedVariables false

/-- these records, with their offsets, stand one behind the other from the beginning on, and end at off -/
inductive Chain (M : List Int) : List (Nat × Rc) → Nat → Prop
  | nil : Chain M [] 0
  | snoc {pre : List (Nat × Rc)} {off : Nat} {r : Rc} {n : Int} : Chain M pre off → decF (M.drop off) = (r, n, 0) → Chain M (pre ++ [(off, r)]) (off + r.size)
/-- and no other follows -/
def Scanned (M : List Int) (xs : List (Nat × Rc)) (e : Nat) : Prop := Chain M xs e ∧ (decF (M.drop e)).2.2 ≠ 0

/-- where records end -/
def endOf (xs : List (Nat × Rc)) : Nat := match xs.getLast? with
  | none => 0
  | some b => b.1 + b.2.size
theorem chain_end {M : List Int} {xs : List (Nat × Rc)} {e : Nat} (h : Chain M xs e) : e = endOf xs := by
  cases h with
  | nil => rfl
  | snoc h1 h2 => simp [endOf]
theorem chain_le {M : List Int} (hB : BB M) {xs : List (Nat × Rc)} {e : Nat} (h : Chain M xs e) : e ≤ M.length ∧ 16 * xs.length ≤ e ∧ (∀ x ∈ xs, x.1 ≤ M.length ∧ x.2.Ok) := by
  induction h with
  | nil => exact ⟨Nat.zero_le _, by simp, fun x hx => by simp at hx⟩
  | snoc h1 h2 ih =>
    obtain ⟨i1, i2, i3⟩ := ih
    obtain ⟨o1, o2, o3, o4⟩ := decF_ok (hB.drop _) h2
    rw [List.length_drop] at o3
    refine ⟨by omega, by rw [List.length_append, List.length_singleton]; unfold Rc.size at *; omega, fun x hx => ?_⟩
    rcases List.mem_append.1 hx with hx | hx
    · exact i3 x hx
    · rw [List.mem_singleton.1 hx]
      exact ⟨i1, o1⟩
theorem chain_len {M : List Int} (hB : BB M) {xs : List (Nat × Rc)} {e : Nat} (h : Chain M xs e) : 16 * xs.length ≤ M.length := by
  have := chain_le hB h
  omega
/-- two chains: one is the beginning of the other -/
theorem chain_prefix {M : List Int} {xs ys : List (Nat × Rc)} {e f : Nat} (h : Chain M xs e) (k : Scanned M ys f) : xs.length ≤ ys.length ∧ xs = ys.take xs.length ∧ (xs.length = ys.length → e = f) := by
  induction h with
  | nil =>
    refine ⟨Nat.zero_le _, by simp, fun hl => ?_⟩
    cases k.1 with
    | nil => rfl
    | snoc h1 h2 => simp at hl
  | @snoc pre off r n h1 h2 ih =>
    obtain ⟨i1, i2, i3⟩ := ih
    rw [List.length_append, List.length_singleton]
    rcases Nat.lt_or_ge pre.length ys.length with hlt | hge
    · have key : ∀ (zs : List (Nat × Rc)) (g : Nat), Chain M zs g → ∀ (p : List (Nat × Rc)) (o : Nat), p = zs.take p.length → p.length < zs.length → Chain M p o → ∀ (r : Rc) (n : Int), decF (M.drop o) = (r, n, 0) → zs[p.length]? = some (o, r) ∧ (p.length + 1 = zs.length → g = o + r.size) := by
        intro zs g hz
        induction hz with
        | nil => intro p o _ hp; simp at hp
        | @snoc qs o2 r2 n2 g1 g2 ihz =>
          intro p o hp hlen hc r n hd
          rw [List.length_append, List.length_singleton] at hlen
          rcases Nat.lt_or_ge p.length qs.length with hq | hq
          · have hp' : p = qs.take p.length := by rw [List.take_append_of_le_length (by omega)] at hp; exact hp
            obtain ⟨a1, a2⟩ := ihz p o hp' hq hc r n hd
            refine ⟨by rw [List.getElem?_append_left hq]; exact a1, fun hl => ?_⟩
            rw [List.length_append, List.length_singleton] at hl
            omega
          · have hpl : p.length = qs.length := by omega
            have hpq : p = qs := by rw [hp, hpl]; exact List.take_left' rfl
            subst hpq
            have ho := (chain_end hc).trans (chain_end g1).symm
            subst ho
            rw [hd] at g2
            injection g2 with g2 _
            subst g2
            exact ⟨by simp, fun _ => rfl⟩
      obtain ⟨a1, a2⟩ := key ys f k.1 pre off i2 hlt h1 r n h2
      refine ⟨by omega, ?_, fun hl => (a2 hl).symm⟩
      rw [List.take_add_one, ← i2, a1]
      rfl
    · have hl : pre.length = ys.length := by omega
      have he := i3 hl
      subst he
      exact absurd (by rw [h2]) k.2
theorem scanned_unique {M : List Int} {xs ys : List (Nat × Rc)} {e f : Nat} (h : Scanned M xs e) (k : Scanned M ys f) : xs = ys ∧ e = f := by
  obtain ⟨a1, a2, a3⟩ := chain_prefix h.1 k
  obtain ⟨b1, b2, b3⟩ := chain_prefix k.1 h
  have hl : xs.length = ys.length := by omega
  refine ⟨?_, a3 hl⟩
  rw [a2, hl, List.take_length]
theorem scanned_exists {M : List Int} (hB : BB M) : ∃ xs e, Scanned M xs e := by
  have key : ∀ k (pre : List (Nat × Rc)) (off : Nat), M.length - off ≤ k → Chain M pre off → ∃ xs e, Scanned M xs e := by
    intro k
    induction k with
    | zero =>
      intro pre off hk hc
      refine ⟨pre, off, hc, ?_⟩
      have hl := (chain_le hB hc).1
      have : M.drop off = [] := List.drop_eq_nil_of_le (by omega)
      rw [this]
      show (decF []).2.2 ≠ 0
      decide
    | succ k ih =>
      intro pre off hk hc
      by_cases h : (decF (M.drop off)).2.2 = 0
      · obtain ⟨⟨r, n, z⟩, hd⟩ : ∃ x, x = decF (M.drop off) := ⟨_, rfl⟩
        rw [← hd] at h
        have h : z = 0 := h
        subst h
        have hc' := Chain.snoc hc hd.symm
        have := (decF_ok (hB.drop _) hd.symm).2.2.1
        exact ih _ _ (by unfold Rc.size; omega) hc'
      · exact ⟨pre, off, hc, h⟩
  exact key _ [] 0 (Nat.le_refl _) .nil
end Go.Proofs.Ytjcdflohkajbcaa

/-
  Plain: the encodings of records, one behind the other, are scanned to these records.
-/
namespace Go.Proofs.Ytjcdflohkajbcaa
set_option linter.unusedVariables false

/-- the encodings, one behind the other -/
def encL (rs : List Rc) : List Int := rs.flatMap encF
def sizeL (rs : List Rc) : Nat := (encL rs).length
theorem encL_cons (r : Rc) (rs : List Rc) : encL (r :: rs) = encF r ++ encL rs := rfl
theorem encL_app (a b : List Rc) : encL (a ++ b) = encL a ++ encL b := by simp [encL]
theorem encL_snoc (a : List Rc) (r : Rc) : encL (a ++ [r]) = encL a ++ encF r := by rw [encL_app]; simp [encL]
theorem sizeL_cons (r : Rc) (rs : List Rc) : sizeL (r :: rs) = r.size + sizeL rs := by rw [sizeL, encL_cons, List.length_append, encF_length]; rfl
theorem sizeL_snoc (a : List Rc) (r : Rc) : sizeL (a ++ [r]) = sizeL a + r.size := by rw [sizeL, encL_snoc, List.length_append, encF_length]; rfl
theorem sizeL_nil : sizeL [] = 0 := rfl
theorem encL_bb (rs : List Rc) : BB (encL rs) := by
  induction rs with
  | nil => intro x hx; simp [encL] at hx
  | cons r rs ih => rw [encL_cons]; exact (encF_bb r).app ih
/-- each record with its offset -/
def pairsF : Nat → List Rc → List (Nat × Rc)
  | _, [] => []
  | o, r :: rs => (o, r) :: pairsF (o + r.size) rs
theorem pairsF_snd (rs : List Rc) : ∀ o, (pairsF o rs).map Prod.snd = rs := by
  induction rs with
  | nil => intro o; rfl
  | cons r rs ih => intro o; simp [pairsF, ih]
theorem pairsF_length (rs : List Rc) (o : Nat) : (pairsF o rs).length = rs.length := by
  have := congrArg List.length (pairsF_snd rs o)
  simpa using this
theorem pairsF_at (rs : List Rc) : ∀ (o i : Nat) (r : Rc), rs[i]? = some r → (pairsF o rs)[i]? = some (o + sizeL (rs.take i), r) := by
  induction rs with
  | nil => intro o i r h; simp at h
  | cons a rs ih =>
    intro o i r h
    cases i with
    | zero =>
      injection h with h
      subst h
      simp [pairsF, sizeL, encL]
    | succ i =>
      have h : rs[i]? = some r := h
      have h2 := ih (o + a.size) i r h
      show (pairsF (o + a.size) rs)[i]? = _
      rw [h2, List.take_succ_cons, sizeL_cons, Nat.add_assoc]
theorem pairsF_fst (rs : List Rc) (o : Nat) : (pairsF o rs).map Prod.fst = (List.range rs.length).map fun i => o + sizeL (rs.take i) := by
  apply List.ext_getElem?
  intro i
  rw [List.getElem?_map, List.getElem?_map]
  rcases Nat.lt_or_ge i rs.length with hi | hi
  · rw [pairsF_at rs o i rs[i] (List.getElem?_eq_getElem hi), List.getElem?_range hi]
    rfl
  · rw [List.getElem?_eq_none (by rw [pairsF_length]; exact hi), List.getElem?_eq_none (by simpa using hi)]
    rfl
theorem pairsF_take (rs : List Rc) : ∀ (o k : Nat), (pairsF o rs).take k = pairsF o (rs.take k) := by
  induction rs with
  | nil => intro o k; simp [pairsF]
  | cons a rs ih =>
    intro o k
    cases k with
    | zero => rfl
    | succ k => simp [pairsF, ih]
theorem chain_pairs {M Z : List Int} {rs : List Rc} (hok : ∀ r ∈ rs, r.Ok) : ∀ (pre : List (Nat × Rc)) (o : Nat), Chain M pre o → M.drop o = encL rs ++ Z → Chain M (pre ++ pairsF o rs) (o + sizeL rs) := by
  induction rs with
  | nil => intro pre o h _; simpa [pairsF, sizeL, encL] using h
  | cons r rs ih =>
    intro pre o h hd
    rw [encL_cons, List.append_assoc] at hd
    have h1 := decF_enc (hok r (by simp)) (encL rs ++ Z)
    rw [← hd] at h1
    have h2 : M.drop (o + r.size) = encL rs ++ Z := by
      rw [← List.drop_drop, hd]
      exact List.drop_left' (encF_length r)
    have h3 := ih (fun x hx => hok x (by simp [hx])) _ _ (Chain.snoc h h1) h2
    rw [sizeL_cons, ← Nat.add_assoc]
    rw [List.append_assoc] at h3
    exact h3
theorem scanned_encs {rs : List Rc} (hok : ∀ r ∈ rs, r.Ok) {Z : List Int} (hZ : (decF Z).2.2 ≠ 0) : Scanned (encL rs ++ Z) (pairsF 0 rs) (sizeL rs) := by
  have h := chain_pairs (M := encL rs ++ Z) hok [] 0 .nil rfl
  rw [List.nil_append, Nat.zero_add] at h
  refine ⟨h, ?_⟩
  rw [show (encL rs ++ Z).drop (sizeL rs) = Z from List.drop_left' rfl]
  exact hZ
theorem decF_nil' : decF [] = (Rc.zero, 0, 14) := rfl
/-- the first bytes of encodings -/
theorem encL_take {rs : List Rc} {n k : Nat} (hk : k ≤ rs.length) (h1 : sizeL (rs.take k) ≤ n) : ∃ Z, (encL rs).take n = encL (rs.take k) ++ Z ∧ Z = ((encL (rs.drop k)).take (n - sizeL (rs.take k))) := by
  refine ⟨_, ?_, rfl⟩
  conv => lhs; rw [← List.take_append_drop k rs, encL_app]
  rw [List.take_append, List.take_of_length_le (by exact h1)]
  rfl
end Go.Proofs.Ytjcdflohkajbcaa

/-
  A range over a function whose iterator only reads, and lays blocks of its own: the body may write whatever cells are its own.
-/
namespace Go.Proofs.Ytjcdflohkajbcaa
open Go.RowKit
set_option linter.unusedVariables false

/-- what new blocks leave true -/
def AbN {α : Type} (J : List α → World → Prop) : Prop := ∀ s A B, J s A → Below A.heap.size A B → J s B
/-- the iterator's contract; G: what holds at each round's beginning and end -/
def IterO {α : Type} (F : Fence) (n : Nat) (P : Program) (g : Nat) (lb : Array Value) (encs : α → Array Value) (G : World → Prop) (S Sp : List α → Prop) (W : World) : Prop :=
  ∀ (l : Nat) (J Jx : List α → World → Prop), AbN J → AbN Jx → (∀ s A, J s A → G A) →
    (∀ pre x W1, J pre W1 → Sp (pre ++ [x]) → YieldAt F (n - 1) P l (encs x) W1 fun e W' => (e = .returned (.bool true) ∧ J (pre ++ [x]) W') ∨ (e = .returned (.bool false) ∧ Jx (pre ++ [x]) W')) →
    J [] W → CallsIn F n P g (#[.func (.yield l) #[] #[]] ++ lb) W fun e W' => (∃ v, e = .returned v) ∧ ((∃ xs, S xs ∧ J xs W') ∨ (∃ pre, Sp pre ∧ Jx pre W'))
/-- how a round may be left -/
def outO {α : Type} (b : Nat) (I : List α → World → Prop) (Ix : Code → List α → World → Prop) (xs : List α) (W : World) : Exit → Act → World → Prop
  | .normal, _, W' => KeepsFrom b W W' ∧ I xs W'
  | .ret, _, W' => KeepsFrom b W W' ∧ Ix .ret xs W'
  | .exit id, _, W' => KeepsFrom b W W' ∧ Ix (.exit id) xs W'
  | .goto t, _, W' => KeepsFrom b W W' ∧ Ix (.goto t) xs W'
  | .panic _, _, _ => False
  | .outgrown, _, _ => False
theorem own_new {β : Type} {b : Nat} {I : β → World → Prop} (h : OwnFrom b I) {s : β} {A B : World} (hs : I s A) (hb : Below A.heap.size A B) : I s B := h s A B none hs (g_of_below hb none) (fun r e => by cases e)
theorem KeepsFrom.new {b : Nat} {A B : World} (h : Below A.heap.size A B) : KeepsFrom b A B := ⟨h.size, fun k o _ hk _ => (h.block k (Array.getElem?_eq_some_iff.1 hk).1).trans hk⟩
theorem KeepsFrom.grown {b : Nat} {A B : World} {row : Option Nat} (hg : A.grownBy B row) (hr : ∀ (j : Nat) (o : Obj), row = some j → A.heap[j]? = some o → o.isCells = true) : KeepsFrom b A B := (KeepsOthers.of_grownBy hg hr).from b
theorem KeepsFrom.set_ {b : Nat} (A : World) (a : Addr) (v : Value) : KeepsFrom b A (A.setCell a v) := (KeepsOthers.setCell A a v).from b

theorem range_own {F : Fence} {n : Nat} {P : Program} {α : Type} {g : Operand} {ps : Array Tmp} {assign body : Code} {Q : Exit → Act → World → Prop} {a : Act} {w : World}
    (hro : F.round = none) (h1 : 1 ≤ n) {gf : Nat} {lb : Array Value} (hg : a.eval g = .func (.func gf) #[] lb) (hFg : F.fn gf) (eg : ∀ args w, (callFunc gf args).run P w = .ok (.enter gf args) w)
    {encs : α → Array Value} {G : World → Prop} {S Sp : List α → Prop} (hps : ∀ x, (encs x).size = ps.size)
    (hseq : ∀ W1, Below w.heap.size w W1 → W1.heap.size = w.heap.size + 2 → IterO F (n - 1) P gf lb encs G S Sp W1)
    (I : List α → World → Prop) (Ix : Code → List α → World → Prop) (hI : OwnFrom w.heap.size I) (hIx : ∀ c, OwnFrom w.heap.size (Ix c)) (hIG : ∀ s A, I s A → G A) (h0 : I [] w)
    (hround : ∀ (l : Nat) (pre : List α) (x : α) (W : World), w.heap.size < l → l < W.heap.size → Sp (pre ++ [x]) → I pre W →
      assign.wpIn (F.inRound l) (n - 1 - 1) P (Exit.then (fun a' W' => KeepsFrom w.heap.size W W' ∧ I pre W' ∧ ∀ o, I pre (W'.putObj l o) → body.wpIn (F.inRound l) (n - 1 - 1) P (outO w.heap.size I Ix (pre ++ [x]) (W'.putObj l o)) a' (W'.putObj l o)) (fun _ _ _ => False))
        { tmps := (ps.zip (encs x)).foldl (fun t (p, v) => t.setIfInBounds p v) a.tmps, defers := [] } W)
    (hdone : ∀ (D : Nat) (xs : List α) (W : World), w.heap.size ≤ D → S xs → I xs W → W.heap[D]? = some (.deferred (some [])) → Q .normal { a with defers := { target := .collected D, args := #[] } :: a.defers } W)
    (hstop : ∀ (D : Nat) (c : Code) (pre : List α) (W : World), w.heap.size ≤ D → Sp pre → Ix c pre W → W.heap[D]? = some (.deferred (some [])) → c.wpIn F n P Q { a with defers := { target := .collected D, args := #[] } :: a.defers } W) :
    (Code.rangeFunc g ps assign body).wpIn F n P Q a w := by
  refine wpIn_rangeFunc fun fn hfn => ?_
  rw [hro]
  generalize hB : w.heap.size = b at *
  obtain ⟨rec, hrec⟩ : ∃ rec : LoopState → Option Code → Loop, rec = fun st pe => { state := st, pending := pe, fn, tmps := a.tmps, params := ps, assign, body, defers := b } := ⟨_, rfl⟩
  obtain ⟨V, hV⟩ : ∃ V, V = (w.alloc (.deferred (some []))).alloc (.loop (rec .ready none)) := ⟨_, rfl⟩
  have hbV : Below b w V := by rw [hV, ← hB]; exact b_alloc (b_alloc (Below.refl _ _) _) _
  have hsV : V.heap.size = b + 2 := by rw [hV]; simp [hB]
  have dV : V.heap[b]? = some (.deferred (some [])) := by
    rw [hV, Below.heap_alloc _ _ _ (by simp [hB]), ← hB]
    exact World.alloc_heap_new w _
  have lV : V.heap[b + 1]? = some (.loop (rec .ready none)) := by
    have h := World.alloc_heap_new (w.alloc (.deferred (some []))) (.loop (rec .ready none))
    rw [World.size_alloc, hB] at h
    rw [hV]
    exact h
  have turn : ∀ {β : Type} {I' : β → World → Prop} {s : β} {A : World} {r : Loop} (o : Obj), OwnFrom b I' → I' s A → A.heap[b + 1]? = some (.loop r) → I' s (A.putObj (b + 1) o) := by
    intro β I' s A r o h hs hl
    exact h s A _ (some (b + 1)) hs (grownBy_putObj' A (b + 1) o) (fun k e => by cases e; exact ⟨by omega, _, hl, rfl⟩)
  refine ⟨b + 1, [{ target := .collected b, args := #[] }], V, { target := .fn (.func gf) lb, args := #[.func (.yield (b + 1)) #[] #[]] }, V, gf, #[.func (.yield (b + 1)) #[] #[]] ++ lb, V, ?_, ?_, ?_, ?_, fun _ => h1, ?_⟩
  · have h := run_enterLoop_outer (P := P) (w := w) fn a.tmps ps assign body
    rw [hB] at h
    rw [hV, hrec]
    exact h
  · simp only [resolve, hg]
    simp [go_sem]
  · intro f' hf'
    simp [Target.leads] at hf'
    subst hf'
    exact hFg
  · simp [invoke, go_sem, eg]
  · refine (hseq V hbV hsV (b + 1) (fun s W => I s W ∧ W.heap[b]? = some (.deferred (some [])) ∧ W.heap[b + 1]? = some (.loop (rec .ready none)))
      (fun s W => ∃ c, Ix c s W ∧ W.heap[b]? = some (.deferred (some [])) ∧ W.heap[b + 1]? = some (.loop (rec .done (some c))))
      (fun s A B h hb => ⟨own_new hI h.1 hb, (hb.block b (Array.getElem?_eq_some_iff.1 h.2.1).1).trans h.2.1, (hb.block (b + 1) (Array.getElem?_eq_some_iff.1 h.2.2).1).trans h.2.2⟩)
      (fun s A B h hb => by
        obtain ⟨c, hc, hd, hl⟩ := h
        exact ⟨c, own_new (hIx c) hc hb, (hb.block b (Array.getElem?_eq_some_iff.1 hd).1).trans hd, (hb.block (b + 1) (Array.getElem?_eq_some_iff.1 hl).1).trans hl⟩)
      (fun s A h => hIG s A h.1)
      ?_ ⟨own_new hI h0 (hB ▸ hbV), dV, lV⟩).mono ?_
    · rintro pre x W ⟨hi, hd, hl⟩ hsp
      have hlt : b + 1 < W.heap.size := (Array.getElem?_eq_some_iff.1 hl).1
      have hy := run_yield (P := P) (args := encs x) hl (by rw [hrec]; exact hps x)
      rw [hrec] at hy
      refine ⟨fn, _, assign, body, hy, roundIn_of_wpIn hfn (wpIn_mono (hround (b + 1) pre x W (by omega) hlt hsp hi) ?_)⟩
      intro e a3 W3 hp
      cases e with
      | normal =>
        obtain ⟨hk, hi3, hbody⟩ := hp
        have hd3 : W3.heap[b]? = some (.deferred (some [])) := hk.same b _ (Nat.le_refl _) hd rfl
        have hl3 : W3.heap[b + 1]? = some (.loop (rec .ready none)) := hk.same (b + 1) _ (by omega) hl rfl
        refine ⟨_, run_beginRound hl3 (by rw [hrec]), ?_⟩
        have hlt3 : b + 1 < W3.heap.size := (Array.getElem?_eq_some_iff.1 hl3).1
        have hi4 := turn (.loop { rec .ready none with state := .busy }) hI hi3 hl3
        have hd4 : (W3.putObj (b + 1) (.loop { rec .ready none with state := .busy })).heap[b]? = some (.deferred (some [])) := (World.putObj_heap_other (by omega)).trans hd3
        have hl4 : (W3.putObj (b + 1) (.loop { rec .ready none with state := .busy })).heap[b + 1]? = some (.loop { rec .ready none with state := .busy }) := World.putObj_heap_same hlt3
        refine wpIn_mono (hbody (.loop { rec .ready none with state := .busy }) hi4) ?_
        generalize W3.putObj (b + 1) (.loop { rec .ready none with state := .busy }) = W4 at *
        have fin : ∀ (jump : Option Code) (W5 : World), KeepsFrom b W4 W5 →
            (Instr.endRound (b + 1) jump).run P W5 = .ok (.bool jump.isNone) (W5.putObj (b + 1) (.loop (rec (if jump.isNone then .ready else .done) jump))) ∧
            (W5.putObj (b + 1) (.loop (rec (if jump.isNone then .ready else .done) jump))).heap[b]? = some (.deferred (some [])) ∧
            (W5.putObj (b + 1) (.loop (rec (if jump.isNone then .ready else .done) jump))).heap[b + 1]? = some (.loop (rec (if jump.isNone then .ready else .done) jump)) ∧
            ∃ r, W5.heap[b + 1]? = some (.loop r) := by
          intro jump W5 k5
          have hd5 := k5.same b _ (Nat.le_refl _) hd4 rfl
          have hl5 := k5.same (b + 1) _ (by omega) hl4 rfl
          have hr := run_endRound (P := P) jump hl5
          refine ⟨?_, (World.putObj_heap_other (by omega)).trans hd5, World.putObj_heap_same (Array.getElem?_eq_some_iff.1 hl5).1, _, hl5⟩
          rw [hrec] at hr ⊢
          exact hr
        intro e a5 W5 hq
        cases e with
        | normal =>
          obtain ⟨k5, i5⟩ := hq
          obtain ⟨hr, hd6, hl6, r6, e6⟩ := fin none W5 k5
          exact ⟨_, _, hr, .inl ⟨rfl, turn _ hI i5 e6, hd6, hl6⟩⟩
        | ret =>
          obtain ⟨k5, i5⟩ := hq
          obtain ⟨hr, hd6, hl6, r6, e6⟩ := fin (some .ret) W5 k5
          exact ⟨_, _, hr, .inr ⟨rfl, .ret, turn _ (hIx _) i5 e6, hd6, hl6⟩⟩
        | exit id =>
          obtain ⟨k5, i5⟩ := hq
          obtain ⟨hr, hd6, hl6, r6, e6⟩ := fin (some (.exit id)) W5 k5
          exact ⟨_, _, hr, .inr ⟨rfl, .exit id, turn _ (hIx _) i5 e6, hd6, hl6⟩⟩
        | goto t =>
          obtain ⟨k5, i5⟩ := hq
          obtain ⟨hr, hd6, hl6, r6, e6⟩ := fin (some (.goto t)) W5 k5
          exact ⟨_, _, hr, .inr ⟨rfl, .goto t, turn _ (hIx _) i5 e6, hd6, hl6⟩⟩
        | panic ch => exact hq.elim
        | outgrown => exact hq.elim
      | ret => exact hp.elim
      | exit id => exact hp.elim
      | goto t => exact hp.elim
      | panic ch => exact hp.elim
      | outgrown => exact hp.elim
    · rintro e W2 ⟨⟨v, rfl⟩, (⟨xs, hS, hi, hd, hl⟩ | ⟨pre, hSp, c, hi, hd, hl⟩)⟩
      · have hr := run_endLoop (P := P) hl (by rw [hrec]; simp)
        rw [hrec] at hr
        exact ⟨none, _, hr, hdone b xs _ (Nat.le_refl _) hS (turn _ hI hi hl) ((World.putObj_heap_other (by omega)).trans hd)⟩
      · have hr := run_endLoop (P := P) hl (by rw [hrec]; simp)
        rw [hrec] at hr
        exact ⟨some c, _, hr, hstop b c pre _ (Nat.le_refl _) hSp (turn _ (hIx _) hi hl) ((World.putObj_heap_other (by omega)).trans hd)⟩
end Go.Proofs.Ytjcdflohkajbcaa

/-
  A region that draws its order and only reads, within a round of a range over a function.
-/
namespace Go.Proofs.Ytjcdflohkajbcaa
open Go.RowKit
set_option linter.unusedVariables false
section
variable {F : Fence} {n : Nat} {P : Program} {ops : Array Oper} {C : World → Prop} {md : Region.Mode}
def noDefer (ops : Array Oper) : Bool := ops.all fun o => match o.op with
  | .defer _ => false
  | _ => true
theorem noDefer_at {ops : Array Oper} (h : noDefer ops = true) {i : Nat} {o : Oper} (ho : ops[i]? = some o) : ∀ c, o.op ≠ .defer c := by
  intro c hc
  obtain ⟨hi, rfl⟩ := Array.getElem?_eq_some_iff.1 ho
  have := Array.all_eq_true.1 h i hi
  rw [hc] at this
  cases this
theorem wpIn_of_quiet_r {o : Oper} {a : Act} {K : Act → Prop} {K' : Act → World → Prop} {Q' : Exit → Act → World → Prop} {w : World} (hnd : ∀ c, o.op ≠ .defer c) (hw : C w) (h : ∀ a w', C w' → K a → K' a w')
    (ha : o.askedIn F P a C) (hh : o.quietIn F n P a C K) : o.wpIn F n P a w K' Q' := by
  obtain ⟨v, h1, h2⟩ := hh
  have h3 := h1 w hw
  unfold Oper.quietAtIn at h3
  unfold Oper.wpIn
  refine ⟨ha w hw, ?_⟩
  rw [Oper.semAt_plain F _ _ hnd]
  generalize (execOp a.eval o).run P w = r at *
  cases r with
  | ok x w' =>
    cases x <;> simp only [Oper.quietUponIn] at h3 <;> simp only [Oper.uponIn]
    case value u =>
      obtain ⟨e1, e2⟩ := h3
      rw [e1, e2]
      exact h _ _ hw h2
    case skip =>
      obtain ⟨e1, e2⟩ := h3
      rw [e1, ← e2]
      exact h _ _ hw h2
    case enter f args =>
      obtain ⟨e1, hd, hc⟩ := h3
      rw [e1]
      exact ⟨hd, hc.mono fun e w'' ⟨he, hw''⟩ => by subst he; exact h _ _ hw'' h2⟩
  | halt x w' => simp only [Oper.quietUponIn] at h3
theorem wpOpIn_of_q_r (hnd : noDefer ops = true) {i : Nat} {a : Act} {K : Act → Prop} {K' : Act → World → Prop} {Q' : Exit → Act → World → Prop} {w : World} (hC : C w) (h : ∀ a w', C w' → K a → K' a w')
    (hh : qOpIn F n P ops C i K a) : wpOpIn F n P ops Q' i K' a w := by
  unfold qOpIn at hh
  unfold wpOpIn
  split
  · rename_i ho; simp only [ho] at hh; exact h _ _ hC hh
  · rename_i o ho
    simp only [ho] at hh
    obtain ⟨ha, hh⟩ := hh
    split
    · rename_i hw; simp only [hw, if_true] at hh; exact wpIn_of_quiet_r (noDefer_at hnd ho) hC h ha hh
    · rename_i hw; simp only [hw] at hh; exact ⟨ha w hC, h _ _ hC hh⟩
theorem wpAnyIn_of_q_r (hnd : noDefer ops = true) {Q : Act → Prop} {Q' : Exit → Act → World → Prop} (hQ : ∀ a w, C w → Q a → Q' .normal a w) : ∀ (fuel : Nat) (listed : Array Bool) (a : Act) (w : World), C w →
    wpAnyQIn F n P md ops C Q fuel listed a → wpAnyIn F n P md ops Q' fuel listed a w
  | 0, _, _, _, hw, h => ⟨h.1, hQ _ _ hw h.2⟩
  | fuel + 1, _, _, _, hw, h => ⟨fun h0 => hQ _ _ hw (h.1 h0), fun i hi => wpOpIn_of_q_r hnd hw (fun a' w' hw' => wpAnyIn_of_q_r hnd hQ fuel _ a' w' hw') (h.2 i hi)⟩
theorem region_quiet_r {id : Nat} {Q : Exit → Act → World → Prop} {a : Act} {w : World} {l : List Oper} (hnd : noDefer l.toArray = true) (hm : P.follows .mixedOrders = true) (hB : Region.lexB .any l.toArray = true)
    (h : wpQuietIn F n P l.toArray (fun w' => ∃ n, w' = w.drewN n) (fun a' => ∀ w', (∃ n, w' = w.drewN n) → Q .normal a' w') l a) : (Code.region id l.toArray true).wpIn F n P Q a w := by
  simp only [Region.lexB, Bool.and_eq_true] at hB
  refine wpIn_region_any hm (wpAnyIn_of_q_r (C := fun w' => ∃ n, w' = w.drewN n) (Q := fun a' => ∀ w', (∃ n, w' = w.drewN n) → Q .normal a' w') hnd (fun _ w' hw' h => h w' hw') _ _ _ _ ⟨1, rfl⟩ ?_)
  have := wpAnyQIn_lex (F := F) (n := n) (C := fun w' => ∃ n, w' = w.drewN n) (md := .any) hB.1 l 0 (Array.replicate l.toArray.size false) a (by simp) (by simpa using hB.2) h
  simpa using this
end
end Go.Proofs.Ytjcdflohkajbcaa

/-
  Records in a row of the call's own; append within a fence.
-/
namespace Go.Proofs.Ytjcdflohkajbcaa
open Go.RowKit
set_option linter.unusedVariables false
/-- a row of records, one behind the other -/
def flat (rs : List Rc) : List Value := rs.flatMap fun r => r.cs.toList
theorem flat_at : ∀ (rs : List Rc) (i : Nat) (r : Rc), rs[i]? = some r → ∀ (j : Nat) (u : Value), r.cs[j]? = some u → (flat rs)[i * 4 + j]? = some u := by
  intro rs
  induction rs with
  | nil => intro i r h; simp at h
  | cons r0 rs ih =>
    intro i r h j u hu
    have hj : j < 4 := by
      rcases Nat.lt_or_ge j 4 with hj | hj
      · exact hj
      · rw [Array.getElem?_eq_none (by simpa [Rc.cs] using hj)] at hu; cases hu
    have h4 : r0.cs.toList.length = 4 := rfl
    have hf : flat (r0 :: rs) = r0.cs.toList ++ flat rs := rfl
    rw [hf]
    cases i with
    | zero =>
      injection h with h
      subst h
      rw [List.getElem?_append_left (by omega)]
      simpa using hu
    | succ i =>
      have h : rs[i]? = some r := h
      rw [List.getElem?_append_right (by omega), h4, show (i + 1) * 4 + j - 4 = i * 4 + j by omega]
      exact ih i r h j u hu
theorem IsRs.of_blk {w : World} {g : Nat} {t : TypeId} {rs : List Rc} (h : Blk w g t (flat rs).toArray) (hs : ∀ r ∈ rs, r.Sz) : IsRs w (some ⟨g, 0, none⟩) rs :=
  ⟨hs, .inr ⟨g, 0, rfl, h.lt, fun i r hr j u hu => by rw [Nat.zero_add, h.cell]; simpa using flat_at rs i r hr j u hu⟩⟩
theorem flat_length (rs : List Rc) : (flat rs).length = rs.length * 4 := by
  induction rs with
  | nil => rfl
  | cons r rs ih =>
    have hf : flat (r :: rs) = r.cs.toList ++ flat rs := rfl
    rw [hf, List.length_append, ih, List.length_cons]
    show 4 + _ = _
    omega
theorem flat_one (rs : List Rc) : ∀ u ∈ flat rs, u.oneCell' = true := by
  intro u hu
  obtain ⟨r, _, hr⟩ := List.mem_flatMap.1 hu
  simp only [Rc.cs, List.mem_cons, List.not_mem_nil, or_false] at hr
  rcases hr with rfl | rfl | rfl | rfl <;> rfl
theorem flat_inv (rs : List Rc) (j : Nat) (u : Value) (h : (flat rs)[j]? = some u) : ∃ r, rs[j / 4]? = some r ∧ r.cs[j % 4]? = some u := by
  have hl : j < rs.length * 4 := by
    rcases Nat.lt_or_ge j (flat rs).length with h' | h'
    · rwa [flat_length] at h'
    · rw [List.getElem?_eq_none h'] at h; cases h
  have hr : rs[j / 4]? = some (rs[j / 4]'(by omega)) := List.getElem?_eq_getElem (by omega)
  have h4 : j % 4 < (rs[j / 4]'(by omega)).cs.size := by show j % 4 < 4; omega
  have hu : (rs[j / 4]'(by omega)).cs[j % 4]? = some ((rs[j / 4]'(by omega)).cs[j % 4]'h4) := Array.getElem?_eq_getElem h4
  have hf := flat_at rs _ _ hr _ _ hu
  rw [show j / 4 * 4 + j % 4 = j by omega, h] at hf
  injection hf with hf
  exact ⟨_, hr, by rw [hf]; exact hu⟩
theorem IsRs.reads {w : World} {A : Option Addr} {rs : List Rc} (h : IsRs w A rs) : Reads w w.heap.size 4 A rs.length (flat rs) := by
  refine ⟨flat_length rs, fun hp => ?_⟩
  rcases h.2 with h2 | ⟨b, off, rfl, hlt, hc⟩
  · subst h2
    simp at hp
  · refine ⟨_, rfl, hlt, fun j u hu => ?_⟩
    obtain ⟨r, hr, hu'⟩ := flat_inv rs j u hu
    rw [Addr.add_lit]
    have := hc _ r hr _ u hu'
    rwa [show j / 4 * 4 + j % 4 = j by omega] at this
theorem IsRs.of_own {w : World} {B : Nat} {v : Value} {rs : List Rc} (h : w.ownsRow B 34 4 v rs.length (flat rs)) (hs : ∀ r ∈ rs, r.Sz) : ∃ (A : Option Addr) (cap : Nat), v = .slice A rs.length cap ∧ IsRs w A rs ∧ rs.length ≤ cap ∧ cap ≤ maxLen := by
  have h0 := h
  rcases h.2 with ⟨rfl, hn⟩ | ⟨g, cap, cur, rfl, h2, h3, h4, h5, _⟩
  · have : rs = [] := List.eq_nil_of_length_eq_zero hn
    subst this
    exact ⟨none, 0, rfl, IsRs.nil _ _, Nat.le_refl _, by unfold maxLen; omega⟩
  · refine ⟨_, cap, rfl, ⟨hs, .inr ⟨g, 0, rfl, lt_of_block h3, fun i r hr j u hu => ?_⟩⟩, h4, h5⟩
    have hf := flat_at rs i r hr j u hu
    have hl : i * 4 + j < rs.length * 4 := by
      rcases Nat.lt_or_ge (i * 4 + j) (flat rs).length with h' | h'
      · rwa [flat_length] at h'
      · rw [List.getElem?_eq_none h'] at hf; cases hf
    rw [Nat.zero_add, World.ownsRow.cellAt h0 (i * 4 + j) hl, hf]
theorem rec_info : (Try.prog.info? 34).map (fun i => (i.zero, i.size, i.bytes)) = some (some (.agg #[.int .i64 0, .int .i64 0, .string ⟨#[]⟩, .string ⟨#[]⟩]), 4, 48) := by kernel_rfl
theorem flat_snoc (rs : List Rc) (r : Rc) : flat (rs ++ [r]) = flat rs ++ r.cs.toList := by simp [flat]
theorem Reads.rec (w : World) (t : TypeId) (r : Rc) : Reads (w.alloc (.cells r.cs t)) (w.heap.size + 1) 4 (some ⟨w.heap.size, 0, none⟩) 1 r.cs.toList :=
  ⟨rfl, fun _ => ⟨_, rfl, Nat.lt_succ_self _, fun j u hu => by
    rw [Addr.add_lit, (Blk.new w t r.cs).cell, Nat.zero_add]
    simpa using hu⟩⟩
theorem wpListIn_append_any {F : Fence} {d : Nat} {P : Program} (w : World) {ops : Array Oper} {rest : List Oper} {o : Oper} {a : Act} {Q : Exit → Act → World → Prop} (hgd : o.guard = none) (s x : Operand) (t : TypeId)
    (ho : o.op = .call { callee := .builtin .append, args := #[s, x], argTypes := #[t, t] })
    (base : Nat) (e : TypeId) (i : TypeInfo) (z : Value) (size bytes : Nat) (ht : P.underlying t = some (.slice e)) (hi : P.info? e = some i) (hz : i.zero = some z)
    (hsize : i.size = size) (hby : i.bytes = bytes) (hzs : z.cells.size = size) (hsz : 0 < size)
    (v : Value) (n : Nat) (xs : List Value) (hs : a.eval s = v) (hown : w.ownsRow base e size v n xs)
    (B : Nat) (A : Option Addr) (m c : Nat) (news : List Value) (hx : a.eval x = .slice A m c) (hr : Reads w B size A m news) (h1 : ∀ u ∈ news, u.oneCell' = true)
    (h63 : n + m ≤ maxLen) (hbytes : (n + m) * bytes ≤ 140737488355328) (hbase : base ≤ w.heap.size)
    (h : ∀ v' w', w'.ownsRow base e size v' (n + m) (xs ++ news) → w.grownBy w' v.ownBlock → (v'.ownBlock = v.ownBlock ∨ v'.ownBlock = some w.heap.size) → wpListIn F d P ops Q rest (a.put o.dst v') w') : wpListIn F d P ops Q (o :: rest) a w := by
  refine wpListIn_plain hgd fun K hK' => ?_
  obtain ⟨v', w', hrun, h2, h3, h4⟩ := run_append_any (P := P) w base t o.type e i z size bytes ht hi hz hsize hby hzs hsz v n xs hown B A m c news hr h1 h63 hbytes hbase
  unfold Oper.wpIn
  refine ⟨?_, ?_⟩
  · simp [Oper.about, ho, resolve, Target.leads, Sem.run_pure]
  · rw [Oper.semAt_plain F _ _ (by rw [ho]; intro c hc'; cases hc')]
    simp [execOp, ho, resolve, invoke, builtin, hs, hx, hrun, Result.andThen]
    exact hK' _ _ (h v' w' h2 h3 h4)
/-- a row's block is cells -/
theorem own_cells {w : World} {B : Nat} {e : TypeId} {size n : Nat} {v : Value} {xs : List Value} (h : w.ownsRow B e size v n xs) : ∀ (j : Nat) (o : Obj), v.ownBlock = some j → w.heap[j]? = some o → o.isCells = true := by
  intro j o hj ho
  rcases h.2 with ⟨rfl, _⟩ | ⟨g, cap, cur, rfl, _, hgb, _⟩
  · simp [Value.ownBlock] at hj
  · obtain rfl : g = j := by simpa [Value.ownBlock] using hj
    rw [hgb] at ho
    cases ho
    rfl
/-- a block of another type is not a row's -/
theorem Blk.ne_row {w : World} {g : Nat} {t e : TypeId} {cs : Array Value} (h : Blk w g t cs) (hte : t ≠ e) {B size n : Nat} {v : Value} {xs : List Value} (hr : w.ownsRow B e size v n xs) : some g ≠ v.ownBlock := by
  rcases hr.2 with ⟨rfl, _⟩ | ⟨g', cap, cur, rfl, _, hgb, _⟩
  · simp [Value.ownBlock]
  · intro e'
    obtain rfl : g = g' := by simpa [Value.ownBlock] using e'
    unfold Blk at h
    rw [hgb] at h
    simp at h
    exact hte h.2.symm
theorem own_below {w w' : World} {B : Nat} {e : TypeId} {size n : Nat} {v : Value} {xs : List Value} (h : w.ownsRow B e size v n xs) (hb : Below w.heap.size w w') : w'.ownsRow B e size v n xs := by
  rcases h.2 with hn | ⟨g, cap, cur, rfl, h2, h3, h4⟩
  · exact ⟨h.1, .inl hn⟩
  · exact ⟨h.1, .inr ⟨g, cap, cur, rfl, h2, (hb.block g (lt_of_block h3)).trans h3, h4⟩⟩
theorem own_set {w : World} {B : Nat} {e : TypeId} {size n : Nat} {v : Value} {xs : List Value} (h : w.ownsRow B e size v n xs) {p : Addr} (hne : some p.block ≠ v.ownBlock) (u : Value) : (w.setCell p u).ownsRow B e size v n xs := by
  rcases h.2 with hn | ⟨g, cap, cur, rfl, h2, h3, h4⟩
  · exact ⟨h.1, .inl hn⟩
  · exact ⟨h.1, .inr ⟨g, cap, cur, rfl, h2, (Below.heap_setCell w p u g (fun e' => hne (by rw [← e']; rfl))).trans h3, h4⟩⟩
/-- what a turn of a block that is no cells leaves -/
theorem Blk.turn {w w' : World} {g : Nat} {t : TypeId} {cs : Array Value} (h : Blk w g t cs) {row : Option Nat} (hg : w.grownBy w' row) (hr : ∀ r, row = some r → ∃ o : Obj, w.heap[r]? = some o ∧ o.isCells = false) : Blk w' g t cs :=
  h.grown hg (fun e' => by
    obtain ⟨o, ho, hc⟩ := hr g e'.symm
    unfold Blk at h
    rw [h] at ho
    cases ho
    cases hc)
theorem own_turn {w w' : World} {B : Nat} {e : TypeId} {size n : Nat} {v : Value} {xs : List Value} (h : w.ownsRow B e size v n xs) {row : Option Nat} (hg : w.grownBy w' row) (hr : ∀ r, row = some r → ∃ o : Obj, w.heap[r]? = some o ∧ o.isCells = false) : w'.ownsRow B e size v n xs := by
  rcases h.2 with hn | ⟨g, cap, cur, rfl, h2, h3, h4⟩
  · exact ⟨h.1, .inl hn⟩
  · refine ⟨h.1, .inr ⟨g, cap, cur, rfl, h2, (hg.block g (lt_of_block h3) (fun e' => ?_)).trans h3, h4⟩⟩
    obtain ⟨o, ho, hc⟩ := hr g e'.symm
    rw [h3] at ho
    cases ho
    cases hc
theorem below_turn {b : Nat} {a w w' : World} (h : Below b a w) {row : Option Nat} (hg : w.grownBy w' row) (hr : ∀ r, row = some r → b ≤ r) (hs : b ≤ w.heap.size) : Below b a w' :=
  h.trans ⟨hg.os, hg.tape, hg.output, hg.size, fun k hk => hg.block k (by omega) (fun e' => by have := hr k e'.symm; omega)⟩
end Go.Proofs.Ytjcdflohkajbcaa

/-
  The records at the beginning of bytes: the iterator.
-/
namespace Go.Proofs.Ytjcdflohkajbcaa
open Go.RowKit Go.Shelf
set_option linter.unusedVariables false
attribute [local go_sem] Oper.semAt_some

theorem wpIn_scope_wide {n : Nat} {P : Program} {c : Code} {Q : Exit → Act → World → Prop} {a : Act} {w : World} (h : c.wpIn Fence.wide n P (Exit.noGoto Q) a w) : (Code.scope c).wpIn Fence.wide n P Q a w :=
  wpIn_wide.2 (wp_scope_straight (wpIn_wide.1 h))
theorem all_any (A : Option Addr) (n cap : Nat) (w : World) :
    Calls Try.prog 13 #[.slice A n cap] w fun e w' => e = .returned (.func (.func 32) #[] #[.pointer (some ⟨w.heap.size, 0, none⟩)]) ∧ w' = w.alloc (.cells #[.slice A n cap] 25) := by
  go_enter Try.func13, Try.ntmps13
  go_wp2
  go_ret
  exact ⟨rfl, rfl⟩
/-- what is yielded: an offset and a record -/
def sEnc (x : Nat × Rc) : Array Value := #[.int .i64 x.1, .agg #[.int .i64 x.2.kind, .int .i64 x.2.seq, .string x.2.key, .string x.2.val]]
/-- where a slice's cells lie -/
def At (A : Option Addr) (B : Nat) : Prop := ∀ b off : Nat, A = some ⟨b, off, none⟩ → b < B
theorem RB.cut_off {w : World} {A : Option Addr} {M : List Int} (h : RB w A M) {k cap : Nat} (hk : k ≤ M.length) (hc : M.length ≤ cap) : RB w (if cap = k then A else A.map (·.add k)) (M.drop k) := by
  by_cases hcap : cap = k
  · rw [if_pos hcap]
    have : M.drop k = [] := List.drop_eq_nil_of_le (by omega)
    rw [this]
    rcases h with ⟨rfl, _⟩ | ⟨b, off, rfl, _⟩
    · exact .inl ⟨rfl, rfl⟩
    · exact .inr ⟨b, off, rfl, fun i hi => by simp at hi⟩
  · rw [if_neg hcap]
    rcases h with ⟨rfl, rfl⟩ | ⟨b, off, rfl, hm⟩
    · exact .inl ⟨rfl, by simp⟩
    · refine .inr ⟨b, off + k, ?_, fun i hi => ?_⟩
      · by_cases h0 : k = 0
        · subst h0; rfl
        · simp [Addr.add, h0]
      · rw [List.length_drop] at hi
        rw [Nat.add_assoc, hm (k + i) (by omega), List.getD_eq_getElem?_getD, List.getD_eq_getElem?_getD, List.getElem?_drop]
/-- what the iterator reads between two rounds -/
def sG (A : Option Addr) (len cap : Nat) (M : List Int) (Bn : Nat) (w : World) : Prop := (0 < len → RB w A M ∧ At A w.heap.size) ∧ w.cell? ⟨Bn, 0, none⟩ = some (.slice A len cap)
/-- bytes that a call is handed -/
def BA (w : World) (A : Option Addr) (len cap : Nat) (M : List Int) : Prop := M.length = len ∧ (0 < len → RB w A M ∧ At A w.heap.size) ∧ BB M ∧ len ≤ cap ∧ cap ≤ maxLen
theorem At.more {A : Option Addr} {B B' : Nat} (h : At A B) (hB : B ≤ B') : At A B' := fun b off e => Nat.lt_of_lt_of_le (h b off e) hB
theorem BA.later {w w' : World} {A : Option Addr} {len cap : Nat} {M : List Int} (h : BA w A len cap M) (hb : Below w.heap.size w w') : BA w' A len cap M :=
  ⟨h.1, fun hp => ⟨(h.2.1 hp).1.keep hb (h.2.1 hp).2, (h.2.1 hp).2.more hb.size⟩, h.2.2⟩
set_option maxHeartbeats 1600000 in
set_option maxRecDepth 100000 in
theorem scan_iter (n : Nat) (hn : 1 ≤ n) (A : Option Addr) (cap len : Nat) (M : List Int) (Bn : Nat) (W : World) (hlen : M.length = len) (hBB : BB M) (hl : len ≤ cap) (hc : cap ≤ maxLen) :
    IterO Fence.wide n Try.prog 32 #[.pointer (some ⟨Bn, 0, none⟩)] sEnc (sG A len cap M Bn) (fun xs => ∃ e, Scanned M xs e) (fun xs => ∃ e, Chain M xs e) W := by
  intro l J Jx hJ hJx hG hY h0
  unfold maxLen at hc
  refine callsIn_of_wp Try.func32 rfl trivial ?_
  simp only [Try.ntmps32, List.size_toArray, List.length_cons, List.length_nil, Nat.reduceAdd, Nat.reduceSub, Array.replicate_succ, Array.replicate_zero, List.push_toArray, List.append_toArray, List.nil_append, List.cons_append]
  refine wpIn_scope_wide ?_
  gi_wp2
  refine wpIn_label ?_
  gi_wp2
  gi_loopw [3] (fun o wr => ∃ (pre : List (Nat × Rc)) (off : Nat), o = .int .i64 off ∧ Chain M pre off ∧ J pre wr) (fun o _ => len + 1 - (intOf o).toNat)
  case atStart => exact ⟨[], 0, rfl, .nil, h0⟩
  case round =>
    clear h0
    obtain ⟨pre, off, rfl, hch, hJs⟩ := hrel
    have hol := (chain_le hBB hch).1
    rw [hlen] at hol
    obtain ⟨hMA, hcell⟩ := hG _ _ hJs
    clear hG
    have hlt : Bn < wr.heap.size := block_lt_of_cell hcell
    have z1 : (off : Int) ≤ (len : Int) := by omega
    have z2 : (len : Int) ≤ (cap : Int) := by omega
    by_cases he : (decF (M.drop off)).2.2 = 0
    · obtain ⟨⟨r, nn, e0⟩, hd⟩ : ∃ x, x = decF (M.drop off) := ⟨_, rfl⟩
      rw [← hd] at he
      have he : e0 = 0 := he
      subst he
      obtain ⟨hok, hnn, hrs, _⟩ := decF_ok (hBB.drop off) hd.symm
      subst hnn
      rw [List.length_drop, hlen] at hrs
      obtain ⟨hMw, hA⟩ := hMA (by unfold Rc.size at hrs; omega)
      clear hMA
      have hrp : 16 ≤ r.size := by unfold Rc.size; omega
      have hch' := Chain.snoc hch hd.symm
      obtain ⟨b, o, rfl⟩ : ∃ b o, A = some ⟨b, o, none⟩ := by
        rcases hMw with ⟨rfl, h⟩ | ⟨b, o, rfl, _⟩
        · rw [h] at hlen; simp at hlen; omega
        · exact ⟨b, o, rfl⟩
      have hdec : ∀ w : World, Below wr.heap.size wr w → Calls Try.prog 33 #[.slice (some ⟨b, o + off, none⟩) (len - off) (cap - off)] w fun e w' => e = .returned (.tuple #[.agg #[.int .i64 r.kind, .int .i64 r.seq, .string r.key, .string r.val], .int .i64 (r.size : Nat), .int .i64 0]) ∧ Below w.heap.size w w' := by
        intro w hw
        have h1 := (hMw.keep hw hA).cut_off (k := off) (cap := cap) (by omega) (by omega)
        rw [if_neg (by omega)] at h1
        have h2 : RB w (some ⟨b, o + off, none⟩) (M.drop off) := by
          by_cases h0 : off = 0
          · subst h0; exact h1
          · simpa [Addr.add, h0] using h1
        have h3 := decode_any (some ⟨b, o + off, none⟩) (len - off) (cap - off) (M.drop off) w h2 (by rw [List.length_drop, hlen]) (hBB.drop off) (by omega) (by unfold maxLen; omega)
        rw [← hd] at h3
        exact h3
      have y4 : ¬ cap = off := by omega
      obtain ⟨N, hN⟩ : ∃ N, N = r.size := ⟨_, rfl⟩
      have HY := hY pre (off, r)
      rw [← hN] at hdec hrs hrp hch'
      clear hd hok hMw hA hN hch
      obtain ⟨kind, sq, key, val⟩ := r
      have hdec : ∀ w : World, Below wr.heap.size wr w → Calls Try.prog 33 #[.slice (some ⟨b, o + off, none⟩) (len - off) (cap - off)] w fun e w' => e = .returned (.tuple #[.agg #[.int .i64 kind, .int .i64 sq, .string key, .string val], .int .i64 (N : Nat), .int .i64 0]) ∧ Below w.heap.size w w' := hdec
      gi_wp2
      refine ⟨trivial, (callsIn_wide.2 (hdec _ (Below.refl _ _))).mono ?_⟩
      rintro e w1 ⟨rfl, hb1⟩
      have hX := Blk.new w1 34 #[.int .i64 kind, .int .i64 sq, .string key, .string val]
      have hb2 : Below wr.heap.size wr (w1.alloc (.cells #[.int .i64 kind, .int .i64 sq, .string key, .string val] 34)) := b_alloc hb1 _
      have hJ2 := hJ _ _ _ hJs hb2
      obtain ⟨fn, tmps, assign, body, hy, hR⟩ := HY _ hJ2 ⟨_, hch'⟩
      have hy : (Instr.yield l #[.int .i64 off, .agg #[.int .i64 kind, .int .i64 sq, .string key, .string val]]).run Try.prog (w1.alloc (.cells #[.int .i64 kind, .int .i64 sq, .string key, .string val] 34)) = .ok (.round l fn tmps assign body) (w1.alloc (.cells #[.int .i64 kind, .int .i64 sq, .string key, .string val] 34)) := hy
      have cX := hX.cell
      clear hdec hcell hJs hb1 hb2 HY hJ2
      gi_wp2
      refine hR.mono ?_
      rintro e W3 (⟨rfl, hJ3⟩ | ⟨rfl, hJx3⟩)
      · gi_wp2
        go_roundw
        case rel => exact ⟨_, off + N, by go_num, hch', hJ3⟩
        case measure => simp [intOf]; omega
      · gi_wp2
        rw [Exit.noGoto_normal]
        go_end0
        exact ⟨⟨_, rfl⟩, .inr ⟨_, ⟨_, hch'⟩, hJx3⟩⟩
    · obtain ⟨e0, hd, hne⟩ : ∃ e0 : Int, decF (M.drop off) = (Rc.zero, 0, e0) ∧ (e0 != 0) = true := by
        rcases decF_err (M.drop off) with h | h | h | h
        · exact absurd h he
        · exact ⟨_, h, rfl⟩
        · exact ⟨_, h, rfl⟩
        · exact ⟨_, h, rfl⟩
      have hS : ∃ e, Scanned M pre e := ⟨off, hch, he⟩
      rcases Nat.lt_or_ge (len - off) 16 with hsh | hsh
      · have hdec : ∀ (A' : Option Addr) (n' c' : Nat), n' = len - off → ∀ w : World, Calls Try.prog 33 #[.slice A' n' c'] w fun e w' => e = .returned (.tuple #[.agg #[.int .i64 0, .int .i64 0, .string ⟨#[]⟩, .string ⟨#[]⟩], .int .i64 0, .int .i64 14]) ∧ Below w.heap.size w w' := fun A' n' c' h1 w => rd_torn0 A' n' c' w (by omega)
        clear hMA hY hd he hch
        rcases A with _ | ⟨b, o, sp⟩
        all_goals
          by_cases hco : cap = off
          · subst hco
            gi_wp2
            refine ⟨trivial, (callsIn_wide.2 (hdec _ _ _ (by omega) _)).mono ?_⟩
            rintro e w1 ⟨rfl, hb1⟩
            gi_wp2
            have hbb := b_alloc hb1 (.cells #[.int .i64 0, .int .i64 0, .string ⟨#[]⟩, .string ⟨#[]⟩] 34)
            rw [Exit.noGoto_normal]
            go_end0
            exact ⟨⟨_, rfl⟩, .inl ⟨pre, hS, hJ _ _ _ hJs (hbb)⟩⟩
          · gi_wp2
            refine ⟨trivial, (callsIn_wide.2 (hdec _ _ _ (by omega) _)).mono ?_⟩
            rintro e w1 ⟨rfl, hb1⟩
            gi_wp2
            have hbb := b_alloc hb1 (.cells #[.int .i64 0, .int .i64 0, .string ⟨#[]⟩, .string ⟨#[]⟩] 34)
            rw [Exit.noGoto_normal]
            go_end0
            exact ⟨⟨_, rfl⟩, .inl ⟨pre, hS, hJ _ _ _ hJs (hbb)⟩⟩
      · obtain ⟨hMw, hA⟩ := hMA (by omega)
        have hco : ¬ cap = off := by omega
        obtain ⟨b, o, rfl⟩ : ∃ b o, A = some ⟨b, o, none⟩ := by
          rcases hMw with ⟨rfl, h⟩ | ⟨b, o, rfl, _⟩
          · rw [h] at hlen; simp at hlen; omega
          · exact ⟨b, o, rfl⟩
        have hdec : ∀ w : World, Below wr.heap.size wr w → Calls Try.prog 33 #[.slice (some ⟨b, o + off, none⟩) (len - off) (cap - off)] w fun e w' => e = .returned (.tuple #[.agg #[.int .i64 0, .int .i64 0, .string ⟨#[]⟩, .string ⟨#[]⟩], .int .i64 0, .int .i64 e0]) ∧ Below w.heap.size w w' := by
          intro w hw
          have h1 := (hMw.keep hw hA).cut_off (k := off) (cap := cap) (by omega) (by omega)
          rw [if_neg hco] at h1
          have h2 : RB w (some ⟨b, o + off, none⟩) (M.drop off) := by
            by_cases h0 : off = 0
            · subst h0; exact h1
            · simpa [Addr.add, h0] using h1
          have h3 := decode_any _ (len - off) (cap - off) (M.drop off) w h2 (by rw [List.length_drop, hlen]) (hBB.drop off) (by omega) (by unfold maxLen; omega)
          rw [hd] at h3
          exact h3
        clear hMw hA hMA hY hd he hch
        gi_wp2
        refine ⟨trivial, (callsIn_wide.2 (hdec _ (Below.refl _ _))).mono ?_⟩
        rintro e w1 ⟨rfl, hb1⟩
        gi_wp2
        have hbb := b_alloc hb1 (.cells #[.int .i64 0, .int .i64 0, .string ⟨#[]⟩, .string ⟨#[]⟩] 34)
        rw [Exit.noGoto_normal]
        go_end0
        exact ⟨⟨_, rfl⟩, .inl ⟨pre, hS, hJ _ _ _ hJs (hbb)⟩⟩
end Go.Proofs.Ytjcdflohkajbcaa

/-
  Where the records of bytes end, and which they are: the program.
-/
namespace Go.Proofs.Ytjcdflohkajbcaa
open Go.RowKit Go.Shelf
set_option linter.unusedVariables false
set_option linter.unusedSimpArgs false
attribute [local go_sem] Oper.semAt_some

/-- what holds between two rounds -/
def enI (w : World) (A : Option Addr) (len cap : Nat) (M : List Int) (pre : List (Nat × Rc)) (W : World) : Prop :=
  ∃ v : Value, Blk W w.heap.size 41 #[v] ∧ W.ownsRow w.heap.size 34 4 v pre.length (flat (pre.map Prod.snd)) ∧ Blk W (w.heap.size + 1) 3 #[.int .i64 (endOf pre : Nat)] ∧
    Blk W (w.heap.size + 1 + 1) 25 #[.slice A len cap] ∧ (0 < len → RB W A M ∧ At A w.heap.size) ∧ Below w.heap.size w W
theorem blk_new1 (w : World) (o : Obj) (t : TypeId) (cs : Array Value) : Blk ((w.alloc o).alloc (.cells cs t)) (w.heap.size + 1) t cs := by
  have h := Blk.new (w.alloc o) t cs
  rwa [World.size_alloc] at h
theorem Blk.one_inj {w : World} {g : Nat} {t t' : TypeId} {u v : Value} (h : Blk w g t #[u]) (k : Blk w g t' #[v]) : u = v := by
  have h1 := h.cell 0
  have h2 := k.cell 0
  rw [h1] at h2
  injection h2
theorem enI_own (w : World) (A : Option Addr) (len cap : Nat) (M : List Int) (b : Nat) (hb : w.heap.size ≤ b) : OwnFrom b (enI w A len cap M) := by
  rintro s W W' row ⟨v, h1, h2, h3, h4, h5, h7⟩ hg hr
  have hr' := fun r e => (hr r e).2
  have h8 := below_turn h7 hg (fun r e => Nat.le_trans hb (hr r e).1) h7.size
  refine ⟨v, h1.turn hg hr', own_turn h2 hg hr', h3.turn hg hr', h4.turn hg hr', fun hp => ⟨?_, (h5 hp).2⟩, h8⟩
  exact (h5 hp).1.keep (below_turn (Below.refl w.heap.size W) hg (fun r e => Nat.le_trans hb (hr r e).1) h7.size) (h5 hp).2
set_option maxHeartbeats 1600000 in
set_option maxRecDepth 100000 in
theorem ends_any (A : Option Addr) (len cap : Nat) (M : List Int) (w : World) (xs : List (Nat × Rc)) (en : Nat) (hM0 : BA w A len cap M) (h5 : len ≤ 100000) (hS : Scanned M xs en) :
    Calls Try.prog 42 #[.slice A len cap] w fun e w' => (∃ v, e = .returned (.tuple #[v, .int .i64 (en : Nat)]) ∧ w'.ownsRow w.heap.size 34 4 v xs.length (flat (xs.map Prod.snd))) ∧ Below w.heap.size w w' := by
  obtain ⟨i0, hi0, hz0, hz1, hz2⟩ := info_parts rec_info
  obtain ⟨hlen, hM, hBB, hl, hc⟩ := hM0
  refine (callsIn_wide (n := 5)).1 ?_
  refine callsIn_of_wp_marks Try.func42 rfl trivial ?_ rfl
  simp only [Try.ntmps42, List.size_toArray, List.length_cons, List.length_nil, Nat.reduceAdd, Nat.reduceSub, Array.replicate_succ, Array.replicate_zero, List.push_toArray, List.append_toArray, List.nil_append, List.cons_append]
  gi_wp2
  refine ⟨trivial, (callsIn_wide.2 (all_any _ _ _ _)).mono ?_⟩
  rintro e w' ⟨rfl, rfl⟩
  gi_wp2
  obtain ⟨w3, hw3⟩ : ∃ w3, w3 = ((w.alloc (.cells #[.slice none 0 0] 41)).alloc (.cells #[.int .i64 0] 3)).alloc (.cells #[.slice A len cap] 25) := ⟨_, rfl⟩
  have x1 : Blk w3 w.heap.size 41 #[.slice none 0 0] := by rw [hw3]; exact ((Blk.new w _ _).alloc _).alloc _
  have x2 : Blk w3 (w.heap.size + 1) 3 #[.int .i64 0] := by rw [hw3]; exact (blk_new1 w _ _ _).alloc _
  have x3 : Blk w3 (w.heap.size + 1 + 1) 25 #[.slice A len cap] := by rw [hw3]; exact alloc_here' (by simp)
  have hb3 : Below w.heap.size w w3 := by rw [hw3]; exact b_alloc (b_alloc (b_alloc (Below.refl _ _) _) _) _
  have hsz : w3.heap.size = w.heap.size + 1 + 1 + 1 := by rw [hw3]; simp
  rw [← hw3]
  have HW3 := Lib.hid hw3
  clear hw3
  have hI0 : enI w A len cap M [] w3 := ⟨_, x1, World.ownsRow_nil _ _ _ _, x2, x3, fun hp => ⟨(hM hp).1.keep hb3 (hM hp).2, (hM hp).2⟩, hb3⟩
  clear x1 x2 x3
  refine range_own rfl (by omega) (gf := 32) (lb := #[.pointer (some ⟨w.heap.size + 1 + 1, 0, none⟩)]) rfl trivial (enters_of Try.func32 (by kernel_rfl) rfl)
    (encs := sEnc) (G := sG A len cap M (w.heap.size + 1 + 1)) (S := fun xs => ∃ e, Scanned M xs e) (Sp := fun xs => ∃ e, Chain M xs e) (fun _ => rfl)
    (fun W1 hW1 hs1 => scan_iter _ (by omega) A cap len M _ W1 hlen hBB hl hc)
    (enI w A len cap M) (fun _ _ _ => False) (enI_own w A len cap M _ (by omega)) (fun _ _ _ _ _ h _ _ => h)
    (fun s W h => by
      obtain ⟨v, h1, h2, h3, h4, h5, h7⟩ := h
      exact ⟨fun hp => ⟨(h5 hp).1, (h5 hp).2.more h7.size⟩, h4.cell 0⟩)
    hI0 ?round ?done ?stop
  case stop => exact fun D c pre W hD _ h _ => h.elim
  case round =>
    have HRB0 := Lib.hid hM
    clear hI0 hb3 hM
    rintro l pre ⟨off, kind, sq, key, val⟩ W hl1 hl2 ⟨en2, hch⟩ hI
    obtain ⟨c1, c2, c3⟩ := chain_le hBB hch
    obtain ⟨c4, c5⟩ := c3 (off, ⟨kind, sq, key, val⟩) (by simp)
    have hpl : pre.length ≤ 10000 := by rw [List.length_append, List.length_singleton] at c2; omega
    have c4 : off ≤ len := by rw [← hlen]; exact c4
    have k1 : key.size ≤ 32 := c5.2.2.2.2.2.1
    have k2 : val.size ≤ 512 := c5.2.2.2.2.2.2
    have hend : endOf (pre ++ [(off, ⟨kind, sq, key, val⟩)]) = off + (16 + key.size + val.size) := by simp [endOf, Rc.size]
    have hfl : flat ((pre ++ [(off, (⟨kind, sq, key, val⟩ : Rc))]).map Prod.snd) = flat (pre.map Prod.snd) ++ [.int .i64 kind, .int .i64 sq, .string key, .string val] := by rw [List.map_append]; exact flat_snoc _ _
    obtain ⟨L, hL⟩ : ∃ L, L = pre.length := ⟨_, rfl⟩
    obtain ⟨FL, hFL⟩ : ∃ FL, FL = flat (pre.map Prod.snd) := ⟨_, rfl⟩
    have hpr : ∃ pr, pr = pre ++ [(off, (⟨kind, sq, key, val⟩ : Rc))] := ⟨_, rfl⟩
    obtain ⟨pr, hpr⟩ := hpr
    have hprl : pr.length = L + 1 := by rw [hpr, hL]; simp
    rw [← hpr] at hend hfl
    rw [← hpr]
    rw [← hL] at hpl
    rw [← hFL] at hfl
    have HE := Lib.hid hend
    have HF := Lib.hid hfl
    have HL := Lib.hid hprl
    clear hend hfl hprl hch c1 c2 c3 c5 hpr hS hBB
    have hcost := fun w => cost_any key val (by omega) (by omega) w
    have z1 : (off : Int) ≤ 100000 := by omega
    have z2 : (0 : Int) ≤ (off : Int) := by omega
    have HFL := Lib.hid hFL
    have HLL := Lib.hid hL
    simp only [sEnc, List.zip_toArray, List.zip_cons_cons, List.zip_nil_right, List.foldl_toArray, List.foldl_cons, List.foldl_nil, List.setIfInBounds_toArray, List.set_cons_zero, List.set_cons_succ]
    clear hFL hL
    gi_wp2
    refine ⟨KeepsFrom.new (b_alloc (Below.refl _ W) _), own_new (enI_own w A len cap M w3.heap.size (by omega)) hI (b_alloc (Below.refl _ W) _), fun o hIo => ?_⟩
    have y1 := (Blk.new W 34 #[.int .i64 kind, .int .i64 sq, .string key, .string val]).putObj (l := l) (by omega) o
    obtain ⟨vW, hW1, hW2, _⟩ := hI
    have hW1 := (hW1.alloc (.cells #[.int .i64 kind, .int .i64 sq, .string key, .string val] 34)).putObj (l := l) (by omega) o
    have hWl := fun k hk => (World.ownsRow.lt hW2 k hk).2
    have hlt : w3.heap.size ≤ ((W.alloc (.cells #[.int .i64 kind, .int .i64 sq, .string key, .string val] 34)).putObj l o).heap.size := by rw [size_putObj, World.size_alloc]; omega
    have hne1 : W.heap.size ≠ w.heap.size := by omega
    have hne2 : W.heap.size ≠ w.heap.size + 1 := by omega
    generalize (W.alloc (.cells #[.int .i64 kind, .int .i64 sq, .string key, .string val] 34)).putObj l o = Wq at y1 hIo hlt hW1 ⊢
    obtain ⟨v, h1, h2, h3, h4, h5, h7⟩ := hIo
    obtain rfl : vW = v := Blk.one_inj hW1 h1
    clear hW1 hW2
    have hyne : some W.heap.size ≠ vW.ownBlock := fun e' => Nat.lt_irrefl _ (hWl _ e'.symm)
    clear hWl
    rw [← HFL.out, ← HLL.out] at h2
    have hq := Blk.new Wq 34 #[.int .i64 kind, .int .i64 sq, .string key, .string val]
    have o2 := own_below h2 (b_alloc (Below.refl _ Wq) (.cells #[.int .i64 kind, .int .i64 sq, .string key, .string val] 34))
    have hrd := Reads.rec Wq 34 ⟨kind, sq, key, val⟩
    have k4 : ∀ u ∈ (Rc.cs ⟨kind, sq, key, val⟩).toList, u.oneCell' = true := by intro u hu; simp [Rc.cs] at hu; rcases hu with rfl | rfl | rfl | rfl <;> rfl
    have k5 : L + 1 ≤ maxLen := by unfold maxLen; omega
    have k6 : (L + 1) * 48 ≤ 140737488355328 := by omega
    have k7 : w.heap.size ≤ (Wq.alloc (.cells #[.int .i64 kind, .int .i64 sq, .string key, .string val] 34)).heap.size := by rw [World.size_alloc]; omega
    have g1 := h1.alloc (.cells #[.int .i64 kind, .int .i64 sq, .string key, .string val] 34)
    have g3 := h3.alloc (.cells #[.int .i64 kind, .int .i64 sq, .string key, .string val] 34)
    have g4 := h4.alloc (.cells #[.int .i64 kind, .int .i64 sq, .string key, .string val] 34)
    have gy := y1.alloc (.cells #[.int .i64 kind, .int .i64 sq, .string key, .string val] 34)
    have e1 := h1.cell
    have e2 := y1.cell
    gi_wp2_with (first
      | (gi_at_builtin; refine wpListIn_append_any _ rfl (.tmp 12) (.tmp 14) _ rfl w.heap.size 34 i0 _ 4 48 Try.underlying41 hi0 hz0 hz1 hz2 rfl (by omega) _ L _ rfl o2 (Wq.heap.size + 1) _ 1 1 _ rfl hrd k4 k5 k6 k7 ?_; intro v5 w5 o5 hg5 hat5; obtain ⟨g5, cap5, rfl⟩ := ownsRow_succ o5; have q1 := g1.grown hg5 (g1.ne_row (by decide) o2); have q3 := g3.grown hg5 (g3.ne_row (by decide) o2); have q4 := g4.grown hg5 (g4.ne_row (by decide) o2); have qy := gy.grown hg5 hyne; have hS5 := q1.set_ 0 (.slice (some ⟨g5, 0, none⟩) (L + 1) cap5); have f1 := q1.cell; have f2 := q1.frozen; have f3 := (qy.far (p := ⟨w.heap.size, 0, none⟩) hne1 (.slice (some ⟨g5, 0, none⟩) (L + 1) cap5)).cell))
    refine ⟨trivial, (CallsIn.inRound l (callsIn_wide.2 (hcost _))).mono ?_⟩
    rintro e w' ⟨rfl, rfl⟩
    have q5 := o5
    have hnb := fun k hk => (World.ownsRow.lt o2 k hk).1
    have hB1 := (b_alloc h7 (.cells #[.int .i64 kind, .int .i64 sq, .string key, .string val] 34)).grown hg5 k7 hnb
    have hB2 := hB1.setCell (p := ⟨w.heap.size, 0, none⟩) (Nat.le_refl _) (.slice (some ⟨g5, 0, none⟩) (L + 1) cap5)
    have hB3 := hB2.setCell (p := ⟨w.heap.size + 1, 0, none⟩) (Nat.le_succ _) (.int .i64 ((off + (16 + key.size + val.size) : Nat) : Int))
    have hS3 := q3.far (p := ⟨w.heap.size, 0, none⟩) (by show w.heap.size + 1 ≠ w.heap.size; omega) (.slice (some ⟨g5, 0, none⟩) (L + 1) cap5)
    have f4 := hS3.cell
    have f5 := hS3.frozen
    have hr5 := q1.ne_row (by decide) o5
    have hr6 := q3.ne_row (by decide) o5
    have hK1 : KeepsFrom w3.heap.size Wq (w5.setCell ⟨w.heap.size, 0, none⟩ (.slice (some ⟨g5, 0, none⟩) (L + 1) cap5)) := ((KeepsFrom.new (b_alloc (Below.refl _ _) _)).trans (KeepsFrom.grown hg5 (own_cells o2))).trans (KeepsFrom.set_ _ _ _)
    have hI2 : enI w A len cap M pr ((w5.setCell ⟨w.heap.size, 0, none⟩ (.slice (some ⟨g5, 0, none⟩) (L + 1) cap5)).setCell ⟨w.heap.size + 1, 0, none⟩ (.int .i64 ((off + (16 + key.size + val.size) : Nat) : Int))) := by
      refine ⟨_, hS5.far (p := ⟨w.heap.size + 1, 0, none⟩) (by show w.heap.size ≠ w.heap.size + 1; omega) _, ?_, ?_, (q4.far (p := ⟨w.heap.size, 0, none⟩) (by show w.heap.size + 1 + 1 ≠ w.heap.size; omega) _).far (p := ⟨w.heap.size + 1, 0, none⟩) (by show w.heap.size + 1 + 1 ≠ w.heap.size + 1; omega) _, fun hp => ⟨(HRB0.out hp).1.keep hB3 (HRB0.out hp).2, (HRB0.out hp).2⟩, hB3⟩
      · rw [HL.out, HF.out]
        exact own_set (own_set o5 (p := ⟨w.heap.size, 0, none⟩) hr5 _) (p := ⟨w.heap.size + 1, 0, none⟩) hr6 _
      · rw [HE.out]
        exact hS3.set_ 0 _
    have z3 : ((off + (16 + key.size + val.size) : Nat) : Int) = (off : Int) + (16 + (key.size : Int) + (val.size : Int)) := by omega
    rw [z3] at hI2
    clear z3 hB1 hB2 hB3 q1 q3 q4 qy hS5 hS3 o5 q5 hg5 hat5 o2 h1 h2 h3 h4 h5 h7 g1 g3 g4 gy f1 f2 f3 hrd hcost e1 e2 y1 hq
    gi_wp2
    exact ⟨by rw [← hsz]; exact hK1.trans (KeepsFrom.set_ _ _ _), hI2⟩
  case done =>
    clear hI0 hb3
    rintro D ys W hD ⟨e', hS'⟩ hI hK
    obtain ⟨rfl, rfl⟩ := scanned_unique hS' hS
    have hen := chain_end hS.1
    obtain ⟨v, h1, h2, h3, h4, h5, h7⟩ := hI
    rw [← hen] at h3
    have c1 := h1.cell
    have c3 := h3.cell
    clear hen hM hS hS'
    gi_wp2
    gi_region
    gi_wp2
    have hK' : W.drew.heap[D]? = some (.deferred (some [])) := hK
    refine ⟨by simp, .inl ⟨_, _, rfl, run_takeDeferred hK', ?_⟩⟩
    refine ⟨_, by simp [results, Try.results42, go_sem], ⟨v, rfl, ownsRow_putObj (own_below h2 (Below.drew (Below.refl _ _))) _ hK' rfl⟩, (Below.drew h7).trans (below_putObj _ D (.deferred none) (by omega))⟩
end Go.Proofs.Ytjcdflohkajbcaa

/-
  Where records end, whether they are sealed, why they end: the program.
-/
namespace Go.Proofs.Ytjcdflohkajbcaa
open Go.RowKit
set_option linter.unusedVariables false
set_option linter.unusedSimpArgs false

/-- sealed: a footer follows, the records' own, and nothing else -/
def sealB (M : List Int) (rs : List Rc) (en : Nat) : Bool := decide (M.length = en + 16) && (decide ((fdec (M.drop en)).2.2 = 0) && (decide ((ofF rs).2.2 = 0) && (decide ((fdec (M.drop en)).1 = (ofF rs).1) && decide ((fdec (M.drop en)).2.1 = (ofF rs).2.1))))
/-- why records end -/
def reasonF (M : List Int) (rs : List Rc) (en : Nat) : Int := if en = M.length ∨ sealB M rs en = true then 0 else (decF (M.drop en)).2.2
/-- what lies behind -/
theorem BA.rest {w : World} {A : Option Addr} {len cap : Nat} {M : List Int} (h : BA w A len cap M) (k : Nat) (hk : k ≤ len) : 0 < len - k → RB w (if cap = k then A else A.map (·.add k)) (M.drop k) := by
  intro hp
  exact (h.2.1 (by omega)).1.cut_off (by rw [h.1]; exact hk) (by rw [h.1]; exact h.2.2.2.1)
set_option maxRecDepth 100000 in
theorem slice_from {A : Option Addr} {len cap k : Nat} (h1 : k ≤ len) (w : World) : (Instr.sliceAt 25 (.slice A len cap) (some (.int .i64 (k : Nat))) none none).run Try.prog w = .ok (.slice (if cap = k then A else A.map (·.add k)) (len - k) (cap - k)) w := by
  have h := run_slice_l (P := Try.prog) (w := w) 25 A len cap Try.underlying25 .i64 (k : Nat) (by omega) (by omega)
  rw [run_sliceAt_slice (h := Try.underlying25), h]
  simp [go_sem, sliced]
theorem own_sz {xs : List (Nat × Rc)} {M : List Int} (hB : BB M) {en : Nat} (h : Chain M xs en) : ∀ r ∈ xs.map Prod.snd, r.Sz := by
  intro r hr
  obtain ⟨x, hx, rfl⟩ := List.mem_map.1 hr
  have := ((chain_le hB h).2.2 x hx).2
  exact ⟨by have := this.2.2.2.2.2.1; unfold maxLen; omega, by have := this.2.2.2.2.2.2; unfold maxLen; omega⟩
theorem end_any (A : Option Addr) (len cap : Nat) (M : List Int) (w : World) (xs : List (Nat × Rc)) (en : Nat) (hM : BA w A len cap M) (h5 : len ≤ 100000) (hS : Scanned M xs en) :
    Calls Try.prog 26 #[.slice A len cap] w fun e w' => e = .returned (.int .i64 (en : Nat)) ∧ Below w.heap.size w w' := by
  have he := fun w => fun (h : BA w A len cap M) => ends_any A len cap M w xs en h h5 hS
  have he0 := he w hM
  clear hM he hS
  go_enter Try.func26, Try.ntmps26
  go_wp2_with fail
  refine he0.mono ?_
  rintro e w1 ⟨⟨v, rfl, ho⟩, hb1⟩
  go_wp2_with fail
  go_ret
  exact ⟨rfl, hb1⟩
set_option maxHeartbeats 1600000 in
set_option maxRecDepth 100000 in
theorem sealed_any (A : Option Addr) (len cap : Nat) (M : List Int) (w : World) (xs : List (Nat × Rc)) (en : Nat) (hM : BA w A len cap M) (h5 : len ≤ 100000) (hS : Scanned M xs en) :
    Calls Try.prog 27 #[.slice A len cap] w fun e w' => e = .returned (.bool (sealB M (xs.map Prod.snd) en)) ∧ Below w.heap.size w w' := by
  obtain ⟨s, hs⟩ : ∃ s, s = sealB M (xs.map Prod.snd) en := ⟨_, rfl⟩
  rw [← hs]
  have he0 := ends_any A len cap M w xs en hM h5 hS
  have hle := (chain_le hM.2.2.1 hS.1).1
  have hsz := own_sz hM.2.2.1 hS.1
  have hlen := hM.1
  have hcap := hM.2.2.2.1
  have hcm := hM.2.2.2.2
  unfold maxLen at hcm
  rw [hlen] at hle
  unfold sealB at hs
  rw [hlen] at hs
  have hxl : (xs.map Prod.snd).length = xs.length := by simp
  by_cases h16 : len = en + 16
  · rw [decide_eq_true h16, Bool.true_and] at hs
    have y1 : ((len : Int) != (en : Int) + 16) = false := by rw [bne_eq_false_iff_eq]; omega
    have y2 : (en : Int) ≤ (len : Int) := by omega
    have hsl := fun w => slice_from (A := A) (len := len) (cap := cap) (k := en) hle w
    obtain ⟨A2, hA2⟩ : ∃ A2, A2 = if cap = en then A else A.map (·.add en) := ⟨_, rfl⟩
    have hfd := fun (w' : World) (hb : Below w.heap.size w w') => fde_any A2 (len - en) (cap - en) (M.drop en) w' (by rw [hA2]; exact (hM.later hb).rest en hle) (by rw [List.length_drop, hlen]) (fun x hx => hM.2.2.1 x (List.mem_of_mem_drop hx)) (by omega) (by unfold maxLen; omega)
    rw [← hA2] at hsl
    obtain ⟨⟨c, l, e1⟩, hf⟩ : ∃ f, f = fdec (M.drop en) := ⟨_, rfl⟩
    rw [← hf] at hfd hs
    obtain ⟨⟨c2, l2, e2⟩, hg⟩ : ∃ f, f = ofF (xs.map Prod.snd) := ⟨_, rfl⟩
    rw [← hg] at hs
    have hs2 : s = (decide (e1 = 0) && (decide (e2 = 0) && (decide (c = c2) && decide (l = l2)))) := hs
    clear hs
    have hfd : ∀ w' : World, Below w.heap.size w w' → Calls Try.prog 43 #[.slice A2 (len - en) (cap - en)] w' fun e w'' => e = .returned (.tuple #[.agg #[.int .i64 c, .int .i64 l], .int .i64 e1]) ∧ Below w'.heap.size w' w'' := hfd
    have hof : ∀ (w' : World) (v : Value), w'.ownsRow w.heap.size 34 4 v xs.length (flat (xs.map Prod.snd)) → Calls Try.prog 44 #[v] w' fun e w'' => e = .returned (.tuple #[.agg #[.int .i64 c2, .int .i64 l2], .int .i64 e2]) ∧ Below w'.heap.size w' w'' := by
      intro w' v ho
      rw [← hxl] at ho
      obtain ⟨A', cap', rfl, h1, h2, h3⟩ := IsRs.of_own ho hsz
      have h := fof_any A' cap' (xs.map Prod.snd) w' h1 h2 h3
      rw [← hg] at h
      exact h
    clear hM hS hf hg hA2 hlen hsz hxl
    have HH := Lib.hid h16
    clear h16
    by_cases q1 : e1 = 0
    · by_cases q2 : e2 = 0
      · by_cases q3 : c = c2
        · by_cases q4 : l = l2
          · obtain rfl : s = true := by rw [hs2, q1, q2, q3, q4]; simp
            subst q1 q2 q3 q4
            clear hs2
            go_enter Try.func27, Try.ntmps27
            go_wp2_with fail
            refine he0.mono ?_
            rintro e w1 ⟨⟨v, rfl, ho⟩, hb1⟩
            go_wp2_with fail
            refine (hfd _ hb1).mono ?_
            rintro e w2 ⟨rfl, hb2⟩
            have hF := Blk.new w2 73 #[.int .i64 c, .int .i64 l]
            have hb3 := b_then (b_alloc (Below.refl _ w1) (.cells #[.int .i64 c, .int .i64 l] 73)) (Below.refl _ _)
            have o3 := own_below (own_below ho hb2) (b_alloc (Below.refl _ w2) (.cells #[.int .i64 c, .int .i64 l] 73))
            clear hfd he0 hsl ho
            go_wp2_with fail
            refine (hof _ _ o3).mono ?_
            rintro e w4 ⟨rfl, hb4⟩
            have hF4 := hF.below hb4 hF.lt
            have cF := hF4.cell
            have lF := hF4.lt
            have bel := b_then (b_then hb1 (b_alloc hb2 (.cells #[.int .i64 c, .int .i64 l] 73))) hb4
            clear hof o3 hF hb3 hb4 hb1 hb2
            go_wp2_with fail
            go_ret
            exact ⟨rfl, b_alloc bel _⟩
          · obtain rfl : s = false := by rw [hs2, decide_eq_false q4]; simp
            subst q1 q2 q3
            have z1 : (l == l2) = false := by rw [beq_eq_false_iff_ne]; exact q4
            clear hs2 q4
            go_enter Try.func27, Try.ntmps27
            go_wp2_with fail
            refine he0.mono ?_
            rintro e w1 ⟨⟨v, rfl, ho⟩, hb1⟩
            go_wp2_with fail
            refine (hfd _ hb1).mono ?_
            rintro e w2 ⟨rfl, hb2⟩
            have hF := Blk.new w2 73 #[.int .i64 c, .int .i64 l]
            have hb3 := b_then (b_alloc (Below.refl _ w1) (.cells #[.int .i64 c, .int .i64 l] 73)) (Below.refl _ _)
            have o3 := own_below (own_below ho hb2) (b_alloc (Below.refl _ w2) (.cells #[.int .i64 c, .int .i64 l] 73))
            clear hfd he0 hsl ho
            go_wp2_with fail
            refine (hof _ _ o3).mono ?_
            rintro e w4 ⟨rfl, hb4⟩
            have hF4 := hF.below hb4 hF.lt
            have cF := hF4.cell
            have lF := hF4.lt
            have bel := b_then (b_then hb1 (b_alloc hb2 (.cells #[.int .i64 c, .int .i64 l] 73))) hb4
            clear hof o3 hF hb3 hb4 hb1 hb2
            go_wp2_with fail
            go_ret
            exact ⟨rfl, b_alloc bel _⟩
        · obtain rfl : s = false := by rw [hs2, decide_eq_false q3]; simp
          subst q1 q2
          have z1 : (c == c2) = false := by rw [beq_eq_false_iff_ne]; exact q3
          clear hs2 q3
          go_enter Try.func27, Try.ntmps27
          go_wp2_with fail
          refine he0.mono ?_
          rintro e w1 ⟨⟨v, rfl, ho⟩, hb1⟩
          go_wp2_with fail
          refine (hfd _ hb1).mono ?_
          rintro e w2 ⟨rfl, hb2⟩
          have hF := Blk.new w2 73 #[.int .i64 c, .int .i64 l]
          have hb3 := b_then (b_alloc (Below.refl _ w1) (.cells #[.int .i64 c, .int .i64 l] 73)) (Below.refl _ _)
          have o3 := own_below (own_below ho hb2) (b_alloc (Below.refl _ w2) (.cells #[.int .i64 c, .int .i64 l] 73))
          clear hfd he0 hsl ho
          go_wp2_with fail
          refine (hof _ _ o3).mono ?_
          rintro e w4 ⟨rfl, hb4⟩
          have hF4 := hF.below hb4 hF.lt
          have cF := hF4.cell
          have lF := hF4.lt
          have bel := b_then (b_then hb1 (b_alloc hb2 (.cells #[.int .i64 c, .int .i64 l] 73))) hb4
          clear hof o3 hF hb3 hb4 hb1 hb2
          go_wp2_with fail
          go_ret
          exact ⟨rfl, b_alloc bel _⟩
      · obtain rfl : s = false := by rw [hs2, decide_eq_false q2]; simp
        subst q1
        have z1 : (e2 == 0) = false := by rw [beq_eq_false_iff_ne]; exact q2
        clear hs2 q2
        go_enter Try.func27, Try.ntmps27
        go_wp2_with fail
        refine he0.mono ?_
        rintro e w1 ⟨⟨v, rfl, ho⟩, hb1⟩
        go_wp2_with fail
        refine (hfd _ hb1).mono ?_
        rintro e w2 ⟨rfl, hb2⟩
        have hF := Blk.new w2 73 #[.int .i64 c, .int .i64 l]
        have hb3 := b_then (b_alloc (Below.refl _ w1) (.cells #[.int .i64 c, .int .i64 l] 73)) (Below.refl _ _)
        have o3 := own_below (own_below ho hb2) (b_alloc (Below.refl _ w2) (.cells #[.int .i64 c, .int .i64 l] 73))
        clear hfd he0 hsl ho
        go_wp2_with fail
        refine (hof _ _ o3).mono ?_
        rintro e w4 ⟨rfl, hb4⟩
        have hF4 := hF.below hb4 hF.lt
        have cF := hF4.cell
        have lF := hF4.lt
        have bel := b_then (b_then hb1 (b_alloc hb2 (.cells #[.int .i64 c, .int .i64 l] 73))) hb4
        clear hof o3 hF hb3 hb4 hb1 hb2
        go_wp2_with fail
        go_ret
        exact ⟨rfl, b_alloc bel _⟩
    · obtain rfl : s = false := by rw [hs2, decide_eq_false q1]; simp
      have z1 : (e1 == 0) = false := by rw [beq_eq_false_iff_ne]; exact q1
      clear hs2 q1
      go_enter Try.func27, Try.ntmps27
      go_wp2_with fail
      refine he0.mono ?_
      rintro e w1 ⟨⟨v, rfl, ho⟩, hb1⟩
      go_wp2_with fail
      refine (hfd _ hb1).mono ?_
      rintro e w2 ⟨rfl, hb2⟩
      have hF := Blk.new w2 73 #[.int .i64 c, .int .i64 l]
      have hb3 := b_then (b_alloc (Below.refl _ w1) (.cells #[.int .i64 c, .int .i64 l] 73)) (Below.refl _ _)
      have o3 := own_below (own_below ho hb2) (b_alloc (Below.refl _ w2) (.cells #[.int .i64 c, .int .i64 l] 73))
      clear hfd he0 hsl ho
      go_wp2_with fail
      refine (hof _ _ o3).mono ?_
      rintro e w4 ⟨rfl, hb4⟩
      have hF4 := hF.below hb4 hF.lt
      have cF := hF4.cell
      have lF := hF4.lt
      have bel := b_then (b_then hb1 (b_alloc hb2 (.cells #[.int .i64 c, .int .i64 l] 73))) hb4
      clear hof o3 hF hb3 hb4 hb1 hb2
      go_wp2_with fail
      go_ret
      exact ⟨rfl, b_alloc bel _⟩
  · rw [decide_eq_false h16, Bool.false_and] at hs
    subst hs
    have y1 : ((len : Int) != (en : Int) + 16) = true := by rw [bne_iff_ne]; omega
    clear hM hS hlen hsz hxl h16
    go_enter Try.func27, Try.ntmps27
    go_wp2_with fail
    refine he0.mono ?_
    rintro e w1 ⟨⟨v, rfl, ho⟩, hb1⟩
    go_wp2_with fail
    go_ret
    exact ⟨rfl, hb1⟩

theorem reasonF_ok {M : List Int} {rs : List Rc} {en : Nat} (h : en = M.length ∨ sealB M rs en = true) : reasonF M rs en = 0 := if_pos h
set_option maxHeartbeats 1600000 in
set_option maxRecDepth 100000 in
theorem reason_any (A : Option Addr) (len cap : Nat) (M : List Int) (w : World) (xs : List (Nat × Rc)) (en : Nat) (hM : BA w A len cap M) (h5 : len ≤ 100000) (hS : Scanned M xs en) :
    Calls Try.prog 28 #[.slice A len cap] w fun e w' => e = .returned (.int .i64 (reasonF M (xs.map Prod.snd) en)) ∧ Below w.heap.size w w' := by
  obtain ⟨q, hq⟩ : ∃ q, q = reasonF M (xs.map Prod.snd) en := ⟨_, rfl⟩
  rw [← hq]
  have he := end_any A len cap M w xs en hM h5 hS
  have hse := fun (w' : World) (hb : Below w.heap.size w w') => sealed_any A len cap M w' xs en (hM.later hb) h5 hS
  have hle := (chain_le hM.2.2.1 hS.1).1
  have hlen := hM.1
  have hcap := hM.2.2.2.1
  have hcm := hM.2.2.2.2
  rw [hlen] at hle
  unfold reasonF at hq
  rw [hlen] at hq
  have hle' : (en : Int) ≤ (len : Int) := by omega
  by_cases h1 : en = len
  · rw [if_pos (.inl h1)] at hq
    subst hq
    have y1 : ((en : Int) == (len : Int)) = true := by rw [beq_iff_eq]; omega
    clear hM hS hse h1
    go_enter Try.func28, Try.ntmps28
    go_wp2_with fail
    refine he.mono ?_
    rintro e w1 ⟨rfl, hb1⟩
    go_wp2_with fail
    go_ret
    exact ⟨rfl, hb1⟩
  · have y1 : ((en : Int) == (len : Int)) = false := by rw [beq_eq_false_iff_ne]; omega
    obtain ⟨s, hs⟩ : ∃ s, s = sealB M (xs.map Prod.snd) en := ⟨_, rfl⟩
    rw [← hs] at hq hse
    cases s with
    | true =>
      rw [if_pos (.inr rfl)] at hq
      subst hq
      clear hM hS h1 hs
      go_enter Try.func28, Try.ntmps28
      go_wp2_with fail
      refine he.mono ?_
      rintro e w1 ⟨rfl, hb1⟩
      go_wp2_with fail
      refine (hse _ hb1).mono ?_
      rintro e w2 ⟨rfl, hb2⟩
      go_wp2_with fail
      go_ret
      exact ⟨rfl, b_then hb1 hb2⟩
    | false =>
      rw [if_neg (by simp [h1])] at hq
      have hsl := fun w => slice_from (A := A) (len := len) (cap := cap) (k := en) hle w
      obtain ⟨A2, hA2⟩ : ∃ A2, A2 = if cap = en then A else A.map (·.add en) := ⟨_, rfl⟩
      have hd := fun (w' : World) (hb : Below w.heap.size w w') => decode_any A2 (len - en) (cap - en) (M.drop en) w' (by rw [hA2]; exact (hM.later hb).rest en hle (by omega)) (by rw [List.length_drop, hlen]) (fun x hx => hM.2.2.1 x (List.mem_of_mem_drop hx)) (by omega) (by omega)
      rw [← hA2] at hsl
      obtain ⟨⟨r, n, e0⟩, hf⟩ : ∃ f, f = decF (M.drop en) := ⟨_, rfl⟩
      rw [← hf] at hd hq
      have hq : q = e0 := hq
      subst hq
      obtain ⟨kind, sq, key, val⟩ := r
      have hd : ∀ w' : World, Below w.heap.size w w' → Calls Try.prog 33 #[.slice A2 (len - en) (cap - en)] w' fun e w'' => e = .returned (.tuple #[.agg #[.int .i64 kind, .int .i64 sq, .string key, .string val], .int .i64 n, .int .i64 q]) ∧ Below w'.heap.size w' w'' := hd
      clear hM hS h1 hs hf hA2 hlen
      go_enter Try.func28, Try.ntmps28
      go_wp2_with fail
      refine he.mono ?_
      rintro e w1 ⟨rfl, hb1⟩
      go_wp2_with fail
      refine (hse _ hb1).mono ?_
      rintro e w2 ⟨rfl, hb2⟩
      have hb12 := b_then hb1 hb2
      go_wp2_with fail
      refine (hd _ hb12).mono ?_
      rintro e w3 ⟨rfl, hb3⟩
      have hb13 := b_then hb12 hb3
      clear hd hse he hb1 hb2 hb12 hb3 hsl
      go_wp2_with fail
      go_ret
      exact ⟨rfl, b_alloc hb13 _⟩
end Go.Proofs.Ytjcdflohkajbcaa

/-
  Where records end, whether they are sealed, why they end: the document.
-/
namespace Go.Proofs.Ytjcdflohkajbcaa
open Go.RowKit
set_option linter.unusedVariables false
set_option linter.unusedSimpArgs false
theorem own_grown {w w' : World} {B : Nat} {e : TypeId} {size n : Nat} {v : Value} {xs : List Value} (h : w.ownsRow B e size v n xs) {row : Option Nat} (hg : w.grownBy w' row) (hr : ∀ k, v.ownBlock = some k → row ≠ some k) : w'.ownsRow B e size v n xs := by
  rcases h.2 with hn | ⟨g, cap, cur, rfl, h2, h3, h4⟩
  · exact ⟨h.1, .inl hn⟩
  · exact ⟨h.1, .inr ⟨g, cap, cur, rfl, h2, (hg.block g (lt_of_block h3) (fun e' => hr g rfl e'.symm)).trans h3, h4⟩⟩
theorem own_types {w : World} {B1 B2 : Nat} {e1 e2 : TypeId} {s1 s2 n1 n2 : Nat} {v1 v2 : Value} {x1 x2 : List Value} (h1 : w.ownsRow B1 e1 s1 v1 n1 x1) (h2 : w.ownsRow B2 e2 s2 v2 n2 x2) (he : e1 ≠ e2) : ∀ k, v1.ownBlock = some k → v2.ownBlock ≠ some k := by
  intro k hk hk2
  rcases h1.2 with ⟨rfl, _⟩ | ⟨g, cap, cur, rfl, _, hgb, _⟩
  · simp [Value.ownBlock] at hk
  · rcases h2.2 with ⟨rfl, _⟩ | ⟨g2, cap2, cur2, rfl, _, hgb2, _⟩
    · simp [Value.ownBlock] at hk2
    · obtain rfl : g = k := by simpa [Value.ownBlock] using hk
      obtain rfl : g2 = g := by simpa [Value.ownBlock] using hk2
      rw [hgb] at hgb2
      simp at hgb2
      exact he hgb2.2
def offs (xs : List (Nat × Rc)) : List Value := xs.map fun x => .int .i64 (x.1 : Nat)
theorem offs_snoc (xs : List (Nat × Rc)) (x : Nat × Rc) : offs (xs ++ [x]) = offs xs ++ [.int .i64 (x.1 : Nat)] := by simp [offs]
theorem int_info : (Try.prog.info? 3).map (fun i => (i.zero, i.size, i.bytes)) = some (some (.int .i64 0), 1, 8) := by kernel_rfl
theorem decode4_any' (A : Option Addr) (n cap : Nat) (M : List Int) (w : World) (h : 0 < n → RB w A M) (hn : M.length = n) (hB : BB M) (hl : n ≤ cap) (hc : cap ≤ maxLen) :
    Calls Try.prog 37 #[.slice A n cap] w fun e w' => e = .returned (.tuple #[(decF M).1.v, .int .i64 (decF M).2.1, .int .i64 (decF M).2.2]) ∧ Below w.heap.size w w' := by
  rcases Nat.eq_zero_or_pos n with h0 | h0
  · have hd : decF M = (Rc.zero, 0, 14) := by unfold decF; simp only []; rw [if_pos (by omega)]
    rw [hd]
    exact d4_torn0 A n cap w (by omega)
  · exact decode4_any A n cap M w (h h0) hn hB hl hc
set_option maxHeartbeats 1600000 in
set_option maxRecDepth 100000 in
theorem rall_any (A : Option Addr) (len cap : Nat) (M : List Int) (w : World) (xs : List (Nat × Rc)) (en : Nat) (hM : BA w A len cap M) (h5 : len ≤ 100000) (hS : Scanned M xs en) :
    Calls Try.prog 21 #[.slice A len cap] w fun e w' => (∃ v1 v2, e = .returned (.tuple #[v1, v2, .int .i64 (en : Nat)]) ∧ w'.ownsRow w.heap.size 3 1 v1 xs.length (offs xs) ∧ w'.ownsRow w.heap.size 34 4 v2 xs.length (flat (xs.map Prod.snd))) ∧ Below w.heap.size w w' := by
  obtain ⟨i0, hi0, hz0, hz1, hz2⟩ := info_parts rec_info
  obtain ⟨i1, hi1, hy0, hy1, hy2⟩ := info_parts int_info
  have hlen := hM.1
  have hcap := hM.2.2.2.1
  have hcm := hM.2.2.2.2
  have hBB := hM.2.2.1
  unfold maxLen at hcm
  go_enter Try.func21, Try.ntmps21
  go_wp2_with fail
  go_loopw [5, 6, 7] (fun a l o wr => ∃ (pre : List (Nat × Rc)) (off : Nat), o = .int .i64 off ∧ Chain M pre off ∧ wr.ownsRow w.heap.size 3 1 a pre.length (offs pre) ∧ wr.ownsRow w.heap.size 34 4 l pre.length (flat (pre.map Prod.snd)) ∧ Below w.heap.size w wr) (fun _ _ o _ => len + 1 - (intOf o).toNat)
  case atStart => exact ⟨[], 0, rfl, .nil, World.ownsRow_nil _ _ _ _, World.ownsRow_nil _ _ _ _, Below.refl _ _⟩
  case round =>
    obtain ⟨pre, off, rfl, hch, oa, ol, hB⟩ := hrel
    obtain ⟨hol, hpl, _⟩ := chain_le hBB hch
    rw [hlen] at hol
    have z1 : (off : Int) ≤ (len : Int) := by omega
    have z2 : (0 : Int) ≤ (off : Int) := by omega
    have hsl := fun w => slice_from (A := A) (len := len) (cap := cap) (k := off) hol w
    obtain ⟨A2, hA2⟩ : ∃ A2, A2 = if cap = off then A else A.map (·.add off) := ⟨_, rfl⟩
    have hd := fun (w' : World) (hb : Below w.heap.size w w') => decode4_any' A2 (len - off) (cap - off) (M.drop off) w' (by rw [hA2]; exact (hM.later hb).rest off hol) (by rw [List.length_drop, hlen]) (fun x hx => hBB x (List.mem_of_mem_drop hx)) (by omega) (by unfold maxLen; omega)
    rw [← hA2] at hsl
    obtain ⟨⟨r, n, e0⟩, hf⟩ : ∃ f, f = decF (M.drop off) := ⟨_, rfl⟩
    rw [← hf] at hd
    obtain ⟨kind, sq, key, val⟩ := r
    have hd : ∀ w' : World, Below w.heap.size w w' → Calls Try.prog 37 #[.slice A2 (len - off) (cap - off)] w' fun e w'' => e = .returned (.tuple #[.agg #[.int .i64 kind, .int .i64 sq, .string key, .string val], .int .i64 n, .int .i64 e0]) ∧ Below w'.heap.size w' w'' := hd
    by_cases he : e0 = 0
    · subst he
      obtain ⟨hok, hnn, hrs, _⟩ := decF_ok (hBB.drop off) hf.symm
      subst hnn
      rw [List.length_drop, hlen] at hrs
      have hch' := Chain.snoc hch hf.symm
      have hfl : flat ((pre ++ [(off, (⟨kind, sq, key, val⟩ : Rc))]).map Prod.snd) = flat (pre.map Prod.snd) ++ #[.int .i64 kind, .int .i64 sq, .string key, .string val].toList := by rw [List.map_append]; exact flat_snoc _ _
      have hof := offs_snoc pre (off, ⟨kind, sq, key, val⟩)
      have hpn : (pre ++ [(off, (⟨kind, sq, key, val⟩ : Rc))]).length = pre.length + 1 := by simp
      obtain ⟨pr, hpr⟩ : ∃ pr, pr = pre ++ [(off, (⟨kind, sq, key, val⟩ : Rc))] := ⟨_, rfl⟩
      rw [← hpr] at hch' hfl hof hpn
      obtain ⟨N, hN⟩ : ∃ N, N = Rc.size ⟨kind, sq, key, val⟩ := ⟨_, rfl⟩
      have hN1 : 16 ≤ N := by rw [hN]; unfold Rc.size; omega
      rw [← hN] at hd hrs hch'
      obtain ⟨L, hL⟩ : ∃ L, L = pre.length := ⟨_, rfl⟩
      rw [← hL] at hpn oa ol hpl
      have HF := Lib.hid hfl
      have HO := Lib.hid hof
      have HP := Lib.hid hpn
      clear hf hok hch hN hpr hL hfl hof hpn hM hS hA2
      have k1 : ∀ u ∈ ([.int .i64 (off : Nat)] : List Value), u.oneCell' = true := by intro u hu; simp at hu; subst hu; rfl
      have k4 : ∀ u ∈ (Rc.cs ⟨kind, sq, key, val⟩).toList, u.oneCell' = true := by intro u hu; simp [Rc.cs] at hu; rcases hu with rfl | rfl | rfl | rfl <;> rfl
      have k5 : L + 1 ≤ maxLen := by unfold maxLen; omega
      have k6 : (L + 1) * 48 ≤ 140737488355328 := by omega
      have k7 : (L + 1) * 8 ≤ 140737488355328 := by omega
      go_wp2_with fail
      refine (hd _ hB).mono ?_
      rintro e w1 ⟨rfl, hb1⟩
      have hB1 := b_then hB hb1
      have hR1 := (Blk.new w1 34 #[.int .i64 kind, .int .i64 sq, .string key, .string val]).alloc (.cells #[.int .i64 (off : Nat)] 3)
      have hbx : Below w1.heap.size w1 ((w1.alloc (.cells #[.int .i64 kind, .int .i64 sq, .string key, .string val] 34)).alloc (.cells #[.int .i64 (off : Nat)] 3)) := b_alloc (b_alloc (Below.refl _ _) _) _
      have oa1 := own_below (own_below oa hb1) hbx
      have ol1 := own_below (own_below ol hb1) hbx
      have hBx := b_then hB1 hbx
      have hrd1 := Reads.one (w1.alloc (.cells #[.int .i64 kind, .int .i64 sq, .string key, .string val] 34)) 3 (.int .i64 (off : Nat))
      rw [World.size_alloc] at hrd1
      have k8 := hBx.size
      clear hd hsl oa ol hb1 hbx hB hB1
      go_wp2_with (first
        | (at_builtin; refine wpList_append_any _ rfl (.tmp 24) (.tmp 26) _ rfl w.heap.size 3 i1 _ 1 8 Try.underlying26 hi1 hy0 hy1 hy2 rfl (by omega) _ L _ rfl oa1 _ _ 1 1 _ rfl hrd1 k1 k5 k7 k8 ?_; intro v5 w5 o5 hg5 hat5; have hR5 := hR1.grown hg5 (hR1.ne_row (by decide) oa1); have ol5 := own_grown ol1 hg5 (fun k hk => own_types ol1 oa1 (by decide) k hk); have hB5 := hBx.grown hg5 k8 (fun k hk => (World.ownsRow.lt oa1 k hk).1); have cR := hR5.cell; have ol6 := own_below ol5 (b_alloc (Below.refl _ w5) (.cells #[.int .i64 kind, .int .i64 sq, .string key, .string val] 34)); have o6 := own_below o5 (b_alloc (Below.refl _ w5) (.cells #[.int .i64 kind, .int .i64 sq, .string key, .string val] 34)); have hB6 := b_alloc hB5 (.cells #[.int .i64 kind, .int .i64 sq, .string key, .string val] 34); have k9 := hB6.size; have hrd2 := Reads.rec w5 34 ⟨kind, sq, key, val⟩; clear oa1 ol1 hrd1 hBx k8 hg5 hR1 hat5 o5 ol5)
        | (at_builtin; refine wpList_append_any _ rfl (.tmp 28) (.tmp 30) _ rfl w.heap.size 34 i0 _ 4 48 Try.underlying41 hi0 hz0 hz1 hz2 rfl (by omega) _ L _ rfl ol6 _ _ 1 1 _ rfl hrd2 k4 k5 k6 k9 ?_; intro v7 w7 o7 hg7 hat7; have o8 := own_grown o6 hg7 (fun k hk => own_types o6 ol6 (by decide) k hk); have hB7 := hB6.grown hg7 k9 (fun k hk => (World.ownsRow.lt ol6 k hk).1); clear hg7 hat7 ol6 o6 cR hB6))
      go_roundw
      case rel => exact ⟨pr, off + N, by go_num, hch', by rw [HP.out, HO.out]; exact o8, by rw [HP.out, HF.out]; exact o7, hB7⟩
      case measure => simp [intOf]; omega
    · have he2 : (e0 != 0) = true := by rw [bne_iff_ne]; exact he
      obtain ⟨rfl, rfl⟩ := scanned_unique hS ⟨hch, by rw [← hf]; exact he⟩
      clear hf he hM hS hch hA2
      go_wp2_with fail
      refine (hd _ hB).mono ?_
      rintro e w1 ⟨rfl, hb1⟩
      have oa1 := own_below oa hb1
      have ol1 := own_below ol hb1
      have hbx := b_alloc (Below.refl _ w1) (.cells #[.int .i64 kind, .int .i64 sq, .string key, .string val] 34)
      have oa2 := own_below oa1 hbx
      have ol2 := own_below ol1 hbx
      have hB1 := b_then hB (b_then hb1 hbx)
      clear hd hsl oa ol oa1 ol1 hb1 hbx hB
      go_wp2_with fail
      go_ret3
      exact ⟨⟨_, _, rfl, oa2, ol2⟩, hB1⟩
theorem rend_any (A : Option Addr) (len cap : Nat) (M : List Int) (w : World) (xs : List (Nat × Rc)) (en : Nat) (hM : BA w A len cap M) (h5 : len ≤ 100000) (hS : Scanned M xs en) :
    Calls Try.prog 40 #[.slice A len cap] w fun e w' => e = .returned (.int .i64 (en : Nat)) ∧ Below w.heap.size w w' := by
  have he0 := rall_any A len cap M w xs en hM h5 hS
  clear hM hS
  go_enter Try.func40, Try.ntmps40
  go_wp2_with fail
  refine he0.mono ?_
  rintro e w1 ⟨⟨v1, v2, rfl, oa, ol⟩, hb1⟩
  go_wp2_with fail
  go_ret
  exact ⟨rfl, hb1⟩
end Go.Proofs.Ytjcdflohkajbcaa

/-
  Where records end, whether they are sealed, why they end: the document.
-/
namespace Go.Proofs.Ytjcdflohkajbcaa
open Go.RowKit
set_option linter.unusedVariables false
set_option linter.unusedSimpArgs false
set_option maxHeartbeats 1600000 in
set_option maxRecDepth 100000 in
theorem rsealed_any (A : Option Addr) (len cap : Nat) (M : List Int) (w : World) (xs : List (Nat × Rc)) (en : Nat) (hM : BA w A len cap M) (h5 : len ≤ 100000) (hS : Scanned M xs en) :
    Calls Try.prog 22 #[.slice A len cap] w fun e w' => e = .returned (.bool (sealB M (xs.map Prod.snd) en)) ∧ Below w.heap.size w w' := by
  obtain ⟨s, hs⟩ : ∃ s, s = sealB M (xs.map Prod.snd) en := ⟨_, rfl⟩
  rw [← hs]
  have he0 := rall_any A len cap M w xs en hM h5 hS
  have hle := (chain_le hM.2.2.1 hS.1).1
  have hsz := own_sz hM.2.2.1 hS.1
  have hlen := hM.1
  have hcap := hM.2.2.2.1
  have hcm := hM.2.2.2.2
  unfold maxLen at hcm
  rw [hlen] at hle
  unfold sealB at hs
  rw [hlen] at hs
  have hxl : (xs.map Prod.snd).length = xs.length := by simp
  have y2 : (en : Int) ≤ (len : Int) := by omega
  have hsl := fun w => slice_from (A := A) (len := len) (cap := cap) (k := en) hle w
  obtain ⟨A2, hA2⟩ : ∃ A2, A2 = if cap = en then A else A.map (·.add en) := ⟨_, rfl⟩
  have hfd := fun (w' : World) (hb : Below w.heap.size w w') => rfde_any A2 (len - en) (cap - en) (M.drop en) w' (by rw [hA2]; exact (hM.later hb).rest en hle) (by rw [List.length_drop, hlen]) (fun x hx => hM.2.2.1 x (List.mem_of_mem_drop hx)) (by omega) (by unfold maxLen; omega)
  rw [← hA2] at hsl
  obtain ⟨⟨c, l, e1⟩, hf⟩ : ∃ f, f = fdec (M.drop en) := ⟨_, rfl⟩
  rw [← hf] at hfd hs
  obtain ⟨⟨c2, l2, e2⟩, hg⟩ : ∃ f, f = ofF (xs.map Prod.snd) := ⟨_, rfl⟩
  rw [← hg] at hs
  have hs2 : s = (decide (len = en + 16) && (decide (e1 = 0) && (decide (e2 = 0) && (decide (c = c2) && decide (l = l2))))) := hs
  clear hs
  have hfd : ∀ w' : World, Below w.heap.size w w' → Calls Try.prog 38 #[.slice A2 (len - en) (cap - en)] w' fun e w'' => e = .returned (.tuple #[.agg #[.int .i64 c, .int .i64 l], .int .i64 e1]) ∧ Below w'.heap.size w' w'' := hfd
  have hof : ∀ (w' : World) (v : Value), w'.ownsRow w.heap.size 34 4 v xs.length (flat (xs.map Prod.snd)) → Calls Try.prog 39 #[v] w' fun e w'' => e = .returned (.tuple #[.agg #[.int .i64 c2, .int .i64 l2], .int .i64 e2]) ∧ Below w'.heap.size w' w'' := by
    intro w' v ho
    rw [← hxl] at ho
    obtain ⟨A', cap', rfl, h1, h2, h3⟩ := IsRs.of_own ho hsz
    have h := rof_any A' cap' (xs.map Prod.snd) w' h1 h2 h3
    rw [← hg] at h
    exact h
  clear hM hS hf hg hA2 hlen hsz hxl
  by_cases q1 : e1 = 0
  · by_cases q2 : e2 = 0
    · by_cases q5 : len = en + 16
      · have y1 : ((len : Int) == (en : Int) + 16) = true := by rw [beq_iff_eq]; omega
        by_cases q3 : c = c2
        · by_cases q4 : l = l2
          · obtain rfl : s = true := by rw [hs2, q1, q2, q3, q4, decide_eq_true q5]; simp
            subst q1 q2 q3 q4
            clear hs2 q5
            go_enter Try.func22, Try.ntmps22
            go_wp2_with fail
            refine he0.mono ?_
            rintro e w1 ⟨⟨v1, v, rfl, oa, ho⟩, hb1⟩
            go_wp2_with fail
            refine (hfd _ hb1).mono ?_
            rintro e w2 ⟨rfl, hb2⟩
            have hF := Blk.new w2 74 #[.int .i64 c, .int .i64 l]
            have o3 := own_below (own_below ho hb2) (b_alloc (Below.refl _ w2) (.cells #[.int .i64 c, .int .i64 l] 74))
            clear hfd he0 hsl ho oa
            go_wp2_with fail
            refine (hof _ _ o3).mono ?_
            rintro e w4 ⟨rfl, hb4⟩
            have hF4 := hF.below hb4 hF.lt
            have cF := hF4.cell
            have lF := hF4.lt
            have bel := b_then (b_then hb1 (b_alloc hb2 (.cells #[.int .i64 c, .int .i64 l] 74))) hb4
            clear hof o3 hF hb4 hb1 hb2
            go_wp2_with fail
            go_ret
            exact ⟨rfl, b_alloc bel _⟩
          · obtain rfl : s = false := by rw [hs2, decide_eq_false q4]; simp
            subst q1 q2 q3
            have z1 : (l == l2) = false := by rw [beq_eq_false_iff_ne]; exact q4
            clear hs2 q4 q5
            go_enter Try.func22, Try.ntmps22
            go_wp2_with fail
            refine he0.mono ?_
            rintro e w1 ⟨⟨v1, v, rfl, oa, ho⟩, hb1⟩
            go_wp2_with fail
            refine (hfd _ hb1).mono ?_
            rintro e w2 ⟨rfl, hb2⟩
            have hF := Blk.new w2 74 #[.int .i64 c, .int .i64 l]
            have o3 := own_below (own_below ho hb2) (b_alloc (Below.refl _ w2) (.cells #[.int .i64 c, .int .i64 l] 74))
            clear hfd he0 hsl ho oa
            go_wp2_with fail
            refine (hof _ _ o3).mono ?_
            rintro e w4 ⟨rfl, hb4⟩
            have hF4 := hF.below hb4 hF.lt
            have cF := hF4.cell
            have lF := hF4.lt
            have bel := b_then (b_then hb1 (b_alloc hb2 (.cells #[.int .i64 c, .int .i64 l] 74))) hb4
            clear hof o3 hF hb4 hb1 hb2
            go_wp2_with fail
            go_ret
            exact ⟨rfl, b_alloc bel _⟩
        · obtain rfl : s = false := by rw [hs2, decide_eq_false q3]; simp
          subst q1 q2
          have z1 : (c == c2) = false := by rw [beq_eq_false_iff_ne]; exact q3
          clear hs2 q3 q5
          go_enter Try.func22, Try.ntmps22
          go_wp2_with fail
          refine he0.mono ?_
          rintro e w1 ⟨⟨v1, v, rfl, oa, ho⟩, hb1⟩
          go_wp2_with fail
          refine (hfd _ hb1).mono ?_
          rintro e w2 ⟨rfl, hb2⟩
          have hF := Blk.new w2 74 #[.int .i64 c, .int .i64 l]
          have o3 := own_below (own_below ho hb2) (b_alloc (Below.refl _ w2) (.cells #[.int .i64 c, .int .i64 l] 74))
          clear hfd he0 hsl ho oa
          go_wp2_with fail
          refine (hof _ _ o3).mono ?_
          rintro e w4 ⟨rfl, hb4⟩
          have hF4 := hF.below hb4 hF.lt
          have cF := hF4.cell
          have lF := hF4.lt
          have bel := b_then (b_then hb1 (b_alloc hb2 (.cells #[.int .i64 c, .int .i64 l] 74))) hb4
          clear hof o3 hF hb4 hb1 hb2
          go_wp2_with fail
          go_ret
          exact ⟨rfl, b_alloc bel _⟩
      · have y1 : ((len : Int) == (en : Int) + 16) = false := by rw [beq_eq_false_iff_ne]; omega
        obtain rfl : s = false := by rw [hs2, decide_eq_false q5]; simp
        subst q1 q2
        clear hs2 q5
        go_enter Try.func22, Try.ntmps22
        go_wp2_with fail
        refine he0.mono ?_
        rintro e w1 ⟨⟨v1, v, rfl, oa, ho⟩, hb1⟩
        go_wp2_with fail
        refine (hfd _ hb1).mono ?_
        rintro e w2 ⟨rfl, hb2⟩
        have hF := Blk.new w2 74 #[.int .i64 c, .int .i64 l]
        have o3 := own_below (own_below ho hb2) (b_alloc (Below.refl _ w2) (.cells #[.int .i64 c, .int .i64 l] 74))
        clear hfd he0 hsl ho oa
        go_wp2_with fail
        refine (hof _ _ o3).mono ?_
        rintro e w4 ⟨rfl, hb4⟩
        have hF4 := hF.below hb4 hF.lt
        have cF := hF4.cell
        have lF := hF4.lt
        have bel := b_then (b_then hb1 (b_alloc hb2 (.cells #[.int .i64 c, .int .i64 l] 74))) hb4
        clear hof o3 hF hb4 hb1 hb2
        go_wp2_with fail
        go_ret
        exact ⟨rfl, b_alloc bel _⟩
    · obtain rfl : s = false := by rw [hs2, decide_eq_false q2]; simp
      subst q1
      have z1 : (e2 == 0) = false := by rw [beq_eq_false_iff_ne]; exact q2
      clear hs2 q2
      go_enter Try.func22, Try.ntmps22
      go_wp2_with fail
      refine he0.mono ?_
      rintro e w1 ⟨⟨v1, v, rfl, oa, ho⟩, hb1⟩
      go_wp2_with fail
      refine (hfd _ hb1).mono ?_
      rintro e w2 ⟨rfl, hb2⟩
      have hF := Blk.new w2 74 #[.int .i64 c, .int .i64 l]
      have o3 := own_below (own_below ho hb2) (b_alloc (Below.refl _ w2) (.cells #[.int .i64 c, .int .i64 l] 74))
      clear hfd he0 hsl ho oa
      go_wp2_with fail
      refine (hof _ _ o3).mono ?_
      rintro e w4 ⟨rfl, hb4⟩
      have hF4 := hF.below hb4 hF.lt
      have cF := hF4.cell
      have lF := hF4.lt
      have bel := b_then (b_then hb1 (b_alloc hb2 (.cells #[.int .i64 c, .int .i64 l] 74))) hb4
      clear hof o3 hF hb4 hb1 hb2
      go_wp2_with fail
      go_ret
      exact ⟨rfl, b_alloc bel _⟩
  · obtain rfl : s = false := by rw [hs2, decide_eq_false q1]; simp
    have z1 : (e1 == 0) = false := by rw [beq_eq_false_iff_ne]; exact q1
    clear hs2 q1
    go_enter Try.func22, Try.ntmps22
    go_wp2_with fail
    refine he0.mono ?_
    rintro e w1 ⟨⟨v1, v, rfl, oa, ho⟩, hb1⟩
    go_wp2_with fail
    refine (hfd _ hb1).mono ?_
    rintro e w2 ⟨rfl, hb2⟩
    have hF := Blk.new w2 74 #[.int .i64 c, .int .i64 l]
    have o3 := own_below (own_below ho hb2) (b_alloc (Below.refl _ w2) (.cells #[.int .i64 c, .int .i64 l] 74))
    clear hfd he0 hsl ho oa
    go_wp2_with fail
    refine (hof _ _ o3).mono ?_
    rintro e w4 ⟨rfl, hb4⟩
    have hF4 := hF.below hb4 hF.lt
    have cF := hF4.cell
    have lF := hF4.lt
    have bel := b_then (b_then hb1 (b_alloc hb2 (.cells #[.int .i64 c, .int .i64 l] 74))) hb4
    clear hof o3 hF hb4 hb1 hb2
    go_wp2_with fail
    go_ret
    exact ⟨rfl, b_alloc bel _⟩

set_option maxHeartbeats 1600000 in
set_option maxRecDepth 100000 in
theorem rreason_any (A : Option Addr) (len cap : Nat) (M : List Int) (w : World) (xs : List (Nat × Rc)) (en : Nat) (hM : BA w A len cap M) (h5 : len ≤ 100000) (hS : Scanned M xs en) :
    Calls Try.prog 23 #[.slice A len cap] w fun e w' => e = .returned (.int .i64 (reasonF M (xs.map Prod.snd) en)) ∧ Below w.heap.size w w' := by
  obtain ⟨q, hq⟩ : ∃ q, q = reasonF M (xs.map Prod.snd) en := ⟨_, rfl⟩
  rw [← hq]
  have he := rend_any A len cap M w xs en hM h5 hS
  have hse := fun (w' : World) (hb : Below w.heap.size w w') => rsealed_any A len cap M w' xs en (hM.later hb) h5 hS
  have hle := (chain_le hM.2.2.1 hS.1).1
  have hlen := hM.1
  have hcap := hM.2.2.2.1
  have hcm := hM.2.2.2.2
  rw [hlen] at hle
  unfold reasonF at hq
  rw [hlen] at hq
  have hle' : (en : Int) ≤ (len : Int) := by omega
  by_cases h1 : en = len
  · rw [if_pos (.inl h1)] at hq
    subst hq
    have y1 : ((en : Int) == (len : Int)) = true := by rw [beq_iff_eq]; omega
    clear hM hS hse h1
    go_enter Try.func23, Try.ntmps23
    go_wp2_with fail
    refine he.mono ?_
    rintro e w1 ⟨rfl, hb1⟩
    go_wp2_with fail
    go_ret
    exact ⟨rfl, hb1⟩
  · have y1 : ((en : Int) == (len : Int)) = false := by rw [beq_eq_false_iff_ne]; omega
    obtain ⟨s, hs⟩ : ∃ s, s = sealB M (xs.map Prod.snd) en := ⟨_, rfl⟩
    rw [← hs] at hq hse
    cases s with
    | true =>
      rw [if_pos (.inr rfl)] at hq
      subst hq
      clear hM hS h1 hs
      go_enter Try.func23, Try.ntmps23
      go_wp2_with fail
      refine he.mono ?_
      rintro e w1 ⟨rfl, hb1⟩
      go_wp2_with fail
      refine (hse _ hb1).mono ?_
      rintro e w2 ⟨rfl, hb2⟩
      go_wp2_with fail
      go_ret
      exact ⟨rfl, b_then hb1 hb2⟩
    | false =>
      rw [if_neg (by simp [h1])] at hq
      have hsl := fun w => slice_from (A := A) (len := len) (cap := cap) (k := en) hle w
      obtain ⟨A2, hA2⟩ : ∃ A2, A2 = if cap = en then A else A.map (·.add en) := ⟨_, rfl⟩
      have hd := fun (w' : World) (hb : Below w.heap.size w w') => decode4_any' A2 (len - en) (cap - en) (M.drop en) w' (by rw [hA2]; exact (hM.later hb).rest en hle) (by rw [List.length_drop, hlen]) (fun x hx => hM.2.2.1 x (List.mem_of_mem_drop hx)) (by omega) (by omega)
      rw [← hA2] at hsl
      obtain ⟨⟨r, n, e0⟩, hf⟩ : ∃ f, f = decF (M.drop en) := ⟨_, rfl⟩
      rw [← hf] at hd hq
      have hq : q = e0 := hq
      subst hq
      obtain ⟨kind, sq, key, val⟩ := r
      have hd : ∀ w' : World, Below w.heap.size w w' → Calls Try.prog 37 #[.slice A2 (len - en) (cap - en)] w' fun e w'' => e = .returned (.tuple #[.agg #[.int .i64 kind, .int .i64 sq, .string key, .string val], .int .i64 n, .int .i64 q]) ∧ Below w'.heap.size w' w'' := hd
      clear hM hS h1 hs hf hA2 hlen
      go_enter Try.func23, Try.ntmps23
      go_wp2_with fail
      refine he.mono ?_
      rintro e w1 ⟨rfl, hb1⟩
      go_wp2_with fail
      refine (hse _ hb1).mono ?_
      rintro e w2 ⟨rfl, hb2⟩
      have hb12 := b_then hb1 hb2
      go_wp2_with fail
      refine (hd _ hb12).mono ?_
      rintro e w3 ⟨rfl, hb3⟩
      have hb13 := b_then hb12 hb3
      clear hd hse he hb1 hb2 hb12 hb3 hsl
      go_wp2_with fail
      go_ret
      exact ⟨rfl, b_alloc hb13 _⟩
end Go.Proofs.Ytjcdflohkajbcaa

/-
  What the statements ask of bytes: where records end, whether they are sealed, why they end; encodings.
-/
namespace Go.Proofs.Ytjcdflohkajbcaa
open Go.RowKit
set_option linter.unusedVariables false
set_option linter.unusedSimpArgs false
set_option maxRecDepth 100000 in
theorem yields_any (lb : Array Value) (w : World) :
    Calls Try.prog 14 #[.func (.func 32) #[] lb] w fun e w' => e = .returned (.func (.func 32) #[] lb) ∧ w = w' := by
  have hq : ∀ w : World, (binOp .eql 29 (.func (.func 32) #[] lb) .nilFunc).run Try.prog w = .ok (.bool false) w := fun w => by kernel_rfl
  go_enter Try.func14, Try.ntmps14
  go_wp2
  go_ret
  exact ⟨rfl, rfl⟩
theorem says_true (A : Option Addr) (len cap : Nat) (M : List Int) (w : World) (xs : List (Nat × Rc)) (en : Nat) (s : Bool) (q : Int) (hM : BA w A len cap M) (h5 : len ≤ 100000) (hS : Scanned M xs en) (hs : sealB M (xs.map Prod.snd) en = s) (hq : reasonF M (xs.map Prod.snd) en = q) :
    Calls Try.prog 19 #[.slice A len cap, .int .i64 (en : Nat), .bool s, .int .i64 q] w fun e w' => e = .returned (.bool true) ∧ Below w.heap.size w w' := by
  have h1 := end_any A len cap M w xs en hM h5 hS
  have h2 := fun (w' : World) (hb : Below w.heap.size w w') => sealed_any A len cap M w' xs en (hM.later hb) h5 hS
  have h3 := fun (w' : World) (hb : Below w.heap.size w w') => reason_any A len cap M w' xs en (hM.later hb) h5 hS
  rw [hs] at h2
  rw [hq] at h3
  clear hs hq hS hM
  go_enter Try.func19, Try.ntmps19
  go_wp2_with fail
  refine h1.mono ?_
  rintro e w1 ⟨rfl, hb1⟩
  go_wp2_with fail
  refine (h2 _ hb1).mono ?_
  rintro e w2 ⟨rfl, hb2⟩
  have hb12 := b_then hb1 hb2
  go_wp2_with fail
  refine (h3 _ hb12).mono ?_
  rintro e w3 ⟨rfl, hb3⟩
  have hb13 := b_then hb12 hb3
  go_wp2_with fail
  go_ret
  exact ⟨rfl, hb13⟩
theorem encoded_any (r : Rc) (h : r.Ok) (w : World) :
    Calls Try.prog 30 #[r.v] w fun e w' => (∃ g, e = .returned (.slice (some ⟨g, 0, none⟩) r.size r.size) ∧ Clip w' w.heap.size g (encF r)) ∧ Below w.heap.size w w' := by
  have he := ren_yes r h
  clear h
  generalize r.size = N at he ⊢
  generalize encF r = E at he ⊢
  obtain ⟨kind, sq, key, val⟩ := r
  have he : ∀ w : World, Calls Try.prog 45 #[.agg #[.int .i64 kind, .int .i64 sq, .string key, .string val]] w fun e w' => (∃ g, e = .returned (.tuple #[.slice (some ⟨g, 0, none⟩) N N, .int .i64 0]) ∧ Clip w' w.heap.size g E) ∧ Below w.heap.size w w' := he
  show Calls Try.prog 30 #[.agg #[.int .i64 kind, .int .i64 sq, .string key, .string val]] w _
  go_enter Try.func30, Try.ntmps30
  go_wp2_with fail
  refine (he _).mono ?_
  rintro e w1 ⟨⟨g, rfl, hC⟩, hb1⟩
  have hC' := hC.base (B' := w.heap.size) (by simp)
  have hb := b_then (b_alloc (Below.refl _ w) (.cells #[.int .i64 kind, .int .i64 sq, .string key, .string val] 34)) hb1
  clear hC hb1 he
  go_wp2_with fail
  go_ret
  exact ⟨⟨g, rfl, hC'⟩, hb⟩
theorem sealing_yes {c l : Int} (h : FOk c l) (w : World) :
    Calls Try.prog 20 #[.int .i64 c, .int .i64 l] w fun e w' => (∃ g cap, e = .returned (.slice (some ⟨g, 0, none⟩) 16 cap) ∧ 16 ≤ cap ∧ cap ≤ maxLen ∧ w.heap.size ≤ g ∧ IsB w' w.heap.size (.slice (some ⟨g, 0, none⟩) 16 cap) (fenc c l)) ∧ Below w.heap.size w w' := by
  have he := fun w => fen_yes h w
  clear h
  generalize fenc c l = E at he ⊢
  go_enter Try.func20, Try.ntmps20
  go_wp2_with fail
  refine (he _).mono ?_
  rintro e w1 ⟨⟨g, cap, rfl, h1, h2, h3, h4⟩, hb1⟩
  clear he
  go_wp2_with fail
  go_ret
  exact ⟨⟨g, cap, rfl, h1, h2, h3, h4⟩, hb1⟩
theorem sealing_no {c l : Int} (h : ¬ FOk c l) (w : World) :
    Calls Try.prog 20 #[.int .i64 c, .int .i64 l] w fun e w' => e = .returned (.slice none 0 0) ∧ Below w.heap.size w w' := by
  have he := fun w => fen_no h w
  clear h
  go_enter Try.func20, Try.ntmps20
  go_wp2_with fail
  refine (he _).mono ?_
  rintro e w1 ⟨rfl, hb1⟩
  clear he
  go_wp2_with fail
  go_ret
  exact ⟨rfl, hb1⟩
end Go.Proofs.Ytjcdflohkajbcaa

/-
  A loop over the records of bytes yields these.
-/
namespace Go.Proofs.Ytjcdflohkajbcaa
open Go.RowKit Go.Shelf Go.BigFrame
set_option linter.unusedVariables false
set_option linter.unusedSimpArgs false
attribute [local go_sem] Oper.semAt_some

/-- a slice of one-cell values: it reads as a list -/
def RI (w : World) (A : Option Addr) (L : List Value) : Prop := L = [] ∨ ∃ b off : Nat, A = some ⟨b, off, none⟩ ∧ b < w.heap.size ∧ ∀ (i : Nat) (u : Value), L[i]? = some u → w.cell? ⟨b, off + i, none⟩ = some u
theorem RI.below {w w' : World} {A : Option Addr} {L : List Value} {B : Nat} (h : RI w A L) (hb : Below B w w') (hB : w.heap.size ≤ B) : RI w' A L := by
  rcases h with h | ⟨b, off, rfl, hlt, hc⟩
  · exact .inl h
  · exact .inr ⟨b, off, rfl, Nat.lt_of_lt_of_le hlt hb.size, fun i u hu => (hb.cell (p := ⟨b, off + i, none⟩) (Nat.lt_of_lt_of_le hlt hB)).trans (hc i u hu)⟩
theorem RI.later {w w' : World} {A : Option Addr} {L : List Value} (h : RI w A L) (hb : Below w.heap.size w w') : RI w' A L := h.below hb (Nat.le_refl _)
theorem RI.take_ {w : World} {A : Option Addr} {L : List Value} (h : RI w A L) (k : Nat) : RI w A (L.take k) := by
  rcases h with h | ⟨b, off, rfl, hlt, hc⟩
  · exact .inl (by rw [h]; simp)
  · refine .inr ⟨b, off, rfl, hlt, fun i u hu => hc i u ?_⟩
    rw [List.getElem?_take] at hu
    split at hu
    · exact hu
    · cases hu
theorem RI.of_own {w : World} {B n : Nat} {e : TypeId} {v : Value} {L : List Value} (h : w.ownsRow B e 1 v n L) : ∃ (A : Option Addr) (cap : Nat), v = .slice A n cap ∧ RI w A L ∧ n ≤ cap ∧ cap ≤ maxLen := by
  have h0 := h
  rcases h.2 with ⟨rfl, hn⟩ | ⟨g, cap, cur, rfl, h2, h3, h4, h5, _⟩
  · subst hn
    exact ⟨none, 0, rfl, .inl (List.eq_nil_of_length_eq_zero (by simpa using h.1)), Nat.le_refl _, by unfold maxLen; omega⟩
  · refine ⟨_, cap, rfl, .inr ⟨g, 0, rfl, lt_of_block h3, fun i u hu => ?_⟩, h4, h5⟩
    have hl : i < n * 1 := by
      rw [← h.1]
      exact (List.getElem?_eq_some_iff.1 hu).1
    rw [Nat.zero_add, World.ownsRow.cellAt h0 i (by omega), hu]
/-- what holds between two rounds -/
def scI (w : World) (A : Option Addr) (len cap : Nat) (M : List Int) (A1 : Option Addr) (n1 c1 : Nat) (A2 : Option Addr) (n2 c2 : Nat) (pre : List (Nat × Rc)) (W : World) : Prop :=
  Blk W w.heap.size 26 #[.slice A1 n1 c1] ∧ Blk W (w.heap.size + 1) 41 #[.slice A2 n2 c2] ∧ Blk W (w.heap.size + 1 + 1) 4 #[.bool false] ∧ Blk W (w.heap.size + 1 + 1 + 1) 3 #[.int .i64 (pre.length : Nat)] ∧
    Blk W (w.heap.size + 1 + 1 + 1 + 1) 25 #[.slice A len cap] ∧ (0 < len → RB W A M ∧ At A w.heap.size) ∧ Below w.heap.size w W
theorem scI_own (w : World) (A : Option Addr) (len cap : Nat) (M : List Int) (A1 : Option Addr) (n1 c1 : Nat) (A2 : Option Addr) (n2 c2 : Nat) (b : Nat) (hb : w.heap.size ≤ b) : OwnFrom b (scI w A len cap M A1 n1 c1 A2 n2 c2) := by
  rintro s W W' row ⟨h1, h2, h3, h4, h5, h6, h7⟩ hg hr
  have hr' := fun r e => (hr r e).2
  refine ⟨h1.turn hg hr', h2.turn hg hr', h3.turn hg hr', h4.turn hg hr', h5.turn hg hr', fun hp => ⟨?_, (h6 hp).2⟩, below_turn h7 hg (fun r e => Nat.le_trans hb (hr r e).1) h7.size⟩
  exact (h6 hp).1.keep (below_turn (Below.refl w.heap.size W) hg (fun r e => Nat.le_trans hb (hr r e).1) h7.size) (h6 hp).2
set_option maxHeartbeats 3200000 in
set_option maxRecDepth 100000 in
theorem scanned_true (A : Option Addr) (len cap : Nat) (M : List Int) (A1 : Option Addr) (n c1 : Nat) (A2 : Option Addr) (c2 : Nat) (w : World) (xs : List (Nat × Rc)) (en : Nat) (hM0 : BA w A len cap M) (h5 : len ≤ 100000) (hS : Scanned M xs en)
    (hn : xs.length = n) (hI1 : RI w A1 (xs.map fun x => .int .i64 (x.1 : Nat))) (hI2 : IsRs w A2 (xs.map Prod.snd)) :
    Calls Try.prog 17 #[.slice A len cap, .slice A1 n c1, .slice A2 n c2] w fun e w' => e = .returned (.bool true) ∧ Below w.heap.size w w' := by
  obtain ⟨hlen, hM, hBB, hl, hc⟩ := hM0
  have hnl := chain_len hBB hS.1
  rw [hlen, hn] at hnl
  refine (callsIn_wide (n := 5)).1 ?_
  refine callsIn_of_wp_marks Try.func17 rfl trivial ?_ rfl
  simp only [Try.ntmps17, List.size_toArray, List.length_cons, List.length_nil, Nat.reduceAdd, Nat.reduceSub, Array.replicate_succ, Array.replicate_zero, List.push_toArray, List.append_toArray, List.nil_append, List.cons_append]
  gi_wp2
  refine ⟨trivial, (callsIn_wide.2 (all_any _ _ _ _)).mono ?_⟩
  rintro e w' ⟨rfl, rfl⟩
  gi_wp2
  refine ⟨trivial, (callsIn_wide.2 (yields_any _ _)).mono ?_⟩
  rintro e w' ⟨rfl, rfl⟩
  gi_wp2
  obtain ⟨w3, hw3⟩ : ∃ w3, w3 = ((((w.alloc (.cells #[.slice A1 n c1] 26)).alloc (.cells #[.slice A2 n c2] 41)).alloc (.cells #[.bool false] 4)).alloc (.cells #[.int .i64 0] 3)).alloc (.cells #[.slice A len cap] 25) := ⟨_, rfl⟩
  have hb3 : Below w.heap.size w w3 := by rw [hw3]; exact b_alloc (b_alloc (b_alloc (b_alloc (b_alloc (Below.refl _ _) _) _) _) _) _
  have hsz : w3.heap.size = w.heap.size + 1 + 1 + 1 + 1 + 1 := by rw [hw3]; simp
  have x1 : Blk w3 w.heap.size 26 #[.slice A1 n c1] := by (rw [hw3]; unfold Blk; repeat (first | ((with_reducible refine alloc_here' ?_); (simp; done)) | (with_reducible apply alloc_old')))
  have x2 : Blk w3 (w.heap.size + 1) 41 #[.slice A2 n c2] := by (rw [hw3]; unfold Blk; repeat (first | ((with_reducible refine alloc_here' ?_); (simp; done)) | (with_reducible apply alloc_old')))
  have x3 : Blk w3 (w.heap.size + 1 + 1) 4 #[.bool false] := by (rw [hw3]; unfold Blk; repeat (first | ((with_reducible refine alloc_here' ?_); (simp; done)) | (with_reducible apply alloc_old')))
  have x4 : Blk w3 (w.heap.size + 1 + 1 + 1) 3 #[.int .i64 0] := by (rw [hw3]; unfold Blk; repeat (first | ((with_reducible refine alloc_here' ?_); (simp; done)) | (with_reducible apply alloc_old')))
  have x5 : Blk w3 (w.heap.size + 1 + 1 + 1 + 1) 25 #[.slice A len cap] := by (rw [hw3]; unfold Blk; repeat (first | ((with_reducible refine alloc_here' ?_); (simp; done)) | (with_reducible apply alloc_old')))
  have hI0 : scI w A len cap M A1 n c1 A2 n c2 [] w3 := ⟨x1, x2, x3, x4, x5, fun hp => ⟨(hM hp).1.keep hb3 (hM hp).2, (hM hp).2⟩, hb3⟩
  clear x1 x2 x3 x4 x5
  rw [← hw3]
  have HW3 := Lib.hid hw3
  clear hw3
  refine range_own rfl (by omega) (gf := 32) (lb := #[.pointer (some ⟨w.heap.size + 1 + 1 + 1 + 1, 0, none⟩)]) rfl trivial (enters_of Try.func32 (by kernel_rfl) rfl)
    (encs := sEnc) (G := sG A len cap M (w.heap.size + 1 + 1 + 1 + 1)) (S := fun xs => ∃ e, Scanned M xs e) (Sp := fun xs => ∃ e, Chain M xs e) (fun _ => rfl)
    (fun W1 hW1 hs1 => scan_iter _ (by omega) A cap len M _ W1 hlen hBB hl hc)
    (scI w A len cap M A1 n c1 A2 n c2) (fun _ _ _ => False) (scI_own w A len cap M A1 n c1 A2 n c2 _ (by omega)) (fun _ _ _ _ _ h _ _ => h)
    (fun s W h => by
      obtain ⟨h1, h2, h3, h4, h5, h6, h7⟩ := h
      exact ⟨fun hp => ⟨(h6 hp).1, (h6 hp).2.more h7.size⟩, h5.cell 0⟩)
    hI0 ?round ?done ?stop
  case stop => exact fun D c pre W hD _ h _ => h.elim
  case done =>
    clear hI0 hb3
    rintro D ys W hD ⟨e', hS'⟩ hI hK
    obtain ⟨rfl, rfl⟩ := scanned_unique hS' hS
    obtain ⟨h1, h2, h3, h4, h5, h6, h7⟩ := hI
    rw [hn] at h4
    have c1' := h1.cell
    have c3 := h3.cell
    have f3 := h3.frozen
    have c4 := h4.cell
    have g3 := h3.set_ 0 (.bool true)
    have hK' : (W.setCell ⟨w.heap.size + 1 + 1, 0, none⟩ (.bool true)).heap[D]? = some (.deferred (some [])) := (Below.heap_setCell _ ⟨w.heap.size + 1 + 1, 0, none⟩ _ D (by show D ≠ w.heap.size + 1 + 1; omega)).trans hK
    have hB' := h7.setCell (p := ⟨w.heap.size + 1 + 1, 0, none⟩) (by show w.heap.size ≤ w.heap.size + 1 + 1; omega) (.bool true)
    clear hM hS hS' hK hn h1 h2 h3 h4 h5 h6 hI1 hI2 h7
    gi_wp2
    refine ⟨by simp, .inl ⟨_, _, rfl, run_takeDeferred hK', ?_⟩⟩
    have g4 := (g3.putObj (l := D) (by omega) (.deferred none)).cell
    refine ⟨_, by simp [results, Try.results17, go_sem, g4], rfl, hB'.trans (below_putObj _ D (.deferred none) (by omega))⟩
  case round =>
    have HRB0 := Lib.hid hM
    clear hI0 hb3 hM
    rintro l pre ⟨off, kind, sq, key, val⟩ W hl1 hl2 ⟨en2, hch⟩ hI
    obtain ⟨p1, p2, _⟩ := chain_prefix hch hS
    have hx : xs[pre.length]? = some (off, ⟨kind, sq, key, val⟩) := by
      have h := congrArg (·[pre.length]?) p2
      simp only [List.length_append, List.length_singleton] at h
      rw [List.getElem?_append_right (Nat.le_refl _), Nat.sub_self, List.getElem?_take, if_pos (by omega)] at h
      exact h.symm
    rw [List.length_append, List.length_singleton, hn] at p1
    have hpr : (pre ++ [(off, (⟨kind, sq, key, val⟩ : Rc))]).length = pre.length + 1 := by simp
    obtain ⟨pr, hprr⟩ : ∃ pr, pr = pre ++ [(off, (⟨kind, sq, key, val⟩ : Rc))] := ⟨_, rfl⟩
    rw [← hprr] at hpr ⊢
    obtain ⟨L, hL⟩ : ∃ L, L = pre.length := ⟨_, rfl⟩
    rw [← hL] at hpr hx p1
    have hI1' := hI1
    have hI2' := hI2
    obtain ⟨h1, h2, h3, h4, h5, h6, h7⟩ := hI
    rw [← hL] at h4
    have HL := Lib.hid hpr
    clear hpr hprr hch p2 hS
    have HN := Lib.hid hn
    have HLL := Lib.hid hL
    clear hn hL
    have z1 : (L : Int) < (n : Int) := by omega
    have z2 : (0 : Int) ≤ (L : Int) := by omega
    simp only [sEnc, List.zip_toArray, List.zip_cons_cons, List.zip_nil_right, List.foldl_toArray, List.foldl_cons, List.foldl_nil, List.setIfInBounds_toArray, List.set_cons_zero, List.set_cons_succ]
    gi_wp2
    have hI : scI w A len cap M A1 n c1 A2 n c2 pre W := ⟨h1, h2, h3, by rw [← HLL.out]; exact h4, h5, h6, h7⟩
    refine ⟨KeepsFrom.new (b_alloc (Below.refl _ W) _), own_new (scI_own w A len cap M A1 n c1 A2 n c2 w3.heap.size (by omega)) hI (b_alloc (Below.refl _ W) _), fun o hIo => ?_⟩
    have y1 := (Blk.new W 34 #[.int .i64 kind, .int .i64 sq, .string key, .string val]).putObj (l := l) (by omega) o
    clear h1 h2 h3 h4 h5 h6 h7 hI
    generalize (W.alloc (.cells #[.int .i64 kind, .int .i64 sq, .string key, .string val] 34)).putObj l o = Wq at y1 hIo ⊢
    obtain ⟨h1, h2, h3, h4, h5, h6, h7⟩ := hIo
    rw [← HLL.out] at h4
    obtain ⟨b1, o1, rfl, hb1, hc1⟩ := (hI1'.below h7 (Nat.le_refl _)).resolve_left (by intro h; rw [List.map_eq_nil_iff] at h; subst h; simp at hx)
    have d1 := hc1 L _ (by rw [List.getElem?_map, hx]; rfl)
    obtain ⟨b2, o2, rfl, hb2, d2, d3, d4, d5⟩ := (hI2'.below h7 (Nat.le_refl _)).at_ (i := L) (r := ⟨kind, sq, key, val⟩) (by rw [List.getElem?_map, hx]; rfl)
    have e1 := h1.cell
    have e2 := h2.cell
    have e4 := h4.cell
    have e5 := y1.cell
    have f4 := h4.frozen
    have d1 : Wq.cell? ⟨b1, o1 + L, none⟩ = some (.int .i64 (off : Nat)) := d1
    have d2 : Wq.cell? ⟨b2, o2 + L * 4, none⟩ = some (.int .i64 kind) := d2
    have d3 : Wq.cell? ⟨b2, o2 + L * 4 + 1, none⟩ = some (.int .i64 sq) := d3
    have d4 : Wq.cell? ⟨b2, o2 + L * 4 + 2, none⟩ = some (.string key) := d4
    have d5 : Wq.cell? ⟨b2, o2 + L * 4 + 3, none⟩ = some (.string val) := d5
    have y2 : decide (n ≤ L) = false := by rw [decide_eq_false_iff_not]; omega
    clear hc1 hI1 hI2 hI1' hI2' hx y1
    gi_wp2
    refine region_quiet_r (by kernel_rfl) (by kernel_rfl) (by kernel_rfl) ?_
    repeat (gi_big_quiet_step (fail))
    refine wpQuietIn_nil ?_
    intro _ hw'
    obtain ⟨nq, hw''⟩ := hw'
    subst hw''
    gi_wp2
    have hB2 : Below w.heap.size w ((Wq.drewN nq).setCell ⟨w.heap.size + 1 + 1 + 1, 0, none⟩ (.int .i64 ((L : Int) + 1))) := (below_drewN h7 nq).setCell (by show w.heap.size ≤ w.heap.size + 1 + 1 + 1; omega) _
    refine ⟨(KeepsFrom.new (below_drewN (Below.refl _ Wq) nq)).trans (KeepsFrom.set_ _ _ _), (h1.drewN nq).far (p := ⟨w.heap.size + 1 + 1 + 1, 0, none⟩) (by show w.heap.size ≠ w.heap.size + 1 + 1 + 1; omega) _, (h2.drewN nq).far (p := ⟨w.heap.size + 1 + 1 + 1, 0, none⟩) (by show w.heap.size + 1 ≠ w.heap.size + 1 + 1 + 1; omega) _, (h3.drewN nq).far (p := ⟨w.heap.size + 1 + 1 + 1, 0, none⟩) (by show w.heap.size + 1 + 1 ≠ w.heap.size + 1 + 1 + 1; omega) _, ?_, (h5.drewN nq).far (p := ⟨w.heap.size + 1 + 1 + 1, 0, none⟩) (by show w.heap.size + 1 + 1 + 1 + 1 ≠ w.heap.size + 1 + 1 + 1; omega) _, fun hp => ⟨(HRB0.out hp).1.keep hB2 (HRB0.out hp).2, (HRB0.out hp).2⟩, hB2⟩
    rw [HL.out]
    exact (h4.drewN nq).set_ 0 (.int .i64 ((L : Int) + 1))
end Go.Proofs.Ytjcdflohkajbcaa
