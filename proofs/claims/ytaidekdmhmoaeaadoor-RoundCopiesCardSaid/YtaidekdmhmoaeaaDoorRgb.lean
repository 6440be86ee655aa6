/-
  A range over a function whose body may break: both ways go on with one continuation.
-/
import Derived.Test.YtaidekdmhmoaeaaDoorRg3
namespace Go.Proofs.YtaidekdmhmoaeaaDoor
open Go.RowKit
set_option linter.unusedVariables false
theorem range_brk {F : Fence} {n : Nat} {P : Program} {α : Type} {g : Operand} {ps : Array Tmp} {assign body : Code} {id : Nat} {K : Act → World → Prop} {Q' : Exit → Act → World → Prop} {a : Act} {w : World}
    (hro : F.round = none) (h1 : 1 ≤ n) {gf : Nat} {lb : Array Value} (hg : a.eval g = .func (.func gf) #[] lb) (hFg : F.fn gf) (eg : ∀ args w, (callFunc gf args).run P w = .ok (.enter gf args) w)
    {encs : α → Array Value} {G : World → Prop} {S Sp : List α → Prop} (hps : ∀ x, (encs x).size = ps.size) (r0 : Option Nat) (hr0 : ∀ k, r0 = some k → k < w.heap.size)
    (hseq : ∀ W1, Below w.heap.size w W1 → W1.heap.size = w.heap.size + 2 → IterK F (n - 1) P gf lb encs (w.heap.size + 2) G S Sp W1)
    (I : List α × Option Nat → World → Prop) (Ix : Code → List α × Option Nat → World → Prop) (FA : World → Prop) (hI : OwnFrom w.heap.size I) (hIx : ∀ c, OwnFrom w.heap.size (Ix c)) (hIG : ∀ s A, I s A → G A) (h0 : I ([], r0) w)
    (hround : ∀ (l : Nat) (pre : List α) (x : α) (r : Option Nat) (W : World), w.heap.size < l → l < W.heap.size → some l ≠ r → Sp (pre ++ [x]) → I (pre, r) W →
      assign.wpIn (F.inRound l) (n - 1 - 1) P (Exit.then (fun a' W' => Rd w.heap.size r r W W' ∧ I (pre, r) W' ∧ ∀ o, I (pre, r) (W'.putObj l o) → body.wpIn (F.inRound l) (n - 1 - 1) P (outK w.heap.size I Ix (pre ++ [x]) r (W'.putObj l o)) a' (W'.putObj l o)) (fun _ _ _ => False))
        { tmps := (ps.zip (encs x)).foldl (fun t (p, v) => t.setIfInBounds p v) a.tmps, defers := [] } W)
    (hdone : ∀ (xs : List α) (r : Option Nat) (W : World), S xs → I (xs, r) W → FA W)
    (hstop : ∀ (c : Code) (pre : List α) (r : Option Nat) (W : World), Sp pre → Ix c (pre, r) W → c = .exit id ∧ FA W)
    (hK : ∀ (D : Nat) (W : World), w.heap.size ≤ D → FA W → W.heap[D]? = some (.deferred (some [])) → K { a with defers := { target := .collected D, args := #[] } :: a.defers } W) :
    (Code.rangeFunc g ps assign body).wpIn F n P (Exit.inBlock id (Exit.then K Q')) a w := by
  refine range_k hro h1 hg hFg eg hps r0 hr0 hseq I Ix hI hIx hIG h0 hround ?_ ?_
  · intro D xs r W hD _ hS hi hd
    exact hK D W hD (hdone xs r W hS hi) hd
  · intro D c pre r W hD _ hSp hi hd
    obtain ⟨rfl, hf⟩ := hstop c pre r W hSp hi
    refine wpIn_exit ?_
    have h := hK D W hD hf hd
    simp only [Exit.inBlock, if_true]
    exact h
end Go.Proofs.YtaidekdmhmoaeaaDoor
