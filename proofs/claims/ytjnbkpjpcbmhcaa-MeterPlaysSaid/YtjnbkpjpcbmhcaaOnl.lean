/-
  Words for an object of two blocks, a struct and the row of its slice: only these two have changed.
-/
import Derived.Test.YtjnbkpjpcbmhcaaWords
import Derived.Test.YtjnbkpjpcbmhcaaUp
import Derived.Test.YtjnbkpjpcbmhcaaRg3
import Derived.Lib.LazyBuf
import Derived.Lib.SliceRun
import Derived.Deep.RegionLaw
import Derived.TacticsInMore
import Derived.OwnWalkIn
import Derived.WalkKit
namespace Go.Proofs.Ytjnbkpjpcbmhcaa
open Go.RowKit
set_option linter.unusedVariables false

/-- the block of a slice's row -/
def rowOf (A : Option Addr) : Option Nat := A.map (·.block)
theorem rowOf_own (A : Option Addr) (n c : Nat) : (Value.slice A n c).ownBlock = rowOf A := by cases A <;> rfl
/-- only blocks b and r, and what is new, have changed -/
structure Only (b : Nat) (r : Option Nat) (w w' : World) : Prop where
  os : w'.os = w.os
  tape : w'.tape = w.tape
  output : w'.output = w.output
  size : w.heap.size ≤ w'.heap.size
  block : ∀ k, k < w.heap.size → k ≠ b → some k ≠ r → w'.heap[k]? = w.heap[k]?
section
variable {b : Nat} {r r' r'' : Option Nat} {a c d w w' : World}
theorem Only.refl (b : Nat) (r : Option Nat) (w : World) : Only b r w w := ⟨rfl, rfl, rfl, Nat.le_refl _, fun _ _ _ _ => rfl⟩
theorem Only.trans (h : Only b r a c) (k : Only b r' c d) (hn : NewRow a r r') : Only b r a d :=
  ⟨k.os.trans h.os, k.tape.trans h.tape, k.output.trans h.output, Nat.le_trans h.size k.size, fun i hi h1 h2 => (k.block i (Nat.lt_of_lt_of_le hi h.size) h1 (by
    exact hn.ne hi h2)).trans (h.block i hi h1 h2)⟩
theorem Only.of_below (h : Below w.heap.size w w') (b : Nat) (r : Option Nat) : Only b r w w' := ⟨h.os, h.tape, h.output, h.size, fun k hk _ _ => h.block k hk⟩
theorem Only.then_below (h : Only b r a c) (k : Below c.heap.size c d) : Only b r a d := h.trans (Only.of_below k b r) (.inl rfl)
theorem Only.of_grown {g : Option Nat} (h : w.grownBy w' g) (hg : g = some b ∨ g = r ∨ ∃ k, g = some k ∧ w.heap.size ≤ k) : Only b r w w' :=
  ⟨h.os, h.tape, h.output, h.size, fun k hk h1 h2 => h.block k hk (by
    rcases hg with rfl | rfl | ⟨j, rfl, hj⟩
    · intro e; injection e with e; exact h1 e
    · exact h2
    · intro e; injection e with e; omega)⟩
theorem Only.set_ (h : Only b r a c) (i : Nat) (u : Value) : Only b r a (c.setCell ⟨b, i, none⟩ u) :=
  ⟨h.os, h.tape, h.output, by simpa [World.setCell] using h.size, fun k hk h1 h2 => (Below.heap_setCell c ⟨b, i, none⟩ u k h1).trans (h.block k hk h1 h2)⟩
theorem Only.below {B : Nat} (h : Below B a w) (k : Only b r w w') (hB : B ≤ w.heap.size) (hb : B ≤ b) (hr : ∀ j, r = some j → B ≤ j) : Below B a w' :=
  ⟨k.os.trans h.os, k.tape.trans h.tape, k.output.trans h.output, Nat.le_trans h.size k.size, fun i hi => (k.block i (by omega) (by omega) (by intro e; have := hr i e.symm; omega)).trans (h.block i hi)⟩
theorem Only.blk {g : Nat} {t : TypeId} {cs : Array Value} (k : Only b r w w') (h : Blk w g t cs) (h1 : g ≠ b) (h2 : some g ≠ r) : Blk w' g t cs := (k.block g h.lt h1 h2).trans h
theorem own_kept {base : Nat} {e : TypeId} {size n m : Nat} {A : Option Addr} {cap : Nat} {xs : List Value} (h : w.ownsRow base e size (.slice A n cap) m xs) (hk : ∀ g, rowOf A = some g → w'.heap[g]? = w.heap[g]?) : w'.ownsRow base e size (.slice A n cap) m xs := by
  rcases h.2 with hn | ⟨g, cap', cur, h1, h2, h3, h4⟩
  · exact ⟨h.1, .inl hn⟩
  · refine ⟨h.1, .inr ⟨g, cap', cur, h1, h2, ?_, h4⟩⟩
    injection h1 with h1
    rw [hk g (by rw [h1]; rfl)]
    exact h3
theorem own_row {base : Nat} {e : TypeId} {size n m : Nat} {A : Option Addr} {cap : Nat} {xs : List Value} (h : w.ownsRow base e size (.slice A n cap) m xs) : ∀ g, rowOf A = some g → base ≤ g ∧ g < w.heap.size := by
  intro g hg
  exact World.ownsRow.lt h g ((rowOf_own A n cap).trans hg)
theorem own_below {B base : Nat} {e : TypeId} {size n m : Nat} {A : Option Addr} {cap : Nat} {xs : List Value} (h : w.ownsRow base e size (.slice A n cap) m xs) (hb : Below B w w') (hB : w.heap.size ≤ B) : w'.ownsRow base e size (.slice A n cap) m xs :=
  own_kept h fun g hg => hb.block g (by have := (own_row h g hg).2; omega)
theorem own_later {base : Nat} {e : TypeId} {size n m : Nat} {A : Option Addr} {cap : Nat} {xs : List Value} (h : w.ownsRow base e size (.slice A n cap) m xs) (hb : Below w.heap.size w w') : w'.ownsRow base e size (.slice A n cap) m xs := own_below h hb (Nat.le_refl _)
theorem Only.own {base : Nat} {e : TypeId} {size n m : Nat} {A : Option Addr} {cap : Nat} {xs : List Value} (k : Only b r w w') (h : w.ownsRow base e size (.slice A n cap) m xs) (h1 : rowOf A ≠ some b) (h2 : rowOf A = none ∨ rowOf A ≠ r) : w'.ownsRow base e size (.slice A n cap) m xs :=
  own_kept h fun g hg => k.block g (own_row h g hg).2 (by rintro rfl; exact h1 hg) (by
    rintro rfl
    rcases h2 with h2 | h2
    · rw [hg] at h2; cases h2
    · exact h2 hg)
theorem own_setFar {base : Nat} {e : TypeId} {size n m : Nat} {A : Option Addr} {cap : Nat} {xs : List Value} (h : w.ownsRow base e size (.slice A n cap) m xs) {p : Addr} (hp : rowOf A ≠ some p.block) (u : Value) : (w.setCell p u).ownsRow base e size (.slice A n cap) m xs :=
  own_kept h fun g hg => Below.heap_setCell w p u g (by rintro rfl; exact hp hg)
end

theorem Blk.turn {w w' : World} {g : Nat} {t : TypeId} {cs : Array Value} {row : Option Nat} (h : Blk w g t cs) (hg : w.grownBy w' row) (hr : ∀ r, row = some r → ∃ o : Obj, w.heap[r]? = some o ∧ o.isCells = false) : Blk w' g t cs :=
  (hg.block g h.lt (by
    intro e
    obtain ⟨o, ho, hc⟩ := hr g e.symm
    rw [show w.heap[g]? = _ from h] at ho
    cases ho
    cases hc)).trans h
theorem below_turn {B : Nat} {a w w' : World} {row : Option Nat} (h : Below B a w) (hg : w.grownBy w' row) (hr : ∀ r, row = some r → B ≤ r) (hB : B ≤ w.heap.size) : Below B a w' := h.grown hg hB hr
/-- a block some of whose cells are set -/
theorem Blk.setCells {g : Nat} {t : TypeId} : ∀ (vs : List Value) (o : Nat) (w : World) (cs : Array Value), Blk w g t cs → o + vs.length ≤ cs.size → Blk (w.setCells g o vs) g t (cs.toList.take o ++ vs ++ cs.toList.drop (o + vs.length)).toArray
  | [], o, w, cs, h, _ => by simpa [World.setCells] using h
  | v :: vs, o, w, cs, h, hl => by
    simp only [List.length_cons] at hl
    have h1 := Blk.setCells vs (o + 1) _ _ (h.set_ o v) (by simp; omega)
    rw [World.setCells]
    have e : ((cs.setIfInBounds o v).toList.take (o + 1) ++ vs ++ (cs.setIfInBounds o v).toList.drop (o + 1 + vs.length)).toArray = (cs.toList.take o ++ v :: vs ++ cs.toList.drop (o + (v :: vs).length)).toArray := by
      congr 1
      apply List.ext_getElem?
      intro i
      simp only [Array.toList_setIfInBounds, List.getElem?_append, List.length_take, List.length_set, Array.length_toList, List.getElem?_take, List.getElem?_set, List.getElem?_drop, List.length_append, List.length_cons]
      rcases Nat.lt_trichotomy i o with hi | rfl | hi
      · rw [if_pos (by omega), if_pos (by omega), if_pos (by omega), if_neg (by omega), if_pos (by omega), if_pos (by omega), if_pos (by omega)]
      · rw [if_pos (by omega), if_pos (by omega), if_pos (by omega), if_pos rfl, if_pos (by omega), if_pos (by omega), if_neg (by omega), show i - min i cs.size = 0 by omega]
        rfl
      · rw [if_neg (by omega : ¬ i < min o cs.size)]
        by_cases h2 : i < o + 1 + vs.length
        · rw [if_pos (by omega), if_neg (by omega), if_pos (by omega), show i - min o cs.size = (i - min (o + 1) cs.size) + 1 by omega, List.getElem?_cons_succ]
        · rw [if_neg (by omega), if_neg (by omega), if_neg (by omega)]
          congr 1
          omega
    rw [← e]
    exact h1
theorem Only.setCells {b : Nat} {r : Option Nat} {a : World} {g : Nat} (hg : some g = some b ∨ some g = r) : ∀ (vs : List Value) (o : Nat) (w : World), Only b r a w → Only b r a (w.setCells g o vs)
  | [], _, _, h => h
  | v :: vs, o, w, h => Only.setCells hg vs (o + 1) _ ⟨h.os, h.tape, h.output, by simpa [World.setCell] using h.size, fun k hk h1 h2 => (Below.heap_setCell w ⟨g, o, none⟩ v k (by
      rintro rfl
      rcases hg with hg | hg
      · injection hg with hg; exact h1 hg
      · exact h2 hg)).trans (h.block k hk h1 h2)⟩
theorem grown_setCells {g : Nat} {a : World} : ∀ (vs : List Value) (o : Nat) (w : World), a.grownBy w (some g) → a.grownBy (w.setCells g o vs) (some g)
  | [], _, _, h => h
  | v :: vs, o, w, h => grown_setCells vs (o + 1) _ (g_set h (.inl rfl) v)
theorem own_cut {w : World} {base : Nat} {e : TypeId} {g n cap k : Nat} {xs : List Value} (h : w.ownsRow base e 1 (.slice (some ⟨g, 0, none⟩) n cap) n xs) (hk : k ≤ n) : w.ownsRow base e 1 (.slice (some ⟨g, 0, none⟩) k cap) k (xs.take k) := by
  have hl := h.1
  rcases h.2 with ⟨h', _⟩ | ⟨g', cap', cur, h', h2, h3, h4, h5, h6, h7⟩
  · cases h'
  · simp only [Value.slice.injEq, Option.some.injEq, Addr.mk.injEq, and_true, true_and] at h'
    obtain ⟨rfl, rfl⟩ := h'
    refine ⟨by simp; omega, .inr ⟨g, cap, cur, rfl, h2, h3, by omega, h5, h6, ?_⟩⟩
    rw [← h7, Nat.mul_one, Nat.mul_one, List.take_take, show min k n = k by omega]
theorem own_shape {w : World} {base : Nat} {e : TypeId} {n m cap : Nat} {A : Option Addr} {xs : List Value} (h : w.ownsRow base e 1 (.slice A n cap) m xs) : (A = none ∧ n = 0 ∧ cap = 0 ∧ m = 0 ∧ xs = []) ∨ ∃ g, A = some ⟨g, 0, none⟩ ∧ n = m ∧ base ≤ g ∧ g < w.heap.size ∧ n ≤ cap ∧ cap ≤ maxLen := by
  have hl := h.1
  rcases h.2 with ⟨h', hn⟩ | ⟨g', cap', cur, h', h2, h3, h4, h5, h6, h7⟩
  · simp only [Value.slice.injEq] at h'
    obtain ⟨rfl, rfl, rfl⟩ := h'
    exact .inl ⟨rfl, rfl, rfl, hn, List.eq_nil_of_length_eq_zero (by omega)⟩
  · simp only [Value.slice.injEq] at h'
    obtain ⟨rfl, rfl, rfl⟩ := h'
    exact .inr ⟨g', rfl, rfl, h2, lt_of_block h3, h4, h5⟩
theorem own_cap {w : World} {base : Nat} {e : TypeId} {n m cap : Nat} {A : Option Addr} {xs : List Value} (h : w.ownsRow base e 1 (.slice A n cap) m xs) : n = m ∧ n ≤ cap ∧ cap ≤ maxLen := by
  rcases own_shape h with ⟨_, rfl, rfl, rfl, _⟩ | ⟨g, _, h1, _, _, h2, h3⟩
  · exact ⟨rfl, Nat.le_refl _, by unfold maxLen; omega⟩
  · exact ⟨h1, h2, h3⟩
theorem own_at {w : World} {base : Nat} {e : TypeId} {n cap : Nat} {A : Option Addr} {xs : List Value} (h : w.ownsRow base e 1 (.slice A n cap) n xs) {i : Nat} {u : Value} (hu : xs[i]? = some u) : ∃ g, A = some ⟨g, 0, none⟩ ∧ base ≤ g ∧ g < w.heap.size ∧ w.cell? ⟨g, i, none⟩ = some u ∧ w.frozen? ⟨g, i, none⟩ = false := by
  have hi : i < n * 1 := by rw [← h.1]; exact (List.getElem?_eq_some_iff.1 hu).1
  rcases own_shape h with ⟨_, _, _, _, rfl⟩ | ⟨g, rfl, _, h1, h2, _⟩
  · simp at hu
  · exact ⟨g, rfl, h1, h2, (World.ownsRow.cellAt h i hi).trans hu, World.ownsRow.frozenAt h i⟩
theorem own_head {w : World} {B : Nat} {e : TypeId} {v : Value} {n : Nat} {xs : List Value} (h : w.ownsRow B e 1 v (n + 1) xs) : ∃ g cap, v = .slice (some ⟨g, 0, none⟩) (n + 1) cap ∧ B ≤ g ∧ g < w.heap.size := by
  rcases h.2 with ⟨_, hn⟩ | ⟨g, cap, cur, rfl, h2, h3, _⟩
  · omega
  · exact ⟨g, cap, rfl, h2, lt_of_block h3⟩
theorem own_form {w : World} {B : Nat} {e : TypeId} {v : Value} {n : Nat} {xs : List Value} (h : w.ownsRow B e 1 v n xs) : (v = .slice none 0 0 ∧ n = 0) ∨ ∃ g cap, v = .slice (some ⟨g, 0, none⟩) n cap ∧ B ≤ g ∧ g < w.heap.size := by
  rcases h.2 with ⟨hv, hn⟩ | ⟨g, cap, cur, rfl, h2, h3, _⟩
  · exact .inl ⟨hv, hn⟩
  · exact .inr ⟨g, cap, rfl, h2, lt_of_block h3⟩
theorem Reads.one (w : World) (e : TypeId) (u : Value) : Reads (w.alloc (.cells #[u] e)) (w.heap.size + 1) 1 (some ⟨w.heap.size, 0, none⟩) 1 [u] :=
  ⟨by simp, fun _ => ⟨_, rfl, by simp, fun j x hj => by
    match j, hj with
    | 0, hj => simp at hj; subst hj; simp [Addr.add]
    | j + 1, hj => simp at hj⟩⟩
theorem own_base {w : World} {B B' : Nat} {e : TypeId} {size n : Nat} {v : Value} {xs : List Value} (h : w.ownsRow B e size v n xs) (hB : B' ≤ B) : w.ownsRow B' e size v n xs := by
  refine ⟨h.1, ?_⟩
  rcases h.2 with hn | ⟨g, cap, cur, h1, h2, h3⟩
  · exact .inl hn
  · exact .inr ⟨g, cap, cur, h1, Nat.le_trans hB h2, h3⟩
theorem wpListIn_append_any {F : Fence} {d : Nat} {P : Program} (w : World) {ops : Array Oper} {rest : List Oper} {o : Oper} {a : Act} {Q : Exit → Act → World → Prop} (hgd : o.guard = none) (s x : Operand) (t : TypeId)
    (ho : o.op = .call { callee := .builtin .append, args := #[s, x], argTypes := #[t, t] })
    (base : Nat) (e : TypeId) (i : TypeInfo) (z : Value) (size bytes : Nat) (ht : P.underlying t = some (.slice e)) (hi : P.info? e = some i) (hz : i.zero = some z)
    (hsize : i.size = size) (hby : i.bytes = bytes) (hzs : z.cells.size = size) (hsz : 0 < size)
    (v : Value) (n : Nat) (xs : List Value) (hs : a.eval s = v) (hown : w.ownsRow base e size v n xs)
    (B : Nat) (A : Option Addr) (m c : Nat) (news : List Value) (hx : a.eval x = .slice A m c) (hr : Reads w B size A m news) (h1 : ∀ u ∈ news, u.oneCell' = true)
    (h63 : n + m ≤ maxLen) (hbytes : (n + m) * bytes ≤ 140737488355328) (hbase : base ≤ w.heap.size)
    (h : ∀ v' w', w'.ownsRow base e size v' (n + m) (xs ++ news) → w.grownBy w' v.ownBlock → (v'.ownBlock = v.ownBlock ∨ v'.ownBlock = some w.heap.size) → wpListIn F d P ops Q rest (a.put o.dst v') w') : wpListIn F d P ops Q (o :: rest) a w := by
  refine wpListIn_plain hgd fun K hK' => ?_
  obtain ⟨v', w', hrun, h2, h3, h4⟩ := run_append_any (P := P) w base t o.type e i z size bytes ht hi hz hsize hby hzs hsz v n xs hown B A m c news hr h1 h63 hbytes hbase
  unfold Oper.wpIn
  refine ⟨?_, ?_⟩
  · simp [Oper.about, ho, resolve, Target.leads, Sem.run_pure]
  · rw [Oper.semAt_plain F _ _ (by rw [ho]; intro c hc'; cases hc')]
    simp [execOp, ho, resolve, invoke, builtin, hs, hx, hrun, Result.andThen]
    exact hK' _ _ (h v' w' h2 h3 h4)
/-- a row's block is cells -/
theorem own_turn' {w w' : World} {B : Nat} {e : TypeId} {size n m cap : Nat} {A : Option Addr} {xs : List Value} (h : w.ownsRow B e size (.slice A n cap) m xs) {row : Option Nat} (hg : w.grownBy w' row) (hr : ∀ r, row = some r → ∃ o : Obj, w.heap[r]? = some o ∧ o.isCells = false) : w'.ownsRow B e size (.slice A n cap) m xs := by
  refine own_kept h fun g hg' => hg.block g (own_row h g hg').2 ?_
  intro e
  obtain ⟨o, ho, hc⟩ := hr g e.symm
  rcases h.2 with ⟨h1, _⟩ | ⟨g', cap', cur, h1, h2, h3, h4⟩
  · injection h1 with h1; subst h1; cases hg'
  · injection h1 with h1; subst h1
    have : g' = g := by simpa [rowOf] using hg'
    subst this
    rw [h3] at ho
    cases ho
    cases hc
end Go.Proofs.Ytjnbkpjpcbmhcaa
