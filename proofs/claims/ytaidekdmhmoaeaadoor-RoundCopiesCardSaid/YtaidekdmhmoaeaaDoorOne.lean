/-
  Concat as RoundRefuses calls it; slices that Begin refuses.
-/
import Derived.Test.YtaidekdmhmoaeaaDoorOnd
namespace Go.Proofs.YtaidekdmhmoaeaaDoor.On
open Go.RowKit Bt
open Rd (ints inn Tab Got1 of_in ints_in)
open Rr (nats nats_ints)
set_option linter.unusedVariables false
set_option linter.unusedSimpArgs false
def PCat (w : World) (n : Nat) (xs : List Int) (e : Ending) (w' : World) : Prop := ∃ (A : Option Addr) (c : Nat), e = .returned (.slice A n c) ∧ w'.ownsRow w.heap.size 3 1 (.slice A n c) n (xs.map (Value.int .i64)) ∧ Below w.heap.size w w'
theorem PCat.of {w w2 : World} {n : Nat} {xs : List Int} {e : Ending} {w' : World} (h : Got1 w2 n xs e w') (hb : Below w.heap.size w w2) : PCat w n xs e w' := by
  obtain ⟨⟨A, c, rfl, ho⟩, hb'⟩ := h
  exact ⟨A, c, rfl, own_base ho hb.size, b_then hb hb'⟩
section
variable (A : Option Addr) (n c : Nat) (xs : List Int) (w : World)
theorem lit_in {w : World} (vs : Array Value) (L : List Int) (m : Nat) (hm : m ≤ 100) (hs : vs.size = m) (hl : vs.toList = L.map (Value.int .i64)) : InS (w.alloc (.cells vs 3)) (some ⟨w.heap.size, 0, none⟩) m m L := by
  have h := World.ownsRow_lit (base := w.heap.size) (size := 1) (e := 3) w vs m (Nat.le_refl _) (by unfold maxLen; omega) (by omega)
  rw [hl] at h
  exact InS.of_own h
theorem cat_r (v : Int) (h : InS w A n c xs) (hn : n ≤ 100) : Calls Tryd.prog 26 #[.slice (some ⟨w.heap.size + 1, 0, none⟩) 2 2] ((w.alloc (.cells #[.int .i64 v] 3)).alloc (.cells #[.slice A n c, .slice (some ⟨w.heap.size, 0, none⟩) 1 1] 22)) (PCat w (n + 1) (xs ++ [v])) := by
  have hB1 : Below w.heap.size w (w.alloc (.cells #[.int .i64 v] 3)) := b_alloc (Below.refl _ _) _
  have hL := lit_in (w := w) #[.int .i64 v] [v] 1 (by omega) rfl rfl
  have hX := h.later hB1
  have hS : (w.alloc (.cells #[.int .i64 v] 3)).heap.size = w.heap.size + 1 := by simp
  generalize w.alloc (.cells #[.int .i64 v] 3) = w1 at hB1 hL hX hS ⊢
  have ba := b_alloc (Below.refl w1.heap.size w1) (.cells #[.slice A n c, .slice (some ⟨w.heap.size, 0, none⟩) 1 1] 22)
  refine (concat_two (w.heap.size + 1) A (some ⟨w.heap.size, 0, none⟩) n c 1 1 xs [v] _ (by rw [← hS]; exact Blk.new w1 _ _) (hX.later ba) (hL.later ba) (by omega) (by omega)).mono ?_
  intro e w' hg
  exact PCat.of hg (b_then hB1 ba)
theorem cat_l (v : Int) (h : InS w A n c xs) (hn : n ≤ 100) : Calls Tryd.prog 26 #[.slice (some ⟨w.heap.size + 1, 0, none⟩) 2 2] ((w.alloc (.cells #[.int .i64 v] 3)).alloc (.cells #[.slice (some ⟨w.heap.size, 0, none⟩) 1 1, .slice A n c] 22)) (PCat w (1 + n) ([v] ++ xs)) := by
  have hB1 : Below w.heap.size w (w.alloc (.cells #[.int .i64 v] 3)) := b_alloc (Below.refl _ _) _
  have hL := lit_in (w := w) #[.int .i64 v] [v] 1 (by omega) rfl rfl
  have hX := h.later hB1
  have hS : (w.alloc (.cells #[.int .i64 v] 3)).heap.size = w.heap.size + 1 := by simp
  generalize w.alloc (.cells #[.int .i64 v] 3) = w1 at hB1 hL hX hS ⊢
  have ba := b_alloc (Below.refl w1.heap.size w1) (.cells #[.slice (some ⟨w.heap.size, 0, none⟩) 1 1, .slice A n c] 22)
  refine (concat_two (w.heap.size + 1) (some ⟨w.heap.size, 0, none⟩) A 1 1 n c [v] xs _ (by rw [← hS]; exact Blk.new w1 _ _) (hL.later ba) (hX.later ba) (by omega) (by omega)).mono ?_
  intro e w' hg
  exact PCat.of hg (b_then hB1 ba)
theorem cat_r2 (v u : Int) (h : InS w A n c xs) (hn : n ≤ 100) : Calls Tryd.prog 26 #[.slice (some ⟨w.heap.size + 1, 0, none⟩) 2 2] ((w.alloc (.cells #[.int .i64 v, .int .i64 u] 3)).alloc (.cells #[.slice A n c, .slice (some ⟨w.heap.size, 0, none⟩) 2 2] 22)) (PCat w (n + 2) (xs ++ [v, u])) := by
  have hB1 : Below w.heap.size w (w.alloc (.cells #[.int .i64 v, .int .i64 u] 3)) := b_alloc (Below.refl _ _) _
  have hL := lit_in (w := w) #[.int .i64 v, .int .i64 u] [v, u] 2 (by omega) rfl rfl
  have hX := h.later hB1
  have hS : (w.alloc (.cells #[.int .i64 v, .int .i64 u] 3)).heap.size = w.heap.size + 1 := by simp
  generalize w.alloc (.cells #[.int .i64 v, .int .i64 u] 3) = w1 at hB1 hL hX hS ⊢
  have ba := b_alloc (Below.refl w1.heap.size w1) (.cells #[.slice A n c, .slice (some ⟨w.heap.size, 0, none⟩) 2 2] 22)
  refine (concat_two (w.heap.size + 1) A (some ⟨w.heap.size, 0, none⟩) n c 2 2 xs [v, u] _ (by rw [← hS]; exact Blk.new w1 _ _) (hX.later ba) (hL.later ba) (by omega) (by omega)).mono ?_
  intro e w' hg
  exact PCat.of hg (b_then hB1 ba)
theorem cat_d (h : InS w A n c xs) (hn : n ≤ 100) : Calls Tryd.prog 26 #[.slice (some ⟨w.heap.size, 0, none⟩) 2 2] (w.alloc (.cells #[.slice A n c, .slice A n c] 22)) (PCat w (n + n) (xs ++ xs)) := by
  have ba := b_alloc (Below.refl w.heap.size w) (.cells #[.slice A n c, .slice A n c] 22)
  refine (concat_two w.heap.size A A n c n c xs xs _ (Blk.new w _ _) (h.later ba) (h.later ba) (by omega) (by omega)).mono ?_
  intro e w' hg
  exact PCat.of hg ba
end
theorem dup_nodup : ∀ (ks : List Nat) (M : Nat), dup M ks = false → ks.Nodup ∧ ∀ x ∈ ks, M.testBit x = false
  | [], M, _ => ⟨List.nodup_nil, by simp⟩
  | x :: xs, M, h => by
    have hd : M.testBit x = false ∧ dup (M ||| 2 ^ x) xs = false := by
      simpa [dup] using h
    obtain ⟨h1, h2⟩ := dup_nodup xs _ hd.2
    refine ⟨List.nodup_cons.2 ⟨fun hm => ?_, h1⟩, ?_⟩
    · have := h2 x hm
      rw [bit_or] at this
      simp at this
    · intro y hy
      rcases List.mem_cons.1 hy with rfl | hy
      · exact hd.1
      · have := h2 y hy
        rw [bit_or] at this
        simp at this
        exact this.1
/-- what Begin answers to a slice that it refuses -/
def Refd (s : Nat) (xs : List Int) (e : Int) : Prop := (xs.all (inn s) = false ∧ e = 3) ∨ ∃ ks, xs = ints ks ∧ (∀ k ∈ ks, k < s) ∧ ¬ ks.Nodup ∧ e = 6
theorem beg_refd (b s : Nat) (N : Int) (w : World) (h : Rd.Is w b s 0 N) (hN : 0 ≤ N ∧ N ≤ 100000) (A : Option Addr) (n cap : Nat) (xs : List Int) (e0 : Int) (hx : InS w A n cap xs) (hn : n ≤ 200) (hr : Refd s xs e0) :
    Calls Tryd.prog 9 #[.pointer (some ⟨b, 0, none⟩), .slice A n cap] w fun e w' => e = .returned (.int .i64 e0) ∧ Below w.heap.size w w' := by
  rcases hr with ⟨ha, rfl⟩ | ⟨ks, rfl, hk, hd, rfl⟩
  · exact Rd.beg_range b s N w h A n cap xs hx.ri hx.len (by unfold maxLen; omega) ha
  · refine (Rd.beg_any b s N w h hN A n cap ks hx.ri (by have := hx.len; simpa [ints] using this) (by unfold maxLen; omega) hk).mono ?_
    rintro e w' (⟨_, rfl, hb⟩ | ⟨hd', _⟩)
    · exact ⟨rfl, hb⟩
    · exact absurd (dup_nodup ks 0 hd').1 hd
theorem out_all {s : Nat} {xs : List Int} {x : Int} (hm : x ∈ xs) (hx : x < 0 ∨ (s : Int) ≤ x) : xs.all (inn s) = false := by
  rw [List.all_eq_false]
  exact ⟨x, hm, by simp [inn]; omega⟩
theorem refs {s M d m : Nat} (hM : M < 2 ^ s) (hd : d ∈ slots M) :
    Refd s (ints (slots M) ++ [(s : Int) + (m : Int)]) 3 ∧ Refd s ([-1 - (m : Int)] ++ ints (slots M)) 3 ∧ Refd s (ints (slots M) ++ [(d : Int)]) 6 ∧ Refd s ([(d : Int)] ++ ints (slots M)) 6 ∧ Refd s (ints (slots M) ++ [(d : Int), (s : Int) + (m : Int)]) 3 ∧ Refd s (ints (slots M) ++ ints (slots M)) 6 := by
  have hlt := perm_lt (List.Perm.refl (slots M)) hM
  refine ⟨.inl ⟨out_all (x := (s : Int) + m) (by simp) (by omega), rfl⟩, .inl ⟨out_all (x := -1 - (m : Int)) (by simp) (by omega), rfl⟩, .inr ⟨slots M ++ [d], by simp [ints], ?_, ?_, rfl⟩, .inr ⟨d :: slots M, by simp [ints], ?_, ?_, rfl⟩, .inl ⟨out_all (x := (s : Int) + m) (by simp) (by omega), rfl⟩, .inr ⟨slots M ++ slots M, by simp [ints], ?_, ?_, rfl⟩⟩
  · intro k hk
    rcases List.mem_append.1 hk with hk | hk
    · exact hlt k hk
    · rw [List.mem_singleton.1 hk]; exact hlt d hd
  · intro hn
    exact (List.nodup_append.1 hn).2.2 d hd d (by simp) rfl
  · intro k hk
    rcases List.mem_cons.1 hk with rfl | hk
    · exact hlt k hd
    · exact hlt k hk
  · intro hn
    exact (List.nodup_cons.1 hn).1 hd
  · intro k hk
    rcases List.mem_append.1 hk with hk | hk
    · exact hlt k hk
    · exact hlt k hk
  · intro hn
    exact (List.nodup_append.1 hn).2.2 d hd d hd rfl
def KW (a w : World) : Prop := Below a.heap.size a w
theorem KW.bel {a w : World} (h : KW a w) : Below a.heap.size a w := h
abbrev SW (a : World) (bx : Nat) (v u : Value) (w' : World) : Prop := w'.cell? ⟨bx, 0, none⟩ = some v ∧ w'.cell? ⟨bx, 1, none⟩ = some u ∧ KW a w'
theorem SW.bel {a w' : World} {bx : Nat} {v u : Value} (h : SW a bx v u w') : Below a.heap.size a w' := h.2.2
theorem SW.after {a w w' : World} {bx : Nat} {v u : Value} (h : SW a bx v u w) (hl : bx < a.heap.size) (hb : Below w.heap.size w w') : SW a bx v u w' := by
  have hs : bx < w.heap.size := Nat.lt_of_lt_of_le hl h.bel.size
  exact ⟨(hb.cell (p := ⟨bx, 0, none⟩) hs).trans h.1, (hb.cell (p := ⟨bx, 1, none⟩) hs).trans h.2.1, b_then h.bel hb⟩
/-- one of the law's six -/
def Bad (s : Nat) (w : World) (v u : Value) : Prop := ∃ (A : Option Addr) (n c : Nat) (xs : List Int) (e : Int), v = .slice A n c ∧ u = .int .i64 e ∧ InS w A n c xs ∧ n ≤ 200 ∧ Refd s xs e
theorem Bad.later {s : Nat} {w w' : World} {v u : Value} (h : Bad s w v u) (hb : Below w.heap.size w w') : Bad s w' v u := by
  obtain ⟨A, n, c, xs, e, h1, h2, h3, h4⟩ := h
  exact ⟨A, n, c, xs, e, h1, h2, h3.later hb, h4⟩
end Go.Proofs.YtaidekdmhmoaeaaDoor.On
