/-
  The examples of the chapter hold.
-/
import Derived.Test.YtaidekdmhmoaeaaDoorSh
namespace Go.Proofs.YtaidekdmhmoaeaaDoor.Rd
open Go.RowKit Bt
set_option linter.unusedVariables false
set_option linter.unusedSimpArgs false
theorem RI.lit {w : World} {t : TypeId} {vs : Array Value} {L : List Value} (h : vs.toList = L) : RI (w.alloc (.cells vs t)) (some ⟨w.heap.size, 0, none⟩) L := by
  refine .inr ⟨w.heap.size, 0, rfl, by simp, fun i u hu => ?_⟩
  rw [Nat.zero_add, (Blk.new w t vs).cell i, ← Array.getElem?_toList, h]
  exact hu
section
variable {w : World} {b n M : Nat} {N : Int} {vs : Array Value}
theorem begl_state (h : Is w b 5 M N) (h0 : M ≠ 0) : Calls Tryd.prog 9 #[.pointer (some ⟨b, 0, none⟩), .slice (some ⟨w.heap.size, 0, none⟩) n n] (w.alloc (.cells vs 3)) fun e w' => e = .returned (.int .i64 7) ∧ Below w.heap.size w w' :=
  (beg_state b 5 M N _ (h.later (b_alloc (Below.refl _ _) _)) h0 _ n n).mono (by rintro e w' ⟨rfl, hb⟩; exact ⟨rfl, b_then (b_alloc (Below.refl _ _) _) hb⟩)
theorem begl_range (h : Is w b 5 0 N) (xs : List Int) (hv : vs.toList = xs.map (Value.int .i64)) (hl : xs.length = n) (hn : n ≤ 50) (ha : xs.all (inn 5) = false) : Calls Tryd.prog 9 #[.pointer (some ⟨b, 0, none⟩), .slice (some ⟨w.heap.size, 0, none⟩) n n] (w.alloc (.cells vs 3)) fun e w' => e = .returned (.int .i64 3) ∧ Below w.heap.size w w' :=
  (beg_range b 5 N _ (h.later (b_alloc (Below.refl _ _) _)) _ n n xs (RI.lit hv) hl (by unfold maxLen; omega) ha).mono (by rintro e w' ⟨rfl, hb⟩; exact ⟨rfl, b_then (b_alloc (Below.refl _ _) _) hb⟩)
theorem begl_have (h : Is w b 5 0 N) (hN : 0 ≤ N ∧ N ≤ 100000) (ks : List Nat) (hv : vs.toList = (ints ks).map (Value.int .i64)) (hl : ks.length = n) (hn : n ≤ 50) (hk : ∀ k ∈ ks, k < 5) (hd : dup 0 ks = true) : Calls Tryd.prog 9 #[.pointer (some ⟨b, 0, none⟩), .slice (some ⟨w.heap.size, 0, none⟩) n n] (w.alloc (.cells vs 3)) fun e w' => e = .returned (.int .i64 6) ∧ Below w.heap.size w w' :=
  (beg_any b 5 N _ (h.later (b_alloc (Below.refl _ _) _)) hN _ n n ks (RI.lit hv) hl (by unfold maxLen; omega) hk).mono (by
    rintro e w' (⟨_, rfl, hb⟩ | ⟨hd', _⟩)
    · exact ⟨rfl, b_then (b_alloc (Below.refl _ _) _) hb⟩
    · rw [hd] at hd'; cases hd')
theorem begl_ok (h : Is w b 5 0 N) (hN : 0 ≤ N ∧ N ≤ 100000) (ks : List Nat) (hv : vs.toList = (ints ks).map (Value.int .i64)) (hl : ks.length = n) (hn : n ≤ 50) (hk : ∀ k ∈ ks, k < 5) (hd : dup 0 ks = false) : Calls Tryd.prog 9 #[.pointer (some ⟨b, 0, none⟩), .slice (some ⟨w.heap.size, 0, none⟩) n n] (w.alloc (.cells vs 3)) fun e w' => e = .returned (.int .i64 0) ∧ Is w' b 5 (orAll 0 ks) (N + 1) ∧ Only b none (w.alloc (.cells vs 3)) w' :=
  (beg_any b 5 N _ (h.later (b_alloc (Below.refl _ _) _)) hN _ n n ks (RI.lit hv) hl (by unfold maxLen; omega) hk).mono (by
    rintro e w' (⟨hd', _⟩ | ⟨_, rfl, h', ho⟩)
    · rw [hd] at hd'; cases hd'
    · exact ⟨rfl, h', ho⟩)
end
theorem only_below {a w w' : World} {b : Nat} (hB : Below a.heap.size a w) (ho : Only b none w w') (hb : a.heap.size ≤ b) : Below a.heap.size a w' := Only.below hB ho hB.size hb (fun j hj => by cases hj)
set_option maxHeartbeats 6400000 in
set_option maxRecDepth 100000 in
theorem works_true (w : World) (hT : Tab w) : Calls Tryd.prog 8 #[] w fun e w' => e = .returned (.bool true) ∧ Below w.heap.size w w' := by
  have hnew : ∀ w : World, Calls Tryd.prog 13 #[.int .i64 5] w fun e w' => ∃ b : Nat, e = .returned (.tuple #[.pointer (some ⟨b, 0, none⟩), .int .i64 0]) ∧ Is w' b 5 0 0 ∧ w.heap.size ≤ b ∧ Below w.heap.size w w' := fun w => New_ok 5 w (by decide) (by decide)
  have hov : ∀ (b M : Nat) (N : Int) (w : World) (v : Bool), Is w b 5 M N → (M == 0) = v → Calls Tryd.prog 21 #[.pointer (some ⟨b, 0, none⟩)] w fun e w' => e = .returned (.bool v) ∧ w = w' := fun b M N w v h e => by subst e; exact Over_any b 5 M N w h
  have hde : ∀ (b M : Nat) (N : Int) (w : World) (x : Int), Is w b 5 M N → (decide (0 ≤ x ∧ x < ((5 : Nat) : Int)) && M.testBit x.toNat) = false → Calls Tryd.prog 10 #[.pointer (some ⟨b, 0, none⟩), .int .i64 x] w fun e w' => e = .returned (.int .i64 5) ∧ w = w' := fun b M N w x h e => Done_err b 5 M N x w h e
  have hdo : ∀ (b M M' : Nat) (N : Int) (w : World) (x : Int) (k : Nat), Is w b 5 M N → x = (k : Int) → k < 5 → M.testBit k = true → M &&& (4294967295 - 2 ^ k) = M' → Calls Tryd.prog 10 #[.pointer (some ⟨b, 0, none⟩), .int .i64 x] w fun e w' => e = .returned (.int .i64 0) ∧ Is w' b 5 M' N ∧ Only b none w w' := fun b M M' N w x k h e h1 h2 h3 => by subst e h3; exact Done_ok b 5 M N k w h h1 h2
  have hha : ∀ (b M : Nat) (N : Int) (w : World) (x : Int) (v : Bool), Is w b 5 M N → (decide (0 ≤ x ∧ x < ((5 : Nat) : Int)) && M.testBit x.toNat) = v → Calls Tryd.prog 25 #[.pointer (some ⟨b, 0, none⟩), .int .i64 x] w fun e w' => e = .returned (.bool v) ∧ w = w' := fun b M N w x v h e => by subst e; exact Has_any b 5 M N x w h
  go_enter Tryd.func8, Tryd.ntmps8
  go_wp2_with fail
  refine (hnew _).mono ?_
  rintro e w1 ⟨b, rfl, h1, hbb, hB1⟩
  go_wp2_with fail
  refine (hov b 0 0 _ true h1 rfl).mono ?_
  rintro e w' ⟨rfl, rfl⟩
  go_wp2_with fail
  refine (Count_any b 5 0 0 _ h1).mono ?_
  rintro e w' ⟨rfl, rfl⟩
  go_wp2_with fail
  refine (hde b 0 0 _ 2 h1 (by decide)).mono ?_
  rintro e w' ⟨rfl, rfl⟩
  go_wp2_with fail
  refine (begl_ok h1 (by decide) [4, 0, 2] rfl rfl (by decide) (by decide) (by decide)).mono ?_
  rintro e w2 ⟨rfl, h2, ho2⟩
  have h2 : Is w2 b 5 21 1 := h2
  have hB2 := only_below (b_alloc hB1 _) ho2 hbb
  clear h1 hB1 ho2
  go_wp2_with fail
  have hl : Calls Tryd.prog 24 #[.pointer (some ⟨b, 0, none⟩)] w2 (Got1 w2 3 [0, 2, 4]) := left_any (some ⟨b, 0, none⟩) (ints (slots 21)) _ (.inr ⟨b, 5, 21, 1, rfl, h2, rfl⟩) (hT.later hB2)
  refine hl.mono ?_
  rintro e w3 ⟨⟨A, c, rfl, ol⟩, hb3⟩
  have h3 := h2.later hb3
  have hB3 := b_then hB2 hb3
  clear hl h2 hB2 hb3
  have hq := eqi_any A (some ⟨w3.heap.size, 0, none⟩) 3 c 3 [0, 2, 4] (w3.alloc (.cells #[.int .i64 0, .int .i64 2, .int .i64 4] 3)) rfl ((RI.of_row ol).later (b_alloc (Below.refl _ _) _)) (RI.lit rfl) (by unfold maxLen; decide)
  go_wp2_with fail
  refine hq.mono ?_
  rintro e w' ⟨rfl, q, rfl⟩
  have h4 := h3.later (below_drewN (b_alloc (Below.refl _ _) (.cells #[.int .i64 0, .int .i64 2, .int .i64 4] 3)) q)
  have hB4 := b_then hB3 (below_drewN (b_alloc (Below.refl _ _) (.cells #[.int .i64 0, .int .i64 2, .int .i64 4] 3)) q)
  generalize World.drewN _ q = w4 at h4 hB4 ⊢
  clear hq ol h3 hB3
  go_wp2_with fail
  refine (hov b 21 1 _ false h4 rfl).mono ?_
  rintro e w' ⟨rfl, rfl⟩
  go_wp2_with fail
  refine (Count_any b 5 21 1 _ h4).mono ?_
  rintro e w' ⟨rfl, rfl⟩
  go_wp2_with fail
  refine (begl_state h4 (by decide)).mono ?_
  rintro e w5 ⟨rfl, hb5⟩
  have h5 := h4.later hb5
  have hB5 := b_then hB4 hb5
  clear h4 hB4 hb5
  go_wp2_with fail
  refine (hde b 21 1 _ 1 h5 (by decide)).mono ?_
  rintro e w' ⟨rfl, rfl⟩
  go_wp2_with fail
  refine (hde b 21 1 _ 5 h5 (by decide)).mono ?_
  rintro e w' ⟨rfl, rfl⟩
  go_wp2_with fail
  refine (hdo b 21 17 1 _ 2 2 h5 rfl (by decide) (by decide) (by decide)).mono ?_
  rintro e w6 ⟨rfl, h6, ho6⟩
  have hB6 := only_below hB5 ho6 hbb
  clear h5 hB5 ho6
  go_wp2_with fail
  refine (hde b 17 1 _ 2 h6 (by decide)).mono ?_
  rintro e w' ⟨rfl, rfl⟩
  go_wp2_with fail
  refine (hha b 17 1 _ 4 true h6 (by decide)).mono ?_
  rintro e w' ⟨rfl, rfl⟩
  go_wp2_with fail
  refine (hha b 17 1 _ 2 false h6 (by decide)).mono ?_
  rintro e w' ⟨rfl, rfl⟩
  go_wp2_with fail
  refine (hdo b 17 16 1 _ 0 0 h6 rfl (by decide) (by decide) (by decide)).mono ?_
  rintro e w7 ⟨rfl, h7, ho7⟩
  have hB7 := only_below hB6 ho7 hbb
  clear h6 hB6 ho7
  go_wp2_with fail
  refine (hdo b 16 0 1 _ 4 4 h7 rfl (by decide) (by decide) (by decide)).mono ?_
  rintro e w8 ⟨rfl, h8, ho8⟩
  have hB8 := only_below hB7 ho8 hbb
  clear h7 hB7 ho8
  go_wp2_with fail
  refine (hov b 0 1 _ true h8 rfl).mono ?_
  rintro e w' ⟨rfl, rfl⟩
  go_wp2_with fail
  refine (begl_range h8 [1, 5] rfl rfl (by decide) (by decide)).mono ?_
  rintro e w9 ⟨rfl, hb9⟩
  have h9 := h8.later hb9
  have hB9 := b_then hB8 hb9
  clear h8 hB8 hb9
  go_wp2_with fail
  refine (begl_have h9 (by decide) [1, 1] rfl rfl (by decide) (by decide) (by decide)).mono ?_
  rintro e w10 ⟨rfl, hb10⟩
  have h10 := h9.later hb10
  have hB10 := b_then hB9 hb10
  clear h9 hB9 hb10
  go_wp2_with fail
  refine (begl_range h10 [5, 1, 1] rfl rfl (by decide) (by decide)).mono ?_
  rintro e w11 ⟨rfl, hb11⟩
  have h11 := h10.later hb11
  have hB11 := b_then hB10 hb11
  clear h10 hB10 hb11
  go_wp2_with fail
  refine (beg_any b 5 1 _ h11 (by decide) none 0 0 [] (.inl rfl) rfl (by unfold maxLen; decide) (by decide)).mono ?_
  rintro e w12 (⟨hd, _⟩ | ⟨_, rfl, h12, ho12⟩)
  · cases hd
  have h12 : Is w12 b 5 0 2 := h12
  have hB12 := only_below hB11 ho12 hbb
  clear h11 hB11 ho12
  go_wp2_with fail
  refine (hov b 0 2 _ true h12 rfl).mono ?_
  rintro e w' ⟨rfl, rfl⟩
  go_wp2_with fail
  refine (Count_any b 5 0 2 _ h12).mono ?_
  rintro e w' ⟨rfl, rfl⟩
  go_wp2_with fail
  go_ret
  exact ⟨rfl, hB12⟩
end Go.Proofs.YtaidekdmhmoaeaaDoor.Rd
