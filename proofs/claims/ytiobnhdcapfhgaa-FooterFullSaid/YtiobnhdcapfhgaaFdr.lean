/-
  Decoding of footers: the reference.
-/
import Derived.Test.YtiobnhdcapfhgaaFen
import Derived.Test.YtiobnhdcapfhgaaDed
import Derived.Test.YtiobnhdcapfhgaaAeq
import Derived.Test.YtiobnhdcapfhgaaRde
import Derived.Test.YtiobnhdcapfhgaaRcr
import Derived.Test.YtiobnhdcapfhgaaRes
import Derived.Test.YtiobnhdcapfhgaaFde
namespace Go.Proofs.Ytiobnhdcapfhgaa
open Go.RowKit
set_option linter.unusedVariables false
set_option linter.unusedSimpArgs false
theorem rdec_torn (a : Option Addr) (n cap : Nat) (w : World) (hn : n < 16) :
    Calls Try.prog 39 #[.slice a n cap] w fun e w' => e = .returned (.tuple #[.agg #[.int .u32 0, .int .i64 0, .int .i64 0, .int .i64 0, .int .i64 0], .int .i64 14]) ∧ Below w.heap.size w w' := by
  go_enter Try.func39, Try.ntmps39
  go_wp2
  exact bodyPost_ret (v := .tuple #[.agg #[.int .u32 0, .int .i64 0, .int .i64 0, .int .i64 0, .int .i64 0], .int .i64 14]) (by simp [results, Try.results39, go_sem]) rfl ⟨rfl, by repeat first | exact Below.refl _ _ | apply Below.drew | apply b_alloc⟩
theorem rfde_err {S k y c l q : Int} (A : Option Addr) (n cap : Nat) (M : List Int) (w : World) (h : 0 < n → RB w A M) (hn : M.length = n) (hB : BB M) (hl : n ≤ cap) (hc : cap ≤ maxLen)
    (hd : ∀ w1 : World, Below w.heap.size w w1 → Calls Try.prog 39 #[.slice A n cap] w1 fun e w' => e = .returned (.tuple #[.agg #[.int .u32 S, .int .i64 k, .int .i64 y, .int .i64 c, .int .i64 l], .int .i64 q]) ∧ Below w1.heap.size w1 w') (hq : (q != 0) = true) :
    Calls Try.prog 19 #[.slice A n cap] w fun e w' => e = .returned (.tuple #[.agg #[.int .i64 0, .int .i64 0], .int .i64 q]) ∧ Below w.heap.size w w' := by
  go_enter Try.func19, Try.ntmps19
  go_wp2_with fail
  refine (hd _ (b_alloc (Below.refl _ _) _)).mono ?_
  rintro e w1 ⟨rfl, hb1⟩
  have hR1 := (Blk.new w 29 #[.int .i64 0, .int .i64 0]).below hb1 (Blk.new w _ _).lt
  have bel1 := b_then (b_alloc (Below.refl _ w) (.cells #[.int .i64 0, .int .i64 0] 29)) hb1
  have hl1 : 0 < n → RB w1 A M := fun hp => ((h hp).later (b_alloc (Below.refl _ _) _)).later hb1
  have hH2 := Blk.new w1 70 #[.int .u32 S, .int .i64 k, .int .i64 y, .int .i64 c, .int .i64 l]
  have cH2 := hH2.cell
  have hR2 := hR1.alloc (.cells #[.int .u32 S, .int .i64 k, .int .i64 y, .int .i64 c, .int .i64 l] 70)
  have cR2 := hR2.cell
  have fR2 := hR2.frozen
  have bel2 := b_alloc bel1 (.cells #[.int .u32 S, .int .i64 k, .int .i64 y, .int .i64 c, .int .i64 l] 70)
  have hl2 := fun hp => (hl1 hp).later (b_alloc (Below.refl _ w1) (.cells #[.int .u32 S, .int .i64 k, .int .i64 y, .int .i64 c, .int .i64 l] 70))
  have hF3 := Blk.new (w1.alloc (.cells #[.int .u32 S, .int .i64 k, .int .i64 y, .int .i64 c, .int .i64 l] 70)) 29 #[.int .i64 c, .int .i64 l]
  rw [World.size_alloc] at hF3
  have cF3 := hF3.cell
  have hH3 := hH2.alloc (.cells #[.int .i64 c, .int .i64 l] 29)
  have cH3 := hH3.cell
  have hR3 := hR2.alloc (.cells #[.int .i64 c, .int .i64 l] 29)
  have cR3 := hR3.cell
  have fR3 := hR3.frozen
  have bel3 := b_alloc bel2 (.cells #[.int .i64 c, .int .i64 l] 29)
  have hl3 := fun hp => (hl2 hp).later (b_alloc (Below.refl _ _) (.cells #[.int .i64 c, .int .i64 l] 29))
  clear hd h hb1 bel1 hl1 hR1
  clear hl2 hl3
  go_wp2_with fail
  refine bodyPost_ret (v := .tuple #[.agg #[.int .i64 0, .int .i64 0], .int .i64 q]) (results_c1 Try.results19 _ _ w.heap.size #[.int .i64 0, .int .i64 0] _ rfl (by repeat first | (with_reducible exact hR2.set2 _ _) | (with_reducible apply Blk.alloc) | (with_reducible apply Blk.drew)) Try.underlying29 rfl (by kernel_rfl)) rfl ⟨rfl, ?_⟩
  repeat first | (with_reducible exact bel2) | (with_reducible apply Below.drew) | (with_reducible apply b_set) | (with_reducible apply b_alloc)
theorem rfde_kind {S k y c l q : Int} (A : Option Addr) (n cap : Nat) (M : List Int) (w : World) (h : 0 < n → RB w A M) (hn : M.length = n) (hB : BB M) (hl : n ≤ cap) (hc : cap ≤ maxLen)
    (hd : ∀ w1 : World, Below w.heap.size w w1 → Calls Try.prog 39 #[.slice A n cap] w1 fun e w' => e = .returned (.tuple #[.agg #[.int .u32 S, .int .i64 k, .int .i64 y, .int .i64 c, .int .i64 l], .int .i64 q]) ∧ Below w1.heap.size w1 w') (hq : q = 0) (hk : (k != 3) = true) :
    Calls Try.prog 19 #[.slice A n cap] w fun e w' => e = .returned (.tuple #[.agg #[.int .i64 0, .int .i64 0], .int .i64 8]) ∧ Below w.heap.size w w' := by
  subst hq
  go_enter Try.func19, Try.ntmps19
  go_wp2_with fail
  refine (hd _ (b_alloc (Below.refl _ _) _)).mono ?_
  rintro e w1 ⟨rfl, hb1⟩
  have hR1 := (Blk.new w 29 #[.int .i64 0, .int .i64 0]).below hb1 (Blk.new w _ _).lt
  have bel1 := b_then (b_alloc (Below.refl _ w) (.cells #[.int .i64 0, .int .i64 0] 29)) hb1
  have hl1 : 0 < n → RB w1 A M := fun hp => ((h hp).later (b_alloc (Below.refl _ _) _)).later hb1
  have hH2 := Blk.new w1 70 #[.int .u32 S, .int .i64 k, .int .i64 y, .int .i64 c, .int .i64 l]
  have cH2 := hH2.cell
  have hR2 := hR1.alloc (.cells #[.int .u32 S, .int .i64 k, .int .i64 y, .int .i64 c, .int .i64 l] 70)
  have cR2 := hR2.cell
  have fR2 := hR2.frozen
  have bel2 := b_alloc bel1 (.cells #[.int .u32 S, .int .i64 k, .int .i64 y, .int .i64 c, .int .i64 l] 70)
  have hl2 := fun hp => (hl1 hp).later (b_alloc (Below.refl _ w1) (.cells #[.int .u32 S, .int .i64 k, .int .i64 y, .int .i64 c, .int .i64 l] 70))
  have hF3 := Blk.new (w1.alloc (.cells #[.int .u32 S, .int .i64 k, .int .i64 y, .int .i64 c, .int .i64 l] 70)) 29 #[.int .i64 c, .int .i64 l]
  rw [World.size_alloc] at hF3
  have cF3 := hF3.cell
  have hH3 := hH2.alloc (.cells #[.int .i64 c, .int .i64 l] 29)
  have cH3 := hH3.cell
  have hR3 := hR2.alloc (.cells #[.int .i64 c, .int .i64 l] 29)
  have cR3 := hR3.cell
  have fR3 := hR3.frozen
  have bel3 := b_alloc bel2 (.cells #[.int .i64 c, .int .i64 l] 29)
  have hl3 := fun hp => (hl2 hp).later (b_alloc (Below.refl _ _) (.cells #[.int .i64 c, .int .i64 l] 29))
  clear hd h hb1 bel1 hl1 hR1
  clear hl2 hl3
  go_wp2_with fail
  refine bodyPost_ret (v := .tuple #[.agg #[.int .i64 0, .int .i64 0], .int .i64 8]) (results_c1 Try.results19 _ _ w.heap.size #[.int .i64 0, .int .i64 0] _ rfl (by repeat first | (with_reducible exact hR3.set2 _ _) | (with_reducible apply Blk.alloc) | (with_reducible apply Blk.drew)) Try.underlying29 rfl (by kernel_rfl)) rfl ⟨rfl, ?_⟩
  repeat first | (with_reducible exact bel3) | (with_reducible apply Below.drew) | (with_reducible apply b_set) | (with_reducible apply b_alloc)
theorem rfde_bad {S k y c l q : Int} (A : Option Addr) (n cap : Nat) (M : List Int) (w : World) (h : 0 < n → RB w A M) (hn : M.length = n) (hB : BB M) (hl : n ≤ cap) (hc : cap ≤ maxLen)
    (hd : ∀ w1 : World, Below w.heap.size w w1 → Calls Try.prog 39 #[.slice A n cap] w1 fun e w' => e = .returned (.tuple #[.agg #[.int .u32 S, .int .i64 k, .int .i64 y, .int .i64 c, .int .i64 l], .int .i64 q]) ∧ Below w1.heap.size w1 w') (hq : q = 0) (hk : k = 3) (hf : ¬ FOk c l) :
    Calls Try.prog 19 #[.slice A n cap] w fun e w' => e = .returned (.tuple #[.agg #[.int .i64 0, .int .i64 0], .int .i64 8]) ∧ Below w.heap.size w w' := by
  subst hq hk
  have hck := fun w => rfchk_no hf w
  clear hf
  go_enter Try.func19, Try.ntmps19
  go_wp2_with fail
  refine (hd _ (b_alloc (Below.refl _ _) _)).mono ?_
  rintro e w1 ⟨rfl, hb1⟩
  have hR1 := (Blk.new w 29 #[.int .i64 0, .int .i64 0]).below hb1 (Blk.new w _ _).lt
  have bel1 := b_then (b_alloc (Below.refl _ w) (.cells #[.int .i64 0, .int .i64 0] 29)) hb1
  have hl1 : 0 < n → RB w1 A M := fun hp => ((h hp).later (b_alloc (Below.refl _ _) _)).later hb1
  have hH2 := Blk.new w1 70 #[.int .u32 S, .int .i64 3, .int .i64 y, .int .i64 c, .int .i64 l]
  have cH2 := hH2.cell
  have hR2 := hR1.alloc (.cells #[.int .u32 S, .int .i64 3, .int .i64 y, .int .i64 c, .int .i64 l] 70)
  have cR2 := hR2.cell
  have fR2 := hR2.frozen
  have bel2 := b_alloc bel1 (.cells #[.int .u32 S, .int .i64 3, .int .i64 y, .int .i64 c, .int .i64 l] 70)
  have hl2 := fun hp => (hl1 hp).later (b_alloc (Below.refl _ w1) (.cells #[.int .u32 S, .int .i64 3, .int .i64 y, .int .i64 c, .int .i64 l] 70))
  have hF3 := Blk.new (w1.alloc (.cells #[.int .u32 S, .int .i64 3, .int .i64 y, .int .i64 c, .int .i64 l] 70)) 29 #[.int .i64 c, .int .i64 l]
  rw [World.size_alloc] at hF3
  have cF3 := hF3.cell
  have hH3 := hH2.alloc (.cells #[.int .i64 c, .int .i64 l] 29)
  have cH3 := hH3.cell
  have hR3 := hR2.alloc (.cells #[.int .i64 c, .int .i64 l] 29)
  have cR3 := hR3.cell
  have fR3 := hR3.frozen
  have bel3 := b_alloc bel2 (.cells #[.int .i64 c, .int .i64 l] 29)
  have hl3 := fun hp => (hl2 hp).later (b_alloc (Below.refl _ _) (.cells #[.int .i64 c, .int .i64 l] 29))
  clear hd h hb1 bel1 hl1 hR1
  go_wp2_with fail
  refine (hck _).mono ?_
  rintro e w4 ⟨rfl, hb4⟩
  have hR4 := hR3.below hb4 hR3.lt
  have cR4 := hR4.cell
  have fR4 := hR4.frozen
  have hF4 := hF3.below hb4 hF3.lt
  have cF4 := hF4.cell
  have hH4 := hH3.below hb4 hH3.lt
  have cH4 := hH4.cell
  have bel4 := b_then bel3 hb4
  have hl4 := fun hp => (hl3 hp).later hb4
  clear hck hb4 cR3 fR3 cF3 cH3 cR2 fR2 cH2 hR3 hF3 hH3 hR2 hH2 bel2 bel3 hl2 hl3
  clear hl4
  go_wp2_with fail
  refine bodyPost_ret (v := .tuple #[.agg #[.int .i64 0, .int .i64 0], .int .i64 8]) (results_c1 Try.results19 _ _ w.heap.size #[.int .i64 0, .int .i64 0] _ rfl (by repeat first | (with_reducible exact hR4.set2 _ _) | (with_reducible apply Blk.alloc) | (with_reducible apply Blk.drew)) Try.underlying29 rfl (by kernel_rfl)) rfl ⟨rfl, ?_⟩
  repeat first | (with_reducible exact bel4) | (with_reducible apply Below.drew) | (with_reducible apply b_set) | (with_reducible apply b_alloc)
set_option maxRecDepth 100000 in
theorem rfde_eq {S k y c l q : Int} (A : Option Addr) (n cap : Nat) (M : List Int) (w : World) (h : 0 < n → RB w A M) (hn : M.length = n) (hB : BB M) (hl : n ≤ cap) (hc : cap ≤ maxLen)
    (hd : ∀ w1 : World, Below w.heap.size w w1 → Calls Try.prog 39 #[.slice A n cap] w1 fun e w' => e = .returned (.tuple #[.agg #[.int .u32 S, .int .i64 k, .int .i64 y, .int .i64 c, .int .i64 l], .int .i64 q]) ∧ Below w1.heap.size w1 w') (hq : q = 0) (hk : k = 3) (hf : FOk c l) (hn16 : 16 ≤ n) (heq : ((csI ((M.take 16).drop 4)) != S) = false) :
    Calls Try.prog 19 #[.slice A n cap] w fun e w' => e = .returned (.tuple #[.agg #[.int .i64 c, .int .i64 l], .int .i64 0]) ∧ Below w.heap.size w w' := by
  subst hq hk
  have hck := fun w => rfchk_yes hf w
  clear hf
  go_enter Try.func19, Try.ntmps19
  go_wp2_with fail
  refine (hd _ (b_alloc (Below.refl _ _) _)).mono ?_
  rintro e w1 ⟨rfl, hb1⟩
  have hR1 := (Blk.new w 29 #[.int .i64 0, .int .i64 0]).below hb1 (Blk.new w _ _).lt
  have bel1 := b_then (b_alloc (Below.refl _ w) (.cells #[.int .i64 0, .int .i64 0] 29)) hb1
  have hl1 : 0 < n → RB w1 A M := fun hp => ((h hp).later (b_alloc (Below.refl _ _) _)).later hb1
  have hH2 := Blk.new w1 70 #[.int .u32 S, .int .i64 3, .int .i64 y, .int .i64 c, .int .i64 l]
  have cH2 := hH2.cell
  have hR2 := hR1.alloc (.cells #[.int .u32 S, .int .i64 3, .int .i64 y, .int .i64 c, .int .i64 l] 70)
  have cR2 := hR2.cell
  have fR2 := hR2.frozen
  have bel2 := b_alloc bel1 (.cells #[.int .u32 S, .int .i64 3, .int .i64 y, .int .i64 c, .int .i64 l] 70)
  have hl2 := fun hp => (hl1 hp).later (b_alloc (Below.refl _ w1) (.cells #[.int .u32 S, .int .i64 3, .int .i64 y, .int .i64 c, .int .i64 l] 70))
  have hF3 := Blk.new (w1.alloc (.cells #[.int .u32 S, .int .i64 3, .int .i64 y, .int .i64 c, .int .i64 l] 70)) 29 #[.int .i64 c, .int .i64 l]
  rw [World.size_alloc] at hF3
  have cF3 := hF3.cell
  have hH3 := hH2.alloc (.cells #[.int .i64 c, .int .i64 l] 29)
  have cH3 := hH3.cell
  have hR3 := hR2.alloc (.cells #[.int .i64 c, .int .i64 l] 29)
  have cR3 := hR3.cell
  have fR3 := hR3.frozen
  have bel3 := b_alloc bel2 (.cells #[.int .i64 c, .int .i64 l] 29)
  have hl3 := fun hp => (hl2 hp).later (b_alloc (Below.refl _ _) (.cells #[.int .i64 c, .int .i64 l] 29))
  clear hd h hb1 bel1 hl1 hR1
  go_wp2_with fail
  refine (hck _).mono ?_
  rintro e w4 ⟨rfl, hb4⟩
  have hR4 := hR3.below hb4 hR3.lt
  have cR4 := hR4.cell
  have fR4 := hR4.frozen
  have hF4 := hF3.below hb4 hF3.lt
  have cF4 := hF4.cell
  have hH4 := hH3.below hb4 hH3.lt
  have cH4 := hH4.cell
  have bel4 := b_then bel3 hb4
  have hl4 := fun hp => (hl3 hp).later hb4
  clear hck hb4 cR3 fR3 cF3 cH3 cR2 fR2 cH2 hR3 hF3 hH3 hR2 hH2 bel2 bel3 hl2 hl3
  have hl4 := hl4 (by omega)
  obtain ⟨b, off, rfl, hbl⟩ := hl4.some_ (by omega)
  have hs4 := hl4.sub 4 16
  have hml : ((M.take 16).drop 4).length = 12 := by rw [List.length_drop, List.length_take]; omega
  have hsm := fun (w : World) (h : RB w (some ⟨b, off + 4, none⟩) ((M.take 16).drop 4)) => rsum_any (some ⟨b, off + 4, none⟩) 12 (cap - 4) ((M.take 16).drop 4) w h ((hB.take 16).drop 4) hml (by omega) (by omega)
  obtain ⟨T, hT⟩ : ∃ T, T = csI ((M.take 16).drop 4) := ⟨_, rfl⟩
  rw [← hT] at hsm heq
  have hsm1 := hsm _ hs4
  have hsm2 := hsm w4.drew (hs4.later (Below.drew (Below.refl _ _)))
  have y1 : (16 : Int) ≤ (cap : Int) := by omega
  have y2 : ¬ cap = 4 := by omega
  clear hsm hT hml hs4 hl4 hB
  go_wp2_with fail
  go_region_with (first | (go_at_call 37; first | ((with_reducible refine hsm2.mono ?_); rintro e w' ⟨rfl, rfl⟩) | ((with_reducible refine hsm1.mono ?_); rintro e w' ⟨rfl, rfl⟩)))
  all_goals
    go_wp2_with fail
    refine bodyPost_ret (v := .tuple #[.agg #[.int .i64 c, .int .i64 l], .int .i64 0]) (results_c1 Try.results19 _ _ w.heap.size #[.int .i64 c, .int .i64 l] _ rfl (by repeat first | (with_reducible exact hR4.set2 _ _) | (with_reducible apply Blk.alloc) | (with_reducible apply Blk.drew) | (with_reducible exact (hR4.drew).set2 _ _)) Try.underlying29 rfl (by kernel_rfl)) rfl ⟨rfl, ?_⟩
    repeat first | (with_reducible exact bel4) | (with_reducible apply Below.drew) | (with_reducible apply b_set) | (with_reducible apply b_alloc)
set_option maxRecDepth 100000 in
theorem rfde_ne {S k y c l q : Int} (A : Option Addr) (n cap : Nat) (M : List Int) (w : World) (h : 0 < n → RB w A M) (hn : M.length = n) (hB : BB M) (hl : n ≤ cap) (hc : cap ≤ maxLen)
    (hd : ∀ w1 : World, Below w.heap.size w w1 → Calls Try.prog 39 #[.slice A n cap] w1 fun e w' => e = .returned (.tuple #[.agg #[.int .u32 S, .int .i64 k, .int .i64 y, .int .i64 c, .int .i64 l], .int .i64 q]) ∧ Below w1.heap.size w1 w') (hq : q = 0) (hk : k = 3) (hf : FOk c l) (hn16 : 16 ≤ n) (heq : ((csI ((M.take 16).drop 4)) != S) = true) :
    Calls Try.prog 19 #[.slice A n cap] w fun e w' => e = .returned (.tuple #[.agg #[.int .i64 0, .int .i64 0], .int .i64 15]) ∧ Below w.heap.size w w' := by
  subst hq hk
  have hck := fun w => rfchk_yes hf w
  clear hf
  go_enter Try.func19, Try.ntmps19
  go_wp2_with fail
  refine (hd _ (b_alloc (Below.refl _ _) _)).mono ?_
  rintro e w1 ⟨rfl, hb1⟩
  have hR1 := (Blk.new w 29 #[.int .i64 0, .int .i64 0]).below hb1 (Blk.new w _ _).lt
  have bel1 := b_then (b_alloc (Below.refl _ w) (.cells #[.int .i64 0, .int .i64 0] 29)) hb1
  have hl1 : 0 < n → RB w1 A M := fun hp => ((h hp).later (b_alloc (Below.refl _ _) _)).later hb1
  have hH2 := Blk.new w1 70 #[.int .u32 S, .int .i64 3, .int .i64 y, .int .i64 c, .int .i64 l]
  have cH2 := hH2.cell
  have hR2 := hR1.alloc (.cells #[.int .u32 S, .int .i64 3, .int .i64 y, .int .i64 c, .int .i64 l] 70)
  have cR2 := hR2.cell
  have fR2 := hR2.frozen
  have bel2 := b_alloc bel1 (.cells #[.int .u32 S, .int .i64 3, .int .i64 y, .int .i64 c, .int .i64 l] 70)
  have hl2 := fun hp => (hl1 hp).later (b_alloc (Below.refl _ w1) (.cells #[.int .u32 S, .int .i64 3, .int .i64 y, .int .i64 c, .int .i64 l] 70))
  have hF3 := Blk.new (w1.alloc (.cells #[.int .u32 S, .int .i64 3, .int .i64 y, .int .i64 c, .int .i64 l] 70)) 29 #[.int .i64 c, .int .i64 l]
  rw [World.size_alloc] at hF3
  have cF3 := hF3.cell
  have hH3 := hH2.alloc (.cells #[.int .i64 c, .int .i64 l] 29)
  have cH3 := hH3.cell
  have hR3 := hR2.alloc (.cells #[.int .i64 c, .int .i64 l] 29)
  have cR3 := hR3.cell
  have fR3 := hR3.frozen
  have bel3 := b_alloc bel2 (.cells #[.int .i64 c, .int .i64 l] 29)
  have hl3 := fun hp => (hl2 hp).later (b_alloc (Below.refl _ _) (.cells #[.int .i64 c, .int .i64 l] 29))
  clear hd h hb1 bel1 hl1 hR1
  go_wp2_with fail
  refine (hck _).mono ?_
  rintro e w4 ⟨rfl, hb4⟩
  have hR4 := hR3.below hb4 hR3.lt
  have cR4 := hR4.cell
  have fR4 := hR4.frozen
  have hF4 := hF3.below hb4 hF3.lt
  have cF4 := hF4.cell
  have hH4 := hH3.below hb4 hH3.lt
  have cH4 := hH4.cell
  have bel4 := b_then bel3 hb4
  have hl4 := fun hp => (hl3 hp).later hb4
  clear hck hb4 cR3 fR3 cF3 cH3 cR2 fR2 cH2 hR3 hF3 hH3 hR2 hH2 bel2 bel3 hl2 hl3
  have hl4 := hl4 (by omega)
  obtain ⟨b, off, rfl, hbl⟩ := hl4.some_ (by omega)
  have hs4 := hl4.sub 4 16
  have hml : ((M.take 16).drop 4).length = 12 := by rw [List.length_drop, List.length_take]; omega
  have hsm := fun (w : World) (h : RB w (some ⟨b, off + 4, none⟩) ((M.take 16).drop 4)) => rsum_any (some ⟨b, off + 4, none⟩) 12 (cap - 4) ((M.take 16).drop 4) w h ((hB.take 16).drop 4) hml (by omega) (by omega)
  obtain ⟨T, hT⟩ : ∃ T, T = csI ((M.take 16).drop 4) := ⟨_, rfl⟩
  rw [← hT] at hsm heq
  have hsm1 := hsm _ hs4
  have hsm2 := hsm w4.drew (hs4.later (Below.drew (Below.refl _ _)))
  have y1 : (16 : Int) ≤ (cap : Int) := by omega
  have y2 : ¬ cap = 4 := by omega
  clear hsm hT hml hs4 hl4 hB
  go_wp2_with fail
  go_region_with (first | (go_at_call 37; first | ((with_reducible refine hsm2.mono ?_); rintro e w' ⟨rfl, rfl⟩) | ((with_reducible refine hsm1.mono ?_); rintro e w' ⟨rfl, rfl⟩)))
  all_goals
    go_wp2_with fail
    refine bodyPost_ret (v := .tuple #[.agg #[.int .i64 0, .int .i64 0], .int .i64 15]) (results_c1 Try.results19 _ _ w.heap.size #[.int .i64 0, .int .i64 0] _ rfl (by repeat first | (with_reducible exact hR4.set2 _ _) | (with_reducible apply Blk.alloc) | (with_reducible apply Blk.drew) | (with_reducible exact (hR4.drew).set2 _ _)) Try.underlying29 rfl (by kernel_rfl)) rfl ⟨rfl, ?_⟩
    repeat first | (with_reducible exact bel4) | (with_reducible apply Below.drew) | (with_reducible apply b_set) | (with_reducible apply b_alloc)

theorem rfde_any (A : Option Addr) (n cap : Nat) (M : List Int) (w : World) (h : 0 < n → RB w A M) (hn : M.length = n) (hB : BB M) (hl : n ≤ cap) (hc : cap ≤ maxLen) :
    Calls Try.prog 19 #[.slice A n cap] w fun e w' => e = .returned (.tuple #[.agg #[.int .i64 (fdec M).1, .int .i64 (fdec M).2.1], .int .i64 (fdec M).2.2]) ∧ Below w.heap.size w w' := by
  have hb := fun (w1 : World) (hw : Below w.heap.size w w1) (hp : 0 < n) => Byts.of_rb ((h hp).later hw) hn hB hl hc
  unfold fdec
  simp only []
  by_cases g1 : n < 16
  · rw [if_pos (by omega)]
    exact rfde_err A n cap M w h hn hB hl hc (fun w1 _ => rdec_torn A n cap w1 g1) rfl
  · rw [if_neg (by omega)]
    by_cases g2 : DOk (fun i => M.getD i 0)
    · have hd := fun (w1 : World) (hw : Below w.heap.size w w1) => rdec_yes A n cap _ w1 (by omega) (hb w1 hw (by omega)) g2
      by_cases g3 : M.getD 4 0 = 3
      · by_cases g4 : FOk (dV fun i => M.getD i 0) (dQ fun i => M.getD i 0)
        · rw [if_neg (not_not_intro ⟨g2, g3, g4⟩)]
          have hdr := fdrop (by omega) hB g2 g3
          by_cases g5 : csI ((M.take 16).drop 4) = dS (fun i => M.getD i 0)
          · rw [if_neg (not_not_intro g5)]
            exact rfde_eq A n cap M w h hn hB hl hc hd rfl g3 g4 (by omega) (by rw [bne_eq_false_iff_eq]; exact g5)
          · rw [if_pos g5]
            exact rfde_ne A n cap M w h hn hB hl hc hd rfl g3 g4 (by omega) (by rw [bne_iff_ne]; exact g5)
        · rw [if_pos (fun h => g4 h.2.2)]
          exact rfde_bad A n cap M w h hn hB hl hc hd rfl g3 g4
      · rw [if_pos (fun h => g3 h.2.1)]
        exact rfde_kind A n cap M w h hn hB hl hc hd rfl (by rw [bne_iff_ne]; exact g3)
    · rw [if_pos (fun h => g2 h.1)]
      exact rfde_err A n cap M w h hn hB hl hc (fun w1 hw => rdec_no A n cap _ w1 (by omega) (hb w1 hw (by omega)) g2) rfl
end Go.Proofs.Ytiobnhdcapfhgaa
