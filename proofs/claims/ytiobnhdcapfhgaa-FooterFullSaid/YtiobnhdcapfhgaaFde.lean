/-
  Decoding of footers: the program.
-/
import Derived.Test.YtiobnhdcapfhgaaFen
import Derived.Test.YtiobnhdcapfhgaaDed
import Derived.Test.YtiobnhdcapfhgaaAeq
import Derived.Test.YtiobnhdcapfhgaaRde
import Derived.Test.YtiobnhdcapfhgaaRcr
import Derived.Test.YtiobnhdcapfhgaaRes
namespace Go.Proofs.Ytiobnhdcapfhgaa
open Go.RowKit
set_option linter.unusedVariables false
set_option linter.unusedSimpArgs false
theorem RB.cut_ {w : World} {A : Option Addr} {M : List Int} (h : RB w A M) (k : Nat) : RB w A (M.take k) := by
  rcases h with ⟨h1, h2⟩ | ⟨b, off, rfl, hc⟩
  · exact .inl ⟨h1, by rw [h2]; simp⟩
  · refine .inr ⟨b, off, rfl, fun i hi => ?_⟩
    rw [List.length_take] at hi
    rw [hc i (by omega), getD_take (by omega)]
theorem fcmp {M : List Int} (h : 16 ≤ M.length) (hB : BB M) (hd : DOk (fun i => M.getD i 0)) (h4 : M.getD 4 0 = 3) (h5 : csI ((M.take 16).drop 4) = dS (fun i => M.getD i 0)) : fenc (dV fun i => M.getD i 0) (dQ fun i => M.getD i 0) = M.take 16 := by
  rw [fdrop h hB hd h4] at h5
  rw [ftake h hB hd h4, fenc_hb, h5]
theorem fcmp_inv {M : List Int} (h : 16 ≤ M.length) (hB : BB M) (hd : DOk (fun i => M.getD i 0)) (h4 : M.getD 4 0 = 3) (h5 : fenc (dV fun i => M.getD i 0) (dQ fun i => M.getD i 0) = M.take 16) : csI ((M.take 16).drop 4) = dS (fun i => M.getD i 0) := by
  have hS := csI_bd (hrest_bb 3 0 (dV fun i => M.getD i 0) (dQ fun i => M.getD i 0))
  have e1 := hb_S (L := fun i => M.getD i 0) (sum := csI (hrest 3 0 (dV fun i => M.getD i 0) (dQ fun i => M.getD i 0))) (kind := 3) (key := 0) (val := dV fun i => M.getD i 0) (seq := dQ fun i => M.getD i 0) hS.1 hS.2 (fun i hi => by
    have h6 := congrArg (fun l => List.getD l i 0) h5
    simp only [getD_take hi] at h6
    exact h6.symm)
  rw [fdrop h hB hd h4, e1]
theorem fde_err {S k y c l q : Int} (A : Option Addr) (n cap : Nat) (M : List Int) (w : World) (h : 0 < n → RB w A M) (hn : M.length = n) (hB : BB M) (hl : n ≤ cap) (hc : cap ≤ maxLen)
    (hd : ∀ w1 : World, Below w.heap.size w w1 → Calls Try.prog 38 #[.slice A n cap] w1 fun e w' => e = .returned (.tuple #[.agg #[.int .u32 S, .int .i64 k, .int .i64 y, .int .i64 c, .int .i64 l], .int .i64 q]) ∧ Below w1.heap.size w1 w') (hq : (q != 0) = true) :
    Calls Try.prog 18 #[.slice A n cap] w fun e w' => e = .returned (.tuple #[.agg #[.int .i64 0, .int .i64 0], .int .i64 q]) ∧ Below w.heap.size w w' := by
  go_enter Try.func18, Try.ntmps18
  go_wp2_with fail
  refine (hd _ (b_alloc (Below.refl _ _) _)).mono ?_
  rintro e w1 ⟨rfl, hb1⟩
  have hR1 := (Blk.new w 23 #[.int .i64 0, .int .i64 0]).below hb1 (Blk.new w _ _).lt
  have bel1 := b_then (b_alloc (Below.refl _ w) (.cells #[.int .i64 0, .int .i64 0] 23)) hb1
  have hl1 : 0 < n → RB w1 A M := fun hp => ((h hp).later (b_alloc (Below.refl _ _) _)).later hb1
  have hH2 := Blk.new w1 67 #[.int .u32 S, .int .i64 k, .int .i64 y, .int .i64 c, .int .i64 l]
  have cH2 := hH2.cell
  have hR2 := hR1.alloc (.cells #[.int .u32 S, .int .i64 k, .int .i64 y, .int .i64 c, .int .i64 l] 67)
  have cR2 := hR2.cell
  have fR2 := hR2.frozen
  have bel2 := b_alloc bel1 (.cells #[.int .u32 S, .int .i64 k, .int .i64 y, .int .i64 c, .int .i64 l] 67)
  have hl2 := fun hp => (hl1 hp).later (b_alloc (Below.refl _ w1) (.cells #[.int .u32 S, .int .i64 k, .int .i64 y, .int .i64 c, .int .i64 l] 67))
  have hF3 := Blk.new (w1.alloc (.cells #[.int .u32 S, .int .i64 k, .int .i64 y, .int .i64 c, .int .i64 l] 67)) 23 #[.int .i64 c, .int .i64 l]
  rw [World.size_alloc] at hF3
  have cF3 := hF3.cell
  have hH3 := hH2.alloc (.cells #[.int .i64 c, .int .i64 l] 23)
  have cH3 := hH3.cell
  have hR3 := hR2.alloc (.cells #[.int .i64 c, .int .i64 l] 23)
  have cR3 := hR3.cell
  have fR3 := hR3.frozen
  have bel3 := b_alloc bel2 (.cells #[.int .i64 c, .int .i64 l] 23)
  have hl3 := fun hp => (hl2 hp).later (b_alloc (Below.refl _ _) (.cells #[.int .i64 c, .int .i64 l] 23))
  clear hd h hb1 bel1 hl1 hR1
  clear hl2 hl3
  go_wp2_with fail
  refine bodyPost_ret (v := .tuple #[.agg #[.int .i64 0, .int .i64 0], .int .i64 q]) (results_c1 Try.results18 _ _ w.heap.size #[.int .i64 0, .int .i64 0] _ rfl (by repeat first | (with_reducible exact hR3.set2 _ _) | (with_reducible apply Blk.alloc) | (with_reducible apply Blk.drew)) Try.underlying23 rfl (by kernel_rfl)) rfl ⟨rfl, ?_⟩
  repeat first | (with_reducible exact bel3) | (with_reducible apply Below.drew) | (with_reducible apply b_set) | (with_reducible apply b_alloc)
theorem fde_kind {S k y c l q : Int} (A : Option Addr) (n cap : Nat) (M : List Int) (w : World) (h : 0 < n → RB w A M) (hn : M.length = n) (hB : BB M) (hl : n ≤ cap) (hc : cap ≤ maxLen)
    (hd : ∀ w1 : World, Below w.heap.size w w1 → Calls Try.prog 38 #[.slice A n cap] w1 fun e w' => e = .returned (.tuple #[.agg #[.int .u32 S, .int .i64 k, .int .i64 y, .int .i64 c, .int .i64 l], .int .i64 q]) ∧ Below w1.heap.size w1 w') (hq : q = 0) (hk : (k != 3) = true) :
    Calls Try.prog 18 #[.slice A n cap] w fun e w' => e = .returned (.tuple #[.agg #[.int .i64 0, .int .i64 0], .int .i64 8]) ∧ Below w.heap.size w w' := by
  subst hq
  go_enter Try.func18, Try.ntmps18
  go_wp2_with fail
  refine (hd _ (b_alloc (Below.refl _ _) _)).mono ?_
  rintro e w1 ⟨rfl, hb1⟩
  have hR1 := (Blk.new w 23 #[.int .i64 0, .int .i64 0]).below hb1 (Blk.new w _ _).lt
  have bel1 := b_then (b_alloc (Below.refl _ w) (.cells #[.int .i64 0, .int .i64 0] 23)) hb1
  have hl1 : 0 < n → RB w1 A M := fun hp => ((h hp).later (b_alloc (Below.refl _ _) _)).later hb1
  have hH2 := Blk.new w1 67 #[.int .u32 S, .int .i64 k, .int .i64 y, .int .i64 c, .int .i64 l]
  have cH2 := hH2.cell
  have hR2 := hR1.alloc (.cells #[.int .u32 S, .int .i64 k, .int .i64 y, .int .i64 c, .int .i64 l] 67)
  have cR2 := hR2.cell
  have fR2 := hR2.frozen
  have bel2 := b_alloc bel1 (.cells #[.int .u32 S, .int .i64 k, .int .i64 y, .int .i64 c, .int .i64 l] 67)
  have hl2 := fun hp => (hl1 hp).later (b_alloc (Below.refl _ w1) (.cells #[.int .u32 S, .int .i64 k, .int .i64 y, .int .i64 c, .int .i64 l] 67))
  have hF3 := Blk.new (w1.alloc (.cells #[.int .u32 S, .int .i64 k, .int .i64 y, .int .i64 c, .int .i64 l] 67)) 23 #[.int .i64 c, .int .i64 l]
  rw [World.size_alloc] at hF3
  have cF3 := hF3.cell
  have hH3 := hH2.alloc (.cells #[.int .i64 c, .int .i64 l] 23)
  have cH3 := hH3.cell
  have hR3 := hR2.alloc (.cells #[.int .i64 c, .int .i64 l] 23)
  have cR3 := hR3.cell
  have fR3 := hR3.frozen
  have bel3 := b_alloc bel2 (.cells #[.int .i64 c, .int .i64 l] 23)
  have hl3 := fun hp => (hl2 hp).later (b_alloc (Below.refl _ _) (.cells #[.int .i64 c, .int .i64 l] 23))
  clear hd h hb1 bel1 hl1 hR1
  clear hl2 hl3
  go_wp2_with fail
  refine bodyPost_ret (v := .tuple #[.agg #[.int .i64 0, .int .i64 0], .int .i64 8]) (results_c1 Try.results18 _ _ w.heap.size #[.int .i64 0, .int .i64 0] _ rfl (by repeat first | (with_reducible exact hR3.set2 _ _) | (with_reducible apply Blk.alloc) | (with_reducible apply Blk.drew)) Try.underlying23 rfl (by kernel_rfl)) rfl ⟨rfl, ?_⟩
  repeat first | (with_reducible exact bel3) | (with_reducible apply Below.drew) | (with_reducible apply b_set) | (with_reducible apply b_alloc)
theorem fde_bad {S k y c l q : Int} (A : Option Addr) (n cap : Nat) (M : List Int) (w : World) (h : 0 < n → RB w A M) (hn : M.length = n) (hB : BB M) (hl : n ≤ cap) (hc : cap ≤ maxLen)
    (hd : ∀ w1 : World, Below w.heap.size w w1 → Calls Try.prog 38 #[.slice A n cap] w1 fun e w' => e = .returned (.tuple #[.agg #[.int .u32 S, .int .i64 k, .int .i64 y, .int .i64 c, .int .i64 l], .int .i64 q]) ∧ Below w1.heap.size w1 w') (hq : q = 0) (hk : k = 3) (hf : ¬ FOk c l) :
    Calls Try.prog 18 #[.slice A n cap] w fun e w' => e = .returned (.tuple #[.agg #[.int .i64 0, .int .i64 0], .int .i64 8]) ∧ Below w.heap.size w w' := by
  subst hq hk
  have hck := fun w => fchk_no hf w
  clear hf
  go_enter Try.func18, Try.ntmps18
  go_wp2_with fail
  refine (hd _ (b_alloc (Below.refl _ _) _)).mono ?_
  rintro e w1 ⟨rfl, hb1⟩
  have hR1 := (Blk.new w 23 #[.int .i64 0, .int .i64 0]).below hb1 (Blk.new w _ _).lt
  have bel1 := b_then (b_alloc (Below.refl _ w) (.cells #[.int .i64 0, .int .i64 0] 23)) hb1
  have hl1 : 0 < n → RB w1 A M := fun hp => ((h hp).later (b_alloc (Below.refl _ _) _)).later hb1
  have hH2 := Blk.new w1 67 #[.int .u32 S, .int .i64 3, .int .i64 y, .int .i64 c, .int .i64 l]
  have cH2 := hH2.cell
  have hR2 := hR1.alloc (.cells #[.int .u32 S, .int .i64 3, .int .i64 y, .int .i64 c, .int .i64 l] 67)
  have cR2 := hR2.cell
  have fR2 := hR2.frozen
  have bel2 := b_alloc bel1 (.cells #[.int .u32 S, .int .i64 3, .int .i64 y, .int .i64 c, .int .i64 l] 67)
  have hl2 := fun hp => (hl1 hp).later (b_alloc (Below.refl _ w1) (.cells #[.int .u32 S, .int .i64 3, .int .i64 y, .int .i64 c, .int .i64 l] 67))
  have hF3 := Blk.new (w1.alloc (.cells #[.int .u32 S, .int .i64 3, .int .i64 y, .int .i64 c, .int .i64 l] 67)) 23 #[.int .i64 c, .int .i64 l]
  rw [World.size_alloc] at hF3
  have cF3 := hF3.cell
  have hH3 := hH2.alloc (.cells #[.int .i64 c, .int .i64 l] 23)
  have cH3 := hH3.cell
  have hR3 := hR2.alloc (.cells #[.int .i64 c, .int .i64 l] 23)
  have cR3 := hR3.cell
  have fR3 := hR3.frozen
  have bel3 := b_alloc bel2 (.cells #[.int .i64 c, .int .i64 l] 23)
  have hl3 := fun hp => (hl2 hp).later (b_alloc (Below.refl _ _) (.cells #[.int .i64 c, .int .i64 l] 23))
  clear hd h hb1 bel1 hl1 hR1
  go_wp2_with fail
  refine (hck _).mono ?_
  rintro e w4 ⟨rfl, hb4⟩
  have hR4 := hR3.below hb4 hR3.lt
  have cR4 := hR4.cell
  have fR4 := hR4.frozen
  have hF4 := hF3.below hb4 hF3.lt
  have cF4 := hF4.cell
  have hH4 := hH3.below hb4 hH3.lt
  have cH4 := hH4.cell
  have bel4 := b_then bel3 hb4
  have hl4 := fun hp => (hl3 hp).later hb4
  clear hck hb4 cR3 fR3 cF3 cH3 cR2 fR2 cH2 hR3 hF3 hH3 hR2 hH2 bel2 bel3 hl2 hl3
  clear hl4
  go_wp2_with fail
  refine bodyPost_ret (v := .tuple #[.agg #[.int .i64 0, .int .i64 0], .int .i64 8]) (results_c1 Try.results18 _ _ w.heap.size #[.int .i64 0, .int .i64 0] _ rfl (by repeat first | (with_reducible exact hR4.set2 _ _) | (with_reducible apply Blk.alloc) | (with_reducible apply Blk.drew)) Try.underlying23 rfl (by kernel_rfl)) rfl ⟨rfl, ?_⟩
  repeat first | (with_reducible exact bel4) | (with_reducible apply Below.drew) | (with_reducible apply b_set) | (with_reducible apply b_alloc)
set_option maxRecDepth 100000 in
theorem fde_eq {S k y c l q : Int} (A : Option Addr) (n cap : Nat) (M : List Int) (w : World) (h : 0 < n → RB w A M) (hn : M.length = n) (hB : BB M) (hl : n ≤ cap) (hc : cap ≤ maxLen)
    (hd : ∀ w1 : World, Below w.heap.size w w1 → Calls Try.prog 38 #[.slice A n cap] w1 fun e w' => e = .returned (.tuple #[.agg #[.int .u32 S, .int .i64 k, .int .i64 y, .int .i64 c, .int .i64 l], .int .i64 q]) ∧ Below w1.heap.size w1 w') (hq : q = 0) (hk : k = 3) (hf : FOk c l) (hn16 : 16 ≤ n) (heq : fenc c l = M.take 16) :
    Calls Try.prog 18 #[.slice A n cap] w fun e w' => e = .returned (.tuple #[.agg #[.int .i64 c, .int .i64 l], .int .i64 0]) ∧ Below w.heap.size w w' := by
  subst hq hk
  have hck := fun w => fchk_yes hf w
  have hen := fun w => fen_yes hf w
  clear hf
  go_enter Try.func18, Try.ntmps18
  go_wp2_with fail
  refine (hd _ (b_alloc (Below.refl _ _) _)).mono ?_
  rintro e w1 ⟨rfl, hb1⟩
  have hR1 := (Blk.new w 23 #[.int .i64 0, .int .i64 0]).below hb1 (Blk.new w _ _).lt
  have bel1 := b_then (b_alloc (Below.refl _ w) (.cells #[.int .i64 0, .int .i64 0] 23)) hb1
  have hl1 : 0 < n → RB w1 A M := fun hp => ((h hp).later (b_alloc (Below.refl _ _) _)).later hb1
  have hH2 := Blk.new w1 67 #[.int .u32 S, .int .i64 3, .int .i64 y, .int .i64 c, .int .i64 l]
  have cH2 := hH2.cell
  have hR2 := hR1.alloc (.cells #[.int .u32 S, .int .i64 3, .int .i64 y, .int .i64 c, .int .i64 l] 67)
  have cR2 := hR2.cell
  have fR2 := hR2.frozen
  have bel2 := b_alloc bel1 (.cells #[.int .u32 S, .int .i64 3, .int .i64 y, .int .i64 c, .int .i64 l] 67)
  have hl2 := fun hp => (hl1 hp).later (b_alloc (Below.refl _ w1) (.cells #[.int .u32 S, .int .i64 3, .int .i64 y, .int .i64 c, .int .i64 l] 67))
  have hF3 := Blk.new (w1.alloc (.cells #[.int .u32 S, .int .i64 3, .int .i64 y, .int .i64 c, .int .i64 l] 67)) 23 #[.int .i64 c, .int .i64 l]
  rw [World.size_alloc] at hF3
  have cF3 := hF3.cell
  have hH3 := hH2.alloc (.cells #[.int .i64 c, .int .i64 l] 23)
  have cH3 := hH3.cell
  have hR3 := hR2.alloc (.cells #[.int .i64 c, .int .i64 l] 23)
  have cR3 := hR3.cell
  have fR3 := hR3.frozen
  have bel3 := b_alloc bel2 (.cells #[.int .i64 c, .int .i64 l] 23)
  have hl3 := fun hp => (hl2 hp).later (b_alloc (Below.refl _ _) (.cells #[.int .i64 c, .int .i64 l] 23))
  clear hd h hb1 bel1 hl1 hR1
  go_wp2_with fail
  refine (hck _).mono ?_
  rintro e w4 ⟨rfl, hb4⟩
  have hR4 := hR3.below hb4 hR3.lt
  have cR4 := hR4.cell
  have fR4 := hR4.frozen
  have hF4 := hF3.below hb4 hF3.lt
  have cF4 := hF4.cell
  have hH4 := hH3.below hb4 hH3.lt
  have cH4 := hH4.cell
  have bel4 := b_then bel3 hb4
  have hl4 := fun hp => (hl3 hp).later hb4
  clear hck hb4 cR3 fR3 cF3 cH3 cR2 fR2 cH2 hR3 hF3 hH3 hR2 hH2 bel2 bel3 hl2 hl3
  go_wp2_with fail
  refine (hen _).mono ?_
  rintro e w5 ⟨⟨g, cap5, rfl, hle5, hcm5, hg5, hI5⟩, hb5⟩
  have hR5 := hR4.below hb5 hR4.lt
  have cR5 := hR5.cell
  have fR5 := hR5.frozen
  have hF5 := hF4.below hb5 hF4.lt
  have cF5 := hF5.cell
  have bel5 := b_then bel4 hb5
  have hl5 := ((hl4 (by omega)).later hb5).cut_ 16
  have hM16 : (M.take 16).length = 16 := by rw [List.length_take]; omega
  obtain ⟨b, off, rfl, hbl⟩ := hl5.some_ (by omega)
  have hr5 := hI5.rb
  have a1 := fun w => arr_at (some ⟨g, 0, none⟩) 16 cap5 (Nat.le_refl _) w
  have a2 := fun w => arr_at (some ⟨b, off, none⟩) 16 cap (Nat.le_refl _) w
  have a5 := fun w => arr_eq (L := fenc c l) (M := M.take 16) (fenc_length c l) hM16 (fenc_bb c l) (hB.take 16) w
  have a6 := fun w => arr_eq0 (L := fenc c l) (M := M.take 16) (fenc_length c l) hM16 (fenc_bb c l) (hB.take 16) w
  have heq' : decide (fenc c l = M.take 16) = true := decide_eq_true heq
  have heq2 : decide (fenc c l ≠ M.take 16) = false := decide_eq_false (not_not_intro heq)
  rw [heq2] at a5
  rw [heq'] at a6
  clear heq heq' heq2
  obtain ⟨x0, x1, x2, x3, x4, x5, x6, x7, x8, x9, x10, x11, x12, x13, x14, x15, hX1⟩ := sixteen (fenc_length c l)
  obtain ⟨y0, y1, y2, y3, y4, y5, y6, y7, y8, y9, y10, y11, y12, y13, y14, y15, hX2⟩ := sixteen hM16
  rw [hX1] at a5 a6 hr5
  rw [hX2] at a5 a6 hl5
  have a5 : ∀ w, (binOp .neq 74 (.agg #[.int .u8 x0, .int .u8 x1, .int .u8 x2, .int .u8 x3, .int .u8 x4, .int .u8 x5, .int .u8 x6, .int .u8 x7, .int .u8 x8, .int .u8 x9, .int .u8 x10, .int .u8 x11, .int .u8 x12, .int .u8 x13, .int .u8 x14, .int .u8 x15]) (.agg #[.int .u8 y0, .int .u8 y1, .int .u8 y2, .int .u8 y3, .int .u8 y4, .int .u8 y5, .int .u8 y6, .int .u8 y7, .int .u8 y8, .int .u8 y9, .int .u8 y10, .int .u8 y11, .int .u8 y12, .int .u8 y13, .int .u8 y14, .int .u8 y15])).run Try.prog w = .ok (.bool false) w := a5
  have a6 : ∀ w, (Op.equalIn 10000 74 (.agg #[.int .u8 x0, .int .u8 x1, .int .u8 x2, .int .u8 x3, .int .u8 x4, .int .u8 x5, .int .u8 x6, .int .u8 x7, .int .u8 x8, .int .u8 x9, .int .u8 x10, .int .u8 x11, .int .u8 x12, .int .u8 x13, .int .u8 x14, .int .u8 x15]) (.agg #[.int .u8 y0, .int .u8 y1, .int .u8 y2, .int .u8 y3, .int .u8 y4, .int .u8 y5, .int .u8 y6, .int .u8 y7, .int .u8 y8, .int .u8 y9, .int .u8 y10, .int .u8 y11, .int .u8 y12, .int .u8 y13, .int .u8 y14, .int .u8 y15])).run Try.prog w = .ok true w := a6
  have cx0 : w5.cell? ⟨g, 0, none⟩ = some (.int .u8 x0) := by have h := hr5.at_ 0 x0 rfl; rwa [Nat.zero_add] at h
  have cx1 : w5.cell? ⟨g, 1, none⟩ = some (.int .u8 x1) := by have h := hr5.at_ 1 x1 rfl; rwa [Nat.zero_add] at h
  have cx2 : w5.cell? ⟨g, 2, none⟩ = some (.int .u8 x2) := by have h := hr5.at_ 2 x2 rfl; rwa [Nat.zero_add] at h
  have cx3 : w5.cell? ⟨g, 3, none⟩ = some (.int .u8 x3) := by have h := hr5.at_ 3 x3 rfl; rwa [Nat.zero_add] at h
  have cx4 : w5.cell? ⟨g, 4, none⟩ = some (.int .u8 x4) := by have h := hr5.at_ 4 x4 rfl; rwa [Nat.zero_add] at h
  have cx5 : w5.cell? ⟨g, 5, none⟩ = some (.int .u8 x5) := by have h := hr5.at_ 5 x5 rfl; rwa [Nat.zero_add] at h
  have cx6 : w5.cell? ⟨g, 6, none⟩ = some (.int .u8 x6) := by have h := hr5.at_ 6 x6 rfl; rwa [Nat.zero_add] at h
  have cx7 : w5.cell? ⟨g, 7, none⟩ = some (.int .u8 x7) := by have h := hr5.at_ 7 x7 rfl; rwa [Nat.zero_add] at h
  have cx8 : w5.cell? ⟨g, 8, none⟩ = some (.int .u8 x8) := by have h := hr5.at_ 8 x8 rfl; rwa [Nat.zero_add] at h
  have cx9 : w5.cell? ⟨g, 9, none⟩ = some (.int .u8 x9) := by have h := hr5.at_ 9 x9 rfl; rwa [Nat.zero_add] at h
  have cx10 : w5.cell? ⟨g, 10, none⟩ = some (.int .u8 x10) := by have h := hr5.at_ 10 x10 rfl; rwa [Nat.zero_add] at h
  have cx11 : w5.cell? ⟨g, 11, none⟩ = some (.int .u8 x11) := by have h := hr5.at_ 11 x11 rfl; rwa [Nat.zero_add] at h
  have cx12 : w5.cell? ⟨g, 12, none⟩ = some (.int .u8 x12) := by have h := hr5.at_ 12 x12 rfl; rwa [Nat.zero_add] at h
  have cx13 : w5.cell? ⟨g, 13, none⟩ = some (.int .u8 x13) := by have h := hr5.at_ 13 x13 rfl; rwa [Nat.zero_add] at h
  have cx14 : w5.cell? ⟨g, 14, none⟩ = some (.int .u8 x14) := by have h := hr5.at_ 14 x14 rfl; rwa [Nat.zero_add] at h
  have cx15 : w5.cell? ⟨g, 15, none⟩ = some (.int .u8 x15) := by have h := hr5.at_ 15 x15 rfl; rwa [Nat.zero_add] at h
  have cy0 : w5.cell? ⟨b, off, none⟩ = some (.int .u8 y0) := hl5.at_ 0 y0 rfl
  have cy1 : w5.cell? ⟨b, off + 1, none⟩ = some (.int .u8 y1) := hl5.at_ 1 y1 rfl
  have cy2 : w5.cell? ⟨b, off + 2, none⟩ = some (.int .u8 y2) := hl5.at_ 2 y2 rfl
  have cy3 : w5.cell? ⟨b, off + 3, none⟩ = some (.int .u8 y3) := hl5.at_ 3 y3 rfl
  have cy4 : w5.cell? ⟨b, off + 4, none⟩ = some (.int .u8 y4) := hl5.at_ 4 y4 rfl
  have cy5 : w5.cell? ⟨b, off + 5, none⟩ = some (.int .u8 y5) := hl5.at_ 5 y5 rfl
  have cy6 : w5.cell? ⟨b, off + 6, none⟩ = some (.int .u8 y6) := hl5.at_ 6 y6 rfl
  have cy7 : w5.cell? ⟨b, off + 7, none⟩ = some (.int .u8 y7) := hl5.at_ 7 y7 rfl
  have cy8 : w5.cell? ⟨b, off + 8, none⟩ = some (.int .u8 y8) := hl5.at_ 8 y8 rfl
  have cy9 : w5.cell? ⟨b, off + 9, none⟩ = some (.int .u8 y9) := hl5.at_ 9 y9 rfl
  have cy10 : w5.cell? ⟨b, off + 10, none⟩ = some (.int .u8 y10) := hl5.at_ 10 y10 rfl
  have cy11 : w5.cell? ⟨b, off + 11, none⟩ = some (.int .u8 y11) := hl5.at_ 11 y11 rfl
  have cy12 : w5.cell? ⟨b, off + 12, none⟩ = some (.int .u8 y12) := hl5.at_ 12 y12 rfl
  have cy13 : w5.cell? ⟨b, off + 13, none⟩ = some (.int .u8 y13) := hl5.at_ 13 y13 rfl
  have cy14 : w5.cell? ⟨b, off + 14, none⟩ = some (.int .u8 y14) := hl5.at_ 14 y14 rfl
  have cy15 : w5.cell? ⟨b, off + 15, none⟩ = some (.int .u8 y15) := hl5.at_ 15 y15 rfl
  have y1 : (16 : Int) ≤ (cap : Int) := by omega
  clear hX1 hX2 hl5 hr5 hI5 hM16 hb5 hl4 cR4 fR4 cF4 cH4 hR4 hF4 hH4 bel4 hen hB
  go_wp2_with fail
  go_region
  go_wp2_with fail
  refine bodyPost_ret (v := .tuple #[.agg #[.int .i64 c, .int .i64 l], .int .i64 0]) (results_c1 Try.results18 _ _ w.heap.size #[.int .i64 c, .int .i64 l] _ rfl (by repeat first | (with_reducible exact hR5.set2 _ _) | (with_reducible apply Blk.alloc) | (with_reducible apply Blk.drew)) Try.underlying23 rfl (by kernel_rfl)) rfl ⟨rfl, ?_⟩
  repeat first | (with_reducible exact bel5) | (with_reducible apply Below.drew) | (with_reducible apply b_set) | (with_reducible apply b_alloc)
set_option maxRecDepth 100000 in
theorem fde_ne {S k y c l q : Int} (A : Option Addr) (n cap : Nat) (M : List Int) (w : World) (h : 0 < n → RB w A M) (hn : M.length = n) (hB : BB M) (hl : n ≤ cap) (hc : cap ≤ maxLen)
    (hd : ∀ w1 : World, Below w.heap.size w w1 → Calls Try.prog 38 #[.slice A n cap] w1 fun e w' => e = .returned (.tuple #[.agg #[.int .u32 S, .int .i64 k, .int .i64 y, .int .i64 c, .int .i64 l], .int .i64 q]) ∧ Below w1.heap.size w1 w') (hq : q = 0) (hk : k = 3) (hf : FOk c l) (hn16 : 16 ≤ n) (heq : fenc c l ≠ M.take 16) :
    Calls Try.prog 18 #[.slice A n cap] w fun e w' => e = .returned (.tuple #[.agg #[.int .i64 0, .int .i64 0], .int .i64 15]) ∧ Below w.heap.size w w' := by
  subst hq hk
  have hck := fun w => fchk_yes hf w
  have hen := fun w => fen_yes hf w
  clear hf
  go_enter Try.func18, Try.ntmps18
  go_wp2_with fail
  refine (hd _ (b_alloc (Below.refl _ _) _)).mono ?_
  rintro e w1 ⟨rfl, hb1⟩
  have hR1 := (Blk.new w 23 #[.int .i64 0, .int .i64 0]).below hb1 (Blk.new w _ _).lt
  have bel1 := b_then (b_alloc (Below.refl _ w) (.cells #[.int .i64 0, .int .i64 0] 23)) hb1
  have hl1 : 0 < n → RB w1 A M := fun hp => ((h hp).later (b_alloc (Below.refl _ _) _)).later hb1
  have hH2 := Blk.new w1 67 #[.int .u32 S, .int .i64 3, .int .i64 y, .int .i64 c, .int .i64 l]
  have cH2 := hH2.cell
  have hR2 := hR1.alloc (.cells #[.int .u32 S, .int .i64 3, .int .i64 y, .int .i64 c, .int .i64 l] 67)
  have cR2 := hR2.cell
  have fR2 := hR2.frozen
  have bel2 := b_alloc bel1 (.cells #[.int .u32 S, .int .i64 3, .int .i64 y, .int .i64 c, .int .i64 l] 67)
  have hl2 := fun hp => (hl1 hp).later (b_alloc (Below.refl _ w1) (.cells #[.int .u32 S, .int .i64 3, .int .i64 y, .int .i64 c, .int .i64 l] 67))
  have hF3 := Blk.new (w1.alloc (.cells #[.int .u32 S, .int .i64 3, .int .i64 y, .int .i64 c, .int .i64 l] 67)) 23 #[.int .i64 c, .int .i64 l]
  rw [World.size_alloc] at hF3
  have cF3 := hF3.cell
  have hH3 := hH2.alloc (.cells #[.int .i64 c, .int .i64 l] 23)
  have cH3 := hH3.cell
  have hR3 := hR2.alloc (.cells #[.int .i64 c, .int .i64 l] 23)
  have cR3 := hR3.cell
  have fR3 := hR3.frozen
  have bel3 := b_alloc bel2 (.cells #[.int .i64 c, .int .i64 l] 23)
  have hl3 := fun hp => (hl2 hp).later (b_alloc (Below.refl _ _) (.cells #[.int .i64 c, .int .i64 l] 23))
  clear hd h hb1 bel1 hl1 hR1
  go_wp2_with fail
  refine (hck _).mono ?_
  rintro e w4 ⟨rfl, hb4⟩
  have hR4 := hR3.below hb4 hR3.lt
  have cR4 := hR4.cell
  have fR4 := hR4.frozen
  have hF4 := hF3.below hb4 hF3.lt
  have cF4 := hF4.cell
  have hH4 := hH3.below hb4 hH3.lt
  have cH4 := hH4.cell
  have bel4 := b_then bel3 hb4
  have hl4 := fun hp => (hl3 hp).later hb4
  clear hck hb4 cR3 fR3 cF3 cH3 cR2 fR2 cH2 hR3 hF3 hH3 hR2 hH2 bel2 bel3 hl2 hl3
  go_wp2_with fail
  refine (hen _).mono ?_
  rintro e w5 ⟨⟨g, cap5, rfl, hle5, hcm5, hg5, hI5⟩, hb5⟩
  have hR5 := hR4.below hb5 hR4.lt
  have cR5 := hR5.cell
  have fR5 := hR5.frozen
  have hF5 := hF4.below hb5 hF4.lt
  have cF5 := hF5.cell
  have bel5 := b_then bel4 hb5
  have hl5 := ((hl4 (by omega)).later hb5).cut_ 16
  have hM16 : (M.take 16).length = 16 := by rw [List.length_take]; omega
  obtain ⟨b, off, rfl, hbl⟩ := hl5.some_ (by omega)
  have hr5 := hI5.rb
  have a1 := fun w => arr_at (some ⟨g, 0, none⟩) 16 cap5 (Nat.le_refl _) w
  have a2 := fun w => arr_at (some ⟨b, off, none⟩) 16 cap (Nat.le_refl _) w
  have a5 := fun w => arr_eq (L := fenc c l) (M := M.take 16) (fenc_length c l) hM16 (fenc_bb c l) (hB.take 16) w
  have a6 := fun w => arr_eq0 (L := fenc c l) (M := M.take 16) (fenc_length c l) hM16 (fenc_bb c l) (hB.take 16) w
  have heq' : decide (fenc c l = M.take 16) = false := decide_eq_false heq
  have heq2 : decide (fenc c l ≠ M.take 16) = true := decide_eq_true heq
  rw [heq2] at a5
  rw [heq'] at a6
  clear heq heq' heq2
  obtain ⟨x0, x1, x2, x3, x4, x5, x6, x7, x8, x9, x10, x11, x12, x13, x14, x15, hX1⟩ := sixteen (fenc_length c l)
  obtain ⟨y0, y1, y2, y3, y4, y5, y6, y7, y8, y9, y10, y11, y12, y13, y14, y15, hX2⟩ := sixteen hM16
  rw [hX1] at a5 a6 hr5
  rw [hX2] at a5 a6 hl5
  have a5 : ∀ w, (binOp .neq 74 (.agg #[.int .u8 x0, .int .u8 x1, .int .u8 x2, .int .u8 x3, .int .u8 x4, .int .u8 x5, .int .u8 x6, .int .u8 x7, .int .u8 x8, .int .u8 x9, .int .u8 x10, .int .u8 x11, .int .u8 x12, .int .u8 x13, .int .u8 x14, .int .u8 x15]) (.agg #[.int .u8 y0, .int .u8 y1, .int .u8 y2, .int .u8 y3, .int .u8 y4, .int .u8 y5, .int .u8 y6, .int .u8 y7, .int .u8 y8, .int .u8 y9, .int .u8 y10, .int .u8 y11, .int .u8 y12, .int .u8 y13, .int .u8 y14, .int .u8 y15])).run Try.prog w = .ok (.bool true) w := a5
  have a6 : ∀ w, (Op.equalIn 10000 74 (.agg #[.int .u8 x0, .int .u8 x1, .int .u8 x2, .int .u8 x3, .int .u8 x4, .int .u8 x5, .int .u8 x6, .int .u8 x7, .int .u8 x8, .int .u8 x9, .int .u8 x10, .int .u8 x11, .int .u8 x12, .int .u8 x13, .int .u8 x14, .int .u8 x15]) (.agg #[.int .u8 y0, .int .u8 y1, .int .u8 y2, .int .u8 y3, .int .u8 y4, .int .u8 y5, .int .u8 y6, .int .u8 y7, .int .u8 y8, .int .u8 y9, .int .u8 y10, .int .u8 y11, .int .u8 y12, .int .u8 y13, .int .u8 y14, .int .u8 y15])).run Try.prog w = .ok false w := a6
  have cx0 : w5.cell? ⟨g, 0, none⟩ = some (.int .u8 x0) := by have h := hr5.at_ 0 x0 rfl; rwa [Nat.zero_add] at h
  have cx1 : w5.cell? ⟨g, 1, none⟩ = some (.int .u8 x1) := by have h := hr5.at_ 1 x1 rfl; rwa [Nat.zero_add] at h
  have cx2 : w5.cell? ⟨g, 2, none⟩ = some (.int .u8 x2) := by have h := hr5.at_ 2 x2 rfl; rwa [Nat.zero_add] at h
  have cx3 : w5.cell? ⟨g, 3, none⟩ = some (.int .u8 x3) := by have h := hr5.at_ 3 x3 rfl; rwa [Nat.zero_add] at h
  have cx4 : w5.cell? ⟨g, 4, none⟩ = some (.int .u8 x4) := by have h := hr5.at_ 4 x4 rfl; rwa [Nat.zero_add] at h
  have cx5 : w5.cell? ⟨g, 5, none⟩ = some (.int .u8 x5) := by have h := hr5.at_ 5 x5 rfl; rwa [Nat.zero_add] at h
  have cx6 : w5.cell? ⟨g, 6, none⟩ = some (.int .u8 x6) := by have h := hr5.at_ 6 x6 rfl; rwa [Nat.zero_add] at h
  have cx7 : w5.cell? ⟨g, 7, none⟩ = some (.int .u8 x7) := by have h := hr5.at_ 7 x7 rfl; rwa [Nat.zero_add] at h
  have cx8 : w5.cell? ⟨g, 8, none⟩ = some (.int .u8 x8) := by have h := hr5.at_ 8 x8 rfl; rwa [Nat.zero_add] at h
  have cx9 : w5.cell? ⟨g, 9, none⟩ = some (.int .u8 x9) := by have h := hr5.at_ 9 x9 rfl; rwa [Nat.zero_add] at h
  have cx10 : w5.cell? ⟨g, 10, none⟩ = some (.int .u8 x10) := by have h := hr5.at_ 10 x10 rfl; rwa [Nat.zero_add] at h
  have cx11 : w5.cell? ⟨g, 11, none⟩ = some (.int .u8 x11) := by have h := hr5.at_ 11 x11 rfl; rwa [Nat.zero_add] at h
  have cx12 : w5.cell? ⟨g, 12, none⟩ = some (.int .u8 x12) := by have h := hr5.at_ 12 x12 rfl; rwa [Nat.zero_add] at h
  have cx13 : w5.cell? ⟨g, 13, none⟩ = some (.int .u8 x13) := by have h := hr5.at_ 13 x13 rfl; rwa [Nat.zero_add] at h
  have cx14 : w5.cell? ⟨g, 14, none⟩ = some (.int .u8 x14) := by have h := hr5.at_ 14 x14 rfl; rwa [Nat.zero_add] at h
  have cx15 : w5.cell? ⟨g, 15, none⟩ = some (.int .u8 x15) := by have h := hr5.at_ 15 x15 rfl; rwa [Nat.zero_add] at h
  have cy0 : w5.cell? ⟨b, off, none⟩ = some (.int .u8 y0) := hl5.at_ 0 y0 rfl
  have cy1 : w5.cell? ⟨b, off + 1, none⟩ = some (.int .u8 y1) := hl5.at_ 1 y1 rfl
  have cy2 : w5.cell? ⟨b, off + 2, none⟩ = some (.int .u8 y2) := hl5.at_ 2 y2 rfl
  have cy3 : w5.cell? ⟨b, off + 3, none⟩ = some (.int .u8 y3) := hl5.at_ 3 y3 rfl
  have cy4 : w5.cell? ⟨b, off + 4, none⟩ = some (.int .u8 y4) := hl5.at_ 4 y4 rfl
  have cy5 : w5.cell? ⟨b, off + 5, none⟩ = some (.int .u8 y5) := hl5.at_ 5 y5 rfl
  have cy6 : w5.cell? ⟨b, off + 6, none⟩ = some (.int .u8 y6) := hl5.at_ 6 y6 rfl
  have cy7 : w5.cell? ⟨b, off + 7, none⟩ = some (.int .u8 y7) := hl5.at_ 7 y7 rfl
  have cy8 : w5.cell? ⟨b, off + 8, none⟩ = some (.int .u8 y8) := hl5.at_ 8 y8 rfl
  have cy9 : w5.cell? ⟨b, off + 9, none⟩ = some (.int .u8 y9) := hl5.at_ 9 y9 rfl
  have cy10 : w5.cell? ⟨b, off + 10, none⟩ = some (.int .u8 y10) := hl5.at_ 10 y10 rfl
  have cy11 : w5.cell? ⟨b, off + 11, none⟩ = some (.int .u8 y11) := hl5.at_ 11 y11 rfl
  have cy12 : w5.cell? ⟨b, off + 12, none⟩ = some (.int .u8 y12) := hl5.at_ 12 y12 rfl
  have cy13 : w5.cell? ⟨b, off + 13, none⟩ = some (.int .u8 y13) := hl5.at_ 13 y13 rfl
  have cy14 : w5.cell? ⟨b, off + 14, none⟩ = some (.int .u8 y14) := hl5.at_ 14 y14 rfl
  have cy15 : w5.cell? ⟨b, off + 15, none⟩ = some (.int .u8 y15) := hl5.at_ 15 y15 rfl
  have y1 : (16 : Int) ≤ (cap : Int) := by omega
  clear hX1 hX2 hl5 hr5 hI5 hM16 hb5 hl4 cR4 fR4 cF4 cH4 hR4 hF4 hH4 bel4 hen hB
  go_wp2_with fail
  go_region
  go_wp2_with fail
  refine bodyPost_ret (v := .tuple #[.agg #[.int .i64 0, .int .i64 0], .int .i64 15]) (results_c1 Try.results18 _ _ w.heap.size #[.int .i64 0, .int .i64 0] _ rfl (by repeat first | (with_reducible exact hR5.set2 _ _) | (with_reducible apply Blk.alloc) | (with_reducible apply Blk.drew)) Try.underlying23 rfl (by kernel_rfl)) rfl ⟨rfl, ?_⟩
  repeat first | (with_reducible exact bel5) | (with_reducible apply Below.drew) | (with_reducible apply b_set) | (with_reducible apply b_alloc)

theorem fde_any (A : Option Addr) (n cap : Nat) (M : List Int) (w : World) (h : 0 < n → RB w A M) (hn : M.length = n) (hB : BB M) (hl : n ≤ cap) (hc : cap ≤ maxLen) :
    Calls Try.prog 18 #[.slice A n cap] w fun e w' => e = .returned (.tuple #[.agg #[.int .i64 (fdec M).1, .int .i64 (fdec M).2.1], .int .i64 (fdec M).2.2]) ∧ Below w.heap.size w w' := by
  have hb := fun (w1 : World) (hw : Below w.heap.size w w1) (hp : 0 < n) => Byts.of_rb ((h hp).later hw) hn hB hl hc
  unfold fdec
  simp only []
  by_cases g1 : n < 16
  · rw [if_pos (by omega)]
    exact fde_err A n cap M w h hn hB hl hc (fun w1 _ => dec_torn A n cap w1 g1) rfl
  · rw [if_neg (by omega)]
    by_cases g2 : DOk (fun i => M.getD i 0)
    · have hd := fun (w1 : World) (hw : Below w.heap.size w w1) => dec_yes A n cap _ w1 (by omega) (hb w1 hw (by omega)) g2
      by_cases g3 : M.getD 4 0 = 3
      · by_cases g4 : FOk (dV fun i => M.getD i 0) (dQ fun i => M.getD i 0)
        · rw [if_neg (not_not_intro ⟨g2, g3, g4⟩)]
          have hdr := fdrop (by omega) hB g2 g3
          by_cases g5 : csI ((M.take 16).drop 4) = dS (fun i => M.getD i 0)
          · rw [if_neg (not_not_intro g5)]
            exact fde_eq A n cap M w h hn hB hl hc hd rfl g3 g4 (by omega) (fcmp (by omega) hB g2 g3 g5)
          · rw [if_pos g5]
            exact fde_ne A n cap M w h hn hB hl hc hd rfl g3 g4 (by omega) (fun h => g5 (fcmp_inv (by omega) hB g2 g3 h))
        · rw [if_pos (fun h => g4 h.2.2)]
          exact fde_bad A n cap M w h hn hB hl hc hd rfl g3 g4
      · rw [if_pos (fun h => g3 h.2.1)]
        exact fde_kind A n cap M w h hn hB hl hc hd rfl (by rw [bne_iff_ne]; exact g3)
    · rw [if_pos (fun h => g2 h.1)]
      exact fde_err A n cap M w h hn hB hl hc (fun w1 hw => dec_no A n cap _ w1 (by omega) (hb w1 hw (by omega)) g2) rfl
end Go.Proofs.Ytiobnhdcapfhgaa
