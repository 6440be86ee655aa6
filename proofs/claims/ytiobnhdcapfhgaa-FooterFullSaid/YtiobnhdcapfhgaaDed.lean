/-
  Decoding of sixteen bytes, by both texts.
-/
import Derived.Test.YtiobnhdcapfhgaaDec
namespace Go.Proofs.Ytiobnhdcapfhgaa
open Go.RowKit
set_option linter.unusedVariables false
set_option linter.unusedSimpArgs false

theorem below_undrew {B : Nat} {w w' : World} (h : Below B w.drew w') : Below B w w' := ⟨h.os, h.tape, h.output, h.size, h.block⟩
theorem b_set {B : Nat} {a w : World} (h : Below B a w) (o : Nat) (u : Value) : Below B a (w.setCell ⟨B, o, none⟩ u) := h.setCell (Nat.le_refl _) u
theorem u64_info : (Try.prog.info? 77).map (fun i => (i.zero, i.size, i.bytes)) = some (some (.int .u64 0), 1, 8) := by kernel_rfl
theorem hwidths_any (w : World) : Calls Try.prog 47 #[] w fun e w' => e = .returned (.slice (some ⟨w.heap.size, 0, none⟩) 5 5) ∧ w' = w.alloc (.cells #[.int .i64 4, .int .i64 1, .int .i64 1, .int .i64 2, .int .i64 8] 3) := by
  go_enter Try.func47, Try.ntmps47
  go_wp2
  go_ret
  exact ⟨rfl, rfl⟩
theorem du_0 (b off n cap : Nat) (L : Nat → Int) (w : World) (hn : 16 ≤ n) (hnm : n ≤ 9223372036854775807) (hnc : n ≤ cap) (hr : ∀ i, i < 16 → 0 ≤ L i ∧ L i ≤ 255)
    (hc : ∀ i, i < n → w.cell? ⟨b, off + i, none⟩ = some (.int .u8 (L i))) (hb : b < w.heap.size) :
    Calls Try.prog 53 #[.slice (some ⟨b, off, none⟩) n cap, .int .i64 0, .int .i64 4] w fun e w' => e = .returned (.tuple #[.int .u64 (dS L), .int .i64 0]) ∧ w' = w.alloc (.cells wRow 3) :=
  uint_4 b off n cap 0 (L 0) (L 1) (L 2) (L 3) w hnm (by omega) hnc (hc 0 (by omega)) (hc 1 (by omega)) (hc 2 (by omega)) (hc 3 (by omega)) (hr 0 (by omega)) (hr 1 (by omega)) (hr 2 (by omega)) (hr 3 (by omega)) hb
theorem du_1 (b off n cap : Nat) (L : Nat → Int) (w : World) (hn : 16 ≤ n) (hnm : n ≤ 9223372036854775807) (hnc : n ≤ cap) (hr : ∀ i, i < 16 → 0 ≤ L i ∧ L i ≤ 255)
    (hc : ∀ i, i < n → w.cell? ⟨b, off + i, none⟩ = some (.int .u8 (L i))) (hb : b < w.heap.size) :
    Calls Try.prog 53 #[.slice (some ⟨b, off, none⟩) n cap, .int .i64 4, .int .i64 1] w fun e w' => e = .returned (.tuple #[.int .u64 (L 4), .int .i64 0]) ∧ w' = w.alloc (.cells wRow 3) :=
  uint_1 b off n cap 4 (L 4) w hnm (by omega) hnc (hc 4 (by omega)) (hr 4 (by omega)) hb
theorem du_2 (b off n cap : Nat) (L : Nat → Int) (w : World) (hn : 16 ≤ n) (hnm : n ≤ 9223372036854775807) (hnc : n ≤ cap) (hr : ∀ i, i < 16 → 0 ≤ L i ∧ L i ≤ 255)
    (hc : ∀ i, i < n → w.cell? ⟨b, off + i, none⟩ = some (.int .u8 (L i))) (hb : b < w.heap.size) :
    Calls Try.prog 53 #[.slice (some ⟨b, off, none⟩) n cap, .int .i64 5, .int .i64 1] w fun e w' => e = .returned (.tuple #[.int .u64 (L 5), .int .i64 0]) ∧ w' = w.alloc (.cells wRow 3) :=
  uint_1 b off n cap 5 (L 5) w hnm (by omega) hnc (hc 5 (by omega)) (hr 5 (by omega)) hb
theorem du_3 (b off n cap : Nat) (L : Nat → Int) (w : World) (hn : 16 ≤ n) (hnm : n ≤ 9223372036854775807) (hnc : n ≤ cap) (hr : ∀ i, i < 16 → 0 ≤ L i ∧ L i ≤ 255)
    (hc : ∀ i, i < n → w.cell? ⟨b, off + i, none⟩ = some (.int .u8 (L i))) (hb : b < w.heap.size) :
    Calls Try.prog 53 #[.slice (some ⟨b, off, none⟩) n cap, .int .i64 6, .int .i64 2] w fun e w' => e = .returned (.tuple #[.int .u64 (dV L), .int .i64 0]) ∧ w' = w.alloc (.cells wRow 3) :=
  uint_2 b off n cap 6 (L 6) (L 7) w hnm (by omega) hnc (hc 6 (by omega)) (hc 7 (by omega)) (hr 6 (by omega)) (hr 7 (by omega)) hb
theorem du_4 (b off n cap : Nat) (L : Nat → Int) (w : World) (hn : 16 ≤ n) (hnm : n ≤ 9223372036854775807) (hnc : n ≤ cap) (hr : ∀ i, i < 16 → 0 ≤ L i ∧ L i ≤ 255)
    (hc : ∀ i, i < n → w.cell? ⟨b, off + i, none⟩ = some (.int .u8 (L i))) (hb : b < w.heap.size) :
    Calls Try.prog 53 #[.slice (some ⟨b, off, none⟩) n cap, .int .i64 8, .int .i64 8] w fun e w' => e = .returned (.tuple #[.int .u64 (dQ L), .int .i64 0]) ∧ w' = w.alloc (.cells wRow 3) :=
  uint_8 b off n cap 8 (L 8) (L 9) (L 10) (L 11) (L 12) (L 13) (L 14) (L 15) w hnm (by omega) hnc (hc 8 (by omega)) (hc 9 (by omega)) (hc 10 (by omega)) (hc 11 (by omega)) (hc 12 (by omega)) (hc 13 (by omega)) (hc 14 (by omega)) (hc 15 (by omega)) (hr 8 (by omega)) (hr 9 (by omega)) (hr 10 (by omega)) (hr 11 (by omega)) (hr 12 (by omega)) (hr 13 (by omega)) (hr 14 (by omega)) (hr 15 (by omega)) hb
set_option maxRecDepth 100000 in
set_option maxHeartbeats 6400000 in
theorem dec_yes (a : Option Addr) (n cap : Nat) (L : Nat → Int) (w : World) (hn : 16 ≤ n) (hb : Byts w a n cap L) (hd : DOk L) :
    Calls Try.prog 38 #[.slice a n cap] w fun e w' => e = .returned (.tuple #[.agg #[.int .u32 (dS L), .int .i64 (L 4), .int .i64 (L 5), .int .i64 (dV L), .int .i64 (dQ L)], .int .i64 0]) ∧ Below w.heap.size w w' := by
  obtain ⟨hnc, hcm, hr0, hcell⟩ := hb
  unfold maxLen at hcm
  have hnm : n ≤ 9223372036854775807 := by omega
  obtain ⟨b, off, rfl, hbl, hcc⟩ := hcell (by omega)
  have hr : ∀ i, i < 16 → 0 ≤ L i ∧ L i ≤ 255 := fun i hi => hr0 i (by omega)
  obtain ⟨i0, hi0, hz0, hz1, hz2⟩ := info_parts u64_info
  obtain ⟨bS0, bS1⟩ := dS_bd hr
  obtain ⟨bV0, bV1⟩ := dV_bd hr
  have bQ0 := (dQ_bd hr).1
  have b4 := (hr 4 (by omega)).1
  have b4' := (hr 4 (by omega)).2
  have b5 := (hr 5 (by omega)).1
  have b5' := (hr 5 (by omega)).2
  have HR := Lib.hid hr
  have HC := Lib.hid hcc
  clear hr hr0 hcc hcell
  have bQ1 : dQ L ≤ 1099511627776 := (hok_bounds hd).2.2.2.2.2.2.2
  have HD := Lib.hid hd
  clear hd
  go_enter Try.func38, Try.ntmps38
  go_wp2_with (go_at_call 47; refine (hwidths_any _).mono ?_; rintro e w' ⟨rfl, rfl⟩)
  have hR := (Blk.new w 67 #[.int .u32 0, .int .i64 0, .int .i64 0, .int .i64 0, .int .i64 0]).alloc (.cells #[.int .i64 4, .int .i64 1, .int .i64 1, .int .i64 2, .int .i64 8] 3)
  have hW : Blk ((w.alloc (.cells #[.int .u32 0, .int .i64 0, .int .i64 0, .int .i64 0, .int .i64 0] 67)).alloc (.cells #[.int .i64 4, .int .i64 1, .int .i64 1, .int .i64 2, .int .i64 8] 3)) (w.heap.size + 1) 3 #[.int .i64 4, .int .i64 1, .int .i64 1, .int .i64 2, .int .i64 8] := by
    have h := Blk.new (w.alloc (.cells #[.int .u32 0, .int .i64 0, .int .i64 0, .int .i64 0, .int .i64 0] 67)) 3 #[.int .i64 4, .int .i64 1, .int .i64 1, .int .i64 2, .int .i64 8]
    simpa using h
  have hB1 := b_alloc (b_alloc (Below.refl _ w) (.cells #[.int .u32 0, .int .i64 0, .int .i64 0, .int .i64 0, .int .i64 0] 67)) (.cells #[.int .i64 4, .int .i64 1, .int .i64 1, .int .i64 2, .int .i64 8] 3)
  have o1 := World.ownsRow_nil ((w.alloc (.cells #[.int .u32 0, .int .i64 0, .int .i64 0, .int .i64 0, .int .i64 0] 67)).alloc (.cells #[.int .i64 4, .int .i64 1, .int .i64 1, .int .i64 2, .int .i64 8] 3)) (w.heap.size + 1 + 1) 77 1
  have sz1 : w.heap.size + 1 + 1 ≤ ((w.alloc (.cells #[.int .u32 0, .int .i64 0, .int .i64 0, .int .i64 0, .int .i64 0] 67)).alloc (.cells #[.int .i64 4, .int .i64 1, .int .i64 1, .int .i64 2, .int .i64 8] 3)).heap.size := by simp
  obtain ⟨w1, hw1⟩ : ∃ w1, (w.alloc (.cells #[.int .u32 0, .int .i64 0, .int .i64 0, .int .i64 0, .int .i64 0] 67)).alloc (.cells #[.int .i64 4, .int .i64 1, .int .i64 1, .int .i64 2, .int .i64 8] 3) = w1 := ⟨_, rfl⟩
  rw [hw1] at hR hW hB1 o1 sz1
  rw [hw1]
  clear hw1
  refine wp_loop_rounds 6 ?_
  have cW := hW.cell
  have HU := Lib.hid (du_0 b off n cap L w1 hn hnm hnc HR.out (fun i hi => (hB1.cell (p := ⟨b, off + i, none⟩) hbl).trans (HC.out i hi)) (by have := hB1.size; omega))
  rw [rounds_succ]
  go_wp2_with (first
    | (go_at_call 53; refine (HU.out).mono ?_; rintro e wq ⟨rfl, rfl⟩)
    | (at_builtin; refine wpList_append_any _ rfl (.tmp 32) (.tmp 34) _ rfl (w.heap.size + 1 + 1) 77 i0 _ 1 8 Try.underlying88 hi0 hz0 hz1 hz2 rfl (by omega) _ 0 _ rfl ((o1.alloc _).alloc _) (w1.heap.size + 1 + 1) _ 1 1 [.int .u64 (dS L)] rfl (by have h := Reads.one (w1.alloc (.cells wRow 3)) 77 (.int .u64 (dS L)); simpa using h) (by intro u hu; simp at hu; subst hu; rfl) (by unfold maxLen; omega) (by omega) (by simp; omega) ?_; intro v2 w2 o2 hg hat; have sz2 := hg.size; simp only [World.size_alloc] at sz2; have lr := hR.lt; have lw := hW.lt; have hR2 := ((hR.alloc _).alloc _).grown hg (fun he => by have := (o1.lt _ he.symm).1; omega); have hW2 := ((hW.alloc _).alloc _).grown hg (fun he => by have := (o1.lt _ he.symm).1; omega); have hB2 := (b_alloc (b_alloc hB1 _) _).grown hg (by simp; omega) (fun k hk => by have := (o1.lt k hk).1; omega); clear hg hat hR hW hB1 o1 HU cW))
  have hR := hR2
  have hW := hW2
  have hB1 := hB2
  have o1 : w2.ownsRow (w.heap.size + 1 + 1) 77 1 v2 1 [.int .u64 (dS L)] := o2
  have sz1 : w.heap.size + 1 + 1 ≤ w2.heap.size := by omega
  clear hR2 hW2 hB2 o2 sz2 lr lw
  have cW := hW.cell
  have HU := Lib.hid (du_1 b off n cap L w2 hn hnm hnc HR.out (fun i hi => (hB1.cell (p := ⟨b, off + i, none⟩) hbl).trans (HC.out i hi)) (by have := hB1.size; omega))
  rw [rounds_succ]
  go_wp2_with (first
    | (go_at_call 53; refine (HU.out).mono ?_; rintro e wq ⟨rfl, rfl⟩)
    | (at_builtin; refine wpList_append_any _ rfl (.tmp 32) (.tmp 34) _ rfl (w.heap.size + 1 + 1) 77 i0 _ 1 8 Try.underlying88 hi0 hz0 hz1 hz2 rfl (by omega) _ 1 _ rfl ((o1.alloc _).alloc _) (w2.heap.size + 1 + 1) _ 1 1 [.int .u64 (L 4)] rfl (by have h := Reads.one (w2.alloc (.cells wRow 3)) 77 (.int .u64 (L 4)); simpa using h) (by intro u hu; simp at hu; subst hu; rfl) (by unfold maxLen; omega) (by omega) (by simp; omega) ?_; intro v3 w3 o2 hg hat; have sz2 := hg.size; simp only [World.size_alloc] at sz2; have lr := hR.lt; have lw := hW.lt; have hR2 := ((hR.alloc _).alloc _).grown hg (fun he => by have := (o1.lt _ he.symm).1; omega); have hW2 := ((hW.alloc _).alloc _).grown hg (fun he => by have := (o1.lt _ he.symm).1; omega); have hB2 := (b_alloc (b_alloc hB1 _) _).grown hg (by simp; omega) (fun k hk => by have := (o1.lt k hk).1; omega); clear hg hat hR hW hB1 o1 HU cW))
  have hR := hR2
  have hW := hW2
  have hB1 := hB2
  have o1 : w3.ownsRow (w.heap.size + 1 + 1) 77 1 v3 2 [.int .u64 (dS L), .int .u64 (L 4)] := o2
  have sz1 : w.heap.size + 1 + 1 ≤ w3.heap.size := by omega
  clear hR2 hW2 hB2 o2 sz2 lr lw
  have cW := hW.cell
  have HU := Lib.hid (du_2 b off n cap L w3 hn hnm hnc HR.out (fun i hi => (hB1.cell (p := ⟨b, off + i, none⟩) hbl).trans (HC.out i hi)) (by have := hB1.size; omega))
  rw [rounds_succ]
  go_wp2_with (first
    | (go_at_call 53; refine (HU.out).mono ?_; rintro e wq ⟨rfl, rfl⟩)
    | (at_builtin; refine wpList_append_any _ rfl (.tmp 32) (.tmp 34) _ rfl (w.heap.size + 1 + 1) 77 i0 _ 1 8 Try.underlying88 hi0 hz0 hz1 hz2 rfl (by omega) _ 2 _ rfl ((o1.alloc _).alloc _) (w3.heap.size + 1 + 1) _ 1 1 [.int .u64 (L 5)] rfl (by have h := Reads.one (w3.alloc (.cells wRow 3)) 77 (.int .u64 (L 5)); simpa using h) (by intro u hu; simp at hu; subst hu; rfl) (by unfold maxLen; omega) (by omega) (by simp; omega) ?_; intro v4 w4 o2 hg hat; have sz2 := hg.size; simp only [World.size_alloc] at sz2; have lr := hR.lt; have lw := hW.lt; have hR2 := ((hR.alloc _).alloc _).grown hg (fun he => by have := (o1.lt _ he.symm).1; omega); have hW2 := ((hW.alloc _).alloc _).grown hg (fun he => by have := (o1.lt _ he.symm).1; omega); have hB2 := (b_alloc (b_alloc hB1 _) _).grown hg (by simp; omega) (fun k hk => by have := (o1.lt k hk).1; omega); clear hg hat hR hW hB1 o1 HU cW))
  have hR := hR2
  have hW := hW2
  have hB1 := hB2
  have o1 : w4.ownsRow (w.heap.size + 1 + 1) 77 1 v4 3 [.int .u64 (dS L), .int .u64 (L 4), .int .u64 (L 5)] := o2
  have sz1 : w.heap.size + 1 + 1 ≤ w4.heap.size := by omega
  clear hR2 hW2 hB2 o2 sz2 lr lw
  have cW := hW.cell
  have HU := Lib.hid (du_3 b off n cap L w4 hn hnm hnc HR.out (fun i hi => (hB1.cell (p := ⟨b, off + i, none⟩) hbl).trans (HC.out i hi)) (by have := hB1.size; omega))
  rw [rounds_succ]
  go_wp2_with (first
    | (go_at_call 53; refine (HU.out).mono ?_; rintro e wq ⟨rfl, rfl⟩)
    | (at_builtin; refine wpList_append_any _ rfl (.tmp 32) (.tmp 34) _ rfl (w.heap.size + 1 + 1) 77 i0 _ 1 8 Try.underlying88 hi0 hz0 hz1 hz2 rfl (by omega) _ 3 _ rfl ((o1.alloc _).alloc _) (w4.heap.size + 1 + 1) _ 1 1 [.int .u64 (dV L)] rfl (by have h := Reads.one (w4.alloc (.cells wRow 3)) 77 (.int .u64 (dV L)); simpa using h) (by intro u hu; simp at hu; subst hu; rfl) (by unfold maxLen; omega) (by omega) (by simp; omega) ?_; intro v5 w5 o2 hg hat; have sz2 := hg.size; simp only [World.size_alloc] at sz2; have lr := hR.lt; have lw := hW.lt; have hR2 := ((hR.alloc _).alloc _).grown hg (fun he => by have := (o1.lt _ he.symm).1; omega); have hW2 := ((hW.alloc _).alloc _).grown hg (fun he => by have := (o1.lt _ he.symm).1; omega); have hB2 := (b_alloc (b_alloc hB1 _) _).grown hg (by simp; omega) (fun k hk => by have := (o1.lt k hk).1; omega); clear hg hat hR hW hB1 o1 HU cW))
  have hR := hR2
  have hW := hW2
  have hB1 := hB2
  have o1 : w5.ownsRow (w.heap.size + 1 + 1) 77 1 v5 4 [.int .u64 (dS L), .int .u64 (L 4), .int .u64 (L 5), .int .u64 (dV L)] := o2
  have sz1 : w.heap.size + 1 + 1 ≤ w5.heap.size := by omega
  clear hR2 hW2 hB2 o2 sz2 lr lw
  have cW := hW.cell
  have HU := Lib.hid (du_4 b off n cap L w5 hn hnm hnc HR.out (fun i hi => (hB1.cell (p := ⟨b, off + i, none⟩) hbl).trans (HC.out i hi)) (by have := hB1.size; omega))
  rw [rounds_succ]
  go_wp2_with (first
    | (go_at_call 53; refine (HU.out).mono ?_; rintro e wq ⟨rfl, rfl⟩)
    | (at_builtin; refine wpList_append_any _ rfl (.tmp 32) (.tmp 34) _ rfl (w.heap.size + 1 + 1) 77 i0 _ 1 8 Try.underlying88 hi0 hz0 hz1 hz2 rfl (by omega) _ 4 _ rfl ((o1.alloc _).alloc _) (w5.heap.size + 1 + 1) _ 1 1 [.int .u64 (dQ L)] rfl (by have h := Reads.one (w5.alloc (.cells wRow 3)) 77 (.int .u64 (dQ L)); simpa using h) (by intro u hu; simp at hu; subst hu; rfl) (by unfold maxLen; omega) (by omega) (by simp; omega) ?_; intro v6 w6 o2 hg hat; have sz2 := hg.size; simp only [World.size_alloc] at sz2; have lr := hR.lt; have lw := hW.lt; have hR2 := ((hR.alloc _).alloc _).grown hg (fun he => by have := (o1.lt _ he.symm).1; omega); have hW2 := ((hW.alloc _).alloc _).grown hg (fun he => by have := (o1.lt _ he.symm).1; omega); have hB2 := (b_alloc (b_alloc hB1 _) _).grown hg (by simp; omega) (fun k hk => by have := (o1.lt k hk).1; omega); clear hg hat hR hW hB1 o1 HU cW))
  have hR := hR2
  have hW := hW2
  have hB1 := hB2
  have o1 : w6.ownsRow (w.heap.size + 1 + 1) 77 1 v6 5 [.int .u64 (dS L), .int .u64 (L 4), .int .u64 (L 5), .int .u64 (dV L), .int .u64 (dQ L)] := o2
  have sz1 : w.heap.size + 1 + 1 ≤ w6.heap.size := by omega
  clear hR2 hW2 hB2 o2 sz2 lr lw
  rw [rounds_succ]
  obtain ⟨g, cp, rfl, hg1, hg2⟩ := own_head o1
  have d0 : w6.cell? ⟨g, 0, none⟩ = some (.int .u64 (dS L)) := World.ownsRow.cellAt o1 0 (by omega)
  have d1 : w6.cell? ⟨g, 1, none⟩ = some (.int .u64 (L 4)) := World.ownsRow.cellAt o1 1 (by omega)
  have d2 : w6.cell? ⟨g, 2, none⟩ = some (.int .u64 (L 5)) := World.ownsRow.cellAt o1 2 (by omega)
  have d3 : w6.cell? ⟨g, 3, none⟩ = some (.int .u64 (dV L)) := World.ownsRow.cellAt o1 3 (by omega)
  have d4 : w6.cell? ⟨g, 4, none⟩ = some (.int .u64 (dQ L)) := World.ownsRow.cellAt o1 4 (by omega)
  have lr := hR.lt
  go_wp2
  go_region
  go_wp2_with fail
  refine (check_yes (dS L) (L 4) (L 5) (dV L) (dQ L) _ HD.out).mono ?_
  rintro e w8 ⟨rfl, hb8⟩
  have hb8 : Below (w6.alloc (.cells #[.int .u32 (dS L), .int .i64 (L 4), .int .i64 (L 5), .int .i64 (dV L), .int .i64 (dQ L)] 67)).heap.size (w6.alloc (.cells #[.int .u32 (dS L), .int .i64 (L 4), .int .i64 (L 5), .int .i64 (dV L), .int .i64 (dQ L)] 67)) w8 := below_undrew hb8
  have hR8 := (hR.alloc (.cells #[.int .u32 (dS L), .int .i64 (L 4), .int .i64 (L 5), .int .i64 (dV L), .int .i64 (dQ L)] 67)).below (w' := w8) hb8 (by simp; omega)
  have hT8 := (Blk.new w6 67 #[.int .u32 (dS L), .int .i64 (L 4), .int .i64 (L 5), .int .i64 (dV L), .int .i64 (dQ L)]).below (w' := w8) hb8 (by simp)
  have hB8 := b_then (b_alloc hB1 (.cells #[.int .u32 (dS L), .int .i64 (L 4), .int .i64 (L 5), .int .i64 (dV L), .int .i64 (dQ L)] 67)) hb8
  have cR := hR8.cell
  have fR := hR8.frozen
  have cT := hT8.cell
  have fT := hT8.frozen
  clear hB1 hb8 d0 d1 d2 d3 d4
  go_wp2_with fail
  refine bodyPost_ret (v := .tuple #[.agg #[.int .u32 (dS L), .int .i64 (L 4), .int .i64 (L 5), .int .i64 (dV L), .int .i64 (dQ L)], .int .i64 0]) (by simp [results, Try.results38, go_sem, cR]) rfl ⟨rfl, ?_⟩
  repeat first | exact hB8 | apply Below.drew | apply b_set

set_option maxRecDepth 100000 in
set_option maxHeartbeats 6400000 in
theorem dec_no1 (a : Option Addr) (n cap : Nat) (L : Nat → Int) (w : World) (hn : 16 ≤ n) (hb : Byts w a n cap L) (hd : ¬DOk L) (hq : dQ L ≤ 9223372036854775807) :
    Calls Try.prog 38 #[.slice a n cap] w fun e w' => e = .returned (.tuple #[.agg #[.int .u32 0, .int .i64 0, .int .i64 0, .int .i64 0, .int .i64 0], .int .i64 8]) ∧ Below w.heap.size w w' := by
  obtain ⟨hnc, hcm, hr0, hcell⟩ := hb
  unfold maxLen at hcm
  have hnm : n ≤ 9223372036854775807 := by omega
  obtain ⟨b, off, rfl, hbl, hcc⟩ := hcell (by omega)
  have hr : ∀ i, i < 16 → 0 ≤ L i ∧ L i ≤ 255 := fun i hi => hr0 i (by omega)
  obtain ⟨i0, hi0, hz0, hz1, hz2⟩ := info_parts u64_info
  obtain ⟨bS0, bS1⟩ := dS_bd hr
  obtain ⟨bV0, bV1⟩ := dV_bd hr
  have bQ0 := (dQ_bd hr).1
  have b4 := (hr 4 (by omega)).1
  have b4' := (hr 4 (by omega)).2
  have b5 := (hr 5 (by omega)).1
  have b5' := (hr 5 (by omega)).2
  have HR := Lib.hid hr
  have HC := Lib.hid hcc
  clear hr hr0 hcc hcell
  have HD := Lib.hid hd
  clear hd
  go_enter Try.func38, Try.ntmps38
  go_wp2_with (go_at_call 47; refine (hwidths_any _).mono ?_; rintro e w' ⟨rfl, rfl⟩)
  have hR := (Blk.new w 67 #[.int .u32 0, .int .i64 0, .int .i64 0, .int .i64 0, .int .i64 0]).alloc (.cells #[.int .i64 4, .int .i64 1, .int .i64 1, .int .i64 2, .int .i64 8] 3)
  have hW : Blk ((w.alloc (.cells #[.int .u32 0, .int .i64 0, .int .i64 0, .int .i64 0, .int .i64 0] 67)).alloc (.cells #[.int .i64 4, .int .i64 1, .int .i64 1, .int .i64 2, .int .i64 8] 3)) (w.heap.size + 1) 3 #[.int .i64 4, .int .i64 1, .int .i64 1, .int .i64 2, .int .i64 8] := by
    have h := Blk.new (w.alloc (.cells #[.int .u32 0, .int .i64 0, .int .i64 0, .int .i64 0, .int .i64 0] 67)) 3 #[.int .i64 4, .int .i64 1, .int .i64 1, .int .i64 2, .int .i64 8]
    simpa using h
  have hB1 := b_alloc (b_alloc (Below.refl _ w) (.cells #[.int .u32 0, .int .i64 0, .int .i64 0, .int .i64 0, .int .i64 0] 67)) (.cells #[.int .i64 4, .int .i64 1, .int .i64 1, .int .i64 2, .int .i64 8] 3)
  have o1 := World.ownsRow_nil ((w.alloc (.cells #[.int .u32 0, .int .i64 0, .int .i64 0, .int .i64 0, .int .i64 0] 67)).alloc (.cells #[.int .i64 4, .int .i64 1, .int .i64 1, .int .i64 2, .int .i64 8] 3)) (w.heap.size + 1 + 1) 77 1
  have sz1 : w.heap.size + 1 + 1 ≤ ((w.alloc (.cells #[.int .u32 0, .int .i64 0, .int .i64 0, .int .i64 0, .int .i64 0] 67)).alloc (.cells #[.int .i64 4, .int .i64 1, .int .i64 1, .int .i64 2, .int .i64 8] 3)).heap.size := by simp
  obtain ⟨w1, hw1⟩ : ∃ w1, (w.alloc (.cells #[.int .u32 0, .int .i64 0, .int .i64 0, .int .i64 0, .int .i64 0] 67)).alloc (.cells #[.int .i64 4, .int .i64 1, .int .i64 1, .int .i64 2, .int .i64 8] 3) = w1 := ⟨_, rfl⟩
  rw [hw1] at hR hW hB1 o1 sz1
  rw [hw1]
  clear hw1
  refine wp_loop_rounds 6 ?_
  have cW := hW.cell
  have HU := Lib.hid (du_0 b off n cap L w1 hn hnm hnc HR.out (fun i hi => (hB1.cell (p := ⟨b, off + i, none⟩) hbl).trans (HC.out i hi)) (by have := hB1.size; omega))
  rw [rounds_succ]
  go_wp2_with (first
    | (go_at_call 53; refine (HU.out).mono ?_; rintro e wq ⟨rfl, rfl⟩)
    | (at_builtin; refine wpList_append_any _ rfl (.tmp 32) (.tmp 34) _ rfl (w.heap.size + 1 + 1) 77 i0 _ 1 8 Try.underlying88 hi0 hz0 hz1 hz2 rfl (by omega) _ 0 _ rfl ((o1.alloc _).alloc _) (w1.heap.size + 1 + 1) _ 1 1 [.int .u64 (dS L)] rfl (by have h := Reads.one (w1.alloc (.cells wRow 3)) 77 (.int .u64 (dS L)); simpa using h) (by intro u hu; simp at hu; subst hu; rfl) (by unfold maxLen; omega) (by omega) (by simp; omega) ?_; intro v2 w2 o2 hg hat; have sz2 := hg.size; simp only [World.size_alloc] at sz2; have lr := hR.lt; have lw := hW.lt; have hR2 := ((hR.alloc _).alloc _).grown hg (fun he => by have := (o1.lt _ he.symm).1; omega); have hW2 := ((hW.alloc _).alloc _).grown hg (fun he => by have := (o1.lt _ he.symm).1; omega); have hB2 := (b_alloc (b_alloc hB1 _) _).grown hg (by simp; omega) (fun k hk => by have := (o1.lt k hk).1; omega); clear hg hat hR hW hB1 o1 HU cW))
  have hR := hR2
  have hW := hW2
  have hB1 := hB2
  have o1 : w2.ownsRow (w.heap.size + 1 + 1) 77 1 v2 1 [.int .u64 (dS L)] := o2
  have sz1 : w.heap.size + 1 + 1 ≤ w2.heap.size := by omega
  clear hR2 hW2 hB2 o2 sz2 lr lw
  have cW := hW.cell
  have HU := Lib.hid (du_1 b off n cap L w2 hn hnm hnc HR.out (fun i hi => (hB1.cell (p := ⟨b, off + i, none⟩) hbl).trans (HC.out i hi)) (by have := hB1.size; omega))
  rw [rounds_succ]
  go_wp2_with (first
    | (go_at_call 53; refine (HU.out).mono ?_; rintro e wq ⟨rfl, rfl⟩)
    | (at_builtin; refine wpList_append_any _ rfl (.tmp 32) (.tmp 34) _ rfl (w.heap.size + 1 + 1) 77 i0 _ 1 8 Try.underlying88 hi0 hz0 hz1 hz2 rfl (by omega) _ 1 _ rfl ((o1.alloc _).alloc _) (w2.heap.size + 1 + 1) _ 1 1 [.int .u64 (L 4)] rfl (by have h := Reads.one (w2.alloc (.cells wRow 3)) 77 (.int .u64 (L 4)); simpa using h) (by intro u hu; simp at hu; subst hu; rfl) (by unfold maxLen; omega) (by omega) (by simp; omega) ?_; intro v3 w3 o2 hg hat; have sz2 := hg.size; simp only [World.size_alloc] at sz2; have lr := hR.lt; have lw := hW.lt; have hR2 := ((hR.alloc _).alloc _).grown hg (fun he => by have := (o1.lt _ he.symm).1; omega); have hW2 := ((hW.alloc _).alloc _).grown hg (fun he => by have := (o1.lt _ he.symm).1; omega); have hB2 := (b_alloc (b_alloc hB1 _) _).grown hg (by simp; omega) (fun k hk => by have := (o1.lt k hk).1; omega); clear hg hat hR hW hB1 o1 HU cW))
  have hR := hR2
  have hW := hW2
  have hB1 := hB2
  have o1 : w3.ownsRow (w.heap.size + 1 + 1) 77 1 v3 2 [.int .u64 (dS L), .int .u64 (L 4)] := o2
  have sz1 : w.heap.size + 1 + 1 ≤ w3.heap.size := by omega
  clear hR2 hW2 hB2 o2 sz2 lr lw
  have cW := hW.cell
  have HU := Lib.hid (du_2 b off n cap L w3 hn hnm hnc HR.out (fun i hi => (hB1.cell (p := ⟨b, off + i, none⟩) hbl).trans (HC.out i hi)) (by have := hB1.size; omega))
  rw [rounds_succ]
  go_wp2_with (first
    | (go_at_call 53; refine (HU.out).mono ?_; rintro e wq ⟨rfl, rfl⟩)
    | (at_builtin; refine wpList_append_any _ rfl (.tmp 32) (.tmp 34) _ rfl (w.heap.size + 1 + 1) 77 i0 _ 1 8 Try.underlying88 hi0 hz0 hz1 hz2 rfl (by omega) _ 2 _ rfl ((o1.alloc _).alloc _) (w3.heap.size + 1 + 1) _ 1 1 [.int .u64 (L 5)] rfl (by have h := Reads.one (w3.alloc (.cells wRow 3)) 77 (.int .u64 (L 5)); simpa using h) (by intro u hu; simp at hu; subst hu; rfl) (by unfold maxLen; omega) (by omega) (by simp; omega) ?_; intro v4 w4 o2 hg hat; have sz2 := hg.size; simp only [World.size_alloc] at sz2; have lr := hR.lt; have lw := hW.lt; have hR2 := ((hR.alloc _).alloc _).grown hg (fun he => by have := (o1.lt _ he.symm).1; omega); have hW2 := ((hW.alloc _).alloc _).grown hg (fun he => by have := (o1.lt _ he.symm).1; omega); have hB2 := (b_alloc (b_alloc hB1 _) _).grown hg (by simp; omega) (fun k hk => by have := (o1.lt k hk).1; omega); clear hg hat hR hW hB1 o1 HU cW))
  have hR := hR2
  have hW := hW2
  have hB1 := hB2
  have o1 : w4.ownsRow (w.heap.size + 1 + 1) 77 1 v4 3 [.int .u64 (dS L), .int .u64 (L 4), .int .u64 (L 5)] := o2
  have sz1 : w.heap.size + 1 + 1 ≤ w4.heap.size := by omega
  clear hR2 hW2 hB2 o2 sz2 lr lw
  have cW := hW.cell
  have HU := Lib.hid (du_3 b off n cap L w4 hn hnm hnc HR.out (fun i hi => (hB1.cell (p := ⟨b, off + i, none⟩) hbl).trans (HC.out i hi)) (by have := hB1.size; omega))
  rw [rounds_succ]
  go_wp2_with (first
    | (go_at_call 53; refine (HU.out).mono ?_; rintro e wq ⟨rfl, rfl⟩)
    | (at_builtin; refine wpList_append_any _ rfl (.tmp 32) (.tmp 34) _ rfl (w.heap.size + 1 + 1) 77 i0 _ 1 8 Try.underlying88 hi0 hz0 hz1 hz2 rfl (by omega) _ 3 _ rfl ((o1.alloc _).alloc _) (w4.heap.size + 1 + 1) _ 1 1 [.int .u64 (dV L)] rfl (by have h := Reads.one (w4.alloc (.cells wRow 3)) 77 (.int .u64 (dV L)); simpa using h) (by intro u hu; simp at hu; subst hu; rfl) (by unfold maxLen; omega) (by omega) (by simp; omega) ?_; intro v5 w5 o2 hg hat; have sz2 := hg.size; simp only [World.size_alloc] at sz2; have lr := hR.lt; have lw := hW.lt; have hR2 := ((hR.alloc _).alloc _).grown hg (fun he => by have := (o1.lt _ he.symm).1; omega); have hW2 := ((hW.alloc _).alloc _).grown hg (fun he => by have := (o1.lt _ he.symm).1; omega); have hB2 := (b_alloc (b_alloc hB1 _) _).grown hg (by simp; omega) (fun k hk => by have := (o1.lt k hk).1; omega); clear hg hat hR hW hB1 o1 HU cW))
  have hR := hR2
  have hW := hW2
  have hB1 := hB2
  have o1 : w5.ownsRow (w.heap.size + 1 + 1) 77 1 v5 4 [.int .u64 (dS L), .int .u64 (L 4), .int .u64 (L 5), .int .u64 (dV L)] := o2
  have sz1 : w.heap.size + 1 + 1 ≤ w5.heap.size := by omega
  clear hR2 hW2 hB2 o2 sz2 lr lw
  have cW := hW.cell
  have HU := Lib.hid (du_4 b off n cap L w5 hn hnm hnc HR.out (fun i hi => (hB1.cell (p := ⟨b, off + i, none⟩) hbl).trans (HC.out i hi)) (by have := hB1.size; omega))
  rw [rounds_succ]
  go_wp2_with (first
    | (go_at_call 53; refine (HU.out).mono ?_; rintro e wq ⟨rfl, rfl⟩)
    | (at_builtin; refine wpList_append_any _ rfl (.tmp 32) (.tmp 34) _ rfl (w.heap.size + 1 + 1) 77 i0 _ 1 8 Try.underlying88 hi0 hz0 hz1 hz2 rfl (by omega) _ 4 _ rfl ((o1.alloc _).alloc _) (w5.heap.size + 1 + 1) _ 1 1 [.int .u64 (dQ L)] rfl (by have h := Reads.one (w5.alloc (.cells wRow 3)) 77 (.int .u64 (dQ L)); simpa using h) (by intro u hu; simp at hu; subst hu; rfl) (by unfold maxLen; omega) (by omega) (by simp; omega) ?_; intro v6 w6 o2 hg hat; have sz2 := hg.size; simp only [World.size_alloc] at sz2; have lr := hR.lt; have lw := hW.lt; have hR2 := ((hR.alloc _).alloc _).grown hg (fun he => by have := (o1.lt _ he.symm).1; omega); have hW2 := ((hW.alloc _).alloc _).grown hg (fun he => by have := (o1.lt _ he.symm).1; omega); have hB2 := (b_alloc (b_alloc hB1 _) _).grown hg (by simp; omega) (fun k hk => by have := (o1.lt k hk).1; omega); clear hg hat hR hW hB1 o1 HU cW))
  have hR := hR2
  have hW := hW2
  have hB1 := hB2
  have o1 : w6.ownsRow (w.heap.size + 1 + 1) 77 1 v6 5 [.int .u64 (dS L), .int .u64 (L 4), .int .u64 (L 5), .int .u64 (dV L), .int .u64 (dQ L)] := o2
  have sz1 : w.heap.size + 1 + 1 ≤ w6.heap.size := by omega
  clear hR2 hW2 hB2 o2 sz2 lr lw
  rw [rounds_succ]
  obtain ⟨g, cp, rfl, hg1, hg2⟩ := own_head o1
  have d0 : w6.cell? ⟨g, 0, none⟩ = some (.int .u64 (dS L)) := World.ownsRow.cellAt o1 0 (by omega)
  have d1 : w6.cell? ⟨g, 1, none⟩ = some (.int .u64 (L 4)) := World.ownsRow.cellAt o1 1 (by omega)
  have d2 : w6.cell? ⟨g, 2, none⟩ = some (.int .u64 (L 5)) := World.ownsRow.cellAt o1 2 (by omega)
  have d3 : w6.cell? ⟨g, 3, none⟩ = some (.int .u64 (dV L)) := World.ownsRow.cellAt o1 3 (by omega)
  have d4 : w6.cell? ⟨g, 4, none⟩ = some (.int .u64 (dQ L)) := World.ownsRow.cellAt o1 4 (by omega)
  have lr := hR.lt
  go_wp2
  go_region
  go_wp2_with fail
  refine (check_no (dS L) (L 4) (L 5) (dV L) (dQ L) _ HD.out).mono ?_
  rintro e w8 ⟨rfl, hb8⟩
  have hb8 : Below (w6.alloc (.cells #[.int .u32 (dS L), .int .i64 (L 4), .int .i64 (L 5), .int .i64 (dV L), .int .i64 (dQ L)] 67)).heap.size (w6.alloc (.cells #[.int .u32 (dS L), .int .i64 (L 4), .int .i64 (L 5), .int .i64 (dV L), .int .i64 (dQ L)] 67)) w8 := below_undrew hb8
  have hR8 := (hR.alloc (.cells #[.int .u32 (dS L), .int .i64 (L 4), .int .i64 (L 5), .int .i64 (dV L), .int .i64 (dQ L)] 67)).below (w' := w8) hb8 (by simp; omega)
  have hT8 := (Blk.new w6 67 #[.int .u32 (dS L), .int .i64 (L 4), .int .i64 (L 5), .int .i64 (dV L), .int .i64 (dQ L)]).below (w' := w8) hb8 (by simp)
  have hB8 := b_then (b_alloc hB1 (.cells #[.int .u32 (dS L), .int .i64 (L 4), .int .i64 (L 5), .int .i64 (dV L), .int .i64 (dQ L)] 67)) hb8
  have cR := hR8.cell
  have fR := hR8.frozen
  have cT := hT8.cell
  have fT := hT8.frozen
  clear hB1 hb8 d0 d1 d2 d3 d4
  go_wp2_with fail
  refine bodyPost_ret (v := .tuple #[.agg #[.int .u32 0, .int .i64 0, .int .i64 0, .int .i64 0, .int .i64 0], .int .i64 8]) (by simp [results, Try.results38, go_sem, cR]) rfl ⟨rfl, ?_⟩
  repeat first | exact hB8 | apply Below.drew | apply b_set

set_option maxRecDepth 100000 in
set_option maxHeartbeats 6400000 in
theorem dec_no2 (a : Option Addr) (n cap : Nat) (L : Nat → Int) (w : World) (hn : 16 ≤ n) (hb : Byts w a n cap L) (hq : 9223372036854775807 < dQ L) :
    Calls Try.prog 38 #[.slice a n cap] w fun e w' => e = .returned (.tuple #[.agg #[.int .u32 0, .int .i64 0, .int .i64 0, .int .i64 0, .int .i64 0], .int .i64 8]) ∧ Below w.heap.size w w' := by
  obtain ⟨hnc, hcm, hr0, hcell⟩ := hb
  unfold maxLen at hcm
  have hnm : n ≤ 9223372036854775807 := by omega
  obtain ⟨b, off, rfl, hbl, hcc⟩ := hcell (by omega)
  have hr : ∀ i, i < 16 → 0 ≤ L i ∧ L i ≤ 255 := fun i hi => hr0 i (by omega)
  obtain ⟨i0, hi0, hz0, hz1, hz2⟩ := info_parts u64_info
  obtain ⟨bS0, bS1⟩ := dS_bd hr
  obtain ⟨bV0, bV1⟩ := dV_bd hr
  have bQ0 := (dQ_bd hr).1
  have b4 := (hr 4 (by omega)).1
  have b4' := (hr 4 (by omega)).2
  have b5 := (hr 5 (by omega)).1
  have b5' := (hr 5 (by omega)).2
  have HR := Lib.hid hr
  have HC := Lib.hid hcc
  clear hr hr0 hcc hcell
  have HD : Hid (¬HOk (L 4) (L 5) (dV L) (wrap64 (dQ L))) := by
    have := (dQ_bd HR.out).2
    show ¬ _
    unfold HOk wrap64
    omega
  go_enter Try.func38, Try.ntmps38
  go_wp2_with (go_at_call 47; refine (hwidths_any _).mono ?_; rintro e w' ⟨rfl, rfl⟩)
  have hR := (Blk.new w 67 #[.int .u32 0, .int .i64 0, .int .i64 0, .int .i64 0, .int .i64 0]).alloc (.cells #[.int .i64 4, .int .i64 1, .int .i64 1, .int .i64 2, .int .i64 8] 3)
  have hW : Blk ((w.alloc (.cells #[.int .u32 0, .int .i64 0, .int .i64 0, .int .i64 0, .int .i64 0] 67)).alloc (.cells #[.int .i64 4, .int .i64 1, .int .i64 1, .int .i64 2, .int .i64 8] 3)) (w.heap.size + 1) 3 #[.int .i64 4, .int .i64 1, .int .i64 1, .int .i64 2, .int .i64 8] := by
    have h := Blk.new (w.alloc (.cells #[.int .u32 0, .int .i64 0, .int .i64 0, .int .i64 0, .int .i64 0] 67)) 3 #[.int .i64 4, .int .i64 1, .int .i64 1, .int .i64 2, .int .i64 8]
    simpa using h
  have hB1 := b_alloc (b_alloc (Below.refl _ w) (.cells #[.int .u32 0, .int .i64 0, .int .i64 0, .int .i64 0, .int .i64 0] 67)) (.cells #[.int .i64 4, .int .i64 1, .int .i64 1, .int .i64 2, .int .i64 8] 3)
  have o1 := World.ownsRow_nil ((w.alloc (.cells #[.int .u32 0, .int .i64 0, .int .i64 0, .int .i64 0, .int .i64 0] 67)).alloc (.cells #[.int .i64 4, .int .i64 1, .int .i64 1, .int .i64 2, .int .i64 8] 3)) (w.heap.size + 1 + 1) 77 1
  have sz1 : w.heap.size + 1 + 1 ≤ ((w.alloc (.cells #[.int .u32 0, .int .i64 0, .int .i64 0, .int .i64 0, .int .i64 0] 67)).alloc (.cells #[.int .i64 4, .int .i64 1, .int .i64 1, .int .i64 2, .int .i64 8] 3)).heap.size := by simp
  obtain ⟨w1, hw1⟩ : ∃ w1, (w.alloc (.cells #[.int .u32 0, .int .i64 0, .int .i64 0, .int .i64 0, .int .i64 0] 67)).alloc (.cells #[.int .i64 4, .int .i64 1, .int .i64 1, .int .i64 2, .int .i64 8] 3) = w1 := ⟨_, rfl⟩
  rw [hw1] at hR hW hB1 o1 sz1
  rw [hw1]
  clear hw1
  refine wp_loop_rounds 6 ?_
  have cW := hW.cell
  have HU := Lib.hid (du_0 b off n cap L w1 hn hnm hnc HR.out (fun i hi => (hB1.cell (p := ⟨b, off + i, none⟩) hbl).trans (HC.out i hi)) (by have := hB1.size; omega))
  rw [rounds_succ]
  go_wp2_with (first
    | (go_at_call 53; refine (HU.out).mono ?_; rintro e wq ⟨rfl, rfl⟩)
    | (at_builtin; refine wpList_append_any _ rfl (.tmp 32) (.tmp 34) _ rfl (w.heap.size + 1 + 1) 77 i0 _ 1 8 Try.underlying88 hi0 hz0 hz1 hz2 rfl (by omega) _ 0 _ rfl ((o1.alloc _).alloc _) (w1.heap.size + 1 + 1) _ 1 1 [.int .u64 (dS L)] rfl (by have h := Reads.one (w1.alloc (.cells wRow 3)) 77 (.int .u64 (dS L)); simpa using h) (by intro u hu; simp at hu; subst hu; rfl) (by unfold maxLen; omega) (by omega) (by simp; omega) ?_; intro v2 w2 o2 hg hat; have sz2 := hg.size; simp only [World.size_alloc] at sz2; have lr := hR.lt; have lw := hW.lt; have hR2 := ((hR.alloc _).alloc _).grown hg (fun he => by have := (o1.lt _ he.symm).1; omega); have hW2 := ((hW.alloc _).alloc _).grown hg (fun he => by have := (o1.lt _ he.symm).1; omega); have hB2 := (b_alloc (b_alloc hB1 _) _).grown hg (by simp; omega) (fun k hk => by have := (o1.lt k hk).1; omega); clear hg hat hR hW hB1 o1 HU cW))
  have hR := hR2
  have hW := hW2
  have hB1 := hB2
  have o1 : w2.ownsRow (w.heap.size + 1 + 1) 77 1 v2 1 [.int .u64 (dS L)] := o2
  have sz1 : w.heap.size + 1 + 1 ≤ w2.heap.size := by omega
  clear hR2 hW2 hB2 o2 sz2 lr lw
  have cW := hW.cell
  have HU := Lib.hid (du_1 b off n cap L w2 hn hnm hnc HR.out (fun i hi => (hB1.cell (p := ⟨b, off + i, none⟩) hbl).trans (HC.out i hi)) (by have := hB1.size; omega))
  rw [rounds_succ]
  go_wp2_with (first
    | (go_at_call 53; refine (HU.out).mono ?_; rintro e wq ⟨rfl, rfl⟩)
    | (at_builtin; refine wpList_append_any _ rfl (.tmp 32) (.tmp 34) _ rfl (w.heap.size + 1 + 1) 77 i0 _ 1 8 Try.underlying88 hi0 hz0 hz1 hz2 rfl (by omega) _ 1 _ rfl ((o1.alloc _).alloc _) (w2.heap.size + 1 + 1) _ 1 1 [.int .u64 (L 4)] rfl (by have h := Reads.one (w2.alloc (.cells wRow 3)) 77 (.int .u64 (L 4)); simpa using h) (by intro u hu; simp at hu; subst hu; rfl) (by unfold maxLen; omega) (by omega) (by simp; omega) ?_; intro v3 w3 o2 hg hat; have sz2 := hg.size; simp only [World.size_alloc] at sz2; have lr := hR.lt; have lw := hW.lt; have hR2 := ((hR.alloc _).alloc _).grown hg (fun he => by have := (o1.lt _ he.symm).1; omega); have hW2 := ((hW.alloc _).alloc _).grown hg (fun he => by have := (o1.lt _ he.symm).1; omega); have hB2 := (b_alloc (b_alloc hB1 _) _).grown hg (by simp; omega) (fun k hk => by have := (o1.lt k hk).1; omega); clear hg hat hR hW hB1 o1 HU cW))
  have hR := hR2
  have hW := hW2
  have hB1 := hB2
  have o1 : w3.ownsRow (w.heap.size + 1 + 1) 77 1 v3 2 [.int .u64 (dS L), .int .u64 (L 4)] := o2
  have sz1 : w.heap.size + 1 + 1 ≤ w3.heap.size := by omega
  clear hR2 hW2 hB2 o2 sz2 lr lw
  have cW := hW.cell
  have HU := Lib.hid (du_2 b off n cap L w3 hn hnm hnc HR.out (fun i hi => (hB1.cell (p := ⟨b, off + i, none⟩) hbl).trans (HC.out i hi)) (by have := hB1.size; omega))
  rw [rounds_succ]
  go_wp2_with (first
    | (go_at_call 53; refine (HU.out).mono ?_; rintro e wq ⟨rfl, rfl⟩)
    | (at_builtin; refine wpList_append_any _ rfl (.tmp 32) (.tmp 34) _ rfl (w.heap.size + 1 + 1) 77 i0 _ 1 8 Try.underlying88 hi0 hz0 hz1 hz2 rfl (by omega) _ 2 _ rfl ((o1.alloc _).alloc _) (w3.heap.size + 1 + 1) _ 1 1 [.int .u64 (L 5)] rfl (by have h := Reads.one (w3.alloc (.cells wRow 3)) 77 (.int .u64 (L 5)); simpa using h) (by intro u hu; simp at hu; subst hu; rfl) (by unfold maxLen; omega) (by omega) (by simp; omega) ?_; intro v4 w4 o2 hg hat; have sz2 := hg.size; simp only [World.size_alloc] at sz2; have lr := hR.lt; have lw := hW.lt; have hR2 := ((hR.alloc _).alloc _).grown hg (fun he => by have := (o1.lt _ he.symm).1; omega); have hW2 := ((hW.alloc _).alloc _).grown hg (fun he => by have := (o1.lt _ he.symm).1; omega); have hB2 := (b_alloc (b_alloc hB1 _) _).grown hg (by simp; omega) (fun k hk => by have := (o1.lt k hk).1; omega); clear hg hat hR hW hB1 o1 HU cW))
  have hR := hR2
  have hW := hW2
  have hB1 := hB2
  have o1 : w4.ownsRow (w.heap.size + 1 + 1) 77 1 v4 3 [.int .u64 (dS L), .int .u64 (L 4), .int .u64 (L 5)] := o2
  have sz1 : w.heap.size + 1 + 1 ≤ w4.heap.size := by omega
  clear hR2 hW2 hB2 o2 sz2 lr lw
  have cW := hW.cell
  have HU := Lib.hid (du_3 b off n cap L w4 hn hnm hnc HR.out (fun i hi => (hB1.cell (p := ⟨b, off + i, none⟩) hbl).trans (HC.out i hi)) (by have := hB1.size; omega))
  rw [rounds_succ]
  go_wp2_with (first
    | (go_at_call 53; refine (HU.out).mono ?_; rintro e wq ⟨rfl, rfl⟩)
    | (at_builtin; refine wpList_append_any _ rfl (.tmp 32) (.tmp 34) _ rfl (w.heap.size + 1 + 1) 77 i0 _ 1 8 Try.underlying88 hi0 hz0 hz1 hz2 rfl (by omega) _ 3 _ rfl ((o1.alloc _).alloc _) (w4.heap.size + 1 + 1) _ 1 1 [.int .u64 (dV L)] rfl (by have h := Reads.one (w4.alloc (.cells wRow 3)) 77 (.int .u64 (dV L)); simpa using h) (by intro u hu; simp at hu; subst hu; rfl) (by unfold maxLen; omega) (by omega) (by simp; omega) ?_; intro v5 w5 o2 hg hat; have sz2 := hg.size; simp only [World.size_alloc] at sz2; have lr := hR.lt; have lw := hW.lt; have hR2 := ((hR.alloc _).alloc _).grown hg (fun he => by have := (o1.lt _ he.symm).1; omega); have hW2 := ((hW.alloc _).alloc _).grown hg (fun he => by have := (o1.lt _ he.symm).1; omega); have hB2 := (b_alloc (b_alloc hB1 _) _).grown hg (by simp; omega) (fun k hk => by have := (o1.lt k hk).1; omega); clear hg hat hR hW hB1 o1 HU cW))
  have hR := hR2
  have hW := hW2
  have hB1 := hB2
  have o1 : w5.ownsRow (w.heap.size + 1 + 1) 77 1 v5 4 [.int .u64 (dS L), .int .u64 (L 4), .int .u64 (L 5), .int .u64 (dV L)] := o2
  have sz1 : w.heap.size + 1 + 1 ≤ w5.heap.size := by omega
  clear hR2 hW2 hB2 o2 sz2 lr lw
  have cW := hW.cell
  have HU := Lib.hid (du_4 b off n cap L w5 hn hnm hnc HR.out (fun i hi => (hB1.cell (p := ⟨b, off + i, none⟩) hbl).trans (HC.out i hi)) (by have := hB1.size; omega))
  rw [rounds_succ]
  go_wp2_with (first
    | (go_at_call 53; refine (HU.out).mono ?_; rintro e wq ⟨rfl, rfl⟩)
    | (at_builtin; refine wpList_append_any _ rfl (.tmp 32) (.tmp 34) _ rfl (w.heap.size + 1 + 1) 77 i0 _ 1 8 Try.underlying88 hi0 hz0 hz1 hz2 rfl (by omega) _ 4 _ rfl ((o1.alloc _).alloc _) (w5.heap.size + 1 + 1) _ 1 1 [.int .u64 (dQ L)] rfl (by have h := Reads.one (w5.alloc (.cells wRow 3)) 77 (.int .u64 (dQ L)); simpa using h) (by intro u hu; simp at hu; subst hu; rfl) (by unfold maxLen; omega) (by omega) (by simp; omega) ?_; intro v6 w6 o2 hg hat; have sz2 := hg.size; simp only [World.size_alloc] at sz2; have lr := hR.lt; have lw := hW.lt; have hR2 := ((hR.alloc _).alloc _).grown hg (fun he => by have := (o1.lt _ he.symm).1; omega); have hW2 := ((hW.alloc _).alloc _).grown hg (fun he => by have := (o1.lt _ he.symm).1; omega); have hB2 := (b_alloc (b_alloc hB1 _) _).grown hg (by simp; omega) (fun k hk => by have := (o1.lt k hk).1; omega); clear hg hat hR hW hB1 o1 HU cW))
  have hR := hR2
  have hW := hW2
  have hB1 := hB2
  have o1 : w6.ownsRow (w.heap.size + 1 + 1) 77 1 v6 5 [.int .u64 (dS L), .int .u64 (L 4), .int .u64 (L 5), .int .u64 (dV L), .int .u64 (dQ L)] := o2
  have sz1 : w.heap.size + 1 + 1 ≤ w6.heap.size := by omega
  clear hR2 hW2 hB2 o2 sz2 lr lw
  rw [rounds_succ]
  obtain ⟨g, cp, rfl, hg1, hg2⟩ := own_head o1
  have d0 : w6.cell? ⟨g, 0, none⟩ = some (.int .u64 (dS L)) := World.ownsRow.cellAt o1 0 (by omega)
  have d1 : w6.cell? ⟨g, 1, none⟩ = some (.int .u64 (L 4)) := World.ownsRow.cellAt o1 1 (by omega)
  have d2 : w6.cell? ⟨g, 2, none⟩ = some (.int .u64 (L 5)) := World.ownsRow.cellAt o1 2 (by omega)
  have d3 : w6.cell? ⟨g, 3, none⟩ = some (.int .u64 (dV L)) := World.ownsRow.cellAt o1 3 (by omega)
  have d4 : w6.cell? ⟨g, 4, none⟩ = some (.int .u64 (dQ L)) := World.ownsRow.cellAt o1 4 (by omega)
  have lr := hR.lt
  go_wp2
  go_region
  go_wp2_with fail
  refine (check_no (dS L) (L 4) (L 5) (dV L) (wrap64 (dQ L)) _ HD.out).mono ?_
  rintro e w8 ⟨rfl, hb8⟩
  have hb8 : Below (w6.alloc (.cells #[.int .u32 (dS L), .int .i64 (L 4), .int .i64 (L 5), .int .i64 (dV L), .int .i64 (wrap64 (dQ L))] 67)).heap.size (w6.alloc (.cells #[.int .u32 (dS L), .int .i64 (L 4), .int .i64 (L 5), .int .i64 (dV L), .int .i64 (wrap64 (dQ L))] 67)) w8 := below_undrew hb8
  have hR8 := (hR.alloc (.cells #[.int .u32 (dS L), .int .i64 (L 4), .int .i64 (L 5), .int .i64 (dV L), .int .i64 (wrap64 (dQ L))] 67)).below (w' := w8) hb8 (by simp; omega)
  have hT8 := (Blk.new w6 67 #[.int .u32 (dS L), .int .i64 (L 4), .int .i64 (L 5), .int .i64 (dV L), .int .i64 (wrap64 (dQ L))]).below (w' := w8) hb8 (by simp)
  have hB8 := b_then (b_alloc hB1 (.cells #[.int .u32 (dS L), .int .i64 (L 4), .int .i64 (L 5), .int .i64 (dV L), .int .i64 (wrap64 (dQ L))] 67)) hb8
  have cR := hR8.cell
  have fR := hR8.frozen
  have cT := hT8.cell
  have fT := hT8.frozen
  clear hB1 hb8 d0 d1 d2 d3 d4
  go_wp2_with fail
  refine bodyPost_ret (v := .tuple #[.agg #[.int .u32 0, .int .i64 0, .int .i64 0, .int .i64 0, .int .i64 0], .int .i64 8]) (by simp [results, Try.results38, go_sem, cR]) rfl ⟨rfl, ?_⟩
  repeat first | exact hB8 | apply Below.drew | apply b_set

theorem dec_no (a : Option Addr) (n cap : Nat) (L : Nat → Int) (w : World) (hn : 16 ≤ n) (hb : Byts w a n cap L) (hd : ¬DOk L) :
    Calls Try.prog 38 #[.slice a n cap] w fun e w' => e = .returned (.tuple #[.agg #[.int .u32 0, .int .i64 0, .int .i64 0, .int .i64 0, .int .i64 0], .int .i64 8]) ∧ Below w.heap.size w w' := by
  by_cases hq : dQ L ≤ 9223372036854775807
  · exact dec_no1 a n cap L w hn hb hd hq
  · exact dec_no2 a n cap L w hn hb (by omega)
end Go.Proofs.Ytiobnhdcapfhgaa
