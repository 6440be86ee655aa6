/-
  The reference's decoding of sixteen bytes.
-/
import Derived.Test.YtiobnhdcapfhgaaDec
import Derived.Test.YtiobnhdcapfhgaaRui
import Derived.Test.YtiobnhdcapfhgaaRch
namespace Go.Proofs.Ytiobnhdcapfhgaa
open Go.RowKit
set_option linter.unusedVariables false
set_option linter.unusedSimpArgs false
theorem rb_undrew {B : Nat} {w w' : World} (h : Below B w.drew w') : Below B w w' := ⟨h.os, h.tape, h.output, h.size, h.block⟩
theorem rb_set {B : Nat} {a w : World} (h : Below B a w) (o : Nat) (u : Value) : Below B a (w.setCell ⟨B, o, none⟩ u) := h.setCell (Nat.le_refl _) u
theorem ru_0 (b off n cap : Nat) (L : Nat → Int) (w : World) (hn : 16 ≤ n) (hnm : n ≤ 9223372036854775807) (hnc : n ≤ cap) (hr : ∀ i, i < 16 → 0 ≤ L i ∧ L i ≤ 255)
    (hc : ∀ i, i < n → w.cell? ⟨b, off + i, none⟩ = some (.int .u8 (L i))) (hb : b < w.heap.size) :
    Calls Try.prog 54 #[.slice (some ⟨b, off, none⟩) n cap, .int .i64 0, .int .i64 4] w fun e w' => e = .returned (.tuple #[.int .u64 (dS L), .int .i64 0]) ∧ w = w' :=
  ruint_4 b off n cap 0 (L 0) (L 1) (L 2) (L 3) w hnm (by omega) hnc (hc 0 (by omega)) (hc 1 (by omega)) (hc 2 (by omega)) (hc 3 (by omega)) (hr 0 (by omega)) (hr 1 (by omega)) (hr 2 (by omega)) (hr 3 (by omega)) hb
theorem ru_1 (b off n cap : Nat) (L : Nat → Int) (w : World) (hn : 16 ≤ n) (hnm : n ≤ 9223372036854775807) (hnc : n ≤ cap) (hr : ∀ i, i < 16 → 0 ≤ L i ∧ L i ≤ 255)
    (hc : ∀ i, i < n → w.cell? ⟨b, off + i, none⟩ = some (.int .u8 (L i))) (hb : b < w.heap.size) :
    Calls Try.prog 54 #[.slice (some ⟨b, off, none⟩) n cap, .int .i64 4, .int .i64 1] w fun e w' => e = .returned (.tuple #[.int .u64 (L 4), .int .i64 0]) ∧ w = w' :=
  ruint_1 b off n cap 4 (L 4) w hnm (by omega) hnc (hc 4 (by omega)) (hr 4 (by omega)) hb
theorem ru_2 (b off n cap : Nat) (L : Nat → Int) (w : World) (hn : 16 ≤ n) (hnm : n ≤ 9223372036854775807) (hnc : n ≤ cap) (hr : ∀ i, i < 16 → 0 ≤ L i ∧ L i ≤ 255)
    (hc : ∀ i, i < n → w.cell? ⟨b, off + i, none⟩ = some (.int .u8 (L i))) (hb : b < w.heap.size) :
    Calls Try.prog 54 #[.slice (some ⟨b, off, none⟩) n cap, .int .i64 5, .int .i64 1] w fun e w' => e = .returned (.tuple #[.int .u64 (L 5), .int .i64 0]) ∧ w = w' :=
  ruint_1 b off n cap 5 (L 5) w hnm (by omega) hnc (hc 5 (by omega)) (hr 5 (by omega)) hb
theorem ru_3 (b off n cap : Nat) (L : Nat → Int) (w : World) (hn : 16 ≤ n) (hnm : n ≤ 9223372036854775807) (hnc : n ≤ cap) (hr : ∀ i, i < 16 → 0 ≤ L i ∧ L i ≤ 255)
    (hc : ∀ i, i < n → w.cell? ⟨b, off + i, none⟩ = some (.int .u8 (L i))) (hb : b < w.heap.size) :
    Calls Try.prog 54 #[.slice (some ⟨b, off, none⟩) n cap, .int .i64 6, .int .i64 2] w fun e w' => e = .returned (.tuple #[.int .u64 (dV L), .int .i64 0]) ∧ w = w' :=
  ruint_2 b off n cap 6 (L 6) (L 7) w hnm (by omega) hnc (hc 6 (by omega)) (hc 7 (by omega)) (hr 6 (by omega)) (hr 7 (by omega)) hb
theorem ru_4 (b off n cap : Nat) (L : Nat → Int) (w : World) (hn : 16 ≤ n) (hnm : n ≤ 9223372036854775807) (hnc : n ≤ cap) (hr : ∀ i, i < 16 → 0 ≤ L i ∧ L i ≤ 255)
    (hc : ∀ i, i < n → w.cell? ⟨b, off + i, none⟩ = some (.int .u8 (L i))) (hb : b < w.heap.size) :
    Calls Try.prog 54 #[.slice (some ⟨b, off, none⟩) n cap, .int .i64 8, .int .i64 8] w fun e w' => e = .returned (.tuple #[.int .u64 (dQ L), .int .i64 0]) ∧ w = w' :=
  ruint_8 b off n cap 8 (L 8) (L 9) (L 10) (L 11) (L 12) (L 13) (L 14) (L 15) w hnm (by omega) hnc (hc 8 (by omega)) (hc 9 (by omega)) (hc 10 (by omega)) (hc 11 (by omega)) (hc 12 (by omega)) (hc 13 (by omega)) (hc 14 (by omega)) (hc 15 (by omega)) (hr 8 (by omega)) (hr 9 (by omega)) (hr 10 (by omega)) (hr 11 (by omega)) (hr 12 (by omega)) (hr 13 (by omega)) (hr 14 (by omega)) (hr 15 (by omega)) hb

set_option maxHeartbeats 3200000 in
theorem rdec_yes (a : Option Addr) (n cap : Nat) (L : Nat → Int) (w : World) (hn : 16 ≤ n) (hb : Byts w a n cap L) (hd : DOk L) :
    Calls Try.prog 39 #[.slice a n cap] w fun e w' => e = .returned (.tuple #[.agg #[.int .u32 (dS L), .int .i64 (L 4), .int .i64 (L 5), .int .i64 (dV L), .int .i64 (dQ L)], .int .i64 0]) ∧ Below w.heap.size w w' := by
  obtain ⟨hnc, hcm, hr0, hcell⟩ := hb
  unfold maxLen at hcm
  have hnm : n ≤ 9223372036854775807 := by omega
  obtain ⟨b, off, rfl, hbl, hcc⟩ := hcell (by omega)
  have hr : ∀ i, i < 16 → 0 ≤ L i ∧ L i ≤ 255 := fun i hi => hr0 i (by omega)
  obtain ⟨bS0, bS1⟩ := dS_bd hr
  obtain ⟨bV0, bV1⟩ := dV_bd hr
  have bQ0 := (dQ_bd hr).1
  have b4 := (hr 4 (by omega)).1
  have b4' := (hr 4 (by omega)).2
  have b5 := (hr 5 (by omega)).1
  have b5' := (hr 5 (by omega)).2
  have blt : b < (w.alloc (.cells #[.int .u32 0, .int .i64 0, .int .i64 0, .int .i64 0, .int .i64 0] 70)).heap.size := by simp; omega
  have hcw : ∀ i, i < n → (w.alloc (.cells #[.int .u32 0, .int .i64 0, .int .i64 0, .int .i64 0, .int .i64 0] 70)).cell? ⟨b, off + i, none⟩ = some (.int .u8 (L i)) := fun i hi => ((b_alloc (Below.refl _ w) _).cell (p := ⟨b, off + i, none⟩) hbl).trans (hcc i hi)
  have U0 := Lib.hid (ru_0 b off n cap L (w.alloc (.cells #[.int .u32 0, .int .i64 0, .int .i64 0, .int .i64 0, .int .i64 0] 70)) hn hnm hnc hr hcw blt)
  have U1 := Lib.hid (ru_1 b off n cap L (w.alloc (.cells #[.int .u32 0, .int .i64 0, .int .i64 0, .int .i64 0, .int .i64 0] 70)) hn hnm hnc hr hcw blt)
  have U2 := Lib.hid (ru_2 b off n cap L (w.alloc (.cells #[.int .u32 0, .int .i64 0, .int .i64 0, .int .i64 0, .int .i64 0] 70)) hn hnm hnc hr hcw blt)
  have U3 := Lib.hid (ru_3 b off n cap L (w.alloc (.cells #[.int .u32 0, .int .i64 0, .int .i64 0, .int .i64 0, .int .i64 0] 70)) hn hnm hnc hr hcw blt)
  have U4 := Lib.hid (ru_4 b off n cap L (w.alloc (.cells #[.int .u32 0, .int .i64 0, .int .i64 0, .int .i64 0, .int .i64 0] 70)) hn hnm hnc hr hcw blt)
  clear hr hr0 hcc hcell hcw
  have bQ1 : dQ L ≤ 1099511627776 := (hok_bounds hd).2.2.2.2.2.2.2
  have HD := Lib.hid hd
  clear hd
  go_enter Try.func39, Try.ntmps39
  go_wp2_with fail
  refine (U0.out).mono ?_
  rintro e wq ⟨rfl, rfl⟩
  go_wp2_with fail
  refine (U1.out).mono ?_
  rintro e wq ⟨rfl, rfl⟩
  go_wp2_with fail
  refine (U2.out).mono ?_
  rintro e wq ⟨rfl, rfl⟩
  go_wp2_with fail
  refine (U3.out).mono ?_
  rintro e wq ⟨rfl, rfl⟩
  go_wp2_with fail
  refine (U4.out).mono ?_
  rintro e wq ⟨rfl, rfl⟩
  go_wp2_with fail
  refine (rcheck_yes (dS L) (L 4) (L 5) (dV L) (dQ L) _ HD.out).mono ?_
  rintro e w8 ⟨rfl, hb8⟩
  have hR := Blk.new w 70 #[.int .u32 0, .int .i64 0, .int .i64 0, .int .i64 0, .int .i64 0]
  have hR8 := (hR.alloc (.cells #[.int .u32 (dS L), .int .i64 (L 4), .int .i64 (L 5), .int .i64 (dV L), .int .i64 (dQ L)] 70)).below (w' := w8) hb8 (by simp; omega)
  have hT : Blk ((w.alloc (.cells #[.int .u32 0, .int .i64 0, .int .i64 0, .int .i64 0, .int .i64 0] 70)).alloc (.cells #[.int .u32 (dS L), .int .i64 (L 4), .int .i64 (L 5), .int .i64 (dV L), .int .i64 (dQ L)] 70)) (w.heap.size + 1) 70 #[.int .u32 (dS L), .int .i64 (L 4), .int .i64 (L 5), .int .i64 (dV L), .int .i64 (dQ L)] := by
    have h := Blk.new (w.alloc (.cells #[.int .u32 0, .int .i64 0, .int .i64 0, .int .i64 0, .int .i64 0] 70)) 70 #[.int .u32 (dS L), .int .i64 (L 4), .int .i64 (L 5), .int .i64 (dV L), .int .i64 (dQ L)]
    simpa using h
  have hT8 := hT.below (w' := w8) hb8 (by simp)
  have hB8 := b_then (b_alloc (b_alloc (Below.refl _ w) (.cells #[.int .u32 0, .int .i64 0, .int .i64 0, .int .i64 0, .int .i64 0] 70)) (.cells #[.int .u32 (dS L), .int .i64 (L 4), .int .i64 (L 5), .int .i64 (dV L), .int .i64 (dQ L)] 70)) hb8
  have cR := hR8.cell
  have fR := hR8.frozen
  have cT := hT8.cell
  have fT := hT8.frozen
  clear hb8 hR hT
  go_wp2_with fail
  refine bodyPost_ret (v := .tuple #[.agg #[.int .u32 (dS L), .int .i64 (L 4), .int .i64 (L 5), .int .i64 (dV L), .int .i64 (dQ L)], .int .i64 0]) (by simp [results, Try.results39, go_sem, cR]) rfl ⟨rfl, ?_⟩
  repeat first | exact hB8 | apply Below.drew | apply rb_set

set_option maxHeartbeats 3200000 in
theorem rdec_no1 (a : Option Addr) (n cap : Nat) (L : Nat → Int) (w : World) (hn : 16 ≤ n) (hb : Byts w a n cap L) (hd : ¬DOk L) (hq : dQ L ≤ 1099511627776) :
    Calls Try.prog 39 #[.slice a n cap] w fun e w' => e = .returned (.tuple #[.agg #[.int .u32 0, .int .i64 0, .int .i64 0, .int .i64 0, .int .i64 0], .int .i64 8]) ∧ Below w.heap.size w w' := by
  obtain ⟨hnc, hcm, hr0, hcell⟩ := hb
  unfold maxLen at hcm
  have hnm : n ≤ 9223372036854775807 := by omega
  obtain ⟨b, off, rfl, hbl, hcc⟩ := hcell (by omega)
  have hr : ∀ i, i < 16 → 0 ≤ L i ∧ L i ≤ 255 := fun i hi => hr0 i (by omega)
  obtain ⟨bS0, bS1⟩ := dS_bd hr
  obtain ⟨bV0, bV1⟩ := dV_bd hr
  have bQ0 := (dQ_bd hr).1
  have b4 := (hr 4 (by omega)).1
  have b4' := (hr 4 (by omega)).2
  have b5 := (hr 5 (by omega)).1
  have b5' := (hr 5 (by omega)).2
  have blt : b < (w.alloc (.cells #[.int .u32 0, .int .i64 0, .int .i64 0, .int .i64 0, .int .i64 0] 70)).heap.size := by simp; omega
  have hcw : ∀ i, i < n → (w.alloc (.cells #[.int .u32 0, .int .i64 0, .int .i64 0, .int .i64 0, .int .i64 0] 70)).cell? ⟨b, off + i, none⟩ = some (.int .u8 (L i)) := fun i hi => ((b_alloc (Below.refl _ w) _).cell (p := ⟨b, off + i, none⟩) hbl).trans (hcc i hi)
  have U0 := Lib.hid (ru_0 b off n cap L (w.alloc (.cells #[.int .u32 0, .int .i64 0, .int .i64 0, .int .i64 0, .int .i64 0] 70)) hn hnm hnc hr hcw blt)
  have U1 := Lib.hid (ru_1 b off n cap L (w.alloc (.cells #[.int .u32 0, .int .i64 0, .int .i64 0, .int .i64 0, .int .i64 0] 70)) hn hnm hnc hr hcw blt)
  have U2 := Lib.hid (ru_2 b off n cap L (w.alloc (.cells #[.int .u32 0, .int .i64 0, .int .i64 0, .int .i64 0, .int .i64 0] 70)) hn hnm hnc hr hcw blt)
  have U3 := Lib.hid (ru_3 b off n cap L (w.alloc (.cells #[.int .u32 0, .int .i64 0, .int .i64 0, .int .i64 0, .int .i64 0] 70)) hn hnm hnc hr hcw blt)
  have U4 := Lib.hid (ru_4 b off n cap L (w.alloc (.cells #[.int .u32 0, .int .i64 0, .int .i64 0, .int .i64 0, .int .i64 0] 70)) hn hnm hnc hr hcw blt)
  clear hr hr0 hcc hcell hcw
  have HD := Lib.hid hd
  clear hd
  go_enter Try.func39, Try.ntmps39
  go_wp2_with fail
  refine (U0.out).mono ?_
  rintro e wq ⟨rfl, rfl⟩
  go_wp2_with fail
  refine (U1.out).mono ?_
  rintro e wq ⟨rfl, rfl⟩
  go_wp2_with fail
  refine (U2.out).mono ?_
  rintro e wq ⟨rfl, rfl⟩
  go_wp2_with fail
  refine (U3.out).mono ?_
  rintro e wq ⟨rfl, rfl⟩
  go_wp2_with fail
  refine (U4.out).mono ?_
  rintro e wq ⟨rfl, rfl⟩
  go_wp2_with fail
  refine (rcheck_no (dS L) (L 4) (L 5) (dV L) (dQ L) _ HD.out).mono ?_
  rintro e w8 ⟨rfl, hb8⟩
  have hR := Blk.new w 70 #[.int .u32 0, .int .i64 0, .int .i64 0, .int .i64 0, .int .i64 0]
  have hR8 := (hR.alloc (.cells #[.int .u32 (dS L), .int .i64 (L 4), .int .i64 (L 5), .int .i64 (dV L), .int .i64 (dQ L)] 70)).below (w' := w8) hb8 (by simp; omega)
  have hT : Blk ((w.alloc (.cells #[.int .u32 0, .int .i64 0, .int .i64 0, .int .i64 0, .int .i64 0] 70)).alloc (.cells #[.int .u32 (dS L), .int .i64 (L 4), .int .i64 (L 5), .int .i64 (dV L), .int .i64 (dQ L)] 70)) (w.heap.size + 1) 70 #[.int .u32 (dS L), .int .i64 (L 4), .int .i64 (L 5), .int .i64 (dV L), .int .i64 (dQ L)] := by
    have h := Blk.new (w.alloc (.cells #[.int .u32 0, .int .i64 0, .int .i64 0, .int .i64 0, .int .i64 0] 70)) 70 #[.int .u32 (dS L), .int .i64 (L 4), .int .i64 (L 5), .int .i64 (dV L), .int .i64 (dQ L)]
    simpa using h
  have hT8 := hT.below (w' := w8) hb8 (by simp)
  have hB8 := b_then (b_alloc (b_alloc (Below.refl _ w) (.cells #[.int .u32 0, .int .i64 0, .int .i64 0, .int .i64 0, .int .i64 0] 70)) (.cells #[.int .u32 (dS L), .int .i64 (L 4), .int .i64 (L 5), .int .i64 (dV L), .int .i64 (dQ L)] 70)) hb8
  have cR := hR8.cell
  have fR := hR8.frozen
  have cT := hT8.cell
  have fT := hT8.frozen
  clear hb8 hR hT
  go_wp2_with fail
  refine bodyPost_ret (v := .tuple #[.agg #[.int .u32 0, .int .i64 0, .int .i64 0, .int .i64 0, .int .i64 0], .int .i64 8]) (by simp [results, Try.results39, go_sem, cR]) rfl ⟨rfl, ?_⟩
  repeat first | exact hB8 | apply Below.drew | apply rb_set

set_option maxHeartbeats 3200000 in
theorem rdec_no2 (a : Option Addr) (n cap : Nat) (L : Nat → Int) (w : World) (hn : 16 ≤ n) (hb : Byts w a n cap L) (hq : 1099511627776 < dQ L) :
    Calls Try.prog 39 #[.slice a n cap] w fun e w' => e = .returned (.tuple #[.agg #[.int .u32 0, .int .i64 0, .int .i64 0, .int .i64 0, .int .i64 0], .int .i64 8]) ∧ Below w.heap.size w w' := by
  obtain ⟨hnc, hcm, hr0, hcell⟩ := hb
  unfold maxLen at hcm
  have hnm : n ≤ 9223372036854775807 := by omega
  obtain ⟨b, off, rfl, hbl, hcc⟩ := hcell (by omega)
  have hr : ∀ i, i < 16 → 0 ≤ L i ∧ L i ≤ 255 := fun i hi => hr0 i (by omega)
  obtain ⟨bS0, bS1⟩ := dS_bd hr
  obtain ⟨bV0, bV1⟩ := dV_bd hr
  have bQ0 := (dQ_bd hr).1
  have b4 := (hr 4 (by omega)).1
  have b4' := (hr 4 (by omega)).2
  have b5 := (hr 5 (by omega)).1
  have b5' := (hr 5 (by omega)).2
  have blt : b < (w.alloc (.cells #[.int .u32 0, .int .i64 0, .int .i64 0, .int .i64 0, .int .i64 0] 70)).heap.size := by simp; omega
  have hcw : ∀ i, i < n → (w.alloc (.cells #[.int .u32 0, .int .i64 0, .int .i64 0, .int .i64 0, .int .i64 0] 70)).cell? ⟨b, off + i, none⟩ = some (.int .u8 (L i)) := fun i hi => ((b_alloc (Below.refl _ w) _).cell (p := ⟨b, off + i, none⟩) hbl).trans (hcc i hi)
  have U0 := Lib.hid (ru_0 b off n cap L (w.alloc (.cells #[.int .u32 0, .int .i64 0, .int .i64 0, .int .i64 0, .int .i64 0] 70)) hn hnm hnc hr hcw blt)
  have U1 := Lib.hid (ru_1 b off n cap L (w.alloc (.cells #[.int .u32 0, .int .i64 0, .int .i64 0, .int .i64 0, .int .i64 0] 70)) hn hnm hnc hr hcw blt)
  have U2 := Lib.hid (ru_2 b off n cap L (w.alloc (.cells #[.int .u32 0, .int .i64 0, .int .i64 0, .int .i64 0, .int .i64 0] 70)) hn hnm hnc hr hcw blt)
  have U3 := Lib.hid (ru_3 b off n cap L (w.alloc (.cells #[.int .u32 0, .int .i64 0, .int .i64 0, .int .i64 0, .int .i64 0] 70)) hn hnm hnc hr hcw blt)
  have U4 := Lib.hid (ru_4 b off n cap L (w.alloc (.cells #[.int .u32 0, .int .i64 0, .int .i64 0, .int .i64 0, .int .i64 0] 70)) hn hnm hnc hr hcw blt)
  clear hr hr0 hcc hcell hcw
  go_enter Try.func39, Try.ntmps39
  go_wp2_with fail
  refine (U0.out).mono ?_
  rintro e wq ⟨rfl, rfl⟩
  go_wp2_with fail
  refine (U1.out).mono ?_
  rintro e wq ⟨rfl, rfl⟩
  go_wp2_with fail
  refine (U2.out).mono ?_
  rintro e wq ⟨rfl, rfl⟩
  go_wp2_with fail
  refine (U3.out).mono ?_
  rintro e wq ⟨rfl, rfl⟩
  go_wp2_with fail
  refine (U4.out).mono ?_
  rintro e wq ⟨rfl, rfl⟩
  go_wp2_with fail
  refine bodyPost_ret (v := .tuple #[.agg #[.int .u32 0, .int .i64 0, .int .i64 0, .int .i64 0, .int .i64 0], .int .i64 8]) (by simp [results, Try.results39, go_sem]) rfl ⟨rfl, ?_⟩
  repeat first | exact Below.refl _ _ | apply Below.drew | apply b_alloc | apply rb_set

theorem rdec_no (a : Option Addr) (n cap : Nat) (L : Nat → Int) (w : World) (hn : 16 ≤ n) (hb : Byts w a n cap L) (hd : ¬DOk L) :
    Calls Try.prog 39 #[.slice a n cap] w fun e w' => e = .returned (.tuple #[.agg #[.int .u32 0, .int .i64 0, .int .i64 0, .int .i64 0, .int .i64 0], .int .i64 8]) ∧ Below w.heap.size w w' := by
  by_cases hq : dQ L ≤ 1099511627776
  · exact rdec_no1 a n cap L w hn hb hd hq
  · exact rdec_no2 a n cap L w hn hb (by omega)
end Go.Proofs.Ytiobnhdcapfhgaa
