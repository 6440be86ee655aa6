/-
  The examples of the chapter hold; what a valid header's bytes are decoded to.
-/
import Derived.Test.YtagcaepkbilpbaaDed
namespace Go.Proofs.Ytagcaepkbilpbaa
open Go.RowKit
set_option linter.unusedVariables false

theorem Byts.of_own {w : World} {B : Nat} {v : Value} {M : List Int} (h : IsB w B v M) (hr : ∀ i, i < M.length → 0 ≤ M.getD i 0 ∧ M.getD i 0 ≤ 255) (hn : 0 < M.length) :
    ∃ g cap, v = .slice (some ⟨g, 0, none⟩) M.length cap ∧ B ≤ g ∧ g < w.heap.size ∧ M.length ≤ cap ∧ cap ≤ maxLen ∧ Byts w (some ⟨g, 0, none⟩) M.length cap (fun i => M.getD i 0) := by
  rcases h.2 with ⟨_, h0⟩ | ⟨g, cap, cur, rfl, hb, hg, hc, hm, hs⟩
  · omega
  · refine ⟨g, cap, rfl, hb, lt_of_block hg, hc, hm, hc, hm, hr, fun _ => ⟨g, 0, rfl, lt_of_block hg, fun i hi => ?_⟩⟩
    have hcell := World.ownsRow.cellAt h i (by omega)
    rw [Nat.zero_add, hcell, List.getElem?_map, List.getElem?_eq_getElem hi]
    show _ = some (Value.int .u8 (M.getD i 0))
    rw [List.getD_eq_getElem?_getD, List.getElem?_eq_getElem hi]
    rfl
theorem Byts.of_blk {w : World} {g : Nat} {M : List Int} (h : Blk w g 5 (M.map (Value.int .u8)).toArray) (hr : ∀ i, i < M.length → 0 ≤ M.getD i 0 ∧ M.getD i 0 ≤ 255) (hm : M.length ≤ maxLen) :
    Byts w (some ⟨g, 0, none⟩) M.length M.length (fun i => M.getD i 0) :=
  ⟨Nat.le_refl _, hm, hr, fun _ => ⟨g, 0, rfl, h.lt, fun i hi => by
    have hcell := h.cell i
    rw [Nat.zero_add, hcell, List.getElem?_toArray, List.getElem?_map, List.getElem?_eq_getElem hi]
    show _ = some (Value.int .u8 (M.getD i 0))
    rw [List.getD_eq_getElem?_getD, List.getElem?_eq_getElem hi]
    rfl⟩⟩
theorem RB.of_blk {w : World} {g : Nat} {M : List Int} (h : Blk w g 5 (M.map (Value.int .u8)).toArray) : RB w (some ⟨g, 0, none⟩) M :=
  .inr ⟨g, 0, rfl, fun i hi => by
    have hcell := h.cell i
    rw [Nat.zero_add, hcell, List.getElem?_toArray, List.getElem?_map, List.getElem?_eq_getElem hi, List.getD_eq_getElem?_getD, List.getElem?_eq_getElem hi]
    rfl⟩

/-- bytes of a header lie in 0..255 -/
theorem hbytes_bd (sum kind key val seq : Int) : ∀ i, i < (hbytes sum kind key val seq).length → 0 ≤ (hbytes sum kind key val seq).getD i 0 ∧ (hbytes sum kind key val seq).getD i 0 ≤ 255 := by
  intro i hi
  have hi' : i < 16 := hi
  have : i = 0 ∨ i = 1 ∨ i = 2 ∨ i = 3 ∨ i = 4 ∨ i = 5 ∨ i = 6 ∨ i = 7 ∨ i = 8 ∨ i = 9 ∨ i = 10 ∨ i = 11 ∨ i = 12 ∨ i = 13 ∨ i = 14 ∨ i = 15 := by omega
  rcases this with rfl | rfl | rfl | rfl | rfl | rfl | rfl | rfl | rfl | rfl | rfl | rfl | rfl | rfl | rfl | rfl <;> simp [hbytes] <;> omega
theorem hb_S {sum kind key val seq : Int} (hs0 : 0 ≤ sum) (hs1 : sum ≤ 4294967295) {L : Nat → Int} (hL : ∀ i, i < 16 → L i = (hbytes sum kind key val seq).getD i 0) : dS L = sum := by
  unfold dS
  rw [hL 0 (by omega), hL 1 (by omega), hL 2 (by omega), hL 3 (by omega)]
  simp [hbytes]
  omega
theorem hb_V {sum kind key val seq : Int} (hs0 : 0 ≤ val) (hs1 : val ≤ 65535) {L : Nat → Int} (hL : ∀ i, i < 16 → L i = (hbytes sum kind key val seq).getD i 0) : dV L = val := by
  unfold dV
  rw [hL 6 (by omega), hL 7 (by omega)]
  simp [hbytes]
  omega
theorem hb_Q {sum kind key val seq : Int} (hs0 : 0 ≤ seq) (hs1 : seq ≤ 1099511627776) {L : Nat → Int} (hL : ∀ i, i < 16 → L i = (hbytes sum kind key val seq).getD i 0) : dQ L = seq := by
  unfold dQ
  rw [hL 8 (by omega), hL 9 (by omega), hL 10 (by omega), hL 11 (by omega), hL 12 (by omega), hL 13 (by omega), hL 14 (by omega), hL 15 (by omega)]
  simp [hbytes]
  omega
theorem hb_4 {sum kind key val seq : Int} (hs0 : 0 ≤ kind) (hs1 : kind ≤ 255) {L : Nat → Int} (hL : ∀ i, i < 16 → L i = (hbytes sum kind key val seq).getD i 0) : L 4 = kind := by
  rw [hL 4 (by omega)]
  simp [hbytes]
  omega
theorem hb_5 {sum kind key val seq : Int} (hs0 : 0 ≤ key) (hs1 : key ≤ 255) {L : Nat → Int} (hL : ∀ i, i < 16 → L i = (hbytes sum kind key val seq).getD i 0) : L 5 = key := by
  rw [hL 5 (by omega)]
  simp [hbytes]
  omega
/-- a valid header comes back from its 16 bytes, whatever follows them -/
theorem dec_back (a : Option Addr) (n cap : Nat) (L : Nat → Int) (sum kind key val seq : Int) (w : World) (hn : 16 ≤ n) (hb : Byts w a n cap L) (hs0 : 0 ≤ sum) (hs1 : sum ≤ 4294967295) (h : HOk kind key val seq)
    (hL : ∀ i, i < 16 → L i = (hbytes sum kind key val seq).getD i 0) :
    Calls Try.prog 18 #[.slice a n cap] w fun e w' => e = .returned (.tuple #[.agg #[.int .u32 sum, .int .i64 kind, .int .i64 key, .int .i64 val, .int .i64 seq], .int .i64 0]) ∧ Below w.heap.size w w' := by
  obtain ⟨k1, k2, k3, k4, k5, k6, k7, k8⟩ := hok_bounds h
  have e1 := hb_S hs0 hs1 hL
  have e2 := hb_V k5 k6 hL
  have e3 := hb_Q k7 k8 hL
  have e4 := hb_4 (by omega) (by omega) hL
  have e5 := hb_5 (by omega) (by omega) hL
  have hd : DOk L := by unfold DOk; rw [e2, e3, e4, e5]; exact h
  refine (dec_yes a n cap L w hn hb hd).mono ?_
  rintro e w1 ⟨rfl, hb⟩
  rw [e1, e2, e3, e4, e5]
  exact ⟨rfl, hb⟩
def zeros (n : Nat) : Array Value := ((List.replicate n (0 : Int)).map (Value.int .u8)).toArray
/-- sixteen zeros are no header -/
theorem dec_zeros {w : World} {g : Nat} (h : Blk w g 5 (zeros 16)) :
    Calls Try.prog 18 #[.slice (some ⟨g, 0, none⟩) 16 16] w fun e w' => e = .returned (.tuple #[.agg #[.int .u32 0, .int .i64 0, .int .i64 0, .int .i64 0, .int .i64 0], .int .i64 8]) ∧ Below w.heap.size w w' := by
  have hB := Byts.of_blk (M := List.replicate 16 (0 : Int)) h (fun i hi => by
    have hi' : i < 16 := by simpa using hi
    rw [List.getD_eq_getElem?_getD, List.getElem?_replicate, if_pos hi']; decide) (by unfold maxLen; decide)
  exact dec_no (some ⟨g, 0, none⟩) 16 16 _ w (by omega) hB (by
    unfold DOk HOk
    simp)

theorem make_any (n : Nat) (h : n ≤ 1000) (w : World) : (Instr.makeSlice 26 (.int .i64 (n : Int)) (.int .i64 (n : Int))).run Try.prog w = .ok (.slice (some ⟨w.heap.size, 0, none⟩) n n) (w.alloc (.cells (zeros n) 5)) := by
  obtain ⟨i0, hi0, hz0, hz1, hz2⟩ := info_parts byte_info
  rw [run_make w _ _ i0 (.int .u8 0) Try.underlying26 hi0 hz0 .i64 .i64 n n (by omega) (Int.le_refl _) (by rw [hz2]; omega) (by omega)]
  rw [hz1]
  have hA : madeCells (Value.int .u8 0).cells ((n : Int).toNat * 1) = zeros n := by
    apply Array.toList_inj.1
    show (madeCells #[Value.int .u8 0] ((n : Int).toNat * 1)).toList = _
    rw [toList_madeCells_one]
    simp [zeros]
  rw [hA]
  simp
theorem wks_bytes : ((hbytes 1 1 2 3 258).map (Value.int .u8)).toArray = #[.int .u8 1, .int .u8 0, .int .u8 0, .int .u8 0, .int .u8 1, .int .u8 2, .int .u8 3, .int .u8 0, .int .u8 2, .int .u8 1, .int .u8 0, .int .u8 0, .int .u8 0, .int .u8 0, .int .u8 0, .int .u8 0] := by rfl
set_option maxHeartbeats 1000000 in
set_option maxRecDepth 100000 in
theorem works_true (w : World) :
    Calls Try.prog 17 #[] w fun e w' => e = .returned (.bool true) ∧ Below w.heap.size w w' := by
  have m15 : ∀ w : World, (Instr.makeSlice 26 (.int .i64 15) (.int .i64 15)).run Try.prog w = .ok (.slice (some ⟨w.heap.size, 0, none⟩) 15 15) (w.alloc (.cells (zeros 15) 5)) := make_any 15 (by omega)
  have m16 : ∀ w : World, (Instr.makeSlice 26 (.int .i64 16) (.int .i64 16)).run Try.prog w = .ok (.slice (some ⟨w.heap.size, 0, none⟩) 16 16) (w.alloc (.cells (zeros 16) 5)) := make_any 16 (by omega)
  go_enter Try.func17, Try.ntmps17
  go_wp2_with fail
  refine (enc_yes 1 1 2 3 258 _ (by omega) (by omega) (by unfold HOk; omega)).mono ?_
  rintro e w1 ⟨⟨v1, rfl, o1⟩, hb1⟩
  have hH := (Blk.new w 24 #[.int .u32 1, .int .i64 1, .int .i64 2, .int .i64 3, .int .i64 258]).below hb1 (by simp)
  have hB := b_then (b_alloc (Below.refl _ w) _) hb1
  have cH := hH.cell
  clear hb1
  go_wp2_with fail
  refine (size_yes 1 1 2 3 258 _ (by unfold HOk; omega)).mono ?_
  rintro e w2 ⟨rfl, hb2⟩
  have oo := o1.later hb2
  clear o1
  have hh := hH.below hb2 hH.lt
  clear hH cH
  have hB' := b_then hB hb2
  clear hB hb2
  obtain ⟨g, cap, rfl, hg, hgl, hc, hm, hby⟩ := Byts.of_own oo (hbytes_bd 1 1 2 3 258) (by decide)
  obtain ⟨A, cap', hA, hRB⟩ := RB.of_own oo
  injection hA with hA1 hA2 hA3
  subst hA1 hA3
  clear oo hg
  go_wp2_with fail
  refine (dec_back (some ⟨g, 0, none⟩) 16 cap _ 1 1 2 3 258 _ (by omega) hby (by omega) (by omega) (by unfold HOk; omega) (fun i _ => rfl)).mono ?_
  rintro e w3 ⟨rfl, hb3⟩
  have hR3 := hRB.keep hb3 (fun b off hq => by injection hq with hq; injection hq with hq; omega)
  have h3 := hh.below hb3 hh.lt
  have hs3 := hb3.size
  have hB3 := b_then hB' hb3
  clear hby hRB hh hB' hb3
  go_wp2_with fail
  refine (dec_torn _ 15 15 _ (by omega)).mono ?_
  rintro e w4 ⟨rfl, hb4⟩
  have hY : Below w3.heap.size w3 w4 := b_then (b_alloc (b_alloc (Below.refl _ w3) _) _) hb4
  have hR4 := hR3.keep hY (fun b off hq => by injection hq with hq; injection hq with hq; omega)
  have h4 := h3.below hY h3.lt
  have hX4 := ((Blk.new w3 24 #[.int .u32 1, .int .i64 1, .int .i64 2, .int .i64 3, .int .i64 258]).alloc (.cells (zeros 15) 5)).below hb4 (by simp; omega)
  have hB4 := b_then hB3 hY
  have hs4 := hY.size
  clear hR3 h3 hb4 hB3 hY
  go_wp2_with fail
  have hz := Blk.new (w4.alloc (.cells #[.int .u32 0, .int .i64 0, .int .i64 0, .int .i64 0, .int .i64 0] 24)) 5 (zeros 16)
  rw [show (w4.alloc (.cells #[.int .u32 0, .int .i64 0, .int .i64 0, .int .i64 0, .int .i64 0] 24)).heap.size = w4.heap.size + 1 from by simp] at hz
  refine (dec_zeros hz).mono ?_
  rintro e w5 ⟨rfl, hb5⟩
  have hY : Below w4.heap.size w4 w5 := b_then (b_alloc (b_alloc (Below.refl _ w4) _) _) hb5
  have hR5 := hR4.keep hY (fun b off hq => by injection hq with hq; injection hq with hq; omega)
  have h5 := h4.below hY h4.lt
  have hX5 := hX4.below hY hX4.lt
  have hB5 := b_then hB4 hY
  have hs5 := hY.size
  clear hR4 h4 hb5 hB4 hY hX4
  go_wp2_with fail
  refine (size_yes 0 3 0 9 0 _ (by unfold HOk; omega)).mono ?_
  rintro e w6 ⟨rfl, hb6⟩
  have hY : Below w5.heap.size w5 w6 := b_then (b_alloc (Below.refl _ w5) _) hb6
  have hR6 := hR5.keep hY (fun b off hq => by injection hq with hq; injection hq with hq; omega)
  have h6 := h5.below hY h5.lt
  have hX6 := hX5.below hY hX5.lt
  have hB6 := b_then hB5 hY
  have hs6 := hY.size
  clear hR5 h5 hb6 hB5 hY hX5
  go_wp2_with fail
  have hL := Blk.new w6 5 ((hbytes 1 1 2 3 258).map (Value.int .u8)).toArray
  rw [wks_bytes] at hL
  have hL' := RB.of_blk (M := hbytes 1 1 2 3 258) (wks_bytes ▸ hL)
  refine (equal_same (some ⟨g, 0, none⟩) (some ⟨w6.heap.size, 0, none⟩) cap 16 (hbytes 1 1 2 3 258) _ (hR6.keep (b_alloc (Below.refl _ w6) _) (fun b off hq => by injection hq with hq; injection hq with hq; omega)) hL').mono ?_
  rintro e w7 ⟨rfl, rfl⟩
  have h7 := (h6.alloc (.cells #[.int .u8 1, .int .u8 0, .int .u8 0, .int .u8 0, .int .u8 1, .int .u8 2, .int .u8 3, .int .u8 0, .int .u8 2, .int .u8 1, .int .u8 0, .int .u8 0, .int .u8 0, .int .u8 0, .int .u8 0, .int .u8 0] 5)).cell
  have hX7 := (hX6.alloc (.cells #[.int .u8 1, .int .u8 0, .int .u8 0, .int .u8 0, .int .u8 1, .int .u8 2, .int .u8 3, .int .u8 0, .int .u8 2, .int .u8 1, .int .u8 0, .int .u8 0, .int .u8 0, .int .u8 0, .int .u8 0, .int .u8 0] 5)).cell
  clear hL hL' h6 hX6 hR6
  have z1 : (hsize 1 2 3 == 21) = true := by rfl
  have z2 : (hsize 3 0 9 == 16) = true := by rfl
  go_wp2_with fail
  refine (check_no 0 1 33 0 1 _ (by unfold HOk; omega)).mono ?_
  rintro e w8 ⟨rfl, hb8⟩
  go_wp2_with fail
  refine (check_no 0 4 1 0 1 _ (by unfold HOk; omega)).mono ?_
  rintro e w9 ⟨rfl, hb9⟩
  go_wp2_with fail
  go_ret
  exact ⟨rfl, b_then (b_then (b_alloc hB6 _) hb8) hb9⟩
end Go.Proofs.Ytagcaepkbilpbaa
