/-
  The examples of the chapter hold.
-/
import Derived.Test.YtkicciinneffcaaRad
namespace Go.Proofs.Ytkicciinneffcaa
open Go.RowKit
set_option linter.unusedVariables false

theorem keyAll_of {s : ByteArray} (h : s.data.toList.all (fun c => kch c.toNat) = true) : keyAll s := fun i hi =>
  List.all_eq_true.1 h _ (Array.getElem_mem_toList (xs := s.data) hi)
theorem not_keyAll_of {s : ByteArray} (h : s.data.toList.all (fun c => kch c.toNat) = false) : ¬ keyAll s := fun hk => by
  have : s.data.toList.all (fun c => kch c.toNat) = true := List.all_eq_true.2 fun c hc => by
    obtain ⟨i, hi, rfl⟩ := List.getElem_of_mem hc
    exact hk i (by simpa using hi)
  rw [h] at this
  cases this
theorem Check_at {s z r wk k v p : Int} {key val : ByteArray} {q : Int} (h : aChk s z r wk k v p key val = q) (w : World) (hk : key.size ≤ maxLen) (hv : val.size ≤ maxLen) :
    Calls Try.prog 13 #[.agg #[.int .i64 s, .int .i64 z, .int .i64 r, .int .i64 wk, .int .i64 k, .int .i64 v, .int .i64 p], .string key, .string val] w fun e w' => e = .returned (.int .i64 q) ∧ Below w.heap.size w w' := h ▸ aCheck_any s z r wk k v p key val w hk hv
theorem Put_at {s z r wk k v p cost old : Int} {key val : ByteArray} {q : Int} (h : aPut s z r wk k v p cost old key val = q) (w : World) (hk : key.size ≤ maxLen) (hv : val.size ≤ maxLen) :
    Calls Try.prog 17 #[.agg #[.int .i64 s, .int .i64 z, .int .i64 r, .int .i64 wk, .int .i64 k, .int .i64 v, .int .i64 p], .int .i64 cost, .int .i64 old, .string key, .string val] w fun e w' => e = .returned (.int .i64 q) ∧ Below w.heap.size w w' := h ▸ Put_any s z r wk k v p cost old key val w hk hv
theorem After_at {cost old : Int} {key val : ByteArray} {a q : Int} (h1 : aVal cost old key val = a) (h2 : aErr cost old key val = q) (w : World) (hk : key.size ≤ maxLen) (hv : val.size ≤ maxLen) :
    Calls Try.prog 11 #[.int .i64 cost, .int .i64 old, .string key, .string val] w fun e w' => e = .returned (.tuple #[.int .i64 a, .int .i64 q]) ∧ Below w.heap.size w w' := h1 ▸ h2 ▸ After_any cost old key val w hk hv
theorem Left_at {s z r wk k v p cost : Int} {a q : Int} (h1 : lVal s z r wk k v p cost = a) (h2 : lErr s z r wk k v p cost = q) (w : World) :
    Calls Try.prog 15 #[.agg #[.int .i64 s, .int .i64 z, .int .i64 r, .int .i64 wk, .int .i64 k, .int .i64 v, .int .i64 p], .int .i64 cost] w fun e w' => e = .returned (.tuple #[.int .i64 a, .int .i64 q]) ∧ Below w.heap.size w w' := h1 ▸ h2 ▸ Left_any s z r wk k v p cost w
theorem sample_any (w : World) :
    Calls Try.prog 24 #[] w fun e w' => e = .returned (.agg #[.int .i64 6, .int .i64 116, .int .i64 2, .int .i64 200, .int .i64 10, .int .i64 20, .int .i64 1]) ∧ Below w.heap.size w w' := by
  go_enter Try.func24, Try.ntmps24
  go_wp2
  exact bodyPost_ret (v := .agg #[.int .i64 6, .int .i64 116, .int .i64 2, .int .i64 200, .int .i64 10, .int .i64 20, .int .i64 1]) (by simp [results, Try.results24, go_sem]) rfl ⟨rfl, (by repeat first | exact Below.refl _ _ | apply Below.drew | apply b_alloc)⟩
theorem sOk : CfgOk 6 116 2 200 10 20 1 := by unfold CfgOk; omega
theorem tOk : CfgOk 4 116 2 200 10 20 1 := by unfold CfgOk; omega
theorem kk : kErr ⟨#[107]⟩ = 0 := kErr_of (keyAll_of (by decide)) (by decide) (by decide)
theorem kK : kErr ⟨#[75]⟩ = 2 := by unfold kErr; rw [if_neg (not_keyAll_of (by decide))]
theorem fk : fErr ⟨#[107]⟩ 10 = 0 := fErr_of (by decide) (by decide) kk (by decide)
theorem fK : fErr ⟨#[75]⟩ 10 = 2 := by unfold fErr; rw [if_neg (by decide), if_pos (by rw [kK]; decide), kK]
theorem k11 : kErr ⟨#[97, 98, 99, 100, 101, 102, 103, 104, 105, 106, 107]⟩ = 0 := kErr_of (keyAll_of (by decide)) (by decide) (by decide)
theorem f11 : fErr ⟨#[97, 98, 99, 100, 101, 102, 103, 104, 105, 106, 107]⟩ 10 = 12 := by unfold fErr; rw [if_neg (by decide), if_neg (by rw [k11]; decide), if_pos (by decide)]
theorem aChk_of {s z r wk k v p : Int} {key val : ByteArray} (hc : CfgOk s z r wk k v p) (hf : fErr key k = 0) (hv : (val.size : Int) ≤ v) : aChk s z r wk k v p key val = 0 := by
  unfold aChk; rw [if_neg (by simpa using hc), if_neg (by simpa using hf), if_neg (by omega)]
theorem aChk_f {s z r wk k v p : Int} {key val : ByteArray} {q : Int} (hc : CfgOk s z r wk k v p) (hf : fErr key k = q) (hq : q ≠ 0) : aChk s z r wk k v p key val = q := by
  unfold aChk; rw [if_neg (by simpa using hc), if_pos (by rw [hf]; exact hq), hf]
theorem aChk_v {s z r wk k v p : Int} {key val : ByteArray} (hc : CfgOk s z r wk k v p) (hf : fErr key k = 0) (hv : v < val.size) : aChk s z r wk k v p key val = 12 := by
  unfold aChk; rw [if_neg (by simpa using hc), if_neg (by simpa using hf), if_pos hv]
theorem aChk_c {s z r wk k v p : Int} {key val : ByteArray} (hc : ¬CfgOk s z r wk k v p) : aChk s z r wk k v p key val = 2 := by
  unfold aChk; rw [if_pos hc]
theorem aPut_e {s z r wk k v p cost old : Int} {key val : ByteArray} {q : Int} (h : aChk s z r wk k v p key val = q) (hq : q ≠ 0) : aPut s z r wk k v p cost old key val = q := by
  unfold aPut; rw [if_pos (by rw [h]; exact hq), h]
theorem aPut_n {s z r wk k v p cost old : Int} {key val : ByteArray} (h : aChk s z r wk k v p key val = 0) (hn : ¬(0 ≤ cost ∧ cost ≤ climit s z r ∧ 0 ≤ old ∧ old ≤ cost)) : aPut s z r wk k v p cost old key val = 2 := by
  unfold aPut; rw [if_neg (by simpa using h), if_pos hn]
theorem aPut_f {s z r wk k v p cost old : Int} {key val : ByteArray} (h : aChk s z r wk k v p key val = 0) (hn : 0 ≤ cost ∧ cost ≤ climit s z r ∧ 0 ≤ old ∧ old ≤ cost) (hl : climit s z r < cost - old + (16 + key.size + val.size)) : aPut s z r wk k v p cost old key val = 4 := by
  unfold aPut; rw [if_neg (by simpa using h), if_neg (by simpa using hn), if_pos hl]
theorem aPut_y {s z r wk k v p cost old : Int} {key val : ByteArray} (h : aChk s z r wk k v p key val = 0) (hn : 0 ≤ cost ∧ cost ≤ climit s z r ∧ 0 ≤ old ∧ old ≤ cost) (hl : cost - old + (16 + key.size + val.size) ≤ climit s z r) : aPut s z r wk k v p cost old key val = 0 := by
  unfold aPut; rw [if_neg (by simpa using h), if_neg (by simpa using hn), if_neg (by omega)]
theorem aErr_of {cost old : Int} {key val : ByteArray} (hn : 0 ≤ cost ∧ cost ≤ 262144 ∧ 0 ≤ old ∧ old ≤ cost) (hk : kErr key = 0) (hv : val.size ≤ 512) : aErr cost old key val = 0 := by
  unfold aErr; rw [if_neg (by simpa using hn), if_neg (by simpa using hk), if_neg (by omega)]
theorem aVal_of {cost old : Int} {key val : ByteArray} (h : aErr cost old key val = 0) : aVal cost old key val = cost - old + (16 + key.size + val.size) := by unfold aVal; rw [if_pos h]
theorem lVal_of {s z r wk k v p cost : Int} (hc : CfgOk s z r wk k v p) (h0 : 0 ≤ cost) (h1 : cost ≤ climit s z r) : lVal s z r wk k v p cost = climit s z r - cost ∧ lErr s z r wk k v p cost = 0 := by
  unfold lVal lErr; rw [if_pos ⟨hc, h0, h1⟩, if_pos ⟨hc, h0, h1⟩]; exact ⟨rfl, rfl⟩
theorem lVal_no {s z r wk k v p cost : Int} (h : ¬(CfgOk s z r wk k v p ∧ 0 ≤ cost ∧ cost ≤ climit s z r)) : lVal s z r wk k v p cost = 0 ∧ lErr s z r wk k v p cost = 2 := by
  unfold lVal lErr; rw [if_neg h, if_neg h]; exact ⟨rfl, rfl⟩
set_option maxHeartbeats 3200000 in
theorem works_true (w : World) : Calls Try.prog 10 #[] w fun e w' => e = .returned (.bool true) ∧ Below w.heap.size w w' := by
  go_enter Try.func10, Try.ntmps10
  go_wp2_with fail
  refine (sample_any _).mono ?_
  rintro e w1 ⟨rfl, hb1⟩
  have hY1 : Below w.heap.size w w1 := b_then (by repeat first | exact Below.refl _ _ | apply Below.drew | apply b_alloc) hb1
  have bel1 := hY1
  clear hb1
  go_wp2_with fail
  refine (After_at (cost := 50) (old := 20) (key := ⟨#[107]⟩) (val := ⟨#[97, 98]⟩) (a := 49) (q := 0) (by rw [aVal_of (aErr_of (by decide) kk (by decide))]; rfl) (aErr_of (by decide) kk (by decide)) _ (by decide) (by decide)).mono ?_
  rintro e w2 ⟨rfl, hb2⟩
  have hY2 : Below w1.heap.size w1 w2 := b_then (by repeat first | exact Below.refl _ _ | apply Below.drew | apply b_alloc) hb2
  have hS2 : Blk w2 (w1.heap.size) 23 #[.int .i64 6, .int .i64 116, .int .i64 2, .int .i64 200, .int .i64 10, .int .i64 20, .int .i64 1] := (hb2.block _ (by simp <;> omega)).trans (by repeat (first | ((with_reducible refine alloc_here' ?_); (simp; done)) | (with_reducible apply alloc_old') | (with_reducible apply drew_old)))
  have bel2 := b_then bel1 hY2
  clear bel1 hb2 hY2
  have cS := hS2.cell
  have lS := hS2.lt
  go_wp2_with fail
  refine (Left_at (a := 19) (q := 0) (lVal_of sOk (cost := 81) (by decide) (by decide)).1 (lVal_of sOk (by decide) (by decide)).2 _).mono ?_
  rintro e w3 ⟨rfl, hb3⟩
  have hY3 : Below w2.heap.size w2 w3 := b_then (by repeat first | exact Below.refl _ _ | apply Below.drew | apply b_alloc) hb3
  have hS3 := hS2.below hY3 hS2.lt
  have bel3 := b_then bel2 hY3
  clear hS2 bel2 hb3 cS lS hY3
  have cS := hS3.cell
  have lS := hS3.lt
  go_wp2_with fail
  refine (Left_at (s := 6) (z := 116) (r := 2) (wk := 200) (k := 10) (v := 20) (p := 1) (cost := 101) (a := 0) (q := 2) (lVal_no (fun h => absurd h.2.2 (by decide))).1 (lVal_no (fun h => absurd h.2.2 (by decide))).2 _).mono ?_
  rintro e w4 ⟨rfl, hb4⟩
  have hY4 : Below w3.heap.size w3 w4 := b_then (by repeat first | exact Below.refl _ _ | apply Below.drew | apply b_alloc) hb4
  have hS4 := hS3.below hY4 hS3.lt
  have bel4 := b_then bel3 hY4
  clear hS3 bel3 hb4 cS lS hY4
  have cS := hS4.cell
  have lS := hS4.lt
  go_wp2_with fail
  refine (Check_at (key := ⟨#[107]⟩) (val := ⟨#[97, 98]⟩) (aChk_of sOk fk (by decide)) _ (by decide) (by decide)).mono ?_
  rintro e w5 ⟨rfl, hb5⟩
  have hY5 : Below w4.heap.size w4 w5 := b_then (by repeat first | exact Below.refl _ _ | apply Below.drew | apply b_alloc) hb5
  have hS5 := hS4.below hY5 hS4.lt
  have bel5 := b_then bel4 hY5
  clear hS4 bel4 hb5 cS lS hY5
  have cS := hS5.cell
  have lS := hS5.lt
  go_wp2_with fail
  refine (Check_at (key := ⟨#[75]⟩) (val := ⟨#[97, 98]⟩) (aChk_f sOk fK (by decide)) _ (by decide) (by decide)).mono ?_
  rintro e w6 ⟨rfl, hb6⟩
  have hY6 : Below w5.heap.size w5 w6 := b_then (by repeat first | exact Below.refl _ _ | apply Below.drew | apply b_alloc) hb6
  have hS6 := hS5.below hY6 hS5.lt
  have bel6 := b_then bel5 hY6
  clear hS5 bel5 hb6 cS lS hY6
  have cS := hS6.cell
  have lS := hS6.lt
  go_wp2_with fail
  refine (Check_at (key := ⟨#[97, 98, 99, 100, 101, 102, 103, 104, 105, 106, 107]⟩) (val := ⟨#[97, 98]⟩) (aChk_f sOk f11 (by decide)) _ (by decide) (by decide)).mono ?_
  rintro e w7 ⟨rfl, hb7⟩
  have hY7 : Below w6.heap.size w6 w7 := b_then (by repeat first | exact Below.refl _ _ | apply Below.drew | apply b_alloc) hb7
  have hS7 := hS6.below hY7 hS6.lt
  have bel7 := b_then bel6 hY7
  clear hS6 bel6 hb7 cS lS hY7
  have cS := hS7.cell
  have lS := hS7.lt
  go_wp2_with fail
  refine (Put_at (cost := 81) (old := 0) (key := ⟨#[107]⟩) (val := ⟨#[97, 98]⟩) (aPut_y (aChk_of sOk fk (by decide)) (by decide) (by decide)) _ (by decide) (by decide)).mono ?_
  rintro e w8 ⟨rfl, hb8⟩
  have hY8 : Below w7.heap.size w7 w8 := b_then (by repeat first | exact Below.refl _ _ | apply Below.drew | apply b_alloc) hb8
  have hS8 := hS7.below hY8 hS7.lt
  have bel8 := b_then bel7 hY8
  clear hS7 bel7 hb8 cS lS hY8
  have cS := hS8.cell
  have lS := hS8.lt
  go_wp2_with fail
  refine (Put_at (cost := 82) (old := 0) (key := ⟨#[107]⟩) (val := ⟨#[97, 98]⟩) (aPut_f (aChk_of sOk fk (by decide)) (by decide) (by decide)) _ (by decide) (by decide)).mono ?_
  rintro e w9 ⟨rfl, hb9⟩
  have hY9 : Below w8.heap.size w8 w9 := b_then (by repeat first | exact Below.refl _ _ | apply Below.drew | apply b_alloc) hb9
  have hS9 := hS8.below hY9 hS8.lt
  have bel9 := b_then bel8 hY9
  clear hS8 bel8 hb9 cS lS hY9
  have cS := hS9.cell
  have lS := hS9.lt
  go_wp2_with fail
  refine (Put_at (cost := 100) (old := 19) (key := ⟨#[107]⟩) (val := ⟨#[97, 98]⟩) (aPut_y (aChk_of sOk fk (by decide)) (by decide) (by decide)) _ (by decide) (by decide)).mono ?_
  rintro e w10 ⟨rfl, hb10⟩
  have hY10 : Below w9.heap.size w9 w10 := b_then (by repeat first | exact Below.refl _ _ | apply Below.drew | apply b_alloc) hb10
  have hS10 := hS9.below hY10 hS9.lt
  have bel10 := b_then bel9 hY10
  clear hS9 bel9 hb10 cS lS hY10
  have cS := hS10.cell
  have lS := hS10.lt
  go_wp2_with fail
  refine (Put_at (cost := 101) (old := 0) (key := ⟨#[107]⟩) (val := ⟨#[97, 98]⟩) (aPut_n (aChk_of sOk fk (by decide)) (by decide)) _ (by decide) (by decide)).mono ?_
  rintro e w11 ⟨rfl, hb11⟩
  have hY11 : Below w10.heap.size w10 w11 := b_then (by repeat first | exact Below.refl _ _ | apply Below.drew | apply b_alloc) hb11
  have hS11 := hS10.below hY11 hS10.lt
  have bel11 := b_then bel10 hY11
  clear hS10 bel10 hb11 cS lS hY11
  have cS := hS11.cell
  have lS := hS11.lt
  go_wp2_with fail
  go_ret
  exact ⟨rfl, bel11⟩
end Go.Proofs.Ytkicciinneffcaa
