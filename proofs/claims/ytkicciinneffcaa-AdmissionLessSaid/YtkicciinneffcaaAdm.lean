/-
  Admission by contract: rules, the limit, which keys and values are accepted, what the cost is afterwards.
-/
import Derived.Test.YtkicciinneffcaaCfh
import Derived.Test.YtkicciinneffcaaKey
import Derived.Test.YtkicciinneffcaaUp
namespace Go.Proofs.Ytkicciinneffcaa
open Go.RowKit
set_option linter.unusedVariables false

/-! What the document says, in plain arithmetic. -/
open Classical in
/-- the error of a string as a key -/
noncomputable def kErr (s : ByteArray) : Int := if keyAll s then keyErr s.size else 2
theorem kErr_any (s : ByteArray) (hs : s.size ≤ maxLen) (w : World) :
    Calls Try.prog 28 #[.string s] w fun e w' => e = .returned (.int .i64 (kErr s)) ∧ Below w.heap.size w w' := by
  unfold kErr
  by_cases h : keyAll s
  · rw [if_pos h]; exact keyc_all s h hs w
  · rw [if_neg h]; exact keyc_bad s h hs w
theorem kErr_zero {s : ByteArray} (h : kErr s = 0) : keyAll s ∧ 1 ≤ s.size ∧ s.size ≤ 32 := by
  unfold kErr at h
  by_cases hk : keyAll s
  · rw [if_pos hk] at h
    unfold keyErr at h
    refine ⟨hk, ?_⟩
    by_cases h0 : s.size = 0
    · rw [if_pos h0] at h; omega
    · rw [if_neg h0] at h
      by_cases h1 : 32 < s.size
      · rw [if_pos h1] at h; omega
      · omega
  · rw [if_neg hk] at h; omega
theorem kErr_of {s : ByteArray} (hk : keyAll s) (h1 : 1 ≤ s.size) (h2 : s.size ≤ 32) : kErr s = 0 := by
  unfold kErr keyErr
  rw [if_pos hk, if_neg (by omega), if_neg (by omega)]
/-- the error of a string as a key of so many bytes -/
noncomputable def fErr (s : ByteArray) (most : Int) : Int :=
  if most < 1 ∨ 32 < most then 2 else if kErr s ≠ 0 then kErr s else if most < s.size then 12 else 0
theorem fErr_zero {s : ByteArray} {most : Int} (h : fErr s most = 0) : 1 ≤ most ∧ most ≤ 32 ∧ kErr s = 0 ∧ (s.size : Int) ≤ most := by
  unfold fErr at h
  by_cases h1 : most < 1 ∨ 32 < most
  · rw [if_pos h1] at h; omega
  · rw [if_neg h1] at h
    by_cases h2 : kErr s = 0
    · rw [if_neg (by simpa using h2)] at h
      by_cases h3 : most < s.size
      · rw [if_pos h3] at h; omega
      · exact ⟨by omega, by omega, h2, by omega⟩
    · rw [if_pos h2] at h; exact absurd h h2
theorem fErr_of {s : ByteArray} {most : Int} (h1 : 1 ≤ most) (h2 : most ≤ 32) (hk : kErr s = 0) (h3 : (s.size : Int) ≤ most) : fErr s most = 0 := by
  unfold fErr
  rw [if_neg (by omega), if_neg (by simpa using hk), if_neg (by omega)]
/-- the greatest cost of a map -/
def climit (s z r : Int) : Int := (s - r - 2) * (z - 16) / 2
theorem climit_bd {s z r wk k v p : Int} (h : CfgOk s z r wk k v p) : 0 ≤ (s - r - 2) * (z - 16) ∧ (s - r - 2) * (z - 16) ≤ 228928 := by
  unfold CfgOk at h
  have a0 : 0 ≤ s - r - 2 := by omega
  have a1 : s - r - 2 ≤ 28 := by omega
  have b0 : 0 ≤ z - 16 := by omega
  have b1 : z - 16 ≤ 8176 := by omega
  refine ⟨Int.mul_nonneg a0 b0, ?_⟩
  have h1 : (s - r - 2) * (z - 16) ≤ 28 * (z - 16) := Int.mul_le_mul_of_nonneg_right a1 b0
  omega
theorem climit_bds {s z r wk k v p : Int} (h : CfgOk s z r wk k v p) : 0 ≤ climit s z r ∧ climit s z r ≤ 114464 := by
  have := climit_bd h
  unfold climit
  omega
/-- which keys and values a configuration accepts -/
noncomputable def aChk (s z r wk k v p : Int) (key val : ByteArray) : Int :=
  open Classical in if ¬CfgOk s z r wk k v p then 2 else if fErr key k ≠ 0 then fErr key k else if v < val.size then 12 else 0
/-- the error of a cost afterwards -/
noncomputable def aErr (cost old : Int) (key val : ByteArray) : Int :=
  if ¬(0 ≤ cost ∧ cost ≤ 262144 ∧ 0 ≤ old ∧ old ≤ cost) then 2 else if kErr key ≠ 0 then kErr key else if 512 < val.size then 12 else 0
/-- the cost afterwards -/
noncomputable def aVal (cost old : Int) (key val : ByteArray) : Int := if aErr cost old key val = 0 then cost - old + (16 + key.size + val.size) else 0
/-- which updates are accepted -/
noncomputable def aPut (s z r wk k v p cost old : Int) (key val : ByteArray) : Int :=
  if aChk s z r wk k v p key val ≠ 0 then aChk s z r wk k v p key val
  else if ¬(0 ≤ cost ∧ cost ≤ climit s z r ∧ 0 ≤ old ∧ old ≤ cost) then 2
  else if climit s z r < cost - old + (16 + key.size + val.size) then 4 else 0
theorem aChk_zero {s z r wk k v p : Int} {key val : ByteArray} (h : aChk s z r wk k v p key val = 0) : CfgOk s z r wk k v p ∧ fErr key k = 0 ∧ (val.size : Int) ≤ v := by
  unfold aChk at h
  by_cases h1 : CfgOk s z r wk k v p
  · rw [if_neg (by simpa using h1)] at h
    by_cases h2 : fErr key k = 0
    · rw [if_neg (by simpa using h2)] at h
      by_cases h3 : v < val.size
      · rw [if_pos h3] at h; omega
      · exact ⟨h1, h2, by omega⟩
    · rw [if_pos h2] at h; exact absurd h h2
  · rw [if_pos h1] at h; omega

/-! The program's functions. -/
theorem cost_any (a b : ByteArray) (w : World) (ha : a.size ≤ 1000000) (hb : b.size ≤ 1000000) :
    Calls Try.prog 22 #[.string a, .string b] w fun e w' => e = .returned (.int .i64 (16 + a.size + b.size)) ∧ w = w' := by
  have h1 : (a.size : Int) ≤ 1000000 := by omega
  have h2 : (b.size : Int) ≤ 1000000 := by omega
  go_enter Try.func22, Try.ntmps22
  go_wp2
  go_ret
  exact ⟨rfl, rfl⟩

theorem fits_lo (s : ByteArray) (most : Int) (hs : s.size ≤ maxLen) (h : most < 1 ∨ 32 < most) (w : World) :
    Calls Try.prog 23 #[.string s, .int .i64 most] w fun e w' => e = .returned (.int .i64 2) ∧ Below w.heap.size w w' := by
  by_cases h1 : most < 1
  · clear h
    go_enter Try.func23, Try.ntmps23
    go_wp2
    go_ret
    exact ⟨rfl, Below.refl _ _⟩
  · have h2 : 32 < most := by omega
    clear h
    go_enter Try.func23, Try.ntmps23
    go_wp2
    go_ret
    exact ⟨rfl, Below.refl _ _⟩
theorem fits_any (s : ByteArray) (most : Int) (hs : s.size ≤ maxLen) (w : World) :
    Calls Try.prog 23 #[.string s, .int .i64 most] w fun e w' => e = .returned (.int .i64 (fErr s most)) ∧ Below w.heap.size w w' := by
  have hs' : (s.size : Int) ≤ 9223372036854775807 := by unfold maxLen at hs; omega
  by_cases h1 : most < 1 ∨ 32 < most
  · have hv : fErr s most = 2 := by unfold fErr; rw [if_pos h1]
    rw [hv]
    exact fits_lo s most hs h1 w
  · have g1 : ¬ most < 1 := by omega
    have g2 : ¬ 32 < most := by omega
    have hck := kErr_any s hs
    by_cases h2 : kErr s = 0
    · rw [h2] at hck
      by_cases h3 : most < s.size
      · have hv : fErr s most = 12 := by unfold fErr; rw [if_neg h1, if_neg (by simpa using h2), if_pos h3]
        rw [hv]
        clear h1 h2 hv
        go_enter Try.func23, Try.ntmps23
        go_wp2_with (go_at_call 28; refine (hck _).mono ?_; rintro e w1 ⟨rfl, hb1⟩)
        go_ret
        exact ⟨rfl, hb1⟩
      · have hv : fErr s most = 0 := by unfold fErr; rw [if_neg h1, if_neg (by simpa using h2), if_neg h3]
        rw [hv]
        clear h1 h2 hv
        go_enter Try.func23, Try.ntmps23
        go_wp2_with (go_at_call 28; refine (hck _).mono ?_; rintro e w1 ⟨rfl, hb1⟩)
        go_ret
        exact ⟨rfl, hb1⟩
    · have hv : fErr s most = kErr s := by unfold fErr; rw [if_neg h1, if_pos h2]
      rw [hv]
      generalize kErr s = q at h2 hck
      have n1 : (q == 0) = false := by simpa using h2
      have n2 : (q != 0) = true := by simpa using h2
      clear h1 h2 hv
      go_enter Try.func23, Try.ntmps23
      go_wp2_with (go_at_call 28; refine (hck _).mono ?_; rintro e w1 ⟨rfl, hb1⟩)
      go_ret
      exact ⟨rfl, hb1⟩

theorem must_any (b : Bool) (e0 : Int) (w : World) :
    Calls Try.prog 26 #[.bool b, .int .i64 e0] w fun e w' =>
      e = .returned (.func (.func 42) #[] #[.pointer (some ⟨w.heap.size, 0, none⟩), .pointer (some ⟨w.heap.size + 1, 0, none⟩)]) ∧ w' = (w.alloc (.cells #[.bool b] 4)).alloc (.cells #[.int .i64 e0] 25) := by
  go_enter Try.func26, Try.ntmps26
  go_wp2
  go_ret
  exact ⟨rfl, rfl⟩
theorem mustf_yes (g1 g2 : Nat) (w : World) (h1 : Blk w g1 4 #[.bool true]) :
    Calls Try.prog 42 #[.pointer (some ⟨g1, 0, none⟩), .pointer (some ⟨g2, 0, none⟩)] w fun e w' => e = .returned (.int .i64 0) ∧ Below w.heap.size w w' := by
  have c1 := h1.cell
  go_enter Try.func42, Try.ntmps42
  go_wp2
  go_ret
  exact ⟨rfl, Below.refl _ _⟩
theorem mustf_no (g1 g2 : Nat) (e0 : Int) (w : World) (h1 : Blk w g1 4 #[.bool false]) (h2 : Blk w g2 25 #[.int .i64 e0]) :
    Calls Try.prog 42 #[.pointer (some ⟨g1, 0, none⟩), .pointer (some ⟨g2, 0, none⟩)] w fun e w' => e = .returned (.int .i64 e0) ∧ Below w.heap.size w w' := by
  have c1 := h1.cell
  have c2 := h2.cell
  go_enter Try.func42, Try.ntmps42
  go_wp2
  go_ret
  exact ⟨rfl, Below.refl _ _⟩

theorem room_any (s z r wk k v p : Int) (w : World) (h0 : 0 ≤ z - 16) (h1 : z ≤ 8192) :
    Calls Try.prog 41 #[.agg #[.int .i64 s, .int .i64 z, .int .i64 r, .int .i64 wk, .int .i64 k, .int .i64 v, .int .i64 p]] w fun e w' => e = .returned (.int .i64 (z - 16)) ∧ Below w.heap.size w w' := by
  have h2 : 16 ≤ z := by omega
  go_enter Try.func41, Try.ntmps41
  go_wp2
  go_ret
  exact ⟨rfl, by repeat first | exact Below.refl _ _ | apply Below.drew | apply b_alloc⟩
def KH7 (W : World) (g : Nat) (s z r wk k v p : Int) (w' : World) : Prop := Below W.heap.size W w' ∧ Blk w' g 23 #[.int .i64 s, .int .i64 z, .int .i64 r, .int .i64 wk, .int .i64 k, .int .i64 v, .int .i64 p]
abbrev H7 (W : World) (g : Nat) (s z r wk k v p : Int) (w' : World) : Prop := w'.cell? ⟨g, 0, none⟩ = some (.int .i64 s) ∧ w'.cell? ⟨g, 1, none⟩ = some (.int .i64 z) ∧ w'.cell? ⟨g, 2, none⟩ = some (.int .i64 r) ∧ w'.cell? ⟨g, 3, none⟩ = some (.int .i64 wk) ∧ w'.cell? ⟨g, 4, none⟩ = some (.int .i64 k) ∧ w'.cell? ⟨g, 5, none⟩ = some (.int .i64 v) ∧ w'.cell? ⟨g, 6, none⟩ = some (.int .i64 p) ∧ KH7 W g s z r wk k v p w'
theorem H7.mk {W : World} {g : Nat} {s z r wk k v p : Int} {w' : World} (h : KH7 W g s z r wk k v p w') : H7 W g s z r wk k v p w' := by
  obtain ⟨hB, h0⟩ := h
  exact ⟨h0.cell 0, h0.cell 1, h0.cell 2, h0.cell 3, h0.cell 4, h0.cell 5, h0.cell 6, ⟨hB, h0⟩⟩
theorem H7.bel {W : World} {g : Nat} {s z r wk k v p : Int} {w' : World} (h : H7 W g s z r wk k v p w') : Below W.heap.size W w' := h.2.2.2.2.2.2.2.1
theorem H7.after {W : World} {g : Nat} {s z r wk k v p : Int} {w w' : World} (h : H7 W g s z r wk k v p w) (hb : Below w.heap.size w w') : H7 W g s z r wk k v p w' := by
  have hk := h.2.2.2.2.2.2.2
  obtain ⟨hB, h0⟩ := hk
  exact H7.mk ⟨b_then hB hb, h0.below hb h0.lt⟩

theorem lim1_any (g : Nat) (s z r wk k v p : Int) (W : World) (hc : CfgOk s z r wk k v p) (hg : Blk W g 23 #[.int .i64 s, .int .i64 z, .int .i64 r, .int .i64 wk, .int .i64 k, .int .i64 v, .int .i64 p]) :
    Calls Try.prog 40 #[.pointer (some ⟨g, 0, none⟩)] W fun e w' => e = .returned (.int .i64 (climit s z r)) ∧ Below W.heap.size W w' := by
  have hb := climit_bd hc
  have hR := room_any s z r wk k v p
  unfold CfgOk at hc
  have u1 : IntKind.i64.wrap (s - r) = s - r := iw64 (by omega) (by omega)
  have u2 : IntKind.i64.wrap (s - r - 2) = s - r - 2 := iw64 (by omega) (by omega)
  have u3 : IntKind.i64.wrap ((s - r - 2) * (z - 16)) = (s - r - 2) * (z - 16) := iw64 (by omega) (by omega)
  have u5 : ((s - r - 2) * (z - 16)).tdiv 2 = (s - r - 2) * (z - 16) / 2 := Int.tdiv_eq_ediv_of_nonneg hb.1
  have u6 : IntKind.i64.wrap ((s - r - 2) * (z - 16) / 2) = (s - r - 2) * (z - 16) / 2 := iw64 (by omega) (by omega)
  have hz0 : 0 ≤ z - 16 := by omega
  have hz1 : z ≤ 8192 := by omega
  have hS1 : H7 W g s z r wk k v p W.drew := H7.mk ⟨Below.drew (Below.refl _ _), hg.drew⟩
  clear hc hb
  go_enter Try.func40, Try.ntmps40
  go_wp2
  go_region_held3 (fun w' => w'.cell? ⟨g, 0, none⟩ = some (.int .i64 s) ∧ w'.cell? ⟨g, 1, none⟩ = some (.int .i64 z) ∧ w'.cell? ⟨g, 2, none⟩ = some (.int .i64 r) ∧ w'.cell? ⟨g, 3, none⟩ = some (.int .i64 wk) ∧ w'.cell? ⟨g, 4, none⟩ = some (.int .i64 k) ∧ w'.cell? ⟨g, 5, none⟩ = some (.int .i64 v) ∧ w'.cell? ⟨g, 6, none⟩ = some (.int .i64 p) ∧ KH7 W g s z r wk k v p w') (first | assumption | exact hS1) (first | (go_at_call 41; refine (hR _ hz0 hz1).mono ?_; rintro e w' ⟨rfl, hbk⟩; have hSk := H7.after (by assumption) hbk))
  go_wp2
  go_ret
  exact ⟨rfl, H7.bel (by assumption)⟩
theorem Limit_yes (s z r wk k v p : Int) (w : World) (h : CfgOk s z r wk k v p) :
    Calls Try.prog 20 #[.agg #[.int .i64 s, .int .i64 z, .int .i64 r, .int .i64 wk, .int .i64 k, .int .i64 v, .int .i64 p]] w fun e w' => e = .returned (.tuple #[.int .i64 (climit s z r), .int .i64 0]) ∧ Below w.heap.size w w' := by
  go_enter Try.func20, Try.ntmps20
  go_wp2_with (first
    | (go_at_call 32; refine (check_yes s z r wk k v p _ h).mono ?_; rintro e w1 ⟨rfl, hb1⟩; have B1 := ((Blk.new w 23 #[.int .i64 s, .int .i64 z, .int .i64 r, .int .i64 wk, .int .i64 k, .int .i64 v, .int .i64 p]).alloc (.cells #[.int .i64 s, .int .i64 z, .int .i64 r, .int .i64 wk, .int .i64 k, .int .i64 v, .int .i64 p] 23)).below hb1 (by simp; omega))
    | (go_at_call 40; refine (lim1_any w.heap.size s z r wk k v p _ h B1).mono ?_; rintro e w2 ⟨rfl, hb2⟩)
    | go_in)
  go_ret2
  exact ⟨rfl, b_then (b_then (by repeat first | exact Below.refl _ _ | apply Below.drew | apply b_alloc) hb1) hb2⟩
theorem Limit_no (s z r wk k v p : Int) (w : World) (h : ¬CfgOk s z r wk k v p) :
    Calls Try.prog 20 #[.agg #[.int .i64 s, .int .i64 z, .int .i64 r, .int .i64 wk, .int .i64 k, .int .i64 v, .int .i64 p]] w fun e w' => e = .returned (.tuple #[.int .i64 0, .int .i64 2]) ∧ Below w.heap.size w w' := by
  go_enter Try.func20, Try.ntmps20
  go_wp2_with (first
    | (go_at_call 32; refine (check_no s z r wk k v p _ h).mono ?_; rintro e w1 ⟨rfl, hb1⟩)
    | go_in)
  go_ret2
  exact ⟨rfl, b_then (by repeat first | exact Below.refl _ _ | apply Below.drew | apply b_alloc) hb1⟩
theorem Left_bad (s z r wk k v p cost : Int) (w : World) (h : ¬CfgOk s z r wk k v p) :
    Calls Try.prog 15 #[.agg #[.int .i64 s, .int .i64 z, .int .i64 r, .int .i64 wk, .int .i64 k, .int .i64 v, .int .i64 p], .int .i64 cost] w fun e w' => e = .returned (.tuple #[.int .i64 0, .int .i64 2]) ∧ Below w.heap.size w w' := by
  go_enter Try.func15, Try.ntmps15
  go_wp2_with (go_at_call 20; refine (Limit_no s z r wk k v p _ h).mono ?_; rintro e w1 ⟨rfl, hb1⟩)
  go_ret2
  exact ⟨rfl, b_then (by repeat first | exact Below.refl _ _ | apply Below.drew | apply b_alloc) hb1⟩
theorem Left_no (s z r wk k v p cost : Int) (w : World) (h : CfgOk s z r wk k v p) (hc : ¬(0 ≤ cost ∧ cost ≤ climit s z r)) :
    Calls Try.prog 15 #[.agg #[.int .i64 s, .int .i64 z, .int .i64 r, .int .i64 wk, .int .i64 k, .int .i64 v, .int .i64 p], .int .i64 cost] w fun e w' => e = .returned (.tuple #[.int .i64 0, .int .i64 2]) ∧ Below w.heap.size w w' := by
  obtain ⟨b1, b2⟩ := climit_bds h
  have hL := Limit_yes s z r wk k v p
  generalize climit s z r = L at hc b1 b2 hL
  by_cases h1 : cost < 0
  · clear hc
    go_enter Try.func15, Try.ntmps15
    go_wp2_with (go_at_call 20; refine (hL _ h).mono ?_; rintro e w1 ⟨rfl, hb1⟩)
    go_ret2
    exact ⟨rfl, b_then (by repeat first | exact Below.refl _ _ | apply Below.drew | apply b_alloc) hb1⟩
  · have h2 : L < cost := by omega
    clear hc
    go_enter Try.func15, Try.ntmps15
    go_wp2_with (go_at_call 20; refine (hL _ h).mono ?_; rintro e w1 ⟨rfl, hb1⟩)
    go_ret2
    exact ⟨rfl, b_then (by repeat first | exact Below.refl _ _ | apply Below.drew | apply b_alloc) hb1⟩
theorem Left_yes (s z r wk k v p cost : Int) (w : World) (h : CfgOk s z r wk k v p) (hc0 : 0 ≤ cost) (hc1 : cost ≤ climit s z r) :
    Calls Try.prog 15 #[.agg #[.int .i64 s, .int .i64 z, .int .i64 r, .int .i64 wk, .int .i64 k, .int .i64 v, .int .i64 p], .int .i64 cost] w fun e w' => e = .returned (.tuple #[.int .i64 (climit s z r - cost), .int .i64 0]) ∧ Below w.heap.size w w' := by
  obtain ⟨b1, b2⟩ := climit_bds h
  have hL := Limit_yes s z r wk k v p
  generalize climit s z r = L at hc1 b1 b2 hL
  go_enter Try.func15, Try.ntmps15
  go_wp2_with (go_at_call 20; refine (hL _ h).mono ?_; rintro e w1 ⟨rfl, hb1⟩)
  go_ret2
  exact ⟨rfl, b_then (by repeat first | exact Below.refl _ _ | apply Below.drew | apply b_alloc) hb1⟩


theorem chk1_yes (g : Nat) (s z r wk k v p : Int) (w : World) (hc : CfgOk s z r wk k v p) (hg : Blk w g 23 #[.int .i64 s, .int .i64 z, .int .i64 r, .int .i64 wk, .int .i64 k, .int .i64 v, .int .i64 p]) :
    Calls Try.prog 31 #[.pointer (some ⟨g, 0, none⟩)] w fun e w' => e = .returned (.int .i64 0) ∧ Below w.heap.size w w' := by
  have c1 := hg.cell
  go_enter Try.func31, Try.ntmps31
  go_wp2_with (go_at_call 32; refine (check_yes s z r wk k v p _ hc).mono ?_; rintro e w1 ⟨rfl, hb1⟩)
  go_ret
  exact ⟨rfl, hb1⟩
theorem chk1_no (g : Nat) (s z r wk k v p : Int) (w : World) (hc : ¬CfgOk s z r wk k v p) (hg : Blk w g 23 #[.int .i64 s, .int .i64 z, .int .i64 r, .int .i64 wk, .int .i64 k, .int .i64 v, .int .i64 p]) :
    Calls Try.prog 31 #[.pointer (some ⟨g, 0, none⟩)] w fun e w' => e = .returned (.int .i64 2) ∧ Below w.heap.size w w' := by
  have c1 := hg.cell
  go_enter Try.func31, Try.ntmps31
  go_wp2_with (go_at_call 32; refine (check_no s z r wk k v p _ hc).mono ?_; rintro e w1 ⟨rfl, hb1⟩)
  go_ret
  exact ⟨rfl, hb1⟩
theorem chk2_any (gk g : Nat) (s z r wk k v p : Int) (key : ByteArray) (w : World) (hk : key.size ≤ maxLen) (hs : Blk w gk 9 #[.string key]) (hg : Blk w g 23 #[.int .i64 s, .int .i64 z, .int .i64 r, .int .i64 wk, .int .i64 k, .int .i64 v, .int .i64 p]) :
    Calls Try.prog 33 #[.pointer (some ⟨gk, 0, none⟩), .pointer (some ⟨g, 0, none⟩)] w fun e w' => e = .returned (.int .i64 (fErr key k)) ∧ Below w.heap.size w w' := by
  have c1 := hg.cell
  have c2 := hs.cell
  go_enter Try.func33, Try.ntmps33
  go_wp2_with (go_at_call 23; refine (fits_any key k hk _).mono ?_; rintro e w1 ⟨rfl, hb1⟩)
  go_ret
  exact ⟨rfl, hb1⟩
set_option maxHeartbeats 1600000 in
theorem acheck_1 (s z r wk k v p : Int) (key val : ByteArray) (w : World) (hk : key.size ≤ maxLen) (hv : val.size ≤ maxLen) (hc : ¬CfgOk s z r wk k v p) (b : Bool) (hb : decide ((val.size : Int) ≤ v) = b) :
    Calls Try.prog 13 #[.agg #[.int .i64 s, .int .i64 z, .int .i64 r, .int .i64 wk, .int .i64 k, .int .i64 v, .int .i64 p], .string key, .string val] w fun e w' => e = .returned (.int .i64 2) ∧ Below w.heap.size w w' := by
  unfold maxLen at hv
  have hv' : (val.size : Int) ≤ 9223372036854775807 := by omega
  go_enter Try.func13, Try.ntmps13
  go_wp2_with (first | (go_at_call 26; refine (must_any _ _ _).mono ?_; rintro e w' ⟨rfl, rfl⟩) | go_in)
  refine wp_loop_rounds 4 ?_
  rw [rounds_succ]
  go_wp2_with fail
  refine (chk1_no w.heap.size s z r wk k v p _ hc (by unfold Blk; repeat (first | ((with_reducible refine alloc_here' ?_); (simp; done)) | (with_reducible apply alloc_old') | (with_reducible apply drew_old)))).mono ?_
  rintro e w1 ⟨rfl, hb1⟩
  have hY1 : Below w.heap.size w w1 := b_then (by repeat first | exact Below.refl _ _ | apply Below.drew | apply b_alloc) hb1
  have hC1 : Blk w1 (w.heap.size) 23 #[.int .i64 s, .int .i64 z, .int .i64 r, .int .i64 wk, .int .i64 k, .int .i64 v, .int .i64 p] := (hb1.block _ (by simp <;> omega)).trans (by repeat (first | ((with_reducible refine alloc_here' ?_); (simp; done)) | (with_reducible apply alloc_old') | (with_reducible apply drew_old)))
  have hK1 : Blk w1 (w.heap.size + 1) 9 #[.string key] := (hb1.block _ (by simp <;> omega)).trans (by repeat (first | ((with_reducible refine alloc_here' ?_); (simp; done)) | (with_reducible apply alloc_old') | (with_reducible apply drew_old)))
  have hB1 : Blk w1 (w.heap.size + 1 + 1) 4 #[.bool b] := (hb1.block _ (by simp <;> omega)).trans (by repeat (first | ((with_reducible refine alloc_here' ?_); (simp; done)) | (with_reducible apply alloc_old') | (with_reducible apply drew_old)))
  have hE1 : Blk w1 (w.heap.size + 1 + 1 + 1) 25 #[.int .i64 12] := (hb1.block _ (by simp <;> omega)).trans (by repeat (first | ((with_reducible refine alloc_here' ?_); (simp; done)) | (with_reducible apply alloc_old') | (with_reducible apply drew_old)))
  have hF1 : Blk w1 (w.heap.size + 1 + 1 + 1 + 1) 48 #[.func (.func 31) #[] #[.pointer (some ⟨w.heap.size, 0, none⟩)], .func (.func 33) #[] #[.pointer (some ⟨w.heap.size + 1, 0, none⟩), .pointer (some ⟨w.heap.size, 0, none⟩)], .func (.func 42) #[] #[.pointer (some ⟨w.heap.size + 1 + 1, 0, none⟩), .pointer (some ⟨w.heap.size + 1 + 1 + 1, 0, none⟩)]] := (hb1.block _ (by simp <;> omega)).trans (by repeat (first | ((with_reducible refine alloc_here' ?_); (simp; done)) | (with_reducible apply alloc_old') | (with_reducible apply drew_old)))
  have bel1 := hY1
  clear hb1
  have cC := hC1.cell
  have lC := hC1.lt
  have cK := hK1.cell
  have lK := hK1.lt
  have cB := hB1.cell
  have lB := hB1.lt
  have cE := hE1.cell
  have lE := hE1.lt
  have cF := hF1.cell
  have lF := hF1.lt
  go_wp2_with fail
  go_ret
  exact ⟨rfl, bel1⟩
set_option maxHeartbeats 1600000 in
theorem acheck_2 (s z r wk k v p : Int) (key val : ByteArray) (w : World) (hk : key.size ≤ maxLen) (hv : val.size ≤ maxLen) (hc : CfgOk s z r wk k v p) (b : Bool) (hb : decide ((val.size : Int) ≤ v) = b) (q : Int) (hq : fErr key k = q) (hq0 : q ≠ 0) :
    Calls Try.prog 13 #[.agg #[.int .i64 s, .int .i64 z, .int .i64 r, .int .i64 wk, .int .i64 k, .int .i64 v, .int .i64 p], .string key, .string val] w fun e w' => e = .returned (.int .i64 q) ∧ Below w.heap.size w w' := by
  unfold maxLen at hv
  have hv' : (val.size : Int) ≤ 9223372036854775807 := by omega
  have hF := fun (w' : World) h1 h2 => chk2_any (w.heap.size + 1) w.heap.size s z r wk k v p key w' hk h1 h2
  rw [hq] at hF
  clear hq
  have n1 : (q == 0) = false := by simpa using hq0
  have n2 : (q != 0) = true := by simpa using hq0
  clear hq0
  go_enter Try.func13, Try.ntmps13
  go_wp2_with (first | (go_at_call 26; refine (must_any _ _ _).mono ?_; rintro e w' ⟨rfl, rfl⟩) | go_in)
  refine wp_loop_rounds 4 ?_
  rw [rounds_succ]
  go_wp2_with fail
  refine (chk1_yes w.heap.size s z r wk k v p _ hc (by unfold Blk; repeat (first | ((with_reducible refine alloc_here' ?_); (simp; done)) | (with_reducible apply alloc_old') | (with_reducible apply drew_old)))).mono ?_
  rintro e w1 ⟨rfl, hb1⟩
  have hY1 : Below w.heap.size w w1 := b_then (by repeat first | exact Below.refl _ _ | apply Below.drew | apply b_alloc) hb1
  have hC1 : Blk w1 (w.heap.size) 23 #[.int .i64 s, .int .i64 z, .int .i64 r, .int .i64 wk, .int .i64 k, .int .i64 v, .int .i64 p] := (hb1.block _ (by simp <;> omega)).trans (by repeat (first | ((with_reducible refine alloc_here' ?_); (simp; done)) | (with_reducible apply alloc_old') | (with_reducible apply drew_old)))
  have hK1 : Blk w1 (w.heap.size + 1) 9 #[.string key] := (hb1.block _ (by simp <;> omega)).trans (by repeat (first | ((with_reducible refine alloc_here' ?_); (simp; done)) | (with_reducible apply alloc_old') | (with_reducible apply drew_old)))
  have hB1 : Blk w1 (w.heap.size + 1 + 1) 4 #[.bool b] := (hb1.block _ (by simp <;> omega)).trans (by repeat (first | ((with_reducible refine alloc_here' ?_); (simp; done)) | (with_reducible apply alloc_old') | (with_reducible apply drew_old)))
  have hE1 : Blk w1 (w.heap.size + 1 + 1 + 1) 25 #[.int .i64 12] := (hb1.block _ (by simp <;> omega)).trans (by repeat (first | ((with_reducible refine alloc_here' ?_); (simp; done)) | (with_reducible apply alloc_old') | (with_reducible apply drew_old)))
  have hF1 : Blk w1 (w.heap.size + 1 + 1 + 1 + 1) 48 #[.func (.func 31) #[] #[.pointer (some ⟨w.heap.size, 0, none⟩)], .func (.func 33) #[] #[.pointer (some ⟨w.heap.size + 1, 0, none⟩), .pointer (some ⟨w.heap.size, 0, none⟩)], .func (.func 42) #[] #[.pointer (some ⟨w.heap.size + 1 + 1, 0, none⟩), .pointer (some ⟨w.heap.size + 1 + 1 + 1, 0, none⟩)]] := (hb1.block _ (by simp <;> omega)).trans (by repeat (first | ((with_reducible refine alloc_here' ?_); (simp; done)) | (with_reducible apply alloc_old') | (with_reducible apply drew_old)))
  have bel1 := hY1
  clear hb1
  have cC := hC1.cell
  have lC := hC1.lt
  have cK := hK1.cell
  have lK := hK1.lt
  have cB := hB1.cell
  have lB := hB1.lt
  have cE := hE1.cell
  have lE := hE1.lt
  have cF := hF1.cell
  have lF := hF1.lt
  go_wp2_with fail
  rw [rounds_succ]
  go_wp2_with fail
  refine (hF _ hK1 hC1).mono ?_
  rintro e w2 ⟨rfl, hb2⟩
  have hY2 : Below w1.heap.size w1 w2 := b_then (by repeat first | exact Below.refl _ _ | apply Below.drew | apply b_alloc) hb2
  have hC2 := hC1.below hY2 hC1.lt
  have hK2 := hK1.below hY2 hK1.lt
  have hB2 := hB1.below hY2 hB1.lt
  have hE2 := hE1.below hY2 hE1.lt
  have hF2 := hF1.below hY2 hF1.lt
  have bel2 := b_then bel1 hY2
  clear hC1 hK1 hB1 hE1 hF1 bel1 hb2 cC lC cK lK cB lB cE lE cF lF hY2
  have cC := hC2.cell
  have lC := hC2.lt
  have cK := hK2.cell
  have lK := hK2.lt
  have cB := hB2.cell
  have lB := hB2.lt
  have cE := hE2.cell
  have lE := hE2.lt
  have cF := hF2.cell
  have lF := hF2.lt
  go_wp2_with fail
  go_ret
  exact ⟨rfl, bel2⟩
set_option maxHeartbeats 1600000 in
theorem acheck_3 (s z r wk k v p : Int) (key val : ByteArray) (w : World) (hk : key.size ≤ maxLen) (hv : val.size ≤ maxLen) (hc : CfgOk s z r wk k v p) (hv1 : v < val.size) (hq : fErr key k = 0) :
    Calls Try.prog 13 #[.agg #[.int .i64 s, .int .i64 z, .int .i64 r, .int .i64 wk, .int .i64 k, .int .i64 v, .int .i64 p], .string key, .string val] w fun e w' => e = .returned (.int .i64 12) ∧ Below w.heap.size w w' := by
  unfold maxLen at hv
  have hv' : (val.size : Int) ≤ 9223372036854775807 := by omega
  have hb : decide ((val.size : Int) ≤ v) = false := decide_eq_false (by omega)
  clear hv1
  have hF := fun (w' : World) h1 h2 => chk2_any (w.heap.size + 1) w.heap.size s z r wk k v p key w' hk h1 h2
  rw [hq] at hF
  clear hq
  go_enter Try.func13, Try.ntmps13
  go_wp2_with (first | (go_at_call 26; refine (must_any _ _ _).mono ?_; rintro e w' ⟨rfl, rfl⟩) | go_in)
  refine wp_loop_rounds 4 ?_
  rw [rounds_succ]
  go_wp2_with fail
  refine (chk1_yes w.heap.size s z r wk k v p _ hc (by unfold Blk; repeat (first | ((with_reducible refine alloc_here' ?_); (simp; done)) | (with_reducible apply alloc_old') | (with_reducible apply drew_old)))).mono ?_
  rintro e w1 ⟨rfl, hb1⟩
  have hY1 : Below w.heap.size w w1 := b_then (by repeat first | exact Below.refl _ _ | apply Below.drew | apply b_alloc) hb1
  have hC1 : Blk w1 (w.heap.size) 23 #[.int .i64 s, .int .i64 z, .int .i64 r, .int .i64 wk, .int .i64 k, .int .i64 v, .int .i64 p] := (hb1.block _ (by simp <;> omega)).trans (by repeat (first | ((with_reducible refine alloc_here' ?_); (simp; done)) | (with_reducible apply alloc_old') | (with_reducible apply drew_old)))
  have hK1 : Blk w1 (w.heap.size + 1) 9 #[.string key] := (hb1.block _ (by simp <;> omega)).trans (by repeat (first | ((with_reducible refine alloc_here' ?_); (simp; done)) | (with_reducible apply alloc_old') | (with_reducible apply drew_old)))
  have hB1 : Blk w1 (w.heap.size + 1 + 1) 4 #[.bool false] := (hb1.block _ (by simp <;> omega)).trans (by repeat (first | ((with_reducible refine alloc_here' ?_); (simp; done)) | (with_reducible apply alloc_old') | (with_reducible apply drew_old)))
  have hE1 : Blk w1 (w.heap.size + 1 + 1 + 1) 25 #[.int .i64 12] := (hb1.block _ (by simp <;> omega)).trans (by repeat (first | ((with_reducible refine alloc_here' ?_); (simp; done)) | (with_reducible apply alloc_old') | (with_reducible apply drew_old)))
  have hF1 : Blk w1 (w.heap.size + 1 + 1 + 1 + 1) 48 #[.func (.func 31) #[] #[.pointer (some ⟨w.heap.size, 0, none⟩)], .func (.func 33) #[] #[.pointer (some ⟨w.heap.size + 1, 0, none⟩), .pointer (some ⟨w.heap.size, 0, none⟩)], .func (.func 42) #[] #[.pointer (some ⟨w.heap.size + 1 + 1, 0, none⟩), .pointer (some ⟨w.heap.size + 1 + 1 + 1, 0, none⟩)]] := (hb1.block _ (by simp <;> omega)).trans (by repeat (first | ((with_reducible refine alloc_here' ?_); (simp; done)) | (with_reducible apply alloc_old') | (with_reducible apply drew_old)))
  have bel1 := hY1
  clear hb1
  have cC := hC1.cell
  have lC := hC1.lt
  have cK := hK1.cell
  have lK := hK1.lt
  have cB := hB1.cell
  have lB := hB1.lt
  have cE := hE1.cell
  have lE := hE1.lt
  have cF := hF1.cell
  have lF := hF1.lt
  go_wp2_with fail
  rw [rounds_succ]
  go_wp2_with fail
  refine (hF _ hK1 hC1).mono ?_
  rintro e w2 ⟨rfl, hb2⟩
  have hY2 : Below w1.heap.size w1 w2 := b_then (by repeat first | exact Below.refl _ _ | apply Below.drew | apply b_alloc) hb2
  have hC2 := hC1.below hY2 hC1.lt
  have hK2 := hK1.below hY2 hK1.lt
  have hB2 := hB1.below hY2 hB1.lt
  have hE2 := hE1.below hY2 hE1.lt
  have hF2 := hF1.below hY2 hF1.lt
  have bel2 := b_then bel1 hY2
  clear hC1 hK1 hB1 hE1 hF1 bel1 hb2 cC lC cK lK cB lB cE lE cF lF hY2
  have cC := hC2.cell
  have lC := hC2.lt
  have cK := hK2.cell
  have lK := hK2.lt
  have cB := hB2.cell
  have lB := hB2.lt
  have cE := hE2.cell
  have lE := hE2.lt
  have cF := hF2.cell
  have lF := hF2.lt
  go_wp2_with fail
  rw [rounds_succ]
  go_wp2_with fail
  refine (mustf_no (w.heap.size + 1 + 1) (w.heap.size + 1 + 1 + 1) 12 _ hB2 hE2).mono ?_
  rintro e w3 ⟨rfl, hb3⟩
  have hY3 : Below w2.heap.size w2 w3 := b_then (by repeat first | exact Below.refl _ _ | apply Below.drew | apply b_alloc) hb3
  have hC3 := hC2.below hY3 hC2.lt
  have hK3 := hK2.below hY3 hK2.lt
  have hB3 := hB2.below hY3 hB2.lt
  have hE3 := hE2.below hY3 hE2.lt
  have hF3 := hF2.below hY3 hF2.lt
  have bel3 := b_then bel2 hY3
  clear hC2 hK2 hB2 hE2 hF2 bel2 hb3 cC lC cK lK cB lB cE lE cF lF hY3
  have cC := hC3.cell
  have lC := hC3.lt
  have cK := hK3.cell
  have lK := hK3.lt
  have cB := hB3.cell
  have lB := hB3.lt
  have cE := hE3.cell
  have lE := hE3.lt
  have cF := hF3.cell
  have lF := hF3.lt
  go_wp2_with fail
  go_ret
  exact ⟨rfl, bel3⟩
set_option maxHeartbeats 1600000 in
theorem acheck_4 (s z r wk k v p : Int) (key val : ByteArray) (w : World) (hk : key.size ≤ maxLen) (hv : val.size ≤ maxLen) (hc : CfgOk s z r wk k v p) (hv1 : (val.size : Int) ≤ v) (hq : fErr key k = 0) :
    Calls Try.prog 13 #[.agg #[.int .i64 s, .int .i64 z, .int .i64 r, .int .i64 wk, .int .i64 k, .int .i64 v, .int .i64 p], .string key, .string val] w fun e w' => e = .returned (.int .i64 0) ∧ Below w.heap.size w w' := by
  unfold maxLen at hv
  have hv' : (val.size : Int) ≤ 9223372036854775807 := by omega
  have hb : decide ((val.size : Int) ≤ v) = true := decide_eq_true hv1
  clear hv1
  have hF := fun (w' : World) h1 h2 => chk2_any (w.heap.size + 1) w.heap.size s z r wk k v p key w' hk h1 h2
  rw [hq] at hF
  clear hq
  go_enter Try.func13, Try.ntmps13
  go_wp2_with (first | (go_at_call 26; refine (must_any _ _ _).mono ?_; rintro e w' ⟨rfl, rfl⟩) | go_in)
  refine wp_loop_rounds 4 ?_
  rw [rounds_succ]
  go_wp2_with fail
  refine (chk1_yes w.heap.size s z r wk k v p _ hc (by unfold Blk; repeat (first | ((with_reducible refine alloc_here' ?_); (simp; done)) | (with_reducible apply alloc_old') | (with_reducible apply drew_old)))).mono ?_
  rintro e w1 ⟨rfl, hb1⟩
  have hY1 : Below w.heap.size w w1 := b_then (by repeat first | exact Below.refl _ _ | apply Below.drew | apply b_alloc) hb1
  have hC1 : Blk w1 (w.heap.size) 23 #[.int .i64 s, .int .i64 z, .int .i64 r, .int .i64 wk, .int .i64 k, .int .i64 v, .int .i64 p] := (hb1.block _ (by simp <;> omega)).trans (by repeat (first | ((with_reducible refine alloc_here' ?_); (simp; done)) | (with_reducible apply alloc_old') | (with_reducible apply drew_old)))
  have hK1 : Blk w1 (w.heap.size + 1) 9 #[.string key] := (hb1.block _ (by simp <;> omega)).trans (by repeat (first | ((with_reducible refine alloc_here' ?_); (simp; done)) | (with_reducible apply alloc_old') | (with_reducible apply drew_old)))
  have hB1 : Blk w1 (w.heap.size + 1 + 1) 4 #[.bool true] := (hb1.block _ (by simp <;> omega)).trans (by repeat (first | ((with_reducible refine alloc_here' ?_); (simp; done)) | (with_reducible apply alloc_old') | (with_reducible apply drew_old)))
  have hE1 : Blk w1 (w.heap.size + 1 + 1 + 1) 25 #[.int .i64 12] := (hb1.block _ (by simp <;> omega)).trans (by repeat (first | ((with_reducible refine alloc_here' ?_); (simp; done)) | (with_reducible apply alloc_old') | (with_reducible apply drew_old)))
  have hF1 : Blk w1 (w.heap.size + 1 + 1 + 1 + 1) 48 #[.func (.func 31) #[] #[.pointer (some ⟨w.heap.size, 0, none⟩)], .func (.func 33) #[] #[.pointer (some ⟨w.heap.size + 1, 0, none⟩), .pointer (some ⟨w.heap.size, 0, none⟩)], .func (.func 42) #[] #[.pointer (some ⟨w.heap.size + 1 + 1, 0, none⟩), .pointer (some ⟨w.heap.size + 1 + 1 + 1, 0, none⟩)]] := (hb1.block _ (by simp <;> omega)).trans (by repeat (first | ((with_reducible refine alloc_here' ?_); (simp; done)) | (with_reducible apply alloc_old') | (with_reducible apply drew_old)))
  have bel1 := hY1
  clear hb1
  have cC := hC1.cell
  have lC := hC1.lt
  have cK := hK1.cell
  have lK := hK1.lt
  have cB := hB1.cell
  have lB := hB1.lt
  have cE := hE1.cell
  have lE := hE1.lt
  have cF := hF1.cell
  have lF := hF1.lt
  go_wp2_with fail
  rw [rounds_succ]
  go_wp2_with fail
  refine (hF _ hK1 hC1).mono ?_
  rintro e w2 ⟨rfl, hb2⟩
  have hY2 : Below w1.heap.size w1 w2 := b_then (by repeat first | exact Below.refl _ _ | apply Below.drew | apply b_alloc) hb2
  have hC2 := hC1.below hY2 hC1.lt
  have hK2 := hK1.below hY2 hK1.lt
  have hB2 := hB1.below hY2 hB1.lt
  have hE2 := hE1.below hY2 hE1.lt
  have hF2 := hF1.below hY2 hF1.lt
  have bel2 := b_then bel1 hY2
  clear hC1 hK1 hB1 hE1 hF1 bel1 hb2 cC lC cK lK cB lB cE lE cF lF hY2
  have cC := hC2.cell
  have lC := hC2.lt
  have cK := hK2.cell
  have lK := hK2.lt
  have cB := hB2.cell
  have lB := hB2.lt
  have cE := hE2.cell
  have lE := hE2.lt
  have cF := hF2.cell
  have lF := hF2.lt
  go_wp2_with fail
  rw [rounds_succ]
  go_wp2_with fail
  refine (mustf_yes (w.heap.size + 1 + 1) (w.heap.size + 1 + 1 + 1) _ hB2 ).mono ?_
  rintro e w3 ⟨rfl, hb3⟩
  have hY3 : Below w2.heap.size w2 w3 := b_then (by repeat first | exact Below.refl _ _ | apply Below.drew | apply b_alloc) hb3
  have hC3 := hC2.below hY3 hC2.lt
  have hK3 := hK2.below hY3 hK2.lt
  have hB3 := hB2.below hY3 hB2.lt
  have hE3 := hE2.below hY3 hE2.lt
  have hF3 := hF2.below hY3 hF2.lt
  have bel3 := b_then bel2 hY3
  clear hC2 hK2 hB2 hE2 hF2 bel2 hb3 cC lC cK lK cB lB cE lE cF lF hY3
  have cC := hC3.cell
  have lC := hC3.lt
  have cK := hK3.cell
  have lK := hK3.lt
  have cB := hB3.cell
  have lB := hB3.lt
  have cE := hE3.cell
  have lE := hE3.lt
  have cF := hF3.cell
  have lF := hF3.lt
  go_wp2_with fail
  rw [rounds_succ]
  go_wp2_with fail
  go_ret
  exact ⟨rfl, bel3⟩
theorem aCheck_any (s z r wk k v p : Int) (key val : ByteArray) (w : World) (hk : key.size ≤ maxLen) (hv : val.size ≤ maxLen) :
    Calls Try.prog 13 #[.agg #[.int .i64 s, .int .i64 z, .int .i64 r, .int .i64 wk, .int .i64 k, .int .i64 v, .int .i64 p], .string key, .string val] w fun e w' => e = .returned (.int .i64 (aChk s z r wk k v p key val)) ∧ Below w.heap.size w w' := by
  by_cases h1 : CfgOk s z r wk k v p
  · by_cases h2 : fErr key k = 0
    · by_cases h3 : v < val.size
      · have hr : aChk s z r wk k v p key val = 12 := by unfold aChk; rw [if_neg (by simpa using h1), if_neg (by simpa using h2), if_pos h3]
        rw [hr]
        exact acheck_3 s z r wk k v p key val w hk hv h1 h3 h2
      · have hr : aChk s z r wk k v p key val = 0 := by unfold aChk; rw [if_neg (by simpa using h1), if_neg (by simpa using h2), if_neg h3]
        rw [hr]
        exact acheck_4 s z r wk k v p key val w hk hv h1 (by omega) h2
    · have hr : aChk s z r wk k v p key val = fErr key k := by unfold aChk; rw [if_neg (by simpa using h1), if_pos h2]
      rw [hr]
      exact acheck_2 s z r wk k v p key val w hk hv h1 _ rfl _ rfl h2
  · have hr : aChk s z r wk k v p key val = 2 := by unfold aChk; rw [if_pos h1]
    rw [hr]
    exact acheck_1 s z r wk k v p key val w hk hv h1 _ rfl
end Go.Proofs.Ytkicciinneffcaa
