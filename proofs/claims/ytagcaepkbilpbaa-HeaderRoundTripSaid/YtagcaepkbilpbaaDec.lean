/-
  Decoding of headers by both texts; sizes; equality of bytes.
-/
import Derived.Test.YtagcaepkbilpbaaEnc
import Derived.Laws.BytesArg
import Derived.Laws.ResultCell
namespace Go.Proofs.Ytagcaepkbilpbaa
open Go.RowKit
set_option linter.unusedVariables false

theorem size_no (sum kind key val seq : Int) (w : World) (h : ¬HOk kind key val seq) :
    Calls Try.prog 12 #[.agg #[.int .u32 sum, .int .i64 kind, .int .i64 key, .int .i64 val, .int .i64 seq]] w fun e w' => e = .returned (.tuple #[.int .i64 0, .int .i64 2]) ∧ Below w.heap.size w w' := by
  go_enter Try.func12, Try.ntmps12
  go_wp2_with fail
  refine (check_no sum kind key val seq _ h).mono ?_
  rintro e w1 ⟨rfl, hb1⟩
  go_wp2_with fail
  go_ret2
  exact ⟨rfl, b_then (b_alloc (Below.refl _ _) _) hb1⟩
theorem rsize_no (sum kind key val seq : Int) (w : World) (h : ¬HOk kind key val seq) :
    Calls Try.prog 13 #[.agg #[.int .u32 sum, .int .i64 kind, .int .i64 key, .int .i64 val, .int .i64 seq]] w fun e w' => e = .returned (.tuple #[.int .i64 0, .int .i64 2]) ∧ Below w.heap.size w w' := by
  go_enter Try.func13, Try.ntmps13
  go_wp2_with fail
  refine (rcheck_no sum kind key val seq _ h).mono ?_
  rintro e w1 ⟨rfl, hb1⟩
  go_wp2_with fail
  go_ret2
  exact ⟨rfl, b_then (b_alloc (Below.refl _ _) _) hb1⟩
/-- the size of a record or footer with this header -/
def hsize (kind key val : Int) : Int := if kind = 3 then 16 else 16 + key + val
theorem size_yes (sum kind key val seq : Int) (w : World) (h : HOk kind key val seq) :
    Calls Try.prog 12 #[.agg #[.int .u32 sum, .int .i64 kind, .int .i64 key, .int .i64 val, .int .i64 seq]] w fun e w' => e = .returned (.tuple #[.int .i64 (hsize kind key val), .int .i64 0]) ∧ Below w.heap.size w w' := by
  obtain ⟨k1, k2, k3, k4, k5, k6, k7, k8⟩ := hok_bounds h
  by_cases h3 : kind = 3
  · have HS : Hid (hsize kind key val = 16) := by show _ = _; simp [hsize, h3]
    have t3 : (kind == 3) = true := by simp [h3]
    clear h3
    rw [HS.out]
    go_enter Try.func12, Try.ntmps12
    go_wp2_with fail
    refine (check_yes sum kind key val seq _ h).mono ?_
    rintro e w1 ⟨rfl, hb1⟩
    have B1 := ((Blk.new w 24 #[.int .u32 sum, .int .i64 kind, .int .i64 key, .int .i64 val, .int .i64 seq]).below hb1 (by simp)).cell
    go_wp2_with fail
    go_ret2
    exact ⟨rfl, b_then (b_alloc (Below.refl _ _) _) hb1⟩
  · have HS : Hid (hsize kind key val = 16 + key + val) := by show _ = _; simp [hsize, h3]
    have t3 : (kind == 3) = false := by simp [h3]
    clear h3
    rw [HS.out]
    go_enter Try.func12, Try.ntmps12
    go_wp2_with fail
    refine (check_yes sum kind key val seq _ h).mono ?_
    rintro e w1 ⟨rfl, hb1⟩
    have B1 := ((Blk.new w 24 #[.int .u32 sum, .int .i64 kind, .int .i64 key, .int .i64 val, .int .i64 seq]).below hb1 (by simp)).cell
    go_wp2_with fail
    go_ret2
    exact ⟨rfl, b_then (b_alloc (Below.refl _ _) _) hb1⟩
theorem rsize_yes (sum kind key val seq : Int) (w : World) (h : HOk kind key val seq) :
    Calls Try.prog 13 #[.agg #[.int .u32 sum, .int .i64 kind, .int .i64 key, .int .i64 val, .int .i64 seq]] w fun e w' => e = .returned (.tuple #[.int .i64 (hsize kind key val), .int .i64 0]) ∧ Below w.heap.size w w' := by
  obtain ⟨k1, k2, k3, k4, k5, k6, k7, k8⟩ := hok_bounds h
  by_cases h3 : kind = 3
  · have HS : Hid (hsize kind key val = 16) := by show _ = _; simp [hsize, h3]
    have t3 : (kind == 3) = true := by simp [h3]
    clear h3
    rw [HS.out]
    go_enter Try.func13, Try.ntmps13
    go_wp2_with fail
    refine (rcheck_yes sum kind key val seq _ h).mono ?_
    rintro e w1 ⟨rfl, hb1⟩
    have B1 := ((Blk.new w 25 #[.int .u32 sum, .int .i64 kind, .int .i64 key, .int .i64 val, .int .i64 seq]).below hb1 (by simp)).cell
    go_wp2_with fail
    go_ret2
    exact ⟨rfl, b_then (b_alloc (Below.refl _ _) _) hb1⟩
  · have HS : Hid (hsize kind key val = 16 + key + val) := by show _ = _; simp [hsize, h3]
    have t3 : (kind == 3) = false := by simp [h3]
    clear h3
    rw [HS.out]
    go_enter Try.func13, Try.ntmps13
    go_wp2_with fail
    refine (rcheck_yes sum kind key val seq _ h).mono ?_
    rintro e w1 ⟨rfl, hb1⟩
    have B1 := ((Blk.new w 25 #[.int .u32 sum, .int .i64 kind, .int .i64 key, .int .i64 val, .int .i64 seq]).below hb1 (by simp)).cell
    go_wp2_with fail
    go_ret2
    exact ⟨rfl, b_then (b_alloc (Below.refl _ _) _) hb1⟩

/-- a slice of bytes reads as a list: nil, or from some place on -/
def RB (w : World) (A : Option Addr) (M : List Int) : Prop :=
  (A = none ∧ M = []) ∨ ∃ b off : Nat, A = some ⟨b, off, none⟩ ∧ ∀ i, i < M.length → w.cell? ⟨b, off + i, none⟩ = some (.int .u8 (M.getD i 0))
theorem RB.of_own {w : World} {B : Nat} {v : Value} {M : List Int} (h : IsB w B v M) : ∃ A cap, v = .slice A M.length cap ∧ RB w A M := by
  rcases own_form h with ⟨rfl, hn⟩ | ⟨g, cap, rfl, hb, hlt⟩
  · have hM : M = [] := List.eq_nil_of_length_eq_zero hn
    subst hM
    exact ⟨none, 0, rfl, .inl ⟨rfl, rfl⟩⟩
  · refine ⟨_, cap, rfl, .inr ⟨g, 0, rfl, fun i hi => ?_⟩⟩
    have hc := World.ownsRow.cellAt h i (by omega)
    rw [Nat.zero_add, hc, List.getElem?_map, List.getElem?_eq_getElem hi, List.getD_eq_getElem?_getD, List.getElem?_eq_getElem hi]
    rfl
theorem RB.keep {w w' : World} {A : Option Addr} {M : List Int} {B : Nat} (h : RB w A M) (hb : Below B w w') (hk : ∀ b off : Nat, A = some ⟨b, off, none⟩ → b < B) : RB w' A M := by
  rcases h with h | ⟨b, off, rfl, hc⟩
  · exact .inl h
  · exact .inr ⟨b, off, rfl, fun i hi => (hb.cell (p := ⟨b, off + i, none⟩) (hk b off rfl)).trans (hc i hi)⟩
theorem conv_any {w : World} {A : Option Addr} {M : List Int} (h : RB w A M) (cap : Nat) : (convert 26 9 (.slice A M.length cap)).run Try.prog w = .ok (.string (strOfNums M)) w := by
  rcases h with ⟨rfl, rfl⟩ | ⟨b, off, rfl, hc⟩
  · exact run_convert_bytes_nil w _ _ Try.underlying26 Try.underlying5 _ _ _ Try.underlying9
  · exact run_convert_bytes_arg w _ _ Try.underlying26 Try.underlying5 b off _ cap M rfl hc _ Try.underlying9
theorem equal_same (A1 A2 : Option Addr) (c1 c2 : Nat) (M : List Int) (w : World) (h1 : RB w A1 M) (h2 : RB w A2 M) :
    Calls Try.prog 16 #[.slice A1 M.length c1, .slice A2 M.length c2] w fun e w' => e = .returned (.bool true) ∧ w = w' := by
  have q1 := conv_any h1 c1
  have q2 := conv_any h2 c2
  clear h1 h2
  go_enter Try.func16, Try.ntmps16
  go_wp2
  go_ret
  exact ⟨by simp, rfl⟩

/-! What bytes are decoded to. -/
def dS (L : Nat → Int) : Int := ((((L 0) + (L 1) * 256) + (L 2) * 65536) + (L 3) * 16777216)
def dV (L : Nat → Int) : Int := ((L 6) + (L 7) * 256)
def dQ (L : Nat → Int) : Int := ((((((((L 8) + (L 9) * 256) + (L 10) * 65536) + (L 11) * 16777216) + (L 12) * 4294967296) + (L 13) * 1099511627776) + (L 14) * 281474976710656) + (L 15) * 72057594037927936)
def DOk (L : Nat → Int) : Prop := HOk (L 4) (L 5) (dV L) (dQ L)
/-- n bytes that came in -/
def Byts (w : World) (a : Option Addr) (n cap : Nat) (L : Nat → Int) : Prop :=
  n ≤ cap ∧ cap ≤ maxLen ∧ (∀ i, i < n → 0 ≤ L i ∧ L i ≤ 255) ∧ (0 < n → ∃ b off : Nat, a = some ⟨b, off, none⟩ ∧ b < w.heap.size ∧ ∀ i, i < n → w.cell? ⟨b, off + i, none⟩ = some (.int .u8 (L i)))
theorem dS_bd {L : Nat → Int} (h : ∀ i, i < 16 → 0 ≤ L i ∧ L i ≤ 255) : 0 ≤ dS L ∧ dS L ≤ 4294967295 := by
  have h0 := h 0 (by omega); have h1 := h 1 (by omega); have h2 := h 2 (by omega); have h3 := h 3 (by omega)
  unfold dS; omega
theorem dV_bd {L : Nat → Int} (h : ∀ i, i < 16 → 0 ≤ L i ∧ L i ≤ 255) : 0 ≤ dV L ∧ dV L ≤ 65535 := by
  have h0 := h 6 (by omega); have h1 := h 7 (by omega)
  unfold dV; omega
theorem dQ_bd {L : Nat → Int} (h : ∀ i, i < 16 → 0 ≤ L i ∧ L i ≤ 255) : 0 ≤ dQ L ∧ dQ L ≤ 18446744073709551615 := by
  have h0 := h 8 (by omega); have h1 := h 9 (by omega); have h2 := h 10 (by omega); have h3 := h 11 (by omega)
  have h4 := h 12 (by omega); have h5 := h 13 (by omega); have h6 := h 14 (by omega); have h7 := h 15 (by omega)
  unfold dQ; omega

theorem dec_torn (a : Option Addr) (n cap : Nat) (w : World) (hn : n < 16) :
    Calls Try.prog 18 #[.slice a n cap] w fun e w' => e = .returned (.tuple #[.agg #[.int .u32 0, .int .i64 0, .int .i64 0, .int .i64 0, .int .i64 0], .int .i64 14]) ∧ Below w.heap.size w w' := by
  go_enter Try.func18, Try.ntmps18
  go_wp2
  exact bodyPost_ret (v := .tuple #[.agg #[.int .u32 0, .int .i64 0, .int .i64 0, .int .i64 0, .int .i64 0], .int .i64 14]) (by simp [results, Try.results18, go_sem]) rfl ⟨rfl, by repeat first | exact Below.refl _ _ | apply Below.drew | apply b_alloc⟩
theorem rdec_torn (a : Option Addr) (n cap : Nat) (w : World) (hn : n < 16) :
    Calls Try.prog 19 #[.slice a n cap] w fun e w' => e = .returned (.tuple #[.agg #[.int .u32 0, .int .i64 0, .int .i64 0, .int .i64 0, .int .i64 0], .int .i64 14]) ∧ Below w.heap.size w w' := by
  go_enter Try.func19, Try.ntmps19
  go_wp2
  exact bodyPost_ret (v := .tuple #[.agg #[.int .u32 0, .int .i64 0, .int .i64 0, .int .i64 0, .int .i64 0], .int .i64 14]) (by simp [results, Try.results19, go_sem]) rfl ⟨rfl, by repeat first | exact Below.refl _ _ | apply Below.drew | apply b_alloc⟩
end Go.Proofs.Ytagcaepkbilpbaa
