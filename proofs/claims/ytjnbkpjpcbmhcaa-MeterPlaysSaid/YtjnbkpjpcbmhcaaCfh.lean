/-
  The configuration's check by both texts is one predicate; the greatest record; what a call may append.
-/
import Derived.Test.YtjnbkpjpcbmhcaaCfg
namespace Go.Proofs.Ytjnbkpjpcbmhcaa
open Go.RowKit

/-- the configuration is valid -/
def CfgOk (s z r wk k v p : Int) : Prop :=
  2 ≤ r ∧ r ≤ 8 ∧ r + 2 ≤ s ∧ s ≤ 32 ∧ 1 ≤ k ∧ k ≤ 32 ∧ 0 ≤ v ∧ v ≤ 512 ∧ 32 + k + v ≤ z ∧ z ≤ 8192 ∧ 64 + 2 * k + 2 * v ≤ wk ∧ wk ≤ 65536 ∧ 1 ≤ p ∧ p ≤ 2

theorem w64 {n : Int} (h : -9223372036854775808 ≤ n) (h' : n ≤ 9223372036854775807) : wrap64 n = n := by unfold wrap64; omega
theorem iw64 {n : Int} (h : -9223372036854775808 ≤ n) (h' : n ≤ 9223372036854775807) : IntKind.i64.wrap n = n := by
  rw [IntKind.wrap_i64]; omega

theorem chkW_of {s z r wk k v p : Int} (h : CfgOk s z r wk k v p) :
    chkW s z r wk k v p (IntKind.i64.wrap (r + 2)) (IntKind.i64.wrap (16 + wrap64 (wrap64 (16 + k) + v))) (IntKind.i64.wrap (2 * IntKind.i64.wrap (wrap64 (wrap64 (16 + k) + v) + 16))) = 0 := by
  unfold CfgOk at h
  rw [iw64 (n := r + 2) (by omega) (by omega), w64 (n := 16 + k) (by omega) (by omega), w64 (n := 16 + k + v) (by omega) (by omega), iw64 (n := 16 + (16 + k + v)) (by omega) (by omega),
    iw64 (n := 16 + k + v + 16) (by omega) (by omega), iw64 (n := 2 * (16 + k + v + 16)) (by omega) (by omega)]
  unfold chkW
  rw [if_pos (by omega)]
theorem chkW_not {s z r wk k v p : Int} (h : ¬CfgOk s z r wk k v p) :
    chkW s z r wk k v p (IntKind.i64.wrap (r + 2)) (IntKind.i64.wrap (16 + wrap64 (wrap64 (16 + k) + v))) (IntKind.i64.wrap (2 * IntKind.i64.wrap (wrap64 (wrap64 (16 + k) + v) + 16))) = 2 := by
  by_cases hr : 2 ≤ r ∧ r ≤ 8 ∧ 1 ≤ k ∧ k ≤ 32 ∧ 0 ≤ v ∧ v ≤ 512
  · unfold CfgOk at h
    rw [iw64 (n := r + 2) (by omega) (by omega), w64 (n := 16 + k) (by omega) (by omega), w64 (n := 16 + k + v) (by omega) (by omega), iw64 (n := 16 + (16 + k + v)) (by omega) (by omega),
      iw64 (n := 16 + k + v + 16) (by omega) (by omega), iw64 (n := 2 * (16 + k + v + 16)) (by omega) (by omega)]
    unfold chkW
    rw [if_neg (by omega)]
  · unfold chkW
    rw [if_neg]
    rintro ⟨h1, h2, _, _, h3, h4, h5, h6, _⟩
    exact hr ⟨h1, h2, h3, h4, h5, h6⟩

theorem check_yes (s z r wk k v p : Int) (w : World) (h : CfgOk s z r wk k v p) :
    Calls Try.prog 44 #[.agg #[.int .i64 s, .int .i64 z, .int .i64 r, .int .i64 wk, .int .i64 k, .int .i64 v, .int .i64 p]] w fun e w' =>
      e = .returned (.int .i64 0) ∧ Below w.heap.size w w' := by
  have c := check_raw s z r wk k v p w
  rw [chkW_of h] at c
  exact c
theorem check_no (s z r wk k v p : Int) (w : World) (h : ¬CfgOk s z r wk k v p) :
    Calls Try.prog 44 #[.agg #[.int .i64 s, .int .i64 z, .int .i64 r, .int .i64 wk, .int .i64 k, .int .i64 v, .int .i64 p]] w fun e w' =>
      e = .returned (.int .i64 2) ∧ Below w.heap.size w w' := by
  have c := check_raw s z r wk k v p w
  rw [chkW_not h] at c
  exact c

/-! The reference's check. -/
def inB (n a b : Int) : Bool := decide (a ≤ n ∧ n ≤ b)
theorem in_any (n a b : Int) (w : World) :
    Calls Try.prog 47 #[.int .i64 n, .int .i64 a, .int .i64 b] w fun e w' => e = .returned (.bool (inB n a b)) ∧ w = w' := by
  by_cases h1 : a ≤ n
  · by_cases h2 : n ≤ b
    · go_enter Try.func47, Try.ntmps47
      go_wp2
      go_ret
      exact ⟨by simp [inB, h1, h2], rfl⟩
    · go_enter Try.func47, Try.ntmps47
      go_wp2
      go_ret
      exact ⟨by simp [inB, h1, h2], rfl⟩
  · go_enter Try.func47, Try.ntmps47
    go_wp2
    go_ret
    exact ⟨by simp [inB]; omega, rfl⟩

def refW (b1 b2 b3 b4 b5 b6 b7 : Bool) : Int := if b1 && b2 && b3 && b4 && b5 && b6 && b7 then 0 else 2
set_option maxHeartbeats 1600000 in
theorem rcheck_raw (s z r wk k v p : Int) (w : World) :
    Calls Try.prog 43 #[.agg #[.int .i64 s, .int .i64 z, .int .i64 r, .int .i64 wk, .int .i64 k, .int .i64 v, .int .i64 p]] w fun e w' =>
      e = .returned (.int .i64 (refW (inB r 2 8) (inB s (wrap64 (r + 2)) 32) (inB k 1 32) (inB v 0 512) (inB z (wrap64 (16 + wrap64 (wrap64 (16 + k) + v))) 8192) (inB wk (wrap64 (2 * wrap64 (wrap64 (wrap64 (16 + k) + v) + 16))) 65536) (inB p 1 2))) ∧ Below w.heap.size w w' := by
  cases h1 : inB r 2 8
  case true =>
   cases h2 : inB s (wrap64 (r + 2)) 32
   case true =>
    cases h3 : inB k 1 32
    case true =>
     cases h4 : inB v 0 512
     case true =>
      cases h5 : inB z (wrap64 (16 + wrap64 (wrap64 (16 + k) + v))) 8192
      case true =>
       cases h6 : inB wk (wrap64 (2 * wrap64 (wrap64 (wrap64 (16 + k) + v) + 16))) 65536
       case true =>
        cases h7 : inB p 1 2
        all_goals
          go_enter Try.func43, Try.ntmps43
          go_wp2_with (go_at_call 47; refine (in_any _ _ _ _).mono ?_; rintro e w' ⟨rfl, rfl⟩)
          go_ret
          exact ⟨rfl, by repeat first | exact Below.refl _ _ | apply Below.drew | apply b_alloc⟩
       case false =>
        go_enter Try.func43, Try.ntmps43
        go_wp2_with (go_at_call 47; refine (in_any _ _ _ _).mono ?_; rintro e w' ⟨rfl, rfl⟩)
        go_ret
        exact ⟨rfl, by repeat first | exact Below.refl _ _ | apply Below.drew | apply b_alloc⟩
      case false =>
        go_enter Try.func43, Try.ntmps43
        go_wp2_with (go_at_call 47; refine (in_any _ _ _ _).mono ?_; rintro e w' ⟨rfl, rfl⟩)
        go_ret
        exact ⟨rfl, by repeat first | exact Below.refl _ _ | apply Below.drew | apply b_alloc⟩
     case false =>
        go_enter Try.func43, Try.ntmps43
        go_wp2_with (go_at_call 47; refine (in_any _ _ _ _).mono ?_; rintro e w' ⟨rfl, rfl⟩)
        go_ret
        exact ⟨rfl, by repeat first | exact Below.refl _ _ | apply Below.drew | apply b_alloc⟩
    case false =>
        go_enter Try.func43, Try.ntmps43
        go_wp2_with (go_at_call 47; refine (in_any _ _ _ _).mono ?_; rintro e w' ⟨rfl, rfl⟩)
        go_ret
        exact ⟨rfl, by repeat first | exact Below.refl _ _ | apply Below.drew | apply b_alloc⟩
   case false =>
        go_enter Try.func43, Try.ntmps43
        go_wp2_with (go_at_call 47; refine (in_any _ _ _ _).mono ?_; rintro e w' ⟨rfl, rfl⟩)
        go_ret
        exact ⟨rfl, by repeat first | exact Below.refl _ _ | apply Below.drew | apply b_alloc⟩
  case false =>
        go_enter Try.func43, Try.ntmps43
        go_wp2_with (go_at_call 47; refine (in_any _ _ _ _).mono ?_; rintro e w' ⟨rfl, rfl⟩)
        go_ret
        exact ⟨rfl, by repeat first | exact Below.refl _ _ | apply Below.drew | apply b_alloc⟩
theorem refW_of {s z r wk k v p : Int} (h : CfgOk s z r wk k v p) :
    refW (inB r 2 8) (inB s (wrap64 (r + 2)) 32) (inB k 1 32) (inB v 0 512) (inB z (wrap64 (16 + wrap64 (wrap64 (16 + k) + v))) 8192) (inB wk (wrap64 (2 * wrap64 (wrap64 (wrap64 (16 + k) + v) + 16))) 65536) (inB p 1 2) = 0 := by
  unfold CfgOk at h
  rw [w64 (n := r + 2) (by omega) (by omega), w64 (n := 16 + k) (by omega) (by omega), w64 (n := 16 + k + v) (by omega) (by omega), w64 (n := 16 + (16 + k + v)) (by omega) (by omega),
    w64 (n := 16 + k + v + 16) (by omega) (by omega), w64 (n := 2 * (16 + k + v + 16)) (by omega) (by omega)]
  unfold refW inB
  rw [if_pos]
  simp only [Bool.and_eq_true, decide_eq_true_eq]
  omega
theorem refW_not {s z r wk k v p : Int} (h : ¬CfgOk s z r wk k v p) :
    refW (inB r 2 8) (inB s (wrap64 (r + 2)) 32) (inB k 1 32) (inB v 0 512) (inB z (wrap64 (16 + wrap64 (wrap64 (16 + k) + v))) 8192) (inB wk (wrap64 (2 * wrap64 (wrap64 (wrap64 (16 + k) + v) + 16))) 65536) (inB p 1 2) = 2 := by
  by_cases hr : 2 ≤ r ∧ r ≤ 8 ∧ 1 ≤ k ∧ k ≤ 32 ∧ 0 ≤ v ∧ v ≤ 512
  · unfold CfgOk at h
    rw [w64 (n := r + 2) (by omega) (by omega), w64 (n := 16 + k) (by omega) (by omega), w64 (n := 16 + k + v) (by omega) (by omega), w64 (n := 16 + (16 + k + v)) (by omega) (by omega),
      w64 (n := 16 + k + v + 16) (by omega) (by omega), w64 (n := 2 * (16 + k + v + 16)) (by omega) (by omega)]
    unfold refW inB
    rw [if_neg]
    simp only [Bool.and_eq_true, decide_eq_true_eq]
    omega
  · unfold refW inB
    rw [if_neg]
    simp only [Bool.and_eq_true, decide_eq_true_eq]
    rintro ⟨⟨⟨⟨⟨⟨h1, _⟩, h3⟩, h4⟩, _⟩, _⟩, _⟩
    exact hr ⟨h1.1, h1.2, h3.1, h3.2, h4.1, h4.2⟩
theorem rcheck_yes (s z r wk k v p : Int) (w : World) (h : CfgOk s z r wk k v p) :
    Calls Try.prog 43 #[.agg #[.int .i64 s, .int .i64 z, .int .i64 r, .int .i64 wk, .int .i64 k, .int .i64 v, .int .i64 p]] w fun e w' =>
      e = .returned (.int .i64 0) ∧ Below w.heap.size w w' := by
  have c := rcheck_raw s z r wk k v p w
  rw [refW_of h] at c
  exact c
theorem rcheck_no (s z r wk k v p : Int) (w : World) (h : ¬CfgOk s z r wk k v p) :
    Calls Try.prog 43 #[.agg #[.int .i64 s, .int .i64 z, .int .i64 r, .int .i64 wk, .int .i64 k, .int .i64 v, .int .i64 p]] w fun e w' =>
      e = .returned (.int .i64 2) ∧ Below w.heap.size w w' := by
  have c := rcheck_raw s z r wk k v p w
  rw [refW_not h] at c
  exact c
end Go.Proofs.Ytjnbkpjpcbmhcaa
