/-
  Which headers are valid, by both texts.
-/
import Derived.Test.YtiobnhdcapfhgaaMem
import Derived.Test.YtiobnhdcapfhgaaWords
namespace Go.Proofs.Ytiobnhdcapfhgaa
open Go.RowKit
set_option linter.unusedVariables false

/-- a header is valid -/
def HOk (kind key val seq : Int) : Prop :=
  (kind = 1 ∧ 1 ≤ key ∧ key ≤ 32 ∧ 0 ≤ val ∧ val ≤ 512 ∧ 1 ≤ seq ∧ seq ≤ 1099511627776) ∨
  (kind = 2 ∧ 1 ≤ key ∧ key ≤ 32 ∧ val = 0 ∧ 1 ≤ seq ∧ seq ≤ 1099511627776) ∨
  (kind = 3 ∧ key = 0 ∧ 0 ≤ val ∧ val ≤ 65535 ∧ 0 ≤ seq ∧ seq ≤ 1099511627776)

def inB (n a b : Int) : Bool := decide (a ≤ n ∧ n ≤ b)
theorem has_any (a b n : Int) (w : World) :
    Calls Try.prog 60 #[.agg #[.int .i64 a, .int .i64 b], .int .i64 n] w fun e w' => e = .returned (.bool (inB n a b)) ∧ w' = w.alloc (.cells #[.int .i64 a, .int .i64 b] 103) := by
  by_cases h1 : a ≤ n
  · by_cases h2 : n ≤ b
    · go_enter Try.func60, Try.ntmps60
      go_wp2
      go_ret
      exact ⟨by simp [inB, h1, h2], rfl⟩
    · go_enter Try.func60, Try.ntmps60
      go_wp2
      go_ret
      exact ⟨by simp [inB]; omega, rfl⟩
  · go_enter Try.func60, Try.ntmps60
    go_wp2
    go_ret
    exact ⟨by simp [inB]; omega, rfl⟩

def kindsRow : Array Value := #[.int .i64 0, .int .i64 0, .int .i64 0, .int .i64 0, .int .i64 0, .int .i64 0, .int .i64 1, .int .i64 32, .int .i64 0, .int .i64 512, .int .i64 1, .int .i64 1099511627776, .int .i64 1, .int .i64 32, .int .i64 0, .int .i64 0, .int .i64 1, .int .i64 1099511627776, .int .i64 0, .int .i64 0, .int .i64 0, .int .i64 65535, .int .i64 0, .int .i64 1099511627776]
theorem kinds_any (w : World) : Calls Try.prog 59 #[] w fun e w' => e = .returned (.slice (some ⟨w.heap.size, 0, none⟩) 4 4) ∧ w' = w.alloc (.cells kindsRow 105) := by
  go_enter Try.func59, Try.ntmps59
  go_wp2
  go_ret
  exact ⟨rfl, rfl⟩
theorem kinds_ex (w : World) : Calls Try.prog 59 #[] w fun e w' => ∃ g : Nat, e = .returned (.slice (some ⟨g, 0, none⟩) 4 4) ∧ Blk w' g 105 kindsRow ∧ Below w.heap.size w w' :=
  (kinds_any w).mono fun e w' ⟨he, hw⟩ => ⟨_, he, by subst hw; exact Blk.new _ _ _, by subst hw; exact b_alloc (Below.refl _ _) _⟩

theorem kind_cells {w : World} {g : Nat} (h : Blk w g 105 kindsRow) (i : Nat) : w.cell? ⟨g, i, none⟩ = kindsRow[i]? := h.cell i

def chkE (b1 b2 b3 : Bool) : Int := if b1 && b2 && b3 then 0 else 2
set_option maxHeartbeats 1600000 in
theorem check_1 (sum key val seq : Int) (w : World) :
    Calls Try.prog 46 #[.agg #[.int .u32 sum, .int .i64 1, .int .i64 key, .int .i64 val, .int .i64 seq]] w fun e w' =>
      e = .returned (.int .i64 (chkE (inB key 1 32) (inB val 0 512) (inB seq 1 1099511627776))) ∧ Below w.heap.size w w' := by
  cases h1 : inB key 1 32
  all_goals
    cases h2 : inB val 0 512
    all_goals
      cases h3 : inB seq 1 1099511627776
      all_goals
        go_enter Try.func46, Try.ntmps46
        go_wp2_with fail
        refine (kinds_ex _).mono ?_
        rintro e w1 ⟨g, rfl, hg, hb1⟩
        have B1 := ((Blk.new w 67 #[.int .u32 sum, .int .i64 1, .int .i64 key, .int .i64 val, .int .i64 seq]).below hb1 (by simp))
        have k1 := B1.cell
        have l1 := B1.lt
        have l2 := hg.lt
        have l3 : w.heap.size < w1.heap.size + 1 := by omega
        have l4 : w.heap.size < w1.heap.size + 1 + 1 := by omega
        have c1 := hg.cell
        unfold kindsRow at c1
        go_wp2_with (go_at_call 60; refine (has_any _ _ _ _).mono ?_; rintro e w' ⟨rfl, rfl⟩)
        go_ret
        have hb2 := b_then (b_alloc (Below.refl _ w) _) hb1
        exact ⟨rfl, by repeat first | exact hb2 | apply Below.drew | apply b_alloc⟩
set_option maxHeartbeats 1600000 in
theorem check_2 (sum key val seq : Int) (w : World) :
    Calls Try.prog 46 #[.agg #[.int .u32 sum, .int .i64 2, .int .i64 key, .int .i64 val, .int .i64 seq]] w fun e w' =>
      e = .returned (.int .i64 (chkE (inB key 1 32) (inB val 0 0) (inB seq 1 1099511627776))) ∧ Below w.heap.size w w' := by
  cases h1 : inB key 1 32
  all_goals
    cases h2 : inB val 0 0
    all_goals
      cases h3 : inB seq 1 1099511627776
      all_goals
        go_enter Try.func46, Try.ntmps46
        go_wp2_with fail
        refine (kinds_ex _).mono ?_
        rintro e w1 ⟨g, rfl, hg, hb1⟩
        have B1 := ((Blk.new w 67 #[.int .u32 sum, .int .i64 2, .int .i64 key, .int .i64 val, .int .i64 seq]).below hb1 (by simp))
        have k1 := B1.cell
        have l1 := B1.lt
        have l2 := hg.lt
        have l3 : w.heap.size < w1.heap.size + 1 := by omega
        have l4 : w.heap.size < w1.heap.size + 1 + 1 := by omega
        have c1 := hg.cell
        unfold kindsRow at c1
        go_wp2_with (go_at_call 60; refine (has_any _ _ _ _).mono ?_; rintro e w' ⟨rfl, rfl⟩)
        go_ret
        have hb2 := b_then (b_alloc (Below.refl _ w) _) hb1
        exact ⟨rfl, by repeat first | exact hb2 | apply Below.drew | apply b_alloc⟩
set_option maxHeartbeats 1600000 in
theorem check_3 (sum key val seq : Int) (w : World) :
    Calls Try.prog 46 #[.agg #[.int .u32 sum, .int .i64 3, .int .i64 key, .int .i64 val, .int .i64 seq]] w fun e w' =>
      e = .returned (.int .i64 (chkE (inB key 0 0) (inB val 0 65535) (inB seq 0 1099511627776))) ∧ Below w.heap.size w w' := by
  cases h1 : inB key 0 0
  all_goals
    cases h2 : inB val 0 65535
    all_goals
      cases h3 : inB seq 0 1099511627776
      all_goals
        go_enter Try.func46, Try.ntmps46
        go_wp2_with fail
        refine (kinds_ex _).mono ?_
        rintro e w1 ⟨g, rfl, hg, hb1⟩
        have B1 := ((Blk.new w 67 #[.int .u32 sum, .int .i64 3, .int .i64 key, .int .i64 val, .int .i64 seq]).below hb1 (by simp))
        have k1 := B1.cell
        have l1 := B1.lt
        have l2 := hg.lt
        have l3 : w.heap.size < w1.heap.size + 1 := by omega
        have l4 : w.heap.size < w1.heap.size + 1 + 1 := by omega
        have c1 := hg.cell
        unfold kindsRow at c1
        go_wp2_with (go_at_call 60; refine (has_any _ _ _ _).mono ?_; rintro e w' ⟨rfl, rfl⟩)
        go_ret
        have hb2 := b_then (b_alloc (Below.refl _ w) _) hb1
        exact ⟨rfl, by repeat first | exact hb2 | apply Below.drew | apply b_alloc⟩
theorem check_not (sum kind key val seq : Int) (w : World) (h : kind < 1 ∨ 3 < kind) :
    Calls Try.prog 46 #[.agg #[.int .u32 sum, .int .i64 kind, .int .i64 key, .int .i64 val, .int .i64 seq]] w fun e w' =>
      e = .returned (.int .i64 2) ∧ Below w.heap.size w w' := by
  rcases h with h | h
  all_goals
    go_enter Try.func46, Try.ntmps46
    go_wp2_with fail
    refine (kinds_ex _).mono ?_
    rintro e w1 ⟨g, rfl, hg, hb1⟩
    have B1 := ((Blk.new w 67 #[.int .u32 sum, .int .i64 kind, .int .i64 key, .int .i64 val, .int .i64 seq]).below hb1 (by simp))
    have k1 := B1.cell
    go_wp2_with fail
    go_ret
    exact ⟨rfl, b_then (b_alloc (Below.refl _ w) _) hb1⟩
theorem inB_t {n a b : Int} (h1 : a ≤ n) (h2 : n ≤ b) : inB n a b = true := by simp [inB, h1, h2]
theorem chkE_yes {b1 b2 b3 : Bool} (h1 : b1 = true) (h2 : b2 = true) (h3 : b3 = true) : chkE b1 b2 b3 = 0 := by subst h1 h2 h3; rfl
theorem chkE_no {b1 b2 b3 : Bool} (h : ¬(b1 = true ∧ b2 = true ∧ b3 = true)) : chkE b1 b2 b3 = 2 := by
  unfold chkE
  rw [if_neg]
  simpa [Bool.and_eq_true, and_assoc] using h
theorem check_yes (sum kind key val seq : Int) (w : World) (h : HOk kind key val seq) :
    Calls Try.prog 46 #[.agg #[.int .u32 sum, .int .i64 kind, .int .i64 key, .int .i64 val, .int .i64 seq]] w fun e w' =>
      e = .returned (.int .i64 0) ∧ Below w.heap.size w w' := by
  rcases h with ⟨rfl, h1, h2, h3, h4, h5, h6⟩ | ⟨rfl, h1, h2, h3, h5, h6⟩ | ⟨rfl, h1, h3, h4, h5, h6⟩
  · have c := check_1 sum key val seq w
    rwa [chkE_yes (inB_t h1 h2) (inB_t h3 h4) (inB_t h5 h6)] at c
  · have c := check_2 sum key val seq w
    rwa [chkE_yes (inB_t h1 h2) (inB_t (by omega) (by omega)) (inB_t h5 h6)] at c
  · have c := check_3 sum key val seq w
    rwa [chkE_yes (inB_t (by omega) (by omega)) (inB_t h3 h4) (inB_t h5 h6)] at c
theorem check_no (sum kind key val seq : Int) (w : World) (h : ¬HOk kind key val seq) :
    Calls Try.prog 46 #[.agg #[.int .u32 sum, .int .i64 kind, .int .i64 key, .int .i64 val, .int .i64 seq]] w fun e w' =>
      e = .returned (.int .i64 2) ∧ Below w.heap.size w w' := by
  unfold HOk at h
  by_cases hk : kind < 1 ∨ 3 < kind
  · exact check_not sum kind key val seq w hk
  · rcases (show kind = 1 ∨ kind = 2 ∨ kind = 3 by omega) with rfl | rfl | rfl
    · have c := check_1 sum key val seq w
      rwa [chkE_no (by simp only [inB, decide_eq_true_eq]; omega)] at c
    · have c := check_2 sum key val seq w
      rwa [chkE_no (by simp only [inB, decide_eq_true_eq]; omega)] at c
    · have c := check_3 sum key val seq w
      rwa [chkE_no (by simp only [inB, decide_eq_true_eq]; omega)] at c

end Go.Proofs.Ytiobnhdcapfhgaa
