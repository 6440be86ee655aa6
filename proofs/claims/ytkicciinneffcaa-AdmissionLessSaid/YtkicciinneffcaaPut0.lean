/-
  Which updates are accepted.
-/
import Derived.Test.YtkicciinneffcaaAft
namespace Go.Proofs.Ytkicciinneffcaa
open Go.RowKit
set_option linter.unusedVariables false

theorem Lim_any (s z r wk k v p : Int) (w : World) :
    Calls Try.prog 20 #[.agg #[.int .i64 s, .int .i64 z, .int .i64 r, .int .i64 wk, .int .i64 k, .int .i64 v, .int .i64 p]] w fun e w' => (∃ L e0, e = .returned (.tuple #[.int .i64 L, .int .i64 e0]) ∧ (CfgOk s z r wk k v p → L = climit s z r)) ∧ Below w.heap.size w w' := by
  by_cases h : CfgOk s z r wk k v p
  · exact (Limit_yes s z r wk k v p w h).mono fun e w' ⟨he, hb⟩ => ⟨⟨_, _, he, fun _ => rfl⟩, hb⟩
  · exact (Limit_no s z r wk k v p w h).mono fun e w' ⟨he, hb⟩ => ⟨⟨_, _, he, fun hc => absurd hc h⟩, hb⟩
theorem put1_any (g gk gv : Nat) (s z r wk k v p : Int) (key val : ByteArray) (w : World) (hk : key.size ≤ maxLen) (hv : val.size ≤ maxLen) (hg : Blk w g 23 #[.int .i64 s, .int .i64 z, .int .i64 r, .int .i64 wk, .int .i64 k, .int .i64 v, .int .i64 p]) (h1 : Blk w gk 9 #[.string key]) (h2 : Blk w gv 9 #[.string val]) :
    Calls Try.prog 37 #[.pointer (some ⟨g, 0, none⟩), .pointer (some ⟨gk, 0, none⟩), .pointer (some ⟨gv, 0, none⟩)] w fun e w' => e = .returned (.int .i64 (aChk s z r wk k v p key val)) ∧ Below w.heap.size w w' := by
  have c1 := hg.cell
  have c2 := h1.cell
  have c3 := h2.cell
  go_enter Try.func37, Try.ntmps37
  go_wp2_with (go_at_call 13; refine (aCheck_any s z r wk k v p key val _ hk hv).mono ?_; rintro e w1 ⟨rfl, hb1⟩)
  go_ret
  exact ⟨rfl, hb1⟩
theorem put2_any (gc go gk gv gl : Nat) (cost old L : Int) (key val : ByteArray) (w : World) (hk : key.size ≤ maxLen) (hv : val.size ≤ maxLen) (h1 : Blk w gc 3 #[.int .i64 cost]) (h2 : Blk w go 3 #[.int .i64 old])
    (h3 : Blk w gk 9 #[.string key]) (h4 : Blk w gv 9 #[.string val]) (h5 : Blk w gl 3 #[.int .i64 L]) (hz : aErr cost old key val = 0) (q : Int) (hq : (if L < cost - old + (16 + key.size + val.size) then 4 else 0) = q) :
    Calls Try.prog 38 #[.pointer (some ⟨gc, 0, none⟩), .pointer (some ⟨go, 0, none⟩), .pointer (some ⟨gk, 0, none⟩), .pointer (some ⟨gv, 0, none⟩), .pointer (some ⟨gl, 0, none⟩)] w fun e w' => e = .returned (.int .i64 q) ∧ Below w.heap.size w w' := by
  have c1 := h1.cell
  have c2 := h2.cell
  have c3 := h3.cell
  have c4 := h4.cell
  have hA := After_any cost old key val
  have hva : aVal cost old key val = cost - old + (16 + key.size + val.size) := by unfold aVal; rw [if_pos hz]
  rw [hz, hva] at hA
  clear hva hz
  generalize cost - old + (16 + key.size + val.size) = A at hA hq
  by_cases hl : L < A
  · rw [if_pos hl] at hq
    subst hq
    go_enter Try.func38, Try.ntmps38
    go_wp2_with fail
    refine (hA _ hk hv).mono ?_
    rintro e w1 ⟨rfl, hb1⟩
    have c5 := (h5.below hb1 h5.lt).cell
    go_wp2_with fail
    go_ret
    exact ⟨rfl, hb1⟩
  · rw [if_neg hl] at hq
    subst hq
    go_enter Try.func38, Try.ntmps38
    go_wp2_with fail
    refine (hA _ hk hv).mono ?_
    rintro e w1 ⟨rfl, hb1⟩
    have c5 := (h5.below hb1 h5.lt).cell
    go_wp2_with fail
    go_ret
    exact ⟨rfl, hb1⟩
end Go.Proofs.Ytkicciinneffcaa
