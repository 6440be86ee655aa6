/-
  The configuration's check (both texts), the greatest record, and what a call may append.
-/
import Derived.Test.YtjnbkpjpcbmhcaaMem
import Derived.LoopN
import Derived.Outline
namespace Go.Proofs.Ytjnbkpjpcbmhcaa
open Go.RowKit

/-- the cells of a configuration -/
def cfg (s z r wk k v p : Int) : Array Value := #[.int .i64 s, .int .i64 z, .int .i64 r, .int .i64 wk, .int .i64 k, .int .i64 v, .int .i64 p]

theorem record_any (s z r wk k v p : Int) (w : World) :
    Calls Try.prog 36 #[.agg #[.int .i64 s, .int .i64 z, .int .i64 r, .int .i64 wk, .int .i64 k, .int .i64 v, .int .i64 p]] w fun e w' =>
      e = .returned (.int .i64 (wrap64 (wrap64 (16 + k) + v))) ∧ w' = w.alloc (.cells #[.int .i64 s, .int .i64 z, .int .i64 r, .int .i64 wk, .int .i64 k, .int .i64 v, .int .i64 p] 23) := by
  go_enter Try.func36, Try.ntmps36
  go_wp2
  go_ret
  exact ⟨rfl, rfl⟩

/-- the seven spans, one behind the other -/
def chkW (s z r wk k v p a b c : Int) : Int :=
  if 2 ≤ r ∧ r ≤ 8 ∧ a ≤ s ∧ s ≤ 32 ∧ 1 ≤ k ∧ k ≤ 32 ∧ 0 ≤ v ∧ v ≤ 512 ∧ b ≤ z ∧ z ≤ 8192 ∧ c ≤ wk ∧ wk ≤ 65536 ∧ 1 ≤ p ∧ p ≤ 2 then 0 else 2
theorem chkW_no {s z r wk k v p a b c : Int} (h : ¬(2 ≤ r ∧ r ≤ 8 ∧ a ≤ s ∧ s ≤ 32 ∧ 1 ≤ k ∧ k ≤ 32 ∧ 0 ≤ v ∧ v ≤ 512 ∧ b ≤ z ∧ z ≤ 8192 ∧ c ≤ wk ∧ wk ≤ 65536 ∧ 1 ≤ p ∧ p ≤ 2)) : 2 = chkW s z r wk k v p a b c := by
  unfold chkW; rw [if_neg h]
theorem chkW_yes {s z r wk k v p a b c : Int} (h : 2 ≤ r ∧ r ≤ 8 ∧ a ≤ s ∧ s ≤ 32 ∧ 1 ≤ k ∧ k ≤ 32 ∧ 0 ≤ v ∧ v ≤ 512 ∧ b ≤ z ∧ z ≤ 8192 ∧ c ≤ wk ∧ wk ≤ 65536 ∧ 1 ≤ p ∧ p ≤ 2) : 0 = chkW s z r wk k v p a b c := by
  unfold chkW; rw [if_pos h]

set_option maxHeartbeats 1600000 in
theorem check_raw (s z r wk k v p : Int) (w : World) :
    Calls Try.prog 44 #[.agg #[.int .i64 s, .int .i64 z, .int .i64 r, .int .i64 wk, .int .i64 k, .int .i64 v, .int .i64 p]] w fun e w' =>
      e = .returned (.int .i64 (chkW s z r wk k v p (IntKind.i64.wrap (r + 2)) (IntKind.i64.wrap (16 + wrap64 (wrap64 (16 + k) + v))) (IntKind.i64.wrap (2 * IntKind.i64.wrap (wrap64 (wrap64 (16 + k) + v) + 16))))) ∧ Below w.heap.size w w' := by
  go_enter Try.func44, Try.ntmps44
  go_wp2
  go_region_held3 (fun w' => w'.cell? ⟨w.heap.size, 0, none⟩ = some (.int .i64 s) ∧ w'.cell? ⟨w.heap.size, 1, none⟩ = some (.int .i64 z) ∧ w'.cell? ⟨w.heap.size, 2, none⟩ = some (.int .i64 r) ∧ w'.cell? ⟨w.heap.size, 3, none⟩ = some (.int .i64 wk) ∧ w'.cell? ⟨w.heap.size, 4, none⟩ = some (.int .i64 k) ∧ w'.cell? ⟨w.heap.size, 5, none⟩ = some (.int .i64 v) ∧ w'.cell? ⟨w.heap.size, 6, none⟩ = some (.int .i64 p)) (simp [go_sem, World.cell?_alloc_past]) (first | (go_at_call 36; refine (record_any s z r wk k v p _).mono ?_; rintro e w' ⟨rfl, rfl⟩))
  go_wp2
  rename_i hH
  clear hH
  generalize ha : IntKind.i64.wrap (r + 2) = a
  have HA := Lib.hid ha
  clear ha
  generalize hb : IntKind.i64.wrap (16 + wrap64 (wrap64 (16 + k) + v)) = b
  have HB := Lib.hid hb
  clear hb
  generalize hc : IntKind.i64.wrap (2 * IntKind.i64.wrap (wrap64 (wrap64 (16 + k) + v) + 16)) = c
  have HC := Lib.hid hc
  clear hc
  refine wp_loop_rounds 8 ?_
  iterate 7
    rw [rounds_succ]
    go_wp2
    all_goals first | (go_ret; exact ⟨ret_int (by rw [HA.out, HB.out, HC.out]; exact chkW_no (by omega)), by repeat first | exact Below.refl _ _ | apply Below.drew | apply b_alloc⟩) | skip
  rw [rounds_succ]
  go_wp2
  go_ret
  exact ⟨ret_int (by rw [HA.out, HB.out, HC.out]; exact chkW_yes (by omega)), by repeat first | exact Below.refl _ _ | apply Below.drew | apply b_alloc⟩
end Go.Proofs.Ytjnbkpjpcbmhcaa
