/-
  Entries of records: the program.
-/
import Derived.Test.YtjcdflohkajbcaaRck
import Derived.Test.YtjcdflohkajbcaaDed
import Derived.Test.YtjcdflohkajbcaaRes
namespace Go.Proofs.Ytjcdflohkajbcaa
open Go.RowKit
set_option linter.unusedVariables false
set_option linter.unusedSimpArgs false
def entV (r : Rc) (slot off : Int) : Value := .agg #[.int .i64 r.seq, .string r.key, .bool (r.kind == 2), .int .i64 slot, .int .i64 off, .int .i64 (r.size : Nat)]
def entZ : Value := .agg #[.int .i64 0, .string ⟨#[]⟩, .bool false, .int .i64 0, .int .i64 0, .int .i64 0]
theorem b_set1 {a w : World} (h : Below a.heap.size a w) (o : Nat) (u : Value) : Below a.heap.size a (w.setCell ⟨a.heap.size + 1, o, none⟩ u) := h.setCell (Nat.le_succ _) u
theorem entry_bad (r : Rc) (slot off : Int) (h : ¬ r.Ok) (hk : r.key.size ≤ maxLen) (hv : r.val.size ≤ maxLen) (w : World) :
    Calls Try.prog 35 #[r.v, .int .i64 slot, .int .i64 off] w fun e w' => e = .returned (.tuple #[entZ, .int .i64 2]) ∧ Below w.heap.size w w' := by
  have hc := rsize_no r h hk hv
  clear h
  obtain ⟨kind, seq, key, val⟩ := r
  show Calls Try.prog 35 #[.agg #[.int .i64 kind, .int .i64 seq, .string key, .string val], .int .i64 slot, .int .i64 off] w _
  go_enter Try.func35, Try.ntmps35
  go_wp2_with fail
  refine (hc _).mono ?_
  rintro e w1 ⟨rfl, hb1⟩
  have hE1 := ((Blk.new (w.alloc (.cells #[.int .i64 kind, .int .i64 seq, .string key, .string val] 34)) 57 #[.int .i64 0, .string ⟨#[]⟩, .bool false, .int .i64 0, .int .i64 0, .int .i64 0]).below hb1 (by simp))
  rw [show (w.alloc (.cells #[.int .i64 kind, .int .i64 seq, .string key, .string val] 34)).heap.size = w.heap.size + 1 by simp] at hE1
  have hR1 := (((Blk.new w 34 #[.int .i64 kind, .int .i64 seq, .string key, .string val]).alloc (.cells #[.int .i64 0, .string ⟨#[]⟩, .bool false, .int .i64 0, .int .i64 0, .int .i64 0] 57)).below hb1 (by simp; omega)).cell
  have hB1 := b_then (b_alloc (b_alloc (Below.refl _ w) (.cells #[.int .i64 kind, .int .i64 seq, .string key, .string val] 34)) (.cells #[.int .i64 0, .string ⟨#[]⟩, .bool false, .int .i64 0, .int .i64 0, .int .i64 0] 57)) hb1
  have cE := hE1.cell
  have fE := hE1.frozen
  have lE := hE1.lt
  clear hb1 hc
  go_wp2_with fail
  refine bodyPost_ret (v := .tuple #[.agg #[.int .i64 0, .string ⟨#[]⟩, .bool false, .int .i64 0, .int .i64 0, .int .i64 0], .int .i64 2]) (results_c1 Try.results35 _ _ (w.heap.size + 1) #[.int .i64 0, .string ⟨#[]⟩, .bool false, .int .i64 0, .int .i64 0, .int .i64 0] _ rfl (by repeat first | (with_reducible exact hE1.set6 _ _ _ _ _ _) | (with_reducible apply Blk.alloc) | (with_reducible apply Blk.drew)) Try.underlying57 rfl (by kernel_rfl)) rfl ⟨rfl, ?_⟩
  repeat first | (with_reducible exact hB1) | (with_reducible apply Below.drew) | (with_reducible apply b_set1) | (with_reducible apply b_alloc)
theorem entry_out (r : Rc) (slot off : Int) (h : r.Ok) (ho : slot < 0 ∨ 32 ≤ slot ∨ off < 0 ∨ 8192 < off) (w : World) :
    Calls Try.prog 35 #[r.v, .int .i64 slot, .int .i64 off] w fun e w' => e = .returned (.tuple #[entZ, .int .i64 2]) ∧ Below w.heap.size w w' := by
  have hc := rsize_yes r h
  clear h
  have ho' : slot < 0 ∨ (0 ≤ slot ∧ 32 ≤ slot) ∨ (0 ≤ slot ∧ slot < 32 ∧ off < 0) ∨ (0 ≤ slot ∧ slot < 32 ∧ 0 ≤ off ∧ 8192 < off) := by omega
  clear ho
  rcases ho' with o1 | ⟨o1, o2⟩ | ⟨o1, o2, o3⟩ | ⟨o1, o2, o3, o4⟩
  all_goals
    obtain ⟨kind, seq, key, val⟩ := r
    show Calls Try.prog 35 #[.agg #[.int .i64 kind, .int .i64 seq, .string key, .string val], .int .i64 slot, .int .i64 off] w _
    go_enter Try.func35, Try.ntmps35
    go_wp2_with fail
    refine (hc _).mono ?_
    rintro e w1 ⟨rfl, hb1⟩
    have hE1 := ((Blk.new (w.alloc (.cells #[.int .i64 kind, .int .i64 seq, .string key, .string val] 34)) 57 #[.int .i64 0, .string ⟨#[]⟩, .bool false, .int .i64 0, .int .i64 0, .int .i64 0]).below hb1 (by simp))
    rw [show (w.alloc (.cells #[.int .i64 kind, .int .i64 seq, .string key, .string val] 34)).heap.size = w.heap.size + 1 by simp] at hE1
    have hR1 := (((Blk.new w 34 #[.int .i64 kind, .int .i64 seq, .string key, .string val]).alloc (.cells #[.int .i64 0, .string ⟨#[]⟩, .bool false, .int .i64 0, .int .i64 0, .int .i64 0] 57)).below hb1 (by simp; omega)).cell
    have hB1 := b_then (b_alloc (b_alloc (Below.refl _ w) (.cells #[.int .i64 kind, .int .i64 seq, .string key, .string val] 34)) (.cells #[.int .i64 0, .string ⟨#[]⟩, .bool false, .int .i64 0, .int .i64 0, .int .i64 0] 57)) hb1
    have cE := hE1.cell
    have fE := hE1.frozen
    have lE := hE1.lt
    clear hb1 hc
    go_wp2_with fail
    refine bodyPost_ret (v := .tuple #[.agg #[.int .i64 0, .string ⟨#[]⟩, .bool false, .int .i64 0, .int .i64 0, .int .i64 0], .int .i64 2]) (results_c1 Try.results35 _ _ (w.heap.size + 1) #[.int .i64 0, .string ⟨#[]⟩, .bool false, .int .i64 0, .int .i64 0, .int .i64 0] _ rfl (by repeat first | (with_reducible exact hE1.set6 _ _ _ _ _ _) | (with_reducible apply Blk.alloc) | (with_reducible apply Blk.drew)) Try.underlying57 rfl (by kernel_rfl)) rfl ⟨rfl, ?_⟩
    repeat first | (with_reducible exact hB1) | (with_reducible apply Below.drew) | (with_reducible apply b_set1) | (with_reducible apply b_alloc)

theorem entry_yes (r : Rc) (slot off : Int) (h : r.Ok) (h1 : 0 ≤ slot) (h2 : slot < 32) (h3 : 0 ≤ off) (h4 : off ≤ 8192) (w : World) :
    Calls Try.prog 35 #[r.v, .int .i64 slot, .int .i64 off] w fun e w' => e = .returned (.tuple #[entV r slot off, .int .i64 0]) ∧ Below w.heap.size w w' := by
  have hc := rsize_yes r h
  clear h
  obtain ⟨kind, seq, key, val⟩ := r
  show Calls Try.prog 35 #[.agg #[.int .i64 kind, .int .i64 seq, .string key, .string val], .int .i64 slot, .int .i64 off] w _
  go_enter Try.func35, Try.ntmps35
  go_wp2_with fail
  refine (hc _).mono ?_
  rintro e w1 ⟨rfl, hb1⟩
  have hE1 := ((Blk.new (w.alloc (.cells #[.int .i64 kind, .int .i64 seq, .string key, .string val] 34)) 57 #[.int .i64 0, .string ⟨#[]⟩, .bool false, .int .i64 0, .int .i64 0, .int .i64 0]).below hb1 (by simp))
  rw [show (w.alloc (.cells #[.int .i64 kind, .int .i64 seq, .string key, .string val] 34)).heap.size = w.heap.size + 1 by simp] at hE1
  have hR1 := (((Blk.new w 34 #[.int .i64 kind, .int .i64 seq, .string key, .string val]).alloc (.cells #[.int .i64 0, .string ⟨#[]⟩, .bool false, .int .i64 0, .int .i64 0, .int .i64 0] 57)).below hb1 (by simp; omega)).cell
  have hB1 := b_then (b_alloc (b_alloc (Below.refl _ w) (.cells #[.int .i64 kind, .int .i64 seq, .string key, .string val] 34)) (.cells #[.int .i64 0, .string ⟨#[]⟩, .bool false, .int .i64 0, .int .i64 0, .int .i64 0] 57)) hb1
  have cE := hE1.cell
  have fE := hE1.frozen
  have lE := hE1.lt
  clear hb1 hc
  go_wp2_with fail
  refine bodyPost_ret (v := .tuple #[.agg #[.int .i64 seq, .string key, .bool (kind == 2), .int .i64 slot, .int .i64 off, .int .i64 ((Rc.size ⟨kind, seq, key, val⟩ : Nat) : Int)], .int .i64 0]) (results_c1 Try.results35 _ _ (w.heap.size + 1) #[.int .i64 seq, .string key, .bool (kind == 2), .int .i64 slot, .int .i64 off, .int .i64 ((Rc.size ⟨kind, seq, key, val⟩ : Nat) : Int)] _ rfl (by repeat first | (with_reducible exact hE1.set6 _ _ _ _ _ _) | (with_reducible apply Blk.alloc) | (with_reducible apply Blk.drew)) Try.underlying57 rfl (by kernel_rfl)) rfl ⟨rfl, ?_⟩
  repeat first | (with_reducible exact hB1) | (with_reducible apply Below.drew) | (with_reducible apply b_set1) | (with_reducible apply b_alloc)
end Go.Proofs.Ytjcdflohkajbcaa
