/-
  Entries of records: the document; equality of bytes by the document.
-/
import Derived.Test.YtjcdflohkajbcaaRc4
import Derived.Test.YtjcdflohkajbcaaRdc
namespace Go.Proofs.Ytjcdflohkajbcaa
open Go.RowKit
set_option linter.unusedVariables false
set_option linter.unusedSimpArgs false
theorem entry4_bad (r : Rc) (slot off : Int) (h : ¬ r.Ok) (hk : r.key.size ≤ maxLen) (hv : r.val.size ≤ maxLen) (w : World) :
    Calls Try.prog 41 #[r.v, .int .i64 slot, .int .i64 off] w fun e w' => e = .returned (.tuple #[entZ, .int .i64 2]) ∧ Below w.heap.size w w' := by
  have hc := rchk4_no r h hk hv
  clear h
  obtain ⟨kind, seq, key, val⟩ := r
  show Calls Try.prog 41 #[.agg #[.int .i64 kind, .int .i64 seq, .string key, .string val], .int .i64 slot, .int .i64 off] w _
  go_enter Try.func41, Try.ntmps41
  go_wp2_with fail
  refine (hc _).mono ?_
  rintro e w1 ⟨rfl, hb1⟩
  have hE1 := ((Blk.new (w.alloc (.cells #[.int .i64 kind, .int .i64 seq, .string key, .string val] 34)) 57 #[.int .i64 0, .string ⟨#[]⟩, .bool false, .int .i64 0, .int .i64 0, .int .i64 0]).below hb1 (by simp))
  rw [show (w.alloc (.cells #[.int .i64 kind, .int .i64 seq, .string key, .string val] 34)).heap.size = w.heap.size + 1 by simp] at hE1
  have hR1 := (((Blk.new w 34 #[.int .i64 kind, .int .i64 seq, .string key, .string val]).alloc (.cells #[.int .i64 0, .string ⟨#[]⟩, .bool false, .int .i64 0, .int .i64 0, .int .i64 0] 57)).below hb1 (by simp; omega))
  have cR1 := hR1.cell
  have hB1 := b_then (b_alloc (b_alloc (Below.refl _ w) (.cells #[.int .i64 kind, .int .i64 seq, .string key, .string val] 34)) (.cells #[.int .i64 0, .string ⟨#[]⟩, .bool false, .int .i64 0, .int .i64 0, .int .i64 0] 57)) hb1
  have cE := hE1.cell
  have fE := hE1.frozen
  have lE := hE1.lt
  clear hb1 hc
  go_wp2_with fail
  refine bodyPost_ret (v := .tuple #[.agg #[.int .i64 0, .string ⟨#[]⟩, .bool false, .int .i64 0, .int .i64 0, .int .i64 0], .int .i64 2]) (results_c1 Try.results41 _ _ (w.heap.size + 1) #[.int .i64 0, .string ⟨#[]⟩, .bool false, .int .i64 0, .int .i64 0, .int .i64 0] _ rfl (by repeat first | (with_reducible exact hE1.set6 _ _ _ _ _ _) | (with_reducible apply Blk.alloc) | (with_reducible apply Blk.drew)) Try.underlying57 rfl (by kernel_rfl)) rfl ⟨rfl, ?_⟩
  repeat first | (with_reducible exact hB1) | (with_reducible apply Below.drew) | (with_reducible apply b_set1) | (with_reducible apply b_alloc)
theorem entry4_out (r : Rc) (slot off : Int) (h : r.Ok) (ho : slot < 0 ∨ 32 ≤ slot ∨ off < 0 ∨ 8192 < off) (w : World) :
    Calls Try.prog 41 #[r.v, .int .i64 slot, .int .i64 off] w fun e w' => e = .returned (.tuple #[entZ, .int .i64 2]) ∧ Below w.heap.size w w' := by
  have hc := rchk4_yes r h
  clear h
  have ho' : slot < 0 ∨ (0 ≤ slot ∧ 32 ≤ slot) ∨ (0 ≤ slot ∧ slot < 32 ∧ off < 0) ∨ (0 ≤ slot ∧ slot < 32 ∧ 0 ≤ off ∧ 8192 < off) := by omega
  clear ho
  rcases ho' with o1 | ⟨o1, o2⟩ | ⟨o1, o2, o3⟩ | ⟨o1, o2, o3, o4⟩
  all_goals
    obtain ⟨kind, seq, key, val⟩ := r
    show Calls Try.prog 41 #[.agg #[.int .i64 kind, .int .i64 seq, .string key, .string val], .int .i64 slot, .int .i64 off] w _
    go_enter Try.func41, Try.ntmps41
    go_wp2_with fail
    refine (hc _).mono ?_
    rintro e w1 ⟨rfl, hb1⟩
    have hE1 := ((Blk.new (w.alloc (.cells #[.int .i64 kind, .int .i64 seq, .string key, .string val] 34)) 57 #[.int .i64 0, .string ⟨#[]⟩, .bool false, .int .i64 0, .int .i64 0, .int .i64 0]).below hb1 (by simp))
    rw [show (w.alloc (.cells #[.int .i64 kind, .int .i64 seq, .string key, .string val] 34)).heap.size = w.heap.size + 1 by simp] at hE1
    have hR1 := (((Blk.new w 34 #[.int .i64 kind, .int .i64 seq, .string key, .string val]).alloc (.cells #[.int .i64 0, .string ⟨#[]⟩, .bool false, .int .i64 0, .int .i64 0, .int .i64 0] 57)).below hb1 (by simp; omega))
    have cR1 := hR1.cell
    have hB1 := b_then (b_alloc (b_alloc (Below.refl _ w) (.cells #[.int .i64 kind, .int .i64 seq, .string key, .string val] 34)) (.cells #[.int .i64 0, .string ⟨#[]⟩, .bool false, .int .i64 0, .int .i64 0, .int .i64 0] 57)) hb1
    have cE := hE1.cell
    have fE := hE1.frozen
    have lE := hE1.lt
    clear hb1 hc
    go_wp2_with fail
    refine bodyPost_ret (v := .tuple #[.agg #[.int .i64 0, .string ⟨#[]⟩, .bool false, .int .i64 0, .int .i64 0, .int .i64 0], .int .i64 2]) (results_c1 Try.results41 _ _ (w.heap.size + 1) #[.int .i64 0, .string ⟨#[]⟩, .bool false, .int .i64 0, .int .i64 0, .int .i64 0] _ rfl (by repeat first | (with_reducible exact hE1.set6 _ _ _ _ _ _) | (with_reducible apply Blk.alloc) | (with_reducible apply Blk.drew)) Try.underlying57 rfl (by kernel_rfl)) rfl ⟨rfl, ?_⟩
    repeat first | (with_reducible exact hB1) | (with_reducible apply Below.drew) | (with_reducible apply b_set1) | (with_reducible apply b_alloc)
set_option maxHeartbeats 1000000 in
theorem entry4_yes (r : Rc) (slot off : Int) (h : r.Ok) (h1 : 0 ≤ slot) (h2 : slot < 32) (h3 : 0 ≤ off) (h4 : off ≤ 8192) (w : World) :
    Calls Try.prog 41 #[r.v, .int .i64 slot, .int .i64 off] w fun e w' => e = .returned (.tuple #[entV r slot off, .int .i64 0]) ∧ Below w.heap.size w w' := by
  have hc := rchk4_yes r h
  have hk := h.2.2.2.2.2.1
  have hv := h.2.2.2.2.2.2
  clear h
  obtain ⟨kind, seq, key, val⟩ := r
  simp only [] at hk hv
  show Calls Try.prog 41 #[.agg #[.int .i64 kind, .int .i64 seq, .string key, .string val], .int .i64 slot, .int .i64 off] w _
  go_enter Try.func41, Try.ntmps41
  go_wp2_with fail
  refine (hc _).mono ?_
  rintro e w1 ⟨rfl, hb1⟩
  have hE1 := ((Blk.new (w.alloc (.cells #[.int .i64 kind, .int .i64 seq, .string key, .string val] 34)) 57 #[.int .i64 0, .string ⟨#[]⟩, .bool false, .int .i64 0, .int .i64 0, .int .i64 0]).below hb1 (by simp))
  rw [show (w.alloc (.cells #[.int .i64 kind, .int .i64 seq, .string key, .string val] 34)).heap.size = w.heap.size + 1 by simp] at hE1
  have hR1 := (((Blk.new w 34 #[.int .i64 kind, .int .i64 seq, .string key, .string val]).alloc (.cells #[.int .i64 0, .string ⟨#[]⟩, .bool false, .int .i64 0, .int .i64 0, .int .i64 0] 57)).below hb1 (by simp; omega))
  have cR1 := hR1.cell
  have hB1 := b_then (b_alloc (b_alloc (Below.refl _ w) (.cells #[.int .i64 kind, .int .i64 seq, .string key, .string val] 34)) (.cells #[.int .i64 0, .string ⟨#[]⟩, .bool false, .int .i64 0, .int .i64 0, .int .i64 0] 57)) hb1
  have cE := hE1.cell
  have fE := hE1.frozen
  have lE := hE1.lt
  clear hb1 hc
  go_wp2_with fail
  have hco := fun w => cost4_any key val (by omega) (by omega) w
  have hS0 : w1.drew.cell? ⟨w.heap.size, 0, none⟩ = some (.int .i64 kind) ∧ w1.drew.cell? ⟨w.heap.size, 1, none⟩ = some (.int .i64 seq) ∧ w1.drew.cell? ⟨w.heap.size, 2, none⟩ = some (.string key) ∧ w1.drew.cell? ⟨w.heap.size, 3, none⟩ = some (.string val) := ⟨cR1 0, cR1 1, cR1 2, cR1 3⟩
  go_region_held3 (fun w' => w'.cell? ⟨w.heap.size, 0, none⟩ = some (.int .i64 kind) ∧ w'.cell? ⟨w.heap.size, 1, none⟩ = some (.int .i64 seq) ∧ w'.cell? ⟨w.heap.size, 2, none⟩ = some (.string key) ∧ w'.cell? ⟨w.heap.size, 3, none⟩ = some (.string val)) (first | (with_reducible assumption) | (with_reducible exact hS0) | go_keep) (first | (go_at_call 60; refine (hco _).mono ?_; rintro e w' ⟨rfl, rfl⟩))
  have hcast : Hid ((16 + (key.size : Int) + (val.size : Int)) = ((Rc.size ⟨kind, seq, key, val⟩ : Nat) : Int)) := by show _ = _; simp [Rc.size]
  go_wp2_with fail
  refine bodyPost_ret (v := .tuple #[.agg #[.int .i64 seq, .string key, .bool (kind == 2), .int .i64 slot, .int .i64 off, .int .i64 (16 + (key.size : Int) + (val.size : Int))], .int .i64 0]) (results_c1 Try.results41 _ _ (w.heap.size + 1) #[.int .i64 seq, .string key, .bool (kind == 2), .int .i64 slot, .int .i64 off, .int .i64 (16 + (key.size : Int) + (val.size : Int))] _ rfl (by repeat first | (with_reducible exact hE1.set6 _ _ _ _ _ _) | (with_reducible apply Blk.alloc) | (with_reducible apply Blk.drew)) Try.underlying57 rfl (by kernel_rfl)) rfl ⟨by rw [hcast.out]; rfl, ?_⟩
  repeat first | (with_reducible exact hB1) | (with_reducible apply Below.drew) | (with_reducible apply b_set1) | (with_reducible apply b_alloc)
end Go.Proofs.Ytjcdflohkajbcaa
