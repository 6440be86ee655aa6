/-
  Decoding of records: the document.
-/
import Derived.Test.YtjcdflohkajbcaaRdx
import Derived.Test.YtjcdflohkajbcaaRc4
import Derived.Test.YtjcdflohkajbcaaRn4
namespace Go.Proofs.Ytjcdflohkajbcaa
open Go.RowKit
set_option linter.unusedVariables false
set_option linter.unusedSimpArgs false
theorem d4_torn0 (A : Option Addr) (n cap : Nat) (w : World) (hn : n < 16) :
    Calls Try.prog 37 #[.slice A n cap] w fun e w' => e = .returned (.tuple #[Rc.zero.v, .int .i64 0, .int .i64 14]) ∧ Below w.heap.size w w' := by
  have hB1 : Below w.heap.size w (w.alloc (.cells #[.int .i64 0, .int .i64 0, .string ⟨#[]⟩, .string ⟨#[]⟩] 34)) := b_alloc (Below.refl _ w) _
  have hR := Blk.new w 34 #[.int .i64 0, .int .i64 0, .string ⟨#[]⟩, .string ⟨#[]⟩]
  go_enter Try.func37, Try.ntmps37
  go_wp2_with fail
  refine bodyPost_ret (v := .tuple #[.agg #[.int .i64 0, .int .i64 0, .string ⟨#[]⟩, .string ⟨#[]⟩], .int .i64 0, .int .i64 14]) (results_c2 Try.results37 _ _ w.heap.size #[.int .i64 0, .int .i64 0, .string ⟨#[]⟩, .string ⟨#[]⟩] _ rfl (by repeat first | (with_reducible exact hR) | (with_reducible exact hR.set4 _ _ _ _) | (with_reducible apply Blk.alloc) | (with_reducible apply Blk.drew)) Try.underlying34 rfl (by kernel_rfl)) rfl ⟨rfl, ?_⟩
  repeat first | (with_reducible exact hB1) | (with_reducible apply Below.drew) | (with_reducible apply b_set) | (with_reducible apply b_alloc)
set_option maxHeartbeats 2000000 in
theorem d4_form1 (A : Option Addr) (n cap : Nat) (M : List Int) (w : World) (h : RB w A M) (hn : M.length = n) (hB : BB M) (hl : n ≤ cap) (hc : cap ≤ maxLen) (h16 : 16 ≤ n) (hbad : (M.getD 4 0 ≠ 1 ∧ M.getD 4 0 ≠ 2) ∨ (dQ fun i => M.getD i 0) < 1 ∨ 1099511627776 < (dQ fun i => M.getD i 0)) :
    Calls Try.prog 37 #[.slice A n cap] w fun e w' => e = .returned (.tuple #[Rc.zero.v, .int .i64 0, .int .i64 8]) ∧ Below w.heap.size w w' := by
  have hby := Byts.of_rb h hn hB hl hc
  have r16 : ∀ i, i < 16 → 0 ≤ (fun i => M.getD i 0) i ∧ (fun i => M.getD i 0) i ≤ 255 := fun i hi => hB.getD i (by omega)
  have hVb := dV_bd r16
  have hQb := dQ_bd r16
  have hSb := dS_bd r16
  have r4 := hB.getD 4 (by omega)
  have r5 := hB.getD 5 (by omega)
  obtain ⟨b, off, rfl, hbl⟩ := h.some_ (by omega)
  have hB1 : Below w.heap.size w (w.alloc (.cells #[.int .i64 0, .int .i64 0, .string ⟨#[]⟩, .string ⟨#[]⟩] 34)) := b_alloc (Below.refl _ w) _
  have hR := Blk.new w 34 #[.int .i64 0, .int .i64 0, .string ⟨#[]⟩, .string ⟨#[]⟩]
  have hRa := h.later hB1
  have hcl : ∀ i, i < n → (w.alloc (.cells #[.int .i64 0, .int .i64 0, .string ⟨#[]⟩, .string ⟨#[]⟩] 34)).cell? ⟨b, off + i, none⟩ = some (.int .u8 (M.getD i 0)) := by
    rcases hRa with ⟨h', _⟩ | ⟨b', o', hq, hcc⟩
    · cases h'
    · injection hq with hq; injection hq with q1 q2; subst q1 q2
      exact fun i hi => hcc i (by omega)
  have c4 := hcl 4 (by omega)
  have c5 := hcl 5 (by omega)
  have hN2 : Calls Try.prog 56 #[.slice (some ⟨b, off + 6, none⟩) 2 (cap - 6)] (w.alloc (.cells #[.int .i64 0, .int .i64 0, .string ⟨#[]⟩, .string ⟨#[]⟩] 34)) fun e w' => e = .returned (.int .u64 (dV fun i => M.getD i 0)) ∧ (w.alloc (.cells #[.int .i64 0, .int .i64 0, .string ⟨#[]⟩, .string ⟨#[]⟩] 34)) = w' :=
    number_2 b (off + 6) (cap - 6) (M.getD 6 0) (M.getD 7 0) (w.alloc (.cells #[.int .i64 0, .int .i64 0, .string ⟨#[]⟩, .string ⟨#[]⟩] 34)) (by omega) (hcl 6 (by omega)) (hcl 7 (by omega)) (hB.getD 6 (by omega)) (hB.getD 7 (by omega))
  have hN8 : Calls Try.prog 56 #[.slice (some ⟨b, off + 8, none⟩) 8 (cap - 8)] (w.alloc (.cells #[.int .i64 0, .int .i64 0, .string ⟨#[]⟩, .string ⟨#[]⟩] 34)) fun e w' => e = .returned (.int .u64 (dQ fun i => M.getD i 0)) ∧ (w.alloc (.cells #[.int .i64 0, .int .i64 0, .string ⟨#[]⟩, .string ⟨#[]⟩] 34)) = w' :=
    number_8 b (off + 8) (cap - 8) (M.getD 8 0) (M.getD 9 0) (M.getD 10 0) (M.getD 11 0) (M.getD 12 0) (M.getD 13 0) (M.getD 14 0) (M.getD 15 0) (w.alloc (.cells #[.int .i64 0, .int .i64 0, .string ⟨#[]⟩, .string ⟨#[]⟩] 34)) (by omega) (hcl 8 (by omega)) (hcl 9 (by omega)) (hcl 10 (by omega)) (hcl 11 (by omega)) (hcl 12 (by omega)) (hcl 13 (by omega)) (hcl 14 (by omega)) (hcl 15 (by omega))
      (hB.getD 8 (by omega)) (hB.getD 9 (by omega)) (hB.getD 10 (by omega)) (hB.getD 11 (by omega)) (hB.getD 12 (by omega)) (hB.getD 13 (by omega)) (hB.getD 14 (by omega)) (hB.getD 15 (by omega))
  have e6 : ¬ cap = 6 := by omega
  have e8 : ¬ cap = 8 := by omega
  have hcm : cap ≤ 9223372036854775807 := by unfold maxLen at hc; omega
  have z16 : (16 : Int) ≤ (n : Int) := by omega
  have zc16 : (16 : Int) ≤ (cap : Int) := by omega
  have zc8 : (8 : Int) ≤ (cap : Int) := by omega
  have zn5 : (4 : Int) < (n : Int) := by omega
  have zn6 : (5 : Int) < (n : Int) := by omega
  clear hcl hby r16
  generalize (dV fun i => M.getD i 0) = V at *
  generalize (dQ fun i => M.getD i 0) = Q at *
  generalize M.getD 4 0 = k at *
  generalize M.getD 5 0 = y at *
  have wk : IntKind.i64.wrap k = k := by rw [IntKind.wrap_i64]; omega
  have wy : IntKind.i64.wrap y = y := by rw [IntKind.wrap_i64]; omega
  have wV : IntKind.i64.wrap V = V := by rw [IntKind.wrap_i64]; omega
  obtain ⟨V0, V1⟩ := hVb
  obtain ⟨Q0, Q1⟩ := hQb
  obtain ⟨k0, k1⟩ := r4
  obtain ⟨y0, y1⟩ := r5
  clear h hRa hB
  have hw : ((k != 1) = true ∧ (k != 2) = true) ∨ ((k = 1 ∨ k = 2) ∧ (Q < 1 ∨ (1 ≤ Q ∧ 1099511627776 < Q))) := by
    rw [bne_iff_ne, bne_iff_ne]
    omega
  clear hbad
  rcases hw with ⟨w1, w2⟩ | ⟨rfl | rfl, w2 | ⟨w2, w3⟩⟩
  all_goals
    go_enter Try.func37, Try.ntmps37
    go_wp2_with (first
      | (go_at_call 56; (with_reducible refine hN2.mono ?_); rintro e w' ⟨rfl, rfl⟩)
      | (go_at_call 56; (with_reducible refine hN8.mono ?_); rintro e w' ⟨rfl, rfl⟩))
    refine bodyPost_ret (v := .tuple #[.agg #[.int .i64 0, .int .i64 0, .string ⟨#[]⟩, .string ⟨#[]⟩], .int .i64 0, .int .i64 8]) (results_c2 Try.results37 _ _ w.heap.size #[.int .i64 0, .int .i64 0, .string ⟨#[]⟩, .string ⟨#[]⟩] _ rfl (by repeat first | (with_reducible exact hR) | (with_reducible exact hR.set4 _ _ _ _) | (with_reducible apply Blk.alloc) | (with_reducible apply Blk.drew)) Try.underlying34 rfl (by kernel_rfl)) rfl ⟨rfl, ?_⟩
    repeat first | (with_reducible exact hB1) | (with_reducible apply Below.drew) | (with_reducible apply b_set) | (with_reducible apply b_alloc)
set_option maxHeartbeats 2000000 in
theorem d4_form2 (A : Option Addr) (n cap : Nat) (M : List Int) (w : World) (h : RB w A M) (hn : M.length = n) (hB : BB M) (hl : n ≤ cap) (hc : cap ≤ maxLen) (h16 : 16 ≤ n) (hk : M.getD 4 0 = 1 ∨ M.getD 4 0 = 2) (hq1 : 1 ≤ (dQ fun i => M.getD i 0)) (hq2 : (dQ fun i => M.getD i 0) ≤ 1099511627776) (hbad : M.getD 5 0 < 1 ∨ 32 < M.getD 5 0 ∨ 512 < (dV fun i => M.getD i 0) ∨ (M.getD 4 0 = 2 ∧ (dV fun i => M.getD i 0) ≠ 0)) :
    Calls Try.prog 37 #[.slice A n cap] w fun e w' => e = .returned (.tuple #[Rc.zero.v, .int .i64 0, .int .i64 8]) ∧ Below w.heap.size w w' := by
  have hby := Byts.of_rb h hn hB hl hc
  have r16 : ∀ i, i < 16 → 0 ≤ (fun i => M.getD i 0) i ∧ (fun i => M.getD i 0) i ≤ 255 := fun i hi => hB.getD i (by omega)
  have hVb := dV_bd r16
  have hQb := dQ_bd r16
  have hSb := dS_bd r16
  have r4 := hB.getD 4 (by omega)
  have r5 := hB.getD 5 (by omega)
  obtain ⟨b, off, rfl, hbl⟩ := h.some_ (by omega)
  have hB1 : Below w.heap.size w (w.alloc (.cells #[.int .i64 0, .int .i64 0, .string ⟨#[]⟩, .string ⟨#[]⟩] 34)) := b_alloc (Below.refl _ w) _
  have hR := Blk.new w 34 #[.int .i64 0, .int .i64 0, .string ⟨#[]⟩, .string ⟨#[]⟩]
  have hRa := h.later hB1
  have hcl : ∀ i, i < n → (w.alloc (.cells #[.int .i64 0, .int .i64 0, .string ⟨#[]⟩, .string ⟨#[]⟩] 34)).cell? ⟨b, off + i, none⟩ = some (.int .u8 (M.getD i 0)) := by
    rcases hRa with ⟨h', _⟩ | ⟨b', o', hq, hcc⟩
    · cases h'
    · injection hq with hq; injection hq with q1 q2; subst q1 q2
      exact fun i hi => hcc i (by omega)
  have c4 := hcl 4 (by omega)
  have c5 := hcl 5 (by omega)
  have hN2 : Calls Try.prog 56 #[.slice (some ⟨b, off + 6, none⟩) 2 (cap - 6)] (w.alloc (.cells #[.int .i64 0, .int .i64 0, .string ⟨#[]⟩, .string ⟨#[]⟩] 34)) fun e w' => e = .returned (.int .u64 (dV fun i => M.getD i 0)) ∧ (w.alloc (.cells #[.int .i64 0, .int .i64 0, .string ⟨#[]⟩, .string ⟨#[]⟩] 34)) = w' :=
    number_2 b (off + 6) (cap - 6) (M.getD 6 0) (M.getD 7 0) (w.alloc (.cells #[.int .i64 0, .int .i64 0, .string ⟨#[]⟩, .string ⟨#[]⟩] 34)) (by omega) (hcl 6 (by omega)) (hcl 7 (by omega)) (hB.getD 6 (by omega)) (hB.getD 7 (by omega))
  have hN8 : Calls Try.prog 56 #[.slice (some ⟨b, off + 8, none⟩) 8 (cap - 8)] (w.alloc (.cells #[.int .i64 0, .int .i64 0, .string ⟨#[]⟩, .string ⟨#[]⟩] 34)) fun e w' => e = .returned (.int .u64 (dQ fun i => M.getD i 0)) ∧ (w.alloc (.cells #[.int .i64 0, .int .i64 0, .string ⟨#[]⟩, .string ⟨#[]⟩] 34)) = w' :=
    number_8 b (off + 8) (cap - 8) (M.getD 8 0) (M.getD 9 0) (M.getD 10 0) (M.getD 11 0) (M.getD 12 0) (M.getD 13 0) (M.getD 14 0) (M.getD 15 0) (w.alloc (.cells #[.int .i64 0, .int .i64 0, .string ⟨#[]⟩, .string ⟨#[]⟩] 34)) (by omega) (hcl 8 (by omega)) (hcl 9 (by omega)) (hcl 10 (by omega)) (hcl 11 (by omega)) (hcl 12 (by omega)) (hcl 13 (by omega)) (hcl 14 (by omega)) (hcl 15 (by omega))
      (hB.getD 8 (by omega)) (hB.getD 9 (by omega)) (hB.getD 10 (by omega)) (hB.getD 11 (by omega)) (hB.getD 12 (by omega)) (hB.getD 13 (by omega)) (hB.getD 14 (by omega)) (hB.getD 15 (by omega))
  have e6 : ¬ cap = 6 := by omega
  have e8 : ¬ cap = 8 := by omega
  have hcm : cap ≤ 9223372036854775807 := by unfold maxLen at hc; omega
  have z16 : (16 : Int) ≤ (n : Int) := by omega
  have zc16 : (16 : Int) ≤ (cap : Int) := by omega
  have zc8 : (8 : Int) ≤ (cap : Int) := by omega
  have zn5 : (4 : Int) < (n : Int) := by omega
  have zn6 : (5 : Int) < (n : Int) := by omega
  clear hcl hby r16
  generalize (dV fun i => M.getD i 0) = V at *
  generalize (dQ fun i => M.getD i 0) = Q at *
  generalize M.getD 4 0 = k at *
  generalize M.getD 5 0 = y at *
  have wk : IntKind.i64.wrap k = k := by rw [IntKind.wrap_i64]; omega
  have wy : IntKind.i64.wrap y = y := by rw [IntKind.wrap_i64]; omega
  have wV : IntKind.i64.wrap V = V := by rw [IntKind.wrap_i64]; omega
  obtain ⟨V0, V1⟩ := hVb
  obtain ⟨Q0, Q1⟩ := hQb
  obtain ⟨k0, k1⟩ := r4
  obtain ⟨y0, y1⟩ := r5
  clear h hRa hB
  have hw : (y < 1 ∨ (1 ≤ y ∧ 32 < y) ∨ (1 ≤ y ∧ y ≤ 32 ∧ 512 < V)) ∨ (1 ≤ y ∧ y ≤ 32 ∧ V ≤ 512 ∧ k = 2 ∧ (V != 0) = true) := by
    rw [bne_iff_ne]
    omega
  clear hbad
  rcases hw with hw | ⟨w1, w2, w3, rfl, w4⟩
  · rcases hk with rfl | rfl <;> rcases hw with hw | ⟨w1, w2⟩ | ⟨w1, w2, w3⟩
    all_goals
      go_enter Try.func37, Try.ntmps37
      go_wp2_with (first
        | (go_at_call 56; (with_reducible refine hN2.mono ?_); rintro e w' ⟨rfl, rfl⟩)
        | (go_at_call 56; (with_reducible refine hN8.mono ?_); rintro e w' ⟨rfl, rfl⟩))
      refine bodyPost_ret (v := .tuple #[.agg #[.int .i64 0, .int .i64 0, .string ⟨#[]⟩, .string ⟨#[]⟩], .int .i64 0, .int .i64 8]) (results_c2 Try.results37 _ _ w.heap.size #[.int .i64 0, .int .i64 0, .string ⟨#[]⟩, .string ⟨#[]⟩] _ rfl (by repeat first | (with_reducible exact hR) | (with_reducible exact hR.set4 _ _ _ _) | (with_reducible apply Blk.alloc) | (with_reducible apply Blk.drew)) Try.underlying34 rfl (by kernel_rfl)) rfl ⟨rfl, ?_⟩
      repeat first | (with_reducible exact hB1) | (with_reducible apply Below.drew) | (with_reducible apply b_set) | (with_reducible apply b_alloc)
  · clear hk
    go_enter Try.func37, Try.ntmps37
    go_wp2_with (first
      | (go_at_call 56; (with_reducible refine hN2.mono ?_); rintro e w' ⟨rfl, rfl⟩)
      | (go_at_call 56; (with_reducible refine hN8.mono ?_); rintro e w' ⟨rfl, rfl⟩))
    refine bodyPost_ret (v := .tuple #[.agg #[.int .i64 0, .int .i64 0, .string ⟨#[]⟩, .string ⟨#[]⟩], .int .i64 0, .int .i64 8]) (results_c2 Try.results37 _ _ w.heap.size #[.int .i64 0, .int .i64 0, .string ⟨#[]⟩, .string ⟨#[]⟩] _ rfl (by repeat first | (with_reducible exact hR) | (with_reducible exact hR.set4 _ _ _ _) | (with_reducible apply Blk.alloc) | (with_reducible apply Blk.drew)) Try.underlying34 rfl (by kernel_rfl)) rfl ⟨rfl, ?_⟩
    repeat first | (with_reducible exact hB1) | (with_reducible apply Below.drew) | (with_reducible apply b_set) | (with_reducible apply b_alloc)
set_option maxHeartbeats 2000000 in
theorem d4_torn1 (A : Option Addr) (n cap : Nat) (M : List Int) (kind seq S : Int) (Y V : Nat) (w : World) (H : Head M kind seq S Y V) (h : RB w A M) (hn : M.length = n) (hB : BB M) (hl : n ≤ cap) (hc : cap ≤ maxLen) (hs : n < 16 + Y + V) :
    Calls Try.prog 37 #[.slice A n cap] w fun e w' => e = .returned (.tuple #[Rc.zero.v, .int .i64 0, .int .i64 14]) ∧ Below w.heap.size w w' := by
  have h16 : 16 ≤ n := by have := H.len; omega
  obtain ⟨hk, q1, q2, y1, y2, v2⟩ := H.bd
  have hby := Byts.of_rb h hn hB hl hc
  have r16 : ∀ i, i < 16 → 0 ≤ (fun i => M.getD i 0) i ∧ (fun i => M.getD i 0) i ≤ 255 := fun i hi => hB.getD i (by omega)
  have hVb := dV_bd r16
  have hQb := dQ_bd r16
  have hSb := dS_bd r16
  have r4 := hB.getD 4 (by omega)
  have r5 := hB.getD 5 (by omega)
  obtain ⟨b, off, rfl, hbl⟩ := h.some_ (by omega)
  have hB1 : Below w.heap.size w (w.alloc (.cells #[.int .i64 0, .int .i64 0, .string ⟨#[]⟩, .string ⟨#[]⟩] 34)) := b_alloc (Below.refl _ w) _
  have hR := Blk.new w 34 #[.int .i64 0, .int .i64 0, .string ⟨#[]⟩, .string ⟨#[]⟩]
  have hRa := h.later hB1
  have hcl : ∀ i, i < n → (w.alloc (.cells #[.int .i64 0, .int .i64 0, .string ⟨#[]⟩, .string ⟨#[]⟩] 34)).cell? ⟨b, off + i, none⟩ = some (.int .u8 (M.getD i 0)) := by
    rcases hRa with ⟨h', _⟩ | ⟨b', o', hq, hcc⟩
    · cases h'
    · injection hq with hq; injection hq with q1 q2; subst q1 q2
      exact fun i hi => hcc i (by omega)
  have c4 := hcl 4 (by omega)
  have c5 := hcl 5 (by omega)
  have hN2 : Calls Try.prog 56 #[.slice (some ⟨b, off + 6, none⟩) 2 (cap - 6)] (w.alloc (.cells #[.int .i64 0, .int .i64 0, .string ⟨#[]⟩, .string ⟨#[]⟩] 34)) fun e w' => e = .returned (.int .u64 (dV fun i => M.getD i 0)) ∧ (w.alloc (.cells #[.int .i64 0, .int .i64 0, .string ⟨#[]⟩, .string ⟨#[]⟩] 34)) = w' :=
    number_2 b (off + 6) (cap - 6) (M.getD 6 0) (M.getD 7 0) (w.alloc (.cells #[.int .i64 0, .int .i64 0, .string ⟨#[]⟩, .string ⟨#[]⟩] 34)) (by omega) (hcl 6 (by omega)) (hcl 7 (by omega)) (hB.getD 6 (by omega)) (hB.getD 7 (by omega))
  have hN8 : Calls Try.prog 56 #[.slice (some ⟨b, off + 8, none⟩) 8 (cap - 8)] (w.alloc (.cells #[.int .i64 0, .int .i64 0, .string ⟨#[]⟩, .string ⟨#[]⟩] 34)) fun e w' => e = .returned (.int .u64 (dQ fun i => M.getD i 0)) ∧ (w.alloc (.cells #[.int .i64 0, .int .i64 0, .string ⟨#[]⟩, .string ⟨#[]⟩] 34)) = w' :=
    number_8 b (off + 8) (cap - 8) (M.getD 8 0) (M.getD 9 0) (M.getD 10 0) (M.getD 11 0) (M.getD 12 0) (M.getD 13 0) (M.getD 14 0) (M.getD 15 0) (w.alloc (.cells #[.int .i64 0, .int .i64 0, .string ⟨#[]⟩, .string ⟨#[]⟩] 34)) (by omega) (hcl 8 (by omega)) (hcl 9 (by omega)) (hcl 10 (by omega)) (hcl 11 (by omega)) (hcl 12 (by omega)) (hcl 13 (by omega)) (hcl 14 (by omega)) (hcl 15 (by omega))
      (hB.getD 8 (by omega)) (hB.getD 9 (by omega)) (hB.getD 10 (by omega)) (hB.getD 11 (by omega)) (hB.getD 12 (by omega)) (hB.getD 13 (by omega)) (hB.getD 14 (by omega)) (hB.getD 15 (by omega))
  have e6 : ¬ cap = 6 := by omega
  have e8 : ¬ cap = 8 := by omega
  have hcm : cap ≤ 9223372036854775807 := by unfold maxLen at hc; omega
  have z16 : (16 : Int) ≤ (n : Int) := by omega
  have zc16 : (16 : Int) ≤ (cap : Int) := by omega
  have zc8 : (8 : Int) ≤ (cap : Int) := by omega
  have zn5 : (4 : Int) < (n : Int) := by omega
  have zn6 : (5 : Int) < (n : Int) := by omega
  clear hcl hby r16
  rw [H.v] at hN2
  rw [H.q] at hN8
  rw [H.k] at c4
  rw [H.y] at c5
  have hSl := H.s
  have wk : IntKind.i64.wrap kind = kind := by rw [IntKind.wrap_i64]; omega
  have wy : IntKind.i64.wrap (Y : Int) = (Y : Int) := by rw [IntKind.wrap_i64]; omega
  have wV : IntKind.i64.wrap (V : Int) = (V : Int) := by rw [IntKind.wrap_i64]; omega
  have hkk : (kind = 1) ∨ (kind = 2 ∧ ((V : Int) != 0) = false) := by
    rw [bne_eq_false_iff_eq]
    omega
  have zc4 : (4 : Int) ≤ (cap : Int) := by omega
  clear hVb hQb r4 r5 H
  have hs' : (n : Int) < 16 + (Y : Int) + (V : Int) := by omega
  clear h hRa hB
  rcases hkk with rfl | ⟨rfl, hV0⟩
  all_goals
    go_enter Try.func37, Try.ntmps37
    go_wp2_with (first
      | (go_at_call 56; (with_reducible refine hN2.mono ?_); rintro e w' ⟨rfl, rfl⟩)
      | (go_at_call 56; (with_reducible refine hN8.mono ?_); rintro e w' ⟨rfl, rfl⟩))
    refine bodyPost_ret (v := .tuple #[.agg #[.int .i64 0, .int .i64 0, .string ⟨#[]⟩, .string ⟨#[]⟩], .int .i64 0, .int .i64 14]) (results_c2 Try.results37 _ _ w.heap.size #[.int .i64 0, .int .i64 0, .string ⟨#[]⟩, .string ⟨#[]⟩] _ rfl (by repeat first | (with_reducible exact hR) | (with_reducible exact hR.set4 _ _ _ _) | (with_reducible apply Blk.alloc) | (with_reducible apply Blk.drew)) Try.underlying34 rfl (by kernel_rfl)) rfl ⟨rfl, ?_⟩
    repeat first | (with_reducible exact hB1) | (with_reducible apply Below.drew) | (with_reducible apply b_set) | (with_reducible apply b_alloc)

def KD (W : World) (b off : Nat) (M : List Int) (w' : World) : Prop := Below W.heap.size W w' ∧ Blk w' W.heap.size 34 #[.int .i64 0, .int .i64 0, .string ⟨#[]⟩, .string ⟨#[]⟩] ∧ RB w' (some ⟨b, off, none⟩) M
theorem KD.rb {W : World} {b off : Nat} {M : List Int} {w : World} (h : KD W b off M w) : RB w (some ⟨b, off, none⟩) M := h.2.2
theorem KD.after {W : World} {b off : Nat} {M : List Int} {w w' : World} (h : KD W b off M w) (hb : Below w.heap.size w w') : KD W b off M w' := ⟨b_then h.1 hb, h.2.1.below hb h.2.1.lt, h.2.2.later hb⟩
set_option maxHeartbeats 2000000 in
theorem d4_sum (A : Option Addr) (n cap : Nat) (M : List Int) (kind seq S : Int) (Y V : Nat) (w : World) (H : Head M kind seq S Y V) (h : RB w A M) (hn : M.length = n) (hB : BB M) (hl : n ≤ cap) (hc : cap ≤ maxLen) (hs : 16 + Y + V ≤ n) (hcs : ((csI ((M.take (16 + Y + V)).drop 4)) != S) = true) :
    Calls Try.prog 37 #[.slice A n cap] w fun e w' => e = .returned (.tuple #[Rc.zero.v, .int .i64 0, .int .i64 15]) ∧ Below w.heap.size w w' := by
  have h16 : 16 ≤ n := by have := H.len; omega
  obtain ⟨hk, q1, q2, y1, y2, v2⟩ := H.bd
  have hby := Byts.of_rb h hn hB hl hc
  have r16 : ∀ i, i < 16 → 0 ≤ (fun i => M.getD i 0) i ∧ (fun i => M.getD i 0) i ≤ 255 := fun i hi => hB.getD i (by omega)
  have hVb := dV_bd r16
  have hQb := dQ_bd r16
  have hSb := dS_bd r16
  have r4 := hB.getD 4 (by omega)
  have r5 := hB.getD 5 (by omega)
  obtain ⟨b, off, rfl, hbl⟩ := h.some_ (by omega)
  have hB1 : Below w.heap.size w (w.alloc (.cells #[.int .i64 0, .int .i64 0, .string ⟨#[]⟩, .string ⟨#[]⟩] 34)) := b_alloc (Below.refl _ w) _
  have hR := Blk.new w 34 #[.int .i64 0, .int .i64 0, .string ⟨#[]⟩, .string ⟨#[]⟩]
  have hRa := h.later hB1
  have hcl : ∀ i, i < n → (w.alloc (.cells #[.int .i64 0, .int .i64 0, .string ⟨#[]⟩, .string ⟨#[]⟩] 34)).cell? ⟨b, off + i, none⟩ = some (.int .u8 (M.getD i 0)) := by
    rcases hRa with ⟨h', _⟩ | ⟨b', o', hq, hcc⟩
    · cases h'
    · injection hq with hq; injection hq with q1 q2; subst q1 q2
      exact fun i hi => hcc i (by omega)
  have c4 := hcl 4 (by omega)
  have c5 := hcl 5 (by omega)
  have hN2 : Calls Try.prog 56 #[.slice (some ⟨b, off + 6, none⟩) 2 (cap - 6)] (w.alloc (.cells #[.int .i64 0, .int .i64 0, .string ⟨#[]⟩, .string ⟨#[]⟩] 34)) fun e w' => e = .returned (.int .u64 (dV fun i => M.getD i 0)) ∧ (w.alloc (.cells #[.int .i64 0, .int .i64 0, .string ⟨#[]⟩, .string ⟨#[]⟩] 34)) = w' :=
    number_2 b (off + 6) (cap - 6) (M.getD 6 0) (M.getD 7 0) (w.alloc (.cells #[.int .i64 0, .int .i64 0, .string ⟨#[]⟩, .string ⟨#[]⟩] 34)) (by omega) (hcl 6 (by omega)) (hcl 7 (by omega)) (hB.getD 6 (by omega)) (hB.getD 7 (by omega))
  have hN8 : Calls Try.prog 56 #[.slice (some ⟨b, off + 8, none⟩) 8 (cap - 8)] (w.alloc (.cells #[.int .i64 0, .int .i64 0, .string ⟨#[]⟩, .string ⟨#[]⟩] 34)) fun e w' => e = .returned (.int .u64 (dQ fun i => M.getD i 0)) ∧ (w.alloc (.cells #[.int .i64 0, .int .i64 0, .string ⟨#[]⟩, .string ⟨#[]⟩] 34)) = w' :=
    number_8 b (off + 8) (cap - 8) (M.getD 8 0) (M.getD 9 0) (M.getD 10 0) (M.getD 11 0) (M.getD 12 0) (M.getD 13 0) (M.getD 14 0) (M.getD 15 0) (w.alloc (.cells #[.int .i64 0, .int .i64 0, .string ⟨#[]⟩, .string ⟨#[]⟩] 34)) (by omega) (hcl 8 (by omega)) (hcl 9 (by omega)) (hcl 10 (by omega)) (hcl 11 (by omega)) (hcl 12 (by omega)) (hcl 13 (by omega)) (hcl 14 (by omega)) (hcl 15 (by omega))
      (hB.getD 8 (by omega)) (hB.getD 9 (by omega)) (hB.getD 10 (by omega)) (hB.getD 11 (by omega)) (hB.getD 12 (by omega)) (hB.getD 13 (by omega)) (hB.getD 14 (by omega)) (hB.getD 15 (by omega))
  have e6 : ¬ cap = 6 := by omega
  have e8 : ¬ cap = 8 := by omega
  have hcm : cap ≤ 9223372036854775807 := by unfold maxLen at hc; omega
  have z16 : (16 : Int) ≤ (n : Int) := by omega
  have zc16 : (16 : Int) ≤ (cap : Int) := by omega
  have zc8 : (8 : Int) ≤ (cap : Int) := by omega
  have zn5 : (4 : Int) < (n : Int) := by omega
  have zn6 : (5 : Int) < (n : Int) := by omega
  clear hcl hby r16
  rw [H.v] at hN2
  rw [H.q] at hN8
  rw [H.k] at c4
  rw [H.y] at c5
  have hSl := H.s
  have wk : IntKind.i64.wrap kind = kind := by rw [IntKind.wrap_i64]; omega
  have wy : IntKind.i64.wrap (Y : Int) = (Y : Int) := by rw [IntKind.wrap_i64]; omega
  have wV : IntKind.i64.wrap (V : Int) = (V : Int) := by rw [IntKind.wrap_i64]; omega
  have hkk : (kind = 1) ∨ (kind = 2 ∧ ((V : Int) != 0) = false) := by
    rw [bne_eq_false_iff_eq]
    omega
  have zc4 : (4 : Int) ≤ (cap : Int) := by omega
  clear hVb hQb r4 r5 H
  have hsl : ((M.take (16 + Y + V)).drop 4).length = 16 + Y + V - 4 := by rw [List.length_drop, List.length_take]; omega
  have hBs := (hB.take (16 + Y + V)).drop 4
  have hcs0 : ((csI ((M.take (16 + Y + V)).drop 4)) != S) = true := hcs
  obtain ⟨C, hC⟩ : ∃ C, C = csI ((M.take (16 + Y + V)).drop 4) := ⟨_, rfl⟩
  have hCb := csI_bd hBs
  have n4 : ¬ cap = 4 := by omega
  have HVs : Hid (∀ w' : World, RB w' (some ⟨b, off, none⟩) M → Calls Try.prog 48 #[.slice (some ⟨b, off + 4, none⟩) ((16 + (Y : Int) + (V : Int)).toNat - 4) (cap - 4)] w' fun e w'' => e = .returned (.int .u32 C) ∧ w' = w'') := fun w' h' => by
    have c := rsum_any (some ⟨b, off + 4, none⟩) (16 + Y + V - 4) (cap - 4) ((M.take (16 + Y + V)).drop 4) w' (h'.sub 4 (16 + Y + V)) hBs hsl (by omega) (by unfold maxLen at *; omega)
    rw [← hC] at c
    rwa [show (16 + (Y : Int) + (V : Int)).toNat = 16 + Y + V by omega]
  have HN4 : Hid (∀ w' : World, RB w' (some ⟨b, off, none⟩) M → Calls Try.prog 56 #[.slice (some ⟨b, off, none⟩) 4 cap] w' fun e w'' => e = .returned (.int .u64 S) ∧ w' = w'') := fun w' h' => by
    have hx : ∀ i, i < 4 → w'.cell? ⟨b, off + i, none⟩ = some (.int .u8 (M.getD i 0)) := by
      rcases h' with ⟨h', _⟩ | ⟨b', o', hq, hcc⟩
      · cases h'
      · injection hq with hq; injection hq with q1 q2; subst q1 q2
        exact fun i hi => hcc i (by omega)
    rw [← hSl]
    exact number_4 b off cap (M.getD 0 0) (M.getD 1 0) (M.getD 2 0) (M.getD 3 0) w' (by omega) (hx 0 (by omega)) (hx 1 (by omega)) (hx 2 (by omega)) (hx 3 (by omega)) (hB.getD 0 (by omega)) (hB.getD 1 (by omega)) (hB.getD 2 (by omega)) (hB.getD 3 (by omega))
  rw [← hC] at hcs0 hCb
  have uC : IntKind.u64.wrap C = C := by rw [IntKind.wrap_u64]; omega
  have z1 : (4 : Int) ≤ 16 + (Y : Int) + (V : Int) := by omega
  have z2 : 16 + (Y : Int) + (V : Int) ≤ (cap : Int) := by omega
  have z3 : (0 : Int) ≤ 16 + (Y : Int) + (V : Int) := by omega
  have zn : 16 + (Y : Int) + (V : Int) ≤ (n : Int) := by omega
  have hK0 : KD w b off M (w.alloc (.cells #[.int .i64 0, .int .i64 0, .string ⟨#[]⟩, .string ⟨#[]⟩] 34)) := ⟨hB1, hR, hRa⟩
  have hK1 := hK0.after (Below.drew (Below.refl _ _))
  clear hcs hsl hBs hC hSl hCb hSb h hK0
  clear hRa hB
  rcases hkk with rfl | ⟨rfl, hV0⟩
  all_goals
    go_enter Try.func37, Try.ntmps37
    go_wp2_with (first
      | (go_at_call 56; (with_reducible refine hN2.mono ?_); rintro e w' ⟨rfl, rfl⟩)
      | (go_at_call 56; (with_reducible refine hN8.mono ?_); rintro e w' ⟨rfl, rfl⟩))
    go_region_held3 (fun w' => KD w b off M w') (first | (with_reducible assumption) | (with_reducible exact hK1)) (first
      | (go_at_call 48; (with_reducible refine (HVs.out _ (KD.rb (by assumption))).mono ?_); rintro e w' ⟨rfl, rfl⟩)
      | (go_at_call 56; (with_reducible refine (HN4.out _ (KD.rb (by assumption))).mono ?_); rintro e w' ⟨rfl, rfl⟩))
    go_wp2_with fail
    refine bodyPost_ret (v := .tuple #[.agg #[.int .i64 0, .int .i64 0, .string ⟨#[]⟩, .string ⟨#[]⟩], .int .i64 0, .int .i64 15]) (results_c2 Try.results37 _ _ w.heap.size #[.int .i64 0, .int .i64 0, .string ⟨#[]⟩, .string ⟨#[]⟩] _ rfl (by repeat first | (with_reducible exact hR) | (with_reducible exact hR.set4 _ _ _ _) | (with_reducible apply Blk.alloc) | (with_reducible apply Blk.drew)) Try.underlying34 rfl (by kernel_rfl)) rfl ⟨rfl, ?_⟩
    repeat first | (with_reducible exact hB1) | (with_reducible apply Below.drew) | (with_reducible apply b_set) | (with_reducible apply b_alloc)
end Go.Proofs.Ytjcdflohkajbcaa
