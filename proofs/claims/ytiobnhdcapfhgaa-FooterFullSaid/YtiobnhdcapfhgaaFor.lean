/-
  The footer of a list of records: the reference.
-/
import Derived.Test.YtiobnhdcapfhgaaFch
import Derived.Test.YtiobnhdcapfhgaaRc4
import Derived.Test.YtiobnhdcapfhgaaRcs
import Derived.Test.YtiobnhdcapfhgaaOfm
import Derived.Test.YtiobnhdcapfhgaaFad
namespace Go.Proofs.Ytiobnhdcapfhgaa
open Go.RowKit
set_option linter.unusedVariables false
theorem b_set1 {a w : World} (h : Below a.heap.size a w) (o : Nat) (u : Value) : Below a.heap.size a (w.setCell ⟨a.heap.size + 1, o, none⟩ u) := h.setCell (by exact Nat.le_succ _) u
theorem b_set0 {a w : World} (h : Below a.heap.size a w) (o : Nat) (u : Value) : Below a.heap.size a (w.setCell ⟨a.heap.size, o, none⟩ u) := h.setCell (Nat.le_refl _) u
set_option maxHeartbeats 1600000 in
theorem rof_any (A : Option Addr) (cap : Nat) (rs : List Rc) (w : World) (h : IsRs w A rs) (hl : rs.length ≤ cap) (hc : cap ≤ maxLen) :
    Calls Try.prog 28 #[.slice A rs.length cap] w fun e w' => e = .returned (.tuple #[.agg #[.int .i64 (ofF rs).1, .int .i64 (ofF rs).2.1], .int .i64 (ofF rs).2.2]) ∧ Below w.heap.size w w' := by
  obtain ⟨⟨o1, o2, o3⟩, ho⟩ : ∃ o, o = ofF rs := ⟨_, rfl⟩
  rw [← ho]
  show Calls Try.prog 28 #[.slice A rs.length cap] w fun e w' => e = .returned (.tuple #[.agg #[.int .i64 o1, .int .i64 o2], .int .i64 o3]) ∧ Below w.heap.size w w'
  obtain ⟨n, hn⟩ : ∃ n, n = rs.length := ⟨_, rfl⟩
  rw [← hn] at hl ⊢
  unfold maxLen at hc
  go_enter Try.func28, Try.ntmps28
  go_wp2_with fail
  have HN := Lib.hid hn
  have HO := Lib.hid ho
  clear hn ho
  go_loopw [5] (fun i wr => ∃ q : Nat, q ≤ n ∧ i = .int .i64 q ∧ allOk (rs.take q) = true ∧ Blk wr w.heap.size 29 #[.int .i64 0, .int .i64 0] ∧ Blk wr (w.heap.size + 1) 29 #[.int .i64 0, .int .i64 (lastF (rs.take q))] ∧ Below w.heap.size w wr) (fun i _ => n - (intOf i).toNat)
  case atStart => exact ⟨0, Nat.zero_le _, rfl, by simp [allOk], (Blk.new w _ _).alloc _, by have := Blk.new (w.alloc (.cells #[.int .i64 0, .int .i64 0] 29)) 29 #[.int .i64 0, .int .i64 0]; rw [World.size_alloc] at this; exact this, b_alloc (b_alloc (Below.refl _ _) _) _⟩
  case round =>
    obtain ⟨q, hq, rfl, ha, hR, hF, hB⟩ := hrel
    have cF := hF.cell
    have fF := hF.frozen
    have cR := hR.cell
    have fR := hR.frozen
    by_cases hlt : q < n
    · obtain ⟨r, hr⟩ : ∃ r, rs[q]? = some r := ⟨_, List.getElem?_eq_getElem (by have := HN.out; omega)⟩
      obtain ⟨b, off, rfl, hbl, k0, k1, k2, k3⟩ := (h.later hB).at_ hr
      have hsz := h.1 r (List.mem_of_getElem? hr)
      have hts := take_snoc hr
      have z1 : (q : Int) < (n : Int) := by omega
      have z2 : (0 : Int) ≤ (q : Int) := by omega
      by_cases hok : r.Ok
      · have hck := fun w => rchk4_yes r hok w
        have ha2 : allOk (rs.take (q + 1)) = true := by rw [hts, allOk_snoc, ha]; simp [hok]
        have hl2 : lastF (rs.take (q + 1)) = max (lastF (rs.take q)) r.seq := by rw [hts, lastF_snoc]
        obtain ⟨L, hL⟩ : ∃ L, L = lastF (rs.take q) := ⟨_, rfl⟩
        rw [← hL] at hl2 hF cF
        have HA := Lib.hid ha2
        have HL := Lib.hid hl2
        clear ha2 hl2 hL hr hts hok
        obtain ⟨kind, sq, key, val⟩ := r
        have hck : ∀ w : World, Calls Try.prog 43 #[.agg #[.int .i64 kind, .int .i64 sq, .string key, .string val]] w fun e w' => e = .returned (.int .i64 0) ∧ Below w.heap.size w w' := hck
        have HL : Hid (lastF (rs.take (q + 1)) = max L sq) := HL
        have k0 : wr.cell? ⟨b, off + q * 4, none⟩ = some (.int .i64 kind) := k0
        have k1 : wr.cell? ⟨b, off + q * 4 + 1, none⟩ = some (.int .i64 sq) := k1
        have k2 : wr.cell? ⟨b, off + q * 4 + 2, none⟩ = some (.string key) := k2
        have k3 : wr.cell? ⟨b, off + q * 4 + 3, none⟩ = some (.string val) := k3
        clear hsz cF fF cR fR
        go_wp2_with fail
        refine (hck _).mono ?_
        rintro e w1 ⟨rfl, hb1⟩
        have hR1 := hR.below hb1 hR.lt
        have cR1 := hR1.cell
        have fR1 := hR1.frozen
        have hF1 := hF.below hb1 hF.lt
        have cF1 := hF1.cell
        have fF1 := hF1.frozen
        have hB1 := b_then hB hb1
        have k1' : w1.cell? ⟨b, off + q * 4 + 1, none⟩ = some (.int .i64 sq) := (hb1.cell (p := ⟨b, off + q * 4 + 1, none⟩) hbl).trans k1
        clear hck hb1 k0 k1 k2 k3 hR hF hB
        have hF2 : Blk (w1.setCell ⟨w.heap.size + 1, 1, none⟩ (.int .i64 (max L sq))) (w.heap.size + 1) 29 #[.int .i64 0, .int .i64 (max L sq)] := hF1.set_ 1 (.int .i64 (max L sq))
        have hR2 : Blk (w1.setCell ⟨w.heap.size + 1, 1, none⟩ (.int .i64 (max L sq))) w.heap.size 29 #[.int .i64 0, .int .i64 0] := hR1.far (p := ⟨w.heap.size + 1, 1, none⟩) (by show w.heap.size ≠ w.heap.size + 1; omega) _
        have hB2 : Below w.heap.size w (w1.setCell ⟨w.heap.size + 1, 1, none⟩ (.int .i64 (max L sq))) := b_set1 hB1 1 _
        have hF3 := hF2.drew
        have hR3 := hR2.drew
        have hB3 := Below.drew hB2
        go_wp2_with fail
        go_region
        go_wp2_with fail
        go_roundw
        case rel => exact ⟨q + 1, by omega, by go_num, HA.out, hR3, by rw [HL.out]; exact hF3, hB3⟩
        case measure => simp [intOf]; omega
      · have hck := fun w => rchk4_no r hok hsz.1 hsz.2 w
        have hres : ofF rs = (0, 0, 2) := by unfold ofF; rw [if_pos (allOk_bad hr hok)]
        have ho' := HO.out
        rw [hres] at ho'
        injection ho' with e1 e2
        injection e2 with e2 e3
        subst e1 e2 e3
        clear hres hr hts hok
        obtain ⟨kind, sq, key, val⟩ := r
        have hck : ∀ w : World, Calls Try.prog 43 #[.agg #[.int .i64 kind, .int .i64 sq, .string key, .string val]] w fun e w' => e = .returned (.int .i64 2) ∧ Below w.heap.size w w' := hck
        have k0 : wr.cell? ⟨b, off + q * 4, none⟩ = some (.int .i64 kind) := k0
        have k1 : wr.cell? ⟨b, off + q * 4 + 1, none⟩ = some (.int .i64 sq) := k1
        have k2 : wr.cell? ⟨b, off + q * 4 + 2, none⟩ = some (.string key) := k2
        have k3 : wr.cell? ⟨b, off + q * 4 + 3, none⟩ = some (.string val) := k3
        clear hsz cF fF cR fR
        go_wp2_with fail
        refine (hck _).mono ?_
        rintro e w1 ⟨rfl, hb1⟩
        have hR1 := hR.below hb1 hR.lt
        have cR1 := hR1.cell
        have fR1 := hR1.frozen
        have hF1 := hF.below hb1 hF.lt
        have cF1 := hF1.cell
        have fF1 := hF1.frozen
        have hB1 := b_then hB hb1
        have k1' : w1.cell? ⟨b, off + q * 4 + 1, none⟩ = some (.int .i64 sq) := (hb1.cell (p := ⟨b, off + q * 4 + 1, none⟩) hbl).trans k1
        clear hck hb1 k0 k1 k2 k3 hR hF hB
        go_wp2_with fail
        refine bodyPost_ret (v := .tuple #[.agg #[.int .i64 0, .int .i64 0], .int .i64 2]) (results_c1 Try.results28 _ _ w.heap.size #[.int .i64 0, .int .i64 0] _ rfl (by repeat first | (with_reducible exact hR1.set2 _ _) | (with_reducible apply Blk.alloc) | (with_reducible apply Blk.drew)) Try.underlying29 rfl (by kernel_rfl)) rfl ⟨rfl, ?_⟩
        repeat first | (with_reducible exact hB1) | (with_reducible apply Below.drew) | (with_reducible apply b_set0) | (with_reducible apply b_set1) | (with_reducible apply b_alloc)
    · obtain rfl : n = q := by omega
      have z1 : ¬ (n : Int) < (n : Int) := by omega
      have hta : rs.take n = rs := List.take_of_length_le (by rw [HN.out]; exact Nat.le_refl _)
      rw [hta] at ha hF cF
      by_cases hov : 65535 < n
      · have hres : ofF rs = (0, 0, 16) := by unfold ofF; rw [if_neg (by rw [ha]; simp), if_pos (by rw [← HN.out]; exact hov)]
        have ho' := HO.out
        rw [hres] at ho'
        injection ho' with e1 e2
        injection e2 with e2 e3
        subst e1 e2 e3
        have z3 : (65535 : Int) < (n : Int) := by omega
        clear hres hta ha hlt hq hF cF fF
        go_wp2_with fail
        refine bodyPost_ret (v := .tuple #[.agg #[.int .i64 0, .int .i64 0], .int .i64 16]) (results_c1 Try.results28 _ _ w.heap.size #[.int .i64 0, .int .i64 0] _ rfl (by repeat first | (with_reducible exact hR.set2 _ _) | (with_reducible apply Blk.alloc) | (with_reducible apply Blk.drew)) Try.underlying29 rfl (by kernel_rfl)) rfl ⟨rfl, ?_⟩
        repeat first | (with_reducible exact hB) | (with_reducible apply Below.drew) | (with_reducible apply b_set0) | (with_reducible apply b_set1) | (with_reducible apply b_alloc)
      · have hres : ofF rs = ((n : Int), lastF rs, 0) := by unfold ofF; rw [if_neg (by rw [ha]; simp), if_neg (by rw [← HN.out]; exact hov), ← HN.out]
        have ho' := HO.out
        rw [hres] at ho'
        injection ho' with e1 e2
        injection e2 with e2 e3
        subst e1 e3
        rw [← e2] at hF cF
        clear e2
        have z3 : (n : Int) ≤ 65535 := by omega
        have hF2 : Blk (wr.setCell ⟨w.heap.size + 1, 0, none⟩ (.int .i64 (n : Nat))) (w.heap.size + 1) 29 #[.int .i64 (n : Nat), .int .i64 o2] := hF.set_ 0 _
        have cF2 := hF2.cell
        have hR2 : Blk (wr.setCell ⟨w.heap.size + 1, 0, none⟩ (.int .i64 (n : Nat))) w.heap.size 29 #[.int .i64 0, .int .i64 0] := hR.far (p := ⟨w.heap.size + 1, 0, none⟩) (by show w.heap.size ≠ w.heap.size + 1; omega) _
        have cR2 := hR2.cell
        have fR2 := hR2.frozen
        have hB2 : Below w.heap.size w (wr.setCell ⟨w.heap.size + 1, 0, none⟩ (.int .i64 (n : Nat))) := b_set1 hB 0 _
        clear hres hta ha hlt hq hF2
        go_wp2_with fail
        refine bodyPost_ret (v := .tuple #[.agg #[.int .i64 (n : Nat), .int .i64 o2], .int .i64 0]) (results_c1 Try.results28 _ _ w.heap.size #[.int .i64 (n : Nat), .int .i64 o2] _ rfl (by repeat first | (with_reducible exact hR2.set2 _ _) | (with_reducible apply Blk.alloc) | (with_reducible apply Blk.drew)) Try.underlying29 rfl (by kernel_rfl)) rfl ⟨rfl, ?_⟩
        repeat first | (with_reducible exact hB2) | (with_reducible apply Below.drew) | (with_reducible apply b_set0) | (with_reducible apply b_set1) | (with_reducible apply b_alloc)
end Go.Proofs.Ytiobnhdcapfhgaa
