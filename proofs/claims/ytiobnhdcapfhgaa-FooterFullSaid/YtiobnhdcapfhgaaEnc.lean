/-
  The bytes of a header, by both texts.
-/
import Derived.Test.YtiobnhdcapfhgaaUin
namespace Go.Proofs.Ytiobnhdcapfhgaa
open Go.RowKit
set_option linter.unusedVariables false

/-- the sixteen bytes of a header -/
def hbytes (sum kind key val seq : Int) : List Int := [sum % 256, sum / 256 % 256, sum / 65536 % 256, sum / 16777216 % 256, kind % 256, key % 256, val % 256, val / 256 % 256, seq % 256, seq / 256 % 256, seq / 65536 % 256, seq / 16777216 % 256, seq / 4294967296 % 256, seq / 1099511627776 % 256, seq / 281474976710656 % 256, seq / 72057594037927936 % 256]
theorem hok_bounds {kind key val seq : Int} (h : HOk kind key val seq) : 1 ≤ kind ∧ kind ≤ 3 ∧ 0 ≤ key ∧ key ≤ 32 ∧ 0 ≤ val ∧ val ≤ 65535 ∧ 0 ≤ seq ∧ seq ≤ 1099511627776 := by
  unfold HOk at h
  omega

theorem enc_no (sum kind key val seq : Int) (w : World) (h : ¬HOk kind key val seq) :
    Calls Try.prog 34 #[.agg #[.int .u32 sum, .int .i64 kind, .int .i64 key, .int .i64 val, .int .i64 seq]] w fun e w' => e = .returned (.tuple #[.slice none 0 0, .int .i64 2]) ∧ Below w.heap.size w w' := by
  go_enter Try.func34, Try.ntmps34
  go_wp2_with fail
  refine (check_no sum kind key val seq _ h).mono ?_
  rintro e w1 ⟨rfl, hb1⟩
  go_wp2_with fail
  go_ret2
  exact ⟨rfl, b_then (b_alloc (Below.refl _ _) _) hb1⟩
set_option maxHeartbeats 3200000 in
theorem enc_yes (sum kind key val seq : Int) (w : World) (hs0 : 0 ≤ sum) (hs1 : sum ≤ 4294967295) (h : HOk kind key val seq) :
    Calls Try.prog 34 #[.agg #[.int .u32 sum, .int .i64 kind, .int .i64 key, .int .i64 val, .int .i64 seq]] w fun e w' => (∃ v', e = .returned (.tuple #[v', .int .i64 0]) ∧ IsB w' w.heap.size v' (hbytes sum kind key val seq)) ∧ Below w.heap.size w w' := by
  obtain ⟨k1, k2, k3, k4, k5, k6, k7, k8⟩ := hok_bounds h
  go_enter Try.func34, Try.ntmps34
  go_wp2_with fail
  refine (check_yes sum kind key val seq _ h).mono ?_
  rintro e w1 ⟨rfl, hb1⟩
  have B1 := ((Blk.new w 67 #[.int .u32 sum, .int .i64 kind, .int .i64 key, .int .i64 val, .int .i64 seq]).below hb1 (by simp)).cell
  have hB1 := b_then (b_alloc (Below.refl _ w) _) hb1
  have s1 := hB1.size
  clear hb1
  go_wp2_with go_in
  clear B1
  have hV := (Blk.new w1 77 #[.int .u64 sum, .int .u64 kind, .int .u64 key, .int .u64 val, .int .u64 seq]).alloc (.cells #[.int .i64 4, .int .i64 1, .int .i64 1, .int .i64 2, .int .i64 8] 3)
  have hW : Blk ((w1.alloc (.cells #[.int .u64 sum, .int .u64 kind, .int .u64 key, .int .u64 val, .int .u64 seq] 77)).alloc (.cells #[.int .i64 4, .int .i64 1, .int .i64 1, .int .i64 2, .int .i64 8] 3)) (w1.heap.size + 1) 3 #[.int .i64 4, .int .i64 1, .int .i64 1, .int .i64 2, .int .i64 8] := by
    have h := Blk.new (w1.alloc (.cells #[.int .u64 sum, .int .u64 kind, .int .u64 key, .int .u64 val, .int .u64 seq] 77)) 3 #[.int .i64 4, .int .i64 1, .int .i64 1, .int .i64 2, .int .i64 8]
    simpa using h
  have o1 := IsB.nil ((w1.alloc (.cells #[.int .u64 sum, .int .u64 kind, .int .u64 key, .int .u64 val, .int .u64 seq] 77)).alloc (.cells #[.int .i64 4, .int .i64 1, .int .i64 1, .int .i64 2, .int .i64 8] 3)) w.heap.size
  have hB2 := b_alloc (b_alloc hB1 (.cells #[.int .u64 sum, .int .u64 kind, .int .u64 key, .int .u64 val, .int .u64 seq] 77)) (.cells #[.int .i64 4, .int .i64 1, .int .i64 1, .int .i64 2, .int .i64 8] 3)
  clear hB1
  refine wp_loop_rounds 6 ?_
  have cV := hV.cell
  have cW := hW.cell
  rw [rounds_succ]
  go_wp2_with fail
  refine (append_4 w.heap.size sum _ [] _ (by omega) (by simp; omega) o1 (by simp)).mono ?_
  rintro e w2 ⟨⟨v2, rfl, o2⟩, hb⟩
  have hV := hV.below hb hV.lt
  have hW := hW.below hb hW.lt
  have s2 := hB2.size
  have o1 : IsB w2 w.heap.size v2 [sum % 256, sum / 256 % 256, sum / 65536 % 256, sum / 16777216 % 256] := o2.base s2
  have hB2 := b_then hB2 hb
  clear hb cV cW o2 s2
  go_wp2_with fail
  have cV := hV.cell
  have cW := hW.cell
  rw [rounds_succ]
  go_wp2_with fail
  refine (append_1 w.heap.size kind _ [sum % 256, sum / 256 % 256, sum / 65536 % 256, sum / 16777216 % 256] _ (by omega) (by simp; omega) o1 (by simp)).mono ?_
  rintro e w3 ⟨⟨v3, rfl, o2⟩, hb⟩
  have hV := hV.below hb hV.lt
  have hW := hW.below hb hW.lt
  have s2 := hB2.size
  have o1 : IsB w3 w.heap.size v3 [sum % 256, sum / 256 % 256, sum / 65536 % 256, sum / 16777216 % 256, kind % 256] := o2.base s2
  have hB2 := b_then hB2 hb
  clear hb cV cW o2 s2
  go_wp2_with fail
  have cV := hV.cell
  have cW := hW.cell
  rw [rounds_succ]
  go_wp2_with fail
  refine (append_1 w.heap.size key _ [sum % 256, sum / 256 % 256, sum / 65536 % 256, sum / 16777216 % 256, kind % 256] _ (by omega) (by simp; omega) o1 (by simp)).mono ?_
  rintro e w4 ⟨⟨v4, rfl, o2⟩, hb⟩
  have hV := hV.below hb hV.lt
  have hW := hW.below hb hW.lt
  have s2 := hB2.size
  have o1 : IsB w4 w.heap.size v4 [sum % 256, sum / 256 % 256, sum / 65536 % 256, sum / 16777216 % 256, kind % 256, key % 256] := o2.base s2
  have hB2 := b_then hB2 hb
  clear hb cV cW o2 s2
  go_wp2_with fail
  have cV := hV.cell
  have cW := hW.cell
  rw [rounds_succ]
  go_wp2_with fail
  refine (append_2 w.heap.size val _ [sum % 256, sum / 256 % 256, sum / 65536 % 256, sum / 16777216 % 256, kind % 256, key % 256] _ (by omega) (by simp; omega) o1 (by simp)).mono ?_
  rintro e w5 ⟨⟨v5, rfl, o2⟩, hb⟩
  have hV := hV.below hb hV.lt
  have hW := hW.below hb hW.lt
  have s2 := hB2.size
  have o1 : IsB w5 w.heap.size v5 [sum % 256, sum / 256 % 256, sum / 65536 % 256, sum / 16777216 % 256, kind % 256, key % 256, val % 256, val / 256 % 256] := o2.base s2
  have hB2 := b_then hB2 hb
  clear hb cV cW o2 s2
  go_wp2_with fail
  have cV := hV.cell
  have cW := hW.cell
  rw [rounds_succ]
  go_wp2_with fail
  refine (append_8 w.heap.size seq _ [sum % 256, sum / 256 % 256, sum / 65536 % 256, sum / 16777216 % 256, kind % 256, key % 256, val % 256, val / 256 % 256] _ (by omega) o1 (by simp)).mono ?_
  rintro e w6 ⟨⟨v6, rfl, o2⟩, hb⟩
  have hV := hV.below hb hV.lt
  have hW := hW.below hb hW.lt
  have s2 := hB2.size
  have o1 : IsB w6 w.heap.size v6 [sum % 256, sum / 256 % 256, sum / 65536 % 256, sum / 16777216 % 256, kind % 256, key % 256, val % 256, val / 256 % 256, seq % 256, seq / 256 % 256, seq / 65536 % 256, seq / 16777216 % 256, seq / 4294967296 % 256, seq / 1099511627776 % 256, seq / 281474976710656 % 256, seq / 72057594037927936 % 256] := o2.base s2
  have hB2 := b_then hB2 hb
  clear hb cV cW o2 s2
  go_wp2_with fail
  rw [rounds_succ]
  go_wp2_with fail
  go_ret2
  exact ⟨⟨_, rfl, o1⟩, hB2⟩

end Go.Proofs.Ytiobnhdcapfhgaa
