/-
  The reference's bytes of a header.
-/
import Derived.Test.YtiobnhdcapfhgaaEnc
import Derived.Test.YtiobnhdcapfhgaaRch
import Derived.Test.YtiobnhdcapfhgaaRap
namespace Go.Proofs.Ytiobnhdcapfhgaa
open Go.RowKit
set_option linter.unusedVariables false
theorem renc_no (sum kind key val seq : Int) (w : World) (h : ¬HOk kind key val seq) :
    Calls Try.prog 36 #[.agg #[.int .u32 sum, .int .i64 kind, .int .i64 key, .int .i64 val, .int .i64 seq]] w fun e w' => e = .returned (.tuple #[.slice none 0 0, .int .i64 2]) ∧ Below w.heap.size w w' := by
  go_enter Try.func36, Try.ntmps36
  go_wp2_with fail
  refine (rcheck_no sum kind key val seq _ h).mono ?_
  rintro e w1 ⟨rfl, hb1⟩
  go_wp2_with fail
  go_ret2
  exact ⟨rfl, b_then (b_alloc (Below.refl _ _) _) hb1⟩

set_option maxHeartbeats 3200000 in
theorem renc_yes (sum kind key val seq : Int) (w : World) (hs0 : 0 ≤ sum) (hs1 : sum ≤ 4294967295) (h : HOk kind key val seq) :
    Calls Try.prog 36 #[.agg #[.int .u32 sum, .int .i64 kind, .int .i64 key, .int .i64 val, .int .i64 seq]] w fun e w' => (∃ v', e = .returned (.tuple #[v', .int .i64 0]) ∧ IsB w' w.heap.size v' (hbytes sum kind key val seq)) ∧ Below w.heap.size w w' := by
  obtain ⟨k1, k2, k3, k4, k5, k6, k7, k8⟩ := hok_bounds h
  go_enter Try.func36, Try.ntmps36
  go_wp2_with fail
  refine (rcheck_yes sum kind key val seq _ h).mono ?_
  rintro e w1 ⟨rfl, hb1⟩
  have hH := (Blk.new w 70 #[.int .u32 sum, .int .i64 kind, .int .i64 key, .int .i64 val, .int .i64 seq]).below hb1 (by simp)
  have hB2 := b_then (b_alloc (Below.refl _ w) _) hb1
  have o1 := IsB.nil w1 w.heap.size
  clear hb1
  have cH := hH.cell
  go_wp2_with fail
  refine (rappend_4 w.heap.size sum _ [] _ (by omega) (by omega) o1 (by simp)).mono ?_
  rintro e w2 ⟨⟨v2, rfl, o2⟩, hb⟩
  have hH := hH.below hb hH.lt
  have s2 := hB2.size
  have o1 : IsB w2 w.heap.size v2 [sum % 256, sum / 256 % 256, sum / 65536 % 256, sum / 16777216 % 256] := o2.base s2
  have hB2 := b_then hB2 hb
  clear hb cH o2 s2
  have cH := hH.cell
  go_wp2_with fail
  refine (rappend_1 w.heap.size kind _ [sum % 256, sum / 256 % 256, sum / 65536 % 256, sum / 16777216 % 256] _ (by omega) (by omega) o1 (by simp)).mono ?_
  rintro e w3 ⟨⟨v3, rfl, o2⟩, hb⟩
  have hH := hH.below hb hH.lt
  have s2 := hB2.size
  have o1 : IsB w3 w.heap.size v3 [sum % 256, sum / 256 % 256, sum / 65536 % 256, sum / 16777216 % 256, kind % 256] := o2.base s2
  have hB2 := b_then hB2 hb
  clear hb cH o2 s2
  have cH := hH.cell
  go_wp2_with fail
  refine (rappend_1 w.heap.size key _ [sum % 256, sum / 256 % 256, sum / 65536 % 256, sum / 16777216 % 256, kind % 256] _ (by omega) (by omega) o1 (by simp)).mono ?_
  rintro e w4 ⟨⟨v4, rfl, o2⟩, hb⟩
  have hH := hH.below hb hH.lt
  have s2 := hB2.size
  have o1 : IsB w4 w.heap.size v4 [sum % 256, sum / 256 % 256, sum / 65536 % 256, sum / 16777216 % 256, kind % 256, key % 256] := o2.base s2
  have hB2 := b_then hB2 hb
  clear hb cH o2 s2
  have cH := hH.cell
  go_wp2_with fail
  refine (rappend_2 w.heap.size val _ [sum % 256, sum / 256 % 256, sum / 65536 % 256, sum / 16777216 % 256, kind % 256, key % 256] _ (by omega) (by omega) o1 (by simp)).mono ?_
  rintro e w5 ⟨⟨v5, rfl, o2⟩, hb⟩
  have hH := hH.below hb hH.lt
  have s2 := hB2.size
  have o1 : IsB w5 w.heap.size v5 [sum % 256, sum / 256 % 256, sum / 65536 % 256, sum / 16777216 % 256, kind % 256, key % 256, val % 256, val / 256 % 256] := o2.base s2
  have hB2 := b_then hB2 hb
  clear hb cH o2 s2
  have cH := hH.cell
  go_wp2_with fail
  refine (rappend_8 w.heap.size seq _ [sum % 256, sum / 256 % 256, sum / 65536 % 256, sum / 16777216 % 256, kind % 256, key % 256, val % 256, val / 256 % 256] _ (by omega) (by omega) o1 (by simp)).mono ?_
  rintro e w6 ⟨⟨v6, rfl, o2⟩, hb⟩
  have hH := hH.below hb hH.lt
  have s2 := hB2.size
  have o1 : IsB w6 w.heap.size v6 [sum % 256, sum / 256 % 256, sum / 65536 % 256, sum / 16777216 % 256, kind % 256, key % 256, val % 256, val / 256 % 256, seq % 256, seq / 256 % 256, seq / 65536 % 256, seq / 16777216 % 256, seq / 4294967296 % 256, seq / 1099511627776 % 256, seq / 281474976710656 % 256, seq / 72057594037927936 % 256] := o2.base s2
  have hB2 := b_then hB2 hb
  clear hb cH o2 s2
  go_wp2_with fail
  go_ret2
  exact ⟨⟨_, rfl, o1⟩, hB2⟩
end Go.Proofs.Ytiobnhdcapfhgaa
