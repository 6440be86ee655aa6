/-
  Encoding of records: the document.
-/
import Derived.Test.YtjcdflohkajbcaaRc4
import Derived.Test.YtjcdflohkajbcaaRn4
import Derived.Test.YtjcdflohkajbcaaStr
namespace Go.Proofs.Ytjcdflohkajbcaa
open Go.RowKit
set_option linter.unusedVariables false
set_option linter.unusedSimpArgs false
theorem ren4_no (r : Rc) (h : ¬ r.Ok) (hk : r.key.size ≤ maxLen) (hv : r.val.size ≤ maxLen) (w : World) :
    Calls Try.prog 31 #[r.v] w fun e w' => e = .returned (.tuple #[.slice none 0 0, .int .i64 2]) ∧ Below w.heap.size w w' := by
  have hc := rchk4_no r h hk hv
  clear h
  obtain ⟨kind, seq, key, val⟩ := r
  show Calls Try.prog 31 #[.agg #[.int .i64 kind, .int .i64 seq, .string key, .string val]] w _
  go_enter Try.func31, Try.ntmps31
  go_wp2_with fail
  refine (hc _).mono ?_
  rintro e w1 ⟨rfl, hb1⟩
  go_wp2_with fail
  go_ret2
  exact ⟨rfl, b_then (b_alloc (Below.refl _ _) _) hb1⟩
theorem IsB.reads {w : World} {B g n cap : Nat} {L : List Int} (h : IsB w B (.slice (some ⟨g, 0, none⟩) n cap) L) : Reads w w.heap.size 1 (some ⟨g, 0, none⟩) L.length (L.map (Value.int .u8)) := Reads.of_rb h.rb (World.ownsRow.lt h g rfl).2
set_option maxHeartbeats 2000000 in
theorem ren4_yes (r : Rc) (h : r.Ok) (w : World) :
    Calls Try.prog 31 #[r.v] w fun e w' => (∃ v', e = .returned (.tuple #[v', .int .i64 0]) ∧ IsB w' w.heap.size v' (encF r)) ∧ Below w.heap.size w w' := by
  have hc := rchk4_yes r h
  have hok := hok_bounds h.hok
  have hrB := rrest_bb r
  have hsb := csI_bd hrB
  have hrl := rrest_length r
  have hk32 := h.2.2.2.2.2.1
  have hv512 := h.2.2.2.2.2.2
  obtain ⟨R, hR0⟩ : ∃ R, R = rrest r := ⟨_, rfl⟩
  have hE : encF r = le4 (csI R) ++ R := by rw [hR0]; rfl
  have hRR : R = ([r.kind % 256, (r.key.size : Int) % 256] ++ [(r.val.size : Int) % 256, (r.val.size : Int) / 256 % 256] ++ [r.seq % 256, r.seq / 256 % 256, r.seq / 65536 % 256, r.seq / 16777216 % 256, r.seq / 4294967296 % 256, r.seq / 1099511627776 % 256, r.seq / 281474976710656 % 256, r.seq / 72057594037927936 % 256]) ++ sb r.key ++ sb r.val := by
    rw [hR0, rrest, List.append_assoc]
    rfl
  rw [← hR0] at hrB hsb hrl
  rw [hE]
  clear hE hR0 h
  obtain ⟨kind, seq, key, val⟩ := r
  simp only [] at hRR hrl hk32 hv512 hok
  show Calls Try.prog 31 #[.agg #[.int .i64 kind, .int .i64 seq, .string key, .string val]] w _
  obtain ⟨S, hS⟩ : ∃ S, S = csI R := ⟨_, rfl⟩
  rw [← hS] at hsb ⊢
  have HS := Lib.hid hS
  have HR := Lib.hid hRR
  clear hS hRR
  obtain ⟨s1, s2⟩ := hsb
  obtain ⟨b1, b2, b3, b4, b5, b6, b7, b8⟩ := hok
  have uk : IntKind.u8.wrap kind = kind % 256 := IntKind.wrap_u8' _
  have uy : IntKind.u8.wrap (key.size : Int) = (key.size : Int) % 256 := IntKind.wrap_u8' _
  have uv : IntKind.u64.wrap (val.size : Int) = (val.size : Int) := by rw [IntKind.wrap_u64]; omega
  have uq : IntKind.u64.wrap seq = seq := by rw [IntKind.wrap_u64]; omega
  have us : IntKind.u64.wrap S = S := by rw [IntKind.wrap_u64]; omega
  obtain ⟨i0, hi0, hz0, hz1, hz2⟩ := info_parts byte_info
  go_enter Try.func31, Try.ntmps31
  go_wp2_with fail
  refine (hc _).mono ?_
  rintro e w1 ⟨rfl, hb1⟩
  have hR1 := (Blk.new w 34 #[.int .i64 kind, .int .i64 seq, .string key, .string val]).below hb1 (by simp)
  have hB1 := b_then (b_alloc (Below.refl _ w) _) hb1
  have cR := hR1.cell
  have lR := hR1.lt
  clear hb1 hc
  go_wp2_with fail
  have o1 : IsB (w1.alloc (.cells #[.int .u8 (kind % 256), .int .u8 ((key.size : Int) % 256)] 5)) (w.heap.size + 1) (.slice (some ⟨w1.heap.size, 0, none⟩) 2 2) [kind % 256, (key.size : Int) % 256] := by
    have h := World.ownsRow_lit (base := (w.heap.size + 1)) (e := 5) (size := 1) w1 #[.int .u8 (kind % 256), .int .u8 ((key.size : Int) % 256)] 2 lR (by unfold maxLen; omega) rfl
    simpa [IsB] using h
  refine (little_2 val.size _ (by omega)).mono ?_
  rintro e w2 ⟨⟨v2, rfl, q2⟩, hb2⟩
  have o2 := o1.later hb2
  have hR2 := (hR1.alloc (.cells #[.int .u8 (kind % 256), .int .u8 ((key.size : Int) % 256)] 5)).below hb2 (by simp; omega)
  have hB2 := b_then (b_alloc hB1 (.cells #[.int .u8 (kind % 256), .int .u8 ((key.size : Int) % 256)] 5)) hb2
  obtain ⟨gq, cq, rfl, _, _⟩ := q2.head (show 0 < 2 by decide)
  have q2 := q2.reads
  have z2 : w.heap.size + 1 ≤ w2.heap.size := hR2.lt
  clear hb2 o1 hR1 hB1 cR lR
  go_wp2_with (at_builtin; refine wpList_append_any _ rfl (.tmp 16) (.tmp 21) _ rfl (w.heap.size + 1) 5 i0 _ 1 1 Try.underlying25 hi0 hz0 hz1 hz2 rfl (by omega) _ 2 _ rfl o2 w2.heap.size _ 2 cq ([(val.size : Int) % 256, (val.size : Int) / 256 % 256].map (Value.int .u8)) rfl q2 bytes_one (by unfold maxLen; omega) (by omega) z2 ?_; intro v3 w3 o3 hg3 hat3; have hne3 := fun k hk => (World.ownsRow.lt o2 k hk).1; have hR3 := hR2.grown hg3 (fun h => Nat.lt_irrefl _ (hne3 _ h.symm)); have hB3 := hB2.grown hg3 hB2.size (fun k hk => Nat.le_of_lt (hne3 k hk)); have cR := hR3.cell; have lR := hR3.lt; clear hne3 hg3 hat3 o2 hR2 hB2)
  clear q2 z2
  have o3 : IsB w3 (w.heap.size + 1) v3 ([kind % 256, (key.size : Int) % 256] ++ [(val.size : Int) % 256, (val.size : Int) / 256 % 256]) := o3
  refine (little_8 seq _ (by omega)).mono ?_
  rintro e w4 ⟨⟨v4, rfl, q4⟩, hb4⟩
  have o4 := o3.later hb4
  have hR4 := hR3.below hb4 lR
  have hB4 := b_then hB3 hb4
  obtain ⟨gp, cp, rfl, _, _⟩ := q4.head (show 0 < 8 by decide)
  have q4 := q4.reads
  have z4 : w.heap.size + 1 ≤ w4.heap.size := hR4.lt
  clear hb4 o3 hR3 hB3 cR lR
  have hl12 : ([kind % 256, (key.size : Int) % 256] ++ [(val.size : Int) % 256, (val.size : Int) / 256 % 256] ++ [seq % 256, seq / 256 % 256, seq / 65536 % 256, seq / 16777216 % 256, seq / 4294967296 % 256, seq / 1099511627776 % 256, seq / 281474976710656 % 256, seq / 72057594037927936 % 256]).length = 12 := rfl
  have k6 : 12 + key.size ≤ maxLen := by unfold maxLen; omega
  have k7 : 12 + key.size ≤ 140737488355328 := by omega
  have hl6 : ([kind % 256, (key.size : Int) % 256] ++ [(val.size : Int) % 256, (val.size : Int) / 256 % 256] ++ [seq % 256, seq / 256 % 256, seq / 65536 % 256, seq / 16777216 % 256, seq / 4294967296 % 256, seq / 1099511627776 % 256, seq / 281474976710656 % 256, seq / 72057594037927936 % 256] ++ sb key).length = 12 + key.size := by rw [List.length_append, hl12, sb_length]
  have k8 : ([kind % 256, (key.size : Int) % 256] ++ [(val.size : Int) % 256, (val.size : Int) / 256 % 256] ++ [seq % 256, seq / 256 % 256, seq / 65536 % 256, seq / 16777216 % 256, seq / 4294967296 % 256, seq / 1099511627776 % 256, seq / 281474976710656 % 256, seq / 72057594037927936 % 256] ++ sb key).length + val.size ≤ maxLen := by rw [hl6]; unfold maxLen; omega
  have k9 : ([kind % 256, (key.size : Int) % 256] ++ [(val.size : Int) % 256, (val.size : Int) / 256 % 256] ++ [seq % 256, seq / 256 % 256, seq / 65536 % 256, seq / 16777216 % 256, seq / 4294967296 % 256, seq / 1099511627776 % 256, seq / 281474976710656 % 256, seq / 72057594037927936 % 256] ++ sb key).length + val.size ≤ 140737488355328 := by rw [hl6]; omega
  clear hl6 hl12
  go_wp2_with (first
    | (at_builtin; refine wpList_append_any _ rfl (.tmp 23) (.tmp 27) _ rfl (w.heap.size + 1) 5 i0 _ 1 1 Try.underlying25 hi0 hz0 hz1 hz2 rfl (by omega) _ 4 _ rfl o4 w4.heap.size _ 8 cp ([seq % 256, seq / 256 % 256, seq / 65536 % 256, seq / 16777216 % 256, seq / 4294967296 % 256, seq / 1099511627776 % 256, seq / 281474976710656 % 256, seq / 72057594037927936 % 256].map (Value.int .u8)) rfl q4 bytes_one (by unfold maxLen; omega) (by omega) z4 ?_; intro v5 w5 o5 hg5 hat5; have hne5 := fun k hk => (World.ownsRow.lt o4 k hk).1; have hR5 := hR4.grown hg5 (fun h => Nat.lt_irrefl _ (hne5 _ h.symm)); have hB5 := hB4.grown hg5 hB4.size (fun k hk => Nat.le_of_lt (hne5 k hk)); have cR := hR5.cell; have lR := hR5.lt; clear hne5 hg5 hat5 o4 hR4 hB4; clear q4 z4; have o5 : IsB w5 (w.heap.size + 1) v5 ([kind % 256, (key.size : Int) % 256] ++ [(val.size : Int) % 256, (val.size : Int) / 256 % 256] ++ [seq % 256, seq / 256 % 256, seq / 65536 % 256, seq / 16777216 % 256, seq / 4294967296 % 256, seq / 1099511627776 % 256, seq / 281474976710656 % 256, seq / 72057594037927936 % 256]) := o5)
    | (at_builtin; refine Lib.wpList_append_own_string _ rfl (.tmp 29) (.tmp 31) _ _ rfl (w.heap.size + 1) 5 i0 Try.underlying25 Try.underlying9 hi0 hz0 hz1 hz2 _ 12 _ rfl o5 key rfl k6 k7 lR ?_; clear cR lR; intro v6 w6 o6 hg6 hat6; have hne6 := fun k hk => (World.ownsRow.lt o5 k hk).1; have hR6 := hR5.grown hg6 (fun h => Nat.lt_irrefl _ (hne6 _ h.symm)); have hB6 := hB5.grown hg6 hB5.size (fun k hk => Nat.le_of_lt (hne6 k hk)); have cR := hR6.cell; have lR := hR6.lt; clear hne6 hg6 hat6 o5 hR5 hB5; have o6 : IsB w6 (w.heap.size + 1) v6 ([kind % 256, (key.size : Int) % 256] ++ [(val.size : Int) % 256, (val.size : Int) / 256 % 256] ++ [seq % 256, seq / 256 % 256, seq / 65536 % 256, seq / 16777216 % 256, seq / 4294967296 % 256, seq / 1099511627776 % 256, seq / 281474976710656 % 256, seq / 72057594037927936 % 256] ++ sb key) := own_str (L := [kind % 256, (key.size : Int) % 256] ++ [(val.size : Int) % 256, (val.size : Int) / 256 % 256] ++ [seq % 256, seq / 256 % 256, seq / 65536 % 256, seq / 16777216 % 256, seq / 4294967296 % 256, seq / 1099511627776 % 256, seq / 281474976710656 % 256, seq / 72057594037927936 % 256]) o6)
    | (at_builtin; refine Lib.wpList_append_own_string _ rfl (.tmp 33) (.tmp 35) _ _ rfl (w.heap.size + 1) 5 i0 Try.underlying25 Try.underlying9 hi0 hz0 hz1 hz2 _ ([kind % 256, (key.size : Int) % 256] ++ [(val.size : Int) % 256, (val.size : Int) / 256 % 256] ++ [seq % 256, seq / 256 % 256, seq / 65536 % 256, seq / 16777216 % 256, seq / 4294967296 % 256, seq / 1099511627776 % 256, seq / 281474976710656 % 256, seq / 72057594037927936 % 256] ++ sb key).length _ rfl o6 val rfl k8 k9 lR ?_; clear cR lR; intro v7 w7 o7 hg7 hat7; have hne7 := fun k hk => (World.ownsRow.lt o6 k hk).1; have hR7 := hR6.grown hg7 (fun h => Nat.lt_irrefl _ (hne7 _ h.symm)); have hB7 := hB6.grown hg7 hB6.size (fun k hk => Nat.le_of_lt (hne7 k hk)); have cR := hR7.cell; have lR := hR7.lt; clear hne7 hg7 hat7 o6 hR6 hB6; have o7 : IsB w7 (w.heap.size + 1) v7 ([kind % 256, (key.size : Int) % 256] ++ [(val.size : Int) % 256, (val.size : Int) / 256 % 256] ++ [seq % 256, seq / 256 % 256, seq / 65536 % 256, seq / 16777216 % 256, seq / 4294967296 % 256, seq / 1099511627776 % 256, seq / 281474976710656 % 256, seq / 72057594037927936 % 256] ++ sb key ++ sb val) := own_str (L := [kind % 256, (key.size : Int) % 256] ++ [(val.size : Int) % 256, (val.size : Int) / 256 % 256] ++ [seq % 256, seq / 256 % 256, seq / 65536 % 256, seq / 16777216 % 256, seq / 4294967296 % 256, seq / 1099511627776 % 256, seq / 281474976710656 % 256, seq / 72057594037927936 % 256] ++ sb key) o7))
  clear cR lR k6 k7 k8 k9
  rw [← HR.out] at o7
  have hRl : R.length = 12 + key.size + val.size := hrl
  obtain ⟨N, hN⟩ : ∃ N, N = R.length := ⟨_, rfl⟩
  have hN1 : 12 ≤ N := by omega
  have hN2 : N ≤ 556 := by omega
  rw [← hN] at hrl hRl
  obtain ⟨g7, c7, rfl, _, hlt7, hle7, hm7⟩ := o7.head (by rw [← hN]; omega)
  rw [← hN] at o7 hle7 ⊢
  have hNs := hN.symm
  have cs := rsum_any (some ⟨g7, 0, none⟩) N c7 R w7 o7.rb hrB hNs hle7 hm7
  rw [← HS.out] at cs
  clear hN hRl hrl
  go_wp2_with fail
  refine cs.mono ?_
  rintro e w8 ⟨rfl, rfl⟩
  clear cs
  go_wp2_with fail
  refine (little_4 S _ s1).mono ?_
  rintro e w9 ⟨⟨v9, rfl, q9⟩, hb9⟩
  have o9 := (o7.later hb9).reads
  rw [hNs] at o9
  have hB9 := b_then hB7 hb9
  have q9 := q9.base hB7.size
  have k6 : 4 + N ≤ maxLen := by unfold maxLen; omega
  have k7 : (4 + N) * 1 ≤ 140737488355328 := by omega
  have z9 := hB9.size
  clear hb9 o7 hR7 hB7
  go_wp2_with (at_builtin; refine wpList_append_any _ rfl (.tmp 40) (.tmp 41) _ rfl w.heap.size 5 i0 _ 1 1 Try.underlying25 hi0 hz0 hz1 hz2 rfl (by omega) _ 4 _ rfl q9 w9.heap.size _ N c7 (R.map (Value.int .u8)) rfl o9 bytes_one k6 k7 z9 ?_; intro v10 w10 o10 hg10 hat10)
  have hB10 := hB9.grown hg10 z9 (fun k hk => (World.ownsRow.lt q9 k hk).1)
  have o10 : IsB w10 w.heap.size v10 (le4 S ++ R) := by
    unfold IsB
    rw [List.length_append, List.map_append, hNs]
    exact o10
  clear hg10 hat10 q9 o9
  go_wp2_with fail
  go_ret2
  exact ⟨⟨_, rfl, o10⟩, hB10⟩
end Go.Proofs.Ytjcdflohkajbcaa
