/-
  Encoding of records: the program.
-/
import Derived.Test.YtjcdflohkajbcaaEnc
import Derived.Test.YtjcdflohkajbcaaCrc
import Derived.Test.YtjcdflohkajbcaaRck
import Derived.Test.YtjcdflohkajbcaaStr
import Derived.Test.YtjcdflohkajbcaaRes
namespace Go.Proofs.Ytjcdflohkajbcaa
open Go.RowKit
set_option linter.unusedVariables false
set_option linter.unusedSimpArgs false

theorem ren_no (r : Rc) (h : ¬ r.Ok) (hk : r.key.size ≤ maxLen) (hv : r.val.size ≤ maxLen) (w : World) :
    Calls Try.prog 45 #[r.v] w fun e w' => e = .returned (.tuple #[.slice none 0 0, .int .i64 2]) ∧ Below w.heap.size w w' := by
  have hc := rchk_no r h hk hv
  clear h
  obtain ⟨kind, seq, key, val⟩ := r
  show Calls Try.prog 45 #[.agg #[.int .i64 kind, .int .i64 seq, .string key, .string val]] w _
  go_enter Try.func45, Try.ntmps45
  go_wp2_with fail
  refine (hc _).mono ?_
  rintro e w1 ⟨rfl, hb1⟩
  go_wp2_with fail
  go_ret2
  exact ⟨rfl, b_then (b_alloc (Below.refl _ _) _) hb1⟩
theorem clip_any (g n cap : Nat) (w : World) (hn : n ≤ cap) (hc : cap ≤ maxLen) :
    Calls Try.prog 63 #[.slice (some ⟨g, 0, none⟩) n cap] w fun e w' => e = .returned (.slice (some ⟨g, 0, none⟩) n n) ∧ w = w' := by
  unfold maxLen at hc
  have z1 : (n : Int) ≤ (cap : Int) := by omega
  go_enter Try.func63, Try.ntmps63
  go_wp2
  go_ret
  exact ⟨rfl, rfl⟩

def KE (W : World) (hb : Nat) (rv hv : Array Value) (w' : World) : Prop := Below W.heap.size W w' ∧ Blk w' W.heap.size 34 rv ∧ Blk w' hb 89 hv
theorem KE.after {W : World} {hb : Nat} {rv hv : Array Value} {w w' : World} (h : KE W hb rv hv w) (b : Below w.heap.size w w') : KE W hb rv hv w' := by
  obtain ⟨h1, h2, h3⟩ := h
  exact ⟨b_then h1 b, h2.below b h2.lt, h3.below b h3.lt⟩
theorem KE.grown {W : World} {hb g : Nat} {rv hv : Array Value} {w w' : World} (h : KE W hb rv hv w) (b : w.grownBy w' (some g)) (h1 : W.heap.size < g) (h2 : hb < g) : KE W hb rv hv w' := by
  obtain ⟨b1, b2, b3⟩ := h
  exact ⟨b_g b1 b (by omega), b2.grown b (by intro h; injection h; omega), b3.grown b (by intro h; injection h; omega)⟩
theorem KE.cells {W : World} {hb : Nat} {a b c d : Value} {hv : Array Value} {w : World} (h : KE W hb #[a, b, c, d] hv w) : w.cell? ⟨W.heap.size, 2, none⟩ = some c ∧ w.cell? ⟨W.heap.size, 3, none⟩ = some d := ⟨h.2.1.cell 2, h.2.1.cell 3⟩
abbrev SE (W : World) (hb : Nat) (kind seq : Int) (key val : ByteArray) (hv : Array Value) (w' : World) : Prop := w'.cell? ⟨W.heap.size, 2, none⟩ = some (.string key) ∧ w'.cell? ⟨W.heap.size, 3, none⟩ = some (.string val) ∧ KE W hb #[.int .i64 kind, .int .i64 seq, .string key, .string val] hv w'
theorem SE.mk {W : World} {hb : Nat} {kind seq : Int} {key val : ByteArray} {hv : Array Value} {w : World} (h : KE W hb #[.int .i64 kind, .int .i64 seq, .string key, .string val] hv w) : SE W hb kind seq key val hv w := ⟨h.cells.1, h.cells.2, h⟩

set_option maxHeartbeats 2000000 in
theorem ren_yes (r : Rc) (h : r.Ok) (w : World) :
    Calls Try.prog 45 #[r.v] w fun e w' => (∃ g, e = .returned (.tuple #[.slice (some ⟨g, 0, none⟩) r.size r.size, .int .i64 0]) ∧ Clip w' w.heap.size g (encF r)) ∧ Below w.heap.size w w' := by
  have hc := rchk_yes r h
  have hok := h.hok
  have hsb := csI_bd (rrest_bb r)
  obtain ⟨S, hS⟩ : ∃ S, S = csI (rrest r) := ⟨_, rfl⟩
  have hF : encF r = hbytes S r.kind r.key.size r.val.size r.seq ++ (sb r.key ++ sb r.val) := by rw [hS]; exact encF_hb r
  have hrr : rrest r = hrest r.kind r.key.size r.val.size r.seq ++ (sb r.key ++ sb r.val) := rfl
  have hrB := rrest_bb r
  have hsz : r.size = 16 + r.key.size + r.val.size := rfl
  rw [← hS] at hsb
  rw [hF, hsz]
  rw [hrr] at hS hrB
  have hkl := h.2.2.2.2.1
  have hkh := h.2.2.2.2.2.1
  have hvh := h.2.2.2.2.2.2
  clear hF hrr hsz h
  obtain ⟨kind, seq, key, val⟩ := r
  simp only [] at hS hrB hkl hkh hvh hok ⊢
  show Calls Try.prog 45 #[.agg #[.int .i64 kind, .int .i64 seq, .string key, .string val]] w _
  obtain ⟨N, hN⟩ : ∃ N, N = 16 + key.size + val.size := ⟨_, rfl⟩
  obtain ⟨R, hR⟩ : ∃ R, R = hrest kind key.size val.size seq ++ (sb key ++ sb val) := ⟨_, rfl⟩
  obtain ⟨KV, hKV⟩ : ∃ KV, KV = sb key ++ sb val := ⟨_, rfl⟩
  rw [← hN, ← hKV]
  rw [← hR] at hS hrB
  have hRd : (le4 0 ++ R).drop 16 = KV := by rw [hR, hKV, ← List.append_assoc]; exact List.drop_left' rfl
  have hR4 : (le4 0 ++ R).drop 4 = R := List.drop_left' rfl
  have hKVl : KV.length = N - 16 := by rw [hKV, List.length_append, sb_length, sb_length]; omega
  have hRl : R.length = N - 4 := by rw [hR, List.length_append, ← hKV, hKVl]; show 12 + _ = _; omega
  have hN1 : 17 ≤ N := by omega
  have hN2 : N ≤ 560 := by omega
  have HR := Lib.hid hR
  have HKV := Lib.hid hKV
  have HS := Lib.hid hS
  clear hR hKV hN hS
  obtain ⟨i0, hi0, hz0, hz1, hz2⟩ := info_parts byte_info
  go_enter Try.func45, Try.ntmps45
  go_wp2_with fail
  refine (hc _).mono ?_
  rintro e w1 ⟨rfl, hb1⟩
  have hR1 := (Blk.new w 34 #[.int .i64 kind, .int .i64 seq, .string key, .string val]).below hb1 (by simp)
  have hB1 := b_then (b_alloc (Below.refl _ w) _) hb1
  have cR := hR1.cell
  have lR := hR1.lt
  clear hb1 hc
  go_wp2_with fail
  refine (enc_yes 0 kind key.size val.size seq _ (by omega) (by omega) hok).mono ?_
  rintro e w2 ⟨⟨v2, rfl, o2⟩, hb2⟩
  have hK : KE w w1.heap.size #[.int .i64 kind, .int .i64 seq, .string key, .string val] #[.int .u32 0, .int .i64 kind, .int .i64 (key.size : Nat), .int .i64 (val.size : Nat), .int .i64 seq] w2 := KE.after ⟨b_alloc hB1 _, hR1.alloc _, Blk.new w1 89 #[.int .u32 0, .int .i64 kind, .int .i64 (key.size : Nat), .int .i64 (val.size : Nat), .int .i64 seq]⟩ hb2
  obtain ⟨g2, c2, rfl, hg2, _, h16, hm2⟩ := o2.head (show 0 < 16 by decide)
  have hs1 : (w1.alloc (.cells #[.int .u32 0, .int .i64 kind, .int .i64 (key.size : Nat), .int .i64 (val.size : Nat), .int .i64 seq] 89)).heap.size = w1.heap.size + 1 := by simp
  have hl16 : (hbytes 0 kind key.size val.size seq).length = 16 := rfl
  rw [hs1] at o2 hg2
  rw [hl16] at o2 h16
  have hlR := hR1.lt
  clear hb2 hB1 hR1 cR lR
  rw [hl16]
  clear hl16
  go_wp2_with fail
  have hK := hK.after (Below.drew (Below.refl _ _))
  have o2 := o2.drew
  have hS0 := SE.mk hK
  clear hK
  have a1 : 16 + key.size ≤ maxLen := by unfold maxLen; omega
  have a2 : 16 + key.size ≤ 140737488355328 := by omega
  have a3 : w1.heap.size + 1 ≤ w2.drew.heap.size := hS0.2.2.2.2.lt
  have hl2 : ((hbytes 0 kind key.size val.size seq) ++ sb key).length = 16 + key.size := by rw [List.length_append, sb_length]; rfl
  have a4 : ((hbytes 0 kind key.size val.size seq) ++ sb key).length + val.size ≤ maxLen := by rw [hl2]; unfold maxLen; omega
  have a5 : ((hbytes 0 kind key.size val.size seq) ++ sb key).length + val.size ≤ 140737488355328 := by rw [hl2]; omega
  have a6 : 0 < ((hbytes 0 kind key.size val.size seq) ++ sb key).length := by rw [hl2]; omega
  have hB0 : w.heap.size < g2 := by omega
  have hB1 : w1.heap.size < g2 := by omega
  go_region_held3 (fun w' => w'.cell? ⟨w.heap.size, 2, none⟩ = some (.string key) ∧ w'.cell? ⟨w.heap.size, 3, none⟩ = some (.string val) ∧ KE w w1.heap.size #[.int .i64 kind, .int .i64 seq, .string key, .string val] #[.int .u32 0, .int .i64 kind, .int .i64 (key.size : Nat), .int .i64 (val.size : Nat), .int .i64 seq] w') (first | assumption | exact hS0) (first
    | (refine step_append_str (by rfl) _ _ _ _ (by rfl) (w1.heap.size + 1) 5 i0 Try.underlying25 Try.underlying9 hi0 hz0 hz1 hz2 (.slice (some ⟨g2, 0, none⟩) 16 c2) 16 _ (by rfl) o2 key (by rfl) a1 a2 a3 ?_; intro v3 w3 o3 hg3; have hSk := SE.mk (KE.grown hS0.2.2 hg3 hB0 hB1); have hz3 := Nat.le_trans a3 hg3.size; have o3 := own_str (L := (hbytes 0 kind key.size val.size seq)) o3; obtain ⟨g3, c3, rfl, hgl3, _⟩ := o3.head a6; clear hg3)
    | (refine step_append_str (by rfl) _ _ _ _ (by rfl) (w1.heap.size + 1) 5 i0 Try.underlying25 Try.underlying9 hi0 hz0 hz1 hz2 (.slice (some ⟨g3, 0, none⟩) ((hbytes 0 kind key.size val.size seq) ++ sb key).length c3) ((hbytes 0 kind key.size val.size seq) ++ sb key).length _ (by rfl) o3 val (by rfl) a4 a5 hz3 ?_; intro v4 w4 o4 hg4; have hSk4 := SE.mk (KE.grown hSk.2.2 hg4 (Nat.lt_of_lt_of_le (Nat.lt_succ_of_lt hlR) hgl3) hgl3); have hz4 := Nat.le_trans hz3 hg4.size; have o4 := own_str (L := (hbytes 0 kind key.size val.size seq) ++ sb key) o4; clear hg4 hSk o3))
  have hM : ((hbytes 0 kind key.size val.size seq) ++ sb key) ++ sb val = le4 0 ++ R := by rw [hbytes_split, HR.out]; simp only [List.append_assoc]
  rw [hM] at o4
  have hMl : (le4 0 ++ R).length = N := by rw [List.length_append, hRl]; show 4 + _ = _; omega
  obtain ⟨g4, c4, rfl, hg4, hlt4, hle4, hm4⟩ := o4.head (by rw [hMl]; omega)
  rw [hMl] at o4 hle4 ⊢
  obtain ⟨_, _, hK4⟩ := hSk4
  have hm4' : c4 ≤ 9223372036854775807 := by unfold maxLen at hm4; omega
  have z1 : (N : Int) ≤ (c4 : Int) := by omega
  have z2 : (16 : Int) ≤ (N : Int) := by omega
  have z3 : ¬ c4 = 4 := by omega
  have z4 : ¬ c4 = 16 := by omega
  clear a1 a2 a3 a4 a5 a6 hl2 hM hz3 hz4 hB0 hB1 o2 hS0 hgl3
  have hRB4 := o4.rb.zero4 4 (by rw [hMl]; omega)
  rw [hR4] at hRB4
  have hc44 : c4 - 4 ≤ maxLen := by unfold maxLen; omega
  have cs := sum_any (some ⟨g4, 4, none⟩) (c4 - 4) R w4 hRB4 hrB (by omega) hc44
  rw [hRl, ← HS.out] at cs
  go_wp2_with fail
  refine cs.mono ?_
  rintro e w5 ⟨rfl, hb5⟩
  have o5 := o4.later hb5
  have hK5 := hK4.after hb5
  have hl5 : g4 < w5.heap.size := Nat.lt_of_lt_of_le hlt4 hb5.size
  clear hb5 cs hRB4 o4 hK4
  obtain ⟨hB5, hT5, hH5⟩ := hK5
  have cH := hH5.cell
  have fH := hH5.frozen
  have hBs : Below w.heap.size w (w5.setCell ⟨w1.heap.size, 0, none⟩ (.int .u32 S)) := hB5.setCell (Nat.le_of_lt hlR) _
  have hHs := hH5.set_ 0 (.int .u32 S)
  have o6 : IsB (w5.setCell ⟨w1.heap.size, 0, none⟩ (.int .u32 S)) (w1.heap.size + 1) (.slice (some ⟨g4, 0, none⟩) N c4) (le4 0 ++ R) := ownsRow_setCell_below o5 (by simp) _
  have hl6 : g4 < (w5.setCell ⟨w1.heap.size, 0, none⟩ (.int .u32 S)).heap.size := by simpa [World.setCell] using hl5
  clear o5 hl5 hB5 hT5
  have cHs := hHs.cell
  go_wp2_with fail
  refine (enc_yes S kind key.size val.size seq _ (by omega) (by omega) hok).mono ?_
  rintro e w7 ⟨⟨v7, rfl, o7⟩, hb7⟩
  have hB7 := b_then hBs hb7
  have oo7 := o6.later hb7
  have hl7 : g4 < w7.heap.size := Nat.lt_of_lt_of_le hl6 hb7.size
  have hbs7 := hBs.size
  have o7 := o7.base hbs7
  obtain ⟨g7, c7, rfl, hg7, hlt7, hle7, hm7⟩ := o7.head (show 0 < 16 by decide)
  have hl16 : (hbytes S kind key.size val.size seq).length = 16 := rfl
  rw [hl16] at o7 hle7 ⊢
  have hrd : Reads w7 w7.heap.size 1 (some ⟨g4, 16, none⟩) (N - 16) (KV.map (Value.int .u8)) := by
    have h1 := oo7.rb.zero4 16 (by rw [hMl]; omega)
    rw [hRd] at h1
    have h2 := Reads.of_rb h1 hl7
    rwa [hKVl] at h2
  have b1 : 16 + (N - 16) ≤ maxLen := by unfold maxLen; omega
  have b2 : (16 + (N - 16)) * 1 ≤ 140737488355328 := by omega
  have b3 : w.heap.size ≤ w7.heap.size := hB7.size
  have b4 : ∀ u ∈ KV.map (Value.int .u8), u.oneCell' = true := bytes_one
  clear cHs cH fH hHs hBs hb7 o6 hl6 oo7 hl16 hH5
  go_wp2_with (at_builtin; refine wpList_append_any _ rfl (.tmp 52) (.tmp 54) _ rfl w.heap.size 5 i0 _ 1 1 Try.underlying25 hi0 hz0 hz1 hz2 rfl (by omega) _ 16 _ rfl o7 w7.heap.size _ (N - 16) (c4 - 16) (KV.map (Value.int .u8)) rfl hrd b4 b1 b2 b3 ?_; intro v8 w8 o8 hg8 hat8)
  have hB8 := b_g hB7 hg8 hg7
  have o8 : IsB w8 w.heap.size v8 (hbytes S kind key.size val.size seq ++ KV) := by
    unfold IsB
    rw [List.length_append, List.map_append, hKVl]
    exact o8
  have hl8 : (hbytes S kind key.size val.size seq ++ KV).length = N := by rw [List.length_append, hKVl]; show 16 + _ = _; omega
  obtain ⟨g8, c8, rfl, hg8', hlt8, hle8, hm8⟩ := o8.head (by rw [hl8]; omega)
  rw [hl8] at hle8 o8 ⊢
  clear hg8 hat8 o7
  go_wp2_with fail
  refine (clip_any g8 N c8 _ hle8 hm8).mono ?_
  rintro e w9 ⟨rfl, rfl⟩
  go_wp2_with fail
  go_ret2
  exact ⟨⟨g8, rfl, c8, by rw [hl8]; exact o8⟩, hB8⟩
end Go.Proofs.Ytjcdflohkajbcaa
