/-
  HeaderRoundTrip: for every five numbers and slice of bytes the law returns true and changes nothing. No condition.
-/
import Derived.Test.YtagcaepkbilpbaaOpen
import Derived.Test.YtagcaepkbilpbaaWks
import Derived.Test.YtagcaepkbilpbaaArg
import Derived.Test.YtagcaepkbilpbaaMd
import Derived.Test.YtagcaepkbilpbaaBcl
import Derived.Test.YtagcaepkbilpbaaApp
import Derived.Test.YtagcaepkbilpbaaUp
namespace Go.Proofs.Ytagcaepkbilpbaa.headerRoundTrip
open Go.ChangeShapes Go.WideShapes Go.ChangeAt Go.RowKit
open Go.ChangeMaps (open_string shut_string)
set_option linter.unusedVariables false

def KWd (a w : World) : Prop := Below a.heap.size a w
theorem KWd.bel {a w : World} (h : KWd a w) : Below a.heap.size a w := h
theorem RB.of_slice {w : World} {B g n c : Nat} {M : List Int} (h : IsB w B (.slice (some ⟨g, 0, none⟩) n c) M) : RB w (some ⟨g, 0, none⟩) M := by
  obtain ⟨A, cap', hA, hR⟩ := RB.of_own h
  injection hA with hA1 hA2 hA3
  subst hA1
  exact hR
theorem KWd.set5 {a w : World} {B : Nat} (h : KWd a w) (hB : a.heap.size ≤ B) (u0 u1 u2 u3 u4 : Value) : KWd a (((((w.setCell ⟨B, 0, none⟩ u0).setCell ⟨B, 1, none⟩ u1).setCell ⟨B, 2, none⟩ u2).setCell ⟨B, 3, none⟩ u3).setCell ⟨B, 4, none⟩ u4) :=
  ((((Below.setCell h hB u0).setCell hB u1).setCell hB u2).setCell hB u3).setCell hB u4
theorem blk_set5 {w : World} {b : Nat} {T : TypeId} {z0 z1 z2 z3 z4 : Value} (h : Blk w b T #[z0, z1, z2, z3, z4]) (u0 u1 u2 u3 u4 : Value) : Blk (((((w.setCell ⟨b, 0, none⟩ u0).setCell ⟨b, 1, none⟩ u1).setCell ⟨b, 2, none⟩ u2).setCell ⟨b, 3, none⟩ u3).setCell ⟨b, 4, none⟩ u4) b T #[u0, u1, u2, u3, u4] :=
  ((((h.set_ 0 u0).set_ 1 u1).set_ 2 u2).set_ 3 u3).set_ 4 u4
theorem b_alloc' {a w : World} {o : Obj} (h : Below a.heap.size a w) : Below a.heap.size a (w.alloc o) := b_alloc h o
theorem blk_fresh2 {w w' : World} {t : TypeId} {cs : Array Value} (hb : Below ((w.alloc (.cells cs t)).drew).heap.size ((w.alloc (.cells cs t)).drew) w') : Blk w' w.heap.size t cs := (Blk.new w t cs).drew.below hb (by show w.heap.size < (w.alloc (.cells cs t)).heap.size; simp)
theorem blk_fresh {w w' : World} {t : TypeId} {cs : Array Value} (hb : Below (w.alloc (.cells cs t)).heap.size (w.alloc (.cells cs t)) w') : Blk w' w.heap.size t cs := (Blk.new w t cs).below hb (by simp)
theorem Reads.al {w : World} {size n : Nat} {A : Option Addr} {xs : List Value} (h : Reads w w.heap.size size A n xs) (o : Obj) : Reads (w.alloc o) (w.alloc o).heap.size size A n xs := (h.alloc (Nat.le_refl _) o).more (by simp)
def KR (W : World) (xb g cap g4 cap4 : Nat) (a : Option Addr) (n mcap : Nat) (L : Nat → Int) (sum K Y V Q : Int) (w' : World) : Prop :=
  Below W.heap.size W w' ∧ Blk w' xb 24 #[.int .u32 sum, .int .i64 K, .int .i64 Y, .int .i64 V, .int .i64 Q] ∧ (∃ B, IsB w' B (.slice (some ⟨g, 0, none⟩) 16 cap) (hbytes sum K Y V Q)) ∧ (∃ B, IsB w' B (.slice (some ⟨g4, 0, none⟩) 16 cap4) (hbytes sum K Y V Q)) ∧ Byts w' a n mcap L
section
variable {W : World} {xb g cap g4 cap4 : Nat} {a : Option Addr} {n mcap : Nat} {L : Nat → Int} {sum K Y V Q : Int} {w w' : World}
theorem KR.mk0 {B B' : Nat} (h1 : Below W.heap.size W w) (h2 : Blk w xb 24 #[.int .u32 sum, .int .i64 K, .int .i64 Y, .int .i64 V, .int .i64 Q]) (h3 : IsB w B (.slice (some ⟨g, 0, none⟩) 16 cap) (hbytes sum K Y V Q)) (h4 : IsB w B' (.slice (some ⟨g4, 0, none⟩) 16 cap4) (hbytes sum K Y V Q)) (h5 : Byts w a n mcap L) :
    KR W xb g cap g4 cap4 a n mcap L sum K Y V Q w := ⟨h1, h2, ⟨_, h3⟩, ⟨_, h4⟩, h5⟩
theorem KR.after (h : KR W xb g cap g4 cap4 a n mcap L sum K Y V Q w) (hb : Below w.heap.size w w') : KR W xb g cap g4 cap4 a n mcap L sum K Y V Q w' := by
  obtain ⟨h1, h2, ⟨B, h3⟩, ⟨B', h4⟩, h5⟩ := h
  exact ⟨b_then h1 hb, h2.below hb h2.lt, ⟨B, h3.later hb⟩, ⟨B', h4.later hb⟩, h5.below hb⟩
theorem KR.lt (h : KR W xb g cap g4 cap4 a n mcap L sum K Y V Q w) : g < w.heap.size := by
  obtain ⟨h1, h2, ⟨B, h3⟩, h4, h5⟩ := h
  exact (World.ownsRow.lt h3 g rfl).2
theorem KR.olds (h : KR W xb g cap g4 cap4 a n mcap L sum K Y V Q w) : ∀ j u, ((hbytes sum K Y V Q).map (Value.int .u8))[j]? = some u → w.cell? ⟨g, 0 + j, none⟩ = some u := by
  obtain ⟨h1, h2, ⟨B, h3⟩, h4, h5⟩ := h
  intro j u hj
  have := World.ownsRow.cells h3 (g := g) rfl j u hj
  rwa [Addr.add_lit] at this
theorem KR.reads (h : KR W xb g cap g4 cap4 a n mcap L sum K Y V Q w) {m : Nat} (hm : m ≤ n) : Reads w w.heap.size 1 a m (((List.range m).map L).map (Value.int .u8)) := h.2.2.2.2.reads hm
theorem KR.bd (h : KR W xb g cap g4 cap4 a n mcap L sum K Y V Q w) {m : Nat} (hm : m ≤ n) : ∀ i, i < m → 0 ≤ L i ∧ L i ≤ 255 := fun i hi => h.2.2.2.2.2.2.1 i (by omega)
theorem dec_app (A' : Option Addr) (m c' : Nat) (L : Nat → Int) (sum K Y V Q : Int) (w : World) (hr : Reads w w.heap.size 1 A' (16 + m) ((hbytes sum K Y V Q).map (Value.int .u8) ++ ((List.range m).map L).map (Value.int .u8))) (h1 : 16 + m ≤ c') (h2 : c' ≤ maxLen)
    (hs0 : 0 ≤ sum) (hs1 : sum ≤ 4294967295) (hok : HOk K Y V Q) (hb : ∀ i, i < m → 0 ≤ L i ∧ L i ≤ 255) :
    Calls Try.prog 18 #[.slice A' (16 + m) c'] w fun e w' => e = .returned (.tuple #[.agg #[.int .u32 sum, .int .i64 K, .int .i64 Y, .int .i64 V, .int .i64 Q], .int .i64 0]) ∧ Below w.heap.size w w' := by
  rw [← List.map_append] at hr
  refine dec_back A' (16 + m) c' _ sum K Y V Q w (by omega) (Byts.of_reads hr h1 h2 ?_) hs0 hs1 hok (fun i hi => getD_app_l hi)
  intro i hi
  by_cases h16 : i < 16
  · rw [getD_app_l (show i < (hbytes sum K Y V Q).length from h16)]
    exact hbytes_bd sum K Y V Q i h16
  · have hl : (hbytes sum K Y V Q).length = 16 := rfl
    rw [List.length_append, List.length_map, List.length_range, hl] at hi
    rw [List.getD_eq_getElem?_getD, List.getElem?_append_right (by omega), hl, List.getElem?_map, List.getElem?_range (by omega)]
    exact hb _ (by omega)
end

set_option maxHeartbeats 20000000 in
set_option maxRecDepth 100000 in
theorem walk {H : Type} {enc : TypeId × Value → H} (W : World) (base : Nat) {v0 v1 v2 v3 v4 v5 : Value} {d0 d1 d2 d3 d4 d5 : DataW H} {p0 p1 p2 p3 p4 p5 : List MemPlace} (o0 : Value.okWide Try.prog W .any base 22 v0) (h0 : DataW.Trod enc Try.prog W 0 (fun _ => true) true 22 v0 d0 p0) (o1 : Value.okWide Try.prog W .any base 5 v1) (h1 : DataW.Trod enc Try.prog W 0 (fun _ => true) true 5 v1 d1 p1) (o2 : Value.okWide Try.prog W .any base 5 v2) (h2 : DataW.Trod enc Try.prog W 0 (fun _ => true) true 5 v2 d2 p2) (o3 : Value.okWide Try.prog W .any base 44 v3) (h3 : DataW.Trod enc Try.prog W 0 (fun _ => true) true 44 v3 d3 p3) (o4 : Value.okWide Try.prog W .any base 45 v4) (h4 : DataW.Trod enc Try.prog W 0 (fun _ => true) true 45 v4 d4 p4) (o5 : Value.okWide Try.prog W .any base 26 v5) (h5 : DataW.Trod enc Try.prog W 0 (fun _ => true) true 26 v5 d5 p5) :
    Calls Try.prog 9 #[v0, v1, v2, v3, v4, v5] W fun e W' => e = .returned (.bool true) ∧ Below W.heap.size W W' := by
  obtain ⟨sum, rfl, rfl, rfl, ws⟩ := open_int Try.underlying22 o0 h0
  obtain ⟨kind, rfl, rfl, rfl, wk⟩ := open_int Try.underlying5 o1 h1
  obtain ⟨key, rfl, rfl, rfl, wy⟩ := open_int Try.underlying5 o2 h2
  obtain ⟨val, rfl, rfl, rfl, wv⟩ := open_int Try.underlying44 o3 h3
  obtain ⟨seq, rfl, rfl, rfl, wq⟩ := open_int Try.underlying45 o4 h4
  have bs := bounds_u32 ws
  have bk := bounds_u8 wk
  have by_ := bounds_u8 wy
  have bv := bounds_u16 wv
  have bq := bounds_u64 wq
  obtain ⟨a, n, mcap, L, rfl, hmore⟩ := open_byts o5 h5
  have hmn := hmore.1
  have hmx : (n : Int) ≤ 9223372036854775807 := by have := hmore.2.1; unfold maxLen at this; omega
  have hmcx : (mcap : Int) ≤ 9223372036854775807 := by have := hmore.2.1; unfold maxLen at this; omega
  clear h5 o5
  clear ws wk wy wv wq h0 o0 h1 o1 h2 o2 h3 o3 h4 o4
  have hbs0 := bs.1
  have hbs1 := bs.2
  obtain ⟨pp, hpp⟩ : ∃ pp : Nat, pp = min n 100 := ⟨_, rfl⟩
  have hmn1 : min (n : Int) 100 = (pp : Int) := by omega
  have hmi : ∀ (ts : Array TypeId) (t : TypeId) (w : World), (Builtin.min_ ts t #[.int .i64 (n : Int), .int .i64 100]).run Try.prog w = .ok (.int .i64 (pp : Int)) w := by
    intro ts t w
    rw [run_min_int2, show (if (100 : Int) < (n : Int) then (100 : Int) else (n : Int)) = (pp : Int) from by split <;> omega]
  have q0 : IntKind.i64.wrap (pp : Int) = (pp : Int) := by rw [IntKind.wrap_i64]; omega
  have hpn : pp ≤ n := by omega
  have hp100 : pp ≤ 100 := by omega
  have q1 : (0 : Int) ≤ (pp : Int) := by omega
  have q2 : (pp : Int) ≤ (n : Int) := by omega
  have q3 : (pp : Int) ≤ (mcap : Int) := by omega
  have HPN := Lib.hid hpn
  clear hpp
  go_enter Try.func9, Try.ntmps9
  go_wp2_with fail
  refine (Made_any sum kind key val seq W (by omega) (by omega) (by omega) (by omega) (by omega) (by omega) (by omega) (by omega)).mono ?_
  rintro e w1 ⟨⟨K, Y, V, Q, rfl, hok⟩, hb1⟩
  have hY1 : Below W.heap.size W w1 := b_then (by repeat first | exact Below.refl _ _ | apply Below.drew | apply b_alloc) hb1
  have bel1 := hY1
  clear hb1
  have hmo1 := hmore.below bel1
  clear hmore
  have hk := hok_bounds hok
  go_wp2_with fail
  refine (enc_yes sum K Y V Q _ (by omega) (by omega) hok).mono ?_
  rintro e w2 ⟨⟨v2, rfl, o2⟩, hb2⟩
  have hY2 : Below w1.heap.size w1 w2 := b_then (by repeat first | exact Below.refl _ _ | apply Below.drew | apply b_alloc) hb2
  have hmo2 := hmo1.below hY2
  have hX2 : Blk w2 (w1.heap.size) 24 #[.int .u32 sum, .int .i64 K, .int .i64 Y, .int .i64 V, .int .i64 Q] := (hb2.block _ (by simp <;> omega)).trans (by repeat (first | ((with_reducible refine alloc_here' ?_); (simp; done)) | (with_reducible apply alloc_old') | (with_reducible apply drew_old)))
  have bel2 := b_then bel1 hY2
  clear hmo1 bel1 hb2 hY2
  have cX := hX2.cell
  have lX := hX2.lt
  obtain ⟨g, cap, rfl, hg, hgl, hc, hm, _⟩ := Byts.of_own o2 (hbytes_bd sum K Y V Q) (show 0 < 16 by decide)
  have hln : (hbytes sum K Y V Q).length = 16 := rfl
  rw [hln] at hc o2
  rw [hln]
  clear hg
  have n1 : (16 : Int) ≤ cap := by omega
  have hcm : (cap : Int) ≤ 9223372036854775807 := by unfold maxLen at hm; omega
  go_wp2_with fail
  refine (check_yes sum K Y V Q _ hok).mono ?_
  rintro e w3 ⟨rfl, hb3⟩
  have hY3 : Below w2.heap.size w2 w3 := b_then (by repeat first | exact Below.refl _ _ | apply Below.drew | apply b_alloc) hb3
  have hmo3 := hmo2.below hY3
  have hX3 := hX2.below hY3 hX2.lt
  have ho3 := o2.later hY3
  have bel3 := b_then bel2 hY3
  clear hmo2 hX2 o2 bel2 hb3 cX lX hY3
  have cX := hX3.cell
  have lX := hX3.lt
  go_wp2_with fail
  refine (bclone_any _ _ (hbytes sum K Y V Q) _ ho3 (by simp [hbytes]) (by simp [hbytes])).mono ?_
  rintro e w4 ⟨⟨v4, rfl, o4⟩, hb4⟩
  have hY4 : Below w3.heap.size w3 w4 := b_then (by repeat first | exact Below.refl _ _ | apply Below.drew | apply b_alloc) hb4
  have hmo4 := hmo3.below hY4
  have hX4 := hX3.below hY4 hX3.lt
  have ho4 := ho3.later hY4
  have bel4 := b_then bel3 hY4
  clear hmo3 hX3 ho3 bel3 hb4 cX lX hY4
  have cX := hX4.cell
  have lX := hX4.lt
  obtain ⟨g4, cap4, rfl, _, hg4l, hc4, hm4, _⟩ := Byts.of_own o4 (hbytes_bd sum K Y V Q) (show 0 < 16 by decide)
  rw [hln] at hc4 o4
  rw [hln]
  obtain ⟨i0, hi0, hz0, hz1, hz2⟩ := info_parts byte_info
  have hS0 : KR W w1.heap.size g cap g4 cap4 a n mcap L sum K Y V Q w4 := KR.mk0 bel4 hX4 ho4 o4 hmo4
  have hkr : ∀ w, Below w4.heap.size w4 w → KR W w1.heap.size g cap g4 cap4 a n mcap L sum K Y V Q w := fun w hw => hS0.after hw
  obtain ⟨OL, hOL⟩ : ∃ OL, OL = (hbytes sum K Y V Q).map (Value.int .u8) := ⟨_, rfl⟩
  obtain ⟨NW, hNW⟩ : ∃ NW, NW = ((List.range pp).map L).map (Value.int .u8) := ⟨_, rfl⟩
  have holen : OL.length = 16 := by rw [hOL, List.length_map]; rfl
  have hlt : ∀ w, Below w4.heap.size w4 w → g < w.heap.size := fun w hw => (hkr w hw).lt
  have hold : ∀ w, Below w4.heap.size w4 w → ∀ j u, OL[j]? = some u → w.cell? ⟨g, 0 + j, none⟩ = some u := fun w hw => by rw [hOL]; exact (hkr w hw).olds
  have hrdn : ∀ w, Below w4.heap.size w4 w → Reads w w.heap.size 1 a pp NW := fun w hw => by rw [hNW]; exact (hkr w hw).reads HPN.out
  have hdec : ∀ w A' c', Below w4.heap.size w4 w → Reads w w.heap.size 1 A' (16 + pp) (OL ++ NW) → 16 + pp ≤ c' → c' ≤ maxLen → Calls Try.prog 18 #[.slice A' (16 + pp) c'] w fun e w' => e = .returned (.tuple #[.agg #[.int .u32 sum, .int .i64 K, .int .i64 Y, .int .i64 V, .int .i64 Q], .int .i64 0]) ∧ Below w.heap.size w w' := by
    intro w A' c' hw hr hc1 hc2
    rw [hOL, hNW] at hr
    exact dec_app A' pp c' L sum K Y V Q w hr hc1 hc2 hbs0 hbs1 hok ((hkr w hw).bd HPN.out)
  have HKR := Lib.hid hkr
  have HOLE := Lib.hid holen
  have HLT := Lib.hid hlt
  have HOLD := Lib.hid hold
  have HRDN := Lib.hid hrdn
  have HDEC := Lib.hid hdec
  have HOK := Lib.hid hok
  have hS1 : KWd w4 w4.drew := Below.drew (Below.refl _ _)
  have k1 : 16 + pp ≤ maxLen := by unfold maxLen; omega
  have k2 : (16 + pp) * 1 ≤ 140737488355328 := by omega
  clear hS0 o4 ho4 hX4 cX lX hkr hOL hNW holen hlt hold hrdn hdec hok hk hmo4 hln hc4 hm4 hg4l
  go_upto_region 6 with fail
  go_cut [17, 18] (fun s17 s18 wx => ∃ t : Nat, s17 = .pointer (some ⟨t, 0, none⟩) ∧ s18 = .int .i64 0 ∧ Blk wx t 24 #[.int .u32 sum, .int .i64 K, .int .i64 Y, .int .i64 V, .int .i64 Q] ∧ Below w4.heap.size w4 wx)
  case first =>
    go_region_held3 (fun w' => KWd w4 w') (first | (with_reducible assumption) | (with_reducible exact hS1) | exact b_then (KWd.bel (by assumption)) (b_alloc (Below.refl _ _) _) | (refine KWd.set5 hS6 ?_ _ _ _ _ _; first | exact Nat.le_refl _ | exact Below.size hY5)) (first
      | (refine step_append_full (by rfl) (.tmp 52) (.tmp 57) _ (by rfl) 5 i0 (.int .u8 0) 1 Try.underlying26 hi0 hz0 hz1 hz2 rfl g 0 16 OL (by rfl) HOLE.out (HLT.out _ (by repeat first | exact Below.refl _ _ | assumption | apply Below.drew | apply b_alloc')) (HOLD.out _ (by repeat first | exact Below.refl _ _ | assumption | apply Below.drew | apply b_alloc')) a pp mcap NW (by rfl) (HRDN.out _ (by repeat first | exact Below.refl _ _ | assumption | apply Below.drew | apply b_alloc')) k1 k2 ?_; intro A' c' w5 hc1 hc2 hRd hb5; have hY5 : Below w4.heap.size w4 w5 := b_then (by repeat first | exact Below.refl _ _ | assumption | apply Below.drew | apply b_alloc') hb5; have hS5 : KWd w4 w5 := hY5; (first | ((with_reducible have hT : Blk w5 w4.heap.size 24 #[.int .u32 0, .int .i64 0, .int .i64 0, .int .i64 0, .int .i64 0] := blk_fresh2 hb5); have cT := hT.cell; have fT := hT.frozen; have lT := hT.lt) | skip))
      | (have hT0 := hT; go_at_call 18; (with_reducible refine (HDEC.out _ _ _ hY5 hRd hc1 hc2).mono ?_); rintro e w6 ⟨rfl, hb6⟩; have hY6 : Below w4.heap.size w4 w6 := b_then hY5 hb6; have hS6 : KWd w4 w6 := hY6; have hT6 := hT0.below hb6 hT0.lt; have cT6 := hT6.cell; have fT6 := hT6.frozen; have lT6 := hT6.lt)
      | (go_at_call 18; (with_reducible refine (HDEC.out _ _ _ hY5 hRd hc1 hc2).mono ?_); rintro e w6 ⟨rfl, hb6⟩; have hY6 : Below w4.heap.size w4 w6 := b_then hY5 hb6; have hS6 : KWd w4 w6 := hY6)
      | (go_at_call 18; (with_reducible refine (HDEC.out _ _ _ (b_alloc' hY5) (Reads.al hRd _) hc1 hc2).mono ?_); rintro e w6 ⟨rfl, hb6⟩; have hY6 : Below w4.heap.size w4 w6 := b_then (b_alloc' hY5) hb6; have hS6 : KWd w4 w6 := hY6; have hT6 : Blk w6 w5.heap.size 24 #[.int .u32 0, .int .i64 0, .int .i64 0, .int .i64 0, .int .i64 0] := blk_fresh hb6; have cT6 := hT6.cell; have fT6 := hT6.frozen; have lT6 := hT6.lt))
    all_goals (go_wp2_with fail; go_meet; first
      | exact ⟨_, rfl, rfl, blk_set5 hT6 _ _ _ _ _, KWd.bel (KWd.set5 hS6 (by first | exact Nat.le_refl _ | exact Below.size hY5) _ _ _ _ _)⟩
      | exact ⟨_, rfl, rfl, Blk.new w6 _ _, b_alloc hY6 _⟩)
  case rest =>
    obtain ⟨t, rfl, rfl, hT, hbc⟩ := hcut
    have hKc := HKR.out _ hbc
    have cT := hT.cell
    obtain ⟨hBc, hXc, ⟨B5, o5⟩, ⟨B6, o6⟩, _⟩ := hKc
    clear HKR HOLE HLT HOLD HRDN HDEC hS1 k1 k2 hi0 hz0 hz1 hz2 i0
    go_wp2_with fail
    refine (dec_torn (some ⟨g, 0, none⟩) 15 cap _ (by omega)).mono ?_
    rintro e w7 ⟨rfl, hb7⟩
    have hY7 : Below wc.heap.size wc w7 := b_then (by repeat first | exact Below.refl _ _ | apply Below.drew | apply b_alloc) hb7
    have hT7 := hT.below hY7 hT.lt
    have hX7 := hXc.below hY7 hXc.lt
    have o57 := o5.later hY7
    have o67 := o6.later hY7
    have bel7 := b_then hBc hY7
    have cT7 := hT7.cell
    have cX7 := hX7.cell
    have lT7 := hT7.lt
    have lX7 := hX7.lt
    clear hT hXc o5 o6 hb7 hY7 hT7 hX7 cT
    go_wp2_with fail
    refine (equal_same (some ⟨g, 0, none⟩) (some ⟨g4, 0, none⟩) cap cap4 (hbytes sum K Y V Q) _ (RB.of_slice (o57.later (b_alloc (Below.refl _ w7) _))) (RB.of_slice (o67.later (b_alloc (Below.refl _ w7) _)))).mono ?_
    rintro e w8 ⟨rfl, rfl⟩
    go_wp2_with fail
    refine (works_true _).mono ?_
    rintro e w9 ⟨rfl, hb9⟩
    go_wp2_with fail
    go_ret
    exact ⟨rfl, b_then (b_alloc bel7 _) hb9⟩

set_option maxRecDepth 100000 in
theorem lifted (os : Os) (started : os.Started) (H : Type) (enc : TypeId × Value → H) :
    ReturnsInHanded {} Try.checked os 9 .any (Rows.headerRoundTripSpec.pre6 enc Try.prog Try.f9 Rows.headerRoundTripRow.domain false) (Rows.headerRoundTripSpec.post enc Try.prog Try.f9 false true false false) := by
  refine returnsInHanded_of_change (C := Try.checked) own started (by kernel_rfl) Try.func9
    (ChangeSpec.witness6 (enc := enc) (C := Try.checked) false ⟨#[], #[.int .u32 0, .int .u8 0, .int .u8 0, .int .u16 0, .int .u64 0, .slice none 0 0], []⟩ 8 (by kernel_rfl) (by kernel_rfl) (by kernel_rfl) (by kernel_rfl)) ?_
  intro W base args ds gs before hval0 hW hcnd _
  have hval : ∀ (j : Nat) t v, Try.f9.params[j]? = some t → args[j]? = some v → Value.okWide Try.prog W .any base t v := hval0
  have hW' := hW
  obtain ⟨p, q, hA0, hV, rfl, hfz, hnd⟩ := hW
  have hA : DataW.TrodAll enc Try.prog W 0 (fun _ => true) true Try.f9.params.toList args.toList ds p := hA0
  rw [Try.params9] at hA hval
  obtain ⟨v0, vs0, d0, ds0, p0, q0, hargs, rfl, rfl, h0, r0⟩ := trodAll_cons hA
  obtain ⟨v1, vs1, d1, ds1, p1, q1, rfl, rfl, rfl, h1, r1⟩ := trodAll_cons r0
  obtain ⟨v2, vs2, d2, ds2, p2, q2, rfl, rfl, rfl, h2, r2⟩ := trodAll_cons r1
  obtain ⟨v3, vs3, d3, ds3, p3, q3, rfl, rfl, rfl, h3, r3⟩ := trodAll_cons r2
  obtain ⟨v4, vs4, d4, ds4, p4, q4, rfl, rfl, rfl, h4, r4⟩ := trodAll_cons r3
  obtain ⟨v5, vs5, d5, ds5, p5, q5, rfl, rfl, rfl, h5, r5⟩ := trodAll_cons r4
  obtain ⟨rfl, rfl, rfl⟩ := trodAll_nil r5
  obtain rfl : args = #[v0, v1, v2, v3, v4, v5] := by cases args; simp_all
  obtain ⟨rfl, rfl⟩ := trodVars_none hV
  refine (walk (H := H) (enc := enc) W base (hval 0 22 v0 rfl rfl) h0 (hval 1 5 v1 rfl rfl) h1 (hval 2 5 v2 rfl rfl) h2 (hval 3 44 v3 rfl rfl) h3 (hval 4 45 v4 rfl rfl) h4 (hval 5 26 v5 rfl rfl) h5).mono fun e W' ⟨he, bel⟩ => ?_
  subst he
  exact ⟨_, rfl, _, _, _, [], _, [], hW', trodAll_mk1 (shut_bool Try.underlying4 _), (trodAll_cons_mk (Below.trod laidOut (by kernel_rfl) (of_decide_eq_true (by kernel_rfl)) h0 bel (lt_of_Trod h0)) (trodAll_cons_mk (Below.trod laidOut (by kernel_rfl) (of_decide_eq_true (by kernel_rfl)) h1 bel (lt_of_Trod h1)) (trodAll_cons_mk (Below.trod laidOut (by kernel_rfl) (of_decide_eq_true (by kernel_rfl)) h2 bel (lt_of_Trod h2)) (trodAll_cons_mk (Below.trod laidOut (by kernel_rfl) (of_decide_eq_true (by kernel_rfl)) h3 bel (lt_of_Trod h3)) (trodAll_cons_mk (Below.trod laidOut (by kernel_rfl) (of_decide_eq_true (by kernel_rfl)) h4 bel (lt_of_Trod h4)) (trodAll_cons_mk (Below.trod laidOut (by kernel_rfl) (of_decide_eq_true (by kernel_rfl)) h5 bel (lt_of_Trod h5)) trodAll_mk0)))))), rfl, bel.frame _, fun h => by cases h⟩

/-- HeaderRoundTrip: for every five numbers and slice of bytes the law returns true and changes nothing. No condition. -/
theorem proved : Rows.HeaderRoundTripSaid :=
  OpenClaim.holds_of_wide 9 Try.f9 rfl rfl rfl rfl rfl rfl rfl ⟨rfl, rfl, rfl, rfl, rfl⟩ rfl rfl rfl rfl rfl (by kernel_rfl) Try.func9 (by kernel_rfl)
    (of_decide_eq_true (by kernel_rfl)) (by unfold Func.isWrapper; first | (rw [if_pos (by decide +kernel)]; kernel_rfl) | (rw [if_neg (by decide +kernel)]; exact ⟨rfl, rfl⟩))
    (fun os started H enc _ => lifted os started H enc)
#print axioms proved
end Go.Proofs.Ytagcaepkbilpbaa.headerRoundTrip
