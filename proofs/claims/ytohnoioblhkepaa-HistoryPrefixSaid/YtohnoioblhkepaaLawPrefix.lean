/-
  HistoryPrefix: for every limit and every list of moves the law returns true and changes nothing. No condition.
-/
import Derived.Test.YtohnoioblhkepaaOpen
import Derived.Test.YtohnoioblhkepaaWks
import Derived.Test.YtohnoioblhkepaaMvd
import Derived.Test.YtohnoioblhkepaaCoi
import Derived.Test.YtohnoioblhkepaaMov
namespace Go.Proofs.Ytohnoioblhkepaa.historyPrefix
open Go.ChangeShapes Go.WideShapes Go.ChangeAt Go.RowKit
open Go.ChangeMaps (open_string shut_string)
set_option linter.unusedSimpArgs false
set_option linter.unusedVariables false

open Go.Proofs.Ytohnoioblhkepaa.Hi (Is)
/-- between two rounds -/
def PRel (W : World) (b most p : Nat) (mk la i : Value) (wr : World) : Prop :=
  ∃ (k m n cap : Nat) (A : Option Addr) (xs : List Int) (Al : Option Addr) (cl : Nat), k ≤ p ∧ i = .int .i64 k ∧ Is wr b b most m A n cap xs ∧ m ≤ n ∧ n ≤ most ∧ Below W.heap.size W wr ∧ mk = .slice Al m cl ∧ la = .slice Al n cl ∧ wr.ownsRow W.heap.size 3 1 (.slice Al n cl) n (xs.map (Value.int .i64)) ∧ rowOf Al ≠ some b ∧ (rowOf Al = none ∨ rowOf Al ≠ rowOf A)
theorem mv_keep {most k N m : Nat} {xs : List Int} (h1 : m ≤ xs.length) (hc : ¬ (k % 8 = 7 ∧ N % 4 = 0)) :
    m ≤ (Hi.mv most k N m xs).2.length ∧ (Hi.mv most k N m xs).2.take m = xs.take m ∧ (Hi.mv most k N m xs).2.take (min xs.length (Hi.mv most k N m xs).2.length) = xs.take (min xs.length (Hi.mv most k N m xs).2.length) := by
  unfold Hi.mv
  split
  · exact ⟨h1, rfl, rfl⟩
  · split
    · rename_i _ h6
      have hq : N % (xs.length - m + 1) < xs.length - m + 1 := Nat.mod_lt _ (by omega)
      generalize N % (xs.length - m + 1) = q at hq
      refine ⟨by simp; omega, ?_, ?_⟩
      · simp only [List.take_take]
        rw [show min m (m + q) = m by omega]
      · simp only [List.take_take, List.length_take]
        congr 1
        omega
    · split
      · split
        · rename_i _ _ h7 h4
          exact absurd ⟨h7, h4⟩ hc
        · exact ⟨h1, rfl, rfl⟩
      · split
        · refine ⟨by simp; omega, ?_, ?_⟩
          · rw [List.take_append_of_le_length h1]
          · simp only [List.length_append, List.length_singleton]
            rw [List.take_append_of_le_length (by omega)]
        · exact ⟨h1, rfl, rfl⟩

set_option maxHeartbeats 6400000 in
set_option maxRecDepth 100000 in
theorem walk {H : Type} {enc : TypeId × Value → H} (W : World) (base : Nat) {v0 v1 : Value} {d0 d1 : DataW H} {p0 p1 : List MemPlace} (o0 : Value.okWide Try.prog W .any base 5 v0) (h0 : DataW.Trod enc Try.prog W 0 (fun _ => true) true 5 v0 d0 p0) (o1 : Value.okWide Try.prog W .any base 22 v1) (h1 : DataW.Trod enc Try.prog W 0 (fun _ => true) true 22 v1 d1 p1) :
    Calls Try.prog 3 #[v0, v1] W fun e W' => e = .returned (.bool true) ∧ Below W.heap.size W W' := by
  obtain ⟨lz, rfl, rfl, rfl, wl⟩ := open_int Try.underlying5 o0 h0
  have bl := bounds_u8 wl
  obtain ⟨ml, rfl⟩ : ∃ ml : Nat, lz = (ml : Int) := ⟨lz.toNat, by omega⟩
  clear wl o0 h0
  obtain ⟨most, hmost⟩ : ∃ most : Nat, most = 1 + ml % 64 := ⟨_, rfl⟩
  have y1 : 1 + (ml : Int) % 64 = (most : Int) := by omega
  have y2 : 1 ≤ most := by omega
  have y3 : most ≤ 64 := by omega
  clear hmost
  obtain ⟨am, lm, cm, K, N, rfl, hmv⟩ := open_moves o1 h1
  clear o1 h1
  obtain ⟨pp, hpp⟩ : ∃ pp : Nat, pp = min lm 150 := ⟨_, rfl⟩
  have p1 : (if (150 : Int) < (lm : Int) then (150 : Int) else (lm : Int)) = (pp : Int) := by split <;> omega
  have p2 : pp ≤ 150 := by omega
  have p3 : pp ≤ lm := by omega
  have p4 : lm ≤ cm := hmv.1
  have p5 : lm ≤ 9223372036854775807 := by have := hmv.2.1; unfold maxLen at this; omega
  have HMV := Lib.hid hmv
  clear hpp hmv
  go_enter Try.func3, Try.ntmps3
  go_wp2_with fail
  refine (Hi.New_ok most _ (by omega)).mono ?_
  rintro e w1 ⟨b, rfl, h1, hz1, hb1⟩
  go_wp2_with fail
  go_loopw [8, 9, 36] (PRel W b most pp) (fun _ _ i _ => pp - (intOf i).toNat)
  case atStart => exact ⟨0, 0, 0, 0, none, [], none, 0, by omega, rfl, h1, by omega, by omega, hb1, rfl, rfl, World.ownsRow_nil _ _ _ _, by simp [rowOf], .inl rfl⟩
  case round =>
    obtain ⟨k, m, n, cap, A, xs, Al, cl, hk, rfl, h, hmn, hnm, hB, rfl, rfl, ol, hl1, hl2⟩ := hrel
    clear h1 hb1
    by_cases hlt : k < pp
    · have z1 : (k : Int) < (pp : Int) := by omega
      have z2 : (0 : Int) ≤ (k : Int) := by omega
      have z3 : (k : Int) < (lm : Int) := by omega
      obtain ⟨hq1, hq2, hq3, hq4⟩ := HMV.out
      obtain ⟨bm, om, rfl, hbm, hcm⟩ := hq4 (by omega)
      obtain ⟨c0, c1⟩ := hcm k (by omega)
      obtain ⟨k0, k1, n0, n1⟩ := hq3 k (by omega)
      obtain ⟨kk, hkk⟩ : ∃ kk : Nat, K k = (kk : Int) := ⟨(K k).toNat, by omega⟩
      obtain ⟨nn, hnn⟩ : ∃ nn : Nat, N k = (nn : Int) := ⟨(N k).toNat, by omega⟩
      rw [hkk] at c0 k1
      rw [hnn] at c1 n1
      have c0 : wr.cell? ⟨bm, om + k * 2, none⟩ = some (.int .u8 kk) := (hB.cell hbm).trans c0
      have c1 : wr.cell? ⟨bm, om + k * 2 + 1, none⟩ = some (.int .u16 nn) := (hB.cell hbm).trans (by rw [Nat.add_assoc]; exact c1)
      have k1 : kk ≤ 255 := by omega
      have n1 : nn ≤ 65535 := by omega
      have hbm' : bm < wr.heap.size := Nat.lt_of_lt_of_le hbm hB.size
      clear hq1 hq2 hq3 hcm hkk hnn hbm k0 n0
      go_wp2_with fail
      refine (Hi.moved_any b b most m n cap kk nn A xs _ (h.alloc (.cells #[.int .u8 kk, .int .u16 nn] 30)) k1 n1 hmn hnm (by omega) (by simp; have := h.lt; omega)).mono ?_
      rintro e w2 ⟨A2, cap2, rfl, h2, hO2, hr2⟩
      obtain ⟨hm2, hn2⟩ := Hi.mv_ok (most := most) (k := kk) (N := nn) (m := m) (xs := xs) (by rw [h.len]; exact hmn) (by rw [h.len]; exact hnm)
      obtain ⟨m', hm'⟩ : ∃ m', m' = (Hi.mv most kk nn m xs).1 := ⟨_, rfl⟩
      obtain ⟨xs', hxs'⟩ : ∃ xs', xs' = (Hi.mv most kk nn m xs).2 := ⟨_, rfl⟩
      obtain ⟨n', hn'⟩ : ∃ n', n' = xs'.length := ⟨_, rfl⟩
      rw [← hm', ← hxs'] at h2 hm2
      rw [← hxs'] at hn2
      rw [← hn'] at h2 hm2 hn2
      by_cases hc : kk % 8 = 7 ∧ nn % 4 = 0
      · have u0 : ((kk : Int) % 8 == 7) = true := by rw [beq_iff_eq]; omega
        have u1 : ((nn : Int) % 4 == 0) = true := by rw [beq_iff_eq]; omega
        have hp0 : xs'.take 0 = ([] : List Int).take 0 := by simp
        have hs0 : xs'.take 0 = ([] : List Int).take 0 := by simp
        clear hc hm' hxs' hn' hr2
        have hbz2 : Below W.heap.size W w2 := (h.alloc (.cells #[.int .u8 kk, .int .u16 nn] 30)).keptI (b_alloc hB _) hz1 (Nat.le_refl _) hO2
        have hX2 := hO2.blk (Blk.new wr 30 #[.int .u8 kk, .int .u16 nn]) (by have := h.lt; omega) (fun e => by have := (own_row h.own _ e.symm).2; omega)
        have ol2 : w2.ownsRow W.heap.size 3 1 (.slice none 0 0) 0 [] := hO2.own (World.ownsRow_nil _ _ _ _) (by simp [rowOf]) (.inl rfl)
        clear h c0 c1 hO2 hB ol hl1 hl2
        go_wp2_with fail
        refine (Hi.elements_any b b most m' A2 n' cap2 xs' most w2 h2 hn2 (by omega)).mono ?_
        rintro e w3 ⟨⟨A3, c3, rfl, o3⟩, hb3⟩
        have h3 := h2.later hb3
        have ol3 := own_later ol2 hb3
        have hX3 := hX2.below hb3 hX2.lt
        have hB3 := b_then hbz2 hb3
        have hf1 : rowOf A3 ≠ some b := fun e => by have := (own_row o3 _ e).1; have := h2.lt; omega
        have hf2 : rowOf A3 = none ∨ rowOf A3 ≠ rowOf A2 := by
          by_cases hn : rowOf A3 = none
          · exact .inl hn
          · refine .inr fun e => ?_
            obtain ⟨g, hg⟩ := Option.ne_none_iff_exists'.1 hn
            have l1 := (own_row o3 g hg).1
            have l2 := (own_row h2.own g (e ▸ hg)).2
            omega
        have o3' := own_base o3 (show W.heap.size ≤ w2.heap.size from hbz2.size)
        have hc3 := (own_cap o3).2
        have hcl := (own_cap ol3).2
        have hm3 := hcl.2
        unfold maxLen at hm3
        have hm3' := hc3.2
        unfold maxLen at hm3'
        clear h2 ol2 hX2 hbz2 hb3 o3
        go_wp2_with fail
        refine (Hi.Len_any b b most m' n' cap2 A2 xs' _ h3).mono ?_
        rintro e w' ⟨rfl, rfl⟩
        go_wp2_with fail
        refine (Hi.Marked_any b b most m' n' cap2 A2 xs' _ h3).mono ?_
        rintro e w' ⟨rfl, rfl⟩
        go_wp2_with fail
        refine (Hi.Marked_any b b most m' n' cap2 A2 xs' _ h3).mono ?_
        rintro e w' ⟨rfl, rfl⟩
        have q1 : decide (n' < m') = false := by rw [decide_eq_false_iff_not]; omega
        have q2 : (m' : Int) ≤ (n' : Int) := by omega
        have q3 : decide (n' < 0) = false := by rw [decide_eq_false_iff_not]; omega
        have q5 : (0 : Int) ≤ (c3 : Int) := by omega
        have q6 : (0 : Int) ≤ (0 : Int) := by omega
        have q7 : (0 : Int) ≤ (c3 : Int) := by omega
        have q8 : (m' : Int) ≤ (c3 : Int) := by omega
        have cX := hX3.cell
        go_wp2_with fail
        have e1 : ∀ j, Calls Try.prog 15 #[.slice A3 0 c3, .slice none 0 0] (w3.drewN j) fun e w' => e = .returned (.bool true) ∧ ∃ q, w' = (w3.drewN j).drewN q := by
          intro j
          have hl : (xs'.take 0).length = 0 := by rw [List.length_take, h3.len]; omega
          refine eqi_any A3 none 0 c3 0 (xs'.take 0) _ hl ?_ ?_ (by unfold maxLen; omega)
          · rw [List.map_take]; exact ((RI.of_row o3').take_ 0).drewN j
          · exact .inl (by simp)
        have e2 : ∀ j, Calls Try.prog 15 #[.slice A3 0 c3, .slice none 0 0] (w3.drewN j) fun e w' => e = .returned (.bool true) ∧ ∃ q, w' = (w3.drewN j).drewN q := by
          intro j
          have hl : (xs'.take 0).length = 0 := by rw [List.length_take, h3.len]; omega
          refine eqi_any A3 none 0 c3 0 (xs'.take 0) _ hl ?_ ?_ (by unfold maxLen; omega)
          · rw [List.map_take]; exact ((RI.of_row o3').take_ 0).drewN j
          · exact .inl (by rw [hs0]; simp)
        clear hp0 hs0 ol3 cX
        go_quiet ((first | (with_reducible exact Calls.quiet_of (e1 _)) | (with_reducible exact Calls.quiet_of (e2 _))))
        clear e1 e2
        have h4 := h3.drewN nq
        have hB4 := below_drewN hB3 nq
        have o4 := own_later o3' (below_drewN (Below.refl _ w3) nq)
        generalize (World.drewN w3 nq) = w4 at h4 hB4 o4 ⊢
        clear h3 hB3 o3' hX3
        go_wp2_with fail
        refine (Hi.Marked_any b b most m' n' cap2 A2 xs' _ h4).mono ?_
        rintro e w' ⟨rfl, rfl⟩
        go_wp2_with fail
        go_roundw
        case rel => exact ⟨k + 1, m', n', cap2, A2, xs', A3, c3, by omega, by go_num, h4, hm2, hn2, hB4, rfl, rfl, o4, hf1, hf2⟩
        case measure => simp [intOf]; omega
      · obtain ⟨hp1, hp2, hp3⟩ := mv_keep (most := most) (k := kk) (N := nn) (m := m) (xs := xs) (by rw [h.len]; exact hmn) hc
        rw [← hxs'] at hp1 hp2 hp3
        rw [h.len, ← hn'] at hp3
        rw [← hn'] at hp1
        have hp0 : xs'.take m = xs.take m := hp2
        have hs0 : xs'.take (min n n') = xs.take (min n n') := hp3
        by_cases h7 : kk % 8 = 7
        · have h4 : ¬ nn % 4 = 0 := fun h => hc ⟨h7, h⟩
          have u0 : ((kk : Int) % 8 == 7) = true := by rw [beq_iff_eq]; omega
          have u1 : ((nn : Int) % 4 == 0) = false := by rw [beq_eq_false_iff_ne]; omega
          clear hc hm' hxs' hn' hr2 h7 h4 hp2 hp3
          have hbz2 : Below W.heap.size W w2 := (h.alloc (.cells #[.int .u8 kk, .int .u16 nn] 30)).keptI (b_alloc hB _) hz1 (Nat.le_refl _) hO2
          have hX2 := hO2.blk (Blk.new wr 30 #[.int .u8 kk, .int .u16 nn]) (by have := h.lt; omega) (fun e => by have := (own_row h.own _ e.symm).2; omega)
          have ol2 : w2.ownsRow W.heap.size 3 1 (.slice Al n cl) n (xs.map (Value.int .i64)) := hO2.own (own_later ol (b_alloc (Below.refl _ _) _)) hl1 hl2
          clear h c0 c1 hO2 hB ol hl1 hl2
          go_wp2_with fail
          refine (Hi.elements_any b b most m' A2 n' cap2 xs' most w2 h2 hn2 (by omega)).mono ?_
          rintro e w3 ⟨⟨A3, c3, rfl, o3⟩, hb3⟩
          have h3 := h2.later hb3
          have ol3 := own_later ol2 hb3
          have hX3 := hX2.below hb3 hX2.lt
          have hB3 := b_then hbz2 hb3
          have hf1 : rowOf A3 ≠ some b := fun e => by have := (own_row o3 _ e).1; have := h2.lt; omega
          have hf2 : rowOf A3 = none ∨ rowOf A3 ≠ rowOf A2 := by
            by_cases hn : rowOf A3 = none
            · exact .inl hn
            · refine .inr fun e => ?_
              obtain ⟨g, hg⟩ := Option.ne_none_iff_exists'.1 hn
              have l1 := (own_row o3 g hg).1
              have l2 := (own_row h2.own g (e ▸ hg)).2
              omega
          have o3' := own_base o3 (show W.heap.size ≤ w2.heap.size from hbz2.size)
          have hc3 := (own_cap o3).2
          have hcl := (own_cap ol3).2
          have hm3 := hcl.2
          unfold maxLen at hm3
          have hm3' := hc3.2
          unfold maxLen at hm3'
          clear h2 ol2 hX2 hbz2 hb3 o3
          go_wp2_with fail
          refine (Hi.Len_any b b most m' n' cap2 A2 xs' _ h3).mono ?_
          rintro e w' ⟨rfl, rfl⟩
          go_wp2_with fail
          refine (Hi.Marked_any b b most m' n' cap2 A2 xs' _ h3).mono ?_
          rintro e w' ⟨rfl, rfl⟩
          go_wp2_with fail
          refine (Hi.Marked_any b b most m' n' cap2 A2 xs' _ h3).mono ?_
          rintro e w' ⟨rfl, rfl⟩
          have q1 : decide (n' < m') = false := by rw [decide_eq_false_iff_not]; omega
          have q2 : (m' : Int) ≤ (n' : Int) := by omega
          have q3 : decide (n' < m) = false := by rw [decide_eq_false_iff_not]; omega
          obtain ⟨sh, hsh⟩ : ∃ sh, sh = min n n' := ⟨_, rfl⟩
          have q4 : ∀ (ts : Array TypeId) (t : TypeId) (w : World), (Builtin.min_ ts t #[.int .i64 (n : Int), .int .i64 (n' : Int)]).run Try.prog w = .ok (.int .i64 (sh : Int)) w := by
            intro ts t w
            rw [run_min_int2, show (if (n' : Int) < (n : Int) then (n' : Int) else (n : Int)) = (sh : Int) from by split <;> omega]
          have q5 : (sh : Int) ≤ (c3 : Int) := by omega
          have q6 : (sh : Int) ≤ (cl : Int) := by omega
          have q7 : (m : Int) ≤ (c3 : Int) := by omega
          have q8 : (m' : Int) ≤ (c3 : Int) := by omega
          have t1 : sh ≤ n := by omega
          have t2 : sh ≤ n' := by omega
          rw [← hsh] at hs0
          have HSH := Lib.hid hsh
          clear hsh
          have cX := hX3.cell
          go_wp2_with fail
          have e1 : ∀ j, Calls Try.prog 15 #[.slice A3 m c3, .slice Al m cl] (w3.drewN j) fun e w' => e = .returned (.bool true) ∧ ∃ q, w' = (w3.drewN j).drewN q := by
            intro j
            have hl : (xs'.take m).length = m := by rw [List.length_take, h3.len]; omega
            refine eqi_any A3 Al m c3 cl (xs'.take m) _ hl ?_ ?_ (by unfold maxLen; omega)
            · rw [List.map_take]; exact ((RI.of_row o3').take_ m).drewN j
            · rw [hp0, List.map_take]; exact ((RI.of_row ol3).take_ m).drewN j
          have e2 : ∀ j, Calls Try.prog 15 #[.slice A3 sh c3, .slice Al sh cl] (w3.drewN j) fun e w' => e = .returned (.bool true) ∧ ∃ q, w' = (w3.drewN j).drewN q := by
            intro j
            have hl : (xs'.take sh).length = sh := by rw [List.length_take, h3.len]; omega
            refine eqi_any A3 Al sh c3 cl (xs'.take sh) _ hl ?_ ?_ (by unfold maxLen; omega)
            · rw [List.map_take]; exact ((RI.of_row o3').take_ sh).drewN j
            · rw [hs0, List.map_take]; exact ((RI.of_row ol3).take_ sh).drewN j
          clear hp0 hs0 ol3 cX
          go_quiet ((first | (with_reducible exact Calls.quiet_of (e1 _)) | (with_reducible exact Calls.quiet_of (e2 _))))
          clear e1 e2
          have h4 := h3.drewN nq
          have hB4 := below_drewN hB3 nq
          have o4 := own_later o3' (below_drewN (Below.refl _ w3) nq)
          generalize (World.drewN w3 nq) = w4 at h4 hB4 o4 ⊢
          clear h3 hB3 o3' hX3
          go_wp2_with fail
          refine (Hi.Marked_any b b most m' n' cap2 A2 xs' _ h4).mono ?_
          rintro e w' ⟨rfl, rfl⟩
          go_wp2_with fail
          go_roundw
          case rel => exact ⟨k + 1, m', n', cap2, A2, xs', A3, c3, by omega, by go_num, h4, hm2, hn2, hB4, rfl, rfl, o4, hf1, hf2⟩
          case measure => simp [intOf]; omega
        · have u0 : ((kk : Int) % 8 == 7) = false := by rw [beq_eq_false_iff_ne]; omega
          clear hc hm' hxs' hn' hr2 h7 hp2 hp3
          have hbz2 : Below W.heap.size W w2 := (h.alloc (.cells #[.int .u8 kk, .int .u16 nn] 30)).keptI (b_alloc hB _) hz1 (Nat.le_refl _) hO2
          have hX2 := hO2.blk (Blk.new wr 30 #[.int .u8 kk, .int .u16 nn]) (by have := h.lt; omega) (fun e => by have := (own_row h.own _ e.symm).2; omega)
          have ol2 : w2.ownsRow W.heap.size 3 1 (.slice Al n cl) n (xs.map (Value.int .i64)) := hO2.own (own_later ol (b_alloc (Below.refl _ _) _)) hl1 hl2
          clear h c0 c1 hO2 hB ol hl1 hl2
          go_wp2_with fail
          refine (Hi.elements_any b b most m' A2 n' cap2 xs' most w2 h2 hn2 (by omega)).mono ?_
          rintro e w3 ⟨⟨A3, c3, rfl, o3⟩, hb3⟩
          have h3 := h2.later hb3
          have ol3 := own_later ol2 hb3
          have hX3 := hX2.below hb3 hX2.lt
          have hB3 := b_then hbz2 hb3
          have hf1 : rowOf A3 ≠ some b := fun e => by have := (own_row o3 _ e).1; have := h2.lt; omega
          have hf2 : rowOf A3 = none ∨ rowOf A3 ≠ rowOf A2 := by
            by_cases hn : rowOf A3 = none
            · exact .inl hn
            · refine .inr fun e => ?_
              obtain ⟨g, hg⟩ := Option.ne_none_iff_exists'.1 hn
              have l1 := (own_row o3 g hg).1
              have l2 := (own_row h2.own g (e ▸ hg)).2
              omega
          have o3' := own_base o3 (show W.heap.size ≤ w2.heap.size from hbz2.size)
          have hc3 := (own_cap o3).2
          have hcl := (own_cap ol3).2
          have hm3 := hcl.2
          unfold maxLen at hm3
          have hm3' := hc3.2
          unfold maxLen at hm3'
          clear h2 ol2 hX2 hbz2 hb3 o3
          go_wp2_with fail
          refine (Hi.Len_any b b most m' n' cap2 A2 xs' _ h3).mono ?_
          rintro e w' ⟨rfl, rfl⟩
          go_wp2_with fail
          refine (Hi.Marked_any b b most m' n' cap2 A2 xs' _ h3).mono ?_
          rintro e w' ⟨rfl, rfl⟩
          go_wp2_with fail
          refine (Hi.Marked_any b b most m' n' cap2 A2 xs' _ h3).mono ?_
          rintro e w' ⟨rfl, rfl⟩
          have q1 : decide (n' < m') = false := by rw [decide_eq_false_iff_not]; omega
          have q2 : (m' : Int) ≤ (n' : Int) := by omega
          have q3 : decide (n' < m) = false := by rw [decide_eq_false_iff_not]; omega
          obtain ⟨sh, hsh⟩ : ∃ sh, sh = min n n' := ⟨_, rfl⟩
          have q4 : ∀ (ts : Array TypeId) (t : TypeId) (w : World), (Builtin.min_ ts t #[.int .i64 (n : Int), .int .i64 (n' : Int)]).run Try.prog w = .ok (.int .i64 (sh : Int)) w := by
            intro ts t w
            rw [run_min_int2, show (if (n' : Int) < (n : Int) then (n' : Int) else (n : Int)) = (sh : Int) from by split <;> omega]
          have q5 : (sh : Int) ≤ (c3 : Int) := by omega
          have q6 : (sh : Int) ≤ (cl : Int) := by omega
          have q7 : (m : Int) ≤ (c3 : Int) := by omega
          have q8 : (m' : Int) ≤ (c3 : Int) := by omega
          have t1 : sh ≤ n := by omega
          have t2 : sh ≤ n' := by omega
          rw [← hsh] at hs0
          have HSH := Lib.hid hsh
          clear hsh
          have cX := hX3.cell
          go_wp2_with fail
          have e1 : ∀ j, Calls Try.prog 15 #[.slice A3 m c3, .slice Al m cl] (w3.drewN j) fun e w' => e = .returned (.bool true) ∧ ∃ q, w' = (w3.drewN j).drewN q := by
            intro j
            have hl : (xs'.take m).length = m := by rw [List.length_take, h3.len]; omega
            refine eqi_any A3 Al m c3 cl (xs'.take m) _ hl ?_ ?_ (by unfold maxLen; omega)
            · rw [List.map_take]; exact ((RI.of_row o3').take_ m).drewN j
            · rw [hp0, List.map_take]; exact ((RI.of_row ol3).take_ m).drewN j
          have e2 : ∀ j, Calls Try.prog 15 #[.slice A3 sh c3, .slice Al sh cl] (w3.drewN j) fun e w' => e = .returned (.bool true) ∧ ∃ q, w' = (w3.drewN j).drewN q := by
            intro j
            have hl : (xs'.take sh).length = sh := by rw [List.length_take, h3.len]; omega
            refine eqi_any A3 Al sh c3 cl (xs'.take sh) _ hl ?_ ?_ (by unfold maxLen; omega)
            · rw [List.map_take]; exact ((RI.of_row o3').take_ sh).drewN j
            · rw [hs0, List.map_take]; exact ((RI.of_row ol3).take_ sh).drewN j
          clear hp0 hs0 ol3 cX
          go_quiet ((first | (with_reducible exact Calls.quiet_of (e1 _)) | (with_reducible exact Calls.quiet_of (e2 _))))
          clear e1 e2
          have h4 := h3.drewN nq
          have hB4 := below_drewN hB3 nq
          have o4 := own_later o3' (below_drewN (Below.refl _ w3) nq)
          generalize (World.drewN w3 nq) = w4 at h4 hB4 o4 ⊢
          clear h3 hB3 o3' hX3
          go_wp2_with fail
          refine (Hi.Marked_any b b most m' n' cap2 A2 xs' _ h4).mono ?_
          rintro e w' ⟨rfl, rfl⟩
          go_wp2_with fail
          go_roundw
          case rel => exact ⟨k + 1, m', n', cap2, A2, xs', A3, c3, by omega, by go_num, h4, hm2, hn2, hB4, rfl, rfl, o4, hf1, hf2⟩
          case measure => simp [intOf]; omega
    · obtain rfl : k = pp := by omega
      clear h ol hl1 hl2
      have hB0 := hB
      clear hB
      go_wp2_with fail
      refine (works_true _).mono ?_
      rintro e wz ⟨rfl, hbz⟩
      go_wp2_with fail
      go_ret
      exact ⟨rfl, b_then hB0 hbz⟩

set_option maxRecDepth 100000 in
theorem lifted (os : Os) (started : os.Started) (H : Type) (enc : TypeId × Value → H) :
    ReturnsInHanded {} Try.checked os 3 .any (Rows.historyPrefixSpec.pre6 enc Try.prog Try.f3 Rows.historyPrefixRow.domain false) (Rows.historyPrefixSpec.post enc Try.prog Try.f3 false true false false) := by
  refine returnsInHanded_of_change (C := Try.checked) own started (by kernel_rfl) Try.func3
    (ChangeSpec.witness6 (enc := enc) (C := Try.checked) false ⟨#[], #[.int .u8 0, .slice none 0 0], []⟩ 8 (by kernel_rfl) (by kernel_rfl) (by kernel_rfl) (by kernel_rfl)) ?_
  intro W base args ds gs before hval0 hW hcnd _
  have hval : ∀ (j : Nat) t v, Try.f3.params[j]? = some t → args[j]? = some v → Value.okWide Try.prog W .any base t v := hval0
  have hW' := hW
  obtain ⟨p, q, hA0, hV, rfl, hfz, hnd⟩ := hW
  have hA : DataW.TrodAll enc Try.prog W 0 (fun _ => true) true Try.f3.params.toList args.toList ds p := hA0
  rw [Try.params3] at hA hval
  obtain ⟨v0, vs0, d0, ds0, p0, q0, hargs, rfl, rfl, h0, r0⟩ := trodAll_cons hA
  obtain ⟨v1, vs1, d1, ds1, p1, q1, rfl, rfl, rfl, h1, r1⟩ := trodAll_cons r0
  obtain ⟨rfl, rfl, rfl⟩ := trodAll_nil r1
  obtain rfl : args = #[v0, v1] := by cases args; simp_all
  obtain ⟨rfl, rfl⟩ := trodVars_none hV
  refine (walk (H := H) (enc := enc) W base (hval 0 5 v0 rfl rfl) h0 (hval 1 22 v1 rfl rfl) h1).mono fun e W' ⟨he, bel⟩ => ?_
  subst he
  exact ⟨_, rfl, _, _, _, [], _, [], hW', trodAll_mk1 (shut_bool Try.underlying4 _), (trodAll_cons_mk (Below.trod laidOut (by kernel_rfl) (of_decide_eq_true (by kernel_rfl)) h0 bel (lt_of_Trod h0)) (trodAll_cons_mk (Below.trod laidOut (by kernel_rfl) (of_decide_eq_true (by kernel_rfl)) h1 bel (lt_of_Trod h1)) trodAll_mk0)), rfl, bel.frame _, fun h => by cases h⟩

/-- HistoryPrefix: for every limit and every list of moves the law returns true and changes nothing. No condition. -/
theorem proved : Rows.HistoryPrefixSaid :=
  OpenClaim.holds_of_wide 3 Try.f3 rfl rfl rfl rfl rfl rfl rfl ⟨rfl, rfl, rfl, rfl, rfl⟩ rfl rfl rfl rfl rfl (by kernel_rfl) Try.func3 (by kernel_rfl)
    (of_decide_eq_true (by kernel_rfl)) (by unfold Func.isWrapper; first | (rw [if_pos (by decide +kernel)]; kernel_rfl) | (rw [if_neg (by decide +kernel)]; exact ⟨rfl, rfl⟩))
    (fun os started H enc _ => lifted os started H enc)
#print axioms proved
end Go.Proofs.Ytohnoioblhkepaa.historyPrefix
