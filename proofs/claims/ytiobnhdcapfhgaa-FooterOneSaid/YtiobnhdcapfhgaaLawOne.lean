/-
  FooterOne: for every slice of 32-bit numbers and every byte the law returns true and changes nothing. No condition.
-/
import Derived.Test.YtiobnhdcapfhgaaOpen
import Derived.Test.YtiobnhdcapfhgaaArg
import Derived.Test.YtiobnhdcapfhgaaFwk
import Derived.Test.YtiobnhdcapfhgaaFdr
import Derived.Test.YtiobnhdcapfhgaaRcc
namespace Go.Proofs.Ytiobnhdcapfhgaa.footerOne
open Go.ChangeShapes Go.WideShapes Go.ChangeAt Go.RowKit
open Go.ChangeMaps (open_string shut_string)
set_option linter.unusedVariables false

theorem foldl_max (l : List Rc) : ∀ m k : Int, l.foldl (fun m r => max m r.seq) (max m k) = max m (l.foldl (fun m r => max m r.seq) k) := by
  induction l with
  | nil => intro m k; rfl
  | cons r l ih =>
    intro m k
    simp only [List.foldl_cons]
    rw [show max (max m k) r.seq = max m (max k r.seq) by omega, ih]
theorem lastF_nn (l : List Rc) : 0 ≤ lastF l := by
  have h := foldl_max l 0 0
  rw [show max (0 : Int) 0 = 0 by omega] at h
  unfold lastF
  omega
theorem lastF_app (a b : List Rc) : lastF (a ++ b) = max (lastF a) (lastF b) := by
  have h := foldl_max b (lastF a) 0
  have h0 := lastF_nn a
  rw [show max (lastF a) 0 = lastF a by omega] at h
  rw [← show b.foldl (fun m r => max m r.seq) 0 = lastF b from rfl, ← h]
  unfold lastF
  rw [List.foldl_append]
theorem lastF_turn (rs : List Rc) (k : Nat) : lastF (rs.drop k ++ rs.take k) = lastF rs := by
  rw [lastF_app, ← List.take_append_drop k rs, lastF_app, List.take_append_drop]
  omega
theorem allOk_turn {rs : List Rc} (k : Nat) (h : allOk rs = true) : allOk (rs.drop k ++ rs.take k) = true := by
  have h1 : allOk (rs.take k ++ rs.drop k) = true := by rwa [List.take_append_drop]
  rw [allOk_app] at h1 ⊢
  rwa [Bool.and_comm]
theorem allOk_take {rs : List Rc} (k : Nat) (h : allOk rs = true) : allOk (rs.take k) = true := by
  have h1 : allOk (rs.take k ++ rs.drop k) = true := by rwa [List.take_append_drop]
  rw [allOk_app, Bool.and_eq_true] at h1
  exact h1.1
theorem IsRs.take_ {w : World} {A : Option Addr} {rs : List Rc} (h : IsRs w A rs) (k : Nat) : IsRs w A (rs.take k) := by
  refine ⟨fun r hr => h.1 r (List.mem_of_mem_take hr), ?_⟩
  rcases h.2 with h2 | ⟨b, off, h1, h2, hc⟩
  · exact .inl (by rw [h2]; simp)
  · refine .inr ⟨b, off, h1, h2, fun i r hr j u hu => hc i r ?_ j u hu⟩
    rw [List.getElem?_take] at hr
    split at hr
    · exact hr
    · cases hr
theorem IsRs.drop_ {w : World} {A : Option Addr} {rs : List Rc} (h : IsRs w A rs) (k cap : Nat) (hk : k ≤ rs.length) (hc : rs.length ≤ cap) : IsRs w (if cap = k then A else A.map (·.add (k * 4))) (rs.drop k) := by
  refine ⟨fun r hr => h.1 r (List.mem_of_mem_drop hr), ?_⟩
  by_cases hd : rs.drop k = []
  · exact .inl hd
  · have hl : k < rs.length := by
      rcases Nat.lt_or_ge k rs.length with h' | h'
      · exact h'
      · exact absurd (List.drop_eq_nil_of_le h') hd
    rcases h.2 with h2 | ⟨b, off, rfl, h2, hcell⟩
    · subst h2
      simp at hl
    · rw [if_neg (by omega)]
      refine .inr ⟨b, off + k * 4, ?_, h2, fun i r hr j u hu => ?_⟩
      · simp only [Option.map_some, Addr.add_lit]
      · rw [List.getElem?_drop] at hr
        have := hcell _ r hr j u hu
        rwa [show off + ((k + i) * 4 + j) = off + k * 4 + (i * 4 + j) by omega] at this
set_option maxRecDepth 100000 in
theorem slice_fromR {A : Option Addr} {len cap k : Nat} (h1 : k ≤ len) (w : World) : (Instr.sliceAt 49 (.slice A len cap) (some (.int .i64 (k : Nat))) none none).run Try.prog w = .ok (.slice (if cap = k then A else A.map (·.add (k * 4))) (len - k) (cap - k)) w := by
  have h := run_slice_l (P := Try.prog) (w := w) 49 A len cap Try.underlying49 .i64 (k : Nat) (by omega) (by omega)
  rw [run_sliceAt_slice (h := Try.underlying49), h]
  simp [go_sem, sliced]
set_option maxRecDepth 100000 in
theorem slice_toR {A : Option Addr} {len cap k : Nat} (h1 : k ≤ cap) (w : World) : (Instr.sliceAt 49 (.slice A len cap) none (some (.int .i64 (k : Nat))) none).run Try.prog w = .ok (.slice A k cap) w := by
  have h := run_slice_h (P := Try.prog) (w := w) 49 A len cap Try.underlying49 .i64 (k : Nat) (by omega) (by omega)
  rw [run_sliceAt_slice (h := Try.underlying49), h]
  simp [go_sem, sliced]
theorem blk_new1 (w : World) (o : Obj) (t : TypeId) (cs : Array Value) : Blk ((w.alloc o).alloc (.cells cs t)) (w.heap.size + 1) t cs := by
  have h := Blk.new (w.alloc o) t cs
  rwa [World.size_alloc] at h

set_option maxHeartbeats 6400000 in
set_option maxRecDepth 100000 in
theorem walk {H : Type} {enc : TypeId × Value → H} (W : World) (base : Nat) {v0 v1 : Value} {d0 d1 : DataW H} {p0 p1 : List MemPlace} (o0 : Value.okWide Try.prog W .any base 61 v0) (h0 : DataW.Trod enc Try.prog W 0 (fun _ => true) true 61 v0 d0 p0) (o1 : Value.okWide Try.prog W .any base 5 v1) (h1 : DataW.Trod enc Try.prog W 0 (fun _ => true) true 5 v1 d1 p1) :
    Calls Try.prog 10 #[v0, v1] W fun e W' => e = .returned (.bool true) ∧ Below W.heap.size W W' := by
  obtain ⟨A0, len, cap, L, rfl, hU⟩ := open_u32s o0 h0
  obtain ⟨ct, rfl, rfl, rfl, wc⟩ := open_int Try.underlying5 o1 h1
  obtain ⟨ct0, ct1⟩ := bounds_u8 wc
  clear wc h0 o0 h1 o1
  obtain ⟨n, hn⟩ : ∃ n, n = min len 60 := ⟨_, rfl⟩
  have n60 : n ≤ 60 := by omega
  have hrec := records_any A0 len cap L n W hU hn
  have hok := recsU_ok (L := L) (n := n) (fun i hi => hU.2.2.1 i (by omega))
  have hsz := recsU_sz L n
  have hlen := recsU_length L n
  obtain ⟨rs, hrs⟩ : ∃ rs, rs = recsU L n := ⟨_, rfl⟩
  rw [← hrs] at hrec hok hsz hlen
  clear hn hU hrs
  obtain ⟨k, hk⟩ : ∃ k : Nat, (k : Int) = ct % ((n : Int) + 1) := ⟨(ct % ((n : Int) + 1)).toNat, Int.toNat_of_nonneg (Int.emod_nonneg _ (by omega))⟩
  have hk2 : (k : Int) < (n : Int) + 1 := by rw [hk]; exact Int.emod_lt_of_pos _ (by omega)
  have kn : k ≤ n := by omega
  have u0 : IntKind.i64.wrap ct = ct := wrap_i64 (by omega) (by omega)
  have u1 : IntKind.i64.wrap ((n : Int) + 1) = (n : Int) + 1 := wrap_i64 (by omega) (by omega)
  have u2 : ct.tmod ((n : Int) + 1) = (k : Int) := by rw [hk]; exact Int.tmod_eq_emod_of_nonneg ct0
  have u3 : ¬ (n : Int) + 1 = 0 := by omega
  clear hk hk2
  have hof := (ofF_ok hok (by omega)).2
  rw [hlen] at hof
  have hof2 := (ofF_ok (allOk_turn k hok) (by rw [List.length_append, List.length_drop, List.length_take]; omega)).2
  rw [List.length_append, List.length_drop, List.length_take, show rs.length - k + min k rs.length = n by omega, lastF_turn] at hof2
  obtain ⟨l, hl⟩ : ∃ l, l = lastF rs := ⟨_, rfl⟩
  rw [← hl] at hof hof2
  have HL := Lib.hid hl
  have HOK := Lib.hid hok
  have HLEN := Lib.hid hlen
  clear hl hok hlen
  go_enter Try.func10, Try.ntmps10
  go_wp2_with fail
  refine hrec.mono ?_
  rintro e w1 ⟨⟨v, rfl, oo⟩, hb1⟩
  obtain ⟨A, cp, rfl, hI, hlc, hcm⟩ := IsRs.of_own (rs := rs) (by rw [HLEN.out]; exact oo) hsz
  rw [HLEN.out] at hlc ⊢
  clear hrec oo hsz
  have hO := fof_any A cp rs w1 hI (by rw [HLEN.out]; exact hlc) hcm
  rw [hof, HLEN.out] at hO
  clear hof
  go_wp2_with fail
  refine hO.mono ?_
  rintro e w2 ⟨rfl, hb2⟩
  have hI3 := hI.later (b_then hb2 (b_alloc (Below.refl _ _) (.cells #[.int .i64 n, .int .i64 l] 23)))
  have hB3 := b_alloc (b_then hb1 hb2) (.cells #[.int .i64 n, .int .i64 l] 23)
  have hF3 := Blk.new w2 23 #[.int .i64 n, .int .i64 l]
  have cF3 := hF3.cell
  obtain ⟨f6, hf6⟩ : ∃ f, f = w2.heap.size := ⟨_, rfl⟩
  have hcm' : (cp : Int) ≤ 9223372036854775807 := by unfold maxLen at hcm; omega
  clear hO hb1 hb2 hI
  go_upto_region 6 with fail
  rw [← hf6] at hF3 cF3 ⊢
  generalize w2.alloc (.cells #[.int .i64 n, .int .i64 l] 23) = wq at hI3 hB3 hF3 cF3 ⊢
  clear hf6 cF3 u0 u1 u2 u3
  obtain ⟨A', hA'⟩ : ∃ A', A' = (if cp = k then A else A.map (·.add (k * 4))) := ⟨_, rfl⟩
  have hs1 := fun w => slice_fromR (A := A) (len := n) (cap := cp) kn w
  have hs2 := fun w => slice_toR (A := A) (len := n) (cap := cp) (k := k) (by omega) w
  have hD4 := IsRs.drop_ hI3 k cp (by rw [HLEN.out]; exact kn) (by rw [HLEN.out]; exact hlc)
  rw [← hA'] at hs1 hD4
  have hT4 := IsRs.take_ hI3 k
  have oC : ∀ (w : World) (G : Nat), Blk w G 49 #[.slice A' (n - k) (cp - k), .slice A k cp] → Below wq.heap.size wq w → Calls Try.prog 33 #[.slice (some ⟨G, 0, none⟩) 2 2] w fun e w' => (∃ (A2 : Option Addr) (c2 : Nat), e = .returned (.slice A2 n c2) ∧ IsRs w' A2 (rs.drop k ++ rs.take k) ∧ n ≤ c2 ∧ c2 ≤ maxLen) ∧ Below w.heap.size w w' := by
    intro w G hG hb
    have hl1 : (rs.drop k).length = n - k := by rw [List.length_drop, HLEN.out]
    have hl2 : (rs.take k).length = k := by rw [List.length_take, HLEN.out]; omega
    refine (rconcat_two G A' A (n - k) (cp - k) k cp (rs.drop k) (rs.take k) w hG (hD4.later hb) (hT4.later hb) hl1 hl2 (by omega) (by omega)).mono ?_
    rintro e w' ⟨⟨v, rfl, o⟩, hb'⟩
    have hl3 : (rs.drop k ++ rs.take k).length = n - k + k := by rw [List.length_append, hl1, hl2]
    obtain ⟨A2, c2, rfl, h1, h2, h3⟩ := IsRs.of_own (rs := rs.drop k ++ rs.take k) (by rw [hl3]; exact o) (fun r hr => by
      rcases List.mem_append.1 hr with hr | hr
      · exact hD4.1 r hr
      · exact hT4.1 r hr)
    rw [hl3, show n - k + k = n by omega] at h2 ⊢
    exact ⟨⟨A2, c2, rfl, h1, h2, h3⟩, hb'⟩
  have oO : ∀ (A2 : Option Addr) (c2 : Nat) (w : World), IsRs w A2 (rs.drop k ++ rs.take k) → n ≤ c2 → c2 ≤ maxLen → Calls Try.prog 23 #[.slice A2 n c2] w fun e w' => e = .returned (.tuple #[.agg #[.int .i64 n, .int .i64 l], .int .i64 0]) ∧ Below w.heap.size w w' := by
    intro A2 c2 w h h1 h2
    have hl3 : (rs.drop k ++ rs.take k).length = n := by rw [List.length_append, List.length_drop, List.length_take, HLEN.out]; omega
    have h := fof_any A2 c2 (rs.drop k ++ rs.take k) w h (by rw [hl3]; exact h1) h2
    rw [hof2, hl3] at h
    exact h
  clear hA' hD4 hT4 hof2 hlc hcm hcm'
  have HI := Lib.hid hI3
  have HB := Lib.hid hB3
  have HF := Lib.hid hF3
  clear hI3 hB3 hF3
  go_cut [9, 10] (fun s9 s10 wx => ∃ g : Nat, s9 = .pointer (some ⟨g, 0, none⟩) ∧ s10 = .int .i64 0 ∧ Below wq.heap.size wq wx ∧ Blk wx g 23 #[.int .i64 n, .int .i64 l])
  case first =>
    have qa0 : Blk (wq.drew.alloc (.cells #[.slice A' (n - k) (cp - k), .slice A k cp] 49)) wq.heap.size 49 #[.slice A' (n - k) (cp - k), .slice A k cp] := Blk.new wq 49 #[.slice A' (n - k) (cp - k), .slice A k cp]
    have ha0 : Below wq.heap.size wq (wq.drew.alloc (.cells #[.slice A' (n - k) (cp - k), .slice A k cp] 49)) := (by repeat first | exact Below.refl _ _ | apply Below.drew | apply b_alloc)
    have qa1 : Blk ((wq.alloc (.cells #[.slice A' (n - k) (cp - k), .slice A k cp] 49)).drew) wq.heap.size 49 #[.slice A' (n - k) (cp - k), .slice A k cp] := Blk.new wq 49 #[.slice A' (n - k) (cp - k), .slice A k cp]
    have ha1 : Below wq.heap.size wq ((wq.alloc (.cells #[.slice A' (n - k) (cp - k), .slice A k cp] 49)).drew) := (by repeat first | exact Below.refl _ _ | apply Below.drew | apply b_alloc)
    have qb0 : Blk ((wq.drew.alloc (.cells #[.int .i64 0, .int .i64 0] 23)).alloc (.cells #[.slice A' (n - k) (cp - k), .slice A k cp] 49)) (wq.heap.size + 1) 49 #[.slice A' (n - k) (cp - k), .slice A k cp] := blk_new1 wq (.cells #[.int .i64 0, .int .i64 0] 23) 49 #[.slice A' (n - k) (cp - k), .slice A k cp]
    have hb0 : Below wq.heap.size wq ((wq.drew.alloc (.cells #[.int .i64 0, .int .i64 0] 23)).alloc (.cells #[.slice A' (n - k) (cp - k), .slice A k cp] 49)) := (by repeat first | exact Below.refl _ _ | apply Below.drew | apply b_alloc)
    have zb0 : Blk ((wq.drew.alloc (.cells #[.int .i64 0, .int .i64 0] 23)).alloc (.cells #[.slice A' (n - k) (cp - k), .slice A k cp] 49)) wq.heap.size 23 #[.int .i64 0, .int .i64 0] := (Blk.new wq 23 #[.int .i64 0, .int .i64 0]).alloc (.cells #[.slice A' (n - k) (cp - k), .slice A k cp] 49)
    have qb1 : Blk (((wq.alloc (.cells #[.int .i64 0, .int .i64 0] 23)).alloc (.cells #[.slice A' (n - k) (cp - k), .slice A k cp] 49)).drew) (wq.heap.size + 1) 49 #[.slice A' (n - k) (cp - k), .slice A k cp] := blk_new1 wq (.cells #[.int .i64 0, .int .i64 0] 23) 49 #[.slice A' (n - k) (cp - k), .slice A k cp]
    have hb1 : Below wq.heap.size wq (((wq.alloc (.cells #[.int .i64 0, .int .i64 0] 23)).alloc (.cells #[.slice A' (n - k) (cp - k), .slice A k cp] 49)).drew) := (by repeat first | exact Below.refl _ _ | apply Below.drew | apply b_alloc)
    have zb1 : Blk (((wq.alloc (.cells #[.int .i64 0, .int .i64 0] 23)).alloc (.cells #[.slice A' (n - k) (cp - k), .slice A k cp] 49)).drew) wq.heap.size 23 #[.int .i64 0, .int .i64 0] := (Blk.new wq 23 #[.int .i64 0, .int .i64 0]).alloc (.cells #[.slice A' (n - k) (cp - k), .slice A k cp] 49)
    have qb2 : Blk ((wq.alloc (.cells #[.int .i64 0, .int .i64 0] 23)).drew.alloc (.cells #[.slice A' (n - k) (cp - k), .slice A k cp] 49)) (wq.heap.size + 1) 49 #[.slice A' (n - k) (cp - k), .slice A k cp] := blk_new1 wq (.cells #[.int .i64 0, .int .i64 0] 23) 49 #[.slice A' (n - k) (cp - k), .slice A k cp]
    have hb2 : Below wq.heap.size wq ((wq.alloc (.cells #[.int .i64 0, .int .i64 0] 23)).drew.alloc (.cells #[.slice A' (n - k) (cp - k), .slice A k cp] 49)) := (by repeat first | exact Below.refl _ _ | apply Below.drew | apply b_alloc)
    have zb2 : Blk ((wq.alloc (.cells #[.int .i64 0, .int .i64 0] 23)).drew.alloc (.cells #[.slice A' (n - k) (cp - k), .slice A k cp] 49)) wq.heap.size 23 #[.int .i64 0, .int .i64 0] := (Blk.new wq 23 #[.int .i64 0, .int .i64 0]).alloc (.cells #[.slice A' (n - k) (cp - k), .slice A k cp] 49)
    have qc0 : Blk ((wq.drew.alloc (.cells #[.slice A' (n - k) (cp - k), .slice A k cp] 49)).alloc (.cells #[.int .i64 0, .int .i64 0] 23)) wq.heap.size 49 #[.slice A' (n - k) (cp - k), .slice A k cp] := (Blk.new wq 49 #[.slice A' (n - k) (cp - k), .slice A k cp]).alloc (.cells #[.int .i64 0, .int .i64 0] 23)
    have hc0 : Below wq.heap.size wq ((wq.drew.alloc (.cells #[.slice A' (n - k) (cp - k), .slice A k cp] 49)).alloc (.cells #[.int .i64 0, .int .i64 0] 23)) := (by repeat first | exact Below.refl _ _ | apply Below.drew | apply b_alloc)
    have zc0 : Blk ((wq.drew.alloc (.cells #[.slice A' (n - k) (cp - k), .slice A k cp] 49)).alloc (.cells #[.int .i64 0, .int .i64 0] 23)) (wq.heap.size + 1) 23 #[.int .i64 0, .int .i64 0] := blk_new1 wq (.cells #[.slice A' (n - k) (cp - k), .slice A k cp] 49) 23 #[.int .i64 0, .int .i64 0]
    have qc1 : Blk (((wq.alloc (.cells #[.slice A' (n - k) (cp - k), .slice A k cp] 49)).alloc (.cells #[.int .i64 0, .int .i64 0] 23)).drew) wq.heap.size 49 #[.slice A' (n - k) (cp - k), .slice A k cp] := (Blk.new wq 49 #[.slice A' (n - k) (cp - k), .slice A k cp]).alloc (.cells #[.int .i64 0, .int .i64 0] 23)
    have hc1 : Below wq.heap.size wq (((wq.alloc (.cells #[.slice A' (n - k) (cp - k), .slice A k cp] 49)).alloc (.cells #[.int .i64 0, .int .i64 0] 23)).drew) := (by repeat first | exact Below.refl _ _ | apply Below.drew | apply b_alloc)
    have zc1 : Blk (((wq.alloc (.cells #[.slice A' (n - k) (cp - k), .slice A k cp] 49)).alloc (.cells #[.int .i64 0, .int .i64 0] 23)).drew) (wq.heap.size + 1) 23 #[.int .i64 0, .int .i64 0] := blk_new1 wq (.cells #[.slice A' (n - k) (cp - k), .slice A k cp] 49) 23 #[.int .i64 0, .int .i64 0]
    have qc2 : Blk ((wq.alloc (.cells #[.slice A' (n - k) (cp - k), .slice A k cp] 49)).drew.alloc (.cells #[.int .i64 0, .int .i64 0] 23)) wq.heap.size 49 #[.slice A' (n - k) (cp - k), .slice A k cp] := (Blk.new wq 49 #[.slice A' (n - k) (cp - k), .slice A k cp]).alloc (.cells #[.int .i64 0, .int .i64 0] 23)
    have hc2 : Below wq.heap.size wq ((wq.alloc (.cells #[.slice A' (n - k) (cp - k), .slice A k cp] 49)).drew.alloc (.cells #[.int .i64 0, .int .i64 0] 23)) := (by repeat first | exact Below.refl _ _ | apply Below.drew | apply b_alloc)
    have zc2 : Blk ((wq.alloc (.cells #[.slice A' (n - k) (cp - k), .slice A k cp] 49)).drew.alloc (.cells #[.int .i64 0, .int .i64 0] 23)) (wq.heap.size + 1) 23 #[.int .i64 0, .int .i64 0] := blk_new1 wq (.cells #[.slice A' (n - k) (cp - k), .slice A k cp] 49) 23 #[.int .i64 0, .int .i64 0]
    have ne2 : wq.heap.size ≤ wq.heap.size := Nat.le_refl _
    have ne3 : wq.heap.size ≤ wq.heap.size + 1 := Nat.le_succ _
    go_region_with (first
      | (go_at_call 33; (first
          | ((with_reducible refine (oC _ _ qa0 ha0).mono ?_); rintro e w7 ⟨⟨A2, c2, rfl, hI7, hl7, hm7⟩, hbk⟩; have hSk := b_then ha0 hbk)
          | ((with_reducible refine (oC _ _ qa1 ha1).mono ?_); rintro e w7 ⟨⟨A2, c2, rfl, hI7, hl7, hm7⟩, hbk⟩; have hSk := b_then ha1 hbk)
          | ((with_reducible refine (oC _ _ qb0 hb0).mono ?_); rintro e w7 ⟨⟨A2, c2, rfl, hI7, hl7, hm7⟩, hbk⟩; have hSk := b_then hb0 hbk; have hNb := zb0.below hbk zb0.lt; have neN := ne2)
          | ((with_reducible refine (oC _ _ qb1 hb1).mono ?_); rintro e w7 ⟨⟨A2, c2, rfl, hI7, hl7, hm7⟩, hbk⟩; have hSk := b_then hb1 hbk; have hNb := zb1.below hbk zb1.lt; have neN := ne2)
          | ((with_reducible refine (oC _ _ qb2 hb2).mono ?_); rintro e w7 ⟨⟨A2, c2, rfl, hI7, hl7, hm7⟩, hbk⟩; have hSk := b_then hb2 hbk; have hNb := zb2.below hbk zb2.lt; have neN := ne2)
          | ((with_reducible refine (oC _ _ qc0 hc0).mono ?_); rintro e w7 ⟨⟨A2, c2, rfl, hI7, hl7, hm7⟩, hbk⟩; have hSk := b_then hc0 hbk; have hNb := zc0.below hbk zc0.lt; have neN := ne3)
          | ((with_reducible refine (oC _ _ qc1 hc1).mono ?_); rintro e w7 ⟨⟨A2, c2, rfl, hI7, hl7, hm7⟩, hbk⟩; have hSk := b_then hc1 hbk; have hNb := zc1.below hbk zc1.lt; have neN := ne3)
          | ((with_reducible refine (oC _ _ qc2 hc2).mono ?_); rintro e w7 ⟨⟨A2, c2, rfl, hI7, hl7, hm7⟩, hbk⟩; have hSk := b_then hc2 hbk; have hNb := zc2.below hbk zc2.lt; have neN := ne3)); have ne7 := hSk.size; have hZk := Blk.new w7 23 #[.int .i64 0, .int .i64 0]; have hAk := b_alloc hSk (.cells #[.int .i64 0, .int .i64 0] 23); have hI7a := hI7.later (b_alloc (Below.refl _ _) (.cells #[.int .i64 0, .int .i64 0] 23)); have hAd := Below.drew hAk; have hI7d : IsRs (w7.alloc (.cells #[.int .i64 0, .int .i64 0] 23)).drew _ _ := hI7a; have hZd : Blk (w7.alloc (.cells #[.int .i64 0, .int .i64 0] 23)).drew _ _ _ := hZk)
      | (go_at_call 23; (first
          | ((with_reducible refine (oO _ _ _ hI7 hl7 hm7).mono ?_); rintro e w8 ⟨rfl, hbk2⟩; have hSm := b_then hSk hbk2; (try (have hNb := hNb.below hbk2 hNb.lt)))
          | ((with_reducible refine (oO _ _ _ hI7a hl7 hm7).mono ?_); rintro e w8 ⟨rfl, hbk2⟩; have hSm := b_then hAk hbk2; have hNb := hZk.below hbk2 hZk.lt; have neN := ne7)
          | ((with_reducible refine (oO _ _ _ hI7d hl7 hm7).mono ?_); rintro e w8 ⟨rfl, hbk2⟩; have hSm := b_then hAd hbk2; have hNb := hZd.below hbk2 hZd.lt; have neN := ne7)); (try (have cNb := hNb.cell; have fNb := hNb.frozen))))
    all_goals (go_wp2_with fail; go_meet; (first | exact ⟨_, rfl, rfl, (hSm.setCell (by exact neN) _).setCell (by exact neN) _, hNb.set2 _ _⟩ | exact ⟨_, rfl, rfl, b_alloc hSm _, Blk.new _ _ _⟩))
  case rest =>
    obtain ⟨g9, rfl, rfl, hBc, hG9⟩ := hcut
    clear oC oO hs1 hs2
    have hI := HI.out.later hBc
    have hB := b_then HB.out hBc
    have hF := HF.out.below hBc HF.out.lt
    clear hBc HI HB HF
    go_wp2_with fail
    go_loopw [12, 53] (fun lv i wr => ∃ (q : Nat) (lq : Int), q ≤ n ∧ i = .int .i64 q ∧ lv = .int .i64 lq ∧ lq = lastF (rs.take q) ∧ Below wc.heap.size wc wr ∧ Blk wr wc.heap.size 23 #[.int .i64 q, .int .i64 lq]) (fun _ i _ => n - (intOf i).toNat)
    case atStart => exact ⟨0, 0, Nat.zero_le _, rfl, rfl, by simp [lastF], b_alloc (Below.refl _ _) _, Blk.new _ _ _⟩
    case round =>
      obtain ⟨q, lq, hq, rfl, rfl, hlq, hBr, hFr⟩ := hrel
      by_cases hlt : q < n
      · obtain ⟨r, hr⟩ : ∃ r, rs[q]? = some r := ⟨_, List.getElem?_eq_getElem (by rw [HLEN.out]; exact hlt)⟩
        obtain ⟨b, off, rfl, hbl, k0, k1, k2, k3⟩ := (hI.later hBr).at_ hr
        have hsz := hI.1 r (List.mem_of_getElem? hr)
        have hrok := allOk_mem HOK.out r (List.mem_of_getElem? hr)
        have hts := take_snoc hr
        have hfo := (ofF_ok (allOk_take q HOK.out) (by rw [List.length_take]; omega)).1
        rw [List.length_take, HLEN.out, show min q n = q by omega, ← hlq] at hfo
        have hfo1 := (ofF_ok (allOk_take (q + 1) HOK.out) (by rw [List.length_take]; omega)).1
        have hl1 : lastF (rs.take (q + 1)) = max lq r.seq := by rw [hts, lastF_snoc, hlq]
        rw [List.length_take, HLEN.out, show min (q + 1) n = q + 1 by omega, hl1] at hfo1
        obtain ⟨l1, hl1e⟩ : ∃ l1, l1 = max lq r.seq := ⟨_, rfl⟩
        rw [← hl1e] at hfo1 hl1
        have oA : ∀ w : World, Calls Try.prog 21 #[.agg #[.int .i64 q, .int .i64 lq], r.v] w fun e w' => e = .returned (.tuple #[.agg #[.int .i64 ((q : Int) + 1), .int .i64 l1], .int .i64 0]) ∧ Below w.heap.size w w' := by
          intro w
          have h := fad_any q lq r hsz.1 hsz.2 w
          rw [show addF q lq r = ((q : Int) + 1, l1, 0) from by unfold addF; rw [if_neg (by rintro (h | h); exact h hfo; exact h hrok), if_neg (by omega), hl1e]] at h
          exact h
        have oK : ∀ w : World, Calls Try.prog 13 #[.agg #[.int .i64 ((q : Int) + 1), .int .i64 l1]] w fun e w' => e = .returned (.int .i64 0) ∧ Below w.heap.size w w' := fun w => fchk_yes (by rwa [show ((q + 1 : Nat) : Int) = (q : Int) + 1 by omega] at hfo1) w
        have HL1 := Lib.hid hl1
        clear hsz hrok hts hfo hfo1 hl1 hlq hr
        obtain ⟨kind, sq, key, val⟩ := r
        replace hl1e : l1 = max lq sq := hl1e
        have hmx : ∀ (ts : Array TypeId) (t : TypeId) (w : World), (Builtin.max_ ts t #[.int .i64 lq, .int .i64 sq]).run Try.prog w = .ok (.int .i64 l1) w := by
          intro ts t w
          rw [run_max_int2, show (if sq > lq then sq else lq) = l1 from by rw [hl1e]; split <;> omega]
        replace oA : ∀ w : World, Calls Try.prog 21 #[.agg #[.int .i64 q, .int .i64 lq], .agg #[.int .i64 kind, .int .i64 sq, .string key, .string val]] w fun e w' => e = .returned (.tuple #[.agg #[.int .i64 ((q : Int) + 1), .int .i64 l1], .int .i64 0]) ∧ Below w.heap.size w w' := oA
        have k0 : wr.cell? ⟨b, off + q * 4, none⟩ = some (.int .i64 kind) := k0
        have k1 : wr.cell? ⟨b, off + q * 4 + 1, none⟩ = some (.int .i64 sq) := k1
        have k2 : wr.cell? ⟨b, off + q * 4 + 2, none⟩ = some (.string key) := k2
        have k3 : wr.cell? ⟨b, off + q * 4 + 3, none⟩ = some (.string val) := k3
        clear hl1e
        have z1 : (q : Int) < (n : Int) := by omega
        have z2 : (0 : Int) ≤ (q : Int) := by omega
        have z3 : (n : Int) ≤ 60 := by omega
        obtain ⟨gF, hgF⟩ : ∃ gF, gF = wc.heap.size := ⟨_, rfl⟩
        rw [← hgF] at hFr ⊢
        have HBr := Lib.hid hBr
        have HI2 := Lib.hid hI
        have HG := Lib.hid hgF
        clear hBr hI hgF
        have cF := hFr.cell
        have lF := hFr.lt
        have hX := Blk.new wr 46 #[.int .i64 kind, .int .i64 sq, .string key, .string val]
        have cX := hX.cell
        go_wp2_with fail
        refine (oA _).mono ?_
        rintro e w7 ⟨rfl, hb7⟩
        have hX7 := hX.below hb7 hX.lt
        have hF7 := (hFr.alloc (.cells #[.int .i64 kind, .int .i64 sq, .string key, .string val] 46)).below hb7 (hFr.alloc (.cells #[.int .i64 kind, .int .i64 sq, .string key, .string val] 46)).lt
        have hB7 := b_then (b_alloc HBr.out (.cells #[.int .i64 kind, .int .i64 sq, .string key, .string val] 46)) hb7
        clear oA hb7 hX cX cF lF hFr k0 k1 k2 k3 hbl
        have hV := Blk.new w7 23 #[.int .i64 ((q : Int) + 1), .int .i64 l1]
        have cV := hV.cell
        have lX := hX7.lt
        have cX := hX7.cell
        go_wp2_with fail
        refine (oK _).mono ?_
        rintro e w8 ⟨rfl, hb8⟩
        have hV8 := hV.below hb8 hV.lt
        have hF8 := (hF7.alloc (.cells #[.int .i64 ((q : Int) + 1), .int .i64 l1] 23)).below hb8 (hF7.alloc (.cells #[.int .i64 ((q : Int) + 1), .int .i64 l1] 23)).lt
        have hB8 := b_then (b_alloc hB7 (.cells #[.int .i64 ((q : Int) + 1), .int .i64 l1] 23)) hb8
        clear oK hb8 hV cV lX cX hX7 hF7 hB7 hmx
        have cV := hV8.cell
        have cF := hF8.cell
        have fF := hF8.frozen
        go_wp2_with fail
        have hR1 : Below wc.heap.size wc (w8.setCell ⟨gF, 0, none⟩ (.int .i64 ((q : Int) + 1))) := hB8.setCell (by exact Nat.le_of_eq HG.out.symm) _
        have hR2 : Below wc.heap.size wc ((w8.setCell ⟨gF, 0, none⟩ (.int .i64 ((q : Int) + 1))).setCell ⟨gF, 1, none⟩ (.int .i64 l1)) := hR1.setCell (by exact Nat.le_of_eq HG.out.symm) _
        rw [← HG.out] at hR2
        have hR3 := hF8.set2 (.int .i64 ((q : Int) + 1)) (.int .i64 l1)
        go_roundw
        case rel => exact ⟨q + 1, l1, by omega, by go_num, rfl, HL1.out.symm, hR2, hR3⟩
        case measure => simp [intOf]; omega
      · obtain rfl : n = q := by omega
        have hll : lq = l := by rw [hlq, HL.out, List.take_of_length_le (by rw [HLEN.out]; exact Nat.le_refl _)]
        subst hll
        have hG := hG9.below hBr hG9.lt
        have hF6 := hF.below hBr hF.lt
        have cA := hFr.cell
        have cG := hG.cell
        have cF := hF6.cell
        have hB9 := b_then hB hBr
        clear hI hB hlq hBr hF hG9
        go_wp2_with fail
        refine (works_true _).mono ?_
        rintro e w9 ⟨rfl, hb9⟩
        go_wp2_with fail
        go_ret
        exact ⟨rfl, b_then hB9 hb9⟩

set_option maxRecDepth 100000 in
theorem lifted (os : Os) (started : os.Started) (H : Type) (enc : TypeId × Value → H) :
    ReturnsInHanded {} Try.checked os 10 .any (Rows.footerOneSpec.pre6 enc Try.prog Try.f10 Rows.footerOneRow.domain false) (Rows.footerOneSpec.post enc Try.prog Try.f10 false true false false) := by
  refine returnsInHanded_of_change (C := Try.checked) own started (by kernel_rfl) Try.func10
    (ChangeSpec.witness6 (enc := enc) (C := Try.checked) false ⟨#[], #[.slice none 0 0, .int .u8 0], []⟩ 8 (by kernel_rfl) (by kernel_rfl) (by kernel_rfl) (by kernel_rfl)) ?_
  intro W base args ds gs before hval0 hW hcnd _
  have hval : ∀ (j : Nat) t v, Try.f10.params[j]? = some t → args[j]? = some v → Value.okWide Try.prog W .any base t v := hval0
  have hW' := hW
  obtain ⟨p, q, hA0, hV, rfl, hfz, hnd⟩ := hW
  have hA : DataW.TrodAll enc Try.prog W 0 (fun _ => true) true Try.f10.params.toList args.toList ds p := hA0
  rw [Try.params10] at hA hval
  obtain ⟨v0, vs0, d0, ds0, p0, q0, hargs, rfl, rfl, h0, r0⟩ := trodAll_cons hA
  obtain ⟨v1, vs1, d1, ds1, p1, q1, rfl, rfl, rfl, h1, r1⟩ := trodAll_cons r0
  obtain ⟨rfl, rfl, rfl⟩ := trodAll_nil r1
  obtain rfl : args = #[v0, v1] := by cases args; simp_all
  obtain ⟨rfl, rfl⟩ := trodVars_none hV
  refine (walk (H := H) (enc := enc) W base (hval 0 61 v0 rfl rfl) h0 (hval 1 5 v1 rfl rfl) h1).mono fun e W' ⟨he, bel⟩ => ?_
  subst he
  exact ⟨_, rfl, _, _, _, [], _, [], hW', trodAll_mk1 (shut_bool Try.underlying4 _), (trodAll_cons_mk (Below.trod laidOut (by kernel_rfl) (of_decide_eq_true (by kernel_rfl)) h0 bel (lt_of_Trod h0)) (trodAll_cons_mk (Below.trod laidOut (by kernel_rfl) (of_decide_eq_true (by kernel_rfl)) h1 bel (lt_of_Trod h1)) trodAll_mk0)), rfl, bel.frame _, fun h => by cases h⟩

/-- FooterOne: for every slice of 32-bit numbers and every byte the law returns true and changes nothing. No condition. -/
theorem proved : Rows.FooterOneSaid :=
  OpenClaim.holds_of_wide 10 Try.f10 rfl rfl rfl rfl rfl rfl rfl ⟨rfl, rfl, rfl, rfl, rfl⟩ rfl rfl rfl rfl rfl (by kernel_rfl) Try.func10 (by kernel_rfl)
    (of_decide_eq_true (by kernel_rfl)) (by unfold Func.isWrapper; first | (rw [if_pos (by decide +kernel)]; kernel_rfl) | (rw [if_neg (by decide +kernel)]; exact ⟨rfl, rfl⟩))
    (fun os started H enc _ => lifted os started H enc)
#print axioms proved
end Go.Proofs.Ytiobnhdcapfhgaa.footerOne
