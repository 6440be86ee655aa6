/-
  FooterOne's records: records with given sequence numbers.
-/
import Derived.Test.YtiobnhdcapfhgaaRsq
import Derived.ChangeSlices
namespace Go.Proofs.Ytiobnhdcapfhgaa
open Go.ChangeShapes Go.WideShapes Go.ChangeAt Go.RowKit Go.Joins Go.Deep
set_option linter.unusedVariables false
def recAt (i : Nat) (x : Int) : Rc := if i % 3 = 2 then ⟨2, 1 + x * 255, ⟨#[111, 116, 104, 101, 114]⟩, ⟨#[]⟩⟩ else rc (1 + x * 255)
def recsU (L : Nat → Int) (n : Nat) : List Rc := (List.range n).map fun i => recAt i (L i)
theorem recsU_succ (L : Nat → Int) (q : Nat) : recsU L (q + 1) = recsU L q ++ [recAt q (L q)] := by simp [recsU, List.range_succ]
theorem recsU_length (L : Nat → Int) (n : Nat) : (recsU L n).length = n := by simp [recsU]
theorem recAt_ok (i : Nat) {x : Int} (h0 : 0 ≤ x) (h1 : x ≤ 4294967295) : (recAt i x).Ok := by
  unfold recAt
  split
  · exact ⟨.inr ⟨rfl, rfl⟩, by show 1 ≤ 1 + x * 255; omega, by show 1 + x * 255 ≤ 1099511627776; omega, by show keyB (⟨#[111, 116, 104, 101, 114]⟩ : ByteArray) = true; decide, by show 1 ≤ (⟨#[111, 116, 104, 101, 114]⟩ : ByteArray).size; decide, by show (⟨#[111, 116, 104, 101, 114]⟩ : ByteArray).size ≤ 32; decide, by show (⟨#[]⟩ : ByteArray).size ≤ 512; decide⟩
  · exact rc_ok (by omega) (by omega)
theorem recAt_sz (i : Nat) (x : Int) : (recAt i x).Sz := by
  unfold recAt
  split
  · exact ⟨by show (⟨#[111, 116, 104, 101, 114]⟩ : ByteArray).size ≤ maxLen; unfold maxLen; decide, by show (⟨#[]⟩ : ByteArray).size ≤ maxLen; unfold maxLen; decide⟩
  · exact rc_sz _
theorem recsU_sz (L : Nat → Int) (n : Nat) : ∀ r ∈ recsU L n, r.Sz := by
  intro r hr
  obtain ⟨i, _, rfl⟩ := List.mem_map.1 hr
  exact recAt_sz _ _
theorem recsU_ok {L : Nat → Int} {n : Nat} (h : ∀ i, i < n → 0 ≤ L i ∧ L i ≤ 4294967295) : allOk (recsU L n) = true := by
  unfold allOk
  rw [List.all_eq_true]
  intro r hr
  obtain ⟨i, hi, rfl⟩ := List.mem_map.1 hr
  have hi' : i < n := by simpa using hi
  have := h i hi'
  exact decide_eq_true (recAt_ok i this.1 this.2)
theorem flat_snoc (rs : List Rc) (r : Rc) : flat (rs ++ [r]) = flat rs ++ r.cs.toList := by simp [flat]
theorem flat_app (a b : List Rc) : flat (a ++ b) = flat a ++ flat b := by simp [flat]
theorem Reads.rec (w : World) (t : TypeId) (r : Rc) : Reads (w.alloc (.cells r.cs t)) (w.heap.size + 1) 4 (some ⟨w.heap.size, 0, none⟩) 1 r.cs.toList :=
  ⟨rfl, fun _ => ⟨_, rfl, Nat.lt_succ_self _, fun j u hu => by
    rw [Addr.add_lit, (Blk.new w t r.cs).cell, Nat.zero_add]
    simpa using hu⟩⟩
theorem own_below {w w' : World} {B : Nat} {e : TypeId} {size n : Nat} {v : Value} {xs : List Value} (h : w.ownsRow B e size v n xs) (hb : Below w.heap.size w w') : w'.ownsRow B e size v n xs := by
  rcases h.2 with hn | ⟨g, cap, cur, rfl, h2, h3, h4⟩
  · exact ⟨h.1, .inl hn⟩
  · exact ⟨h.1, .inr ⟨g, cap, cur, rfl, h2, (hb.block g (lt_of_block h3)).trans h3, h4⟩⟩
/-- a slice of 32-bit numbers that reads as L -/
def IsU (w : World) (a : Option Addr) (n cap : Nat) (L : Nat → Int) : Prop :=
  n ≤ cap ∧ cap ≤ maxLen ∧ (∀ i, i < n → 0 ≤ L i ∧ L i ≤ 4294967295) ∧ (0 < n → ∃ b off : Nat, a = some ⟨b, off, none⟩ ∧ b < w.heap.size ∧ ∀ i, i < n → w.cell? ⟨b, off + i, none⟩ = some (.int .u32 (L i)))
section
variable {H : Type} {enc : TypeId × Value → H} {w : World} {base b0 : Nat} {r : Reach} {v : Value} {d : DataW H} {p : List MemPlace}
set_option maxRecDepth 100000 in
theorem open_u32s (hv : Value.okWide Try.prog w r b0 61 v) (h : DataW.Trod enc Try.prog w base (fun _ => true) true 61 v d p) :
    ∃ (a : Option Addr) (n cap : Nat) (L : Nat → Int), v = .slice a n cap ∧ IsU w a n cap L := by
  obtain ⟨a0, len, cap, rfl⟩ := okWide_slice Try.underlying61 hv
  obtain ⟨fuel, hf⟩ := h
  rcases open_ints Try.underlying61 Try.underlying65 (by kernel_rfl) hf with ⟨hcs, _⟩ | ⟨a, l, c, zs, hcs, hb, hl, hm, hzl, hx, hcell, hwf⟩
  · simp [Value.cells] at hcs
    obtain ⟨rfl, rfl, rfl⟩ := hcs
    exact ⟨none, 0, 0, fun _ => 0, rfl, Nat.le_refl _, by unfold maxLen; omega, fun i hi => by omega, fun h => absurd h (by omega)⟩
  · simp [Value.cells] at hcs
    obtain ⟨rfl, rfl, rfl⟩ := hcs
    have hzc : zs.length = cap := by simpa using hzl
    refine ⟨some a, len, cap, fun i => zs.getD i 0, rfl, hl, hm, fun i hi => ?_, fun hlen => ?_⟩
    · have hm' : zs.getD i 0 ∈ zs := by
        rw [List.getD_eq_getElem?_getD, List.getElem?_eq_getElem (by omega)]
        exact List.getElem_mem _
      exact bounds_u32 (hwf _ hm')
    · obtain ⟨b, off, spot⟩ := a
      have hx0 := hcell 0 (by omega)
      have hsp : spot = none := by simpa [Addr.add] using World.cell?_spot hx0
      subst hsp
      refine ⟨b, off, rfl, ?_, fun i hi => ?_⟩
      · have := block_lt_of_cell hx0
        simpa [Addr.add] using this
      · have hc := hcell i (by omega)
        by_cases hi0 : i = 0
        · subst hi0
          simpa [Addr.add] using hc
        · simpa [Addr.add, hi0] using hc
end
set_option maxRecDepth 100000 in
theorem slice_toU {A : Option Addr} {len cap k : Nat} (h1 : k ≤ cap) (w : World) : (Instr.sliceAt 61 (.slice A len cap) none (some (.int .i64 (k : Nat))) none).run Try.prog w = .ok (.slice A k cap) w := by
  have h := run_slice_h (P := Try.prog) (w := w) 61 A len cap Try.underlying61 .i64 (k : Nat) (by omega) (by omega)
  rw [run_sliceAt_slice (h := Try.underlying61), h]
  simp [go_sem, sliced]
theorem wrap_i64 {x : Int} (h0 : -9223372036854775808 ≤ x) (h1 : x ≤ 9223372036854775807) : IntKind.i64.wrap x = x := by rw [IntKind.wrap_i64]; omega
set_option maxHeartbeats 3200000 in
set_option maxRecDepth 100000 in
theorem records_any (A : Option Addr) (len cap : Nat) (L : Nat → Int) (n : Nat) (w : World) (h : IsU w A len cap L) (hn : n = min len 60) :
    Calls Try.prog 32 #[.slice A len cap] w fun e w' => (∃ v, e = .returned v ∧ w'.ownsRow w.heap.size 46 4 v n (flat (recsU L n))) ∧ Below w.heap.size w w' := by
  obtain ⟨i0, hi0, hz0, hz1, hz2⟩ := info_parts rec_info
  obtain ⟨h1, h2, h3, h4⟩ := h
  have p1 : min (len : Int) 60 = (n : Int) := by subst hn; omega
  have p2 : n ≤ 60 := by omega
  have p3 : n ≤ len := by omega
  have hsl := fun w => slice_toU (A := A) (len := len) (cap := cap) (k := n) (by omega) w
  clear hn
  unfold maxLen at h2
  go_enter Try.func32, Try.ntmps32
  go_wp2_with fail
  go_loopw [3, 13] (fun o i wr => ∃ (q : Nat) (ov : Value), q ≤ n ∧ i = .int .i64 q ∧ ov = o ∧ wr.ownsRow w.heap.size 46 4 ov q (flat (recsU L q)) ∧ Below w.heap.size w wr) (fun _ i _ => n - (intOf i).toNat)
  case atStart => exact ⟨0, _, Nat.zero_le _, rfl, rfl, World.ownsRow_nil _ _ _ _, Below.refl _ _⟩
  case round =>
    obtain ⟨q, ov, hq, rfl, rfl, oo, hB⟩ := hrel
    clear hsl
    by_cases hlt : q < n
    · obtain ⟨b, off, rfl, hbl, hc⟩ := h4 (by omega)
      have hx := hc q (by omega)
      have hbx := h3 q (by omega)
      have hfl : flat (recsU L (q + 1)) = flat (recsU L q) ++ (recAt q (L q)).cs.toList := by rw [recsU_succ]; exact flat_snoc _ _
      obtain ⟨x, hxe⟩ : ∃ x, x = L q := ⟨_, rfl⟩
      rw [← hxe] at hx hbx hfl
      have k0 : wr.cell? ⟨b, off + q, none⟩ = some (.int .u32 x) := (hB.cell (p := ⟨b, off + q, none⟩) hbl).trans hx
      have z1 : (q : Int) < (n : Int) := by omega
      have z2 : (0 : Int) ≤ (q : Int) := by omega
      obtain ⟨hx0, hx1⟩ := hbx
      have u1 : IntKind.i64.wrap x = x := wrap_i64 (by omega) (by omega)
      have u2 : IntKind.i64.wrap (x * 255) = x * 255 := wrap_i64 (by omega) (by omega)
      have u3 : IntKind.i64.wrap (1 + x * 255) = 1 + x * 255 := wrap_i64 (by omega) (by omega)
      have hp := fun w => put_any (1 + x * 255) w
      have HF := Lib.hid hfl
      clear hfl hxe hc hx
      have ht : (q : Int).tmod 3 = ((q % 3 : Nat) : Int) := by rw [Int.tmod_eq_emod_of_nonneg z2]; omega
      have k5 : q + 1 ≤ maxLen := by unfold maxLen; omega
      have k6 : (q + 1) * 48 ≤ 140737488355328 := by omega
      by_cases hm : q % 3 = 2
      · have e1 : (q : Int).tmod 3 = 2 := by omega
        have e2 : (q : Int) % 3 = 2 := by omega
        have hra : recAt q x = ⟨2, 1 + x * 255, ⟨#[111, 116, 104, 101, 114]⟩, ⟨#[]⟩⟩ := if_pos hm
        have HA := Lib.hid hra
        clear hm ht hra
        go_wp2_with fail
        refine (hp _).mono ?_
        rintro e w1 ⟨rfl, hb1⟩
        have o1 := own_below oo hb1
        have j1 := b_then hB hb1
        clear hp k0 hb1 oo hB
        have o2 := own_below o1 (b_alloc (b_alloc (Below.refl _ w1) (.cells #[.int .i64 2, .int .i64 (1 + x * 255), .string ⟨#[111, 116, 104, 101, 114]⟩, .string ⟨#[]⟩] 46)) (.cells #[.int .i64 2, .int .i64 (1 + x * 255), .string ⟨#[111, 116, 104, 101, 114]⟩, .string ⟨#[]⟩] 46))
        have j2 := b_alloc (b_alloc j1 (.cells #[.int .i64 2, .int .i64 (1 + x * 255), .string ⟨#[111, 116, 104, 101, 114]⟩, .string ⟨#[]⟩] 46)) (.cells #[.int .i64 2, .int .i64 (1 + x * 255), .string ⟨#[111, 116, 104, 101, 114]⟩, .string ⟨#[]⟩] 46)
        have hrd := Reads.rec (w1.alloc (.cells #[.int .i64 2, .int .i64 (1 + x * 255), .string ⟨#[111, 116, 104, 101, 114]⟩, .string ⟨#[]⟩] 46)) 46 ⟨2, 1 + x * 255, ⟨#[111, 116, 104, 101, 114]⟩, ⟨#[]⟩⟩
        rw [World.size_alloc] at hrd
        have k4 : ∀ u ∈ (Rc.cs ⟨2, 1 + x * 255, ⟨#[111, 116, 104, 101, 114]⟩, ⟨#[]⟩⟩).toList, u.oneCell' = true := by intro u hu; simp [Rc.cs] at hu; rcases hu with rfl | rfl | rfl | rfl <;> rfl
        have k7 := j2.size
        clear o1 j1
        go_wp2_with (first
          | (at_builtin; refine wpList_append_any _ rfl (.tmp 29) (.tmp 31) _ rfl w.heap.size 46 i0 _ 4 48 Try.underlying49 hi0 hz0 hz1 hz2 rfl (by omega) _ q _ rfl o2 _ _ 1 1 _ rfl hrd k4 k5 k6 k7 ?_; intro v5 w5 o5 hg5 hat5; have hB5 := j2.grown hg5 k7 (fun k hk => (World.ownsRow.lt o2 k hk).1); clear hg5 hat5 o2 hrd j2))
        go_roundw
        case rel => exact ⟨q + 1, _, by omega, by go_num, rfl, by rw [HF.out, HA.out]; exact o5, hB5⟩
        case measure => simp [intOf]; omega
      · have e1 : ¬ (q : Int).tmod 3 = 2 := by omega
        have e2 : ¬ (q : Int) % 3 = 2 := by omega
        have hra : recAt q x = rc (1 + x * 255) := if_neg hm
        have HA := Lib.hid hra
        clear hm ht hra
        go_wp2_with fail
        refine (hp _).mono ?_
        rintro e w1 ⟨rfl, hb1⟩
        have o1 := own_below oo hb1
        have j1 := b_then hB hb1
        clear hp k0 hb1 oo hB
        have o2 := own_below o1 (b_alloc (b_alloc (Below.refl _ w1) (.cells #[.int .i64 1, .int .i64 (1 + x * 255), .string ⟨#[107]⟩, .string ⟨#[118]⟩] 46)) (.cells #[.int .i64 1, .int .i64 (1 + x * 255), .string ⟨#[107]⟩, .string ⟨#[118]⟩] 46))
        have j2 := b_alloc (b_alloc j1 (.cells #[.int .i64 1, .int .i64 (1 + x * 255), .string ⟨#[107]⟩, .string ⟨#[118]⟩] 46)) (.cells #[.int .i64 1, .int .i64 (1 + x * 255), .string ⟨#[107]⟩, .string ⟨#[118]⟩] 46)
        have hrd := Reads.rec (w1.alloc (.cells #[.int .i64 1, .int .i64 (1 + x * 255), .string ⟨#[107]⟩, .string ⟨#[118]⟩] 46)) 46 ⟨1, 1 + x * 255, ⟨#[107]⟩, ⟨#[118]⟩⟩
        rw [World.size_alloc] at hrd
        have k4 : ∀ u ∈ (Rc.cs ⟨1, 1 + x * 255, ⟨#[107]⟩, ⟨#[118]⟩⟩).toList, u.oneCell' = true := by intro u hu; simp [Rc.cs] at hu; rcases hu with rfl | rfl | rfl | rfl <;> rfl
        have k7 := j2.size
        clear o1 j1
        go_wp2_with (first
          | (at_builtin; refine wpList_append_any _ rfl (.tmp 29) (.tmp 31) _ rfl w.heap.size 46 i0 _ 4 48 Try.underlying49 hi0 hz0 hz1 hz2 rfl (by omega) _ q _ rfl o2 _ _ 1 1 _ rfl hrd k4 k5 k6 k7 ?_; intro v5 w5 o5 hg5 hat5; have hB5 := j2.grown hg5 k7 (fun k hk => (World.ownsRow.lt o2 k hk).1); clear hg5 hat5 o2 hrd j2))
        go_roundw
        case rel => exact ⟨q + 1, _, by omega, by go_num, rfl, by rw [HF.out, HA.out]; exact o5, hB5⟩
        case measure => simp [intOf]; omega
    · obtain rfl : n = q := by omega
      go_wp2_with fail
      go_ret
      exact ⟨⟨_, rfl, oo⟩, hB⟩
end Go.Proofs.Ytiobnhdcapfhgaa
