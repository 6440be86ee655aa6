/-
  Contracts of the helpers and of a round, as the laws want them; arguments opened.
-/
import Derived.Test.YtaidekdmhmoaeaaDoorOnc
import Derived.Test.YtaidekdmhmoaeaaDoorOpen
import Derived.ChangeSlices
namespace Go.Proofs.YtaidekdmhmoaeaaDoor.On
open Go.ChangeShapes Go.WideShapes Go.ChangeAt Go.RowKit Go.Joins Go.Deep Bt
open Rd (ints inn Tab Got1 left_any RS)
open Rr (low nats nats_ints)
set_option linter.unusedVariables false
set_option linter.unusedSimpArgs false
def PMem (s : Nat) (w : World) (e : Ending) (w' : World) : Prop := ∃ (M q : Nat) (A : Option Addr) (c : Nat), M < 2 ^ s ∧ (slots M).length = q ∧ q ≤ 32 ∧ e = .returned (.slice A q c) ∧ w'.ownsRow w.heap.size 3 1 (.slice A q c) q ((ints (slots M)).map (Value.int .i64)) ∧ Below w.heap.size w w'
theorem slots_len32 (M : Nat) : (slots M).length ≤ 32 := Nat.le_trans (List.length_filter_le _ _) (by simp)
theorem mem_ex (S s : Nat) (w : World) (hs : s ≤ 32) (hS : S < 2 ^ 32) : Calls Tryd.prog 20 #[.int .u32 S, .int .i64 s] w (PMem s w) := by
  refine (mem_any S s w hs hS).mono ?_
  rintro e w' ⟨⟨A, c, rfl, ho⟩, hb⟩
  exact ⟨S % 2 ^ s, _, A, c, Nat.mod_lt _ (Nat.pow_pos (by omega)), rfl, slots_len32 _, rfl, ho, hb⟩
theorem perm_ints {ys : List Int} {l : List Nat} (h : ys.Perm (ints l)) : ∃ ks, ys = ints ks ∧ ks.Perm l := by
  refine ⟨ys.map Int.toNat, ?_, ?_⟩
  · unfold ints
    rw [List.map_map]
    refine (List.map_id ys).symm.trans (List.map_congr_left fun y hy => ?_)
    obtain ⟨k, _, rfl⟩ := List.mem_map.1 (h.mem_iff.1 hy)
    rfl
  · have h1 := h.map Int.toNat
    have h2 : (ints l).map Int.toNat = l := by simp [ints, Function.comp_def]
    rwa [h2] at h1
def POrd (n : Nat) (l : List Nat) (w : World) (e : Ending) (w' : World) : Prop := ∃ (A : Option Addr) (c : Nat) (ks : List Nat), ks.Perm l ∧ e = .returned (.slice A n c) ∧ w'.ownsRow w.heap.size 3 1 (.slice A n c) n ((ints ks).map (Value.int .i64)) ∧ Below w.heap.size w w'
theorem ord_ks (A : Option Addr) (n c : Nat) (l : List Nat) (b : Int) (w : World) (hI : InS w A n c (ints l)) (hn : n ≤ 1000) (hb0 : 0 ≤ b) : Calls Tryd.prog 22 #[.slice A n c, .int .u64 b] w (POrd n l w) := by
  refine (ord_any A n c (ints l) b w hI hn hb0).mono ?_
  rintro e w' ⟨⟨A', c', ys, hp, rfl, ho⟩, hb⟩
  obtain ⟨ks, rfl, hk⟩ := perm_ints hp
  exact ⟨A', c', ks, hk, rfl, ho, hb⟩
theorem pow32 {M s : Nat} (h : M < 2 ^ s) (hs : s ≤ 32) : M < 2 ^ 32 := Nat.lt_of_lt_of_le h (Nat.pow_le_pow_right (by omega) hs)
theorem beg_perm (b s M : Nat) (N : Int) (w : World) (h : Rd.Is w b s 0 N) (hN : 0 ≤ N ∧ N ≤ 100000) (A : Option Addr) (n cap : Nat) (ks : List Nat) (hp : ks.Perm (slots M)) (hM : M < 2 ^ s) (hx : RI w A ((ints ks).map (Value.int .i64))) (hl : ks.length = n) :
    Calls Tryd.prog 9 #[.pointer (some ⟨b, 0, none⟩), .slice A n cap] w fun e w' => e = .returned (.int .i64 0) ∧ Rd.Is w' b s M (N + 1) ∧ Only b none w w' := by
  have hM32 := pow32 hM h.s2
  have hl32 : n ≤ 32 := by rw [← hl, hp.length_eq]; exact slots_len32 M
  refine (Rd.beg_any b s N w h hN A n cap ks hx hl (by unfold maxLen; omega) (perm_lt hp hM)).mono ?_
  rintro e w' (⟨hd, _⟩ | ⟨hd, rfl, hI, hO⟩)
  · rw [perm_dup hp hM32] at hd; cases hd
  · rw [perm_or hp hM32] at hI
    exact ⟨rfl, hI, hO⟩
theorem left_q (b s M q : Nat) (N : Int) (w : World) (h : Rd.Is w b s M N) (hT : Tab w) (hq : (slots M).length = q) : Calls Tryd.prog 24 #[.pointer (some ⟨b, 0, none⟩)] w (Got1 w q (ints (slots M))) := by
  have hl := left_any (some ⟨b, 0, none⟩) (ints (slots M)) w (.inr ⟨b, s, M, N, rfl, h, rfl⟩) hT
  have e : (ints (slots M)).length = q := by rw [← hq]; simp [ints]
  rwa [e] at hl
theorem has_yes (b s M x : Nat) (N : Int) (w : World) (h : Rd.Is w b s M N) (hx : x < s) (hb : M.testBit x = true) : Calls Tryd.prog 25 #[.pointer (some ⟨b, 0, none⟩), .int .i64 x] w fun e w' => e = .returned (.bool true) ∧ w = w' := by
  have h := Rd.Has_any b s M N x w h
  rwa [show (decide (0 ≤ (x : Int) ∧ (x : Int) < s) && M.testBit (x : Int).toNat) = true by rw [Int.toNat_natCast, hb]; simp; omega] at h
theorem no_bit {s M : Nat} {x : Int} (hb : 0 ≤ x → M.testBit x.toNat = false) : (decide (0 ≤ x ∧ x < (s : Int)) && M.testBit x.toNat) = false := by
  by_cases hx : 0 ≤ x
  · rw [hb hx]; simp
  · have : decide (0 ≤ x ∧ x < (s : Int)) = false := decide_eq_false (by omega)
    rw [this]; rfl
theorem has_no (b s M : Nat) (x N : Int) (w : World) (h : Rd.Is w b s M N) (hb : 0 ≤ x → M.testBit x.toNat = false) : Calls Tryd.prog 25 #[.pointer (some ⟨b, 0, none⟩), .int .i64 x] w fun e w' => e = .returned (.bool false) ∧ w = w' := by
  have h := Rd.Has_any b s M N x w h
  rwa [no_bit hb] at h
theorem done_no (b s M : Nat) (x N : Int) (w : World) (h : Rd.Is w b s M N) (hb : 0 ≤ x → M.testBit x.toNat = false) : Calls Tryd.prog 10 #[.pointer (some ⟨b, 0, none⟩), .int .i64 x] w fun e w' => e = .returned (.int .i64 5) ∧ w = w' := Rd.Done_err b s M N x w h (no_bit hb)
theorem over_yes (b s : Nat) (N : Int) (w : World) (h : Rd.Is w b s 0 N) : Calls Tryd.prog 21 #[.pointer (some ⟨b, 0, none⟩)] w fun e w' => e = .returned (.bool true) ∧ w = w' := Rd.Over_any b s 0 N w h
theorem over_no (b s M : Nat) (N : Int) (w : World) (h : Rd.Is w b s M N) (h0 : M ≠ 0) : Calls Tryd.prog 21 #[.pointer (some ⟨b, 0, none⟩)] w fun e w' => e = .returned (.bool false) ∧ w = w' := by
  have h := Rd.Over_any b s M N w h
  rwa [show (M == 0) = false by simpa using h0] at h
/-- a row of the call's own that lies behind the round's block -/
theorem own_only {w w' : World} {B n cap : Nat} {b : Nat} {e : TypeId} {A : Option Addr} {xs : List Value} (h : w.ownsRow B e 1 (.slice A n cap) n xs) (ho : Only b none w w') (hb : b < B) : w'.ownsRow B e 1 (.slice A n cap) n xs :=
  ho.own h (fun e => by have := (own_row h b e).1; omega) (by cases A with | none => exact .inl rfl | some a => exact .inr (fun e => by cases e))
/-- a slice of numbers of 32 bits that came in -/
def U32s (w : World) (a : Option Addr) (n cap : Nat) (L : Nat → Nat) : Prop := n ≤ cap ∧ cap ≤ maxLen ∧ (∀ i, i < n → L i ≤ 4294967295) ∧ (0 < n → ∃ b off : Nat, a = some ⟨b, off, none⟩ ∧ b < w.heap.size ∧ ∀ i, i < n → w.cell? ⟨b, off + i, none⟩ = some (.int .u32 (L i)))
theorem open_u32s {H : Type} {enc : TypeId × Value → H} {w : World} {base b0 : Nat} {r : Reach} {v : Value} {d : DataW H} {p : List MemPlace} (hv : Value.okWide Tryd.prog w r b0 47 v) (h : DataW.Trod enc Tryd.prog w base (fun _ => true) true 47 v d p) :
    ∃ (a : Option Addr) (n cap : Nat) (L : Nat → Nat), v = .slice a n cap ∧ U32s w a n cap L := by
  obtain ⟨a0, len, cap, rfl⟩ := okWide_slice Tryd.underlying47 hv
  obtain ⟨fuel, hf⟩ := h
  rcases open_ints Tryd.underlying47 Tryd.underlying25 (by kernel_rfl) hf with ⟨hcs, _⟩ | ⟨a, l, c, zs, hcs, hb, hl, hm, hzl, hx, hcell, hwf⟩
  · simp [Value.cells] at hcs
    obtain ⟨rfl, rfl, rfl⟩ := hcs
    exact ⟨none, 0, 0, fun _ => 0, rfl, Nat.le_refl _, by unfold maxLen; omega, fun i hi => by omega, fun h => absurd h (by omega)⟩
  · simp [Value.cells] at hcs
    obtain ⟨rfl, rfl, rfl⟩ := hcs
    have hzc : zs.length = cap := by simpa using hzl
    have hbd : ∀ i, i < cap → 0 ≤ zs.getD i 0 ∧ zs.getD i 0 ≤ 4294967295 := by
      intro i hi
      have hm' : zs.getD i 0 ∈ zs := by
        rw [List.getD_eq_getElem?_getD, List.getElem?_eq_getElem (by omega)]
        exact List.getElem_mem _
      exact bounds_u32 (hwf _ hm')
    refine ⟨some a, len, cap, fun i => (zs.getD i 0).toNat, rfl, hl, hm, fun i hi => by have := hbd i (by omega); show (zs.getD i 0).toNat ≤ 4294967295; omega, fun hlen => ?_⟩
    obtain ⟨b, off, spot⟩ := a
    have hx0 := hcell 0 (by omega)
    have hsp : spot = none := by simpa [Addr.add] using World.cell?_spot hx0
    subst hsp
    refine ⟨b, off, rfl, ?_, fun i hi => ?_⟩
    · have := block_lt_of_cell hx0
      simpa [Addr.add] using this
    · have hc := hcell i (by omega)
      rw [Addr.add_lit] at hc
      have := (hbd i (by omega)).1
      rw [show (((zs.getD i 0).toNat : Nat) : Int) = zs.getD i 0 by omega]
      exact hc
end Go.Proofs.YtaidekdmhmoaeaaDoor.On
