/-
  Which records are small; slices.ContainsFunc over them.
-/
import Derived.Test.YtiobnhdcapfhgaaRcs
namespace Go.Proofs.Ytiobnhdcapfhgaa
open Go.RowKit
set_option linter.unusedVariables false
def smallB (r : Rc) : Bool := decide (r.key.size ≤ 2000 ∧ r.val.size ≤ 2000)
theorem small_any (r : Rc) (h : r.Sz) (w : World) : Calls Try.prog 24 #[r.v] w fun e w' => e = .returned (.bool (smallB r)) ∧ Below w.heap.size w w' := by
  obtain ⟨kind, sq, key, val⟩ := r
  obtain ⟨hk, hv⟩ := h
  have hk : key.size ≤ maxLen := hk
  have hv : val.size ≤ maxLen := hv
  unfold maxLen at hk hv
  show Calls Try.prog 24 #[.agg #[.int .i64 kind, .int .i64 sq, .string key, .string val]] w fun e w' => e = .returned (.bool (decide (key.size ≤ 2000 ∧ val.size ≤ 2000))) ∧ Below w.heap.size w w'
  by_cases h1 : key.size ≤ 2000
  · have z1 : (key.size : Int) ≤ 2000 := by omega
    by_cases h2 : val.size ≤ 2000
    · have z2 : decide ((val.size : Int) ≤ 2000) = true := by rw [decide_eq_true_eq]; omega
      rw [decide_eq_true ⟨h1, h2⟩]
      clear h1 h2
      go_enter Try.func24, Try.ntmps24
      go_wp2_with fail
      go_ret
      exact ⟨rfl, b_alloc (Below.refl _ _) _⟩
    · have z2 : decide ((val.size : Int) ≤ 2000) = false := by rw [decide_eq_false_iff_not]; omega
      rw [decide_eq_false (fun h => h2 h.2)]
      clear h1 h2
      go_enter Try.func24, Try.ntmps24
      go_wp2_with fail
      go_ret
      exact ⟨rfl, b_alloc (Below.refl _ _) _⟩
  · have z1 : (2000 : Int) < (key.size : Int) := by omega
    rw [decide_eq_false (fun h => h1 h.1)]
    clear h1
    go_enter Try.func24, Try.ntmps24
    go_wp2_with fail
    go_ret
    exact ⟨rfl, b_alloc (Below.refl _ _) _⟩
theorem nsmall_any (r : Rc) (h : r.Sz) (w : World) : Calls Try.prog 26 #[r.v] w fun e w' => e = .returned (.bool (!smallB r)) ∧ Below w.heap.size w w' := by
  have hs := small_any r h
  obtain ⟨B, hB⟩ : ∃ B, B = smallB r := ⟨_, rfl⟩
  rw [← hB] at hs ⊢
  clear hB h
  obtain ⟨kind, sq, key, val⟩ := r
  have hs : ∀ w : World, Calls Try.prog 24 #[.agg #[.int .i64 kind, .int .i64 sq, .string key, .string val]] w fun e w' => e = .returned (.bool B) ∧ Below w.heap.size w w' := hs
  show Calls Try.prog 26 #[.agg #[.int .i64 kind, .int .i64 sq, .string key, .string val]] w fun e w' => e = .returned (.bool (!B)) ∧ Below w.heap.size w w'
  go_enter Try.func26, Try.ntmps26
  go_wp2_with fail
  refine (hs _).mono ?_
  rintro e w1 ⟨rfl, hb1⟩
  go_wp2_with fail
  go_ret
  exact ⟨rfl, b_then (b_alloc (Below.refl _ _) _) hb1⟩
def allSmall (rs : List Rc) : Bool := rs.all smallB
set_option maxRecDepth 100000 in
theorem idx_any (A : Option Addr) (cap : Nat) (rs : List Rc) (w : World) (h : IsRs w A rs) (hl : rs.length ≤ cap) (hc : cap ≤ maxLen) :
    Calls Try.prog 42 #[.slice A rs.length cap, .func (.func 26) #[] #[]] w fun e w' => (∃ k : Int, e = .returned (.int .i64 k) ∧ decide (0 ≤ k) = !allSmall rs) ∧ Below w.heap.size w w' := by
  obtain ⟨n, hn⟩ : ∃ n, n = rs.length := ⟨_, rfl⟩
  rw [← hn] at hl ⊢
  unfold maxLen at hc
  have HN := Lib.hid hn
  clear hn
  go_enter Try.func42, Try.ntmps42
  go_wp2_with fail
  go_loopw [8] (fun i wr => ∃ q : Nat, q ≤ n ∧ i = .int .i64 q ∧ allSmall (rs.take q) = true ∧ Below w.heap.size w wr) (fun i _ => n - (intOf i).toNat)
  case atStart => exact ⟨0, Nat.zero_le _, rfl, by simp [allSmall], Below.refl _ _⟩
  case round =>
    obtain ⟨q, hq, rfl, ha, hB⟩ := hrel
    by_cases hlt : q < n
    · obtain ⟨r, hr⟩ : ∃ r, rs[q]? = some r := ⟨_, List.getElem?_eq_getElem (by have := HN.out; omega)⟩
      obtain ⟨b, off, rfl, hbl, k0, k1, k2, k3⟩ := (h.later hB).at_ hr
      have hsz := h.1 r (List.mem_of_getElem? hr)
      have hts : rs.take (q + 1) = rs.take q ++ [r] := by rw [List.take_add_one, hr]; rfl
      have z1 : (q : Int) < (n : Int) := by omega
      have z2 : (0 : Int) ≤ (q : Int) := by omega
      have hs := nsmall_any r hsz
      have HR := Lib.hid hr
      have HS := Lib.hid hts
      have HA := Lib.hid ha
      obtain ⟨B, hBe⟩ : ∃ B, B = smallB r := ⟨_, rfl⟩
      rw [← hBe] at hs
      have HE := Lib.hid hBe
      clear hr hts ha hsz hBe
      obtain ⟨kind, sq, key, val⟩ := r
      have hs : ∀ w : World, Calls Try.prog 26 #[.agg #[.int .i64 kind, .int .i64 sq, .string key, .string val]] w fun e w' => e = .returned (.bool (!B)) ∧ Below w.heap.size w w' := hs
      have k0 : wr.cell? ⟨b, off + q * 4, none⟩ = some (.int .i64 kind) := k0
      have k1 : wr.cell? ⟨b, off + q * 4 + 1, none⟩ = some (.int .i64 sq) := k1
      have k2 : wr.cell? ⟨b, off + q * 4 + 2, none⟩ = some (.string key) := k2
      have k3 : wr.cell? ⟨b, off + q * 4 + 3, none⟩ = some (.string val) := k3
      go_wp2_with fail
      refine (hs _).mono ?_
      rintro e w1 ⟨rfl, hb1⟩
      have hB1 := b_then hB hb1
      clear hs hb1 hB k0 k1 k2 k3
      cases B with
      | false =>
        go_wp2_with fail
        go_ret
        refine ⟨⟨_, rfl, ?_⟩, hB1⟩
        have hf : allSmall rs = false := by
          cases hx : allSmall rs with
          | false => rfl
          | true =>
            have := List.all_eq_true.1 hx _ (List.mem_of_getElem? HR.out)
            rw [← HE.out] at this
            cases this
        rw [hf]
        simp
      | true =>
        go_wp2_with fail
        go_roundw
        case rel => exact ⟨q + 1, by omega, by go_num, by rw [HS.out]; unfold allSmall; rw [List.all_append, show (rs.take q).all smallB = true from HA.out]; simp [← HE.out], hB1⟩
        case measure => simp [intOf]; omega
    · obtain rfl : n = q := by omega
      have hta : rs.take n = rs := List.take_of_length_le (by rw [HN.out]; exact Nat.le_refl _)
      rw [hta] at ha
      have HA := Lib.hid ha
      clear ha hta
      go_wp2_with fail
      go_ret
      exact ⟨⟨_, rfl, by rw [HA.out]; rfl⟩, hB⟩
theorem cont_any (A : Option Addr) (cap : Nat) (rs : List Rc) (w : World) (h : IsRs w A rs) (hl : rs.length ≤ cap) (hc : cap ≤ maxLen) :
    Calls Try.prog 25 #[.slice A rs.length cap, .func (.func 26) #[] #[]] w fun e w' => e = .returned (.bool (!allSmall rs)) ∧ Below w.heap.size w w' := by
  have hi := idx_any A cap rs w h hl hc
  obtain ⟨B, hB⟩ : ∃ B, B = !allSmall rs := ⟨_, rfl⟩
  rw [← hB] at hi ⊢
  clear hB h hl hc
  go_enter Try.func25, Try.ntmps25
  go_wp2_with fail
  refine hi.mono ?_
  rintro e w1 ⟨⟨k, rfl, hk⟩, hb1⟩
  go_wp2_with fail
  go_ret
  subst hk
  exact ⟨rfl, hb1⟩
end Go.Proofs.Ytiobnhdcapfhgaa
