/-
  The reference's sum and greatest number of a list, by contract.
-/
import Derived.Test.YtjnbkpjpcbmhcaaWords
namespace Go.Proofs.Ytjnbkpjpcbmhcaa
open Go.RowKit
set_option linter.unusedVariables false

def sm : List Int → Int
  | [] => 0
  | x :: r => x + sm r
def mx : List Int → Int
  | [] => 0
  | x :: r => max x (mx r)
theorem sm_append (l r : List Int) : sm (l ++ r) = sm l + sm r := by
  induction l with
  | nil => simp [sm]
  | cons x l ih => simp only [List.cons_append, sm, ih]; omega
theorem mx_append (l r : List Int) : mx (l ++ r) = max (mx l) (mx r) := by
  induction l with
  | nil =>
    have : 0 ≤ mx r := by
      induction r with
      | nil => simp [mx]
      | cons x r ih => simp only [mx]; omega
    simp only [List.nil_append, mx]; omega
  | cons x l ih => simp only [List.cons_append, mx, ih]; omega
theorem mx_nonneg (l : List Int) : 0 ≤ mx l := by
  induction l with
  | nil => simp [mx]
  | cons x r ih => simp only [mx]; omega
theorem sm_nonneg (l : List Int) (h : ∀ x ∈ l, 0 ≤ x) : 0 ≤ sm l := by
  induction l with
  | nil => simp [sm]
  | cons x r ih => have := h x (by simp); have := ih (fun y hy => h y (by simp [hy])); simp only [sm]; omega
theorem mx_le_sm (l : List Int) (h : ∀ x ∈ l, 0 ≤ x) : mx l ≤ sm l := by
  induction l with
  | nil => simp [mx, sm]
  | cons x r ih =>
    have := h x (by simp); have := ih (fun y hy => h y (by simp [hy])); have := sm_nonneg r (fun y hy => h y (by simp [hy])); simp only [mx, sm]; omega
theorem take_snoc_int (l : List Int) (k : Nat) (h : k < l.length) : l.take (k + 1) = l.take k ++ [l.getD k 0] := by
  rw [List.take_succ_eq_append_getElem h, List.getD_eq_getElem?_getD, List.getElem?_eq_getElem h]; rfl
theorem sm_take_le (l : List Int) (h : ∀ x ∈ l, 0 ≤ x) (k : Nat) : 0 ≤ sm (l.take k) ∧ sm (l.take k) ≤ sm l := by
  have h1 := sm_nonneg (l.take k) (fun x hx => h x (List.mem_of_mem_take hx))
  have h2 := sm_nonneg (l.drop k) (fun x hx => h x (List.mem_of_mem_drop hx))
  have h3 : sm l = sm (l.take k) + sm (l.drop k) := by rw [← sm_append, List.take_append_drop]
  omega
theorem sm_take_succ (l : List Int) (k : Nat) (h : k < l.length) : sm (l.take (k + 1)) = sm (l.take k) + l.getD k 0 := by
  rw [take_snoc_int l k h, sm_append]; simp [sm]
theorem mx_take_succ (l : List Int) (k : Nat) (h : k < l.length) (h0 : 0 ≤ l.getD k 0) : mx (l.take (k + 1)) = max (mx (l.take k)) (l.getD k 0) := by
  rw [take_snoc_int l k h, mx_append]; simp only [mx]; omega
theorem getD_nonneg (l : List Int) (h : ∀ x ∈ l, 0 ≤ x) (k : Nat) : 0 ≤ l.getD k 0 := by
  rw [List.getD_eq_getElem?_getD]
  by_cases hk : k < l.length
  · rw [List.getElem?_eq_getElem hk]; exact h _ (List.getElem_mem hk)
  · rw [List.getElem?_eq_none (by omega)]; simp

/-- a slice of ints at the head of a block: its cells are the numbers -/
def Ints (w : World) (A : Option Addr) (L : List Int) : Prop := 0 < L.length → ∃ g : Nat, A = some ⟨g, 0, none⟩ ∧ ∀ k, k < L.length → w.cell? ⟨g, k, none⟩ = some (.int .i64 (L.getD k 0))
theorem Ints.of_own {w : World} {B : Nat} {e : TypeId} {A : Option Addr} {n cap : Nat} {L : List Int} (h : w.ownsRow B e 1 (.slice A n cap) n (L.map (Value.int .i64))) : Ints w A L := by
  intro hl
  have hn : L.length = n := by simpa using h.1
  obtain ⟨g, cap', hv, _, _⟩ := h.form (by omega)
  injection hv with hv
  subst hv
  refine ⟨g, rfl, fun k hk => ?_⟩
  have hc := h.cells (g := g) rfl k (.int .i64 (L.getD k 0)) (by rw [List.getElem?_map, List.getElem?_eq_getElem hk, List.getD_eq_getElem?_getD, List.getElem?_eq_getElem hk]; rfl)
  unfold Addr.add at hc
  split at hc
  · next h0 => subst h0; exact hc
  · simpa using hc

theorem sum_any (A : Option Addr) (cap : Nat) (L : List Int) (w : World) (hi : Ints w A L) (hp : ∀ x ∈ L, 0 ≤ x) (hs : sm L ≤ 1099511627776) (hl : L.length ≤ 100000) :
    Calls Try.prog 45 #[.slice A L.length cap] w fun e w' => e = .returned (.int .i64 (sm L)) ∧ w = w' := by
  have hg0 := getD_nonneg L hp
  go_enter Try.func45, Try.ntmps45
  go_wp2
  go_loop [3, 4] (fun s i => ∃ k : Nat, k ≤ L.length ∧ i = .int .i64 k ∧ s = .int .i64 (sm (L.take k))) (fun _ i => L.length - (intOf i).toNat)
  case atStart => exact ⟨0, Nat.zero_le _, rfl, by simp [sm]⟩
  case round =>
    obtain ⟨k, hk, rfl, rfl⟩ := hrel
    obtain ⟨b1, b2⟩ := sm_take_le L hp k
    by_cases hlt : k < L.length
    · have HS := Lib.hid (sm_take_succ L k hlt)
      obtain ⟨g, rfl, hc⟩ := hi (by omega)
      have c0 := hc k hlt
      have b3 := (sm_take_le L hp (k + 1)).2
      have b4 := hg0 k
      rw [HS.out] at b3
      generalize L.getD k 0 = xk at *
      generalize sm (L.take k) = sk at *
      clear hc hg0
      go_wp2
      go_round
      case rel => exact ⟨k + 1, by omega, by go_num, by rw [HS.out]⟩
      case measure => simp [intOf]; omega
    · have hkl : k = L.length := by omega
      clear hg0
      go_wp2
      go_ret
      exact ⟨ret_int (by first | rfl | rw [hkl, List.take_length]), rfl⟩

theorem most_any (A : Option Addr) (cap : Nat) (L : List Int) (w : World) (hi : Ints w A L) (hp : ∀ x ∈ L, 0 ≤ x) (hs : sm L ≤ 1099511627776) (hl : L.length ≤ 100000) :
    Calls Try.prog 46 #[.slice A L.length cap] w fun e w' => e = .returned (.int .i64 (mx L)) ∧ w = w' := by
  have hg0 := getD_nonneg L hp
  go_enter Try.func46, Try.ntmps46
  go_wp2
  go_loop [3, 4] (fun s i => ∃ k : Nat, k ≤ L.length ∧ i = .int .i64 k ∧ s = .int .i64 (mx (L.take k))) (fun _ i => L.length - (intOf i).toNat)
  case atStart => exact ⟨0, Nat.zero_le _, rfl, by simp [mx]⟩
  case round =>
    obtain ⟨k, hk, rfl, rfl⟩ := hrel
    by_cases hlt : k < L.length
    · have HS := Lib.hid (mx_take_succ L k hlt (hg0 k))
      obtain ⟨g, rfl, hc⟩ := hi (by omega)
      have c0 := hc k hlt
      generalize L.getD k 0 = xk at *
      generalize mx (L.take k) = sk at *
      clear hc hg0
      by_cases hm : sk < xk
      · go_wp2
        go_round
        case rel => exact ⟨k + 1, by omega, by go_num, by rw [HS.out]; congr 1; omega⟩
        case measure => simp [intOf]; omega
      · go_wp2
        go_round
        case rel => exact ⟨k + 1, by omega, by go_num, by rw [HS.out]; congr 1; omega⟩
        case measure => simp [intOf]; omega
    · have hkl : k = L.length := by omega
      clear hg0
      go_wp2
      go_ret
      exact ⟨ret_int (by first | rfl | rw [hkl, List.take_length]), rfl⟩
end Go.Proofs.Ytjnbkpjpcbmhcaa
