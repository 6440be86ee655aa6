/-
  slices.Equal and slices.Clone at records.
-/
import Derived.Test.YtiobnhdcapfhgaaFwk
import Derived.Test.YtiobnhdcapfhgaaSml
namespace Go.Proofs.Ytiobnhdcapfhgaa
open Go.RowKit
set_option linter.unusedVariables false
set_option maxRecDepth 100000 in
theorem rseq_same (A1 A2 : Option Addr) (c1 c2 : Nat) (rs : List Rc) (w : World) (h1 : IsRs w A1 rs) (h2 : IsRs w A2 rs) (hm : rs.length ≤ maxLen) :
    Calls Try.prog 30 #[.slice A1 rs.length c1, .slice A2 rs.length c2] w fun e w' => e = .returned (.bool true) ∧ Below w.heap.size w w' := by
  obtain ⟨n, hn⟩ : ∃ n, n = rs.length := ⟨_, rfl⟩
  rw [← hn] at hm ⊢
  have HN := Lib.hid hn
  clear hn
  unfold maxLen at hm
  go_enter Try.func30, Try.ntmps30
  go_wp2_with fail
  go_loopw [13] (fun i wr => ∃ k : Nat, k ≤ n ∧ i = .int .i64 k ∧ Below w.heap.size w wr) (fun i _ => n - (intOf i).toNat)
  case atStart => exact ⟨0, Nat.zero_le _, rfl, Below.refl _ _⟩
  case round =>
    obtain ⟨k, hk, rfl, hB⟩ := hrel
    by_cases hlt : k < n
    · obtain ⟨r, hr⟩ : ∃ r, rs[k]? = some r := ⟨_, List.getElem?_eq_getElem (by have := HN.out; omega)⟩
      obtain ⟨b1, o1, rfl, hl1, a0, a1, a2, a3⟩ := (h1.later hB).at_ hr
      obtain ⟨b2, o2, rfl, hl2, e0, e1, e2, e3⟩ := (h2.later hB).at_ hr
      clear hr
      obtain ⟨kind, sq, key, val⟩ := r
      have a0 : wr.cell? ⟨b1, o1 + k * 4, none⟩ = some (.int .i64 kind) := a0
      have a1 : wr.cell? ⟨b1, o1 + k * 4 + 1, none⟩ = some (.int .i64 sq) := a1
      have a2 : wr.cell? ⟨b1, o1 + k * 4 + 2, none⟩ = some (.string key) := a2
      have a3 : wr.cell? ⟨b1, o1 + k * 4 + 3, none⟩ = some (.string val) := a3
      have e0 : wr.cell? ⟨b2, o2 + k * 4, none⟩ = some (.int .i64 kind) := e0
      have e1 : wr.cell? ⟨b2, o2 + k * 4 + 1, none⟩ = some (.int .i64 sq) := e1
      have e2 : wr.cell? ⟨b2, o2 + k * 4 + 2, none⟩ = some (.string key) := e2
      have e3 : wr.cell? ⟨b2, o2 + k * 4 + 3, none⟩ = some (.string val) := e3
      have z0 : (0 : Int) ≤ (k : Int) := by omega
      have z1 : (k : Int) < (n : Int) := by omega
      have H1 := Lib.hid h1
      have H2 := Lib.hid h2
      clear h1 h2
      go_wp2_with fail
      go_region
      all_goals
        (go_wp2_with fail
         go_roundw
         case rel => exact ⟨k + 1, by omega, by go_num, hB.drew⟩
         case measure => simp [intOf]; omega)
    · obtain rfl : k = n := by omega
      go_wp2_with fail
      go_ret
      exact ⟨rfl, hB⟩
theorem flat_length (rs : List Rc) : (flat rs).length = rs.length * 4 := by
  induction rs with
  | nil => rfl
  | cons r rs ih =>
    have hf : flat (r :: rs) = r.cs.toList ++ flat rs := rfl
    rw [hf, List.length_append, ih, List.length_cons]
    show 4 + _ = _
    omega
theorem flat_one (rs : List Rc) : ∀ u ∈ flat rs, u.oneCell' = true := by
  intro u hu
  obtain ⟨r, _, hr⟩ := List.mem_flatMap.1 hu
  simp only [Rc.cs, List.mem_cons, List.not_mem_nil, or_false] at hr
  rcases hr with rfl | rfl | rfl | rfl <;> rfl
theorem flat_inv (rs : List Rc) (j : Nat) (u : Value) (h : (flat rs)[j]? = some u) : ∃ r, rs[j / 4]? = some r ∧ r.cs[j % 4]? = some u := by
  have hl : j < rs.length * 4 := by
    rcases Nat.lt_or_ge j (flat rs).length with h' | h'
    · rwa [flat_length] at h'
    · rw [List.getElem?_eq_none h'] at h; cases h
  have hr : rs[j / 4]? = some (rs[j / 4]'(by omega)) := List.getElem?_eq_getElem (by omega)
  have h4 : j % 4 < (rs[j / 4]'(by omega)).cs.size := by show j % 4 < 4; omega
  have hu : (rs[j / 4]'(by omega)).cs[j % 4]? = some ((rs[j / 4]'(by omega)).cs[j % 4]'h4) := Array.getElem?_eq_getElem h4
  have hf := flat_at rs _ _ hr _ _ hu
  rw [show j / 4 * 4 + j % 4 = j by omega, h] at hf
  injection hf with hf
  exact ⟨_, hr, by rw [hf]; exact hu⟩
theorem IsRs.reads {w : World} {A : Option Addr} {rs : List Rc} (h : IsRs w A rs) : Reads w w.heap.size 4 A rs.length (flat rs) := by
  refine ⟨flat_length rs, fun hp => ?_⟩
  rcases h.2 with h2 | ⟨b, off, rfl, hlt, hc⟩
  · subst h2
    simp at hp
  · refine ⟨_, rfl, hlt, fun j u hu => ?_⟩
    obtain ⟨r, hr, hu'⟩ := flat_inv rs j u hu
    rw [Addr.add_lit]
    have := hc _ r hr _ u hu'
    rwa [show j / 4 * 4 + j % 4 = j by omega] at this
theorem IsRs.of_own {w : World} {B : Nat} {v : Value} {rs : List Rc} (h : w.ownsRow B 46 4 v rs.length (flat rs)) (hs : ∀ r ∈ rs, r.Sz) : ∃ (A : Option Addr) (cap : Nat), v = .slice A rs.length cap ∧ IsRs w A rs ∧ rs.length ≤ cap ∧ cap ≤ maxLen := by
  have h0 := h
  rcases h.2 with ⟨rfl, hn⟩ | ⟨g, cap, cur, rfl, h2, h3, h4, h5, _⟩
  · have : rs = [] := List.eq_nil_of_length_eq_zero hn
    subst this
    exact ⟨none, 0, rfl, IsRs.nil _ _, Nat.le_refl _, by unfold maxLen; omega⟩
  · refine ⟨_, cap, rfl, ⟨hs, .inr ⟨g, 0, rfl, lt_of_block h3, fun i r hr j u hu => ?_⟩⟩, h4, h5⟩
    have hf := flat_at rs i r hr j u hu
    have hl : i * 4 + j < rs.length * 4 := by
      rcases Nat.lt_or_ge (i * 4 + j) (flat rs).length with h' | h'
      · rwa [flat_length] at h'
      · rw [List.getElem?_eq_none h'] at hf; cases hf
    rw [Nat.zero_add, World.ownsRow.cellAt h0 (i * 4 + j) hl, hf]
theorem rec_info : (Try.prog.info? 46).map (fun i => (i.zero, i.size, i.bytes)) = some (some (.agg #[.int .i64 0, .int .i64 0, .string ⟨#[]⟩, .string ⟨#[]⟩]), 4, 48) := by kernel_rfl
set_option maxRecDepth 100000 in
theorem rclone_any (A : Option Addr) (cap : Nat) (rs : List Rc) (w : World) (h : IsRs w A rs) (hl : rs.length ≤ cap) (hc : cap ≤ maxLen) (h5 : rs.length ≤ 100000) :
    Calls Try.prog 27 #[.slice A rs.length cap] w fun e w' => (∃ (A' : Option Addr) (cap' : Nat), e = .returned (.slice A' rs.length cap') ∧ IsRs w' A' rs ∧ rs.length ≤ cap' ∧ cap' ≤ maxLen) ∧ Below w.heap.size w w' := by
  obtain ⟨i0, hi0, hz0, hz1, hz2⟩ := info_parts rec_info
  rcases A with _ | ad
  · have hM : rs = [] := by
      rcases h.2 with h2 | ⟨b, off, hq, _⟩
      · exact h2
      · cases hq
    subst hM
    have hq : ∀ w : World, (binOp .eql 49 (.slice none 0 cap) (.slice none 0 0)).run Try.prog w = .ok (.bool true) w := fun w => run_eql_slice_nil w _ _ none 0 cap Try.underlying49
    clear h
    show Calls Try.prog 27 #[.slice none 0 cap] w _
    go_enter Try.func27, Try.ntmps27
    go_wp2_with fail
    go_ret
    exact ⟨⟨none, 0, rfl, IsRs.nil _ _, Nat.le_refl _, by unfold maxLen; omega⟩, Below.refl _ _⟩
  · have hq : ∀ w : World, (binOp .eql 49 (.slice (some ad) rs.length cap) (.slice none 0 0)).run Try.prog w = .ok (.bool false) w := fun w => run_eql_slice_nil w _ _ (some ad) rs.length cap Try.underlying49
    have hrd := (h.later (b_alloc (Below.refl _ _) (.cells #[] 46))).reads
    have hs := h.1
    have o0 : (w.alloc (.cells #[] 46)).ownsRow w.heap.size 46 4 (.slice (some ⟨w.heap.size, 0, none⟩) 0 0) 0 [] := World.ownsRow_lit w #[] 0 (Nat.le_refl _) (by unfold maxLen; omega) rfl
    have k1 : 0 + rs.length ≤ maxLen := by unfold maxLen; omega
    have k2 : (0 + rs.length) * 48 ≤ 140737488355328 := by omega
    have k3 : w.heap.size ≤ (w.alloc (.cells #[] 46)).heap.size := by simp
    have k4 := flat_one rs
    clear h
    go_enter Try.func27, Try.ntmps27
    go_wp2_with (first
      | (at_builtin; refine wpList_append_any _ rfl (.tmp 5) (.tmp 6) _ rfl w.heap.size 46 i0 _ 4 48 Try.underlying49 hi0 hz0 hz1 hz2 rfl (by omega) _ 0 _ rfl o0 (w.alloc (.cells #[] 46)).heap.size _ rs.length cap (flat rs) rfl hrd k4 k1 k2 k3 ?_; intro v5 w5 o5 hg5 hat5; simp only [Nat.zero_add, List.nil_append] at o5))
    go_ret
    have hg5 : (w.alloc (.cells #[] 46)).grownBy w5 (some w.heap.size) := hg5
    obtain ⟨A', cap', rfl, h6, h7, h8⟩ := IsRs.of_own o5 hs
    exact ⟨⟨A', cap', rfl, h6, h7, h8⟩, b_g (b_alloc (Below.refl _ _) _) hg5 (Nat.le_refl _)⟩
end Go.Proofs.Ytiobnhdcapfhgaa
