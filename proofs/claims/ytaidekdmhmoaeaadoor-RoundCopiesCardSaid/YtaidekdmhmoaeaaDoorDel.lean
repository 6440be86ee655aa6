/-
  slices.Delete: the elements from i to j go.
-/
import Derived.Test.YtaidekdmhmoaeaaDoorOnl
namespace Go.Proofs.YtaidekdmhmoaeaaDoor
open Go.RowKit
set_option linter.unusedVariables false
set_option linter.unusedSimpArgs false

theorem dli_info : (Tryd.prog.info? 3).map (fun i => (i.zero, i.size, i.bytes)) = some (some (.int .i64 0), 1, 8) := by kernel_rfl
set_option maxHeartbeats 4000000 in
set_option maxRecDepth 1000000 in
theorem dli_any (B g n cap i j : Nat) (xs : List Int) (w : World) (h : w.ownsRow B 3 1 (.slice (some ⟨g, 0, none⟩) n cap) n (xs.map (Value.int .i64))) (hij : i ≤ j) (hj : j ≤ n) :
    Calls Tryd.prog 38 #[.slice (some ⟨g, 0, none⟩) n cap, .int .i64 i, .int .i64 j] w fun e w' => e = .returned (.slice (some ⟨g, 0, none⟩) (n - (j - i)) cap) ∧ w'.ownsRow B 3 1 (.slice (some ⟨g, 0, none⟩) (n - (j - i)) cap) (n - (j - i)) ((xs.take i ++ xs.drop j).map (Value.int .i64)) ∧ w.grownBy w' (some g) := by
  obtain ⟨i0, hi0, hz0, hz1, hz2⟩ := info_parts dli_info
  obtain ⟨_, hnc, hcm⟩ := own_cap h
  have hcm' := hcm
  unfold maxLen at hcm
  by_cases heq : i = j
  · subst heq
    have h0 : Calls Tryd.prog 38 #[.slice (some ⟨g, 0, none⟩) n cap, .int .i64 i, .int .i64 i] w fun e w' => e = .returned (.slice (some ⟨g, 0, none⟩) n cap) ∧ w = w' := by
      clear h hi0 hz0 hz1 hz2 hcm'
      go_enter Tryd.func38, Tryd.ntmps38
      go_wp2
      all_goals (go_ret; exact ⟨rfl, rfl⟩)
    refine h0.mono ?_
    rintro e w' ⟨rfl, rfl⟩
    exact ⟨by rw [Nat.sub_self, Nat.sub_zero], by rw [Nat.sub_self, Nat.sub_zero, List.take_append_drop]; exact h, g_refl _ _⟩
  · have hlt : i < j := by omega
    have hlx : xs.length = n := by have := h.1; simpa using this
    obtain ⟨news, hnews⟩ : ∃ news, news = (xs.drop j).map (Value.int .i64) := ⟨_, rfl⟩
    have hlen : news.length = n - j := by rw [hnews]; simp [hlx]
    have hget : ∀ t, t < n - j → news[t]? = (xs.map (Value.int .i64))[j + t]? := by
      intro t ht
      rw [hnews, List.getElem?_map, List.getElem?_drop, List.getElem?_map]
    have hcell : ∀ t, w.cell? ⟨g, t, none⟩ = (xs.map (Value.int .i64))[t]? ∨ n ≤ t := by
      intro t
      rcases Nat.lt_or_ge t n with ht | ht
      · exact .inl (World.ownsRow.cellAt h t (by omega))
      · exact .inr ht
    have hfz : ∀ t, w.frozen? ⟨g, t, none⟩ = false := fun t => World.ownsRow.frozenAt h t
    obtain ⟨A, hA, hsrc⟩ : ∃ A : Addr, (if cap = j then some (⟨g, 0, none⟩ : Addr) else some ⟨g, j, none⟩) = some A ∧ Hid (∀ t u, news[t]? = some u → w.drew.cell? (A.add t) = some u) := by
      by_cases hc : cap = j
      · refine ⟨⟨g, 0, none⟩, by simp [hc], fun t u hu => ?_⟩
        have h0 : news.length = 0 := by rw [hlen]; omega
        rw [List.length_eq_zero_iff.1 h0] at hu
        simp at hu
      · refine ⟨⟨g, j, none⟩, by simp [hc], fun t u hu => ?_⟩
        have ht : t < n - j := by
          have := (List.getElem?_eq_some_iff.1 hu).1
          rwa [hlen] at this
        rw [hget t ht] at hu
        rw [Addr.add_lit]
        show w.cell? _ = _
        rcases hcell (j + t) with hq | hq
        · rw [hq]; exact hu
        · omega
    have s1 : Hid (news.length = (n - j) * 1) := by rw [Nat.mul_one]; exact hlen
    have s2 : Hid (∀ u ∈ news, u.oneCell' = true) := by
      intro u hu
      rw [hnews] at hu
      obtain ⟨x, _, rfl⟩ := List.mem_map.1 hu
      rfl
    have hsome : ∀ t, t < n → (w.cell? ⟨g, t, none⟩).isSome = true := by
      intro t ht
      rcases hcell t with hq | hq
      · rw [hq, List.getElem?_eq_getElem (by simp; omega)]; rfl
      · omega
    have s3 : Hid (∀ t, t < news.length → (w.drew.cell? ⟨g, 0 + i * 1 + t, none⟩).isSome = true ∧ w.drew.frozen? ⟨g, 0 + i * 1 + t, none⟩ = false) := by
      intro t ht
      rw [hlen] at ht
      rw [Nat.mul_one, Nat.zero_add]
      exact ⟨hsome (i + t) (by omega), hfz (i + t)⟩
    obtain ⟨cur, hcur, hcs, htk⟩ : ∃ cur, Blk w g 3 cur ∧ cur.size = cap ∧ cur.toList.take n = xs.map (Value.int .i64) := by
      rcases h.2 with ⟨h', _⟩ | ⟨g', cap', cur, h', h2, h3, h4, h5, h6, h7⟩
      · cases h'
      · simp only [Value.slice.injEq, Option.some.injEq, Addr.mk.injEq, and_true, true_and] at h'
        obtain ⟨rfl, rfl⟩ := h'
        exact ⟨cur, h3, by rw [h6, Nat.mul_one], by rw [Nat.mul_one] at h7; exact h7⟩
    obtain ⟨W1, hW1⟩ : ∃ W1, W1 = w.drew.setCells g (0 + i * 1) news := ⟨_, rfl⟩
    have hB1 : Blk W1 g 3 (cur.toList.take i ++ news ++ cur.toList.drop (i + news.length)).toArray := by
      rw [hW1, Nat.mul_one, Nat.zero_add]
      exact Blk.setCells news i _ _ hcur.drew (by omega)
    have hG1 : w.grownBy W1 (some g) := by rw [hW1]; exact grown_setCells _ _ _ (g_drew (g_refl _ _))
    have hcl : ∀ ty, (Builtin.clear_ #[22] ty #[.slice (some ⟨g, i + (n - j), none⟩) (n - (i + (n - j))) (cap - (i + (n - j)))]).run Tryd.prog W1 = .ok (.tuple #[]) (W1.setCells g (i + (n - j)) (List.replicate (n - (i + (n - j))) (.int .i64 0))) :=
      fun ty => Lib.run_clear_slice W1 _ _ ty _ Tryd.underlying22 Tryd.zeroValue3 rfl rfl g (i + (n - j)) _ _ (by omega)
        (fun t ht => by rw [hB1.cell]; rw [Array.getElem?_eq_getElem (by simp; omega)]; rfl) (fun t ht => hB1.frozen _)
    have hW : Hid (W1 = w.drew.setCells g (0 + i * 1) news) := hW1
    have X2 := Lib.hid hB1
    have X3 := Lib.hid hG1
    have X4 := Lib.hid hcur
    have X5 := Lib.hid hcs
    have X6 := Lib.hid htk
    have X7 := Lib.hid h
    have X8 := Lib.hid hlx
    have X9 := Lib.hid hlen
    have X10 := Lib.hid hnews
    have hic : i ≤ cap := by omega
    have hjc : j ≤ cap := by omega
    clear hW1 hB1 hG1 hcur hcs htk h hlx hlen hnews hget hcell hfz hsome hz0 hz2 hcm'
    go_enter Tryd.func38, Tryd.ntmps38
    go_wp2_with fail
    go_region_law (refine step_append_room rfl (.tmp 22) (.tmp 25) 22 rfl 3 i0 1 Tryd.underlying22 hi0 hz1 g 0 i cap (by simp [Act.eval, Act.put]) A (n - j) (cap - j) news (by simp [Act.eval, Act.put]) s1.out hsrc.out s2.out (by omega) s3.out ?_; rw [← hW.out])
    go_wp2
    go_ret
    refine ⟨by rw [show n - (j - i) = i + (n - j) by omega]; rfl, ?_, grown_setCells _ _ _ X3.out⟩
    have hB2 := Blk.setCells (List.replicate (n - (i + (n - j))) (.int .i64 0)) (i + (n - j)) _ _ X2.out (by simp [X9.out, X5.out]; omega)
    rw [show n - (j - i) = i + (n - j) by omega]
    have hbase := (own_row X7.out g rfl).1
    have hlx := X8.out
    have hl9 := X9.out
    have hcs := X5.out
    refine ⟨by simp; omega, .inr ⟨g, cap, _, rfl, hbase, hB2, by omega, by unfold maxLen; omega, by simp [hl9, hcs]; omega, ?_⟩⟩
    have htk := X6.out
    have hnw := X10.out
    rw [Nat.mul_one]
    simp only [List.map_append]
    rw [← hnw, List.append_assoc, List.take_append_of_le_length (by simp [hl9, hcs]; omega), List.take_take, Nat.min_self]
    have hcl2 : cur.toList.length = cap := by rw [Array.length_toList]; exact hcs
    have hti : (cur.toList.take i).length = i := by rw [List.length_take, hcl2]; omega
    rw [List.append_assoc, List.take_append, hti, List.take_of_length_le (by omega : (cur.toList.take i).length ≤ i + (n - j)), show i + (n - j) - i = n - j by omega, List.take_append_of_le_length (by omega), List.take_of_length_le (by omega : news.length ≤ n - j)]
    congr 1
    rw [List.map_take, ← htk, List.take_take, show min i n = i by omega]

end Go.Proofs.YtaidekdmhmoaeaaDoor
