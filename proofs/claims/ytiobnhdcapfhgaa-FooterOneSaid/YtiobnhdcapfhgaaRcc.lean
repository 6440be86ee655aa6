/-
  slices.Grow at nil and slices.Concat at two slices of records.
-/
import Derived.Test.YtiobnhdcapfhgaaRcd
import Derived.Lib.AppendZerosOnto
namespace Go.Proofs.Ytiobnhdcapfhgaa
open Go.RowKit
set_option linter.unusedVariables false
set_option linter.unusedSimpArgs false
def Own0r (w : World) (e : Ending) (w' : World) : Prop := ∃ (A : Option Addr) (c : Nat), e = .returned (.slice A 0 c) ∧ w'.ownsRow w.heap.size 46 4 (.slice A 0 c) 0 [] ∧ Below w.heap.size w w'
set_option maxRecDepth 100000 in
set_option maxHeartbeats 1600000 in
theorem rgrow_nil (n : Nat) (w : World) (hn : n ≤ 1000) : Calls Try.prog 45 #[.slice none 0 0, .int .i64 n] w (Own0r w) := by
  obtain ⟨i0, hi0, hz0, hz1, hz2⟩ := info_parts rec_info
  by_cases h0 : n = 0
  · subst h0
    go_enter Try.func45, Try.ntmps45
    go_wp2_with fail
    go_ret
    exact ⟨none, 0, rfl, World.ownsRow_nil _ _ _ _, Below.refl _ _⟩
  · have z1 : (0 : Int) < (n : Int) := by omega
    have z2 : (0 : Int) ≤ (n : Int) := by omega
    obtain ⟨G, hG⟩ : ∃ G, G = grownCap w n 0 46 := ⟨_, rfl⟩
    have hGn : n ≤ G := by rw [hG]; exact grownCap_ge w n 0 46
    have hGm : G ≤ maxLen := by rw [hG]; exact grownCap_le_maxLen w n 0 46 (by unfold maxLen; omega)
    have hrz : ∀ ty, (Builtin.append_ #[49, 3] ty #[.slice none 0 0, .int .i64 (n : Int)]).run Try.prog w = .ok (.slice (some ⟨w.heap.size, 0, none⟩) n G) (w.drew.alloc (.cells (Builtin.zeroCells #[.int .i64 0, .int .i64 0, .string ⟨#[]⟩, .string ⟨#[]⟩] n ++ Builtin.zeroCells #[.int .i64 0, .int .i64 0, .string ⟨#[]⟩, .string ⟨#[]⟩] (G - n)) 46)) := by
      intro ty
      have h := Lib.run_append_grow_zeros (P := Try.prog) w 49 3 ty 46 i0 _ .i64 .i64 Try.underlying49 Try.underlying3 hi0 hz0 none 0 0 [] (run_firstCells_none w.drew i0.size 0 0 0) n (by omega) (by omega) (by omega) (by omega) (by rw [hz2]; omega)
        (by
          have := nextslicecap_zero (show 0 < 0 + n by omega)
          rw [hz2, this]; omega)
      simp only [Nat.zero_add] at h
      rw [← hG] at h
      simpa [Value.cells] using h
    have hcz : (Builtin.zeroCells #[Value.int .i64 0, .int .i64 0, .string ⟨#[]⟩, .string ⟨#[]⟩] n ++ Builtin.zeroCells #[Value.int .i64 0, .int .i64 0, .string ⟨#[]⟩, .string ⟨#[]⟩] (G - n)).size = G * 4 := by
      simp [size_zeroCells]; omega
    obtain ⟨cz, hcz'⟩ : ∃ cz, cz = Builtin.zeroCells #[Value.int .i64 0, .int .i64 0, .string ⟨#[]⟩, .string ⟨#[]⟩] n ++ Builtin.zeroCells #[Value.int .i64 0, .int .i64 0, .string ⟨#[]⟩, .string ⟨#[]⟩] (G - n) := ⟨_, rfl⟩
    rw [← hcz'] at hrz hcz
    have HG := Lib.hid hG
    have HC := Lib.hid hcz
    have hGi : (G : Int) ≤ 9223372036854775807 := by unfold maxLen at hGm; omega
    clear hG hcz' hcz h0
    go_enter Try.func45, Try.ntmps45
    go_wp2_with (at_builtin; refine Lib.wpList_append_run _ rfl _ _ _ _ rfl _ _ rfl rfl _ _ (hrz _) ?_)
    go_ret
    refine ⟨_, G, rfl, ⟨rfl, .inr ⟨w.heap.size, G, cz, rfl, Nat.le_refl _, heap_alloc_new w.drew _, Nat.zero_le _, hGm, HC.out, by simp⟩⟩, b_alloc (Below.drew (Below.refl _ _)) _⟩
set_option maxRecDepth 100000 in
set_option maxHeartbeats 3200000 in
theorem rconcat_two (g : Nat) (A1 A2 : Option Addr) (n1 c1 n2 c2 : Nat) (r1 r2 : List Rc) (w : World) (hg : Blk w g 49 #[.slice A1 n1 c1, .slice A2 n2 c2]) (h1 : IsRs w A1 r1) (h2 : IsRs w A2 r2) (e1 : r1.length = n1) (e2 : r2.length = n2) (hn1 : n1 ≤ 100) (hn2 : n2 ≤ 100) :
    Calls Try.prog 33 #[.slice (some ⟨g, 0, none⟩) 2 2] w fun e w' => (∃ v, e = .returned v ∧ w'.ownsRow w.heap.size 46 4 v (n1 + n2) (flat (r1 ++ r2))) ∧ Below w.heap.size w w' := by
  obtain ⟨i0, hi0, hz0, hz1, hz2⟩ := info_parts rec_info
  have c0 := hg.cell 0
  have c1' := hg.cell 1
  have hgl := hg.lt
  have hx1 : ∀ u ∈ flat r1, u.oneCell' = true := flat_one r1
  have hx2 : ∀ u ∈ flat r2, u.oneCell' = true := flat_one r2
  simp at c0 c1'
  have E1 := Lib.hid e1
  have E2 := Lib.hid e2
  clear e1 e2
  go_enter Try.func33, Try.ntmps33
  go_wp2_with fail
  refine wp_loop_rounds 3 ?_
  rw [rounds_succ]
  go_wp2_with fail
  rw [rounds_succ]
  go_wp2_with fail
  rw [rounds_succ]
  go_wp2_with fail
  have hG := rgrow_nil (n1 + n2) w (by omega)
  rw [show ((n1 + n2 : Nat) : Int) = (n1 : Int) + (n2 : Int) from by omega] at hG
  refine hG.mono ?_
  rintro e w1 ⟨A, c, rfl, o1, hb1⟩
  clear hG
  have d0 : w1.cell? ⟨g, 0, none⟩ = some (.slice A1 n1 c1) := (hb1.cell (p := ⟨g, 0, none⟩) hgl).trans c0
  have hr1 := (h1.later hb1).reads
  rw [E1.out] at hr1
  have j1 : 0 + n1 ≤ maxLen := by unfold maxLen; omega
  have j2 : (0 + n1) * 48 ≤ 140737488355328 := by omega
  have j3 := hb1.size
  have j4 : n1 + n2 ≤ maxLen := by unfold maxLen; omega
  have j5 : (n1 + n2) * 48 ≤ 140737488355328 := by omega
  have C1 := Lib.hid c1'
  have H1 := Lib.hid h1
  have H2 := Lib.hid h2
  clear c0 c1' h1 h2 hg
  go_wp2_with fail
  refine wp_loop_rounds 3 ?_
  rw [rounds_succ]
  go_wp2_with (first
    | (at_builtin; refine wpList_append_any _ rfl (.tmp 31) (.tmp 32) _ rfl w.heap.size 46 i0 _ 4 48 Try.underlying49 hi0 hz0 hz1 hz2 rfl (by omega) _ 0 _ rfl o1 w1.heap.size _ n1 c1 _ rfl hr1 hx1 j1 j2 j3 ?_; intro v2 w2 o2 hg2 hat2; simp only [Nat.zero_add, List.nil_append] at o2; have hB2 := hb1.grown hg2 j3 (fun k hk => (World.ownsRow.lt o1 k hk).1); have d1 : w2.cell? ⟨g, 1, none⟩ = some (.slice A2 n2 c2) := (hB2.cell (p := ⟨g, 1, none⟩) hgl).trans C1.out; have hr2 := (H2.out.later hB2).reads; rw [E2.out] at hr2; have j6 := hB2.size; clear o1 hr1 hg2 hat2 d0))
  rw [rounds_succ]
  go_wp2_with (first
    | (at_builtin; refine wpList_append_any _ rfl (.tmp 31) (.tmp 32) _ rfl w.heap.size 46 i0 _ 4 48 Try.underlying49 hi0 hz0 hz1 hz2 rfl (by omega) _ n1 _ rfl o2 w2.heap.size _ n2 c2 _ rfl hr2 hx2 j4 j5 j6 ?_; intro v3 w3 o3 hg3 hat3; have hB3 := hB2.grown hg3 j6 (fun k hk => (World.ownsRow.lt o2 k hk).1); clear o2 hr2 hg3 hat3 d1))
  rw [rounds_succ]
  go_wp2_with fail
  go_ret
  rw [← flat_app] at o3
  exact ⟨⟨_, rfl, o3⟩, hB3⟩
end Go.Proofs.Ytiobnhdcapfhgaa
