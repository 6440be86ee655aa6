/-
  Chapter 16, the second part: entries, joined bytes, the examples, text by text. No condition.
-/
import Derived.Test.YtjcdflohkajbcaaSA
import Derived.Test.YtjcdflohkajbcaaRet
import Derived.Test.YtjcdflohkajbcaaRt4
import Derived.Test.YtjcdflohkajbcaaZer
import Derived.Test.YtjcdflohkajbcaaArg
/-
  The entries of the records of bytes: the program.
-/
namespace Go.Proofs.Ytjcdflohkajbcaa
open Go.RowKit Go.Shelf
set_option linter.unusedVariables false
set_option linter.unusedSimpArgs false
attribute [local go_sem] Oper.semAt_some
/-- an entry's cells -/
def eCs (slot : Int) (x : Nat × Rc) : Array Value := #[.int .i64 x.2.seq, .string x.2.key, .bool (x.2.kind == 2), .int .i64 slot, .int .i64 (x.1 : Nat), .int .i64 (x.2.size : Nat)]
def flatE (slot : Int) (xs : List (Nat × Rc)) : List Value := xs.flatMap fun x => (eCs slot x).toList
theorem flatE_snoc (slot : Int) (xs : List (Nat × Rc)) (x : Nat × Rc) : flatE slot (xs ++ [x]) = flatE slot xs ++ (eCs slot x).toList := by simp [flatE]
theorem ent_info : (Try.prog.info? 57).map (fun i => (i.zero, i.size, i.bytes)) = some (some (.agg #[.int .i64 0, .string ⟨#[]⟩, .bool false, .int .i64 0, .int .i64 0, .int .i64 0]), 6, 56) := by kernel_rfl
theorem Reads.cells (w : World) (t : TypeId) (cs : Array Value) (k : Nat) (h : cs.size = k) : Reads (w.alloc (.cells cs t)) (w.heap.size + 1) k (some ⟨w.heap.size, 0, none⟩) 1 cs.toList :=
  ⟨by simp [h], fun _ => ⟨_, rfl, Nat.lt_succ_self _, fun j u hu => by
    rw [Addr.add_lit, (Blk.new w t cs).cell, Nat.zero_add]
    simpa using hu⟩⟩
def etI (w : World) (slot : Int) (A : Option Addr) (len cap : Nat) (M : List Int) (pre : List (Nat × Rc)) (W : World) : Prop :=
  ∃ v : Value, Blk W w.heap.size 3 #[.int .i64 slot] ∧ Blk W (w.heap.size + 1) 35 #[.slice none 0 0] ∧ Blk W (w.heap.size + 1 + 1) 36 #[.int .i64 0] ∧ Blk W (w.heap.size + 1 + 1 + 1) 35 #[v] ∧ W.ownsRow w.heap.size 57 6 v pre.length (flatE slot pre) ∧
    Blk W (w.heap.size + 1 + 1 + 1 + 1) 25 #[.slice A len cap] ∧ (0 < len → RB W A M ∧ At A w.heap.size) ∧ Below w.heap.size w W
theorem etI_own (w : World) (slot : Int) (A : Option Addr) (len cap : Nat) (M : List Int) (b : Nat) (hb : w.heap.size ≤ b) : OwnFrom b (etI w slot A len cap M) := by
  rintro s W W' row ⟨v, h1, h2, h3, h4, h4b, h5, h6, h7⟩ hg hr
  have hr' := fun r e => (hr r e).2
  refine ⟨v, h1.turn hg hr', h2.turn hg hr', h3.turn hg hr', h4.turn hg hr', own_turn h4b hg hr', h5.turn hg hr', fun hp => ⟨?_, (h6 hp).2⟩, below_turn h7 hg (fun r e => Nat.le_trans hb (hr r e).1) h7.size⟩
  exact (h6 hp).1.keep (below_turn (Below.refl w.heap.size W) hg (fun r e => Nat.le_trans hb (hr r e).1) h7.size) (h6 hp).2
set_option maxRecDepth 100000 in
theorem entries_range (A : Option Addr) (len cap : Nat) (slot : Int) (w : World) (h : slot < 0 ∨ 32 ≤ slot) :
    Calls Try.prog 15 #[.slice A len cap, .int .i64 slot] w fun e w' => e = .returned (.tuple #[.slice none 0 0, .int .i64 3]) ∧ Below w.heap.size w w' := by
  have h' : slot < 0 ∨ (0 ≤ slot ∧ 32 ≤ slot) := by omega
  rcases h' with h | ⟨h1, h⟩
  all_goals
    go_enter Try.func15, Try.ntmps15
    go_wp2_with fail
    exact bodyPost_ret (v := .tuple #[.slice none 0 0, .int .i64 3]) (by simp [results, Try.results15, go_sem]) rfl ⟨rfl, by repeat first | exact Below.refl _ _ | apply b_alloc⟩
set_option maxRecDepth 100000 in
theorem entries_long (A : Option Addr) (len cap : Nat) (slot : Int) (w : World) (h1 : 0 ≤ slot) (h2 : slot < 32) (h : 8192 < len) :
    Calls Try.prog 15 #[.slice A len cap, .int .i64 slot] w fun e w' => e = .returned (.tuple #[.slice none 0 0, .int .i64 2]) ∧ Below w.heap.size w w' := by
  have h3 : (8192 : Int) < (len : Int) := by omega
  have h4 : decide ((32 : Int) ≤ slot) = false := by rw [decide_eq_false_iff_not]; omega
  go_enter Try.func15, Try.ntmps15
  go_wp2_with fail
  exact bodyPost_ret (v := .tuple #[.slice none 0 0, .int .i64 2]) (by simp [results, Try.results15, go_sem]) rfl ⟨rfl, by repeat first | exact Below.refl _ _ | apply b_alloc⟩
set_option maxHeartbeats 3200000 in
set_option maxRecDepth 100000 in
theorem entries_yes (A : Option Addr) (len cap : Nat) (M : List Int) (slot : Int) (w : World) (xs : List (Nat × Rc)) (en : Nat) (hM0 : BA w A len cap M) (hs0 : 0 ≤ slot) (hs1 : slot < 32) (h5 : len ≤ 8192) (hS : Scanned M xs en) :
    Calls Try.prog 15 #[.slice A len cap, .int .i64 slot] w fun e w' => (∃ v, e = .returned (.tuple #[v, .int .i64 0]) ∧ w'.ownsRow w.heap.size 57 6 v xs.length (flatE slot xs)) ∧ Below w.heap.size w w' := by
  obtain ⟨i0, hi0, hz0, hz1, hz2⟩ := info_parts ent_info
  obtain ⟨hlen, hM, hBB, hl, hc⟩ := hM0
  have z5 : (len : Int) ≤ 8192 := by omega
  have z4 : decide ((32 : Int) ≤ slot) = false := by rw [decide_eq_false_iff_not]; omega
  refine (callsIn_wide (n := 5)).1 ?_
  refine callsIn_of_wp_marks Try.func15 rfl trivial ?_ rfl
  simp only [Try.ntmps15, List.size_toArray, List.length_cons, List.length_nil, Nat.reduceAdd, Nat.reduceSub, Array.replicate_succ, Array.replicate_zero, List.push_toArray, List.append_toArray, List.nil_append, List.cons_append]
  gi_wp2
  refine ⟨trivial, (callsIn_wide.2 (all_any _ _ _ _)).mono ?_⟩
  rintro e w' ⟨rfl, rfl⟩
  gi_wp2
  obtain ⟨w3, hw3⟩ : ∃ w3, w3 = ((((w.alloc (.cells #[.int .i64 slot] 3)).alloc (.cells #[.slice none 0 0] 35)).alloc (.cells #[.int .i64 0] 36)).alloc (.cells #[.slice none 0 0] 35)).alloc (.cells #[.slice A len cap] 25) := ⟨_, rfl⟩
  have hb3 : Below w.heap.size w w3 := by rw [hw3]; exact b_alloc (b_alloc (b_alloc (b_alloc (b_alloc (Below.refl _ _) _) _) _) _) _
  have hsz : w3.heap.size = w.heap.size + 1 + 1 + 1 + 1 + 1 := by rw [hw3]; simp
  have x1 : Blk w3 w.heap.size 3 #[.int .i64 slot] := by (rw [hw3]; unfold Blk; repeat (first | ((with_reducible refine alloc_here' ?_); (simp; done)) | (with_reducible apply alloc_old')))
  have x2 : Blk w3 (w.heap.size + 1) 35 #[.slice none 0 0] := by (rw [hw3]; unfold Blk; repeat (first | ((with_reducible refine alloc_here' ?_); (simp; done)) | (with_reducible apply alloc_old')))
  have x3 : Blk w3 (w.heap.size + 1 + 1) 36 #[.int .i64 0] := by (rw [hw3]; unfold Blk; repeat (first | ((with_reducible refine alloc_here' ?_); (simp; done)) | (with_reducible apply alloc_old')))
  have x4 : Blk w3 (w.heap.size + 1 + 1 + 1) 35 #[.slice none 0 0] := by (rw [hw3]; unfold Blk; repeat (first | ((with_reducible refine alloc_here' ?_); (simp; done)) | (with_reducible apply alloc_old')))
  have x5 : Blk w3 (w.heap.size + 1 + 1 + 1 + 1) 25 #[.slice A len cap] := by (rw [hw3]; unfold Blk; repeat (first | ((with_reducible refine alloc_here' ?_); (simp; done)) | (with_reducible apply alloc_old')))
  have hI0 : etI w slot A len cap M [] w3 := ⟨_, x1, x2, x3, x4, World.ownsRow_nil _ _ _ _, x5, fun hp => ⟨(hM hp).1.keep hb3 (hM hp).2, (hM hp).2⟩, hb3⟩
  clear x1 x2 x3 x4 x5
  rw [← hw3]
  have HW3 := Lib.hid hw3
  clear hw3
  refine range_own rfl (by omega) (gf := 32) (lb := #[.pointer (some ⟨w.heap.size + 1 + 1 + 1 + 1, 0, none⟩)]) rfl trivial (enters_of Try.func32 (by kernel_rfl) rfl)
    (encs := sEnc) (G := sG A len cap M (w.heap.size + 1 + 1 + 1 + 1)) (S := fun xs => ∃ e, Scanned M xs e) (Sp := fun xs => ∃ e, Chain M xs e) (fun _ => rfl)
    (fun W1 hW1 hs1 => scan_iter _ (by omega) A cap len M _ W1 hlen hBB hl hc)
    (etI w slot A len cap M) (fun _ _ _ => False) (etI_own w slot A len cap M _ (by omega)) (fun _ _ _ _ _ h _ _ => h)
    (fun s W h => by
      obtain ⟨v, h1, h2, h3, h4, h4b, h5, h6, h7⟩ := h
      exact ⟨fun hp => ⟨(h6 hp).1, (h6 hp).2.more h7.size⟩, h5.cell 0⟩)
    hI0 ?round ?done ?stop
  case stop => exact fun D c pre W hD _ h _ => h.elim
  case done =>
    clear hI0 hb3
    rintro D ys W hD ⟨e', hS'⟩ hI hK
    obtain ⟨rfl, rfl⟩ := scanned_unique hS' hS
    obtain ⟨v, h1, h2, h3, h4, h4b, h5, h6, h7⟩ := hI
    obtain ⟨A', cap', rfl⟩ : ∃ A' cap', v = .slice A' ys.length cap' := by
      rcases h4b.2 with ⟨rfl, h0⟩ | ⟨g, cap, cur, rfl, _⟩
      · exact ⟨none, 0, by rw [h0]⟩
      · exact ⟨_, _, rfl⟩
    have c2' := h2.cell
    have f2 := h2.frozen
    have c3 := h3.cell
    have f3 := h3.frozen
    have c4 := h4.cell
    have g2 := (h2.set_ 0 (.slice A' ys.length cap')).far (p := ⟨w.heap.size + 1 + 1, 0, none⟩) (by show w.heap.size + 1 ≠ w.heap.size + 1 + 1; omega) (.int .i64 0)
    have g3 := (h3.far (p := ⟨w.heap.size + 1, 0, none⟩) (by show w.heap.size + 1 + 1 ≠ w.heap.size + 1; omega) (.slice A' ys.length cap')).set_ 0 (.int .i64 0)
    have c3' := (h3.far (p := ⟨w.heap.size + 1, 0, none⟩) (by show w.heap.size + 1 + 1 ≠ w.heap.size + 1; omega) (.slice A' ys.length cap')).cell
    have f3' := (h3.far (p := ⟨w.heap.size + 1, 0, none⟩) (by show w.heap.size + 1 + 1 ≠ w.heap.size + 1; omega) (.slice A' ys.length cap')).frozen
    have o7 := own_set (own_set h4b (p := ⟨w.heap.size + 1, 0, none⟩) (h2.ne_row (by decide) h4b) (.slice A' ys.length cap')) (p := ⟨w.heap.size + 1 + 1, 0, none⟩) (h3.ne_row (by decide) h4b) (.int .i64 0)
    have hK' : ((W.setCell ⟨w.heap.size + 1, 0, none⟩ (.slice A' ys.length cap')).setCell ⟨w.heap.size + 1 + 1, 0, none⟩ (.int .i64 0)).heap[D]? = some (.deferred (some [])) := ((Below.heap_setCell _ ⟨w.heap.size + 1 + 1, 0, none⟩ _ D (by show D ≠ w.heap.size + 1 + 1; omega)).trans (Below.heap_setCell _ ⟨w.heap.size + 1, 0, none⟩ _ D (by show D ≠ w.heap.size + 1; omega))).trans hK
    have hB' := (h7.setCell (p := ⟨w.heap.size + 1, 0, none⟩) (by show w.heap.size ≤ w.heap.size + 1; omega) (.slice A' ys.length cap')).setCell (p := ⟨w.heap.size + 1 + 1, 0, none⟩) (by show w.heap.size ≤ w.heap.size + 1 + 1; omega) (.int .i64 0)
    clear hM hS hS' hK h1 h2 h3 h4 h5 h6 h7 h4b
    gi_wp2
    refine ⟨by simp, .inl ⟨_, _, rfl, run_takeDeferred hK', ?_⟩⟩
    have k2 := (g2.putObj (l := D) (by omega) (.deferred none)).cell
    have k3 := (g3.putObj (l := D) (by omega) (.deferred none)).cell
    refine ⟨_, by simp [results, Try.results15, go_sem, k2, k3], ⟨_, rfl, ownsRow_putObj o7 _ hK' rfl⟩, hB'.trans (below_putObj _ D (.deferred none) (by omega))⟩
  case round =>
    have HRB0 := Lib.hid hM
    clear hI0 hb3 hM
    rintro l pre ⟨off, kind, sq, key, val⟩ W hl1 hl2 ⟨en2, hch⟩ hI
    obtain ⟨c1, c2, c3⟩ := chain_le hBB hch
    obtain ⟨c4, c5⟩ := c3 (off, ⟨kind, sq, key, val⟩) (by simp)
    have hpl : pre.length ≤ 10000 := by rw [List.length_append, List.length_singleton] at c2; omega
    have c4 : off ≤ len := by rw [← hlen]; exact c4
    have hent := fun w => entry_yes ⟨kind, sq, key, val⟩ slot off c5 hs0 hs1 (by omega) (by omega) w
    have hfl := flatE_snoc slot pre (off, ⟨kind, sq, key, val⟩)
    have hprl : (pre ++ [(off, (⟨kind, sq, key, val⟩ : Rc))]).length = pre.length + 1 := by simp
    obtain ⟨pr, hpr⟩ : ∃ pr, pr = pre ++ [(off, (⟨kind, sq, key, val⟩ : Rc))] := ⟨_, rfl⟩
    rw [← hpr] at hfl hprl ⊢
    obtain ⟨N, hN⟩ : ∃ N, N = Rc.size ⟨kind, sq, key, val⟩ := ⟨_, rfl⟩
    have hec : eCs slot (off, ⟨kind, sq, key, val⟩) = #[.int .i64 sq, .string key, .bool (kind == 2), .int .i64 slot, .int .i64 (off : Nat), .int .i64 (N : Nat)] := by rw [hN]; rfl
    rw [hec] at hfl
    have hent : ∀ w : World, Calls Try.prog 35 #[.agg #[.int .i64 kind, .int .i64 sq, .string key, .string val], .int .i64 slot, .int .i64 (off : Nat)] w fun e w' => e = .returned (.tuple #[.agg #[.int .i64 sq, .string key, .bool (kind == 2), .int .i64 slot, .int .i64 (off : Nat), .int .i64 (N : Nat)], .int .i64 0]) ∧ Below w.heap.size w w' := by rw [hN]; exact hent
    obtain ⟨L, hL⟩ : ∃ L, L = pre.length := ⟨_, rfl⟩
    rw [← hL] at hpl hprl
    have HF := Lib.hid hfl
    have HL := Lib.hid hprl
    have HLL := Lib.hid hL
    clear hfl hprl hch c1 c2 c3 c5 hpr hS hBB hL hN hec
    simp only [sEnc, List.zip_toArray, List.zip_cons_cons, List.zip_nil_right, List.foldl_toArray, List.foldl_cons, List.foldl_nil, List.setIfInBounds_toArray, List.set_cons_zero, List.set_cons_succ]
    gi_wp2
    refine ⟨KeepsFrom.new (b_alloc (Below.refl _ W) _), own_new (etI_own w slot A len cap M w3.heap.size (by omega)) hI (b_alloc (Below.refl _ W) _), fun o hIo => ?_⟩
    have y1 := (Blk.new W 34 #[.int .i64 kind, .int .i64 sq, .string key, .string val]).putObj (l := l) (by omega) o
    clear hI
    generalize (W.alloc (.cells #[.int .i64 kind, .int .i64 sq, .string key, .string val] 34)).putObj l o = Wq at y1 hIo ⊢
    obtain ⟨v, h1, h2, h3, h4, h4b, h5, h6, h7⟩ := hIo
    rw [← HLL.out] at h4b
    have e1 := h1.cell
    have e2 := y1.cell
    gi_wp2
    refine ⟨trivial, (CallsIn.inRound l (callsIn_wide.2 (hent _))).mono ?_⟩
    rintro e w5 ⟨rfl, hb5⟩
    have hX := Blk.new w5 57 #[.int .i64 sq, .string key, .bool (kind == 2), .int .i64 slot, .int .i64 (off : Nat), .int .i64 (N : Nat)]
    have hb6 : Below Wq.heap.size Wq (w5.alloc (.cells #[.int .i64 sq, .string key, .bool (kind == 2), .int .i64 slot, .int .i64 (off : Nat), .int .i64 (N : Nat)] 57)) := b_alloc hb5 _
    have j1 := h1.below hb6 h1.lt
    have j2 := h2.below hb6 h2.lt
    have j3 := h3.below hb6 h3.lt
    have j4 := h4.below hb6 h4.lt
    have j5 := h5.below hb6 h5.lt
    have o2 := own_below h4b hb6
    have j7 := b_then h7 hb6
    have hk6 : KeepsFrom w3.heap.size Wq (w5.alloc (.cells #[.int .i64 sq, .string key, .bool (kind == 2), .int .i64 slot, .int .i64 (off : Nat), .int .i64 (N : Nat)] 57)) := KeepsFrom.new hb6
    have hnr : some w5.heap.size ≠ v.ownBlock := fun e' => by
      have := (World.ownsRow.lt (own_below h4b hb5) _ e'.symm).2
      omega
    clear h1 h2 h3 h4 h4b h5 h6 h7 e1 e2 y1 hb5 hb6 hent
    have o3 := own_below o2 (b_alloc (Below.refl _ (w5.alloc (.cells #[.int .i64 sq, .string key, .bool (kind == 2), .int .i64 slot, .int .i64 (off : Nat), .int .i64 (N : Nat)] 57))) (.cells #[.int .i64 sq, .string key, .bool (kind == 2), .int .i64 slot, .int .i64 (off : Nat), .int .i64 (N : Nat)] 57))
    have hrd := Reads.cells (w5.alloc (.cells #[.int .i64 sq, .string key, .bool (kind == 2), .int .i64 slot, .int .i64 (off : Nat), .int .i64 (N : Nat)] 57)) 57 #[.int .i64 sq, .string key, .bool (kind == 2), .int .i64 slot, .int .i64 (off : Nat), .int .i64 (N : Nat)] 6 rfl
    rw [World.size_alloc] at hrd
    have k4 : ∀ u ∈ (#[.int .i64 sq, .string key, .bool (kind == 2), .int .i64 slot, .int .i64 (off : Nat), .int .i64 (N : Nat)] : Array Value).toList, u.oneCell' = true := by intro u hu; simp at hu; rcases hu with rfl | rfl | rfl | rfl | rfl | rfl <;> rfl
    have k5 : L + 1 ≤ maxLen := by unfold maxLen; omega
    have k6 : (L + 1) * 56 ≤ 140737488355328 := by omega
    have j8 := b_alloc j7 (.cells #[.int .i64 sq, .string key, .bool (kind == 2), .int .i64 slot, .int .i64 (off : Nat), .int .i64 (N : Nat)] 57)
    have k7 := j8.size
    have m1 := j1.alloc (.cells #[.int .i64 sq, .string key, .bool (kind == 2), .int .i64 slot, .int .i64 (off : Nat), .int .i64 (N : Nat)] 57)
    have m2 := j2.alloc (.cells #[.int .i64 sq, .string key, .bool (kind == 2), .int .i64 slot, .int .i64 (off : Nat), .int .i64 (N : Nat)] 57)
    have m3 := j3.alloc (.cells #[.int .i64 sq, .string key, .bool (kind == 2), .int .i64 slot, .int .i64 (off : Nat), .int .i64 (N : Nat)] 57)
    have m4 := j4.alloc (.cells #[.int .i64 sq, .string key, .bool (kind == 2), .int .i64 slot, .int .i64 (off : Nat), .int .i64 (N : Nat)] 57)
    have m5 := j5.alloc (.cells #[.int .i64 sq, .string key, .bool (kind == 2), .int .i64 slot, .int .i64 (off : Nat), .int .i64 (N : Nat)] 57)
    have e1 := j4.cell
    have e2 := hX.cell
    gi_wp2_with (first
      | (gi_at_builtin; refine wpListIn_append_any _ rfl (.tmp 36) (.tmp 38) _ rfl w.heap.size 57 i0 _ 6 56 Try.underlying35 hi0 hz0 hz1 hz2 rfl (by omega) _ L _ rfl o3 _ _ 1 1 _ rfl hrd k4 k5 k6 k7 ?_; intro v7 w7 o7 hg7 hat7; obtain ⟨g7, cap7, rfl⟩ := ownsRow_succ o7; have q1 := m1.grown hg7 (m1.ne_row (by decide) o3); have q2 := m2.grown hg7 (m2.ne_row (by decide) o3); have q3 := m3.grown hg7 (m3.ne_row (by decide) o3); have q4 := m4.grown hg7 (m4.ne_row (by decide) o3); have q5 := m5.grown hg7 (m5.ne_row (by decide) o3); have f1 := q4.cell; have f2 := q4.frozen))
    have hB1 := (j8.grown hg7 k7 (fun k hk => (World.ownsRow.lt o3 k hk).1)).setCell (p := ⟨w.heap.size + 1 + 1 + 1, 0, none⟩) (by show w.heap.size ≤ w.heap.size + 1 + 1 + 1; omega) (.slice (some ⟨g7, 0, none⟩) (L + 1) cap7)
    refine ⟨by rw [← hsz]; exact ((hk6.trans (KeepsFrom.new (b_alloc (Below.refl _ _) _))).trans (KeepsFrom.grown hg7 (own_cells o3))).trans (KeepsFrom.set_ _ _ _), _, q1.far (p := ⟨w.heap.size + 1 + 1 + 1, 0, none⟩) (by show w.heap.size ≠ w.heap.size + 1 + 1 + 1; omega) _, q2.far (p := ⟨w.heap.size + 1 + 1 + 1, 0, none⟩) (by show w.heap.size + 1 ≠ w.heap.size + 1 + 1 + 1; omega) _, q3.far (p := ⟨w.heap.size + 1 + 1 + 1, 0, none⟩) (by show w.heap.size + 1 + 1 ≠ w.heap.size + 1 + 1 + 1; omega) _, q4.set_ 0 _, ?_, q5.far (p := ⟨w.heap.size + 1 + 1 + 1, 0, none⟩) (by show w.heap.size + 1 + 1 + 1 + 1 ≠ w.heap.size + 1 + 1 + 1; omega) _, fun hp => ⟨(HRB0.out hp).1.keep hB1 (HRB0.out hp).2, (HRB0.out hp).2⟩, hB1⟩
    rw [HL.out, HF.out]
    exact own_set o7 (p := ⟨w.heap.size + 1 + 1 + 1, 0, none⟩) (q4.ne_row (by decide) o7) _
end Go.Proofs.Ytjcdflohkajbcaa

/-
  The entries of the records of bytes: the document; two lists of entries that are the same.
-/
namespace Go.Proofs.Ytjcdflohkajbcaa
open Go.RowKit
set_option linter.unusedVariables false
set_option linter.unusedSimpArgs false
theorem RI.own {w : World} {B n c : Nat} {e : TypeId} {A : Option Addr} {L : List Value} (h : w.ownsRow B e 1 (.slice A n c) n L) : RI w A L := by
  obtain ⟨A', c', hq, h1, _⟩ := RI.of_own h
  injection hq with h2
  subst h2
  exact h1
theorem IsRs.own {w : World} {B c : Nat} {A : Option Addr} {rs : List Rc} (h : w.ownsRow B 34 4 (.slice A rs.length c) rs.length (flat rs)) (hs : ∀ r ∈ rs, r.Sz) : IsRs w A rs := by
  obtain ⟨A', c', hq, h1, _⟩ := IsRs.of_own h hs
  injection hq with h2
  subst h2
  exact h1
theorem b_set6 {a w : World} {g : Nat} (h : Below a.heap.size a w) (hg : a.heap.size ≤ g) (u0 u1 u2 u3 u4 u5 : Value) : Below a.heap.size a ((((((w.setCell ⟨g, 0, none⟩ u0).setCell ⟨g, 1, none⟩ u1).setCell ⟨g, 2, none⟩ u2).setCell ⟨g, 3, none⟩ u3).setCell ⟨g, 4, none⟩ u4).setCell ⟨g, 5, none⟩ u5) :=
  (((((h.setCell (by exact hg) _).setCell (by exact hg) _).setCell (by exact hg) _).setCell (by exact hg) _).setCell (by exact hg) _).setCell (by exact hg) _
theorem cells5 {w : World} {b1 o1 b2 o2 q off : Nat} {xs : List (Nat × Rc)} {kind sq : Int} {key val : ByteArray} (h1 : RI w (some ⟨b1, o1, none⟩) (offs xs)) (h2 : IsRs w (some ⟨b2, o2, none⟩) (xs.map Prod.snd)) (hx : xs[q]? = some (off, ⟨kind, sq, key, val⟩)) {w' : World} (hb : Below w.heap.size w w') :
    w'.cell? ⟨b1, o1 + q, none⟩ = some (.int .i64 (off : Nat)) ∧ w'.cell? ⟨b2, o2 + q * 4, none⟩ = some (.int .i64 kind) ∧ w'.cell? ⟨b2, o2 + q * 4 + 1, none⟩ = some (.int .i64 sq) ∧ w'.cell? ⟨b2, o2 + q * 4 + 2, none⟩ = some (.string key) ∧ w'.cell? ⟨b2, o2 + q * 4 + 3, none⟩ = some (.string val) := by
  have hk : xs ≠ [] := by intro h; subst h; simp at hx
  obtain ⟨b, o, hq, _, hc⟩ := (h1.later hb).resolve_left (by intro h; exact hk (List.map_eq_nil_iff.1 h))
  injection hq with hq
  injection hq with q1 q2
  subst q1 q2
  obtain ⟨b', o', hq', _, d2, d3, d4, d5⟩ := (h2.later hb).at_ (i := q) (r := ⟨kind, sq, key, val⟩) (by rw [List.getElem?_map, hx]; rfl)
  injection hq' with hq'
  injection hq' with q1 q2
  subst q1 q2
  exact ⟨hc q _ (by rw [offs, List.getElem?_map, hx]; rfl), d2, d3, d4, d5⟩
set_option maxRecDepth 100000 in
theorem rentries_range (A : Option Addr) (len cap : Nat) (slot : Int) (w : World) (h : slot < 0 ∨ 32 ≤ slot) :
    Calls Try.prog 24 #[.slice A len cap, .int .i64 slot] w fun e w' => e = .returned (.tuple #[.slice none 0 0, .int .i64 3]) ∧ Below w.heap.size w w' := by
  have h' : slot < 0 ∨ (0 ≤ slot ∧ 32 ≤ slot) := by omega
  rcases h' with h | ⟨h1, h⟩
  all_goals
    go_enter Try.func24, Try.ntmps24
    go_wp2_with fail
    go_ret2
    exact ⟨rfl, Below.refl _ _⟩
set_option maxRecDepth 100000 in
theorem rentries_long (A : Option Addr) (len cap : Nat) (slot : Int) (w : World) (h1 : 0 ≤ slot) (h2 : slot < 32) (h : 8192 < len) :
    Calls Try.prog 24 #[.slice A len cap, .int .i64 slot] w fun e w' => e = .returned (.tuple #[.slice none 0 0, .int .i64 2]) ∧ Below w.heap.size w w' := by
  have h3 : (8192 : Int) < (len : Int) := by omega
  have h4 : decide ((32 : Int) ≤ slot) = false := by rw [decide_eq_false_iff_not]; omega
  go_enter Try.func24, Try.ntmps24
  go_wp2_with fail
  go_ret2
  exact ⟨rfl, Below.refl _ _⟩
set_option maxHeartbeats 3200000 in
set_option maxRecDepth 100000 in
theorem rentries_yes (A : Option Addr) (len cap : Nat) (M : List Int) (slot : Int) (w : World) (xs : List (Nat × Rc)) (en : Nat) (hM : BA w A len cap M) (hs0 : 0 ≤ slot) (hs1 : slot < 32) (h5 : len ≤ 8192) (hS : Scanned M xs en) :
    Calls Try.prog 24 #[.slice A len cap, .int .i64 slot] w fun e w' => (∃ v, e = .returned (.tuple #[v, .int .i64 0]) ∧ w'.ownsRow w.heap.size 57 6 v xs.length (flatE slot xs)) ∧ Below w.heap.size w w' := by
  obtain ⟨i0, hi0, hz0, hz1, hz2⟩ := info_parts ent_info
  have he0 := rall_any A len cap M w xs en hM (by omega) hS
  have hsz := own_sz hM.2.2.1 hS.1
  have hcl := chain_le hM.2.2.1 hS.1
  have hxl : (xs.map Prod.snd).length = xs.length := by simp
  obtain ⟨hc1, hc2, hc3⟩ := hcl
  rw [hM.1] at hc1 hc3
  clear hM hS
  have z5 : (len : Int) ≤ 8192 := by omega
  have z4 : decide ((32 : Int) ≤ slot) = false := by rw [decide_eq_false_iff_not]; omega
  have HX := Lib.hid hxl
  clear hxl
  go_enter Try.func24, Try.ntmps24
  go_wp2_with fail
  refine he0.mono ?_
  rintro e w1 ⟨⟨v1, v2, rfl, oa, ol⟩, hb1⟩
  obtain ⟨A1, c1, rfl, _, hn1, hm1⟩ := RI.of_own oa
  obtain ⟨A2, c2, hv2, _, hn2, hm2⟩ := IsRs.of_own (rs := xs.map Prod.snd) (by rw [HX.out]; exact ol) hsz
  rw [HX.out] at hv2 hn2
  subst hv2
  obtain ⟨n, hn⟩ : ∃ n, n = xs.length := ⟨_, rfl⟩
  rw [← hn] at oa ol hn1 hn2 hc2 ⊢
  have HN := Lib.hid hn
  clear hn he0
  have hnl : n ≤ 1000 := by omega
  unfold maxLen at hm1 hm2
  go_wp2_with fail
  go_loopw [9, 10] (fun o i wr => ∃ q : Nat, q ≤ n ∧ i = .int .i64 q ∧ wr.ownsRow w.heap.size 3 1 (.slice A1 n c1) n (offs xs) ∧ wr.ownsRow w.heap.size 34 4 (.slice A2 n c2) n (flat (xs.map Prod.snd)) ∧ wr.ownsRow w.heap.size 57 6 o q (flatE slot (xs.take q)) ∧ Below w.heap.size w wr) (fun _ i _ => n - (intOf i).toNat)
  case atStart => exact ⟨0, Nat.zero_le _, rfl, oa, ol, World.ownsRow_nil _ _ _ _, hb1⟩
  case round =>
    clear oa ol hb1
    obtain ⟨q, hq, rfl, oa, ol, oo, hB⟩ := hrel
    by_cases hlt : q < n
    · obtain ⟨⟨off, kind, sq, key, val⟩, hx⟩ : ∃ x, xs[q]? = some x := ⟨_, List.getElem?_eq_getElem (by have := HN.out; omega)⟩
      obtain ⟨hc4, hc5⟩ := hc3 _ (List.mem_of_getElem? hx)
      have hent := fun w => entry4_yes ⟨kind, sq, key, val⟩ slot off hc5 hs0 hs1 (by omega) (by have hc4 : off ≤ len := hc4; omega) w
      obtain ⟨N, hN⟩ : ∃ N, N = Rc.size ⟨kind, sq, key, val⟩ := ⟨_, rfl⟩
      have hent : ∀ w : World, Calls Try.prog 41 #[.agg #[.int .i64 kind, .int .i64 sq, .string key, .string val], .int .i64 slot, .int .i64 (off : Nat)] w fun e w' => e = .returned (.tuple #[.agg #[.int .i64 sq, .string key, .bool (kind == 2), .int .i64 slot, .int .i64 (off : Nat), .int .i64 (N : Nat)], .int .i64 0]) ∧ Below w.heap.size w w' := by rw [hN]; exact hent
      have hts : xs.take (q + 1) = xs.take q ++ [(off, ⟨kind, sq, key, val⟩)] := by rw [List.take_add_one, hx]; rfl
      have hfl : flatE slot (xs.take (q + 1)) = flatE slot (xs.take q) ++ (#[.int .i64 sq, .string key, .bool (kind == 2), .int .i64 slot, .int .i64 (off : Nat), .int .i64 (N : Nat)] : Array Value).toList := by rw [hts, flatE_snoc, hN]; rfl
      have hRI := RI.own oa
      have hRS := IsRs.own (rs := xs.map Prod.snd) (by rw [HX.out, ← HN.out]; exact ol) hsz
      have hk : xs ≠ [] := by intro h; subst h; simp at hx
      obtain ⟨b1, o1, rfl, _⟩ := id (hRI.resolve_left (by intro h; exact hk (List.map_eq_nil_iff.1 h)))
      obtain ⟨b2, o2, rfl, _⟩ := hRS.at_ (i := q) (r := ⟨kind, sq, key, val⟩) (by rw [List.getElem?_map, hx]; rfl)
      have hY1 : Below wr.heap.size wr wr.drew := Below.drew (Below.refl _ wr)
      have hY2 : Below wr.heap.size wr (wr.alloc (.cells #[.int .i64 0, .string ⟨#[]⟩, .bool false, .int .i64 0, .int .i64 0, .int .i64 0] 57)) := b_alloc (Below.refl _ wr) _
      have hY3 : Below wr.heap.size wr (wr.drew.alloc (.cells #[.int .i64 0, .string ⟨#[]⟩, .bool false, .int .i64 0, .int .i64 0, .int .i64 0] 57)) := b_alloc hY1 _
      have hY4 : Below wr.heap.size wr (wr.alloc (.cells #[.int .i64 0, .string ⟨#[]⟩, .bool false, .int .i64 0, .int .i64 0, .int .i64 0] 57)).drew := Below.drew hY2
      obtain ⟨a0, a1, a2, a3, a4⟩ := cells5 hRI hRS hx hY1
      obtain ⟨s0, s1, s2, s3, s4⟩ := cells5 hRI hRS hx hY2
      obtain ⟨d0, d1, d2, d3, d4⟩ := cells5 hRI hRS hx hY3
      obtain ⟨g0, g1, g2, g3, g4⟩ := cells5 hRI hRS hx hY4
      have hZ0 : Blk (wr.drew.alloc (.cells #[.int .i64 0, .string ⟨#[]⟩, .bool false, .int .i64 0, .int .i64 0, .int .i64 0] 57)) wr.heap.size 57 #[.int .i64 0, .string ⟨#[]⟩, .bool false, .int .i64 0, .int .i64 0, .int .i64 0] := Blk.new wr.drew 57 #[.int .i64 0, .string ⟨#[]⟩, .bool false, .int .i64 0, .int .i64 0, .int .i64 0]
      have hZ4 := (Blk.new wr 57 #[.int .i64 0, .string ⟨#[]⟩, .bool false, .int .i64 0, .int .i64 0, .int .i64 0]).drew
      have z1 : (q : Int) < (n : Int) := by omega
      have z2 : (0 : Int) ≤ (q : Int) := by omega
      have HF := Lib.hid hfl
      clear hfl hts hN hx hRI hRS hk hc4 hc5
      go_wp2_with fail
      go_cut [11, 12] (fun s11 s12 wx => ∃ g : Nat, s11 = .pointer (some ⟨g, 0, none⟩) ∧ Blk wx g 57 #[.int .i64 sq, .string key, .bool (kind == 2), .int .i64 slot, .int .i64 (off : Nat), .int .i64 (N : Nat)] ∧ Below wr.heap.size wr wx)
      case first =>
        go_region_with (go_at_call 41; (with_reducible refine (hent _).mono ?_); rintro e w7 ⟨rfl, hbk⟩; (first | (have hSm : Below wr.heap.size wr w7 := (by with_reducible exact b_then hY1 hbk)) | (have hSm : Below wr.heap.size wr w7 := (by with_reducible exact b_then hY4 hbk); have hNb := hZ4.below hbk hZ4.lt; have cNb := hNb.cell; have fNb := hNb.frozen)))
        all_goals (go_wp2_with fail; go_meet; (first | (refine ⟨_, rfl, (by with_reducible exact Blk.new _ _ _), (by with_reducible exact b_alloc hSm _)⟩) | (refine ⟨_, rfl, (by with_reducible exact hNb.set6 _ _ _ _ _ _), (by with_reducible exact b_set6 hSm (Nat.le_refl _) _ _ _ _ _ _)⟩)))
      case rest =>
        obtain ⟨g, rfl, hG, hBc⟩ := hcut
        have cG := hG.cell
        have o3 := own_below (own_below oo hBc) (b_alloc (Below.refl _ wc) (.cells #[.int .i64 sq, .string key, .bool (kind == 2), .int .i64 slot, .int .i64 (off : Nat), .int .i64 (N : Nat)] 57))
        have oa3 := own_below (own_below oa hBc) (b_alloc (Below.refl _ wc) (.cells #[.int .i64 sq, .string key, .bool (kind == 2), .int .i64 slot, .int .i64 (off : Nat), .int .i64 (N : Nat)] 57))
        have ol3 := own_below (own_below ol hBc) (b_alloc (Below.refl _ wc) (.cells #[.int .i64 sq, .string key, .bool (kind == 2), .int .i64 slot, .int .i64 (off : Nat), .int .i64 (N : Nat)] 57))
        have j3 := b_alloc (b_then hB hBc) (.cells #[.int .i64 sq, .string key, .bool (kind == 2), .int .i64 slot, .int .i64 (off : Nat), .int .i64 (N : Nat)] 57)
        have hrd := Reads.cells wc 57 #[.int .i64 sq, .string key, .bool (kind == 2), .int .i64 slot, .int .i64 (off : Nat), .int .i64 (N : Nat)] 6 rfl
        have k4 : ∀ u ∈ (#[.int .i64 sq, .string key, .bool (kind == 2), .int .i64 slot, .int .i64 (off : Nat), .int .i64 (N : Nat)] : Array Value).toList, u.oneCell' = true := by intro u hu; simp at hu; rcases hu with rfl | rfl | rfl | rfl | rfl | rfl <;> rfl
        have k5 : q + 1 ≤ maxLen := by unfold maxLen; omega
        have k6 : (q + 1) * 56 ≤ 140737488355328 := by omega
        have k7 := j3.size
        clear hG hBc oo oa ol hB hent a0 a1 a2 a3 a4 s0 s1 s2 s3 s4 d0 d1 d2 d3 d4 g0 g1 g2 g3 g4 hZ0 hY1 hY2 hY3 hY4
        go_wp2_with (first
          | (at_builtin; refine wpList_append_any _ rfl (.tmp 47) (.tmp 49) _ rfl w.heap.size 57 i0 _ 6 56 Try.underlying35 hi0 hz0 hz1 hz2 rfl (by omega) _ q _ rfl o3 _ _ 1 1 _ rfl hrd k4 k5 k6 k7 ?_; intro v7 w7 o7 hg7 hat7; have oa7 := own_grown oa3 hg7 (fun k hk => own_types oa3 o3 (by decide) k hk); have ol7 := own_grown ol3 hg7 (fun k hk => own_types ol3 o3 (by decide) k hk); have hB7 := j3.grown hg7 k7 (fun k hk => (World.ownsRow.lt o3 k hk).1); clear hg7 hat7 o3 oa3 ol3 j3 cG))
        go_roundw
        case rel => exact ⟨q + 1, by omega, by go_num, oa7, ol7, by rw [HF.out]; exact o7, hB7⟩
        case measure => simp [intOf]; omega
    · obtain rfl : n = q := by omega
      rw [List.take_of_length_le (by rw [← HN.out]; exact Nat.le_refl _)] at oo
      clear hc3 oa ol
      go_wp2_with fail
      go_ret2
      refine ⟨⟨_, rfl, ?_⟩, hB⟩
      rw [← HN.out]
      exact oo
end Go.Proofs.Ytjcdflohkajbcaa

/-
  Byte slices, one behind the other.
-/
namespace Go.Proofs.Ytjcdflohkajbcaa
open Go.RowKit
set_option linter.unusedVariables false
set_option linter.unusedSimpArgs false
/-- a part: a slice of bytes and what it reads as -/
structure Pt where
  a : Option Addr
  n : Nat
  c : Nat
  M : List Int
def Pt.v (p : Pt) : Value := .slice p.a p.n p.c
def Pt.In (p : Pt) (w : World) : Prop := p.M.length = p.n ∧ Reads w w.heap.size 1 p.a p.n (p.M.map (Value.int .u8))
theorem Pt.In.later {p : Pt} {w w' : World} (h : p.In w) (hb : Below w.heap.size w w') : p.In w' := ⟨h.1, (h.2.below hb).more hb.size⟩
def jM (ps : List Pt) : List Int := ps.flatMap Pt.M
theorem jM_snoc (ps : List Pt) (p : Pt) : jM (ps ++ [p]) = jM ps ++ p.M := by simp [jM]
theorem jM_app (a b : List Pt) : jM (a ++ b) = jM a ++ jM b := by simp [jM]
theorem jM_take (ps : List Pt) (q : Nat) : (jM (ps.take q)).length ≤ (jM ps).length := by
  have h := jM_app (ps.take q) (ps.drop q)
  rw [List.take_append_drop] at h
  rw [h, List.length_append]
  omega
theorem Pt.of_rb {w : World} {A : Option Addr} {c : Nat} {M : List Int} (h : 0 < M.length → RB w A M ∧ At A w.heap.size) : (⟨A, M.length, c, M⟩ : Pt).In w := by
  refine ⟨rfl, by simp, fun hp => ?_⟩
  obtain ⟨h1, h2⟩ := h hp
  rcases h1 with ⟨rfl, h0⟩ | ⟨b, off, rfl, hc⟩
  · simp [h0] at hp
  · refine ⟨_, rfl, h2 b off rfl, fun j u hu => ?_⟩
    rw [List.getElem?_map] at hu
    have hj : j < M.length := by
      rcases Nat.lt_or_ge j M.length with hj | hj
      · exact hj
      · rw [List.getElem?_eq_none hj] at hu; simp at hu
    rw [List.getElem?_eq_getElem hj] at hu
    injection hu with hu
    subst hu
    have h := hc j hj
    rw [List.getD_eq_getElem?_getD, List.getElem?_eq_getElem hj] at h
    rw [Addr.add_lit]
    exact h
theorem byte_info' : (Try.prog.info? 5).map (fun i => (i.zero, i.size, i.bytes)) = some (some (.int .u8 0), 1, 1) := by kernel_rfl
set_option maxHeartbeats 1600000 in
set_option maxRecDepth 100000 in
theorem joined_any (g k : Nat) (ps : List Pt) (w : World) (hB : Blk w g 25 (ps.map Pt.v).toArray) (hk : ps.length = k) (hk2 : k ≤ 100) (hp : ∀ p ∈ ps, p.In w) (ht : (jM ps).length ≤ 100000) :
    Calls Try.prog 16 #[.slice (some ⟨g, 0, none⟩) k k] w fun e w' => (∃ v, e = .returned v ∧ IsB w' w.heap.size v (jM ps)) ∧ Below w.heap.size w w' := by
  obtain ⟨i0, hi0, hz0, hz1, hz2⟩ := info_parts byte_info'
  have HK := Lib.hid hk
  clear hk
  go_enter Try.func16, Try.ntmps16
  go_wp2_with fail
  go_loopw [3, 4] (fun o i wr => ∃ (q : Nat) (ov : Value), q ≤ k ∧ i = .int .i64 q ∧ ov = o ∧ IsB wr w.heap.size ov (jM (ps.take q)) ∧ Below w.heap.size w wr) (fun _ i _ => k - (intOf i).toNat)
  case atStart => exact ⟨0, _, Nat.zero_le _, rfl, rfl, IsB.nil _ _, Below.refl _ _⟩
  case round =>
    obtain ⟨q, ov, hq, rfl, rfl, oo, hBw⟩ := hrel
    by_cases hlt : q < k
    · obtain ⟨p, hx⟩ : ∃ p, ps[q]? = some p := ⟨_, List.getElem?_eq_getElem (by have := HK.out; omega)⟩
      have hIn := (hp p (List.mem_of_getElem? hx)).later hBw
      have hts : jM (ps.take (q + 1)) = jM (ps.take q) ++ p.M := by rw [List.take_add_one, hx]; exact jM_snoc _ _
      have hl1 := jM_take ps (q + 1)
      have hcell := (hB.below hBw hB.lt).cell q
      rw [List.getElem?_toArray, List.getElem?_map, hx] at hcell
      obtain ⟨pa, pn, pc, pM⟩ := p
      have hcell : wr.cell? ⟨g, q, none⟩ = some (.slice pa pn pc) := hcell
      have hts : jM (ps.take (q + 1)) = jM (ps.take q) ++ pM := hts
      obtain ⟨hn, hrd⟩ := hIn
      have hn : pM.length = pn := hn
      have hrd : Reads wr wr.heap.size 1 pa pn (pM.map (Value.int .u8)) := hrd
      rw [hts, List.length_append, hn] at hl1
      obtain ⟨L, hL⟩ : ∃ L, L = (jM (ps.take q)).length := ⟨_, rfl⟩
      have o2 : wr.ownsRow w.heap.size 5 1 ov L ((jM (ps.take q)).map (Value.int .u8)) := by rw [hL]; exact oo
      have hfin : ∀ (v : Value) (w' : World), w'.ownsRow w.heap.size 5 1 v (L + pn) ((jM (ps.take q)).map (Value.int .u8) ++ pM.map (Value.int .u8)) → IsB w' w.heap.size v (jM (ps.take (q + 1))) := by
        intro v w' h
        unfold IsB
        rw [hts, List.length_append, List.map_append, ← hL, hn]
        exact h
      have k4 : ∀ u ∈ pM.map (Value.int .u8), u.oneCell' = true := bytes_one
      rw [← hL] at hl1
      have k5 : L + pn ≤ maxLen := by unfold maxLen; omega
      have k6 : (L + pn) * 1 ≤ 140737488355328 := by omega
      have k7 := hBw.size
      have z1 : (q : Int) < (k : Int) := by omega
      have z2 : (0 : Int) ≤ (q : Int) := by omega
      clear hp hB oo hts hL hl1 hx hn
      go_wp2_with (first
        | (at_builtin; refine wpList_append_any _ rfl (.tmp 11) (.tmp 15) _ rfl w.heap.size 5 i0 _ 1 1 Try.underlying25 hi0 hz0 hz1 hz2 rfl (by omega) _ L _ rfl o2 _ _ pn pc _ rfl hrd k4 k5 k6 k7 ?_; intro v5 w5 o5 hg5 hat5; have hB5 := hBw.grown hg5 k7 (fun k hk => (World.ownsRow.lt o2 k hk).1); have o6 := hfin _ _ o5; clear o5 hg5 hat5 o2 hrd))
      go_roundw
      case rel => exact ⟨q + 1, _, by omega, by go_num, rfl, o6, hB5⟩
      case measure => simp [intOf]; omega
    · obtain rfl : k = q := by omega
      rw [List.take_of_length_le (by rw [HK.out]; exact Nat.le_refl _)] at oo
      clear hp hB
      go_wp2_with fail
      go_ret
      exact ⟨⟨_, rfl, oo⟩, hBw⟩
end Go.Proofs.Ytjcdflohkajbcaa

/-
  Two lists of entries that are the same.
-/
namespace Go.Proofs.Ytjcdflohkajbcaa
open Go.RowKit
set_option linter.unusedVariables false
set_option linter.unusedSimpArgs false
theorem RI.of_ownk {w : World} {B n k : Nat} {e : TypeId} {v : Value} {L : List Value} (h : w.ownsRow B e k v n L) : ∃ (A : Option Addr) (cap : Nat), v = .slice A n cap ∧ RI w A L ∧ n ≤ cap ∧ cap ≤ maxLen := by
  have h0 := h
  rcases h.2 with ⟨rfl, hn⟩ | ⟨g, cap, cur, rfl, h2, h3, h4, h5, _⟩
  · subst hn
    exact ⟨none, 0, rfl, .inl (List.eq_nil_of_length_eq_zero (by simpa using h.1)), Nat.le_refl _, by unfold maxLen; omega⟩
  · refine ⟨_, cap, rfl, .inr ⟨g, 0, rfl, lt_of_block h3, fun i u hu => ?_⟩, h4, h5⟩
    have hl : i < n * k := by
      rw [← h.1]
      exact (List.getElem?_eq_some_iff.1 hu).1
    rw [Nat.zero_add, World.ownsRow.cellAt h0 i hl, hu]
theorem RI.of_blk {w : World} {g : Nat} {t : TypeId} {L : List Value} (h : Blk w g t L.toArray) : RI w (some ⟨g, 0, none⟩) L :=
  .inr ⟨g, 0, rfl, h.lt, fun i u hu => by rw [Nat.zero_add, h.cell]; simpa using hu⟩
theorem flatE_at (slot : Int) : ∀ (xs : List (Nat × Rc)) (q : Nat) (x : Nat × Rc), xs[q]? = some x → ∀ (j : Nat) (u : Value), (eCs slot x)[j]? = some u → (flatE slot xs)[q * 6 + j]? = some u := by
  intro xs
  induction xs with
  | nil => intro q x h; simp at h
  | cons a xs ih =>
    intro q x h j u hu
    have hj : j < 6 := by
      rcases Nat.lt_or_ge j 6 with hj | hj
      · exact hj
      · rw [Array.getElem?_eq_none (by simpa [eCs] using hj)] at hu; cases hu
    have h6 : (eCs slot a).toList.length = 6 := rfl
    have hf : flatE slot (a :: xs) = (eCs slot a).toList ++ flatE slot xs := rfl
    rw [hf]
    cases q with
    | zero =>
      injection h with h
      subst h
      rw [List.getElem?_append_left (by omega)]
      simpa using hu
    | succ q =>
      have h : xs[q]? = some x := h
      rw [List.getElem?_append_right (by omega), h6, show (q + 1) * 6 + j - 6 = q * 6 + j by omega]
      exact ih q x h j u hu
theorem RI.ent {w : World} {b o : Nat} {slot : Int} {xs : List (Nat × Rc)} (h : RI w (some ⟨b, o, none⟩) (flatE slot xs)) {q : Nat} {x : Nat × Rc} (hx : xs[q]? = some x) {w' : World} (hb : Below w.heap.size w w') :
    w'.cell? ⟨b, o + q * 6, none⟩ = some (.int .i64 x.2.seq) ∧ w'.cell? ⟨b, o + q * 6 + 1, none⟩ = some (.string x.2.key) ∧ w'.cell? ⟨b, o + q * 6 + 2, none⟩ = some (.bool (x.2.kind == 2)) ∧ w'.cell? ⟨b, o + q * 6 + 3, none⟩ = some (.int .i64 slot) ∧ w'.cell? ⟨b, o + q * 6 + 4, none⟩ = some (.int .i64 (x.1 : Nat)) ∧ w'.cell? ⟨b, o + q * 6 + 5, none⟩ = some (.int .i64 (x.2.size : Nat)) := by
  have hf := flatE_at slot xs q x hx
  rcases h.later hb with h | ⟨b', o', hq, _, hc⟩
  · have := hf 0 _ rfl
    rw [h] at this
    simp at this
  · injection hq with hq
    injection hq with q1 q2
    subst q1 q2
    have g := fun j u (h : (eCs slot x)[j]? = some u) => hc (q * 6 + j) u (hf j u h)
    refine ⟨g 0 _ rfl, ?_, ?_, ?_, ?_, ?_⟩
    all_goals rw [Nat.add_assoc]
    · exact g 1 _ rfl
    · exact g 2 _ rfl
    · exact g 3 _ rfl
    · exact g 4 _ rfl
    · exact g 5 _ rfl
set_option maxHeartbeats 1600000 in
set_option maxRecDepth 100000 in
theorem same_true (A1 A2 : Option Addr) (n c1 c2 : Nat) (slot : Int) (xs : List (Nat × Rc)) (w : World) (hn : xs.length = n) (hl : n ≤ 100000) (h1 : RI w A1 (flatE slot xs)) (h2 : RI w A2 (flatE slot xs)) :
    Calls Try.prog 25 #[.slice A1 n c1, .slice A2 n c2] w fun e w' => e = .returned (.bool true) ∧ Below w.heap.size w w' := by
  have HN := Lib.hid hn
  clear hn
  go_enter Try.func25, Try.ntmps25
  go_wp2_with fail
  go_loopw [5] (fun i wr => ∃ q : Nat, q ≤ n ∧ i = .int .i64 q ∧ Below w.heap.size w wr) (fun i _ => n - (intOf i).toNat)
  case atStart => exact ⟨0, Nat.zero_le _, rfl, Below.refl _ _⟩
  case round =>
    obtain ⟨q, hq, rfl, hB⟩ := hrel
    by_cases hlt : q < n
    · obtain ⟨⟨off, r⟩, hx⟩ : ∃ x, xs[q]? = some x := ⟨_, List.getElem?_eq_getElem (by have := HN.out; omega)⟩
      have hne : flatE slot xs ≠ [] := by
        intro h
        have := flatE_at slot xs q _ hx 0 _ rfl
        rw [h] at this
        simp at this
      obtain ⟨b1, o1, rfl, _⟩ := id (h1.resolve_left hne)
      obtain ⟨b2, o2, rfl, _⟩ := id (h2.resolve_left hne)
      obtain ⟨a0, a1, a2, a3, a4, a5⟩ := h1.ent hx hB
      obtain ⟨d0, d1, d2, d3, d4, d5⟩ := h2.ent hx hB
      obtain ⟨kind, sq, key, val⟩ := r
      generalize hN : Rc.size ⟨kind, sq, key, val⟩ = N at a5 d5
      generalize hK : (kind == 2) = K at a2 d2
      have z1 : (q : Int) < (n : Int) := by omega
      have z2 : (0 : Int) ≤ (q : Int) := by omega
      clear h1 h2 hx hne hN hK
      go_wp2_with fail
      go_quiet (fail)
      go_wp2_with fail
      go_roundw
      case rel => exact ⟨q + 1, by omega, by go_num, below_drewN hB _⟩
      case measure => simp [intOf]; omega
    · obtain rfl : n = q := by omega
      clear h1 h2
      go_wp2_with fail
      go_ret
      exact ⟨rfl, hB⟩
end Go.Proofs.Ytjcdflohkajbcaa

/-
  The examples of the chapter.
-/
namespace Go.Proofs.Ytjcdflohkajbcaa
open Go.RowKit
set_option linter.unusedVariables false
set_option linter.unusedSimpArgs false
theorem BA.of_own {w : World} {B : Nat} {v : Value} {M : List Int} (h : IsB w B v M) (hB : BB M) : ∃ A cap, v = .slice A M.length cap ∧ BA w A M.length cap M := by
  have h0 := h
  rcases h.2 with ⟨rfl, hn⟩ | ⟨g, cap, cur, rfl, h2, h3, h4, h5, _⟩
  · refine ⟨none, 0, by rw [hn], rfl, fun hp => absurd hp (by omega), hB, by omega, by unfold maxLen; omega⟩
  · refine ⟨_, cap, rfl, rfl, fun _ => ⟨IsB.rb h0, fun b off e => ?_⟩, hB, h4, h5⟩
    injection e with e
    injection e with e1 e2
    subst e1
    exact lt_of_block h3
theorem joined_at (ps : List Pt) (k n : Nat) (w : World) (hk : ps.length = k) (hk2 : k ≤ 100) (hp : ∀ p ∈ ps, p.In w) (hn : (jM ps).length = n) (hn2 : n ≤ 100000) (hB : BB (jM ps)) :
    Calls Try.prog 16 #[.slice (some ⟨w.heap.size, 0, none⟩) k k] (w.alloc (.cells (ps.map Pt.v).toArray 25)) fun e w' => (∃ A cap, e = .returned (.slice A n cap) ∧ BA w' A n cap (jM ps)) ∧ Below w.heap.size w w' := by
  have hb : Below w.heap.size w (w.alloc (.cells (ps.map Pt.v).toArray 25)) := b_alloc (Below.refl _ _) _
  refine (joined_any w.heap.size k ps (w.alloc (.cells (ps.map Pt.v).toArray 25)) (Blk.new w _ _) hk hk2 (fun p h => (hp p h).later hb) (by omega)).mono ?_
  rintro e w' ⟨⟨v, rfl, hI⟩, hb2⟩
  obtain ⟨A, cap, rfl, h⟩ := BA.of_own hI hB
  rw [hn] at h ⊢
  exact ⟨⟨A, cap, rfl, h⟩, b_then hb hb2⟩
theorem Pt.of_clip {w : World} {B g c : Nat} {M : List Int} {n : Nat} (h : Clip w B g M) (hn : M.length = n) : (⟨some ⟨g, 0, none⟩, n, c, M⟩ : Pt).In w := by
  subst hn
  refine Pt.of_rb fun _ => ⟨h.rb, fun b off e => ?_⟩
  injection e with e
  injection e with e1 e2
  subst e1
  exact h.lt.2
theorem Pt.of_isb {w : World} {B g c n : Nat} {M : List Int} (h : IsB w B (.slice (some ⟨g, 0, none⟩) n c) M) (hn : M.length = n) : (⟨some ⟨g, 0, none⟩, n, c, M⟩ : Pt).In w := by
  subst hn
  refine Pt.of_rb fun _ => ⟨h.rb, fun b off e => ?_⟩
  injection e with e
  injection e with e1 e2
  subst e1
  exact (World.ownsRow.lt h _ rfl).2
theorem Pt.In.cut {w : World} {g n c c' : Nat} {M : List Int} (h : (⟨some ⟨g, 0, none⟩, n, c, M⟩ : Pt).In w) (k : Nat) (hk : k ≤ n) : (⟨some ⟨g, 0, none⟩, k, c', M.take k⟩ : Pt).In w := by
  obtain ⟨h1, h2⟩ := h
  have h1 : M.length = n := h1
  refine ⟨by show (M.take k).length = k; rw [List.length_take]; omega, ?_, fun hp => ?_⟩
  · show ((M.take k).map _).length = k * 1
    rw [List.length_map, List.length_take]
    omega
  · have hp' : 0 < k := hp
    obtain ⟨ad, e, hb, hc⟩ := h2.2 (show 0 < n by omega)
    refine ⟨ad, e, hb, fun j u hu => hc j u ?_⟩
    have hu : ((M.take k).map (Value.int .u8))[j]? = some u := hu
    show (M.map (Value.int .u8))[j]? = some u
    rw [List.map_take, List.getElem?_take] at hu
    split at hu
    · exact hu
    · cases hu
theorem sealing_pt {c l : Int} (h : FOk c l) (w : World) :
    Calls Try.prog 20 #[.int .i64 c, .int .i64 l] w fun e w' => (∃ g cap, e = .returned (.slice (some ⟨g, 0, none⟩) 16 cap) ∧ (⟨some ⟨g, 0, none⟩, 16, cap, fenc c l⟩ : Pt).In w') ∧ Below w.heap.size w w' := by
  refine (sealing_yes h w).mono ?_
  rintro e w' ⟨⟨g, cap, rfl, _, _, _, hI⟩, hb⟩
  exact ⟨⟨g, cap, rfl, Pt.of_isb hI (fenc_length c l)⟩, hb⟩
/-- bytes of a footer are no record's -/
theorem decF_foot {c l : Int} (h : FOk c l) (more : List Int) : decF (fenc c l ++ more) = (Rc.zero, 0, 8) := by
  obtain ⟨hd, h4, _⟩ := fbegins (M := fenc c l ++ more) h (fun i hi => getD_app_l (by rw [fenc_length]; omega))
  unfold decF
  simp only []
  rw [if_neg (by rw [List.length_append, fenc_length]; omega), if_pos (fun hh => hh.2 h4)]
def rA : Rc := ⟨1, 1, ⟨#[107]⟩, ⟨#[118]⟩⟩
def rB : Rc := ⟨2, 2, ⟨#[107]⟩, ⟨#[]⟩⟩
theorem rA_ok : rA.Ok := by decide
theorem rB_ok : rB.Ok := by decide
theorem rAB_ok : ∀ r ∈ [rA, rB], r.Ok := by
  intro r hr
  simp at hr
  rcases hr with rfl | rfl
  · exact rA_ok
  · exact rB_ok
theorem f22 : FOk 2 2 := by decide
theorem f11 : FOk 1 1 := by decide
def x1 : List Int := encL [rA, rB] ++ fenc 2 2
def x2 : List Int := encL [rA, rB] ++ []
def x3 : List Int := encL [rA] ++ (encF rB).take 16
def x4 : List Int := encL [rA] ++ (fenc 1 1 ++ encF rB)
def x5 : List Int := encL [] ++ ((encF rA).take 17 ++ encF rB)
theorem s1 : Scanned x1 (pairsF 0 [rA, rB]) 35 := scanned_encs rAB_ok (by have := decF_foot f22 []; rw [List.append_nil] at this; rw [this]; decide)
theorem s2 : Scanned x2 (pairsF 0 [rA, rB]) 35 := scanned_encs rAB_ok (by rw [decF_nil']; decide)
theorem s3 : Scanned x3 (pairsF 0 [rA]) 18 := scanned_encs (fun r hr => by simp at hr; subst hr; exact rA_ok) (by rw [decF_short rB_ok (i := 16) (by decide)]; decide)
theorem s4 : Scanned x4 (pairsF 0 [rA]) 18 := scanned_encs (fun r hr => by simp at hr; subst hr; exact rA_ok) (by rw [decF_foot f11]; decide)
theorem q5 : decF ((encF rA).take 17 ++ encF rB) = (Rc.zero, 0, 15) := by
  rcases decF_err ((encF rA).take 17 ++ encF rB) with h | h | h | h
  · exact absurd h (by decide +kernel)
  · exact absurd (congrArg (fun x => x.2.2) h) (by decide +kernel)
  · exact absurd (congrArg (fun x => x.2.2) h) (by decide +kernel)
  · exact h
theorem s5 : Scanned x5 (pairsF 0 []) 0 := scanned_encs (fun r hr => by simp at hr) (by rw [q5]; decide)
theorem b1 : sealB x1 ((pairsF 0 [rA, rB]).map Prod.snd) 35 = true := by decide +kernel
theorem b2 : sealB x2 ((pairsF 0 [rA, rB]).map Prod.snd) 35 = false := by decide +kernel
theorem b3 : sealB x3 ((pairsF 0 [rA]).map Prod.snd) 18 = false := by decide +kernel
theorem b4 : sealB x4 ((pairsF 0 [rA]).map Prod.snd) 18 = false := by decide +kernel
theorem b5 : sealB x5 ((pairsF 0 []).map Prod.snd) 0 = false := by decide +kernel
theorem r1 : reasonF x1 ((pairsF 0 [rA, rB]).map Prod.snd) 35 = 0 := by decide +kernel
theorem r2 : reasonF x2 ((pairsF 0 [rA, rB]).map Prod.snd) 35 = 0 := by decide +kernel
theorem r3 : reasonF x3 ((pairsF 0 [rA]).map Prod.snd) 18 = 14 := by decide +kernel
theorem r4 : reasonF x4 ((pairsF 0 [rA]).map Prod.snd) 18 = 8 := by decide +kernel
theorem r5 : reasonF x5 ((pairsF 0 []).map Prod.snd) 0 = 15 := by decide +kernel
end Go.Proofs.Ytjcdflohkajbcaa

/-
  The examples of the chapter hold.
-/
namespace Go.Proofs.Ytjcdflohkajbcaa
open Go.RowKit
set_option linter.unusedVariables false
set_option linter.unusedSimpArgs false
theorem ea (w : World) : Calls Try.prog 30 #[.agg #[.int .i64 1, .int .i64 1, .string ⟨#[107]⟩, .string ⟨#[118]⟩]] w fun e w' => (∃ g, e = .returned (.slice (some ⟨g, 0, none⟩) 18 18) ∧ (⟨some ⟨g, 0, none⟩, 18, 18, encF rA⟩ : Pt).In w') ∧ Below w.heap.size w w' := by
  refine (encoded_any rA rA_ok w).mono ?_
  rintro e w' ⟨⟨g, rfl, hC⟩, hb⟩
  exact ⟨⟨g, rfl, Pt.of_clip hC (by rw [encF_length]; rfl)⟩, hb⟩
theorem eb (w : World) : Calls Try.prog 30 #[.agg #[.int .i64 2, .int .i64 2, .string ⟨#[107]⟩, .string ⟨#[]⟩]] w fun e w' => (∃ g, e = .returned (.slice (some ⟨g, 0, none⟩) 17 17) ∧ (⟨some ⟨g, 0, none⟩, 17, 17, encF rB⟩ : Pt).In w') ∧ Below w.heap.size w w' := by
  refine (encoded_any rB rB_ok w).mono ?_
  rintro e w' ⟨⟨g, rfl, hC⟩, hb⟩
  exact ⟨⟨g, rfl, Pt.of_clip hC (by rw [encF_length]; rfl)⟩, hb⟩
theorem joined_2 (X : List Int) (p1 p2 : Pt) (n : Nat) (w : World) (h1 : p1.In w) (h2 : p2.In w) (hX : p1.M ++ p2.M = X) (hn : X.length = n) (hn2 : n ≤ 100000) (hB : BB X) :
    Calls Try.prog 16 #[.slice (some ⟨w.heap.size, 0, none⟩) 2 2] (w.alloc (.cells #[.slice p1.a p1.n p1.c, .slice p2.a p2.n p2.c] 25)) fun e w' => (∃ A cap, e = .returned (.slice A n cap) ∧ BA w' A n cap X) ∧ Below w.heap.size w w' := by
  have hj : jM [p1, p2] = X := by rw [← hX]; simp [jM]
  have h := joined_at [p1, p2] 2 n w rfl (by omega) (fun p hp => by
    simp at hp
    rcases hp with rfl | rfl
    · exact h1
    · exact h2) (by rw [hj]; exact hn) hn2 (by rw [hj]; exact hB)
  rw [hj] at h
  exact h
theorem joined_3 (X : List Int) (p1 p2 p3 : Pt) (n : Nat) (w : World) (h1 : p1.In w) (h2 : p2.In w) (h3 : p3.In w) (hX : p1.M ++ (p2.M ++ p3.M) = X) (hn : X.length = n) (hn2 : n ≤ 100000) (hB : BB X) :
    Calls Try.prog 16 #[.slice (some ⟨w.heap.size, 0, none⟩) 3 3] (w.alloc (.cells #[.slice p1.a p1.n p1.c, .slice p2.a p2.n p2.c, .slice p3.a p3.n p3.c] 25)) fun e w' => (∃ A cap, e = .returned (.slice A n cap) ∧ BA w' A n cap X) ∧ Below w.heap.size w w' := by
  have hj : jM [p1, p2, p3] = X := by rw [← hX]; simp [jM]
  have h := joined_at [p1, p2, p3] 3 n w rfl (by omega) (fun p hp => by
    simp at hp
    rcases hp with rfl | rfl | rfl
    · exact h1
    · exact h2
    · exact h3) (by rw [hj]; exact hn) hn2 (by rw [hj]; exact hB)
  rw [hj] at h
  exact h
theorem bx1 : BB x1 := (encL_bb _).app (fenc_bb _ _)
theorem bx2 : BB x2 := (encL_bb _).app (fun x hx => by simp at hx)
theorem bx3 : BB x3 := (encL_bb _).app ((encF_bb _).take _)
theorem bx4 : BB x4 := (encL_bb _).app ((fenc_bb _ _).app (encF_bb _))
theorem bx5 : BB x5 := (encL_bb _).app (((encF_bb _).take _).app (encF_bb _))
theorem l1 : x1.length = 51 := by decide +kernel
theorem l2 : x2.length = 35 := by decide +kernel
theorem l3 : x3.length = 34 := by decide +kernel
theorem l4 : x4.length = 51 := by decide +kernel
theorem l5 : x5.length = 34 := by decide +kernel
theorem j1 : encF rA ++ (encF rB ++ fenc 2 2) = x1 := by simp [x1, encL]
theorem j2 : encF rA ++ encF rB = x2 := by simp [x2, encL]
theorem j3 : encF rA ++ (encF rB).take 16 = x3 := by simp [x3, encL]
theorem j4 : encF rA ++ (fenc 1 1 ++ encF rB) = x4 := by simp [x4, encL]
theorem j5 : (encF rA).take 17 ++ encF rB = x5 := by simp [x5, encL]
set_option maxHeartbeats 3200000 in
set_option maxRecDepth 100000 in
theorem works_true (w : World) : Calls Try.prog 11 #[] w fun e w' => e = .returned (.bool true) ∧ Below w.heap.size w w' := by
  go_enter Try.func11, Try.ntmps11
  go_wp2_with fail
  refine (ea _).mono ?_
  rintro e w1 ⟨⟨ga, rfl, ha1⟩, hb1⟩
  have bel1 := hb1
  clear hb1
  go_wp2_with fail
  refine (eb _).mono ?_
  rintro e w2 ⟨⟨gb, rfl, hb2'⟩, hb2⟩
  have ha2 := ha1.later hb2
  clear ha1
  have bel2 := b_then bel1 hb2
  clear bel1 hb2
  have hq2 := hb2'
  clear hb2'
  go_wp2_with fail
  refine (sealing_pt f22 _).mono ?_
  rintro e w3 ⟨⟨gf, cf, rfl, hs3⟩, hb3⟩
  have ha3 := ha2.later hb3
  clear ha2
  have hq3 := hq2.later hb3
  clear hq2
  have bel3 := b_then bel2 hb3
  clear bel2 hb3
  go_wp2_with fail
  refine (joined_3 x1 _ _ _ 51 _ ha3 hq3 hs3 j1 l1 (by omega) bx1).mono ?_
  rintro e w4 ⟨⟨A4, c4, rfl, hJ4⟩, hb4⟩
  have ha4 := ha3.later hb4
  clear ha3
  have hq4 := hq3.later hb4
  clear hq3
  have hs4 := hs3.later hb4
  clear hs3
  have bel4 := b_then bel3 hb4
  clear bel3 hb4
  clear hs4
  go_wp2_with fail
  refine (entries_yes A4 51 c4 x1 3 _ _ 35 hJ4 (by omega) (by omega) (by omega) s1).mono ?_
  rintro e w5 ⟨⟨v5, rfl, ho5⟩, hb5⟩
  have ha5 := ha4.later hb5
  clear ha4
  have hq5 := hq4.later hb5
  clear hq4
  have hJ5 := hJ4.later hb5
  clear hJ4
  have bel5 := b_then bel4 hb5
  clear bel4 hb5
  clear hJ5
  obtain ⟨A5, c5, rfl, hE5, _⟩ := RI.of_ownk ho5
  clear ho5
  go_wp2_with fail
  refine (sealing_pt f22 _).mono ?_
  rintro e w6 ⟨⟨gf2, cf2, rfl, hs6⟩, hb6⟩
  have ha6 := ha5.later hb6
  clear ha5
  have hq6 := hq5.later hb6
  clear hq5
  have hE6 := hE5.later hb6
  clear hE5
  have bel6 := b_then bel5 hb6
  clear bel5 hb6
  go_wp2_with fail
  refine (joined_3 x1 _ _ _ 51 _ ha6 hq6 hs6 j1 l1 (by omega) bx1).mono ?_
  rintro e w7 ⟨⟨A7, c7, rfl, hJ7⟩, hb7⟩
  have ha7 := ha6.later hb7
  clear ha6
  have hq7 := hq6.later hb7
  clear hq6
  have hE7 := hE6.later hb7
  clear hE6
  have hs7 := hs6.later hb7
  clear hs6
  have bel7 := b_then bel6 hb7
  clear bel6 hb7
  clear hs7
  go_wp2_with fail
  refine (says_true A7 51 c7 x1 _ _ 35 true 0 hJ7 (by omega) s1 b1 r1).mono ?_
  rintro e w8 ⟨rfl, hb8⟩
  have ha8 := ha7.later hb8
  clear ha7
  have hq8 := hq7.later hb8
  clear hq7
  have hE8 := hE7.later hb8
  clear hE7
  have hJ8 := hJ7.later hb8
  clear hJ7
  have bel8 := b_then bel7 hb8
  clear bel7 hb8
  clear hJ8
  go_wp2_with fail
  refine (joined_2 x2 _ _ 35 _ ha8 hq8 j2 l2 (by omega) bx2).mono ?_
  rintro e w9 ⟨⟨A9, c9, rfl, hJ9⟩, hb9⟩
  have ha9 := ha8.later hb9
  clear ha8
  have hq9 := hq8.later hb9
  clear hq8
  have hE9 := hE8.later hb9
  clear hE8
  have bel9 := b_then bel8 hb9
  clear bel8 hb9
  go_wp2_with fail
  refine (says_true A9 35 c9 x2 _ _ 35 false 0 hJ9 (by omega) s2 b2 r2).mono ?_
  rintro e w10 ⟨rfl, hb10⟩
  have ha10 := ha9.later hb10
  clear ha9
  have hq10 := hq9.later hb10
  clear hq9
  have hE10 := hE9.later hb10
  clear hE9
  have hJ10 := hJ9.later hb10
  clear hJ9
  have bel10 := b_then bel9 hb10
  clear bel9 hb10
  clear hJ10
  have hz10 := hq10.cut (c' := 17) 16 (by omega)
  go_wp2_with fail
  refine (joined_2 x3 _ _ 34 _ ha10 hz10 j3 l3 (by omega) bx3).mono ?_
  rintro e w11 ⟨⟨A11, c11, rfl, hJ11⟩, hb11⟩
  have ha11 := ha10.later hb11
  clear ha10
  have hq11 := hq10.later hb11
  clear hq10
  have hE11 := hE10.later hb11
  clear hE10
  have hz11 := hz10.later hb11
  clear hz10
  have bel11 := b_then bel10 hb11
  clear bel10 hb11
  clear hz11
  go_wp2_with fail
  refine (says_true A11 34 c11 x3 _ _ 18 false 14 hJ11 (by omega) s3 b3 r3).mono ?_
  rintro e w12 ⟨rfl, hb12⟩
  have ha12 := ha11.later hb12
  clear ha11
  have hq12 := hq11.later hb12
  clear hq11
  have hE12 := hE11.later hb12
  clear hE11
  have hJ12 := hJ11.later hb12
  clear hJ11
  have bel12 := b_then bel11 hb12
  clear bel11 hb12
  clear hJ12
  go_wp2_with fail
  refine (sealing_pt f11 _).mono ?_
  rintro e w13 ⟨⟨gf3, cf3, rfl, hs13⟩, hb13⟩
  have ha13 := ha12.later hb13
  clear ha12
  have hq13 := hq12.later hb13
  clear hq12
  have hE13 := hE12.later hb13
  clear hE12
  have bel13 := b_then bel12 hb13
  clear bel12 hb13
  go_wp2_with fail
  refine (joined_3 x4 _ _ _ 51 _ ha13 hs13 hq13 j4 l4 (by omega) bx4).mono ?_
  rintro e w14 ⟨⟨A14, c14, rfl, hJ14⟩, hb14⟩
  have ha14 := ha13.later hb14
  clear ha13
  have hq14 := hq13.later hb14
  clear hq13
  have hE14 := hE13.later hb14
  clear hE13
  have hs14 := hs13.later hb14
  clear hs13
  have bel14 := b_then bel13 hb14
  clear bel13 hb14
  clear hs14
  go_wp2_with fail
  refine (says_true A14 51 c14 x4 _ _ 18 false 8 hJ14 (by omega) s4 b4 r4).mono ?_
  rintro e w15 ⟨rfl, hb15⟩
  have ha15 := ha14.later hb15
  clear ha14
  have hq15 := hq14.later hb15
  clear hq14
  have hE15 := hE14.later hb15
  clear hE14
  have hJ15 := hJ14.later hb15
  clear hJ14
  have bel15 := b_then bel14 hb15
  clear bel14 hb15
  clear hJ15
  have hz15 := ha15.cut (c' := 18) 17 (by omega)
  go_wp2_with fail
  refine (joined_2 x5 _ _ 34 _ hz15 hq15 j5 l5 (by omega) bx5).mono ?_
  rintro e w16 ⟨⟨A16, c16, rfl, hJ16⟩, hb16⟩
  have ha16 := ha15.later hb16
  clear ha15
  have hq16 := hq15.later hb16
  clear hq15
  have hE16 := hE15.later hb16
  clear hE15
  have hz16 := hz15.later hb16
  clear hz15
  have bel16 := b_then bel15 hb16
  clear bel15 hb16
  clear hz16
  go_wp2_with fail
  refine (says_true A16 34 c16 x5 _ _ 0 false 15 hJ16 (by omega) s5 b5 r5).mono ?_
  rintro e w17 ⟨rfl, hb17⟩
  have ha17 := ha16.later hb17
  clear ha16
  have hq17 := hq16.later hb17
  clear hq16
  have hE17 := hE16.later hb17
  clear hE16
  have hJ17 := hJ16.later hb17
  clear hJ16
  have bel17 := b_then bel16 hb17
  clear bel16 hb17
  clear hJ17
  go_wp2_with fail
  have hbl : Blk (w17.alloc (.cells #[.int .i64 1, .string ⟨#[107]⟩, .bool false, .int .i64 3, .int .i64 0, .int .i64 18, .int .i64 2, .string ⟨#[107]⟩, .bool true, .int .i64 3, .int .i64 18, .int .i64 17] 57)) w17.heap.size 57 (flatE 3 (pairsF 0 [rA, rB])).toArray := Blk.new w17 _ _
  refine (same_true A5 (some ⟨w17.heap.size, 0, none⟩) 2 c5 2 3 (pairsF 0 [rA, rB]) _ rfl (by omega) (hE17.later (b_alloc (Below.refl _ w17) (.cells #[.int .i64 1, .string ⟨#[107]⟩, .bool false, .int .i64 3, .int .i64 0, .int .i64 18, .int .i64 2, .string ⟨#[107]⟩, .bool true, .int .i64 3, .int .i64 18, .int .i64 17] 57))) (RI.of_blk hbl)).mono ?_
  rintro e w18 ⟨rfl, hb18⟩
  have bel18 := b_then (b_alloc bel17 (.cells #[.int .i64 1, .string ⟨#[107]⟩, .bool false, .int .i64 3, .int .i64 0, .int .i64 18, .int .i64 2, .string ⟨#[107]⟩, .bool true, .int .i64 3, .int .i64 18, .int .i64 17] 57)) hb18
  clear hb18 hbl bel17
  go_wp2_with fail
  go_ret
  exact ⟨rfl, bel18⟩
end Go.Proofs.Ytjcdflohkajbcaa

/-
  A slice of bytes that came in.
-/
namespace Go.Proofs.Ytjcdflohkajbcaa
open Go.ChangeShapes Go.WideShapes Go.ChangeAt Go.RowKit Go.Joins Go.Deep
set_option linter.unusedVariables false
set_option maxRecDepth 100000 in
theorem open_ba {H : Type} {enc : TypeId × Value → H} {w : World} {base b0 : Nat} {r : Reach} {v : Value} {d : DataW H} {p : List MemPlace} (hv : Value.okWide Try.prog w r b0 25 v) (h : DataW.Trod enc Try.prog w base (fun _ => true) true 25 v d p) :
    ∃ (a : Option Addr) (n cap : Nat) (M : List Int), v = .slice a n cap ∧ BA w a n cap M := by
  obtain ⟨a, n, cap, M, rfl, h1, h2, h3, h4, h5⟩ := open_bytes hv h
  refine ⟨a, n, cap, M, rfl, h1, fun hp => ⟨h2 hp, fun b off e => ?_⟩, h3, h4, h5⟩
  obtain ⟨b', off', e', hlt⟩ := (h2 hp).some_ (by omega)
  rw [e'] at e
  injection e with e
  injection e with e1 e2
  subst e1
  exact hlt
end Go.Proofs.Ytjcdflohkajbcaa
