/-
  The footer of a list of records: the program.
-/
import Derived.Test.YtiobnhdcapfhgaaFpr
namespace Go.Proofs.Ytiobnhdcapfhgaa
open Go.RowKit Go.Shelf
set_option linter.unusedVariables false
set_option linter.unusedSimpArgs false
attribute [local go_sem] Oper.semAt_some
def lastx (l : List (Int × Int × Int)) : Int × Int × Int := l.getLast?.getD (0, 0, 0)
theorem lastx_snoc (l : List (Int × Int × Int)) (x : Int × Int × Int) : lastx (l ++ [x]) = x := by simp [lastx]
theorem lastx_goods (rs : List Rc) (q : Nat) (h : q = rs.length) : (lastx (goods rs q)).1 = (q : Int) ∧ (lastx (goods rs q)).2.1 = lastF rs := by
  cases q with
  | zero =>
    have : rs = [] := List.eq_nil_of_length_eq_zero h.symm
    subst this
    exact ⟨rfl, rfl⟩
  | succ q =>
    rw [goods_succ, lastx_snoc]
    exact ⟨by simp [good], by simp only [good]; rw [List.take_of_length_le (by omega)]⟩
def ofI (w : World) (pre : List (Int × Int × Int)) (W : World) : Prop := (∀ x ∈ pre, x.2.2 = 0) ∧ Blk W w.heap.size 23 #[.int .i64 0, .int .i64 0] ∧ Blk W (w.heap.size + 1) 25 #[.int .i64 0] ∧ Blk W (w.heap.size + 1 + 1) 23 #[.int .i64 (lastx pre).1, .int .i64 (lastx pre).2.1] ∧ Below w.heap.size w W
def ofX (w : World) (c : Code) (pre : List (Int × Int × Int)) (W : World) : Prop := c = .ret ∧ (∃ p x, pre = p ++ [x] ∧ x.2.2 ≠ 0 ∧ Blk W w.heap.size 23 #[.int .i64 0, .int .i64 0] ∧ Blk W (w.heap.size + 1) 25 #[.int .i64 x.2.2]) ∧ Below w.heap.size w W
set_option maxHeartbeats 1600000 in
set_option maxRecDepth 100000 in
theorem fof_any (A : Option Addr) (cap : Nat) (rs : List Rc) (w : World) (h : IsRs w A rs) (hl : rs.length ≤ cap) (hc : cap ≤ maxLen) :
    Calls Try.prog 23 #[.slice A rs.length cap] w fun e w' => e = .returned (.tuple #[.agg #[.int .i64 (ofF rs).1, .int .i64 (ofF rs).2.1], .int .i64 (ofF rs).2.2]) ∧ Below w.heap.size w w' := by
  obtain ⟨⟨o1, o2, o3⟩, ho⟩ : ∃ o, o = ofF rs := ⟨_, rfl⟩
  rw [← ho]
  show Calls Try.prog 23 #[.slice A rs.length cap] w fun e w' => e = .returned (.tuple #[.agg #[.int .i64 o1, .int .i64 o2], .int .i64 o3]) ∧ Below w.heap.size w w'
  have hd1 : 1 ≤ 5 := by omega
  refine (callsIn_wide (n := 5)).1 ?_
  refine callsIn_of_wp_marks Try.func23 rfl trivial ?_ rfl
  simp only [Try.ntmps23, List.size_toArray, List.length_cons, List.length_nil, Nat.reduceAdd, Nat.reduceSub, Array.replicate_succ, Array.replicate_zero, List.push_toArray, List.append_toArray, List.nil_append, List.cons_append]
  have HO := Lib.hid ho
  clear ho
  gi_wp2
  refine ⟨trivial, (callsIn_wide.2 (prefixes_any _ _ _ _)).mono ?_⟩
  rintro e w' ⟨rfl, rfl⟩
  gi_wp2
  have x1 := Blk.new w 23 #[.int .i64 0, .int .i64 0]
  have x2 := Blk.new (w.alloc (.cells #[.int .i64 0, .int .i64 0] 23)) 25 #[.int .i64 0]
  rw [World.size_alloc] at x2
  have x3 := Blk.new ((w.alloc (.cells #[.int .i64 0, .int .i64 0] 23)).alloc (.cells #[.int .i64 0] 25)) 23 #[.int .i64 0, .int .i64 0]
  rw [World.size_alloc, World.size_alloc] at x3
  have x4 := Blk.new (((w.alloc (.cells #[.int .i64 0, .int .i64 0] 23)).alloc (.cells #[.int .i64 0] 25)).alloc (.cells #[.int .i64 0, .int .i64 0] 23)) 49 #[.slice A rs.length cap]
  rw [World.size_alloc, World.size_alloc, World.size_alloc] at x4
  have r1 := ((x1.alloc (.cells #[.int .i64 0] 25)).alloc (.cells #[.int .i64 0, .int .i64 0] 23)).alloc (.cells #[.slice A rs.length cap] 49)
  have r2 := (x2.alloc (.cells #[.int .i64 0, .int .i64 0] 23)).alloc (.cells #[.slice A rs.length cap] 49)
  have r3 := x3.alloc (.cells #[.slice A rs.length cap] 49)
  have hb3 : Below w.heap.size w ((((w.alloc (.cells #[.int .i64 0, .int .i64 0] 23)).alloc (.cells #[.int .i64 0] 25)).alloc (.cells #[.int .i64 0, .int .i64 0] 23)).alloc (.cells #[.slice A rs.length cap] 49)) := b_alloc (b_alloc (b_alloc (b_alloc (Below.refl _ _) _) _) _) _
  have hsz : ((((w.alloc (.cells #[.int .i64 0, .int .i64 0] 23)).alloc (.cells #[.int .i64 0] 25)).alloc (.cells #[.int .i64 0, .int .i64 0] 23)).alloc (.cells #[.slice A rs.length cap] 49)).heap.size = w.heap.size + 1 + 1 + 1 + 1 := by simp
  clear x1 x2 x3
  generalize (((w.alloc (.cells #[.int .i64 0, .int .i64 0] 23)).alloc (.cells #[.int .i64 0] 25)).alloc (.cells #[.int .i64 0, .int .i64 0] 23)).alloc (.cells #[.slice A rs.length cap] 49) = w3 at r1 r2 r3 x4 hb3 hsz ⊢
  refine range_cells rfl (by omega) (gf := 57) (lb := #[.pointer (some ⟨w.heap.size + 1 + 1 + 1, 0, none⟩)]) rfl trivial (enters_of Try.func57 (by kernel_rfl) rfl)
    (encs := pEnc) (lo := w.heap.size) (S := pS rs) (Sp := pSp rs) (by omega) (fun _ => rfl)
    (fun W1 hW1 hs1 => prefixes_iter _ (by omega) A cap rs w W1 (w3.heap.size + 2) (w.heap.size + 1 + 1 + 1) h hl hc (hb3.trans (hW1.mono (by omega))) (by omega) (by omega) ((x4.below hW1 (by omega)).cell 0) (by omega))
    (ofI w) (ofX w) (fun s X Y hi hb => ⟨hi.1, hi.2.1.below hb (by omega), hi.2.2.1.below hb (by omega), hi.2.2.2.1.below hb (by omega), hi.2.2.2.2.trans (hb.mono (by omega))⟩)
    (fun c s X Y hi hb => by
      obtain ⟨hc1, ⟨p, x, hp, hx, h1, h2⟩, h3⟩ := hi
      exact ⟨hc1, ⟨p, x, hp, hx, h1.below hb (by omega), h2.below hb (by omega)⟩, h3.trans (hb.mono (by omega))⟩)
    ⟨fun x hx => by simp at hx, r1, r2, r3, hb3⟩ ?round ?done ?stop
  case round =>
    clear r1 r2 r3 x4 hb3
    rintro l pre ⟨c, la, e⟩ W hl1 hl2 ⟨hz, hR2, hR3, hAl, hB⟩
    simp only [pEnc, List.zip_toArray, List.zip_cons_cons, List.zip_nil_right, List.foldl_toArray, List.foldl_cons, List.foldl_nil, List.setIfInBounds_toArray, List.set_cons_zero, List.set_cons_succ]
    gi_wp2
    refine ⟨Keep.of_below (b_alloc (Below.refl _ W) _) _ _, ⟨hz, hR2.alloc _, hR3.alloc _, hAl.alloc _, b_alloc hB _⟩, fun o => ?_⟩
    have y1 := (Blk.new W 23 #[.int .i64 c, .int .i64 la]).putObj (l := l) (by omega) o
    have y2 := (hR2.alloc (.cells #[.int .i64 c, .int .i64 la] 23)).putObj (l := l) (by omega) o
    have y3 := (hR3.alloc (.cells #[.int .i64 c, .int .i64 la] 23)).putObj (l := l) (by omega) o
    have y4 := (hAl.alloc (.cells #[.int .i64 c, .int .i64 la] 23)).putObj (l := l) (by omega) o
    have y5 : Below w.heap.size w ((W.alloc (.cells #[.int .i64 c, .int .i64 la] 23)).putObj l o) := (b_alloc hB _).trans (below_putObj _ _ _ (by omega))
    generalize (W.alloc (.cells #[.int .i64 c, .int .i64 la] 23)).putObj l o = Wq at y1 y2 y3 y4 y5 ⊢
    have c1 := y1.cell
    have c2 := y2.cell
    have f2 := y2.frozen
    have c3 := y3.cell
    have f3 := y3.frozen
    have c4 := y4.cell
    have f4 := y4.frozen
    clear hR2 hR3 hAl hB
    by_cases he : e = 0
    · subst he
      have q4 : Blk ((Wq.setCell ⟨w.heap.size + 1 + 1, 0, none⟩ (.int .i64 c)).setCell ⟨w.heap.size + 1 + 1, 1, none⟩ (.int .i64 la)) (w.heap.size + 1 + 1) 23 #[.int .i64 c, .int .i64 la] := y4.set2 _ _
      have q2 : Blk ((Wq.setCell ⟨w.heap.size + 1 + 1, 0, none⟩ (.int .i64 c)).setCell ⟨w.heap.size + 1 + 1, 1, none⟩ (.int .i64 la)) w.heap.size 23 #[.int .i64 0, .int .i64 0] := (y2.far (p := ⟨w.heap.size + 1 + 1, 0, none⟩) (by show w.heap.size ≠ w.heap.size + 1 + 1; omega) _).far (p := ⟨w.heap.size + 1 + 1, 1, none⟩) (by show w.heap.size ≠ w.heap.size + 1 + 1; omega) _
      have q3 : Blk ((Wq.setCell ⟨w.heap.size + 1 + 1, 0, none⟩ (.int .i64 c)).setCell ⟨w.heap.size + 1 + 1, 1, none⟩ (.int .i64 la)) (w.heap.size + 1) 25 #[.int .i64 0] := (y3.far (p := ⟨w.heap.size + 1 + 1, 0, none⟩) (by show w.heap.size + 1 ≠ w.heap.size + 1 + 1; omega) _).far (p := ⟨w.heap.size + 1 + 1, 1, none⟩) (by show w.heap.size + 1 ≠ w.heap.size + 1 + 1; omega) _
      have q5 : Below w.heap.size w ((Wq.setCell ⟨w.heap.size + 1 + 1, 0, none⟩ (.int .i64 c)).setCell ⟨w.heap.size + 1 + 1, 1, none⟩ (.int .i64 la)) := b_setR (b_setR y5 0 _) 1 _
      have q6 : Keep w.heap.size w3.heap.size Wq ((Wq.setCell ⟨w.heap.size + 1 + 1, 0, none⟩ (.int .i64 c)).setCell ⟨w.heap.size + 1 + 1, 1, none⟩ (.int .i64 la)) := ((Keep.refl _ _ Wq).setCell (p := ⟨w.heap.size + 1 + 1, 0, none⟩) (by show w.heap.size ≤ w.heap.size + 1 + 1; omega) (by show w.heap.size + 1 + 1 < w3.heap.size; omega) _).setCell (p := ⟨w.heap.size + 1 + 1, 1, none⟩) (by show w.heap.size ≤ w.heap.size + 1 + 1; omega) (by show w.heap.size + 1 + 1 < w3.heap.size; omega) _
      clear y1 y2 y3 y4 y5
      gi_wp2
      exact ⟨q6, ⟨fun x hx => (List.mem_append.1 hx).elim (hz x) (fun h => by rw [List.mem_singleton.1 h]), q2, q3, by rw [lastx_snoc]; exact q4, q5⟩⟩
    · have he' : (e != 0) = true := by rw [bne_iff_ne]; exact he
      have q2 : Blk (((Wq.setCell ⟨w.heap.size, 0, none⟩ (.int .i64 0)).setCell ⟨w.heap.size, 1, none⟩ (.int .i64 0)).setCell ⟨w.heap.size + 1, 0, none⟩ (.int .i64 e)) w.heap.size 23 #[.int .i64 0, .int .i64 0] := (y2.set2 _ _).far (p := ⟨w.heap.size + 1, 0, none⟩) (by show w.heap.size ≠ w.heap.size + 1; omega) _
      have q3 : Blk (((Wq.setCell ⟨w.heap.size, 0, none⟩ (.int .i64 0)).setCell ⟨w.heap.size, 1, none⟩ (.int .i64 0)).setCell ⟨w.heap.size + 1, 0, none⟩ (.int .i64 e)) (w.heap.size + 1) 25 #[.int .i64 e] := ((y3.far (p := ⟨w.heap.size, 0, none⟩) (by show w.heap.size + 1 ≠ w.heap.size; omega) _).far (p := ⟨w.heap.size, 1, none⟩) (by show w.heap.size + 1 ≠ w.heap.size; omega) _).set_ 0 _
      have q5 : Below w.heap.size w (((Wq.setCell ⟨w.heap.size, 0, none⟩ (.int .i64 0)).setCell ⟨w.heap.size, 1, none⟩ (.int .i64 0)).setCell ⟨w.heap.size + 1, 0, none⟩ (.int .i64 e)) := b_set1 (b_set0 (b_set0 y5 0 _) 1 _) 0 _
      have q6 : Keep w.heap.size w3.heap.size Wq (((Wq.setCell ⟨w.heap.size, 0, none⟩ (.int .i64 0)).setCell ⟨w.heap.size, 1, none⟩ (.int .i64 0)).setCell ⟨w.heap.size + 1, 0, none⟩ (.int .i64 e)) := (((Keep.refl _ _ Wq).setCell (p := ⟨w.heap.size, 0, none⟩) (Nat.le_refl _) (by show w.heap.size < w3.heap.size; omega) _).setCell (p := ⟨w.heap.size, 1, none⟩) (Nat.le_refl _) (by show w.heap.size < w3.heap.size; omega) _).setCell (p := ⟨w.heap.size + 1, 0, none⟩) (by show w.heap.size ≤ w.heap.size + 1; omega) (by show w.heap.size + 1 < w3.heap.size; omega) _
      clear y1 y2 y3 y4 y5
      gi_wp2
      exact ⟨q6, ⟨rfl, ⟨pre, (c, la, e), rfl, he, q2, q3⟩, q5⟩⟩
  case done =>
    clear r1 r2 r3 x4 hb3
    rintro D xs W hD hS ⟨hz, hR2, hR3, hAl, hB⟩ hK
    rcases hS with ⟨ha, rfl⟩ | ⟨q, _, rfl⟩
    · obtain ⟨hl1, hl2⟩ := lastx_goods rs rs.length rfl
      rw [hl1, hl2] at hAl
      obtain ⟨n, hn⟩ : ∃ n, n = rs.length := ⟨_, rfl⟩
      rw [← hn] at hAl
      have c2 := hR2.cell
      have f2 := hR2.frozen
      have c3 := hR3.cell
      have f3 := hR3.frozen
      have c4 := hAl.cell
      by_cases hov : 65535 < rs.length
      · have hres : ofF rs = (0, 0, 16) := by unfold ofF; rw [if_neg (by rw [ha]; simp), if_pos hov]
        have z3 : (65535 : Int) < (n : Int) := by omega
        have ho' := HO.out
        rw [hres] at ho'
        injection ho' with e1 e2
        injection e2 with e2 e3
        subst e1 e2 e3
        clear hn hl1 hl2 hres
        have p2 : Blk (((W.setCell ⟨w.heap.size, 0, none⟩ (.int .i64 0)).setCell ⟨w.heap.size, 1, none⟩ (.int .i64 0)).setCell ⟨w.heap.size + 1, 0, none⟩ (.int .i64 16)) w.heap.size 23 #[.int .i64 0, .int .i64 0] := (hR2.set2 _ _).far (p := ⟨w.heap.size + 1, 0, none⟩) (by show w.heap.size ≠ w.heap.size + 1; omega) _
        have p3 : Blk (((W.setCell ⟨w.heap.size, 0, none⟩ (.int .i64 0)).setCell ⟨w.heap.size, 1, none⟩ (.int .i64 0)).setCell ⟨w.heap.size + 1, 0, none⟩ (.int .i64 16)) (w.heap.size + 1) 25 #[.int .i64 16] := ((hR3.far (p := ⟨w.heap.size, 0, none⟩) (by show w.heap.size + 1 ≠ w.heap.size; omega) _).far (p := ⟨w.heap.size, 1, none⟩) (by show w.heap.size + 1 ≠ w.heap.size; omega) _).set_ 0 _
        have pB : Below w.heap.size w (((W.setCell ⟨w.heap.size, 0, none⟩ (.int .i64 0)).setCell ⟨w.heap.size, 1, none⟩ (.int .i64 0)).setCell ⟨w.heap.size + 1, 0, none⟩ (.int .i64 16)) := b_set1 (b_set0 (b_set0 hB 0 _) 1 _) 0 _
        have pK : (((W.setCell ⟨w.heap.size, 0, none⟩ (.int .i64 0)).setCell ⟨w.heap.size, 1, none⟩ (.int .i64 0)).setCell ⟨w.heap.size + 1, 0, none⟩ (.int .i64 16)).heap[D]? = some (.deferred (some [])) := (((Below.heap_setCell _ ⟨w.heap.size + 1, 0, none⟩ _ D (by show D ≠ w.heap.size + 1; omega)).trans (Below.heap_setCell _ ⟨w.heap.size, 1, none⟩ _ D (by show D ≠ w.heap.size; omega))).trans (Below.heap_setCell _ ⟨w.heap.size, 0, none⟩ _ D (by show D ≠ w.heap.size; omega))).trans hK
        gi_wp2
        refine ⟨by simp, .inl ⟨_, _, rfl, run_takeDeferred pK, ?_⟩⟩
        have g2 := (p2.putObj (l := D) (by omega) (.deferred none)).cell
        have g3 := (p3.putObj (l := D) (by omega) (.deferred none)).cell
        have gB := pB.trans (below_putObj _ D (.deferred none) (by omega))
        refine ⟨_, ?_, rfl, gB⟩
        simp [results, Try.results23, go_sem, g2, g3]
      · have hres : ofF rs = ((n : Int), lastF rs, 0) := by unfold ofF; rw [if_neg (by rw [ha]; simp), if_neg hov, hn]
        have z3 : (n : Int) ≤ 65535 := by omega
        have ho' := HO.out
        rw [hres] at ho'
        injection ho' with e1 e2
        injection e2 with e2 e3
        subst e1 e3
        rw [← e2] at hAl c4
        clear e2 hn hl1 hl2 hres
        have p2 : Blk (((W.setCell ⟨w.heap.size, 0, none⟩ (.int .i64 (n : Nat))).setCell ⟨w.heap.size, 1, none⟩ (.int .i64 o2)).setCell ⟨w.heap.size + 1, 0, none⟩ (.int .i64 0)) w.heap.size 23 #[.int .i64 (n : Nat), .int .i64 o2] := (hR2.set2 _ _).far (p := ⟨w.heap.size + 1, 0, none⟩) (by show w.heap.size ≠ w.heap.size + 1; omega) _
        have p3 : Blk (((W.setCell ⟨w.heap.size, 0, none⟩ (.int .i64 (n : Nat))).setCell ⟨w.heap.size, 1, none⟩ (.int .i64 o2)).setCell ⟨w.heap.size + 1, 0, none⟩ (.int .i64 0)) (w.heap.size + 1) 25 #[.int .i64 0] := ((hR3.far (p := ⟨w.heap.size, 0, none⟩) (by show w.heap.size + 1 ≠ w.heap.size; omega) _).far (p := ⟨w.heap.size, 1, none⟩) (by show w.heap.size + 1 ≠ w.heap.size; omega) _).set_ 0 _
        have pB : Below w.heap.size w (((W.setCell ⟨w.heap.size, 0, none⟩ (.int .i64 (n : Nat))).setCell ⟨w.heap.size, 1, none⟩ (.int .i64 o2)).setCell ⟨w.heap.size + 1, 0, none⟩ (.int .i64 0)) := b_set1 (b_set0 (b_set0 hB 0 _) 1 _) 0 _
        have pK : (((W.setCell ⟨w.heap.size, 0, none⟩ (.int .i64 (n : Nat))).setCell ⟨w.heap.size, 1, none⟩ (.int .i64 o2)).setCell ⟨w.heap.size + 1, 0, none⟩ (.int .i64 0)).heap[D]? = some (.deferred (some [])) := (((Below.heap_setCell _ ⟨w.heap.size + 1, 0, none⟩ _ D (by show D ≠ w.heap.size + 1; omega)).trans (Below.heap_setCell _ ⟨w.heap.size, 1, none⟩ _ D (by show D ≠ w.heap.size; omega))).trans (Below.heap_setCell _ ⟨w.heap.size, 0, none⟩ _ D (by show D ≠ w.heap.size; omega))).trans hK
        gi_wp2
        refine ⟨by simp, .inl ⟨_, _, rfl, run_takeDeferred pK, ?_⟩⟩
        have g2 := (p2.putObj (l := D) (by omega) (.deferred none)).cell
        have g3 := (p3.putObj (l := D) (by omega) (.deferred none)).cell
        have gB := pB.trans (below_putObj _ D (.deferred none) (by omega))
        refine ⟨_, ?_, rfl, gB⟩
        simp [results, Try.results23, go_sem, g2, g3]
    · have := hz (0, 0, 2) (by simp)
      exact absurd this (by decide)
  case stop =>
    clear r1 r2 r3 x4 hb3
    rintro D c pre W hD hSp ⟨rfl, ⟨p, x, rfl, hx, hR2, hR3⟩, hB⟩ hK
    have hx2 : x = (0, 0, 2) ∧ ∃ q, Bad rs q := by
      rcases hSp with ⟨q, hq⟩ | ⟨q, hb, hq⟩
      · exact absurd (goods_zero x (by rw [← hq]; simp)) hx
      · have h1 := congrArg List.getLast? hq
        simp only [List.getLast?_append, List.getLast?_singleton, Option.some_or] at h1
        injection h1 with h1
        exact ⟨h1, q, hb⟩
    obtain ⟨rfl, q, r, hr1, hr2⟩ := hx2
    have hres : ofF rs = (0, 0, 2) := by unfold ofF; rw [if_pos (allOk_bad hr1 hr2)]
    have ho' := HO.out
    rw [hres] at ho'
    injection ho' with e1 e2
    injection e2 with e2 e3
    subst e1 e2 e3
    clear hres
    have p2 := hR2
    have p3 : Blk W (w.heap.size + 1) 25 #[.int .i64 2] := hR3
    have pB := hB
    have pK := hK
    gi_wp2
    refine ⟨by simp, .inl ⟨_, _, rfl, run_takeDeferred pK, ?_⟩⟩
    have g2 := (p2.putObj (l := D) (by omega) (.deferred none)).cell
    have g3 := (p3.putObj (l := D) (by omega) (.deferred none)).cell
    have gB := pB.trans (below_putObj _ D (.deferred none) (by omega))
    refine ⟨_, ?_, rfl, gB⟩
    simp [results, Try.results23, go_sem, g2, g3]
end Go.Proofs.Ytiobnhdcapfhgaa
