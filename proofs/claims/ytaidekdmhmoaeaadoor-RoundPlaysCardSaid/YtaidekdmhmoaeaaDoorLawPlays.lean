/-
  RoundPlays: for every number of slots, list of steps and slot the law returns true and changes nothing. No condition but the library's table.
-/
import Derived.Test.YtaidekdmhmoaeaaDoorTab
import Derived.Test.YtaidekdmhmoaeaaDoorMov
import Derived.Test.YtaidekdmhmoaeaaDoorPlx
import Derived.Deep.CutBlock
import Derived.Deep.DeepCutAuto
namespace Go.Proofs.YtaidekdmhmoaeaaDoor.roundPlays
open Go.ChangeShapes Go.WideShapes Go.ChangeAt Go.RowKit
set_option linter.unusedVariables false
set_option linter.unusedSimpArgs false

open Go.Proofs.YtaidekdmhmoaeaaDoor.Pr
open Go.ChangeShapes Go.WideShapes Go.ChangeAt Go.RowKit Go.Joins Go.Deep
/-- what a slice of ints holds that came in -/
structure InS (w : World) (A : Option Addr) (n c : Nat) (xs : List Int) : Prop where
  len : xs.length = n
  ri : RI w A (xs.map (Value.int .i64))
  nil : A = none → n = 0 ∧ c = 0
  nc : n ≤ c
  cm : c ≤ maxLen
set_option maxRecDepth 100000 in
theorem ints_of_trod {H : Type} {enc : TypeId × Value → H} {w : World} {base m : Nat} {x : Value} {y : DataW H × List MemPlace} (h : DataW.trod enc Tryd.prog w base (fun _ => true) true m 22 [x] = some y) : ∃ (A : Option Addr) (n c : Nat) (xs : List Int), x = .slice A n c ∧ InS w A n c xs := by
  rcases open_slice Tryd.underlying22 h with ⟨hcs, _⟩ | ⟨a, l, c, m', n', D, Pl, hcs, hb, hl, hm, hmm, hx, hi⟩
  · injection hcs with hcs
    subst hcs
    exact ⟨none, 0, 0, [], rfl, ⟨rfl, .inl rfl, fun _ => ⟨rfl, rfl⟩, Nat.le_refl _, by unfold maxLen; omega⟩⟩
  · injection hcs with hcs
    subst hcs
    have hmc : m' = c := by simpa using hmm
    have key : ∀ i, ∃ z : Int, i < l → w.cell? (a.add i) = some (.int .i64 z) := by
      intro i
      by_cases hil : i < l
      · obtain ⟨cs', hc, ht'⟩ := hi i (by omega)
        rw [show Tryd.prog.cellsOf 3 = 1 by kernel_rfl, Nat.mul_one] at hc
        obtain ⟨_, hcl, hat⟩ := World.cells?_some hc
        obtain ⟨z, q, _, _⟩ := DataW.trod_int Tryd.underlying3 ht'
        refine ⟨z, fun _ => ?_⟩
        have h0 := hat (i := 0) (by omega)
        subst q
        simpa [Addr.add] using h0
      · exact ⟨0, fun h => absurd h hil⟩
    obtain ⟨f, hf⟩ : ∃ f : Nat → Int, ∀ i, i < l → w.cell? (a.add i) = some (.int .i64 (f i)) := ⟨fun i => (key i).choose, fun i => (key i).choose_spec⟩
    refine ⟨some a, l, c, (List.range l).map f, rfl, ⟨by simp, ?_, fun h => (by cases h), hl, hm⟩⟩
    rcases Nat.eq_zero_or_pos l with rfl | hp
    · exact .inl rfl
    · obtain ⟨b, off, spot⟩ := a
      have h0 := hf 0 hp
      have hsp : spot = none := by simpa [Addr.add] using World.cell?_spot h0
      subst hsp
      refine .inr ⟨b, off, rfl, by simpa [Addr.add] using block_lt_of_cell h0, fun i u hu => ?_⟩
      rw [List.getElem?_map, List.getElem?_map] at hu
      by_cases hil : i < l
      · rw [List.getElem?_range hil] at hu
        simp only [Option.map_some, Option.some.injEq] at hu
        subst hu
        have h2 := hf i hil
        rw [Addr.add_lit] at h2
        exact h2
      · rw [List.getElem?_eq_none (by simp; omega)] at hu
        cases hu
/-- a slice of steps: kind, slice and number of each -/
def IsSteps (w : World) (a : Option Addr) (len cap : Nat) (K : Nat → Int) (L : Nat → Option Addr × Nat × Nat × List Int) (N : Nat → Int) : Prop :=
  len ≤ cap ∧ cap ≤ maxLen ∧ (∀ i, i < len → (0 ≤ K i ∧ K i ≤ 255) ∧ InS w (L i).1 (L i).2.1 (L i).2.2.1 (L i).2.2.2) ∧
  (0 < len → ∃ b off : Nat, a = some ⟨b, off, none⟩ ∧ b < w.heap.size ∧ ∀ i, i < len → w.cell? ⟨b, off + i * 3, none⟩ = some (.int .u8 (K i)) ∧ w.cell? ⟨b, off + (i * 3 + 1), none⟩ = some (.slice (L i).1 (L i).2.1 (L i).2.2.1) ∧ w.cell? ⟨b, off + (i * 3 + 2), none⟩ = some (.int .i64 (N i)))
set_option maxRecDepth 100000 in
theorem open_steps {H : Type} {enc : TypeId × Value → H} {w : World} {base b0 : Nat} {r : Reach} {v : Value} {d : DataW H} {p : List MemPlace} (hv : Value.okWide Tryd.prog w r b0 35 v) (h : DataW.Trod enc Tryd.prog w base (fun _ => true) true 35 v d p) :
    ∃ (a : Option Addr) (len cap : Nat) (K : Nat → Int) (L : Nat → Option Addr × Nat × Nat × List Int) (N : Nat → Int), v = .slice a len cap ∧ IsSteps w a len cap K L N := by
  obtain ⟨a, len, cap, rfl, h1, h2, h3⟩ := open_rows Tryd.underlying35 Tryd.underlying42 (by kernel_rfl) (by kernel_rfl) (by decide) hv h
  have key : ∀ i, ∃ (k : Int) (x : Option Addr × Nat × Nat × List Int) (n : Int), i < len → ((0 ≤ k ∧ k ≤ 255) ∧ InS w x.1 x.2.1 x.2.2.1 x.2.2.2) ∧ ∀ b off : Nat, a = some ⟨b, off, none⟩ → w.cell? ⟨b, off + i * 3, none⟩ = some (.int .u8 k) ∧ w.cell? ⟨b, off + (i * 3 + 1), none⟩ = some (.slice x.1 x.2.1 x.2.2.1) ∧ w.cell? ⟨b, off + (i * 3 + 2), none⟩ = some (.int .i64 n) := by
    intro i
    by_cases hi : i < len
    · obtain ⟨b, off, rfl, _, hc⟩ := h3 (by omega)
      obtain ⟨x0, m0, y0, e0, g0⟩ := hc i hi 0 _ rfl
      obtain ⟨x1, m1, y1, e1, g1⟩ := hc i hi 1 _ rfl
      obtain ⟨x2, m2, y2, e2, g2⟩ := hc i hi 2 _ rfl
      obtain ⟨k, q, _, wk⟩ := DataW.trod_int Tryd.underlying5 g0
      obtain ⟨A, nn, cc, xs, rfl, hI⟩ := ints_of_trod g1
      obtain ⟨n, q'', _, wn⟩ := DataW.trod_int Tryd.underlying3 g2
      simp only [List.cons.injEq, and_true] at q q''
      subst q q''
      have bk := bounds_u8 wk
      refine ⟨k, (A, nn, cc, xs), n, fun _ => ⟨⟨⟨bk.1, bk.2⟩, hI⟩, fun b' off' hh => ?_⟩⟩
      injection hh with hh
      injection hh with hh1 hh2 _
      subst hh1 hh2
      exact ⟨e0, e1, e2⟩
    · exact ⟨0, (none, 0, 0, []), 0, fun h => absurd h hi⟩
  refine ⟨a, len, cap, fun i => (key i).choose, fun i => (key i).choose_spec.choose, fun i => (key i).choose_spec.choose_spec.choose, rfl, h1, h2, fun i hi => ((key i).choose_spec.choose_spec.choose_spec hi).1, fun hp => ?_⟩
  obtain ⟨b, off, ha, hlt, _⟩ := h3 hp
  exact ⟨b, off, ha, hlt, fun i hi => ((key i).choose_spec.choose_spec.choose_spec hi).2 b off ha⟩
/-- between two rounds -/
def PR (W : World) (len : Nat) (v7 v9 v11 v12 i : Value) (wr : World) : Prop :=
  ∃ (k : Nat) (p q po qo : Option Addr) (st so : St) (SL SR SO TO : Nat → Prop), k ≤ len ∧ v7 = .pointer p ∧ v9 = .pointer q ∧ v11 = .pointer po ∧ v12 = .pointer qo ∧ i = .int .i64 k ∧ LO W wr p st SL ∧ RO W wr q st SR ∧ LO W wr po so SO ∧ RO W wr qo so TO ∧
    (∀ k, SL k → ¬ SR k) ∧ (∀ k, SL k ∨ SR k → ¬ SO k ∧ ¬ TO k) ∧ cnt st ≤ (k : Int) ∧ Below W.heap.size W wr
/-- behind the step -/
def PC (W : World) (bx : Nat) (cs : Array Value) (k : Nat) (v7 v9 v11 v12 v15 v16 : Value) (wx : World) : Prop :=
  ∃ (p q po qo : Option Addr) (st so : St) (SL SR SO TO : Nat → Prop) (z : Int), v7 = .pointer p ∧ v9 = .pointer q ∧ v11 = .pointer po ∧ v12 = .pointer qo ∧ v15 = .int .i64 z ∧ v16 = .int .i64 z ∧ KP W bx cs p q po qo st st so SL SR SO TO wx ∧ cnt st ≤ (k : Int) + 1

set_option maxHeartbeats 6400000 in
set_option maxRecDepth 100000 in
theorem walk {H : Type} {enc : TypeId × Value → H} (W : World) (base : Nat) (hT : Rd.Tab W) {v0 v1 v2 : Value} {d0 d1 d2 : DataW H} {p0 p1 p2 : List MemPlace} (o0 : Value.okWide Tryd.prog W .any base 3 v0) (h0 : DataW.Trod enc Tryd.prog W 0 (fun _ => true) true 3 v0 d0 p0) (o1 : Value.okWide Tryd.prog W .any base 35 v1) (h1 : DataW.Trod enc Tryd.prog W 0 (fun _ => true) true 35 v1 d1 p1) (o2 : Value.okWide Tryd.prog W .any base 3 v2) (h2 : DataW.Trod enc Tryd.prog W 0 (fun _ => true) true 3 v2 d2 p2) :
    Calls Tryd.prog 4 #[v0, v1, v2] W fun e W' => e = .returned (.bool true) ∧ Below W.heap.size W W' := by
  obtain ⟨mz, rfl, rfl, rfl, wm⟩ := open_int Tryd.underlying3 o0 h0
  obtain ⟨iz, rfl, rfl, rfl, wi⟩ := open_int Tryd.underlying3 o2 h2
  clear wm o0 h0 wi o2 h2
  obtain ⟨am, len, cm, D, X, N, rfl, hst⟩ := open_steps o1 h1
  clear o1 h1
  have p4 : len ≤ cm := hst.1
  have p5 : len ≤ 9223372036854775807 := by have := hst.2.1; unfold maxLen at this; omega
  have HST := Lib.hid hst
  clear hst
  by_cases hL : len ≤ 100
  · have y1 : ¬ (100 : Int) < (len : Int) := by omega
    have y2 : (len : Int) ≤ 100 := by omega
    by_cases hm : mz < 1 ∨ 32 < mz
    · go_enter Tryd.func4, Tryd.ntmps4
      go_wp2_with fail
      refine (Rd.New_err mz _ hm).mono ?_
      rintro e w' ⟨rfl, rfl⟩
      go_wp2_with fail
      refine (Rr.New_err mz _ hm).mono ?_
      rintro e w' ⟨rfl, rfl⟩
      clear hm
      go_wp2_with fail
      go_loopw [7, 9, 11, 12, 44] (PR W len) (fun _ _ _ _ i _ => len - (intOf i).toNat)
      case atStart => exact ⟨0, none, none, none, none, none, none, _, _, _, _, by omega, rfl, rfl, rfl, rfl, rfl, .inl ⟨rfl, rfl, rfl⟩, .inl ⟨rfl, rfl, rfl⟩, .inl ⟨rfl, rfl, rfl⟩, .inl ⟨rfl, rfl, rfl⟩, fun k h => h.elim, fun k h => (h.elim id id).elim, Int.le_refl _, Below.refl _ _⟩
      case round =>
        obtain ⟨k, p, q, po, qo, st, so, SL, SR, SO, TO, hk, rfl, rfl, rfl, rfl, rfl, hl, hr, hlo, hro, d1, d2, n1, hB⟩ := hrel
        by_cases hlt : k < len
        · have z1 : (k : Int) < (len : Int) := by omega
          have z2 : (0 : Int) ≤ (k : Int) := by omega
          obtain ⟨hq1, hq2, hq3, hq4⟩ := HST.out
          obtain ⟨bs, os, rfl, hbs, hcs⟩ := hq4 (by omega)
          obtain ⟨c0, c1, c2⟩ := hcs k hlt
          obtain ⟨⟨k0, k1⟩, hI⟩ := hq3 k hlt
          obtain ⟨d, hd⟩ : ∃ d : Nat, D k = (d : Int) := ⟨(D k).toNat, by omega⟩
          obtain ⟨x, hx⟩ : ∃ x, X k = x := ⟨_, rfl⟩
          obtain ⟨y, hy⟩ : ∃ y, N k = y := ⟨_, rfl⟩
          rw [hd] at c0 k1
          rw [hx] at c1 hI
          rw [hy] at c2
          obtain ⟨A, n, c, xs⟩ := x
          have hI : InS W A n c xs := hI
          have c1 : W.cell? ⟨bs, os + (k * 3 + 1), none⟩ = some (.slice A n c) := c1
          have c0 : wr.cell? ⟨bs, os + k * 3, none⟩ = some (.int .u8 d) := (hB.cell hbs).trans c0
          have c1 : wr.cell? ⟨bs, os + k * 3 + 1, none⟩ = some (.slice A n c) := (hB.cell hbs).trans (by rw [Nat.add_assoc]; exact c1)
          have c2 : wr.cell? ⟨bs, os + k * 3 + 2, none⟩ = some (.int .i64 y) := (hB.cell hbs).trans (by rw [Nat.add_assoc]; exact c2)
          have k1 : d ≤ 255 := by omega
          have hbs' : bs < wr.heap.size := Nat.lt_of_lt_of_le hbs hB.size
          have hK := KP.start (cs := #[.int .u8 d, .slice A n c, .int .i64 y]) hl hr hlo hro d1 d2 hB
          have HI := Lib.hid hI
          clear hq1 hq2 hq3 hq4 hcs hd hx hy hbs k0 hl hr hlo hro d1 d2 hB hI
          rename Hid (InS W A n c xs) => hI
          by_cases hn5 : n ≤ 50
          · have z3 : (n : Int) ≤ 50 := by omega
            have z4 : ¬ (50 : Int) < (n : Int) := by omega
            have hdm : d % 4 = 0 ∨ d % 4 = 1 ∨ d % 4 = 2 ∨ d % 4 = 3 := by omega
            have HDM := Lib.hid hdm
            clear hdm
            go_upto_block 2 with fail
            obtain ⟨bx, hbx⟩ : ∃ bx, bx = wr.heap.size := ⟨_, rfl⟩
            rw [← hbx] at hK ⊢
            generalize wr.alloc (.cells #[.int .u8 d, .slice A n c, .int .i64 y] 42) = wA at hK ⊢
            clear hbx c0 c1 c2 hbs'
            go_cut [7, 9, 11, 12, 15, 16] (PC W bx #[.int .u8 d, .slice A n c, .int .i64 y] k)
            case first =>
              have cX := hK.x.cell
              rcases HDM.out with hdm | hdm | hdm | hdm
              · have u0 : ((d : Int) % 4 == 0) = true := by rw [beq_iff_eq]; omega
                clear hdm
                have hcl0 := cl_in A n c xs wA (hI.out.ri.later hK.b) hI.out.len hI.out.nil (by omega) hI.out.nc hI.out.cm
                go_wp2_with fail
                refine hcl0.mono ?_
                rintro e w1 ⟨⟨Ag, cg, rfl, og⟩, hb1⟩
                obtain ⟨hV, a3, a4, a5, a6⟩ := GV.start hK og
                have hK1 := hK.later hb1
                have HC := Lib.hid n1
                clear hcl0 cX og
                have cX := hK1.x.cell
                have gL : ∀ w, Below w1.heap.size w1 w → _ := fun w hw => Pr.begL_own (hK1.later hw) (hV.later hw) hI.out.len hn5 (by have := HC.out; omega)
                have gR : ∀ S1 w, KP W bx #[.int .u8 d, .slice A n c, .int .i64 y] p q po qo (begT xs st) st so S1 SR SO TO w → GV wA.heap.size Ag n cg xs S1 SR w → _ := fun S1 w hw hv => Pr.begR_own (c' := c) hw hv hI.out.ri hI.out.len hn5 (by have := HC.out; omega)
                go_wp2_with fail
                go_region_with (first
                  | ((with_reducible refine (gL _ (by first | exact Below.refl _ _ | exact (Below.refl _ _).drew)).mono ?_); rintro e w7 ⟨rfl, S1, hK7, hV7⟩; have cX7 := hK7.x.cell)
                  | ((with_reducible refine (gR _ _ hK7 hV7).mono ?_); rintro e w8 ⟨rfl, S2, hK8, hV8⟩)
                  | ((with_reducible refine (gR _ _ (hK7.later (Below.drew (Below.refl _ _))) (hV7.later (Below.drew (Below.refl _ _)))).mono ?_); rintro e w8 ⟨rfl, S2, hK8, hV8⟩))
                all_goals
                  (clear gL gR hK7 hV7 cX7 hK1 hV cX
                   have cX8 := hK8.x.cell
                   go_wp2_with fail
                   refine (eqi_any Ag A n cg c xs _ hI.out.len (RI.of_row hV8.own) (hI.out.ri.later hK8.b) (by unfold maxLen; omega)).mono ?_
                   rintro e w9 ⟨rfl, q9, rfl⟩
                   have hK9 := hK8.later (below_drewN (Below.refl _ _) q9)
                   have hV9 := hV8.later (below_drewN (Below.refl _ _) q9)
                   generalize World.drewN _ q9 = w9 at hK9 hV9 ⊢
                   clear hK8 hV8 cX8
                   obtain ⟨wz, hcl, hgz⟩ := clear_own hV9.own
                   have hKz := hK9.turn hgz hV9.l hV9.r a3 a4 a5 a6
                   clear hK9 hV9 hgz
                   go_wp2_with fail
                   go_meet
                   exact ⟨_, _, _, _, _, _, _, _, _, _, _, rfl, rfl, rfl, rfl, rfl, rfl, hKz, by have := cnt_beg xs st; omega⟩)
              · have u0 : ((d : Int) % 4 == 0) = false := by rw [beq_eq_false_iff_ne]; omega
                have u1 : ((d : Int) % 4 == 1) = true := by rw [beq_iff_eq]; omega
                clear hdm
                have gL : ∀ w, Below wA.heap.size wA w → _ := fun w hw => Pr.doneL y (hK.later hw)
                have gR : ∀ S1 w, KP W bx #[.int .u8 d, .slice A n c, .int .i64 y] p q po qo (doneT y st) st so S1 SR SO TO w → _ := fun S1 w hw => Pr.doneR y hw
                go_wp2_with fail
                go_region_with (first
                  | ((with_reducible refine (gL _ (by first | exact Below.refl _ _ | exact (Below.refl _ _).drew)).mono ?_); rintro e w7 ⟨rfl, S1, hK1⟩; have cX1 := hK1.x.cell)
                  | ((with_reducible refine (gR S1 _ (by first | exact hK1 | exact hK1.later (Below.drew (Below.refl _ _)))).mono ?_); rintro e w8 ⟨rfl, S2, hK2⟩))
                all_goals (go_wp2_with fail; go_meet; exact ⟨_, _, _, _, _, _, _, _, _, _, _, rfl, rfl, rfl, rfl, rfl, rfl, (by first | exact hK2 | exact hK2.later (Below.drew (Below.refl _ _))), by rw [cnt_done]; omega⟩)
              · have u0 : ((d : Int) % 4 == 0) = false := by rw [beq_eq_false_iff_ne]; omega
                have u1 : ((d : Int) % 4 == 1) = false := by rw [beq_eq_false_iff_ne]; omega
                have u2 : ((d : Int) % 4 == 2) = true := by rw [beq_iff_eq]; omega
                clear hdm
                have gL : ∀ w, Below wA.heap.size wA w → _ := fun w hw => Pr.doneL y (hK.later hw)
                have gR : ∀ S1 w, KP W bx #[.int .u8 d, .slice A n c, .int .i64 y] p q po qo (doneT y st) st so S1 SR SO TO w → _ := fun S1 w hw => Pr.doneR y hw
                go_wp2_with fail
                go_region_with (first
                  | ((with_reducible refine (gL _ (by first | exact Below.refl _ _ | exact (Below.refl _ _).drew)).mono ?_); rintro e w7 ⟨rfl, S1, hK1⟩; have cX1 := hK1.x.cell)
                  | ((with_reducible refine (gR S1 _ (by first | exact hK1 | exact hK1.later (Below.drew (Below.refl _ _)))).mono ?_); rintro e w8 ⟨rfl, S2, hK2⟩))
                all_goals (go_wp2_with fail; go_meet; exact ⟨_, _, _, _, _, _, _, _, _, _, _, rfl, rfl, rfl, rfl, rfl, rfl, (by first | exact hK2 | exact hK2.later (Below.drew (Below.refl _ _))), by rw [cnt_done]; omega⟩)
              · have u0 : ((d : Int) % 4 == 0) = false := by rw [beq_eq_false_iff_ne]; omega
                have u1 : ((d : Int) % 4 == 1) = false := by rw [beq_eq_false_iff_ne]; omega
                have u2 : ((d : Int) % 4 == 2) = false := by rw [beq_eq_false_iff_ne]; omega
                have u3 : ((d : Int) % 4 == 3) = true := by rw [beq_iff_eq]; omega
                clear hdm
                go_wp2_with fail
                refine (Pr.copyL hK.l hK.b.size).mono ?_
                rintro e w7 ⟨p7, S7, rfl, hl7, g7, hb7⟩
                go_wp2_with fail
                refine (Pr.copyR (hK.later hb7).r (b_then hK.b hb7).size).mono ?_
                rintro e w8 ⟨p8, S8, rfl, hr8, g8, hb8⟩
                go_wp2_with fail
                go_meet
                exact ⟨_, _, _, _, _, _, _, _, _, _, _, rfl, rfl, rfl, rfl, rfl, rfl, KP.copied hK hb7 hl7 g7 hb8 hr8 g8, by omega⟩
            case rest =>
              obtain ⟨p', q', po', qo', st', so', SL', SR', SO', TO', z, rfl, rfl, rfl, rfl, rfl, rfl, hK', m1⟩ := hcut
              clear hK n1
              have cX := hK'.x.cell
              go_wp2_with fail
              refine (Pr.shows_any hK'.l hK'.r (hT.later hK'.b)).mono ?_
              rintro e w5 ⟨rfl, hb5⟩
              have hK5 := hK'.later hb5
              clear hK' hb5 cX
              have cX := hK5.x.cell
              go_wp2_with fail
              refine (Pr.shows_any hK5.l hK5.r (hT.later hK5.b)).mono ?_
              rintro e w6 ⟨rfl, hb6⟩
              have hK6 := hK5.later hb6
              clear hK5 hb6 cX
              go_wp2_with fail
              refine (Pr.shows_any hK6.lo hK6.ro (hT.later hK6.b)).mono ?_
              rintro e w7 ⟨rfl, hb7⟩
              have hK7 := hK6.later hb7
              clear hK6 hb7
              go_wp2_with fail
              go_roundw
              case rel => exact ⟨k + 1, _, _, _, _, st', so', SL', SR', SO', TO', by omega, rfl, rfl, rfl, rfl, by go_num, hK7.l, hK7.r, hK7.lo, hK7.ro, hK7.d1, hK7.d2, by omega, hK7.b⟩
              case measure => simp [intOf]; omega
          · have z3 : (50 : Int) < (n : Int) := by omega
            have cX := hK.x.cell
            go_wp2_with fail
            refine (Rd.works_true _ (hT.later hK.b)).mono ?_
            rintro e wz ⟨rfl, hbz⟩
            go_wp2_with fail
            go_ret
            exact ⟨rfl, b_then hK.b hbz⟩
        · obtain rfl : k = len := by omega
          go_wp2_with fail
          refine (Pr.shows_any hl hr (hT.later hB)).mono ?_
          rintro e w5 ⟨rfl, hb5⟩
          have hB5 := b_then hB hb5
          go_wp2_with fail
          refine (Rd.works_true _ (hT.later hB5)).mono ?_
          rintro e wz ⟨rfl, hbz⟩
          go_wp2_with fail
          go_ret
          exact ⟨rfl, b_then hB5 hbz⟩
    · obtain ⟨s, rfl⟩ : ∃ s : Nat, mz = (s : Int) := ⟨mz.toNat, by omega⟩
      have hs1 : 1 ≤ s := by omega
      have hs2 : s ≤ 32 := by omega
      clear hm
      go_enter Tryd.func4, Tryd.ntmps4
      go_wp2_with fail
      refine (Rd.New_ok s _ hs1 hs2).mono ?_
      rintro e w1 ⟨b1, rfl, h1, g1, hb1⟩
      go_wp2_with fail
      refine (Rr.New_ok s _ hs1 hs2).mono ?_
      rintro e w2 ⟨b2, g2, rfl, h2, gb2, gg2, hb2⟩
      have hB2 := b_then hb1 hb2
      have e1 := h1.later hb2
      have l1 := h1.lt
      have l2 := hb1.size
      have l3 := hb2.size
      have hdj : ∀ k, k = b1 → ¬ (k = b2 ∨ k = g2) := by
        intro k h h'
        omega
      clear h1 hb1 hb2
      go_wp2_with fail
      go_loopw [7, 9, 11, 12, 44] (PR W len) (fun _ _ _ _ i _ => len - (intOf i).toNat)
      case atStart => exact ⟨0, some ⟨b1, 0, none⟩, some ⟨b2, 0, none⟩, none, none, some (s, 0, 0), none, (fun k => k = b1), (fun k => k = b2 ∨ k = g2), _, _, by omega, rfl, rfl, rfl, rfl, rfl, .inr ⟨b1, s, 0, 0, rfl, rfl, e1, Int.le_refl _, g1, rfl⟩, .inr ⟨b2, g2, s, s, 0, 0, rfl, rfl, h2, Int.le_refl _, by omega, by omega, rfl⟩, .inl ⟨rfl, rfl, rfl⟩, .inl ⟨rfl, rfl, rfl⟩, hdj, fun k h => ⟨id, id⟩, Int.le_refl _, hB2⟩
      case round =>
        obtain ⟨k, p, q, po, qo, st, so, SL, SR, SO, TO, hk, rfl, rfl, rfl, rfl, rfl, hl, hr, hlo, hro, d1, d2, n1, hB⟩ := hrel
        clear e1 h2 hB2 l1 l2 l3 g1 gb2 gg2 hdj
        by_cases hlt : k < len
        · have z1 : (k : Int) < (len : Int) := by omega
          have z2 : (0 : Int) ≤ (k : Int) := by omega
          obtain ⟨hq1, hq2, hq3, hq4⟩ := HST.out
          obtain ⟨bs, os, rfl, hbs, hcs⟩ := hq4 (by omega)
          obtain ⟨c0, c1, c2⟩ := hcs k hlt
          obtain ⟨⟨k0, k1⟩, hI⟩ := hq3 k hlt
          obtain ⟨d, hd⟩ : ∃ d : Nat, D k = (d : Int) := ⟨(D k).toNat, by omega⟩
          obtain ⟨x, hx⟩ : ∃ x, X k = x := ⟨_, rfl⟩
          obtain ⟨y, hy⟩ : ∃ y, N k = y := ⟨_, rfl⟩
          rw [hd] at c0 k1
          rw [hx] at c1 hI
          rw [hy] at c2
          obtain ⟨A, n, c, xs⟩ := x
          have hI : InS W A n c xs := hI
          have c1 : W.cell? ⟨bs, os + (k * 3 + 1), none⟩ = some (.slice A n c) := c1
          have c0 : wr.cell? ⟨bs, os + k * 3, none⟩ = some (.int .u8 d) := (hB.cell hbs).trans c0
          have c1 : wr.cell? ⟨bs, os + k * 3 + 1, none⟩ = some (.slice A n c) := (hB.cell hbs).trans (by rw [Nat.add_assoc]; exact c1)
          have c2 : wr.cell? ⟨bs, os + k * 3 + 2, none⟩ = some (.int .i64 y) := (hB.cell hbs).trans (by rw [Nat.add_assoc]; exact c2)
          have k1 : d ≤ 255 := by omega
          have hbs' : bs < wr.heap.size := Nat.lt_of_lt_of_le hbs hB.size
          have hK := KP.start (cs := #[.int .u8 d, .slice A n c, .int .i64 y]) hl hr hlo hro d1 d2 hB
          have HI := Lib.hid hI
          clear hq1 hq2 hq3 hq4 hcs hd hx hy hbs k0 hl hr hlo hro d1 d2 hB hI
          rename Hid (InS W A n c xs) => hI
          by_cases hn5 : n ≤ 50
          · have z3 : (n : Int) ≤ 50 := by omega
            have z4 : ¬ (50 : Int) < (n : Int) := by omega
            have hdm : d % 4 = 0 ∨ d % 4 = 1 ∨ d % 4 = 2 ∨ d % 4 = 3 := by omega
            have HDM := Lib.hid hdm
            clear hdm
            go_upto_block 2 with fail
            obtain ⟨bx, hbx⟩ : ∃ bx, bx = wr.heap.size := ⟨_, rfl⟩
            rw [← hbx] at hK ⊢
            generalize wr.alloc (.cells #[.int .u8 d, .slice A n c, .int .i64 y] 42) = wA at hK ⊢
            clear hbx c0 c1 c2 hbs'
            go_cut [7, 9, 11, 12, 15, 16] (PC W bx #[.int .u8 d, .slice A n c, .int .i64 y] k)
            case first =>
              have cX := hK.x.cell
              rcases HDM.out with hdm | hdm | hdm | hdm
              · have u0 : ((d : Int) % 4 == 0) = true := by rw [beq_iff_eq]; omega
                clear hdm
                have hcl0 := cl_in A n c xs wA (hI.out.ri.later hK.b) hI.out.len hI.out.nil (by omega) hI.out.nc hI.out.cm
                go_wp2_with fail
                refine hcl0.mono ?_
                rintro e w1 ⟨⟨Ag, cg, rfl, og⟩, hb1⟩
                obtain ⟨hV, a3, a4, a5, a6⟩ := GV.start hK og
                have hK1 := hK.later hb1
                have HC := Lib.hid n1
                clear hcl0 cX og
                have cX := hK1.x.cell
                have gL : ∀ w, Below w1.heap.size w1 w → _ := fun w hw => Pr.begL_own (hK1.later hw) (hV.later hw) hI.out.len hn5 (by have := HC.out; omega)
                have gR : ∀ S1 w, KP W bx #[.int .u8 d, .slice A n c, .int .i64 y] p q po qo (begT xs st) st so S1 SR SO TO w → GV wA.heap.size Ag n cg xs S1 SR w → _ := fun S1 w hw hv => Pr.begR_own (c' := c) hw hv hI.out.ri hI.out.len hn5 (by have := HC.out; omega)
                go_wp2_with fail
                go_region_with (first
                  | ((with_reducible refine (gL _ (by first | exact Below.refl _ _ | exact (Below.refl _ _).drew)).mono ?_); rintro e w7 ⟨rfl, S1, hK7, hV7⟩; have cX7 := hK7.x.cell)
                  | ((with_reducible refine (gR _ _ hK7 hV7).mono ?_); rintro e w8 ⟨rfl, S2, hK8, hV8⟩)
                  | ((with_reducible refine (gR _ _ (hK7.later (Below.drew (Below.refl _ _))) (hV7.later (Below.drew (Below.refl _ _)))).mono ?_); rintro e w8 ⟨rfl, S2, hK8, hV8⟩))
                all_goals
                  (clear gL gR hK7 hV7 cX7 hK1 hV cX
                   have cX8 := hK8.x.cell
                   go_wp2_with fail
                   refine (eqi_any Ag A n cg c xs _ hI.out.len (RI.of_row hV8.own) (hI.out.ri.later hK8.b) (by unfold maxLen; omega)).mono ?_
                   rintro e w9 ⟨rfl, q9, rfl⟩
                   have hK9 := hK8.later (below_drewN (Below.refl _ _) q9)
                   have hV9 := hV8.later (below_drewN (Below.refl _ _) q9)
                   generalize World.drewN _ q9 = w9 at hK9 hV9 ⊢
                   clear hK8 hV8 cX8
                   obtain ⟨wz, hcl, hgz⟩ := clear_own hV9.own
                   have hKz := hK9.turn hgz hV9.l hV9.r a3 a4 a5 a6
                   clear hK9 hV9 hgz
                   go_wp2_with fail
                   go_meet
                   exact ⟨_, _, _, _, _, _, _, _, _, _, _, rfl, rfl, rfl, rfl, rfl, rfl, hKz, by have := cnt_beg xs st; omega⟩)
              · have u0 : ((d : Int) % 4 == 0) = false := by rw [beq_eq_false_iff_ne]; omega
                have u1 : ((d : Int) % 4 == 1) = true := by rw [beq_iff_eq]; omega
                clear hdm
                have gL : ∀ w, Below wA.heap.size wA w → _ := fun w hw => Pr.doneL y (hK.later hw)
                have gR : ∀ S1 w, KP W bx #[.int .u8 d, .slice A n c, .int .i64 y] p q po qo (doneT y st) st so S1 SR SO TO w → _ := fun S1 w hw => Pr.doneR y hw
                go_wp2_with fail
                go_region_with (first
                  | ((with_reducible refine (gL _ (by first | exact Below.refl _ _ | exact (Below.refl _ _).drew)).mono ?_); rintro e w7 ⟨rfl, S1, hK1⟩; have cX1 := hK1.x.cell)
                  | ((with_reducible refine (gR S1 _ (by first | exact hK1 | exact hK1.later (Below.drew (Below.refl _ _)))).mono ?_); rintro e w8 ⟨rfl, S2, hK2⟩))
                all_goals (go_wp2_with fail; go_meet; exact ⟨_, _, _, _, _, _, _, _, _, _, _, rfl, rfl, rfl, rfl, rfl, rfl, (by first | exact hK2 | exact hK2.later (Below.drew (Below.refl _ _))), by rw [cnt_done]; omega⟩)
              · have u0 : ((d : Int) % 4 == 0) = false := by rw [beq_eq_false_iff_ne]; omega
                have u1 : ((d : Int) % 4 == 1) = false := by rw [beq_eq_false_iff_ne]; omega
                have u2 : ((d : Int) % 4 == 2) = true := by rw [beq_iff_eq]; omega
                clear hdm
                have gL : ∀ w, Below wA.heap.size wA w → _ := fun w hw => Pr.doneL y (hK.later hw)
                have gR : ∀ S1 w, KP W bx #[.int .u8 d, .slice A n c, .int .i64 y] p q po qo (doneT y st) st so S1 SR SO TO w → _ := fun S1 w hw => Pr.doneR y hw
                go_wp2_with fail
                go_region_with (first
                  | ((with_reducible refine (gL _ (by first | exact Below.refl _ _ | exact (Below.refl _ _).drew)).mono ?_); rintro e w7 ⟨rfl, S1, hK1⟩; have cX1 := hK1.x.cell)
                  | ((with_reducible refine (gR S1 _ (by first | exact hK1 | exact hK1.later (Below.drew (Below.refl _ _)))).mono ?_); rintro e w8 ⟨rfl, S2, hK2⟩))
                all_goals (go_wp2_with fail; go_meet; exact ⟨_, _, _, _, _, _, _, _, _, _, _, rfl, rfl, rfl, rfl, rfl, rfl, (by first | exact hK2 | exact hK2.later (Below.drew (Below.refl _ _))), by rw [cnt_done]; omega⟩)
              · have u0 : ((d : Int) % 4 == 0) = false := by rw [beq_eq_false_iff_ne]; omega
                have u1 : ((d : Int) % 4 == 1) = false := by rw [beq_eq_false_iff_ne]; omega
                have u2 : ((d : Int) % 4 == 2) = false := by rw [beq_eq_false_iff_ne]; omega
                have u3 : ((d : Int) % 4 == 3) = true := by rw [beq_iff_eq]; omega
                clear hdm
                go_wp2_with fail
                refine (Pr.copyL hK.l hK.b.size).mono ?_
                rintro e w7 ⟨p7, S7, rfl, hl7, g7, hb7⟩
                go_wp2_with fail
                refine (Pr.copyR (hK.later hb7).r (b_then hK.b hb7).size).mono ?_
                rintro e w8 ⟨p8, S8, rfl, hr8, g8, hb8⟩
                go_wp2_with fail
                go_meet
                exact ⟨_, _, _, _, _, _, _, _, _, _, _, rfl, rfl, rfl, rfl, rfl, rfl, KP.copied hK hb7 hl7 g7 hb8 hr8 g8, by omega⟩
            case rest =>
              obtain ⟨p', q', po', qo', st', so', SL', SR', SO', TO', z, rfl, rfl, rfl, rfl, rfl, rfl, hK', m1⟩ := hcut
              clear hK n1
              have cX := hK'.x.cell
              go_wp2_with fail
              refine (Pr.shows_any hK'.l hK'.r (hT.later hK'.b)).mono ?_
              rintro e w5 ⟨rfl, hb5⟩
              have hK5 := hK'.later hb5
              clear hK' hb5 cX
              have cX := hK5.x.cell
              go_wp2_with fail
              refine (Pr.shows_any hK5.l hK5.r (hT.later hK5.b)).mono ?_
              rintro e w6 ⟨rfl, hb6⟩
              have hK6 := hK5.later hb6
              clear hK5 hb6 cX
              go_wp2_with fail
              refine (Pr.shows_any hK6.lo hK6.ro (hT.later hK6.b)).mono ?_
              rintro e w7 ⟨rfl, hb7⟩
              have hK7 := hK6.later hb7
              clear hK6 hb7
              go_wp2_with fail
              go_roundw
              case rel => exact ⟨k + 1, _, _, _, _, st', so', SL', SR', SO', TO', by omega, rfl, rfl, rfl, rfl, by go_num, hK7.l, hK7.r, hK7.lo, hK7.ro, hK7.d1, hK7.d2, by omega, hK7.b⟩
              case measure => simp [intOf]; omega
          · have z3 : (50 : Int) < (n : Int) := by omega
            have cX := hK.x.cell
            go_wp2_with fail
            refine (Rd.works_true _ (hT.later hK.b)).mono ?_
            rintro e wz ⟨rfl, hbz⟩
            go_wp2_with fail
            go_ret
            exact ⟨rfl, b_then hK.b hbz⟩
        · obtain rfl : k = len := by omega
          go_wp2_with fail
          refine (Pr.shows_any hl hr (hT.later hB)).mono ?_
          rintro e w5 ⟨rfl, hb5⟩
          have hB5 := b_then hB hb5
          go_wp2_with fail
          refine (Rd.works_true _ (hT.later hB5)).mono ?_
          rintro e wz ⟨rfl, hbz⟩
          go_wp2_with fail
          go_ret
          exact ⟨rfl, b_then hB5 hbz⟩
  · have y1 : (100 : Int) < (len : Int) := by omega
    go_enter Tryd.func4, Tryd.ntmps4
    go_wp2_with fail
    refine (Rd.works_true _ hT).mono ?_
    rintro e wz ⟨rfl, hbz⟩
    go_wp2_with fail
    go_ret
    exact ⟨rfl, hbz⟩

set_option maxRecDepth 100000 in
theorem lifted (os : Os) (started : os.Started) (H : Type) (enc : TypeId × Value → H) :
    ReturnsInHanded {} Tryd.checked os 4 .any (fun w args => (Rows.roundPlaysSpec.pre enc Tryd.prog Tryd.f4 [] false w args ∧ laidMetH Tryd.prog Rows.roundPlaysRow.laid w) ∧ sizedMet enc Tryd.prog Tryd.f4 (OpenSpec.ofChange Rows.roundPlaysSpec) false w args)
      (Rows.roundPlaysSpec.post enc Tryd.prog Tryd.f4 false true false false) := by
  refine returnsInHanded_of_change_and (C := Tryd.checked) (X := fun w _ => laidMetH Tryd.prog Rows.roundPlaysRow.laid w) (fun _ _ _ hh h => h.of_heap hh) own started (by kernel_rfl) Tryd.func4
    (ChangeSpec.witness_at (enc := enc) (C := Tryd.checked) (os := os) (X := fun w _ => laidMetH Tryd.prog Rows.roundPlaysRow.laid w) false (Rd.laidWorld os) #[.int .i64 0, .slice none 0 0, .int .i64 0] 8 rfl (by kernel_rfl) (by kernel_rfl) (by kernel_rfl) (by kernel_rfl) (by kernel_rfl) (Rd.laidWorld_met os _)) ?_
  intro W base args ds gs before hval0 hW _ _ hL _
  have hval : ∀ (j : Nat) t v, Tryd.f4.params[j]? = some t → args[j]? = some v → Value.okWide Tryd.prog W .any base t v := hval0
  have hT := Rd.tab_of_laid hL
  have hW' := hW
  obtain ⟨p, q, hA0, hV, rfl, hfz, hnd⟩ := hW
  have hA : DataW.TrodAll enc Tryd.prog W 0 (fun _ => true) true Tryd.f4.params.toList args.toList ds p := hA0
  rw [Tryd.params4] at hA hval
  obtain ⟨v0, vs0, d0, ds0, p0, q0, hargs, rfl, rfl, h0, r0⟩ := trodAll_cons hA
  obtain ⟨v1, vs1, d1, ds1, p1, q1, rfl, rfl, rfl, h1, r1⟩ := trodAll_cons r0
  obtain ⟨v2, vs2, d2, ds2, p2, q2, rfl, rfl, rfl, h2, r2⟩ := trodAll_cons r1
  obtain ⟨rfl, rfl, rfl⟩ := trodAll_nil r2
  obtain rfl : args = #[v0, v1, v2] := by cases args; simp_all
  obtain ⟨rfl, rfl⟩ := trodVars_none hV
  refine (walk (H := H) (enc := enc) W base hT (hval 0 3 v0 rfl rfl) h0 (hval 1 35 v1 rfl rfl) h1 (hval 2 3 v2 rfl rfl) h2).mono fun e W' ⟨he, bel⟩ => ?_
  subst he
  exact ⟨_, rfl, _, _, _, [], _, [], hW', trodAll_mk1 (shut_bool Tryd.underlying4 _), (trodAll_cons_mk (Below.trod laidOut (by kernel_rfl) (of_decide_eq_true (by kernel_rfl)) h0 bel (lt_of_Trod h0)) (trodAll_cons_mk (Below.trod laidOut (by kernel_rfl) (of_decide_eq_true (by kernel_rfl)) h1 bel (lt_of_Trod h1)) (trodAll_cons_mk (Below.trod laidOut (by kernel_rfl) (of_decide_eq_true (by kernel_rfl)) h2 bel (lt_of_Trod h2)) trodAll_mk0))), rfl, bel.frame _, fun h => by cases h⟩

theorem row_holds : Rows.RoundPlaysSaid :=
  OpenClaim.holds_of_wide 4 Tryd.f4 rfl rfl rfl rfl rfl rfl rfl ⟨rfl, rfl, rfl, rfl, rfl⟩ rfl rfl rfl rfl rfl (by kernel_rfl) Tryd.func4 (by kernel_rfl)
    (of_decide_eq_true (by kernel_rfl)) (by unfold Func.isWrapper; first | (rw [if_pos (by decide +kernel)]; kernel_rfl) | (rw [if_neg (by decide +kernel)]; exact ⟨rfl, rfl⟩))
    (fun os started H enc _ => lifted os started H enc)
set_option maxRecDepth 100000 in
/-- RoundPlays: for every number of slots, list of steps and slot the law returns true and changes nothing. No condition but the library's table. -/
theorem proved : Rows.RoundPlaysCardSaid :=
  Claim7.holds_tied_plain_at .later [] [.data] true (true, "78b4ba762495fc154c5a857764e62199e31d2c0b3599cef7315f08e2fe8f9bd5") false
    row_holds (fun _ h => by cases h) (by kernel_rfl) (fun _ h => by cases h) roundPlays_row_tie rfl ⟨rfl, rfl⟩ (by kernel_rfl) rfl
    (fun f fn hf hfn => by
      obtain rfl : f = 4 := Option.some.inj ((show Tryd.prog.funcNamed "drumlin/drumlinlaw27.RoundPlays" = some 4 by kernel_rfl).symm.trans hf) |>.symm
      obtain rfl : fn = Tryd.f4 := (Option.some.inj (Tryd.func4.symm.trans hfn)).symm
      exact ⟨by kernel_rfl, fun j t ht => by
        rw [Tryd.params4] at ht
        exact Rd.no_stand (l := [3, 35, 3]) (by kernel_rfl) j t (by simpa using ht)⟩)
    (by kernel_rfl)
#print axioms proved
end Go.Proofs.YtaidekdmhmoaeaaDoor.roundPlays
