/-
  HistoryPlays: for every limit, list of steps and number the law returns true and changes nothing. No condition.
-/
import Derived.Test.YtohnoioblhkepaaOpen
import Derived.Test.YtohnoioblhkepaaWks
import Derived.Test.YtohnoioblhkepaaMov
import Derived.Test.YtohnoioblhkepaaPl
import Derived.Deep.CutBlock
import Derived.Deep.DeepCutAuto
namespace Go.Proofs.Ytohnoioblhkepaa.historyPlays
open Go.ChangeShapes Go.WideShapes Go.ChangeAt Go.RowKit
open Go.ChangeMaps (open_string shut_string)
set_option linter.unusedSimpArgs false
set_option linter.unusedVariables false

open Go.Proofs.Ytohnoioblhkepaa.Pl
/-- a slice of steps: kind, string and number of each -/
def IsSteps (w : World) (a : Option Addr) (len cap : Nat) (K : Nat → Int) (X : Nat → ByteArray) (N : Nat → Int) : Prop :=
  len ≤ cap ∧ cap ≤ maxLen ∧ (∀ i, i < len → 0 ≤ K i ∧ K i ≤ 255) ∧
  (0 < len → ∃ b off : Nat, a = some ⟨b, off, none⟩ ∧ b < w.heap.size ∧ ∀ i, i < len → w.cell? ⟨b, off + i * 3, none⟩ = some (.int .u8 (K i)) ∧ w.cell? ⟨b, off + (i * 3 + 1), none⟩ = some (.string (X i)) ∧ w.cell? ⟨b, off + (i * 3 + 2), none⟩ = some (.int .i64 (N i)))
set_option maxRecDepth 100000 in
theorem open_steps {H : Type} {enc : TypeId × Value → H} {w : World} {base b0 : Nat} {r : Reach} {v : Value} {d : DataW H} {p : List MemPlace} (hv : Value.okWide Try.prog w r b0 56 v) (h : DataW.Trod enc Try.prog w base (fun _ => true) true 56 v d p) :
    ∃ (a : Option Addr) (len cap : Nat) (K : Nat → Int) (X : Nat → ByteArray) (N : Nat → Int), v = .slice a len cap ∧ IsSteps w a len cap K X N := by
  obtain ⟨a, len, cap, rfl, h1, h2, h3⟩ := open_rows Try.underlying56 Try.underlying64 (by kernel_rfl) (by kernel_rfl) (by decide) hv h
  have key : ∀ i, ∃ (k : Int) (x : ByteArray) (n : Int), i < len → (0 ≤ k ∧ k ≤ 255) ∧ ∀ b off : Nat, a = some ⟨b, off, none⟩ → w.cell? ⟨b, off + i * 3, none⟩ = some (.int .u8 k) ∧ w.cell? ⟨b, off + (i * 3 + 1), none⟩ = some (.string x) ∧ w.cell? ⟨b, off + (i * 3 + 2), none⟩ = some (.int .i64 n) := by
    intro i
    by_cases hi : i < len
    · obtain ⟨b, off, rfl, _, hc⟩ := h3 (by omega)
      obtain ⟨x0, m0, y0, e0, g0⟩ := hc i hi 0 _ rfl
      obtain ⟨x1, m1, y1, e1, g1⟩ := hc i hi 1 _ rfl
      obtain ⟨x2, m2, y2, e2, g2⟩ := hc i hi 2 _ rfl
      obtain ⟨k, q, _, wk⟩ := DataW.trod_int Try.underlying5 g0
      obtain ⟨s, q', _, ws⟩ := DataW.trod_string Try.underlying9 g1
      obtain ⟨n, q'', _, wn⟩ := DataW.trod_int Try.underlying3 g2
      simp only [List.cons.injEq, and_true] at q q' q''
      subst q q' q''
      have bk := bounds_u8 wk
      refine ⟨k, s, n, fun _ => ⟨⟨bk.1, bk.2⟩, fun b' off' hh => ?_⟩⟩
      injection hh with hh
      injection hh with hh1 hh2 _
      subst hh1 hh2
      exact ⟨e0, e1, e2⟩
    · exact ⟨0, ⟨#[]⟩, 0, fun h => absurd h hi⟩
  refine ⟨a, len, cap, fun i => (key i).choose, fun i => (key i).choose_spec.choose, fun i => (key i).choose_spec.choose_spec.choose, rfl, h1, h2, fun i hi => ((key i).choose_spec.choose_spec.choose_spec hi).1, fun hp => ?_⟩
  obtain ⟨b, off, ha, hlt, _⟩ := h3 hp
  exact ⟨b, off, ha, hlt, fun i hi => ((key i).choose_spec.choose_spec.choose_spec hi).2 b off ha⟩
/-- between two rounds -/
def PR (W : World) (most len : Nat) (v7 v9 v11 v12 i : Value) (wr : World) : Prop :=
  ∃ (k : Nat) (p q po qo : Option Addr) (st so : St) (SL SR SO TO : Nat → Prop), k ≤ len ∧ v7 = .pointer p ∧ v9 = .pointer q ∧ v11 = .pointer po ∧ v12 = .pointer qo ∧ i = .int .i64 k ∧ LO W wr most p st SL ∧ RO W wr most q st SR ∧ LO W wr most po so SO ∧ RO W wr most qo so TO ∧
    (∀ k, SL k → ¬ SR k) ∧ (∀ k, SL k ∨ SR k → ¬ SO k ∧ ¬ TO k) ∧ lenT st ≤ k ∧ lenT so ≤ k ∧ Below W.heap.size W wr
/-- behind the step -/
def PC (W : World) (most bx : Nat) (cs : Array Value) (k : Nat) (v7 v9 v11 v12 v15 v16 : Value) (wx : World) : Prop :=
  ∃ (p q po qo : Option Addr) (st so : St) (SL SR SO TO : Nat → Prop) (c : Int), v7 = .pointer p ∧ v9 = .pointer q ∧ v11 = .pointer po ∧ v12 = .pointer qo ∧ v15 = .int .i64 c ∧ v16 = .int .i64 c ∧ KP W most bx cs p q po qo st st so SL SR SO TO wx ∧ lenT st ≤ k + 1 ∧ lenT so ≤ k + 1
theorem KP.copied {W w w1 w2 : World} {most bx : Nat} {cs : Array Value} {p q po qo p' q' : Option Addr} {st so : St} {SL SR SO TO SL' SR' : Nat → Prop} (h : KP W most bx cs p q po qo st st so SL SR SO TO w)
    (hb1 : Below w.heap.size w w1) (hl : LO W w1 most p' st SL') (h1 : ∀ k, SL' k → w.heap.size ≤ k) (hb2 : Below w1.heap.size w1 w2) (hr : RO W w2 most q' st SR') (h2 : ∀ k, SR' k → w1.heap.size ≤ k) : KP W most bx cs p' q' p q st st st SL' SR' SL SR w2 := by
  have hb := b_then hb1 hb2
  have hs := hb1.size
  refine ⟨hl.later hb2, hr, h.l.later hb, h.r.later hb, fun k hk hk' => ?_, fun k hk => ?_, h.x.below hb h.x.lt, fun k hk => ?_, b_then h.b hb⟩
  · have := (hl.in_ k hk).2; have := h2 k hk'; omega
  · have : w.heap.size ≤ k := by rcases hk with hk | hk; exact h1 k hk; exact Nat.le_trans hs (h2 k hk)
    exact ⟨fun ho => by have := (h.l.in_ k ho).2; omega, fun ho => by have := (h.r.in_ k ho).2; omega⟩
  · have : w.heap.size ≤ k := by rcases hk with hk | hk; exact h1 k hk; exact Nat.le_trans hs (h2 k hk)
    have := h.x.lt
    omega
theorem KP.start {W w : World} {most : Nat} {cs : Array Value} {p q po qo : Option Addr} {st so : St} {SL SR SO TO : Nat → Prop} (hl : LO W w most p st SL) (hr : RO W w most q st SR) (ho : LO W w most po so SO) (hO : RO W w most qo so TO) (d1 : ∀ k, SL k → ¬ SR k) (d2 : ∀ k, SL k ∨ SR k → ¬ SO k ∧ ¬ TO k) (hB : Below W.heap.size W w) :
    KP W most w.heap.size cs p q po qo st st so SL SR SO TO (w.alloc (.cells cs 64)) :=
  have ba := b_alloc (Below.refl w.heap.size w) (.cells cs 64)
  ⟨hl.later ba, hr.later ba, ho.later ba, hO.later ba, d1, d2, Blk.new w 64 cs, fun k hk e => by
    subst e
    rcases hk with hk | hk
    · exact absurd (hl.in_ _ hk).2 (Nat.lt_irrefl _)
    · exact absurd (hr.in_ _ hk).2 (Nat.lt_irrefl _), b_alloc hB _⟩

set_option maxHeartbeats 6400000 in
set_option maxRecDepth 100000 in
theorem walk {H : Type} {enc : TypeId × Value → H} (W : World) (base : Nat) {v0 v1 v2 : Value} {d0 d1 d2 : DataW H} {p0 p1 p2 : List MemPlace} (o0 : Value.okWide Try.prog W .any base 3 v0) (h0 : DataW.Trod enc Try.prog W 0 (fun _ => true) true 3 v0 d0 p0) (o1 : Value.okWide Try.prog W .any base 56 v1) (h1 : DataW.Trod enc Try.prog W 0 (fun _ => true) true 56 v1 d1 p1) (o2 : Value.okWide Try.prog W .any base 3 v2) (h2 : DataW.Trod enc Try.prog W 0 (fun _ => true) true 3 v2 d2 p2) :
    Calls Try.prog 7 #[v0, v1, v2] W fun e W' => e = .returned (.bool true) ∧ Below W.heap.size W W' := by
  obtain ⟨mz, rfl, rfl, rfl, wm⟩ := open_int Try.underlying3 o0 h0
  obtain ⟨iz, rfl, rfl, rfl, wi⟩ := open_int Try.underlying3 o2 h2
  clear wm o0 h0 wi o2 h2
  obtain ⟨am, len, cm, D, X, N, rfl, hst⟩ := open_steps o1 h1
  clear o1 h1
  have p4 : len ≤ cm := hst.1
  have p5 : len ≤ 9223372036854775807 := by have := hst.2.1; unfold maxLen at this; omega
  have HST := Lib.hid hst
  clear hst
  by_cases hL : len ≤ 100
  · have y1 : ¬ (100 : Int) < (len : Int) := by omega
    have y2 : (len : Int) ≤ 100 := by omega
    by_cases hm : mz < 0 ∨ 100000 < mz
    · obtain ⟨most, hmost⟩ : ∃ most : Nat, most = 0 := ⟨_, rfl⟩
      clear hmost
      go_enter Try.func7, Try.ntmps7
      go_wp2_with fail
      refine (Hs.New_err mz _ hm).mono ?_
      rintro e w' ⟨rfl, rfl⟩
      go_wp2_with fail
      refine (Rf.New_err mz _ hm).mono ?_
      rintro e w' ⟨rfl, rfl⟩
      clear hm
      go_wp2_with fail
      go_loopw [7, 9, 11, 12, 43] (PR W most len) (fun _ _ _ _ i _ => len - (intOf i).toNat)
      case atStart => exact ⟨0, none, none, none, none, none, none, _, _, _, _, by omega, rfl, rfl, rfl, rfl, rfl, .inl ⟨rfl, rfl, rfl⟩, .inl ⟨rfl, rfl, rfl⟩, .inl ⟨rfl, rfl, rfl⟩, .inl ⟨rfl, rfl, rfl⟩, fun k h => h.elim, fun k h => (h.elim id id).elim, Nat.le_refl _, Nat.le_refl _, Below.refl _ _⟩
      case round =>
        obtain ⟨k, p, q, po, qo, st, so, SL, SR, SO, TO, hk, rfl, rfl, rfl, rfl, rfl, hl, hr, hlo, hro, d1, d2, n1, n2, hB⟩ := hrel
        by_cases hlt : k < len
        · have z1 : (k : Int) < (len : Int) := by omega
          have z2 : (0 : Int) ≤ (k : Int) := by omega
          obtain ⟨hq1, hq2, hq3, hq4⟩ := HST.out
          obtain ⟨bs, os, rfl, hbs, hcs⟩ := hq4 (by omega)
          obtain ⟨c0, c1, c2⟩ := hcs k hlt
          obtain ⟨k0, k1⟩ := hq3 k hlt
          obtain ⟨d, hd⟩ : ∃ d : Nat, D k = (d : Int) := ⟨(D k).toNat, by omega⟩
          obtain ⟨x, hx⟩ : ∃ x, X k = x := ⟨_, rfl⟩
          obtain ⟨y, hy⟩ : ∃ y, N k = y := ⟨_, rfl⟩
          rw [hd] at c0 k1
          rw [hx] at c1
          rw [hy] at c2
          have c0 : wr.cell? ⟨bs, os + k * 3, none⟩ = some (.int .u8 d) := (hB.cell hbs).trans c0
          have c1 : wr.cell? ⟨bs, os + k * 3 + 1, none⟩ = some (.string x) := (hB.cell hbs).trans (by rw [Nat.add_assoc]; exact c1)
          have c2 : wr.cell? ⟨bs, os + k * 3 + 2, none⟩ = some (.int .i64 y) := (hB.cell hbs).trans (by rw [Nat.add_assoc]; exact c2)
          have k1 : d ≤ 255 := by omega
          have hbs' : bs < wr.heap.size := Nat.lt_of_lt_of_le hbs hB.size
          have hK := KP.start (cs := #[.int .u8 d, .string x, .int .i64 y]) hl hr hlo hro d1 d2 hB
          clear hq1 hq2 hq3 hq4 hcs hd hx hy hbs k0 hl hr hlo hro d1 d2 hB
          by_cases hX : x.size ≤ 100
          · have z3 : (x.size : Int) ≤ 100 := by omega
            have z4 : ¬ (100 : Int) < (x.size : Int) := by omega
            have hdm : d % 8 = 0 ∨ d % 8 = 1 ∨ d % 8 = 2 ∨ d % 8 = 3 ∨ d % 8 = 4 ∨ d % 8 = 5 ∨ d % 8 = 6 ∨ d % 8 = 7 := by omega
            have HDM := Lib.hid hdm
            clear hdm hX
            go_upto_block 2 with fail
            obtain ⟨bx, hbx⟩ : ∃ bx, bx = wr.heap.size := ⟨_, rfl⟩
            rw [← hbx] at hK ⊢
            generalize wr.alloc (.cells #[.int .u8 d, .string x, .int .i64 y] 64) = wA at hK ⊢
            clear hbx c0 c1 c2 hbs'
            go_cut [7, 9, 11, 12, 15, 16] (PC W most bx #[.int .u8 d, .string x, .int .i64 y] k)
            case first =>
              have cX := hK.x.cell
              rcases HDM.out with hdm | hdm | hdm | hdm | hdm | hdm | hdm | hdm
              · have u0 : ((d : Int) % 8 == 0) = true := by rw [beq_iff_eq]; omega
                clear hdm
                have gL : ∀ w, Below wA.heap.size wA w → _ := fun w hw => Pl.addL x (hK.later hw)
                have gR : ∀ S1 w, KP W most bx #[.int .u8 d, .string x, .int .i64 y] p q po qo (addT most x st) st so S1 SR SO TO w → _ := fun S1 w hw => Pl.addR x hw
                go_wp2_with fail
                go_region_with (first
                  | ((with_reducible refine (gL _ (by first | exact Below.refl _ _ | exact (Below.refl _ _).drew)).mono ?_); rintro e w7 ⟨rfl, S1, hK1⟩; have cX1 := hK1.x.cell)
                  | ((with_reducible refine (gR S1 _ (by first | exact hK1 | exact hK1.later (Below.drew (Below.refl _ _)))).mono ?_); rintro e w8 ⟨rfl, S2, hK2⟩))
                all_goals (go_wp2_with fail; go_meet; exact ⟨_, _, _, _, _, _, _, _, _, _, _, rfl, rfl, rfl, rfl, rfl, rfl, (by first | exact hK2 | exact hK2.later (Below.drew (Below.refl _ _))), by have := len_add most x st; omega, by omega⟩)
              · have u0 : ((d : Int) % 8 == 0) = false := by rw [beq_eq_false_iff_ne]; omega
                have u1 : ((d : Int) % 8 == 1) = true := by rw [beq_iff_eq]; omega
                clear hdm
                have gL : ∀ w, Below wA.heap.size wA w → _ := fun w hw => Pl.addL x (hK.later hw)
                have gR : ∀ S1 w, KP W most bx #[.int .u8 d, .string x, .int .i64 y] p q po qo (addT most x st) st so S1 SR SO TO w → _ := fun S1 w hw => Pl.addR x hw
                go_wp2_with fail
                go_region_with (first
                  | ((with_reducible refine (gL _ (by first | exact Below.refl _ _ | exact (Below.refl _ _).drew)).mono ?_); rintro e w7 ⟨rfl, S1, hK1⟩; have cX1 := hK1.x.cell)
                  | ((with_reducible refine (gR S1 _ (by first | exact hK1 | exact hK1.later (Below.drew (Below.refl _ _)))).mono ?_); rintro e w8 ⟨rfl, S2, hK2⟩))
                all_goals (go_wp2_with fail; go_meet; exact ⟨_, _, _, _, _, _, _, _, _, _, _, rfl, rfl, rfl, rfl, rfl, rfl, (by first | exact hK2 | exact hK2.later (Below.drew (Below.refl _ _))), by have := len_add most x st; omega, by omega⟩)
              · have u0 : ((d : Int) % 8 == 0) = false := by rw [beq_eq_false_iff_ne]; omega
                have u1 : ((d : Int) % 8 == 1) = false := by rw [beq_eq_false_iff_ne]; omega
                have u2 : ((d : Int) % 8 == 2) = true := by rw [beq_iff_eq]; omega
                clear hdm
                have gL : ∀ w, Below wA.heap.size wA w → _ := fun w hw => Pl.addL x (hK.later hw)
                have gR : ∀ S1 w, KP W most bx #[.int .u8 d, .string x, .int .i64 y] p q po qo (addT most x st) st so S1 SR SO TO w → _ := fun S1 w hw => Pl.addR x hw
                go_wp2_with fail
                go_region_with (first
                  | ((with_reducible refine (gL _ (by first | exact Below.refl _ _ | exact (Below.refl _ _).drew)).mono ?_); rintro e w7 ⟨rfl, S1, hK1⟩; have cX1 := hK1.x.cell)
                  | ((with_reducible refine (gR S1 _ (by first | exact hK1 | exact hK1.later (Below.drew (Below.refl _ _)))).mono ?_); rintro e w8 ⟨rfl, S2, hK2⟩))
                all_goals (go_wp2_with fail; go_meet; exact ⟨_, _, _, _, _, _, _, _, _, _, _, rfl, rfl, rfl, rfl, rfl, rfl, (by first | exact hK2 | exact hK2.later (Below.drew (Below.refl _ _))), by have := len_add most x st; omega, by omega⟩)
              · have u0 : ((d : Int) % 8 == 0) = false := by rw [beq_eq_false_iff_ne]; omega
                have u1 : ((d : Int) % 8 == 1) = false := by rw [beq_eq_false_iff_ne]; omega
                have u2 : ((d : Int) % 8 == 2) = false := by rw [beq_eq_false_iff_ne]; omega
                have u3 : ((d : Int) % 8 == 3) = true := by rw [beq_iff_eq]; omega
                clear hdm
                have gL : ∀ w, Below wA.heap.size wA w → _ := fun w hw => Pl.addL x (hK.later hw)
                have gR : ∀ S1 w, KP W most bx #[.int .u8 d, .string x, .int .i64 y] p q po qo (addT most x st) st so S1 SR SO TO w → _ := fun S1 w hw => Pl.addR x hw
                go_wp2_with fail
                go_region_with (first
                  | ((with_reducible refine (gL _ (by first | exact Below.refl _ _ | exact (Below.refl _ _).drew)).mono ?_); rintro e w7 ⟨rfl, S1, hK1⟩; have cX1 := hK1.x.cell)
                  | ((with_reducible refine (gR S1 _ (by first | exact hK1 | exact hK1.later (Below.drew (Below.refl _ _)))).mono ?_); rintro e w8 ⟨rfl, S2, hK2⟩))
                all_goals (go_wp2_with fail; go_meet; exact ⟨_, _, _, _, _, _, _, _, _, _, _, rfl, rfl, rfl, rfl, rfl, rfl, (by first | exact hK2 | exact hK2.later (Below.drew (Below.refl _ _))), by have := len_add most x st; omega, by omega⟩)
              · have u0 : ((d : Int) % 8 == 0) = false := by rw [beq_eq_false_iff_ne]; omega
                have u1 : ((d : Int) % 8 == 1) = false := by rw [beq_eq_false_iff_ne]; omega
                have u2 : ((d : Int) % 8 == 2) = false := by rw [beq_eq_false_iff_ne]; omega
                have u3 : ((d : Int) % 8 == 3) = false := by rw [beq_eq_false_iff_ne]; omega
                have u4 : ((d : Int) % 8 == 4) = true := by rw [beq_iff_eq]; omega
                clear hdm
                go_wp2_with fail
                refine (Pl.markL hK).mono ?_
                rintro e w7 ⟨rfl, S1, hK1⟩
                go_wp2_with fail
                refine (Pl.markR hK1).mono ?_
                rintro e w8 ⟨rfl, S2, hK2⟩
                go_wp2_with fail
                go_meet
                exact ⟨_, _, _, _, _, _, _, _, _, _, _, rfl, rfl, rfl, rfl, rfl, rfl, hK2, by rw [len_mark]; omega, by omega⟩
              · have u0 : ((d : Int) % 8 == 0) = false := by rw [beq_eq_false_iff_ne]; omega
                have u1 : ((d : Int) % 8 == 1) = false := by rw [beq_eq_false_iff_ne]; omega
                have u2 : ((d : Int) % 8 == 2) = false := by rw [beq_eq_false_iff_ne]; omega
                have u3 : ((d : Int) % 8 == 3) = false := by rw [beq_eq_false_iff_ne]; omega
                have u4 : ((d : Int) % 8 == 4) = false := by rw [beq_eq_false_iff_ne]; omega
                have u5 : ((d : Int) % 8 == 5) = true := by rw [beq_iff_eq]; omega
                clear hdm
                have gL : ∀ w, Below wA.heap.size wA w → _ := fun w hw => Pl.cutL y (hK.later hw)
                have gR : ∀ S1 w, KP W most bx #[.int .u8 d, .string x, .int .i64 y] p q po qo (cutT y st) st so S1 SR SO TO w → _ := fun S1 w hw => Pl.cutR y hw
                go_wp2_with fail
                go_region_with (first
                  | ((with_reducible refine (gL _ (by first | exact Below.refl _ _ | exact (Below.refl _ _).drew)).mono ?_); rintro e w7 ⟨rfl, S1, hK1⟩; have cX1 := hK1.x.cell)
                  | ((with_reducible refine (gR S1 _ (by first | exact hK1 | exact hK1.later (Below.drew (Below.refl _ _)))).mono ?_); rintro e w8 ⟨rfl, S2, hK2⟩))
                all_goals (go_wp2_with fail; go_meet; exact ⟨_, _, _, _, _, _, _, _, _, _, _, rfl, rfl, rfl, rfl, rfl, rfl, (by first | exact hK2 | exact hK2.later (Below.drew (Below.refl _ _))), by have := len_cut y st; omega, by omega⟩)
              · have u0 : ((d : Int) % 8 == 0) = false := by rw [beq_eq_false_iff_ne]; omega
                have u1 : ((d : Int) % 8 == 1) = false := by rw [beq_eq_false_iff_ne]; omega
                have u2 : ((d : Int) % 8 == 2) = false := by rw [beq_eq_false_iff_ne]; omega
                have u3 : ((d : Int) % 8 == 3) = false := by rw [beq_eq_false_iff_ne]; omega
                have u4 : ((d : Int) % 8 == 4) = false := by rw [beq_eq_false_iff_ne]; omega
                have u5 : ((d : Int) % 8 == 5) = false := by rw [beq_eq_false_iff_ne]; omega
                have u6 : ((d : Int) % 8 == 6) = true := by rw [beq_iff_eq]; omega
                clear hdm
                go_wp2_with fail
                refine (Pl.clearL hK).mono ?_
                rintro e w7 ⟨rfl, S1, hK1⟩
                go_wp2_with fail
                refine (Pl.clearR hK1).mono ?_
                rintro e w8 ⟨rfl, S2, hK2⟩
                go_wp2_with fail
                go_meet
                exact ⟨_, _, _, _, _, _, _, _, _, _, _, rfl, rfl, rfl, rfl, rfl, rfl, hK2, by rw [len_clear]; omega, by omega⟩
              · have u0 : ((d : Int) % 8 == 0) = false := by rw [beq_eq_false_iff_ne]; omega
                have u1 : ((d : Int) % 8 == 1) = false := by rw [beq_eq_false_iff_ne]; omega
                have u2 : ((d : Int) % 8 == 2) = false := by rw [beq_eq_false_iff_ne]; omega
                have u3 : ((d : Int) % 8 == 3) = false := by rw [beq_eq_false_iff_ne]; omega
                have u4 : ((d : Int) % 8 == 4) = false := by rw [beq_eq_false_iff_ne]; omega
                have u5 : ((d : Int) % 8 == 5) = false := by rw [beq_eq_false_iff_ne]; omega
                have u6 : ((d : Int) % 8 == 6) = false := by rw [beq_eq_false_iff_ne]; omega
                have u7 : ((d : Int) % 8 == 7) = true := by rw [beq_iff_eq]; omega
                clear hdm
                go_wp2_with fail
                refine (Pl.copyL hK.l).mono ?_
                rintro e w7 ⟨p7, S7, rfl, hl7, g7, hb7⟩
                go_wp2_with fail
                refine (Pl.copyR (hK.later hb7).r (b_then hK.b hb7).size).mono ?_
                rintro e w8 ⟨p8, S8, rfl, hr8, g8, hb8⟩
                go_wp2_with fail
                go_meet
                exact ⟨_, _, _, _, _, _, _, _, _, _, _, rfl, rfl, rfl, rfl, rfl, rfl, KP.copied hK hb7 hl7 g7 hb8 hr8 g8, by omega, by omega⟩
            case rest =>
              obtain ⟨p', q', po', qo', st', so', SL', SR', SO', TO', c, rfl, rfl, rfl, rfl, rfl, rfl, hK', m1, m2⟩ := hcut
              clear hK n1 n2
              have cX := hK'.x.cell
              go_wp2_with fail
              refine (Pl.shows_any hK'.l hK'.r (by omega) iz).mono ?_
              rintro e w5 ⟨rfl, hb5⟩
              have hK5 := hK'.later hb5
              clear hK' hb5 cX
              have cX := hK5.x.cell
              go_wp2_with fail
              refine (Pl.shows_any hK5.l hK5.r (by omega) y).mono ?_
              rintro e w6 ⟨rfl, hb6⟩
              have hK6 := hK5.later hb6
              clear hK5 hb6 cX
              go_wp2_with fail
              refine (Pl.shows_any hK6.lo hK6.ro (by omega) iz).mono ?_
              rintro e w7 ⟨rfl, hb7⟩
              have hK7 := hK6.later hb7
              clear hK6 hb7
              go_wp2_with fail
              go_roundw
              case rel => exact ⟨k + 1, _, _, _, _, st', so', SL', SR', SO', TO', by omega, rfl, rfl, rfl, rfl, by go_num, hK7.l, hK7.r, hK7.lo, hK7.ro, hK7.d1, hK7.d2, m1, m2, hK7.b⟩
              case measure => simp [intOf]; omega
          · have z3 : (100 : Int) < (x.size : Int) := by omega
            have cX := hK.x.cell
            go_wp2_with fail
            refine (works_true _).mono ?_
            rintro e wz ⟨rfl, hbz⟩
            go_wp2_with fail
            go_ret
            exact ⟨rfl, b_then hK.b hbz⟩
        · obtain rfl : k = len := by omega
          go_wp2_with fail
          refine (Pl.shows_any hl hr (by omega) iz).mono ?_
          rintro e w5 ⟨rfl, hb5⟩
          have hB5 := b_then hB hb5
          go_wp2_with fail
          refine (works_true _).mono ?_
          rintro e wz ⟨rfl, hbz⟩
          go_wp2_with fail
          go_ret
          exact ⟨rfl, b_then hB5 hbz⟩
    · obtain ⟨most, rfl⟩ : ∃ most : Nat, mz = (most : Int) := ⟨mz.toNat, by omega⟩
      have hm5 : most ≤ 100000 := by omega
      clear hm
      go_enter Try.func7, Try.ntmps7
      go_wp2_with fail
      refine (Hs.New_ok most _ hm5).mono ?_
      rintro e w1 ⟨b1, rfl, h1, g1, hb1⟩
      go_wp2_with fail
      refine (Rf.New_ok most _ hm5).mono ?_
      rintro e w2 ⟨b2, rfl, h2, g2, hb2⟩
      have hB2 := b_then hb1 hb2
      have e1 := h1.later hb2
      have l1 := h1.lt
      have l2 := hb1.size
      have l3 := hb2.size
      have e2 := h2.lt
      have hdj : ∀ k, fp b1 none k → ¬ fp b2 none k := by
        intro k h h'
        rcases h with h | h
        · rcases h' with h' | h'
          · omega
          · cases h'
        · cases h
      clear h1 hb1 hb2
      go_wp2_with fail
      go_loopw [7, 9, 11, 12, 43] (PR W most len) (fun _ _ _ _ i _ => len - (intOf i).toNat)
      case atStart => exact ⟨0, some ⟨b1, 0, none⟩, some ⟨b2, 0, none⟩, none, none, some (0, []), none, fp b1 none, fp b2 none, _, _, by omega, rfl, rfl, rfl, rfl, rfl, .inr ⟨b1, b1, 0, none, 0, 0, [], rfl, rfl, e1, Nat.le_refl _, Nat.zero_le _, hm5, by omega, g1, Nat.le_refl _, rfl⟩, .inr ⟨b2, b2, 0, none, 0, 0, [], rfl, rfl, h2, Nat.le_refl _, Nat.zero_le _, hm5, by omega, by omega, by omega, rfl⟩, .inl ⟨rfl, rfl, rfl⟩, .inl ⟨rfl, rfl, rfl⟩, hdj, fun k h => ⟨id, id⟩, Nat.le_refl _, Nat.le_refl _, hB2⟩
      case round =>
        obtain ⟨k, p, q, po, qo, st, so, SL, SR, SO, TO, hk, rfl, rfl, rfl, rfl, rfl, hl, hr, hlo, hro, d1, d2, n1, n2, hB⟩ := hrel
        clear e1 h2 hB2 l1 l2 l3 e2 g1 g2 hdj
        by_cases hlt : k < len
        · have z1 : (k : Int) < (len : Int) := by omega
          have z2 : (0 : Int) ≤ (k : Int) := by omega
          obtain ⟨hq1, hq2, hq3, hq4⟩ := HST.out
          obtain ⟨bs, os, rfl, hbs, hcs⟩ := hq4 (by omega)
          obtain ⟨c0, c1, c2⟩ := hcs k hlt
          obtain ⟨k0, k1⟩ := hq3 k hlt
          obtain ⟨d, hd⟩ : ∃ d : Nat, D k = (d : Int) := ⟨(D k).toNat, by omega⟩
          obtain ⟨x, hx⟩ : ∃ x, X k = x := ⟨_, rfl⟩
          obtain ⟨y, hy⟩ : ∃ y, N k = y := ⟨_, rfl⟩
          rw [hd] at c0 k1
          rw [hx] at c1
          rw [hy] at c2
          have c0 : wr.cell? ⟨bs, os + k * 3, none⟩ = some (.int .u8 d) := (hB.cell hbs).trans c0
          have c1 : wr.cell? ⟨bs, os + k * 3 + 1, none⟩ = some (.string x) := (hB.cell hbs).trans (by rw [Nat.add_assoc]; exact c1)
          have c2 : wr.cell? ⟨bs, os + k * 3 + 2, none⟩ = some (.int .i64 y) := (hB.cell hbs).trans (by rw [Nat.add_assoc]; exact c2)
          have k1 : d ≤ 255 := by omega
          have hbs' : bs < wr.heap.size := Nat.lt_of_lt_of_le hbs hB.size
          have hK := KP.start (cs := #[.int .u8 d, .string x, .int .i64 y]) hl hr hlo hro d1 d2 hB
          clear hq1 hq2 hq3 hq4 hcs hd hx hy hbs k0 hl hr hlo hro d1 d2 hB
          by_cases hX : x.size ≤ 100
          · have z3 : (x.size : Int) ≤ 100 := by omega
            have z4 : ¬ (100 : Int) < (x.size : Int) := by omega
            have hdm : d % 8 = 0 ∨ d % 8 = 1 ∨ d % 8 = 2 ∨ d % 8 = 3 ∨ d % 8 = 4 ∨ d % 8 = 5 ∨ d % 8 = 6 ∨ d % 8 = 7 := by omega
            have HDM := Lib.hid hdm
            clear hdm hX
            go_upto_block 2 with fail
            obtain ⟨bx, hbx⟩ : ∃ bx, bx = wr.heap.size := ⟨_, rfl⟩
            rw [← hbx] at hK ⊢
            generalize wr.alloc (.cells #[.int .u8 d, .string x, .int .i64 y] 64) = wA at hK ⊢
            clear hbx c0 c1 c2 hbs'
            go_cut [7, 9, 11, 12, 15, 16] (PC W most bx #[.int .u8 d, .string x, .int .i64 y] k)
            case first =>
              have cX := hK.x.cell
              rcases HDM.out with hdm | hdm | hdm | hdm | hdm | hdm | hdm | hdm
              · have u0 : ((d : Int) % 8 == 0) = true := by rw [beq_iff_eq]; omega
                clear hdm
                have gL : ∀ w, Below wA.heap.size wA w → _ := fun w hw => Pl.addL x (hK.later hw)
                have gR : ∀ S1 w, KP W most bx #[.int .u8 d, .string x, .int .i64 y] p q po qo (addT most x st) st so S1 SR SO TO w → _ := fun S1 w hw => Pl.addR x hw
                go_wp2_with fail
                go_region_with (first
                  | ((with_reducible refine (gL _ (by first | exact Below.refl _ _ | exact (Below.refl _ _).drew)).mono ?_); rintro e w7 ⟨rfl, S1, hK1⟩; have cX1 := hK1.x.cell)
                  | ((with_reducible refine (gR S1 _ (by first | exact hK1 | exact hK1.later (Below.drew (Below.refl _ _)))).mono ?_); rintro e w8 ⟨rfl, S2, hK2⟩))
                all_goals (go_wp2_with fail; go_meet; exact ⟨_, _, _, _, _, _, _, _, _, _, _, rfl, rfl, rfl, rfl, rfl, rfl, (by first | exact hK2 | exact hK2.later (Below.drew (Below.refl _ _))), by have := len_add most x st; omega, by omega⟩)
              · have u0 : ((d : Int) % 8 == 0) = false := by rw [beq_eq_false_iff_ne]; omega
                have u1 : ((d : Int) % 8 == 1) = true := by rw [beq_iff_eq]; omega
                clear hdm
                have gL : ∀ w, Below wA.heap.size wA w → _ := fun w hw => Pl.addL x (hK.later hw)
                have gR : ∀ S1 w, KP W most bx #[.int .u8 d, .string x, .int .i64 y] p q po qo (addT most x st) st so S1 SR SO TO w → _ := fun S1 w hw => Pl.addR x hw
                go_wp2_with fail
                go_region_with (first
                  | ((with_reducible refine (gL _ (by first | exact Below.refl _ _ | exact (Below.refl _ _).drew)).mono ?_); rintro e w7 ⟨rfl, S1, hK1⟩; have cX1 := hK1.x.cell)
                  | ((with_reducible refine (gR S1 _ (by first | exact hK1 | exact hK1.later (Below.drew (Below.refl _ _)))).mono ?_); rintro e w8 ⟨rfl, S2, hK2⟩))
                all_goals (go_wp2_with fail; go_meet; exact ⟨_, _, _, _, _, _, _, _, _, _, _, rfl, rfl, rfl, rfl, rfl, rfl, (by first | exact hK2 | exact hK2.later (Below.drew (Below.refl _ _))), by have := len_add most x st; omega, by omega⟩)
              · have u0 : ((d : Int) % 8 == 0) = false := by rw [beq_eq_false_iff_ne]; omega
                have u1 : ((d : Int) % 8 == 1) = false := by rw [beq_eq_false_iff_ne]; omega
                have u2 : ((d : Int) % 8 == 2) = true := by rw [beq_iff_eq]; omega
                clear hdm
                have gL : ∀ w, Below wA.heap.size wA w → _ := fun w hw => Pl.addL x (hK.later hw)
                have gR : ∀ S1 w, KP W most bx #[.int .u8 d, .string x, .int .i64 y] p q po qo (addT most x st) st so S1 SR SO TO w → _ := fun S1 w hw => Pl.addR x hw
                go_wp2_with fail
                go_region_with (first
                  | ((with_reducible refine (gL _ (by first | exact Below.refl _ _ | exact (Below.refl _ _).drew)).mono ?_); rintro e w7 ⟨rfl, S1, hK1⟩; have cX1 := hK1.x.cell)
                  | ((with_reducible refine (gR S1 _ (by first | exact hK1 | exact hK1.later (Below.drew (Below.refl _ _)))).mono ?_); rintro e w8 ⟨rfl, S2, hK2⟩))
                all_goals (go_wp2_with fail; go_meet; exact ⟨_, _, _, _, _, _, _, _, _, _, _, rfl, rfl, rfl, rfl, rfl, rfl, (by first | exact hK2 | exact hK2.later (Below.drew (Below.refl _ _))), by have := len_add most x st; omega, by omega⟩)
              · have u0 : ((d : Int) % 8 == 0) = false := by rw [beq_eq_false_iff_ne]; omega
                have u1 : ((d : Int) % 8 == 1) = false := by rw [beq_eq_false_iff_ne]; omega
                have u2 : ((d : Int) % 8 == 2) = false := by rw [beq_eq_false_iff_ne]; omega
                have u3 : ((d : Int) % 8 == 3) = true := by rw [beq_iff_eq]; omega
                clear hdm
                have gL : ∀ w, Below wA.heap.size wA w → _ := fun w hw => Pl.addL x (hK.later hw)
                have gR : ∀ S1 w, KP W most bx #[.int .u8 d, .string x, .int .i64 y] p q po qo (addT most x st) st so S1 SR SO TO w → _ := fun S1 w hw => Pl.addR x hw
                go_wp2_with fail
                go_region_with (first
                  | ((with_reducible refine (gL _ (by first | exact Below.refl _ _ | exact (Below.refl _ _).drew)).mono ?_); rintro e w7 ⟨rfl, S1, hK1⟩; have cX1 := hK1.x.cell)
                  | ((with_reducible refine (gR S1 _ (by first | exact hK1 | exact hK1.later (Below.drew (Below.refl _ _)))).mono ?_); rintro e w8 ⟨rfl, S2, hK2⟩))
                all_goals (go_wp2_with fail; go_meet; exact ⟨_, _, _, _, _, _, _, _, _, _, _, rfl, rfl, rfl, rfl, rfl, rfl, (by first | exact hK2 | exact hK2.later (Below.drew (Below.refl _ _))), by have := len_add most x st; omega, by omega⟩)
              · have u0 : ((d : Int) % 8 == 0) = false := by rw [beq_eq_false_iff_ne]; omega
                have u1 : ((d : Int) % 8 == 1) = false := by rw [beq_eq_false_iff_ne]; omega
                have u2 : ((d : Int) % 8 == 2) = false := by rw [beq_eq_false_iff_ne]; omega
                have u3 : ((d : Int) % 8 == 3) = false := by rw [beq_eq_false_iff_ne]; omega
                have u4 : ((d : Int) % 8 == 4) = true := by rw [beq_iff_eq]; omega
                clear hdm
                go_wp2_with fail
                refine (Pl.markL hK).mono ?_
                rintro e w7 ⟨rfl, S1, hK1⟩
                go_wp2_with fail
                refine (Pl.markR hK1).mono ?_
                rintro e w8 ⟨rfl, S2, hK2⟩
                go_wp2_with fail
                go_meet
                exact ⟨_, _, _, _, _, _, _, _, _, _, _, rfl, rfl, rfl, rfl, rfl, rfl, hK2, by rw [len_mark]; omega, by omega⟩
              · have u0 : ((d : Int) % 8 == 0) = false := by rw [beq_eq_false_iff_ne]; omega
                have u1 : ((d : Int) % 8 == 1) = false := by rw [beq_eq_false_iff_ne]; omega
                have u2 : ((d : Int) % 8 == 2) = false := by rw [beq_eq_false_iff_ne]; omega
                have u3 : ((d : Int) % 8 == 3) = false := by rw [beq_eq_false_iff_ne]; omega
                have u4 : ((d : Int) % 8 == 4) = false := by rw [beq_eq_false_iff_ne]; omega
                have u5 : ((d : Int) % 8 == 5) = true := by rw [beq_iff_eq]; omega
                clear hdm
                have gL : ∀ w, Below wA.heap.size wA w → _ := fun w hw => Pl.cutL y (hK.later hw)
                have gR : ∀ S1 w, KP W most bx #[.int .u8 d, .string x, .int .i64 y] p q po qo (cutT y st) st so S1 SR SO TO w → _ := fun S1 w hw => Pl.cutR y hw
                go_wp2_with fail
                go_region_with (first
                  | ((with_reducible refine (gL _ (by first | exact Below.refl _ _ | exact (Below.refl _ _).drew)).mono ?_); rintro e w7 ⟨rfl, S1, hK1⟩; have cX1 := hK1.x.cell)
                  | ((with_reducible refine (gR S1 _ (by first | exact hK1 | exact hK1.later (Below.drew (Below.refl _ _)))).mono ?_); rintro e w8 ⟨rfl, S2, hK2⟩))
                all_goals (go_wp2_with fail; go_meet; exact ⟨_, _, _, _, _, _, _, _, _, _, _, rfl, rfl, rfl, rfl, rfl, rfl, (by first | exact hK2 | exact hK2.later (Below.drew (Below.refl _ _))), by have := len_cut y st; omega, by omega⟩)
              · have u0 : ((d : Int) % 8 == 0) = false := by rw [beq_eq_false_iff_ne]; omega
                have u1 : ((d : Int) % 8 == 1) = false := by rw [beq_eq_false_iff_ne]; omega
                have u2 : ((d : Int) % 8 == 2) = false := by rw [beq_eq_false_iff_ne]; omega
                have u3 : ((d : Int) % 8 == 3) = false := by rw [beq_eq_false_iff_ne]; omega
                have u4 : ((d : Int) % 8 == 4) = false := by rw [beq_eq_false_iff_ne]; omega
                have u5 : ((d : Int) % 8 == 5) = false := by rw [beq_eq_false_iff_ne]; omega
                have u6 : ((d : Int) % 8 == 6) = true := by rw [beq_iff_eq]; omega
                clear hdm
                go_wp2_with fail
                refine (Pl.clearL hK).mono ?_
                rintro e w7 ⟨rfl, S1, hK1⟩
                go_wp2_with fail
                refine (Pl.clearR hK1).mono ?_
                rintro e w8 ⟨rfl, S2, hK2⟩
                go_wp2_with fail
                go_meet
                exact ⟨_, _, _, _, _, _, _, _, _, _, _, rfl, rfl, rfl, rfl, rfl, rfl, hK2, by rw [len_clear]; omega, by omega⟩
              · have u0 : ((d : Int) % 8 == 0) = false := by rw [beq_eq_false_iff_ne]; omega
                have u1 : ((d : Int) % 8 == 1) = false := by rw [beq_eq_false_iff_ne]; omega
                have u2 : ((d : Int) % 8 == 2) = false := by rw [beq_eq_false_iff_ne]; omega
                have u3 : ((d : Int) % 8 == 3) = false := by rw [beq_eq_false_iff_ne]; omega
                have u4 : ((d : Int) % 8 == 4) = false := by rw [beq_eq_false_iff_ne]; omega
                have u5 : ((d : Int) % 8 == 5) = false := by rw [beq_eq_false_iff_ne]; omega
                have u6 : ((d : Int) % 8 == 6) = false := by rw [beq_eq_false_iff_ne]; omega
                have u7 : ((d : Int) % 8 == 7) = true := by rw [beq_iff_eq]; omega
                clear hdm
                go_wp2_with fail
                refine (Pl.copyL hK.l).mono ?_
                rintro e w7 ⟨p7, S7, rfl, hl7, g7, hb7⟩
                go_wp2_with fail
                refine (Pl.copyR (hK.later hb7).r (b_then hK.b hb7).size).mono ?_
                rintro e w8 ⟨p8, S8, rfl, hr8, g8, hb8⟩
                go_wp2_with fail
                go_meet
                exact ⟨_, _, _, _, _, _, _, _, _, _, _, rfl, rfl, rfl, rfl, rfl, rfl, KP.copied hK hb7 hl7 g7 hb8 hr8 g8, by omega, by omega⟩
            case rest =>
              obtain ⟨p', q', po', qo', st', so', SL', SR', SO', TO', c, rfl, rfl, rfl, rfl, rfl, rfl, hK', m1, m2⟩ := hcut
              clear hK n1 n2
              have cX := hK'.x.cell
              go_wp2_with fail
              refine (Pl.shows_any hK'.l hK'.r (by omega) iz).mono ?_
              rintro e w5 ⟨rfl, hb5⟩
              have hK5 := hK'.later hb5
              clear hK' hb5 cX
              have cX := hK5.x.cell
              go_wp2_with fail
              refine (Pl.shows_any hK5.l hK5.r (by omega) y).mono ?_
              rintro e w6 ⟨rfl, hb6⟩
              have hK6 := hK5.later hb6
              clear hK5 hb6 cX
              go_wp2_with fail
              refine (Pl.shows_any hK6.lo hK6.ro (by omega) iz).mono ?_
              rintro e w7 ⟨rfl, hb7⟩
              have hK7 := hK6.later hb7
              clear hK6 hb7
              go_wp2_with fail
              go_roundw
              case rel => exact ⟨k + 1, _, _, _, _, st', so', SL', SR', SO', TO', by omega, rfl, rfl, rfl, rfl, by go_num, hK7.l, hK7.r, hK7.lo, hK7.ro, hK7.d1, hK7.d2, m1, m2, hK7.b⟩
              case measure => simp [intOf]; omega
          · have z3 : (100 : Int) < (x.size : Int) := by omega
            have cX := hK.x.cell
            go_wp2_with fail
            refine (works_true _).mono ?_
            rintro e wz ⟨rfl, hbz⟩
            go_wp2_with fail
            go_ret
            exact ⟨rfl, b_then hK.b hbz⟩
        · obtain rfl : k = len := by omega
          go_wp2_with fail
          refine (Pl.shows_any hl hr (by omega) iz).mono ?_
          rintro e w5 ⟨rfl, hb5⟩
          have hB5 := b_then hB hb5
          go_wp2_with fail
          refine (works_true _).mono ?_
          rintro e wz ⟨rfl, hbz⟩
          go_wp2_with fail
          go_ret
          exact ⟨rfl, b_then hB5 hbz⟩
  · have y1 : (100 : Int) < (len : Int) := by omega
    go_enter Try.func7, Try.ntmps7
    go_wp2_with fail
    refine (works_true _).mono ?_
    rintro e wz ⟨rfl, hbz⟩
    go_wp2_with fail
    go_ret
    exact ⟨rfl, hbz⟩

set_option maxRecDepth 100000 in
theorem lifted (os : Os) (started : os.Started) (H : Type) (enc : TypeId × Value → H) :
    ReturnsInHanded {} Try.checked os 7 .any (Rows.historyPlaysSpec.pre6 enc Try.prog Try.f7 Rows.historyPlaysRow.domain false) (Rows.historyPlaysSpec.post enc Try.prog Try.f7 false true false false) := by
  refine returnsInHanded_of_change (C := Try.checked) own started (by kernel_rfl) Try.func7
    (ChangeSpec.witness6 (enc := enc) (C := Try.checked) false ⟨#[], #[.int .i64 0, .slice none 0 0, .int .i64 0], []⟩ 8 (by kernel_rfl) (by kernel_rfl) (by kernel_rfl) (by kernel_rfl)) ?_
  intro W base args ds gs before hval0 hW hcnd _
  have hval : ∀ (j : Nat) t v, Try.f7.params[j]? = some t → args[j]? = some v → Value.okWide Try.prog W .any base t v := hval0
  have hW' := hW
  obtain ⟨p, q, hA0, hV, rfl, hfz, hnd⟩ := hW
  have hA : DataW.TrodAll enc Try.prog W 0 (fun _ => true) true Try.f7.params.toList args.toList ds p := hA0
  rw [Try.params7] at hA hval
  obtain ⟨v0, vs0, d0, ds0, p0, q0, hargs, rfl, rfl, h0, r0⟩ := trodAll_cons hA
  obtain ⟨v1, vs1, d1, ds1, p1, q1, rfl, rfl, rfl, h1, r1⟩ := trodAll_cons r0
  obtain ⟨v2, vs2, d2, ds2, p2, q2, rfl, rfl, rfl, h2, r2⟩ := trodAll_cons r1
  obtain ⟨rfl, rfl, rfl⟩ := trodAll_nil r2
  obtain rfl : args = #[v0, v1, v2] := by cases args; simp_all
  obtain ⟨rfl, rfl⟩ := trodVars_none hV
  refine (walk (H := H) (enc := enc) W base (hval 0 3 v0 rfl rfl) h0 (hval 1 56 v1 rfl rfl) h1 (hval 2 3 v2 rfl rfl) h2).mono fun e W' ⟨he, bel⟩ => ?_
  subst he
  exact ⟨_, rfl, _, _, _, [], _, [], hW', trodAll_mk1 (shut_bool Try.underlying4 _), (trodAll_cons_mk (Below.trod laidOut (by kernel_rfl) (of_decide_eq_true (by kernel_rfl)) h0 bel (lt_of_Trod h0)) (trodAll_cons_mk (Below.trod laidOut (by kernel_rfl) (of_decide_eq_true (by kernel_rfl)) h1 bel (lt_of_Trod h1)) (trodAll_cons_mk (Below.trod laidOut (by kernel_rfl) (of_decide_eq_true (by kernel_rfl)) h2 bel (lt_of_Trod h2)) trodAll_mk0))), rfl, bel.frame _, fun h => by cases h⟩

/-- HistoryPlays: for every limit, list of steps and number the law returns true and changes nothing. No condition. -/
theorem proved : Rows.HistoryPlaysSaid :=
  OpenClaim.holds_of_wide 7 Try.f7 rfl rfl rfl rfl rfl rfl rfl ⟨rfl, rfl, rfl, rfl, rfl⟩ rfl rfl rfl rfl rfl (by kernel_rfl) Try.func7 (by kernel_rfl)
    (of_decide_eq_true (by kernel_rfl)) (by unfold Func.isWrapper; first | (rw [if_pos (by decide +kernel)]; kernel_rfl) | (rw [if_neg (by decide +kernel)]; exact ⟨rfl, rfl⟩))
    (fun os started H enc _ => lifted os started H enc)
#print axioms proved
end Go.Proofs.Ytohnoioblhkepaa.historyPlays
