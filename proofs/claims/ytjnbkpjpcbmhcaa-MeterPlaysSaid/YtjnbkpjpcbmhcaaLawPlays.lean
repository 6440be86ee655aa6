/-
  MeterPlays: for every list of steps the law returns true and changes nothing. No condition.
-/
import Derived.Test.YtjnbkpjpcbmhcaaOpen
import Derived.Test.YtjnbkpjpcbmhcaaWks
import Derived.Test.YtjnbkpjpcbmhcaaMov
import Derived.Test.YtjnbkpjpcbmhcaaMpp
import Derived.Deep.CutBlock
import Derived.Deep.DeepCutAuto
namespace Go.Proofs.Ytjnbkpjpcbmhcaa.meterPlays
open Go.ChangeShapes Go.WideShapes Go.ChangeAt Go.RowKit
open Go.ChangeMaps (open_string shut_string)
set_option linter.unusedVariables false

open Go.Proofs.Ytjnbkpjpcbmhcaa.Mp
set_option linter.unusedSimpArgs false
def IsSteps (w : World) (a : Option Addr) (len cap : Nat) (K N : Nat → Int) : Prop :=
  len ≤ cap ∧ cap ≤ maxLen ∧ (0 < len → ∃ b off : Nat, a = some ⟨b, off, none⟩ ∧ b < w.heap.size ∧ ∀ i, i < len → w.cell? ⟨b, off + i * 2, none⟩ = some (.int .i64 (K i)) ∧ w.cell? ⟨b, off + (i * 2 + 1), none⟩ = some (.int .i64 (N i)))
set_option maxRecDepth 100000 in
theorem open_steps {H : Type} {enc : TypeId × Value → H} {w : World} {base b0 : Nat} {r : Reach} {v : Value} {d : DataW H} {p : List MemPlace} (hv : Value.okWide Try.prog w r b0 50 v) (h : DataW.Trod enc Try.prog w base (fun _ => true) true 50 v d p) :
    ∃ (a : Option Addr) (len cap : Nat) (K N : Nat → Int), v = .slice a len cap ∧ IsSteps w a len cap K N := by
  obtain ⟨a, len, cap, rfl, h1, h2, h3⟩ := open_rows Try.underlying50 Try.underlying54 (by kernel_rfl) (by kernel_rfl) (by decide) hv h
  have key : ∀ i, ∃ k n : Int, i < len → ∀ b off : Nat, a = some ⟨b, off, none⟩ → w.cell? ⟨b, off + i * 2, none⟩ = some (.int .i64 k) ∧ w.cell? ⟨b, off + (i * 2 + 1), none⟩ = some (.int .i64 n) := by
    intro i
    by_cases hi : i < len
    · obtain ⟨b, off, rfl, _, hc⟩ := h3 (by omega)
      obtain ⟨x0, m0, y0, e0, g0⟩ := hc i hi 0 _ rfl
      obtain ⟨x1, m1, y1, e1, g1⟩ := hc i hi 1 _ rfl
      obtain ⟨k, q, _, wk⟩ := DataW.trod_int Try.underlying3 g0
      obtain ⟨n, q'', _, wn⟩ := DataW.trod_int Try.underlying3 g1
      simp only [List.cons.injEq, and_true] at q q''
      subst q q''
      refine ⟨k, n, fun _ b' off' hh => ?_⟩
      injection hh with hh
      injection hh with hh1 hh2 _
      subst hh1 hh2
      exact ⟨e0, e1⟩
    · exact ⟨0, 0, fun h => absurd h hi⟩
  refine ⟨a, len, cap, fun i => (key i).choose, fun i => (key i).choose_spec.choose, rfl, h1, h2, fun hp => ?_⟩
  obtain ⟨b, off, ha, hlt, _⟩ := h3 hp
  exact ⟨b, off, ha, hlt, fun i hi => (key i).choose_spec.choose_spec hi b off ha⟩
/-- between two rounds -/
def PR (W : World) (len : Nat) (v3 v4 v5 v6 i : Value) (wr : World) : Prop :=
  ∃ (k : Nat) (p q po qo : Option Addr) (st so : St) (SL SR SO TO : Nat → Prop), k ≤ len ∧ v3 = .pointer p ∧ v4 = .pointer q ∧ v5 = .pointer po ∧ v6 = .pointer qo ∧ i = .int .i64 k ∧ LO W wr p st SL ∧ RO W wr q st SR ∧ LO W wr po so SO ∧ RO W wr qo so TO ∧
    (∀ k, SL k → ¬ SR k) ∧ (∀ k, SL k ∨ SR k → ¬ SO k ∧ ¬ TO k) ∧ st ≠ none ∧ Inv st ∧ Inv so ∧ lenS st ≤ k ∧ lenS so ≤ k ∧ Below W.heap.size W wr
/-- behind the step -/
def PC (W : World) (bx : Nat) (cs : Array Value) (k : Nat) (v3 v4 v5 v6 v9 : Value) (wx : World) : Prop :=
  ∃ (p q po qo : Option Addr) (st so : St) (SL SR SO TO : Nat → Prop), v3 = .pointer p ∧ v4 = .pointer q ∧ v5 = .pointer po ∧ v6 = .pointer qo ∧ v9 = .bool true ∧ KP W bx cs p q po qo st st so SL SR SO TO wx ∧ st ≠ none ∧ Inv st ∧ Inv so ∧ lenS st ≤ k + 1 ∧ lenS so ≤ k + 1
theorem beg_none {st : St} (h : st ≠ none) : begT st ≠ none := by rcases st with _ | ⟨A, G⟩; exact h; exact fun e => by cases e
theorem wro_none {st : St} (x : Int) (h : st ≠ none) : wroT x st ≠ none := by
  rcases st with _ | ⟨A, G⟩
  · exact h
  · simp only [wroT]; split <;> exact fun e => by cases e
theorem rea_none {st : St} (x : Int) (h : st ≠ none) : reaT x st ≠ none := by
  rcases st with _ | ⟨A, G⟩
  · exact h
  · simp only [reaT]; split <;> exact fun e => by cases e
theorem shows_any {W w : World} {p q : Option Addr} {st : St} {Sl Sr : Nat → Prop} (hl : LO W w p st Sl) (hr : RO W w q st Sr) (hv : Inv st) (h0 : st ≠ none) (hn : lenS st ≤ 1000) : Calls Try.prog 29 #[.pointer p, .pointer q] w fun e w' => e = .returned (.bool true) ∧ Below w.heap.size w w' := by
  rcases st with _ | ⟨A, G⟩
  · exact absurd rfl h0
  · exact shows_yes hl hr hv hn

set_option maxHeartbeats 6400000 in
set_option maxRecDepth 100000 in
theorem walk {H : Type} {enc : TypeId × Value → H} (W : World) (base : Nat) {v0 : Value} {d0 : DataW H} {p0 : List MemPlace} (o0 : Value.okWide Try.prog W .any base 50 v0) (h0 : DataW.Trod enc Try.prog W 0 (fun _ => true) true 50 v0 d0 p0) :
    Calls Try.prog 7 #[v0] W fun e W' => e = .returned (.bool true) ∧ Below W.heap.size W W' := by
  obtain ⟨am, len, cm, K, N, rfl, hst⟩ := open_steps o0 h0
  clear o0 h0
  have p4 : len ≤ cm := hst.1
  have p5 : len ≤ 9223372036854775807 := by have := hst.2.1; unfold maxLen at this; omega
  have HST := Lib.hid hst
  clear hst
  by_cases hL : len ≤ 200
  · have y1 : ¬ (200 : Int) < (len : Int) := by omega
    have y2 : (len : Int) ≤ 200 := by omega
    go_enter Try.func7, Try.ntmps7
    go_wp2_with fail
    refine (New_ex _).mono ?_
    rintro e w1 ⟨b1, rfl, h1, g1, hb1⟩
    go_wp2_with fail
    refine (Rm.New_ex _).mono ?_
    rintro e w2 ⟨b2, rfl, h2, gb2, hb2⟩
    have hB2 := b_then hb1 hb2
    have e1 := m_later h1 hb2
    have l1 := Blk.lt h1
    have l2 := hb1.size
    have l3 := hb2.size
    have hdj : ∀ k, k = b1 → ¬ (k = b2 ∨ rowOf none = some k ∨ rowOf none = some k) := by
      rintro k rfl (h | h | h)
      · omega
      · cases h
      · cases h
    clear h1 hb1 hb2
    go_wp2_with fail
    go_loopw [3, 4, 5, 6, 18] (PR W len) (fun _ _ _ _ i _ => len - (intOf i).toNat)
    case atStart => exact ⟨0, some ⟨b1, 0, none⟩, some ⟨b2, 0, none⟩, none, none, some ([], []), none, (fun k => k = b1), (fun k => k = b2 ∨ rowOf none = some k ∨ rowOf none = some k), _, _, by omega, rfl, rfl, rfl, rfl, rfl, .inr ⟨b1, [], [], rfl, rfl, e1, g1, rfl⟩, .inr ⟨w1.heap.size, b2, 0, none, 0, none, 0, [], [], rfl, rfl, h2, by omega, by omega, by omega, rfl⟩, .inl ⟨rfl, rfl, rfl⟩, .inl ⟨rfl, rfl, rfl⟩, hdj, fun k h => ⟨id, id⟩, (fun e => by cases e), ⟨rfl, ⟨by simp, by simp [sm]⟩, ⟨by simp, by simp [sm]⟩⟩, trivial, Nat.le_refl _, Nat.le_refl _, hB2⟩
    case round =>
      obtain ⟨k, p, q, po, qo, st, so, SL, SR, SO, TO, hk, rfl, rfl, rfl, rfl, rfl, hl, hr, hlo, hro, d1, d2, h0, hv, hvo, n1, n2, hB⟩ := hrel
      clear e1 h2 hB2 l1 l2 l3 g1 gb2 hdj
      by_cases hlt : k < len
      · have z1 : (k : Int) < (len : Int) := by omega
        have z2 : (0 : Int) ≤ (k : Int) := by omega
        obtain ⟨hq1, hq2, hq4⟩ := HST.out
        obtain ⟨bs, os, rfl, hbs, hcs⟩ := hq4 (by omega)
        obtain ⟨c0, c1⟩ := hcs k hlt
        obtain ⟨d, hd⟩ : ∃ d, K k = d := ⟨_, rfl⟩
        obtain ⟨y, hy⟩ : ∃ y, N k = y := ⟨_, rfl⟩
        rw [hd] at c0
        rw [hy] at c1
        have c0 : wr.cell? ⟨bs, os + k * 2, none⟩ = some (.int .i64 d) := (hB.cell hbs).trans c0
        have c1 : wr.cell? ⟨bs, os + k * 2 + 1, none⟩ = some (.int .i64 y) := (hB.cell hbs).trans (by rw [Nat.add_assoc]; exact c1)
        have hbs' : bs < wr.heap.size := Nat.lt_of_lt_of_le hbs hB.size
        have hK := KP.start (cs := #[.int .i64 d, .int .i64 y]) hl hr hlo hro d1 d2 hB
        have hn1 : lenS st ≤ 1000 := by omega
        clear hq1 hq2 hq4 hcs hd hy hbs hl hr hlo hro d1 d2 hB
        have hdm : d = 0 ∨ d = 1 ∨ d = 2 ∨ d = 3 ∨ (d ≠ 0 ∧ d ≠ 1 ∧ d ≠ 2 ∧ d ≠ 3) := by omega
        have HDM := Lib.hid hdm
        clear hdm
        have cX := hK.x.cell
        go_upto_block 2 with fail
        obtain ⟨bx, hbx⟩ : ∃ bx, bx = wr.heap.size := ⟨_, rfl⟩
        rw [← hbx] at hK cX ⊢
        generalize wr.alloc (.cells #[.int .i64 d, .int .i64 y] 54) = wA at hK cX ⊢
        clear hbx c0 c1 hbs' cX
        go_cut [3, 4, 5, 6, 9] (PC W bx #[.int .i64 d, .int .i64 y] k)
        case first =>
          have cX := hK.x.cell
          rcases HDM.out with hdm | hdm | hdm | hdm | hdm
          · have u0 : ((d : Int) == 0) = true := by rw [beq_iff_eq]; omega
            clear hdm
            go_wp2_with fail
            refine (Mp.begL hK h0 hn1).mono ?_
            rintro e w7 ⟨rfl, S1, hK1⟩
            go_wp2_with fail
            refine (Mp.begR hK1 h0 hn1).mono ?_
            rintro e w8 ⟨rfl, S2, hK2⟩
            go_wp2_with fail
            go_meet
            exact ⟨_, _, _, _, _, _, _, _, _, _, rfl, rfl, rfl, rfl, rfl, hK2, beg_none h0, (inv_beg hv).1, hvo, by have := (inv_beg hv).2; omega, by omega⟩
          · have u0 : ((d : Int) == 0) = false := by rw [beq_eq_false_iff_ne]; omega
            have u1 : ((d : Int) == 1) = true := by rw [beq_iff_eq]; omega
            clear hdm
            have gL : ∀ w, Below wA.heap.size wA w → _ := fun w hw => Mp.wroL y (hK.later hw) h0 hv hn1
            have gR : ∀ S1 w, KP W bx #[.int .i64 d, .int .i64 y] p q po qo (wroT y st) st so S1 SR SO TO w → _ := fun S1 w hw => Mp.wroR y hw h0 hv hn1
            go_wp2_with fail
            go_region_with (first
              | ((with_reducible refine (gL _ (by first | exact Below.refl _ _ | exact (Below.refl _ _).drew)).mono ?_); rintro e w7 ⟨rfl, S1, hK1⟩; have cX1 := hK1.x.cell)
              | ((with_reducible refine (gR S1 _ (by first | exact hK1 | exact hK1.later (Below.drew (Below.refl _ _)))).mono ?_); rintro e w8 ⟨rfl, S2, hK2⟩))
            all_goals (go_wp2_with fail; go_meet; exact ⟨_, _, _, _, _, _, _, _, _, _, rfl, rfl, rfl, rfl, rfl, (by first | exact hK2 | exact hK2.later (Below.drew (Below.refl _ _))), wro_none y h0, (inv_wro y hv).1, hvo, by have := (inv_wro y hv).2; omega, by omega⟩)
          · have u0 : ((d : Int) == 0) = false := by rw [beq_eq_false_iff_ne]; omega
            have u1 : ((d : Int) == 1) = false := by rw [beq_eq_false_iff_ne]; omega
            have u2 : ((d : Int) == 2) = true := by rw [beq_iff_eq]; omega
            clear hdm
            have gL : ∀ w, Below wA.heap.size wA w → _ := fun w hw => Mp.reaL y (hK.later hw) h0 hv hn1
            have gR : ∀ S1 w, KP W bx #[.int .i64 d, .int .i64 y] p q po qo (reaT y st) st so S1 SR SO TO w → _ := fun S1 w hw => Mp.reaR y hw h0 hv hn1
            go_wp2_with fail
            go_region_with (first
              | ((with_reducible refine (gL _ (by first | exact Below.refl _ _ | exact (Below.refl _ _).drew)).mono ?_); rintro e w7 ⟨rfl, S1, hK1⟩; have cX1 := hK1.x.cell)
              | ((with_reducible refine (gR S1 _ (by first | exact hK1 | exact hK1.later (Below.drew (Below.refl _ _)))).mono ?_); rintro e w8 ⟨rfl, S2, hK2⟩))
            all_goals (go_wp2_with fail; go_meet; exact ⟨_, _, _, _, _, _, _, _, _, _, rfl, rfl, rfl, rfl, rfl, (by first | exact hK2 | exact hK2.later (Below.drew (Below.refl _ _))), rea_none y h0, (inv_rea y hv).1, hvo, by have := (inv_rea y hv).2; omega, by omega⟩)
          · have u0 : ((d : Int) == 0) = false := by rw [beq_eq_false_iff_ne]; omega
            have u1 : ((d : Int) == 1) = false := by rw [beq_eq_false_iff_ne]; omega
            have u2 : ((d : Int) == 2) = false := by rw [beq_eq_false_iff_ne]; omega
            have u3 : ((d : Int) == 3) = true := by rw [beq_iff_eq]; omega
            clear hdm
            go_wp2_with fail
            refine (Mp.copyL hK.l h0 hK.b.size).mono ?_
            rintro e w7 ⟨p7, S7, rfl, hl7, g7, hb7⟩
            go_wp2_with fail
            refine (Mp.copyR (hK.later hb7).r h0 hn1 (b_then hK.b hb7).size).mono ?_
            rintro e w8 ⟨p8, S8, rfl, hr8, g8, hb8⟩
            go_wp2_with fail
            go_meet
            exact ⟨_, _, _, _, _, _, _, _, _, _, rfl, rfl, rfl, rfl, rfl, KP.copied hK hb7 hl7 g7 hb8 hr8 g8, h0, hv, hv, by omega, by omega⟩
          · have u0 : ((d : Int) == 0) = false := by rw [beq_eq_false_iff_ne]; omega
            have u1 : ((d : Int) == 1) = false := by rw [beq_eq_false_iff_ne]; omega
            have u2 : ((d : Int) == 2) = false := by rw [beq_eq_false_iff_ne]; omega
            have u3 : ((d : Int) == 3) = false := by rw [beq_eq_false_iff_ne]; omega
            clear hdm
            go_wp2_with fail
            go_meet
            exact ⟨_, _, _, _, _, _, _, _, _, _, rfl, rfl, rfl, rfl, rfl, hK, h0, hv, hvo, by omega, by omega⟩
        case rest =>
          obtain ⟨p', q', po', qo', st', so', SL', SR', SO', TO', rfl, rfl, rfl, rfl, rfl, hK', h0', hv', hvo', m1, m2⟩ := hcut
          clear hK n1 n2 h0 hv hvo hn1
          by_cases hso : so' = none
          · have hpo : po' = none := by
              rcases hK'.lo with ⟨_, h, _⟩ | ⟨_, _, _, h, _⟩
              · exact h
              · rw [hso] at h; cases h
            have HSO := Lib.hid hso
            subst hpo
            clear hso
            go_wp2_with fail
            refine (shows_any hK'.l hK'.r hv' h0' (by omega)).mono ?_
            rintro e w5 ⟨rfl, hb5⟩
            have hK5 := hK'.later hb5
            clear hK' hb5
            go_wp2_with fail
            go_roundw
            case rel => exact ⟨k + 1, _, _, _, _, st', so', SL', SR', SO', TO', by omega, rfl, rfl, rfl, rfl, by go_num, hK5.l, hK5.r, hK5.lo, hK5.ro, hK5.d1, hK5.d2, h0', hv', hvo', m1, m2, hK5.b⟩
            case measure => simp [intOf]; omega
          · have hpo : ∃ b3, po' = some ⟨b3, 0, none⟩ := by
              rcases hK'.lo with ⟨h, _⟩ | ⟨b3, _, _, _, h, _⟩
              · exact absurd h hso
              · exact ⟨b3, h⟩
            obtain ⟨b3, rfl⟩ := hpo
            have HSO := Lib.hid hso
            clear hso
            go_wp2_with fail
            refine (shows_any hK'.l hK'.r hv' h0' (by omega)).mono ?_
            rintro e w5 ⟨rfl, hb5⟩
            have hK5 := hK'.later hb5
            clear hK' hb5
            go_wp2_with fail
            refine (shows_any hK5.lo hK5.ro hvo' HSO.out (by omega)).mono ?_
            rintro e w6 ⟨rfl, hb6⟩
            have hK6 := hK5.later hb6
            clear hK5 hb6
            go_wp2_with fail
            go_roundw
            case rel => exact ⟨k + 1, _, _, _, _, st', so', SL', SR', SO', TO', by omega, rfl, rfl, rfl, rfl, by go_num, hK6.l, hK6.r, hK6.lo, hK6.ro, hK6.d1, hK6.d2, h0', hv', hvo', m1, m2, hK6.b⟩
            case measure => simp [intOf]; omega
      · obtain rfl : k = len := by omega
        go_wp2_with fail
        refine (shows_any hl hr hv h0 (by omega)).mono ?_
        rintro e w5 ⟨rfl, hb5⟩
        have hB5 := b_then hB hb5
        go_wp2_with fail
        refine (works_any _).mono ?_
        rintro e wz ⟨rfl, hbz⟩
        go_wp2_with fail
        go_ret
        exact ⟨rfl, b_then hB5 hbz⟩
  · have y1 : (200 : Int) < (len : Int) := by omega
    go_enter Try.func7, Try.ntmps7
    go_wp2_with fail
    refine (works_any _).mono ?_
    rintro e wz ⟨rfl, hbz⟩
    go_wp2_with fail
    go_ret
    exact ⟨rfl, hbz⟩

set_option maxRecDepth 100000 in
theorem lifted (os : Os) (started : os.Started) (H : Type) (enc : TypeId × Value → H) :
    ReturnsInHanded {} Try.checked os 7 .any (Rows.meterPlaysSpec.pre6 enc Try.prog Try.f7 Rows.meterPlaysRow.domain false) (Rows.meterPlaysSpec.post enc Try.prog Try.f7 false true false false) := by
  refine returnsInHanded_of_change (C := Try.checked) own started (by kernel_rfl) Try.func7
    (ChangeSpec.witness6 (enc := enc) (C := Try.checked) false ⟨#[], #[.slice none 0 0], []⟩ 8 (by kernel_rfl) (by kernel_rfl) (by kernel_rfl) (by kernel_rfl)) ?_
  intro W base args ds gs before hval0 hW hcnd _
  have hval : ∀ (j : Nat) t v, Try.f7.params[j]? = some t → args[j]? = some v → Value.okWide Try.prog W .any base t v := hval0
  have hW' := hW
  obtain ⟨p, q, hA0, hV, rfl, hfz, hnd⟩ := hW
  have hA : DataW.TrodAll enc Try.prog W 0 (fun _ => true) true Try.f7.params.toList args.toList ds p := hA0
  rw [Try.params7] at hA hval
  obtain ⟨v0, vs0, d0, ds0, p0, q0, hargs, rfl, rfl, h0, r0⟩ := trodAll_cons hA
  obtain ⟨rfl, rfl, rfl⟩ := trodAll_nil r0
  obtain rfl : args = #[v0] := by cases args; simp_all
  obtain ⟨rfl, rfl⟩ := trodVars_none hV
  refine (walk (H := H) (enc := enc) W base (hval 0 50 v0 rfl rfl) h0).mono fun e W' ⟨he, bel⟩ => ?_
  subst he
  exact ⟨_, rfl, _, _, _, [], _, [], hW', trodAll_mk1 (shut_bool Try.underlying4 _), (trodAll_cons_mk (Below.trod laidOut (by kernel_rfl) (of_decide_eq_true (by kernel_rfl)) h0 bel (lt_of_Trod h0)) trodAll_mk0), rfl, bel.frame _, fun h => by cases h⟩

/-- MeterPlays: for every list of steps the law returns true and changes nothing. No condition. -/
theorem proved : Rows.MeterPlaysSaid :=
  OpenClaim.holds_of_wide 7 Try.f7 rfl rfl rfl rfl rfl rfl rfl ⟨rfl, rfl, rfl, rfl, rfl⟩ rfl rfl rfl rfl rfl (by kernel_rfl) Try.func7 (by kernel_rfl)
    (of_decide_eq_true (by kernel_rfl)) (by unfold Func.isWrapper; first | (rw [if_pos (by decide +kernel)]; kernel_rfl) | (rw [if_neg (by decide +kernel)]; exact ⟨rfl, rfl⟩))
    (fun os started H enc _ => lifted os started H enc)
#print axioms proved
end Go.Proofs.Ytjnbkpjpcbmhcaa.meterPlays
