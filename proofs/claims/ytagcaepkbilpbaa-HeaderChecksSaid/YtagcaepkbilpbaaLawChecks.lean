/-
  HeaderChecks: for every header the law returns true and changes nothing. No condition.
-/
import Derived.Test.YtagcaepkbilpbaaOpen
import Derived.Test.YtagcaepkbilpbaaWks
import Derived.Test.YtagcaepkbilpbaaArg
import Derived.Test.YtagcaepkbilpbaaRde
namespace Go.Proofs.Ytagcaepkbilpbaa.headerChecks
open Go.ChangeShapes Go.WideShapes Go.ChangeAt Go.RowKit
open Go.ChangeMaps (open_string shut_string)
set_option linter.unusedVariables false

/-- what the region of the law keeps besides the headers' cells -/
def Kp (W : World) (A1 A2 : Option Addr) (M : List Int) (w' : World) : Prop :=
  Below W.heap.size W w' ∧ RB w' A1 M ∧ RB w' A2 M ∧ W.heap.size + 1 < w'.heap.size ∧ (∀ b off : Nat, A1 = some ⟨b, off, none⟩ → b < w'.heap.size) ∧ (∀ b off : Nat, A2 = some ⟨b, off, none⟩ → b < w'.heap.size)
abbrev CS (W : World) (s k key x q : Int) (A1 A2 : Option Addr) (M : List Int) (w' : World) : Prop := w'.cell? ⟨W.heap.size, 0, none⟩ = some (.int .u32 s) ∧ w'.cell? ⟨W.heap.size, 1, none⟩ = some (.int .i64 k) ∧ w'.cell? ⟨W.heap.size, 2, none⟩ = some (.int .i64 key) ∧ w'.cell? ⟨W.heap.size, 3, none⟩ = some (.int .i64 x) ∧ w'.cell? ⟨W.heap.size, 4, none⟩ = some (.int .i64 q) ∧ w'.cell? ⟨W.heap.size + 1, 0, none⟩ = some (.int .u32 s) ∧ w'.cell? ⟨W.heap.size + 1, 1, none⟩ = some (.int .i64 k) ∧ w'.cell? ⟨W.heap.size + 1, 2, none⟩ = some (.int .i64 key) ∧ w'.cell? ⟨W.heap.size + 1, 3, none⟩ = some (.int .i64 x) ∧ w'.cell? ⟨W.heap.size + 1, 4, none⟩ = some (.int .i64 q) ∧ Kp W A1 A2 M w'
theorem CS.after {W : World} {s k key x q : Int} {A1 A2 : Option Addr} {M : List Int} {w w' : World} (h : CS W s k key x q A1 A2 M w) (hb : Below w.heap.size w w') : CS W s k key x q A1 A2 M w' := by
  obtain ⟨c0, c1, c2, c3, c4, d0, d1, d2, d3, d4, hK, r1, r2, hl, l1, l2⟩ := h
  have hl0 : W.heap.size < w.heap.size := by omega
  exact ⟨(hb.cell (p := ⟨W.heap.size, 0, none⟩) hl0).trans c0, (hb.cell (p := ⟨W.heap.size, 1, none⟩) hl0).trans c1, (hb.cell (p := ⟨W.heap.size, 2, none⟩) hl0).trans c2, (hb.cell (p := ⟨W.heap.size, 3, none⟩) hl0).trans c3, (hb.cell (p := ⟨W.heap.size, 4, none⟩) hl0).trans c4,
    (hb.cell (p := ⟨W.heap.size + 1, 0, none⟩) hl).trans d0, (hb.cell (p := ⟨W.heap.size + 1, 1, none⟩) hl).trans d1, (hb.cell (p := ⟨W.heap.size + 1, 2, none⟩) hl).trans d2, (hb.cell (p := ⟨W.heap.size + 1, 3, none⟩) hl).trans d3, (hb.cell (p := ⟨W.heap.size + 1, 4, none⟩) hl).trans d4,
    b_then hK hb, r1.keep hb l1, r2.keep hb l2, Nat.lt_of_lt_of_le hl hb.size, fun b off hq => Nat.lt_of_lt_of_le (l1 b off hq) hb.size, fun b off hq => Nat.lt_of_lt_of_le (l2 b off hq) hb.size⟩
theorem CS.mk {W : World} {s k key x q : Int} {A1 A2 : Option Addr} {M : List Int} {w : World} (hH : Blk w W.heap.size 24 #[.int .u32 s, .int .i64 k, .int .i64 key, .int .i64 x, .int .i64 q]) (hR : Blk w (W.heap.size + 1) 25 #[.int .u32 s, .int .i64 k, .int .i64 key, .int .i64 x, .int .i64 q]) (hB : Below W.heap.size W w)
    (r1 : RB w A1 M) (r2 : RB w A2 M) (l1 : ∀ b off : Nat, A1 = some ⟨b, off, none⟩ → b < w.heap.size) (l2 : ∀ b off : Nat, A2 = some ⟨b, off, none⟩ → b < w.heap.size) : CS W s k key x q A1 A2 M w.drew :=
  CS.after (w := w) ⟨hH.cell 0, hH.cell 1, hH.cell 2, hH.cell 3, hH.cell 4, hR.cell 0, hR.cell 1, hR.cell 2, hR.cell 3, hR.cell 4, hB, r1, r2, hR.lt, l1, l2⟩ (Below.drew (Below.refl _ _))
theorem CS.equal {W : World} {s k key x q : Int} (A1 A2 : Option Addr) (c1 c2 : Nat) (M : List Int) (w : World) (h : CS W s k key x q A1 A2 M w) :
    Calls Try.prog 16 #[.slice A1 M.length c1, .slice A2 M.length c2] w fun e w' => e = .returned (.bool true) ∧ CS W s k key x q A1 A2 M w' :=
  (equal_same A1 A2 c1 c2 M w h.2.2.2.2.2.2.2.2.2.2.2.1 h.2.2.2.2.2.2.2.2.2.2.2.2.1).mono fun e w' ⟨he, hw⟩ => ⟨he, hw ▸ h⟩

set_option maxHeartbeats 1600000 in
theorem walk {H : Type} {enc : TypeId × Value → H} (W : World) (base : Nat) {v0 : Value} {d0 : DataW H} {p0 : List MemPlace} (o0 : Value.okWide Try.prog W .any base 24 v0) (h0 : DataW.Trod enc Try.prog W 0 (fun _ => true) true 24 v0 d0 p0) :
    Calls Try.prog 3 #[v0] W fun e W' => e = .returned (.bool true) ∧ Below W.heap.size W W' := by
  obtain ⟨s, k, key, x, q, rfl, hs0, hs1⟩ := open_hdr o0 h0
  clear h0 o0
  by_cases h : HOk k key x q
  · skip
    have hH0 := (Blk.new W 24 #[.int .u32 s, .int .i64 k, .int .i64 key, .int .i64 x, .int .i64 q]).alloc (.cells #[.int .u32 s, .int .i64 k, .int .i64 key, .int .i64 x, .int .i64 q] 25)
    have hR0 := Blk.new (W.alloc (.cells #[.int .u32 s, .int .i64 k, .int .i64 key, .int .i64 x, .int .i64 q] 24)) 25 #[.int .u32 s, .int .i64 k, .int .i64 key, .int .i64 x, .int .i64 q]
    rw [show (W.alloc (.cells #[.int .u32 s, .int .i64 k, .int .i64 key, .int .i64 x, .int .i64 q] 24)).heap.size = W.heap.size + 1 from by simp] at hR0
    have hB0 := b_alloc (b_alloc (Below.refl _ W) (.cells #[.int .u32 s, .int .i64 k, .int .i64 key, .int .i64 x, .int .i64 q] 24)) (.cells #[.int .u32 s, .int .i64 k, .int .i64 key, .int .i64 x, .int .i64 q] 25)
    go_enter Try.func3, Try.ntmps3
    go_wp2_with fail
    refine (enc_yes s k key x q _ hs0 hs1 h).mono ?_
    rintro e w1 ⟨⟨v1, rfl, o1⟩, hb1⟩
    have hH1 := hH0.below hb1 hH0.lt
    have hR1 := hR0.below hb1 hR0.lt
    have hB1 := b_then hB0 hb1
    have cH := hH1.cell
    have cR := hR1.cell
    clear hH0 hR0 hB0
    go_wp2_with fail
    refine (renc_yes s k key x q _ hs0 hs1 h).mono ?_
    rintro e w2 ⟨⟨v2, rfl, o2⟩, hb2⟩
    clear cH cR
    have o1 := o1.later hb2
    have hH2 := hH1.below hb2 hH1.lt
    have hR2 := hR1.below hb2 hR1.lt
    have hB2 := b_then hB1 hb2
    have cH := hH2.cell
    have cR := hR2.cell
    clear hH1 hR1 hB1
    go_wp2_with fail
    refine (size_yes s k key x q _ h).mono ?_
    rintro e w3 ⟨rfl, hb3⟩
    clear cH cR
    have o1 := o1.later hb3
    have o2 := o2.later hb3
    have hH3 := hH2.below hb3 hH2.lt
    have hR3 := hR2.below hb3 hR2.lt
    have hB3 := b_then hB2 hb3
    have cH := hH3.cell
    have cR := hR3.cell
    clear hH2 hR2 hB2
    go_wp2_with fail
    refine (rsize_yes s k key x q _ h).mono ?_
    rintro e w4 ⟨rfl, hb4⟩
    clear cH cR
    have o1 := o1.later hb4
    have o2 := o2.later hb4
    have hH4 := hH3.below hb4 hH3.lt
    have hR4 := hR3.below hb4 hR3.lt
    have hB4 := b_then hB3 hb4
    have cH := hH4.cell
    have cR := hR4.cell
    clear hH3 hR3 hB3
    obtain ⟨A1, c1, rfl, hR1⟩ := RB.of_own o1
    obtain ⟨A2, c2, rfl, hR2⟩ := RB.of_own o2
    have l1 : ∀ b off : Nat, A1 = some ⟨b, off, none⟩ → b < w4.heap.size := fun b off hq => (World.ownsRow.lt o1 b (by rw [hq]; rfl)).2
    have l2 : ∀ b off : Nat, A2 = some ⟨b, off, none⟩ → b < w4.heap.size := fun b off hq => (World.ownsRow.lt o2 b (by rw [hq]; rfl)).2
    have hS0 := CS.mk hH4 hR4 hB4 hR1 hR2 l1 l2
    clear hH4 hR4 hB4 cH cR hR1 hR2 l1 l2 o1 o2
    go_wp2_with fail
    go_region_held3 (fun w' => w'.cell? ⟨W.heap.size, 0, none⟩ = some (.int .u32 s) ∧ w'.cell? ⟨W.heap.size, 1, none⟩ = some (.int .i64 k) ∧ w'.cell? ⟨W.heap.size, 2, none⟩ = some (.int .i64 key) ∧ w'.cell? ⟨W.heap.size, 3, none⟩ = some (.int .i64 x) ∧ w'.cell? ⟨W.heap.size, 4, none⟩ = some (.int .i64 q) ∧ w'.cell? ⟨W.heap.size + 1, 0, none⟩ = some (.int .u32 s) ∧ w'.cell? ⟨W.heap.size + 1, 1, none⟩ = some (.int .i64 k) ∧ w'.cell? ⟨W.heap.size + 1, 2, none⟩ = some (.int .i64 key) ∧ w'.cell? ⟨W.heap.size + 1, 3, none⟩ = some (.int .i64 x) ∧ w'.cell? ⟨W.heap.size + 1, 4, none⟩ = some (.int .i64 q) ∧ Kp W A1 A2 (hbytes s k key x q) w') (assumption) (first
      | (go_at_call 14; refine (check_yes s k key x q _ h).mono ?_; rintro e w' ⟨rfl, hbk⟩; have hSk := CS.after (by assumption) hbk)
      | (go_at_call 15; refine (rcheck_yes s k key x q _ h).mono ?_; rintro e w' ⟨rfl, hbk⟩; have hSk := CS.after (by assumption) hbk)
      | (go_at_call 16; refine (CS.equal (W := W) (s := s) (k := k) (key := key) (x := x) (q := q) A1 A2 c1 c2 (hbytes s k key x q) _ (by assumption)).mono ?_; rintro e w' ⟨rfl, hSk⟩)
      | (go_at_call 17; refine (works_true _).mono ?_; rintro e w' ⟨rfl, hbk⟩; have hSk := CS.after (by assumption) hbk))
    go_wp2_with fail
    go_ret
    rename_i hEnd
    exact ⟨rfl, hEnd.2.2.2.2.2.2.2.2.2.2.1⟩
  · skip
    have hH0 := (Blk.new W 24 #[.int .u32 s, .int .i64 k, .int .i64 key, .int .i64 x, .int .i64 q]).alloc (.cells #[.int .u32 s, .int .i64 k, .int .i64 key, .int .i64 x, .int .i64 q] 25)
    have hR0 := Blk.new (W.alloc (.cells #[.int .u32 s, .int .i64 k, .int .i64 key, .int .i64 x, .int .i64 q] 24)) 25 #[.int .u32 s, .int .i64 k, .int .i64 key, .int .i64 x, .int .i64 q]
    rw [show (W.alloc (.cells #[.int .u32 s, .int .i64 k, .int .i64 key, .int .i64 x, .int .i64 q] 24)).heap.size = W.heap.size + 1 from by simp] at hR0
    have hB0 := b_alloc (b_alloc (Below.refl _ W) (.cells #[.int .u32 s, .int .i64 k, .int .i64 key, .int .i64 x, .int .i64 q] 24)) (.cells #[.int .u32 s, .int .i64 k, .int .i64 key, .int .i64 x, .int .i64 q] 25)
    go_enter Try.func3, Try.ntmps3
    go_wp2_with fail
    refine (enc_no s k key x q _ h).mono ?_
    rintro e w1 ⟨rfl, hb1⟩
    have hH1 := hH0.below hb1 hH0.lt
    have hR1 := hR0.below hb1 hR0.lt
    have hB1 := b_then hB0 hb1
    have cH := hH1.cell
    have cR := hR1.cell
    clear hH0 hR0 hB0
    go_wp2_with fail
    refine (renc_no s k key x q _ h).mono ?_
    rintro e w2 ⟨rfl, hb2⟩
    clear cH cR
    have hH2 := hH1.below hb2 hH1.lt
    have hR2 := hR1.below hb2 hR1.lt
    have hB2 := b_then hB1 hb2
    have cH := hH2.cell
    have cR := hR2.cell
    clear hH1 hR1 hB1
    go_wp2_with fail
    refine (size_no s k key x q _ h).mono ?_
    rintro e w3 ⟨rfl, hb3⟩
    clear cH cR
    have hH3 := hH2.below hb3 hH2.lt
    have hR3 := hR2.below hb3 hR2.lt
    have hB3 := b_then hB2 hb3
    have cH := hH3.cell
    have cR := hR3.cell
    clear hH2 hR2 hB2
    go_wp2_with fail
    refine (rsize_no s k key x q _ h).mono ?_
    rintro e w4 ⟨rfl, hb4⟩
    clear cH cR
    have hH4 := hH3.below hb4 hH3.lt
    have hR4 := hR3.below hb4 hR3.lt
    have hB4 := b_then hB3 hb4
    have cH := hH4.cell
    have cR := hR4.cell
    clear hH3 hR3 hB3
    have hS0 := CS.mk hH4 hR4 hB4 (A1 := none) (A2 := none) (M := []) (.inl ⟨rfl, rfl⟩) (.inl ⟨rfl, rfl⟩) (fun _ _ h => by cases h) (fun _ _ h => by cases h)
    clear hH4 hR4 hB4 cH cR
    go_wp2_with fail
    go_region_held3 (fun w' => w'.cell? ⟨W.heap.size, 0, none⟩ = some (.int .u32 s) ∧ w'.cell? ⟨W.heap.size, 1, none⟩ = some (.int .i64 k) ∧ w'.cell? ⟨W.heap.size, 2, none⟩ = some (.int .i64 key) ∧ w'.cell? ⟨W.heap.size, 3, none⟩ = some (.int .i64 x) ∧ w'.cell? ⟨W.heap.size, 4, none⟩ = some (.int .i64 q) ∧ w'.cell? ⟨W.heap.size + 1, 0, none⟩ = some (.int .u32 s) ∧ w'.cell? ⟨W.heap.size + 1, 1, none⟩ = some (.int .i64 k) ∧ w'.cell? ⟨W.heap.size + 1, 2, none⟩ = some (.int .i64 key) ∧ w'.cell? ⟨W.heap.size + 1, 3, none⟩ = some (.int .i64 x) ∧ w'.cell? ⟨W.heap.size + 1, 4, none⟩ = some (.int .i64 q) ∧ Kp W none none [] w') (assumption) (first
      | (go_at_call 14; refine (check_no s k key x q _ h).mono ?_; rintro e w' ⟨rfl, hbk⟩; have hSk := CS.after (by assumption) hbk)
      | (go_at_call 15; refine (rcheck_no s k key x q _ h).mono ?_; rintro e w' ⟨rfl, hbk⟩; have hSk := CS.after (by assumption) hbk)
      | (go_at_call 16; refine (CS.equal (W := W) (s := s) (k := k) (key := key) (x := x) (q := q) none none 0 0 [] _ (by assumption)).mono ?_; rintro e w' ⟨rfl, hSk⟩)
      | (go_at_call 17; refine (works_true _).mono ?_; rintro e w' ⟨rfl, hbk⟩; have hSk := CS.after (by assumption) hbk))
    go_wp2_with fail
    go_ret
    rename_i hEnd
    exact ⟨rfl, hEnd.2.2.2.2.2.2.2.2.2.2.1⟩

set_option maxRecDepth 100000 in
theorem lifted (os : Os) (started : os.Started) (H : Type) (enc : TypeId × Value → H) :
    ReturnsInHanded {} Try.checked os 3 .any (Rows.headerChecksSpec.pre6 enc Try.prog Try.f3 Rows.headerChecksRow.domain false) (Rows.headerChecksSpec.post enc Try.prog Try.f3 false true false false) := by
  refine returnsInHanded_of_change (C := Try.checked) own started (by kernel_rfl) Try.func3
    (ChangeSpec.witness6 (enc := enc) (C := Try.checked) false ⟨#[], #[.agg #[.int .u32 0, .int .i64 0, .int .i64 0, .int .i64 0, .int .i64 0]], []⟩ 8 (by kernel_rfl) (by kernel_rfl) (by kernel_rfl) (by kernel_rfl)) ?_
  intro W base args ds gs before hval0 hW hcnd _
  have hval : ∀ (j : Nat) t v, Try.f3.params[j]? = some t → args[j]? = some v → Value.okWide Try.prog W .any base t v := hval0
  have hW' := hW
  obtain ⟨p, q, hA0, hV, rfl, hfz, hnd⟩ := hW
  have hA : DataW.TrodAll enc Try.prog W 0 (fun _ => true) true Try.f3.params.toList args.toList ds p := hA0
  rw [Try.params3] at hA hval
  obtain ⟨v0, vs0, d0, ds0, p0, q0, hargs, rfl, rfl, h0, r0⟩ := trodAll_cons hA
  obtain ⟨rfl, rfl, rfl⟩ := trodAll_nil r0
  obtain rfl : args = #[v0] := by cases args; simp_all
  obtain ⟨rfl, rfl⟩ := trodVars_none hV
  refine (walk W base (hval 0 24 v0 rfl rfl) h0).mono fun e W' ⟨he, bel⟩ => ?_
  subst he
  exact ⟨_, rfl, _, _, _, [], _, [], hW', trodAll_mk1 (shut_bool Try.underlying4 _), (trodAll_cons_mk (Below.trod laidOut (by kernel_rfl) (of_decide_eq_true (by kernel_rfl)) h0 bel (lt_of_Trod h0)) trodAll_mk0), rfl, bel.frame _, fun h => by cases h⟩

/-- HeaderChecks: for every header the law returns true and changes nothing. No condition. -/
theorem proved : Rows.HeaderChecksSaid :=
  OpenClaim.holds_of_wide 3 Try.f3 rfl rfl rfl rfl rfl rfl rfl ⟨rfl, rfl, rfl, rfl, rfl⟩ rfl rfl rfl rfl rfl (by kernel_rfl) Try.func3 (by kernel_rfl)
    (of_decide_eq_true (by kernel_rfl)) (by unfold Func.isWrapper; first | (rw [if_pos (by decide +kernel)]; kernel_rfl) | (rw [if_neg (by decide +kernel)]; exact ⟨rfl, rfl⟩))
    (fun os started H enc _ => lifted os started H enc)
#print axioms proved
end Go.Proofs.Ytagcaepkbilpbaa.headerChecks
