/-
  FooterLists: for every slice of records, every footer and every record the law returns true and changes nothing. No condition.
-/
import Derived.Test.YtiobnhdcapfhgaaOpen
import Derived.Test.YtiobnhdcapfhgaaArg
import Derived.Test.YtiobnhdcapfhgaaFwk
import Derived.Test.YtiobnhdcapfhgaaFdr
import Derived.Test.YtiobnhdcapfhgaaRsq
namespace Go.Proofs.Ytiobnhdcapfhgaa.footerLists
open Go.ChangeShapes Go.WideShapes Go.ChangeAt Go.RowKit
open Go.ChangeMaps (open_string shut_string)
set_option linter.unusedVariables false

section
variable {H : Type} {enc : TypeId × Value → H} {w : World} {base b0 : Nat} {r : Reach} {v : Value} {d : DataW H} {p : List MemPlace}
set_option maxRecDepth 100000 in
theorem open_foot {spare : Nat → Bool} {held : Bool} (hv : Value.okWide Try.prog w r b0 23 v) (h : DataW.Trod enc Try.prog w base spare held 23 v d p) :
    ∃ c l : Int, v = .agg #[.int .i64 c, .int .i64 l] := by
  obtain ⟨cs, rfl, hsz, hf⟩ := open_struct Try.underlying23 (by kernel_rfl) (by kernel_rfl) hv h
  obtain ⟨x0, n0, y0, e0, g0⟩ := hf 0 _ rfl
  obtain ⟨x1, n1, y1, e1, g1⟩ := hf 1 _ rfl
  obtain ⟨a0, q0, _, _⟩ := DataW.trod_int Try.underlying3 g0
  obtain ⟨a1, q1, _, _⟩ := DataW.trod_int Try.underlying2 g1
  simp only [List.cons.injEq, and_true] at q0 q1
  subst q0 q1
  refine ⟨a0, a1, congrArg Value.agg ?_⟩
  apply Array.ext_getElem?
  intro i
  match i with
  | 0 => simpa using e0
  | 1 => simpa using e1
  | n + 2 => rw [Array.getElem?_eq_none (by simp at hsz; omega)]; simp
end
section
variable {H : Type} {enc : TypeId × Value → H} {w : World} {base b0 : Nat} {r : Reach} {v : Value} {d : DataW H} {p : List MemPlace}
set_option maxRecDepth 100000 in
theorem open_rec1 {spare : Nat → Bool} {held : Bool} (hv : Value.okWide Try.prog w r b0 46 v) (h : DataW.Trod enc Try.prog w base spare held 46 v d p) :
    ∃ (kind seq : Int) (key val : ByteArray), v = .agg #[.int .i64 kind, .int .i64 seq, .string key, .string val] ∧ key.size ≤ maxLen ∧ val.size ≤ maxLen := by
  obtain ⟨cs, rfl, hsz, hf⟩ := open_struct Try.underlying46 (by kernel_rfl) (by kernel_rfl) hv h
  obtain ⟨x0, n0, y0, e0, g0⟩ := hf 0 _ rfl
  obtain ⟨x1, n1, y1, e1, g1⟩ := hf 1 _ rfl
  obtain ⟨x2, n2, y2, e2, g2⟩ := hf 2 _ rfl
  obtain ⟨x3, n3, y3, e3, g3⟩ := hf 3 _ rfl
  obtain ⟨a0, q0, _, _⟩ := DataW.trod_int Try.underlying3 g0
  obtain ⟨a1, q1, _, _⟩ := DataW.trod_int Try.underlying2 g1
  obtain ⟨a2, q2, _, s2⟩ := DataW.trod_string Try.underlying9 g2
  obtain ⟨a3, q3, _, s3⟩ := DataW.trod_string Try.underlying9 g3
  simp only [List.cons.injEq, and_true] at q0 q1 q2 q3
  subst q0 q1 q2 q3
  refine ⟨a0, a1, a2, a3, congrArg Value.agg ?_, s2, s3⟩
  apply Array.ext_getElem?
  intro i
  match i with
  | 0 => simpa using e0
  | 1 => simpa using e1
  | 2 => simpa using e2
  | 3 => simpa using e3
  | n + 4 => rw [Array.getElem?_eq_none (by simp at hsz; omega)]; simp
end

set_option maxHeartbeats 6400000 in
set_option maxRecDepth 100000 in
theorem walk {H : Type} {enc : TypeId × Value → H} (W : World) (base : Nat) {v0 v1 v2 : Value} {d0 d1 d2 : DataW H} {p0 p1 p2 : List MemPlace} (o0 : Value.okWide Try.prog W .any base 49 v0) (h0 : DataW.Trod enc Try.prog W 0 (fun _ => true) true 49 v0 d0 p0) (o1 : Value.okWide Try.prog W .any base 23 v1) (h1 : DataW.Trod enc Try.prog W 0 (fun _ => true) true 23 v1 d1 p1) (o2 : Value.okWide Try.prog W .any base 46 v2) (h2 : DataW.Trod enc Try.prog W 0 (fun _ => true) true 46 v2 d2 p2) :
    Calls Try.prog 8 #[v0, v1, v2] W fun e W' => e = .returned (.bool true) ∧ Below W.heap.size W W' := by
  obtain ⟨A, cap, rs, rfl, hlc, hcm, hrs⟩ := open_recs o0 h0
  obtain ⟨c, l, rfl⟩ := open_foot o1 h1
  obtain ⟨kind, sq, key, val, rfl, hks, hvs⟩ := open_rec1 o2 h2
  clear o0 h0 o1 h1 o2 h2
  obtain ⟨n, hn⟩ : ∃ n, n = rs.length := ⟨_, rfl⟩
  rw [← hn]
  have hn1 : n ≤ 9223372036854775807 := by unfold maxLen at hcm; omega
  by_cases g1 : 50 < n
  · have g1' : (50 : Int) < (n : Int) := by omega
    clear hrs hn
    go_enter Try.func8, Try.ntmps8
    go_wp2_with fail
    refine (works_true _).mono ?_
    rintro e w9 ⟨rfl, hb9⟩
    go_wp2_with fail
    go_ret
    exact ⟨rfl, b_then (b_alloc (b_alloc (Below.refl _ _) _) _) hb9⟩
  · have g1' : (n : Int) ≤ 50 := by omega
    obtain ⟨S, hS⟩ : ∃ S, S = smallB ⟨kind, sq, key, val⟩ := ⟨_, rfl⟩
    obtain ⟨D, hD⟩ : ∃ D, D = !allSmall rs := ⟨_, rfl⟩
    obtain ⟨⟨x1, x2, x3⟩, hx⟩ : ∃ x, ofF rs = x := ⟨_, rfl⟩
    obtain ⟨⟨y1, y2, y3⟩, hy⟩ : ∃ y, addF c l ⟨kind, sq, key, val⟩ = y := ⟨_, rfl⟩
    have hsm : ∀ w : World, Calls Try.prog 24 #[.agg #[.int .i64 kind, .int .i64 sq, .string key, .string val]] w fun e w' => e = .returned (.bool S) ∧ Below w.heap.size w w' := by
      intro w
      have h := small_any ⟨kind, sq, key, val⟩ ⟨hks, hvs⟩ w
      rw [← hS] at h
      exact h
    have hct : ∀ w : World, Below W.heap.size W w → Calls Try.prog 25 #[.slice A n cap, .func (.func 26) #[] #[]] w fun e w' => e = .returned (.bool D) ∧ Below w.heap.size w w' := by
      intro w hb
      have h := cont_any A cap rs w (hrs.later hb) hlc hcm
      rw [← hD, ← hn] at h
      exact h
    have hcl : ∀ w : World, Below W.heap.size W w → n ≤ 50 → Calls Try.prog 27 #[.slice A n cap] w fun e w' => (∃ (A' : Option Addr) (cap' : Nat), e = .returned (.slice A' n cap') ∧ IsRs w' A' rs ∧ n ≤ cap' ∧ cap' ≤ maxLen) ∧ Below w.heap.size w w' := by
      intro w hb h50
      have h := rclone_any A cap rs w (hrs.later hb) hlc hcm (by omega)
      rw [← hn] at h
      exact h
    have hof : ∀ (A' : Option Addr) (cap' : Nat) (w : World), IsRs w A' rs → n ≤ cap' → cap' ≤ maxLen → Calls Try.prog 23 #[.slice A' n cap'] w fun e w' => e = .returned (.tuple #[.agg #[.int .i64 x1, .int .i64 x2], .int .i64 x3]) ∧ Below w.heap.size w w' := by
      intro A' cap' w h h1 h2
      have h := fof_any A' cap' rs w h (by omega) h2
      rw [hx, ← hn] at h
      exact h
    have hor : ∀ w : World, Below W.heap.size W w → Calls Try.prog 28 #[.slice A n cap] w fun e w' => e = .returned (.tuple #[.agg #[.int .i64 x1, .int .i64 x2], .int .i64 x3]) ∧ Below w.heap.size w w' := by
      intro w hb
      have h := rof_any A cap rs w (hrs.later hb) hlc hcm
      rw [hx, ← hn] at h
      exact h
    have had : ∀ w : World, Calls Try.prog 21 #[.agg #[.int .i64 c, .int .i64 l], .agg #[.int .i64 kind, .int .i64 sq, .string key, .string val]] w fun e w' => e = .returned (.tuple #[.agg #[.int .i64 y1, .int .i64 y2], .int .i64 y3]) ∧ Below w.heap.size w w' := by
      intro w
      have h := fad_any c l ⟨kind, sq, key, val⟩ hks hvs w
      rw [hy] at h
      exact h
    have har : ∀ w : World, Calls Try.prog 29 #[.agg #[.int .i64 c, .int .i64 l], .agg #[.int .i64 kind, .int .i64 sq, .string key, .string val]] w fun e w' => e = .returned (.tuple #[.agg #[.int .i64 y1, .int .i64 y2], .int .i64 y3]) ∧ Below w.heap.size w w' := by
      intro w
      have h := rfad_any c l ⟨kind, sq, key, val⟩ hks hvs w
      rw [hy] at h
      exact h
    have heq : ∀ (A' : Option Addr) (cap' : Nat) (w : World), IsRs w A' rs → Below W.heap.size W w → Calls Try.prog 30 #[.slice A' n cap', .slice A n cap] w fun e w' => e = .returned (.bool true) ∧ Below w.heap.size w w' := by
      intro A' cap' w h hb
      have h := rseq_same A' A cap' cap rs w h (hrs.later hb) (by omega)
      rw [← hn] at h
      exact h
    have HR := Lib.hid hrs
    clear hS hD hx hy hrs hlc hcm hks hvs hn
    go_enter Try.func8, Try.ntmps8
    go_wp2_with fail
    refine (hsm _).mono ?_
    rintro e w1 ⟨rfl, hb1⟩
    have hY1 : Below W.heap.size W w1 := b_then (by repeat first | exact Below.refl _ _ | apply Below.drew | apply b_alloc) hb1
    have hF1 : Blk w1 (W.heap.size) 23 #[.int .i64 c, .int .i64 l] := (hb1.block _ (by simp <;> omega)).trans (by repeat (first | ((with_reducible refine alloc_here' ?_); (simp; done)) | (with_reducible apply alloc_old') | (with_reducible apply drew_old)))
    have hX1 : Blk w1 (W.heap.size + 1) 46 #[.int .i64 kind, .int .i64 sq, .string key, .string val] := (hb1.block _ (by simp <;> omega)).trans (by repeat (first | ((with_reducible refine alloc_here' ?_); (simp; done)) | (with_reducible apply alloc_old') | (with_reducible apply drew_old)))
    have bel1 := hY1
    clear hb1
    have cF := hF1.cell
    have lF := hF1.lt
    have cX := hX1.cell
    have lX := hX1.lt
    clear hsm
    cases S with
    | false =>
      go_wp2_with fail
      refine (works_true _).mono ?_
      rintro e w9 ⟨rfl, hb9⟩
      go_wp2_with fail
      go_ret
      exact ⟨rfl, b_then bel1 hb9⟩
    | true =>
      go_wp2_with fail
      refine (hct _ bel1).mono ?_
      rintro e w2 ⟨rfl, hb2⟩
      have hY2 : Below w1.heap.size w1 w2 := b_then (by repeat first | exact Below.refl _ _ | apply Below.drew | apply b_alloc) hb2
      have hF2 := hF1.below hY2 hF1.lt
      have hX2 := hX1.below hY2 hX1.lt
      have bel2 := b_then bel1 hY2
      clear hF1 hX1 bel1 hb2 cF lF cX lX hY2
      have cF := hF2.cell
      have lF := hF2.lt
      have cX := hX2.cell
      have lX := hX2.lt
      clear hct
      cases D with
      | true =>
        go_wp2_with fail
        refine (works_true _).mono ?_
        rintro e w9 ⟨rfl, hb9⟩
        go_wp2_with fail
        go_ret
        exact ⟨rfl, b_then bel2 hb9⟩
      | false =>
        go_wp2_with fail
        refine (hcl _ bel2 (by omega)).mono ?_
        rintro e w3 ⟨⟨A', cap', rfl, hI, hl1, hl2⟩, hb3⟩
        have hY3 : Below w2.heap.size w2 w3 := b_then (by repeat first | exact Below.refl _ _ | apply Below.drew | apply b_alloc) hb3
        have hF3 := hF2.below hY3 hF2.lt
        have hX3 := hX2.below hY3 hX2.lt
        have bel3 := b_then bel2 hY3
        clear hF2 hX2 bel2 hb3 cF lF cX lX hY3
        have cF := hF3.cell
        have lF := hF3.lt
        have cX := hX3.cell
        have lX := hX3.lt
        clear hcl
        go_wp2_with fail
        refine (hof A' cap' _ hI hl1 hl2).mono ?_
        rintro e w4 ⟨rfl, hb4⟩
        have hY4 : Below w3.heap.size w3 w4 := b_then (by repeat first | exact Below.refl _ _ | apply Below.drew | apply b_alloc) hb4
        have hF4 := hF3.below hY4 hF3.lt
        have hX4 := hX3.below hY4 hX3.lt
        have hI4 := hI.later hY4
        have bel4 := b_then bel3 hY4
        clear hF3 hX3 hI bel3 hb4 cF lF cX lX hY4
        have cF := hF4.cell
        have lF := hF4.lt
        have cX := hX4.cell
        have lX := hX4.lt
        go_wp2_with fail
        refine (hor _ (b_alloc bel4 _)).mono ?_
        rintro e w5 ⟨rfl, hb5⟩
        have hY5 : Below w4.heap.size w4 w5 := b_then (by repeat first | exact Below.refl _ _ | apply Below.drew | apply b_alloc) hb5
        have hF5 := hF4.below hY5 hF4.lt
        have hX5 := hX4.below hY5 hX4.lt
        have hI5 := hI4.later hY5
        have hP5 : Blk w5 (w4.heap.size) 23 #[.int .i64 x1, .int .i64 x2] := (hb5.block _ (by simp <;> omega)).trans (by repeat (first | ((with_reducible refine alloc_here' ?_); (simp; done)) | (with_reducible apply alloc_old') | (with_reducible apply drew_old)))
        have bel5 := b_then bel4 hY5
        clear hF4 hX4 hI4 bel4 hb5 cF lF cX lX hY5
        have cF := hF5.cell
        have lF := hF5.lt
        have cX := hX5.cell
        have lX := hX5.lt
        have cP := hP5.cell
        have lP := hP5.lt
        go_wp2_with fail
        refine (had _).mono ?_
        rintro e w6 ⟨rfl, hb6⟩
        have hY6 : Below w5.heap.size w5 w6 := b_then (by repeat first | exact Below.refl _ _ | apply Below.drew | apply b_alloc) hb6
        have hF6 := hF5.below hY6 hF5.lt
        have hX6 := hX5.below hY6 hX5.lt
        have hI6 := hI5.later hY6
        have hP6 := hP5.below hY6 hP5.lt
        have hQ6 : Blk w6 (w5.heap.size) 29 #[.int .i64 x1, .int .i64 x2] := (hb6.block _ (by simp <;> omega)).trans (by repeat (first | ((with_reducible refine alloc_here' ?_); (simp; done)) | (with_reducible apply alloc_old') | (with_reducible apply drew_old)))
        have bel6 := b_then bel5 hY6
        clear hF5 hX5 hI5 hP5 bel5 hb6 cF lF cX lX cP lP hY6
        have cF := hF6.cell
        have lF := hF6.lt
        have cX := hX6.cell
        have lX := hX6.lt
        have cP := hP6.cell
        have lP := hP6.lt
        have cQ := hQ6.cell
        have lQ := hQ6.lt
        go_wp2_with fail
        refine (har _).mono ?_
        rintro e w7 ⟨rfl, hb7⟩
        have hY7 : Below w6.heap.size w6 w7 := b_then (by repeat first | exact Below.refl _ _ | apply Below.drew | apply b_alloc) hb7
        have hF7 := hF6.below hY7 hF6.lt
        have hX7 := hX6.below hY7 hX6.lt
        have hI7 := hI6.later hY7
        have hP7 := hP6.below hY7 hP6.lt
        have hQ7 := hQ6.below hY7 hQ6.lt
        have hU7 : Blk w7 (w6.heap.size) 23 #[.int .i64 y1, .int .i64 y2] := (hb7.block _ (by simp <;> omega)).trans (by repeat (first | ((with_reducible refine alloc_here' ?_); (simp; done)) | (with_reducible apply alloc_old') | (with_reducible apply drew_old)))
        have bel7 := b_then bel6 hY7
        clear hF6 hX6 hI6 hP6 hQ6 bel6 hb7 cF lF cX lX cP lP cQ lQ hY7
        have cF := hF7.cell
        have lF := hF7.lt
        have cX := hX7.cell
        have lX := hX7.lt
        have cP := hP7.cell
        have lP := hP7.lt
        have cQ := hQ7.cell
        have lQ := hQ7.lt
        have cU := hU7.cell
        have lU := hU7.lt
        have hV := Blk.new w7 29 #[.int .i64 y1, .int .i64 y2]
        have cV := hV.cell
        have hI8 := hI7.later (b_alloc (Below.refl _ w7) (.cells #[.int .i64 y1, .int .i64 y2] 29))
        have bel8 := b_alloc bel7 (.cells #[.int .i64 y1, .int .i64 y2] 29)
        have he8 := heq A' cap' _ hI8 bel8
        have cP' := (hP7.alloc (.cells #[.int .i64 y1, .int .i64 y2] 29)).cell
        have cQ' := (hQ7.alloc (.cells #[.int .i64 y1, .int .i64 y2] 29)).cell
        have cU' := (hU7.alloc (.cells #[.int .i64 y1, .int .i64 y2] 29)).cell
        clear hof hor had har heq hI7 hI8
        go_wp2_with fail
        (with_reducible refine he8.mono ?_)
        rintro e w10 ⟨rfl, hb10⟩
        have bel10 := b_then bel8 hb10
        go_wp2_with fail
        refine (works_true _).mono ?_
        rintro e w9 ⟨rfl, hb9⟩
        go_wp2_with fail
        go_ret
        exact ⟨rfl, b_then bel10 hb9⟩

set_option maxRecDepth 100000 in
theorem lifted (os : Os) (started : os.Started) (H : Type) (enc : TypeId × Value → H) :
    ReturnsInHanded {} Try.checked os 8 .any (Rows.footerListsSpec.pre6 enc Try.prog Try.f8 Rows.footerListsRow.domain false) (Rows.footerListsSpec.post enc Try.prog Try.f8 false true false false) := by
  refine returnsInHanded_of_change (C := Try.checked) own started (by kernel_rfl) Try.func8
    (ChangeSpec.witness6 (enc := enc) (C := Try.checked) false ⟨#[], #[.slice none 0 0, .agg #[.int .i64 0, .int .i64 0], .agg #[.int .i64 0, .int .i64 0, .string ⟨#[]⟩, .string ⟨#[]⟩]], []⟩ 8 (by kernel_rfl) (by kernel_rfl) (by kernel_rfl) (by kernel_rfl)) ?_
  intro W base args ds gs before hval0 hW hcnd _
  have hval : ∀ (j : Nat) t v, Try.f8.params[j]? = some t → args[j]? = some v → Value.okWide Try.prog W .any base t v := hval0
  have hW' := hW
  obtain ⟨p, q, hA0, hV, rfl, hfz, hnd⟩ := hW
  have hA : DataW.TrodAll enc Try.prog W 0 (fun _ => true) true Try.f8.params.toList args.toList ds p := hA0
  rw [Try.params8] at hA hval
  obtain ⟨v0, vs0, d0, ds0, p0, q0, hargs, rfl, rfl, h0, r0⟩ := trodAll_cons hA
  obtain ⟨v1, vs1, d1, ds1, p1, q1, rfl, rfl, rfl, h1, r1⟩ := trodAll_cons r0
  obtain ⟨v2, vs2, d2, ds2, p2, q2, rfl, rfl, rfl, h2, r2⟩ := trodAll_cons r1
  obtain ⟨rfl, rfl, rfl⟩ := trodAll_nil r2
  obtain rfl : args = #[v0, v1, v2] := by cases args; simp_all
  obtain ⟨rfl, rfl⟩ := trodVars_none hV
  refine (walk (H := H) (enc := enc) W base (hval 0 49 v0 rfl rfl) h0 (hval 1 23 v1 rfl rfl) h1 (hval 2 46 v2 rfl rfl) h2).mono fun e W' ⟨he, bel⟩ => ?_
  subst he
  exact ⟨_, rfl, _, _, _, [], _, [], hW', trodAll_mk1 (shut_bool Try.underlying4 _), (trodAll_cons_mk (Below.trod laidOut (by kernel_rfl) (of_decide_eq_true (by kernel_rfl)) h0 bel (lt_of_Trod h0)) (trodAll_cons_mk (Below.trod laidOut (by kernel_rfl) (of_decide_eq_true (by kernel_rfl)) h1 bel (lt_of_Trod h1)) (trodAll_cons_mk (Below.trod laidOut (by kernel_rfl) (of_decide_eq_true (by kernel_rfl)) h2 bel (lt_of_Trod h2)) trodAll_mk0))), rfl, bel.frame _, fun h => by cases h⟩

/-- FooterLists: for every slice of records, every footer and every record the law returns true and changes nothing. No condition. -/
theorem proved : Rows.FooterListsSaid :=
  OpenClaim.holds_of_wide 8 Try.f8 rfl rfl rfl rfl rfl rfl rfl ⟨rfl, rfl, rfl, rfl, rfl⟩ rfl rfl rfl rfl rfl (by kernel_rfl) Try.func8 (by kernel_rfl)
    (of_decide_eq_true (by kernel_rfl)) (by unfold Func.isWrapper; first | (rw [if_pos (by decide +kernel)]; kernel_rfl) | (rw [if_neg (by decide +kernel)]; exact ⟨rfl, rfl⟩))
    (fun os started H enc _ => lifted os started H enc)
#print axioms proved
end Go.Proofs.Ytiobnhdcapfhgaa.footerLists
