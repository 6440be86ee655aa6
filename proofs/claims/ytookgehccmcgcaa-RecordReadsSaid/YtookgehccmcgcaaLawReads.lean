/-
  RecordReads: for every slice of bytes the law returns true and changes nothing. No condition.
-/
import Derived.Test.YtookgehccmcgcaaOpen
import Derived.Test.YtookgehccmcgcaaWks
import Derived.Test.YtookgehccmcgcaaArg
namespace Go.Proofs.Ytookgehccmcgcaa.recordReads
open Go.ChangeShapes Go.WideShapes Go.ChangeAt Go.RowKit
open Go.ChangeMaps (open_string shut_string)
set_option linter.unusedVariables false

def KRd (W : World) (b off g t : Nat) (kind seq : Int) (key val : ByteArray) (M E : List Int) (w' : World) : Prop := Below W.heap.size W w' ∧ Blk w' t 23 #[.int .i64 kind, .int .i64 seq, .string key, .string val] ∧ RB w' (some ⟨b, off, none⟩) (M.take E.length) ∧ RB w' (some ⟨g, 0, none⟩) E
abbrev SRd (W : World) (b off g t : Nat) (kind seq : Int) (key val : ByteArray) (M E : List Int) (N cap : Nat) (s : ByteArray) (w' : World) : Prop := w'.cell? ⟨t, 0, none⟩ = some (.int .i64 kind) ∧ w'.cell? ⟨t, 1, none⟩ = some (.int .i64 seq) ∧ w'.cell? ⟨t, 2, none⟩ = some (.string key) ∧ w'.cell? ⟨t, 3, none⟩ = some (.string val) ∧ (convert 29 9 (.slice (some ⟨b, off, none⟩) N cap)).run Try.prog w' = .ok (.string s) w' ∧ (convert 29 9 (.slice (some ⟨g, 0, none⟩) N N)).run Try.prog w' = .ok (.string s) w' ∧ KRd W b off g t kind seq key val M E w'
section
variable {W : World} {b off g t : Nat} {kind seq : Int} {key val : ByteArray} {M E : List Int} {N cap : Nat} {s : ByteArray} {w w' : World}
theorem KRd.mk_ (h : KRd W b off g t kind seq key val M E w) (hN : E.length = N) (hM : M.take N = E) (hl : N ≤ M.length) (hs : s = strOfNums E) : SRd W b off g t kind seq key val M E N cap s w := by
  obtain ⟨h1, h2, h3, h4⟩ := h
  have hc := h2.cell
  have hl2 : (M.take N).length = N := by rw [List.length_take]; omega
  have q1 := conv_any h3 cap
  have q2 := conv_any h4 N
  rw [hN, hM, hN, ← hs] at q1
  rw [hN, ← hs] at q2
  exact ⟨hc 0, hc 1, hc 2, hc 3, q1, q2, h1, h2, h3, h4⟩
theorem KRd.after (h : KRd W b off g t kind seq key val M E w) (hb : Below w.heap.size w w') : KRd W b off g t kind seq key val M E w' := by
  obtain ⟨h1, h2, h3, h4⟩ := h
  exact ⟨b_then h1 hb, h2.below hb h2.lt, h3.later hb, h4.later hb⟩
theorem SRd.k (h : SRd W b off g t kind seq key val M E N cap s w) : KRd W b off g t kind seq key val M E w := h.2.2.2.2.2.2
end

set_option maxHeartbeats 6400000 in
set_option maxRecDepth 100000 in
theorem walk {H : Type} {enc : TypeId × Value → H} (W : World) (base : Nat) {v0 : Value} {d0 : DataW H} {p0 : List MemPlace} (o0 : Value.okWide Try.prog W .any base 29 v0) (h0 : DataW.Trod enc Try.prog W 0 (fun _ => true) true 29 v0 d0 p0) :
    Calls Try.prog 7 #[v0] W fun e W' => e = .returned (.bool true) ∧ Below W.heap.size W W' := by
  obtain ⟨a, n, cap, M, rfl, hn, hRB0, hB, hl, hc⟩ := open_bytes o0 h0
  clear o0 h0
  have hcm : cap ≤ 9223372036854775807 := by unfold maxLen at hc; omega
  by_cases hbig : 1000 < n
  · clear hRB0 hB
    have hbig' : (1000 : Int) < (n : Int) := by omega
    go_enter Try.func7, Try.ntmps7
    go_wp2_with fail
    refine (works_true _).mono ?_
    rintro e w9 ⟨rfl, hb9⟩
    go_wp2_with fail
    go_ret
    exact ⟨rfl, hb9⟩
  · have hbig' : (n : Int) ≤ 1000 := by omega
    have hD : ∀ w, Below W.heap.size W w → Calls Try.prog 20 #[.slice a n cap] w fun e w' => e = .returned (.tuple #[(decF M).1.v, .int .i64 (decF M).2.1, .int .i64 (decF M).2.2]) ∧ Below w.heap.size w w' := by
      intro w hw
      rcases Nat.eq_zero_or_pos n with h0 | hp
      · have h14 : decF M = (Rc.zero, 0, 14) := by unfold decF; simp only []; rw [if_pos (by omega)]
        rw [h14]
        exact rd_torn0 a n cap w (by omega)
      · exact decode_any a n cap M w ((hRB0 hp).later hw) hn hB hl hc
    have hD0 := hD W (Below.refl _ _)
    rcases decF_err M with h0 | h0 | h0 | h0
    · obtain ⟨r, N', E0, hdec⟩ : ∃ r N' E0, decF M = (r, N', E0) := ⟨_, _, _, rfl⟩
      have hE : E0 = 0 := by rw [hdec] at h0; exact h0
      subst hE
      obtain ⟨hok, hN', hlen, htk⟩ := decF_ok hB hdec
      rw [hdec] at hD0
      subst hN'
      have hp : 0 < n := by have := hok.2.2.2.2.1; unfold Rc.size at hlen; omega
      have hRB := hRB0 hp
      obtain ⟨b, off, rfl, hbl⟩ := hRB.some_ (by omega)
      have hEl := encF_length r
      obtain ⟨N, hNe⟩ : ∃ N, N = r.size := ⟨_, rfl⟩
      obtain ⟨E, hEe⟩ : ∃ E, E = encF r := ⟨_, rfl⟩
      obtain ⟨s, hs⟩ : ∃ s, s = strOfNums E := ⟨_, rfl⟩
      have hen := ren_yes r hok
      have hck := rchk_yes r hok
      have hvs := hok.2.2.2.2.2.2
      rw [← hNe] at hD0 hlen htk hEl hen
      rw [← hEe] at htk hEl hen
      obtain ⟨kind, seq, key, val⟩ := r
      simp only [] at hvs
      have hD0 : Calls Try.prog 20 #[.slice (some ⟨b, off, none⟩) n cap] W fun e w' => e = .returned (.tuple #[.agg #[.int .i64 kind, .int .i64 seq, .string key, .string val], .int .i64 (N : Nat), .int .i64 0]) ∧ Below W.heap.size W w' := hD0
      have hen : ∀ w : World, Calls Try.prog 15 #[.agg #[.int .i64 kind, .int .i64 seq, .string key, .string val]] w fun e w' => (∃ g, e = .returned (.tuple #[.slice (some ⟨g, 0, none⟩) N N, .int .i64 0]) ∧ Clip w' w.heap.size g E) ∧ Below w.heap.size w w' := hen
      have hck : ∀ w : World, Calls Try.prog 17 #[.agg #[.int .i64 kind, .int .i64 seq, .string key, .string val]] w fun e w' => e = .returned (.int .i64 0) ∧ Below w.heap.size w w' := hck
      have hNl : N ≤ n := by omega
      have z1 : (N : Int) ≤ (n : Int) := by omega
      have z2 : (N : Int) ≤ (cap : Int) := by omega
      have z3 : (0 : Int) ≤ (N : Int) := by omega
      have HX := Lib.hid hs
      clear hs hdec h0 hRB0 hD hNe hEe hB hok
      go_enter Try.func7, Try.ntmps7
      go_wp2_with fail
      refine hD0.mono ?_
      rintro e w1 ⟨rfl, hb1⟩
      have hT1 := Blk.new w1 23 #[.int .i64 kind, .int .i64 seq, .string key, .string val]
      have cT := hT1.cell
      have lT := hT1.lt
      have hR1 := hRB.later (b_alloc hb1 (.cells #[.int .i64 kind, .int .i64 seq, .string key, .string val] 23))
      have hB1 := b_alloc hb1 (.cells #[.int .i64 kind, .int .i64 seq, .string key, .string val] 23)
      clear hD0 hb1
      go_wp2_with fail
      refine (hen _).mono ?_
      rintro e w2 ⟨⟨g, rfl, hC⟩, hb2⟩
      have hK : KRd W b off g w1.heap.size kind seq key val M E w2 := ⟨b_then hB1 hb2, hT1.below hb2 lT, (hR1.later hb2).take _, hC.rb⟩
      have hK := hK.after (Below.drew (Below.refl _ _))
      have hS0 := hK.mk_ (cap := cap) hEl htk (by omega) HX.out
      have hlM : N ≤ M.length := by omega
      clear cT lT hT1 hR1 hB1 hb2 hen hC hRB hK
      go_wp2_with fail
      go_region_held3 (fun w' => w'.cell? ⟨w1.heap.size, 0, none⟩ = some (.int .i64 kind) ∧ w'.cell? ⟨w1.heap.size, 1, none⟩ = some (.int .i64 seq) ∧ w'.cell? ⟨w1.heap.size, 2, none⟩ = some (.string key) ∧ w'.cell? ⟨w1.heap.size, 3, none⟩ = some (.string val) ∧ (convert 29 9 (.slice (some ⟨b, off, none⟩) N cap)).run Try.prog w' = .ok (.string s) w' ∧ (convert 29 9 (.slice (some ⟨g, 0, none⟩) N N)).run Try.prog w' = .ok (.string s) w' ∧ KRd W b off g w1.heap.size kind seq key val M E w') (first | assumption | exact hS0) (first
        | (go_at_call 17; (with_reducible refine (hck _).mono ?_); rintro e w' ⟨rfl, hbk⟩; have hSk := KRd.mk_ (cap := cap) (KRd.after (SRd.k (by assumption)) hbk) hEl htk hlM HX.out)
        | (go_at_call 27; (with_reducible refine (vchk_yes val hvs _).mono ?_); rintro e w' ⟨rfl, hbk⟩; subst hbk)
        | (go_at_call 12; (with_reducible refine (works_true _).mono ?_); rintro e w' ⟨rfl, hbk⟩; have hSk := KRd.mk_ (cap := cap) (KRd.after (SRd.k (by assumption)) hbk) hEl htk hlM HX.out))
      rename_i hEnd
      go_wp2_with fail
      go_ret
      exact ⟨rfl, (SRd.k hEnd).1⟩
    · rw [h0] at hD0
      have hD0 : Calls Try.prog 20 #[.slice a n cap] W fun e w' => e = .returned (.tuple #[.agg #[.int .i64 0, .int .i64 0, .string ⟨#[]⟩, .string ⟨#[]⟩], .int .i64 0, .int .i64 14]) ∧ Below W.heap.size W w' := hD0
      clear h0 hD hRB0 hB
      go_enter Try.func7, Try.ntmps7
      go_wp2_with fail
      refine (hD0).mono ?_
      rintro e w1 ⟨rfl, hb1⟩
      clear hD0
      go_wp2_with fail
      refine (works_true _).mono ?_
      rintro e w9 ⟨rfl, hb9⟩
      go_wp2_with fail
      go_ret
      exact ⟨rfl, b_then (b_alloc hb1 _) hb9⟩
    · rw [h0] at hD0
      have hD0 : Calls Try.prog 20 #[.slice a n cap] W fun e w' => e = .returned (.tuple #[.agg #[.int .i64 0, .int .i64 0, .string ⟨#[]⟩, .string ⟨#[]⟩], .int .i64 0, .int .i64 8]) ∧ Below W.heap.size W w' := hD0
      clear h0 hD hRB0 hB
      go_enter Try.func7, Try.ntmps7
      go_wp2_with fail
      refine (hD0).mono ?_
      rintro e w1 ⟨rfl, hb1⟩
      clear hD0
      go_wp2_with fail
      refine (works_true _).mono ?_
      rintro e w9 ⟨rfl, hb9⟩
      go_wp2_with fail
      go_ret
      exact ⟨rfl, b_then (b_alloc hb1 _) hb9⟩
    · rw [h0] at hD0
      have hD0 : Calls Try.prog 20 #[.slice a n cap] W fun e w' => e = .returned (.tuple #[.agg #[.int .i64 0, .int .i64 0, .string ⟨#[]⟩, .string ⟨#[]⟩], .int .i64 0, .int .i64 15]) ∧ Below W.heap.size W w' := hD0
      clear h0 hD hRB0 hB
      go_enter Try.func7, Try.ntmps7
      go_wp2_with fail
      refine (hD0).mono ?_
      rintro e w1 ⟨rfl, hb1⟩
      clear hD0
      go_wp2_with fail
      refine (works_true _).mono ?_
      rintro e w9 ⟨rfl, hb9⟩
      go_wp2_with fail
      go_ret
      exact ⟨rfl, b_then (b_alloc hb1 _) hb9⟩

set_option maxRecDepth 100000 in
theorem lifted (os : Os) (started : os.Started) (H : Type) (enc : TypeId × Value → H) :
    ReturnsInHanded {} Try.checked os 7 .any (Rows.recordReadsSpec.pre6 enc Try.prog Try.f7 Rows.recordReadsRow.domain false) (Rows.recordReadsSpec.post enc Try.prog Try.f7 false true false false) := by
  refine returnsInHanded_of_change (C := Try.checked) own started (by kernel_rfl) Try.func7
    (ChangeSpec.witness6 (enc := enc) (C := Try.checked) false ⟨#[], #[.slice none 0 0], []⟩ 8 (by kernel_rfl) (by kernel_rfl) (by kernel_rfl) (by kernel_rfl)) ?_
  intro W base args ds gs before hval0 hW hcnd _
  have hval : ∀ (j : Nat) t v, Try.f7.params[j]? = some t → args[j]? = some v → Value.okWide Try.prog W .any base t v := hval0
  have hW' := hW
  obtain ⟨p, q, hA0, hV, rfl, hfz, hnd⟩ := hW
  have hA : DataW.TrodAll enc Try.prog W 0 (fun _ => true) true Try.f7.params.toList args.toList ds p := hA0
  rw [Try.params7] at hA hval
  obtain ⟨v0, vs0, d0, ds0, p0, q0, hargs, rfl, rfl, h0, r0⟩ := trodAll_cons hA
  obtain ⟨rfl, rfl, rfl⟩ := trodAll_nil r0
  obtain rfl : args = #[v0] := by cases args; simp_all
  obtain ⟨rfl, rfl⟩ := trodVars_none hV
  refine (walk (H := H) (enc := enc) W base (hval 0 29 v0 rfl rfl) h0).mono fun e W' ⟨he, bel⟩ => ?_
  subst he
  exact ⟨_, rfl, _, _, _, [], _, [], hW', trodAll_mk1 (shut_bool Try.underlying4 _), (trodAll_cons_mk (Below.trod laidOut (by kernel_rfl) (of_decide_eq_true (by kernel_rfl)) h0 bel (lt_of_Trod h0)) trodAll_mk0), rfl, bel.frame _, fun h => by cases h⟩

/-- RecordReads: for every slice of bytes the law returns true and changes nothing. No condition. -/
theorem proved : Rows.RecordReadsSaid :=
  OpenClaim.holds_of_wide 7 Try.f7 rfl rfl rfl rfl rfl rfl rfl ⟨rfl, rfl, rfl, rfl, rfl⟩ rfl rfl rfl rfl rfl (by kernel_rfl) Try.func7 (by kernel_rfl)
    (of_decide_eq_true (by kernel_rfl)) (by unfold Func.isWrapper; first | (rw [if_pos (by decide +kernel)]; kernel_rfl) | (rw [if_neg (by decide +kernel)]; exact ⟨rfl, rfl⟩))
    (fun os started H enc _ => lifted os started H enc)
#print axioms proved
end Go.Proofs.Ytookgehccmcgcaa.recordReads
