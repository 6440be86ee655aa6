/-
  RecordDecodes: for every slice of bytes the law returns true and changes nothing. No condition.
-/
import Derived.Test.YtookgehccmcgcaaOpen
import Derived.Test.YtookgehccmcgcaaWks
import Derived.Test.YtookgehccmcgcaaArg
import Derived.Test.YtookgehccmcgcaaLem
import Derived.Test.YtookgehccmcgcaaRdy
import Derived.Test.YtookgehccmcgcaaRt4
namespace Go.Proofs.Ytookgehccmcgcaa.recordDecodes
open Go.ChangeShapes Go.WideShapes Go.ChangeAt Go.RowKit
open Go.ChangeMaps (open_string shut_string)
set_option linter.unusedVariables false

set_option maxHeartbeats 6400000 in
set_option maxRecDepth 100000 in
theorem walk {H : Type} {enc : TypeId × Value → H} (W : World) (base : Nat) {v0 : Value} {d0 : DataW H} {p0 : List MemPlace} (o0 : Value.okWide Try.prog W .any base 29 v0) (h0 : DataW.Trod enc Try.prog W 0 (fun _ => true) true 29 v0 d0 p0) :
    Calls Try.prog 4 #[v0] W fun e W' => e = .returned (.bool true) ∧ Below W.heap.size W W' := by
  obtain ⟨a, n, cap, M, rfl, hm1, hm2, hm3, hm4, hm5⟩ := open_bytes o0 h0
  have hM : BS W a n cap M := ⟨hm1, hm2, hm3, hm4, hm5⟩
  clear o0 h0 hm1 hm2 hm3 hm4 hm5
  have hcm : cap ≤ 9223372036854775807 := by have := hM.2.2.2.2; unfold maxLen at this; omega
  by_cases hbig : 2000 < n
  · have hbig' : (2000 : Int) < (n : Int) := by omega
    clear hM
    go_enter Try.func4, Try.ntmps4
    go_wp2_with fail
    refine (works_true _).mono ?_
    rintro e w9 ⟨rfl, hb9⟩
    go_wp2_with fail
    go_ret
    exact ⟨rfl, hb9⟩
  · have hbig' : (n : Int) ≤ 2000 := by omega
    have hnc := hM.2.2.2.1
    have hD : ∃ (kind sq : Int) (key val : ByteArray) (N E : Int), (∀ w, Below W.heap.size W w → Calls Try.prog 20 #[.slice a n cap] w fun e w' => e = .returned (.tuple #[.agg #[.int .i64 kind, .int .i64 sq, .string key, .string val], .int .i64 N, .int .i64 E]) ∧ Below w.heap.size w w') ∧ (∀ w, Below W.heap.size W w → Calls Try.prog 21 #[.slice a n cap] w fun e w' => e = .returned (.tuple #[.agg #[.int .i64 kind, .int .i64 sq, .string key, .string val], .int .i64 N, .int .i64 E]) ∧ Below w.heap.size w w') := by
      refine ⟨(decF M).1.kind, (decF M).1.seq, (decF M).1.key, (decF M).1.val, (decF M).2.1, (decF M).2.2, fun w hw => ?_, fun w hw => ?_⟩
      · rcases Nat.eq_zero_or_pos n with h0 | hp
        · have h14 : decF M = (Rc.zero, 0, 14) := by unfold decF; simp only []; rw [if_pos (by rw [hM.1]; omega)]
          rw [h14]
          exact rd_torn0 a n cap w (by omega)
        · exact decode_any a n cap M w ((hM.2.1 hp).later hw) hM.1 hM.2.2.1 hM.2.2.2.1 hM.2.2.2.2
      · rcases Nat.eq_zero_or_pos n with h0 | hp
        · have h14 : decF M = (Rc.zero, 0, 14) := by unfold decF; simp only []; rw [if_pos (by rw [hM.1]; omega)]
          rw [h14]
          exact d4_torn0 a n cap w (by omega)
        · exact decode4_any a n cap M w ((hM.2.1 hp).later hw) hM.1 hM.2.2.1 hM.2.2.2.1 hM.2.2.2.2
    obtain ⟨kind, sq, key, val, N, E, hD1, hD2⟩ := hD
    have o0 : (W.alloc (.cells #[] 5)).ownsRow W.heap.size 5 1 (.slice (some ⟨W.heap.size, 0, none⟩) 0 0) 0 [] := World.ownsRow_lit W #[] 0 (Nat.le_refl _) (by unfold maxLen; omega) rfl
    have hrd := BS.reads (hM.later (b_alloc (Below.refl _ W) (.cells #[] 5)))
    have k1 : 0 + n ≤ maxLen := by unfold maxLen; omega
    have k2 : (0 + n) * 1 ≤ 140737488355328 := by omega
    have k3 : W.heap.size ≤ (W.alloc (.cells #[] 5)).heap.size := by simp
    obtain ⟨i0, hi0, hz0, hz1, hz2⟩ := info_parts byte_info
    go_enter Try.func4, Try.ntmps4
    go_wp2_with (at_builtin; refine wpList_append_any _ rfl (.tmp 14) (.tmp 15) _ rfl W.heap.size 5 i0 _ 1 1 Try.underlying29 hi0 hz0 hz1 hz2 rfl (by omega) _ 0 _ rfl o0 (W.alloc (.cells #[] 5)).heap.size a n cap (M.map (Value.int .u8)) rfl hrd bytes_one k1 k2 k3 ?_; intro v1 w1 o1 hg1 hat1)
    simp only [Nat.zero_add, List.nil_append] at o1
    have hB1 := b_g (b_alloc (Below.refl _ W) (.cells #[] 5)) (show (W.alloc (.cells #[] 5)).grownBy w1 (some W.heap.size) from hg1) (Nat.le_refl _)
    have o1 : IsB w1 W.heap.size v1 M := by unfold IsB; rw [hM.1]; exact o1
    obtain ⟨A1, c1, rfl, r1⟩ := RB.of_own o1
    rw [hM.1]
    clear hg1 hat1 hrd o0 k1 k2 k3 o1
    refine (hD1 _ hB1).mono ?_
    rintro e w2 ⟨rfl, hb2⟩
    have hY2 : Below w1.heap.size w1 w2 := b_then (by repeat first | exact Below.refl _ _ | apply Below.drew | apply b_alloc) hb2
    have hA2 := r1.later hY2
    have bel2 := b_then hB1 hY2
    clear r1 hB1 hb2 hY2
    go_wp2_with fail
    refine (hD2 _ (b_alloc bel2 _)).mono ?_
    rintro e w3 ⟨rfl, hb3⟩
    have hY3 : Below w2.heap.size w2 w3 := b_then (by repeat first | exact Below.refl _ _ | apply Below.drew | apply b_alloc) hb3
    have hA3 := hA2.later hY3
    have hP3 : Blk w3 (w2.heap.size) 23 #[.int .i64 kind, .int .i64 sq, .string key, .string val] := (hb3.block _ (by simp <;> omega)).trans (by repeat (first | ((with_reducible refine alloc_here' ?_); (simp; done)) | (with_reducible apply alloc_old') | (with_reducible apply drew_old)))
    have bel3 := b_then bel2 hY3
    clear hA2 bel2 hb3 hY3
    have cP := hP3.cell
    have lP := hP3.lt
    have hQ3 := Blk.new w3 23 #[.int .i64 kind, .int .i64 sq, .string key, .string val]
    have cQ := hQ3.cell
    clear hD1 hD2
    go_wp2_with fail
    refine (same_any A1 a n c1 cap M _ (fun _ => hA3.later (b_alloc (Below.refl _ _) _)) (fun hp => (hM.2.1 hp).later (b_alloc bel3 _)) hM.1 (by omega)).mono ?_
    rintro e w4 ⟨rfl, hb4⟩
    have bel4 := b_then (b_alloc bel3 (.cells #[.int .i64 kind, .int .i64 sq, .string key, .string val] 23)) hb4
    clear hA3 hb4
    go_wp2_with fail
    refine (works_true _).mono ?_
    rintro e w9 ⟨rfl, hb9⟩
    go_wp2_with fail
    go_ret
    exact ⟨rfl, b_then bel4 hb9⟩

set_option maxRecDepth 100000 in
theorem lifted (os : Os) (started : os.Started) (H : Type) (enc : TypeId × Value → H) :
    ReturnsInHanded {} Try.checked os 4 .any (Rows.recordDecodesSpec.pre6 enc Try.prog Try.f4 Rows.recordDecodesRow.domain false) (Rows.recordDecodesSpec.post enc Try.prog Try.f4 false true false false) := by
  refine returnsInHanded_of_change (C := Try.checked) own started (by kernel_rfl) Try.func4
    (ChangeSpec.witness6 (enc := enc) (C := Try.checked) false ⟨#[], #[.slice none 0 0], []⟩ 8 (by kernel_rfl) (by kernel_rfl) (by kernel_rfl) (by kernel_rfl)) ?_
  intro W base args ds gs before hval0 hW hcnd _
  have hval : ∀ (j : Nat) t v, Try.f4.params[j]? = some t → args[j]? = some v → Value.okWide Try.prog W .any base t v := hval0
  have hW' := hW
  obtain ⟨p, q, hA0, hV, rfl, hfz, hnd⟩ := hW
  have hA : DataW.TrodAll enc Try.prog W 0 (fun _ => true) true Try.f4.params.toList args.toList ds p := hA0
  rw [Try.params4] at hA hval
  obtain ⟨v0, vs0, d0, ds0, p0, q0, hargs, rfl, rfl, h0, r0⟩ := trodAll_cons hA
  obtain ⟨rfl, rfl, rfl⟩ := trodAll_nil r0
  obtain rfl : args = #[v0] := by cases args; simp_all
  obtain ⟨rfl, rfl⟩ := trodVars_none hV
  refine (walk (H := H) (enc := enc) W base (hval 0 29 v0 rfl rfl) h0).mono fun e W' ⟨he, bel⟩ => ?_
  subst he
  exact ⟨_, rfl, _, _, _, [], _, [], hW', trodAll_mk1 (shut_bool Try.underlying4 _), (trodAll_cons_mk (Below.trod laidOut (by kernel_rfl) (of_decide_eq_true (by kernel_rfl)) h0 bel (lt_of_Trod h0)) trodAll_mk0), rfl, bel.frame _, fun h => by cases h⟩

/-- RecordDecodes: for every slice of bytes the law returns true and changes nothing. No condition. -/
theorem proved : Rows.RecordDecodesSaid :=
  OpenClaim.holds_of_wide 4 Try.f4 rfl rfl rfl rfl rfl rfl rfl ⟨rfl, rfl, rfl, rfl, rfl⟩ rfl rfl rfl rfl rfl (by kernel_rfl) Try.func4 (by kernel_rfl)
    (of_decide_eq_true (by kernel_rfl)) (by unfold Func.isWrapper; first | (rw [if_pos (by decide +kernel)]; kernel_rfl) | (rw [if_neg (by decide +kernel)]; exact ⟨rfl, rfl⟩))
    (fun os started H enc _ => lifted os started H enc)
#print axioms proved
end Go.Proofs.Ytookgehccmcgcaa.recordDecodes
