/-
  RecordBack: for every draft and every slice of bytes the law returns true and changes nothing. No condition.
-/
import Derived.Test.YtookgehccmcgcaaOpen
import Derived.Test.YtookgehccmcgcaaWks
import Derived.Test.YtookgehccmcgcaaArg
import Derived.Test.YtookgehccmcgcaaLem
namespace Go.Proofs.Ytookgehccmcgcaa.recordBack
open Go.ChangeShapes Go.WideShapes Go.ChangeAt Go.RowKit
open Go.ChangeMaps (open_string shut_string)
set_option linter.unusedVariables false

set_option maxHeartbeats 6400000 in
set_option maxRecDepth 100000 in
theorem walk {H : Type} {enc : TypeId × Value → H} (W : World) (base : Nat) {v0 v1 : Value} {d0 d1 : DataW H} {p0 p1 : List MemPlace} (o0 : Value.okWide Try.prog W .any base 45 v0) (h0 : DataW.Trod enc Try.prog W 0 (fun _ => true) true 45 v0 d0 p0) (o1 : Value.okWide Try.prog W .any base 29 v1) (h1 : DataW.Trod enc Try.prog W 0 (fun _ => true) true 29 v1 d1 p1) :
    Calls Try.prog 6 #[v0, v1] W fun e W' => e = .returned (.bool true) ∧ Below W.heap.size W W' := by
  obtain ⟨del, seq, a1, n1, c1, K, a2, n2, c2, V, rfl, s0, s1, hK, hV⟩ := open_draft o0 h0
  clear o0 h0
  have hn1 : n1 ≤ 9223372036854775807 := by have := hK.2.2.2; unfold maxLen at this; omega
  have hn2 : n2 ≤ 9223372036854775807 := by have := hV.2.2.2; unfold maxLen at this; omega
  obtain ⟨a3, n3, c3, M3, rfl, hm1, hm2, hm3, hm4, hm5⟩ := open_bytes o1 h1
  have hM : BS W a3 n3 c3 M3 := ⟨hm1, hm2, hm3, hm4, hm5⟩
  clear o1 h1 hm1 hm2 hm3 hm4 hm5
  have hn3 : n3 ≤ 9223372036854775807 := by have := hM.2.2.2; unfold maxLen at this; omega
  by_cases g1 : 600 < n2
  · have g1' : (600 : Int) < (n2 : Int) := by omega
    clear hK hV hM
    go_enter Try.func6, Try.ntmps6
    go_wp2_with fail
    refine (works_true _).mono ?_
    rintro e w9 ⟨rfl, hb9⟩
    go_wp2_with fail
    go_ret
    exact ⟨rfl, b_then (b_alloc (Below.refl _ _) _) hb9⟩
  · by_cases g2 : 100 < n1
    · have g1' : (n2 : Int) ≤ 600 := by omega
      have g2' : (100 : Int) < (n1 : Int) := by omega
      clear hK hV hM
      go_enter Try.func6, Try.ntmps6
      go_wp2_with fail
      refine (works_true _).mono ?_
      rintro e w9 ⟨rfl, hb9⟩
      go_wp2_with fail
      go_ret
      exact ⟨rfl, b_then (b_alloc (Below.refl _ _) _) hb9⟩
    · by_cases g3 : 100 < n3
      · have g1' : (n2 : Int) ≤ 600 := by omega
        have g2' : (n1 : Int) ≤ 100 := by omega
        have g3' : (100 : Int) < (n3 : Int) := by omega
        clear hK hV hM
        go_enter Try.func6, Try.ntmps6
        go_wp2_with fail
        refine (works_true _).mono ?_
        rintro e w9 ⟨rfl, hb9⟩
        go_wp2_with fail
        go_ret
        exact ⟨rfl, b_then (b_alloc (Below.refl _ _) _) hb9⟩
      · have g1' : (n2 : Int) ≤ 600 := by omega
        have g2' : (n1 : Int) ≤ 100 := by omega
        have g3' : (n3 : Int) ≤ 100 := by omega
        have hrok := draftR_ok del seq K V s0
        have hrec := fun (w : World) (hb : Below W.heap.size W w) => rec_any del seq a1 n1 c1 K a2 n2 c2 V w s0 s1 (hK.later hb) (hV.later hb)
        obtain ⟨r, hr⟩ : ∃ r, r = draftR del seq K V := ⟨_, rfl⟩
        rw [← hr] at hrok hrec
        clear hr
        have hEl := encF_length r
        have hdec := decF_enc hrok
        have hsh := fun {i : Nat} => decF_short (i := i) hrok
        have hEB := encF_bb r
        have hle := hrok.le
        obtain ⟨N, hNe⟩ : ∃ N, N = r.size := ⟨_, rfl⟩
        obtain ⟨E, hEe⟩ : ∃ E, E = encF r := ⟨_, rfl⟩
        have hen := ren_yes r hrok
        have hsz := rsize_yes r hrok
        have hck := rchk_yes r hrok
        have hN17 : 17 ≤ N := by rw [hNe]; have := hrok.2.2.2.2.1; unfold Rc.size; omega
        have hco : ∀ w : World, Calls Try.prog 24 #[.string r.key, .string r.val] w fun e w' => e = .returned (.int .i64 (N : Nat)) ∧ w = w' := by
          intro w
          have := cost_any r.key r.val (by have := hrok.2.2.2.2.2.1; omega) (by have := hrok.2.2.2.2.2.2; omega) w
          rw [hNe]
          exact this
        rw [← hNe] at hEl hdec hsh hen hsz hle
        rw [← hEe] at hEl hdec hsh hen hEB
        clear hNe hEe
        have hD1 : ∀ (A : Option Addr) (m c : Nat) (w : World), RB w A (E ++ M3) → m = N + n3 → m ≤ c → c ≤ maxLen → Calls Try.prog 20 #[.slice A m c] w fun e w' => e = .returned (.tuple #[r.v, .int .i64 (N : Nat), .int .i64 0]) ∧ Below w.heap.size w w' := by
          intro A m c w h hm hmc hcm
          have d := decode_any A m c (E ++ M3) w h (by rw [List.length_append, hEl, hM.1, hm]) (hEB.app hM.2.2.1) hmc hcm
          rw [hdec] at d
          exact d
        have hD2 : Hid (∀ (g q : Nat) (w : World), RB w (some ⟨g, 0, none⟩) E → q < N → Calls Try.prog 20 #[.slice (some ⟨g, 0, none⟩) q q] w fun e w' => e = .returned (.tuple #[.agg #[.int .i64 0, .int .i64 0, .string ⟨#[]⟩, .string ⟨#[]⟩], .int .i64 0, .int .i64 14]) ∧ Below w.heap.size w w') := by
          intro g q w h hq
          have d := decode_any (some ⟨g, 0, none⟩) q q (E.take q) w (RB.cut h q) (by rw [List.length_take, hEl]; omega) (hEB.take _) (Nat.le_refl _) (by unfold maxLen; omega)
          rw [hsh hq] at d
          exact d
        clear hdec hsh
        obtain ⟨kind, sq, key, val⟩ := r
        have hrec : ∀ w : World, Below W.heap.size W w → Calls Try.prog 26 #[.agg #[.bool del, .int .u64 seq, .slice a1 n1 c1, .slice a2 n2 c2]] w fun e w' => e = .returned (.agg #[.int .i64 kind, .int .i64 sq, .string key, .string val]) ∧ Below w.heap.size w w' := hrec
        have hen : ∀ w : World, Calls Try.prog 15 #[.agg #[.int .i64 kind, .int .i64 sq, .string key, .string val]] w fun e w' => (∃ g, e = .returned (.tuple #[.slice (some ⟨g, 0, none⟩) N N, .int .i64 0]) ∧ Clip w' w.heap.size g E) ∧ Below w.heap.size w w' := hen
        have hck : ∀ w : World, Calls Try.prog 17 #[.agg #[.int .i64 kind, .int .i64 sq, .string key, .string val]] w fun e w' => e = .returned (.int .i64 0) ∧ Below w.heap.size w w' := hck
        have hsz : ∀ w : World, Calls Try.prog 13 #[.agg #[.int .i64 kind, .int .i64 sq, .string key, .string val]] w fun e w' => e = .returned (.tuple #[.int .i64 (N : Nat), .int .i64 0]) ∧ Below w.heap.size w w' := hsz
        have hco : ∀ w : World, Calls Try.prog 24 #[.string key, .string val] w fun e w' => e = .returned (.int .i64 (N : Nat)) ∧ w = w' := hco
        have hD1 : Hid (∀ (A : Option Addr) (m c : Nat) (w : World), RB w A (E ++ M3) → m = N + n3 → m ≤ c → c ≤ maxLen → Calls Try.prog 20 #[.slice A m c] w fun e w' => e = .returned (.tuple #[.agg #[.int .i64 kind, .int .i64 sq, .string key, .string val], .int .i64 (N : Nat), .int .i64 0]) ∧ Below w.heap.size w w') := hD1
        obtain ⟨i0, hi0, hz0, hz1, hz2⟩ := info_parts byte_info
        clear hK hV
        go_enter Try.func6, Try.ntmps6
        go_wp2_with fail
        refine (hrec _ (b_alloc (Below.refl _ _) _)).mono ?_
        rintro e w1 ⟨rfl, hb1⟩
        have hY1 : Below W.heap.size W w1 := b_then (by repeat first | exact Below.refl _ _ | apply Below.drew | apply b_alloc) hb1
        have bel1 := hY1
        clear hb1
        go_wp2_with fail
        refine (hen _).mono ?_
        rintro e w2 ⟨⟨g, rfl, hC⟩, hb2⟩
        have hY2 : Below w1.heap.size w1 w2 := b_then (by repeat first | exact Below.refl _ _ | apply Below.drew | apply b_alloc) hb2
        have hR2 : Blk w2 (w1.heap.size) 23 #[.int .i64 kind, .int .i64 sq, .string key, .string val] := (hb2.block _ (by simp <;> omega)).trans (by repeat (first | ((with_reducible refine alloc_here' ?_); (simp; done)) | (with_reducible apply alloc_old') | (with_reducible apply drew_old)))
        have bel2 := b_then bel1 hY2
        clear bel1 hb2 hY2
        have cR := hR2.cell
        have lR := hR2.lt
        go_wp2_with fail
        refine (hsz _).mono ?_
        rintro e w3 ⟨rfl, hb3⟩
        have hY3 : Below w2.heap.size w2 w3 := b_then (by repeat first | exact Below.refl _ _ | apply Below.drew | apply b_alloc) hb3
        have hR3 := hR2.below hY3 hR2.lt
        have hC3 := hC.later hY3
        have bel3 := b_then bel2 hY3
        clear hR2 hC bel2 hb3 cR lR hY3
        have cR := hR3.cell
        have lR := hR3.lt
        go_wp2_with fail
        refine (hck _).mono ?_
        rintro e w4 ⟨rfl, hb4⟩
        have hY4 : Below w3.heap.size w3 w4 := b_then (by repeat first | exact Below.refl _ _ | apply Below.drew | apply b_alloc) hb4
        have hR4 := hR3.below hY4 hR3.lt
        have hC4 := hC3.later hY4
        have bel4 := b_then bel3 hY4
        clear hR3 hC3 bel3 hb4 cR lR hY4
        have cR := hR4.cell
        have lR := hR4.lt
        go_wp2_with fail
        refine (hco _).mono ?_
        rintro e wc ⟨rfl, rfl⟩
        clear hen hsz hck hco hrec
        have hgl4 := hC4.lt.2
        have o0 : (w4.alloc (.cells #[] 5)).ownsRow w4.heap.size 5 1 (.slice (some ⟨w4.heap.size, 0, none⟩) 0 0) 0 [] := World.ownsRow_lit w4 #[] 0 (Nat.le_refl _) (by unfold maxLen; omega) rfl
        have hrd1 : Reads (w4.alloc (.cells #[] 5)) (w4.alloc (.cells #[] 5)).heap.size 1 (some ⟨g, 0, none⟩) N (E.map (Value.int .u8)) := by
          have h := Reads.of_rb (hC4.rb.later (b_alloc (Below.refl _ _) (.cells #[] 5))) (by simp; omega)
          rwa [hEl] at h
        have k1 : 0 + N ≤ maxLen := by unfold maxLen; omega
        have k2 : (0 + N) * 1 ≤ 140737488355328 := by omega
        have k3 : w4.heap.size ≤ (w4.alloc (.cells #[] 5)).heap.size := by simp
        have k4 : ∀ u ∈ E.map (Value.int .u8), u.oneCell' = true := bytes_one
        have k5 : ∀ u ∈ M3.map (Value.int .u8), u.oneCell' = true := bytes_one
        have k6 : N + n3 ≤ maxLen := by unfold maxLen; omega
        have k7 : (N + n3) * 1 ≤ 140737488355328 := by omega
        clear cR lR
        go_wp2_with (first
          | (at_builtin; refine wpList_append_any _ rfl (.tmp 72) (.tmp 73) _ rfl w4.heap.size 5 i0 _ 1 1 Try.underlying29 hi0 hz0 hz1 hz2 rfl (by omega) _ 0 _ rfl o0 (w4.alloc (.cells #[] 5)).heap.size _ N N (E.map (Value.int .u8)) rfl hrd1 k4 k1 k2 k3 ?_; intro v5 w5 o5 hg5 hat5; simp only [Nat.zero_add, List.nil_append] at o5; have hg5 : (w4.alloc (.cells #[] 5)).grownBy w5 (some w4.heap.size) := hg5; have hB5 := b_g (b_alloc bel4 (.cells #[] 5)) hg5 bel4.size; have hR5 := (hR4.alloc (.cells #[] 5)).grown hg5 (fun h => Nat.ne_of_lt hR4.lt (Option.some.inj h)); have hC5 := RB.grown (hC4.rb.later (b_alloc (Below.refl _ _) (.cells #[] 5))) hg5 (Nat.lt_of_lt_of_le hgl4 k3) (Nat.ne_of_lt hgl4); have hz5 := Nat.le_trans k3 hg5.size; have hrd2 := BS.reads (hM.later hB5); have hl5 : g < w5.heap.size := Nat.lt_of_lt_of_le hgl4 hz5; clear hg5 hat5)
          | (at_builtin; refine wpList_append_any _ rfl (.tmp 74) (.tmp 75) _ rfl w4.heap.size 5 i0 _ 1 1 Try.underlying29 hi0 hz0 hz1 hz2 rfl (by omega) _ N _ rfl o5 w5.heap.size _ n3 c3 (M3.map (Value.int .u8)) rfl hrd2 k5 k6 k7 hz5 ?_; intro v6 w6 o6 hg6 hat6; have hne := fun k hk => (World.ownsRow.lt o5 k hk).1))
        have hB6 := hB5.grown hg6 hB5.size (fun k hk => Nat.le_trans bel4.size (hne k hk))
        have hR6 := hR5.grown hg6 (fun h => by have := hne _ h.symm; have := hR4.lt; omega)
        have hC6 := RB.grown' hC5 hg6 hl5 (fun h => by have := hne _ h.symm; omega)
        have hl6 := Nat.lt_of_lt_of_le hl5 hg6.size
        have o6 : IsB w6 w4.heap.size v6 (E ++ M3) := by
          unfold IsB
          rw [List.length_append, List.map_append, hEl, hM.1]
          exact o6
        have hl : (E ++ M3).length = N + n3 := by rw [List.length_append, hEl, hM.1]
        obtain ⟨g6, c6, rfl, _, _, hle6, hm6⟩ := o6.head (by omega)
        rw [hl] at hle6 o6 ⊢
        have hR6' := o6.rb
        clear o5 hg6 hat6 hne hrd1 hrd2 o0 k1 k2 k3 k4 k5 k6 k7 hB5 hR5 hC5 hR4 hC4 bel4 hl5 hz5 hl o6
        refine (hD1.out _ (N + n3) c6 _ hR6' rfl hle6 hm6).mono ?_
        rintro e w7 ⟨rfl, hb7⟩
        have hY7 : Below w6.heap.size w6 w7 := b_then (by repeat first | exact Below.refl _ _ | apply Below.drew | apply b_alloc) hb7
        have hR7 := hR6.below hY7 hR6.lt
        have hC7 := hC6.later hY7
        have hg7 := Nat.lt_of_lt_of_le hl6 hY7.size
        have bel7 := b_then hB6 hY7
        clear hR6 hC6 hl6 hB6 hb7 hY7
        have cR := hR7.cell
        have lR := hR7.lt
        clear hR6'
        have hS7 := Blk.new w7 23 #[.int .i64 kind, .int .i64 sq, .string key, .string val]
        have cS := hS7.cell
        go_wp2_with fail
        have bel8 := b_alloc bel7 (.cells #[.int .i64 kind, .int .i64 sq, .string key, .string val] 23)
        have hC8 := hC7.later (b_alloc (Below.refl _ w7) (.cells #[.int .i64 kind, .int .i64 sq, .string key, .string val] 23))
        generalize w7.alloc (.cells #[.int .i64 kind, .int .i64 sq, .string key, .string val] 23) = w8 at bel8 hC8 ⊢
        clear hR7 cR lR hC7 cS hS7 bel7 hg7 hD1 hM
        go_loopw [13] (fun i wr => ∃ q : Nat, q ≤ N ∧ i = .int .i64 q ∧ RB wr (some ⟨g, 0, none⟩) E ∧ Below W.heap.size W wr) (fun i _ => N - (intOf i).toNat)
        case atStart => exact ⟨0, Nat.zero_le _, rfl, hC8, bel8⟩
        case round =>
          obtain ⟨q, hq, rfl, hRq, hBq⟩ := hrel
          clear hC8 bel8
          by_cases hlt : q < N
          · have z1 : (q : Int) < (N : Int) := by omega
            have z2 : (0 : Int) ≤ (q : Int) := by omega
            have z3 : (q : Int) ≤ (N : Int) := by omega
            have cD := hD2.out g q wr hRq hlt
            go_wp2_with fail
            refine cD.mono ?_
            rintro e wd ⟨rfl, hbd⟩
            have hZ8 := Blk.new wd 23 #[.int .i64 0, .int .i64 0, .string ⟨#[]⟩, .string ⟨#[]⟩]
            have cZ := hZ8.cell
            have hBd := b_alloc (b_then hBq hbd) (.cells #[.int .i64 0, .int .i64 0, .string ⟨#[]⟩, .string ⟨#[]⟩] 23)
            have hRd := (hRq.later hbd).later (b_alloc (Below.refl _ wd) (.cells #[.int .i64 0, .int .i64 0, .string ⟨#[]⟩, .string ⟨#[]⟩] 23))
            clear cD hRq hBq hbd
            go_wp2_with fail
            go_roundw
            case rel => exact ⟨q + 1, by omega, by go_num, hRd, hBd⟩
            case measure => simp [intOf]; omega
          · obtain rfl : q = N := by omega
            clear hlt hRq
            go_wp2_with fail
            refine (works_true _).mono ?_
            rintro e w9 ⟨rfl, hb9⟩
            go_wp2_with fail
            go_ret
            exact ⟨rfl, b_then hBq hb9⟩

set_option maxRecDepth 100000 in
theorem lifted (os : Os) (started : os.Started) (H : Type) (enc : TypeId × Value → H) :
    ReturnsInHanded {} Try.checked os 6 .any (Rows.recordBackSpec.pre6 enc Try.prog Try.f6 Rows.recordBackRow.domain false) (Rows.recordBackSpec.post enc Try.prog Try.f6 false true false false) := by
  refine returnsInHanded_of_change (C := Try.checked) own started (by kernel_rfl) Try.func6
    (ChangeSpec.witness6 (enc := enc) (C := Try.checked) false ⟨#[], #[.agg #[.bool false, .int .u64 0, .slice none 0 0, .slice none 0 0], .slice none 0 0], []⟩ 8 (by kernel_rfl) (by kernel_rfl) (by kernel_rfl) (by kernel_rfl)) ?_
  intro W base args ds gs before hval0 hW hcnd _
  have hval : ∀ (j : Nat) t v, Try.f6.params[j]? = some t → args[j]? = some v → Value.okWide Try.prog W .any base t v := hval0
  have hW' := hW
  obtain ⟨p, q, hA0, hV, rfl, hfz, hnd⟩ := hW
  have hA : DataW.TrodAll enc Try.prog W 0 (fun _ => true) true Try.f6.params.toList args.toList ds p := hA0
  rw [Try.params6] at hA hval
  obtain ⟨v0, vs0, d0, ds0, p0, q0, hargs, rfl, rfl, h0, r0⟩ := trodAll_cons hA
  obtain ⟨v1, vs1, d1, ds1, p1, q1, rfl, rfl, rfl, h1, r1⟩ := trodAll_cons r0
  obtain ⟨rfl, rfl, rfl⟩ := trodAll_nil r1
  obtain rfl : args = #[v0, v1] := by cases args; simp_all
  obtain ⟨rfl, rfl⟩ := trodVars_none hV
  refine (walk (H := H) (enc := enc) W base (hval 0 45 v0 rfl rfl) h0 (hval 1 29 v1 rfl rfl) h1).mono fun e W' ⟨he, bel⟩ => ?_
  subst he
  exact ⟨_, rfl, _, _, _, [], _, [], hW', trodAll_mk1 (shut_bool Try.underlying4 _), (trodAll_cons_mk (Below.trod laidOut (by kernel_rfl) (of_decide_eq_true (by kernel_rfl)) h0 bel (lt_of_Trod h0)) (trodAll_cons_mk (Below.trod laidOut (by kernel_rfl) (of_decide_eq_true (by kernel_rfl)) h1 bel (lt_of_Trod h1)) trodAll_mk0)), rfl, bel.frame _, fun h => by cases h⟩

/-- RecordBack: for every draft and every slice of bytes the law returns true and changes nothing. No condition. -/
theorem proved : Rows.RecordBackSaid :=
  OpenClaim.holds_of_wide 6 Try.f6 rfl rfl rfl rfl rfl rfl rfl ⟨rfl, rfl, rfl, rfl, rfl⟩ rfl rfl rfl rfl rfl (by kernel_rfl) Try.func6 (by kernel_rfl)
    (of_decide_eq_true (by kernel_rfl)) (by unfold Func.isWrapper; first | (rw [if_pos (by decide +kernel)]; kernel_rfl) | (rw [if_neg (by decide +kernel)]; exact ⟨rfl, rfl⟩))
    (fun os started H enc _ => lifted os started H enc)
#print axioms proved
end Go.Proofs.Ytookgehccmcgcaa.recordBack
