/-
  RecordChanges: for every draft and every two numbers the law returns true and changes nothing. No condition.
-/
import Derived.Test.YtookgehccmcgcaaOpen
import Derived.Test.YtookgehccmcgcaaWks
import Derived.Test.YtookgehccmcgcaaArg
import Derived.Test.YtookgehccmcgcaaLem
import Derived.Test.YtookgehccmcgcaaChgm
namespace Go.Proofs.Ytookgehccmcgcaa.recordChanges
open Go.ChangeShapes Go.WideShapes Go.ChangeAt Go.RowKit
open Go.ChangeMaps (open_string shut_string)
set_option linter.unusedVariables false

set_option maxHeartbeats 6400000 in
set_option maxRecDepth 100000 in
theorem walk {H : Type} {enc : TypeId × Value → H} (W : World) (base : Nat) {v0 v1 v2 : Value} {d0 d1 d2 : DataW H} {p0 p1 p2 : List MemPlace} (o0 : Value.okWide Try.prog W .any base 45 v0) (h0 : DataW.Trod enc Try.prog W 0 (fun _ => true) true 45 v0 d0 p0) (o1 : Value.okWide Try.prog W .any base 49 v1) (h1 : DataW.Trod enc Try.prog W 0 (fun _ => true) true 49 v1 d1 p1) (o2 : Value.okWide Try.prog W .any base 50 v2) (h2 : DataW.Trod enc Try.prog W 0 (fun _ => true) true 50 v2 d2 p2) :
    Calls Try.prog 8 #[v0, v1, v2] W fun e W' => e = .returned (.bool true) ∧ Below W.heap.size W W' := by
  obtain ⟨del, seq, a1, n1, c1, K, a2, n2, c2, V, rfl, s0, s1, hK, hV⟩ := open_draft o0 h0
  clear o0 h0
  have hn1 : n1 ≤ 9223372036854775807 := by have := hK.2.2.2; unfold maxLen at this; omega
  have hn2 : n2 ≤ 9223372036854775807 := by have := hV.2.2.2; unfold maxLen at this; omega
  obtain ⟨bits_, rfl, rfl, rfl, wb⟩ := open_int Try.underlying49 o1 h1
  obtain ⟨from_, rfl, rfl, rfl, wf⟩ := open_int Try.underlying50 o2 h2
  have bb := bounds_u32 wb
  have bf := bounds_u16 wf
  clear wb wf h1 o1 h2 o2
  by_cases g1 : 600 < n2
  · have g1' : (600 : Int) < (n2 : Int) := by omega
    clear hK hV
    go_enter Try.func8, Try.ntmps8
    go_wp2_with fail
    refine (works_true _).mono ?_
    rintro e w9 ⟨rfl, hb9⟩
    go_wp2_with fail
    go_ret
    exact ⟨rfl, b_then (b_alloc (Below.refl _ _) _) hb9⟩
  · by_cases g2 : 100 < n1
    · have g1' : (n2 : Int) ≤ 600 := by omega
      have g2' : (100 : Int) < (n1 : Int) := by omega
      clear hK hV
      go_enter Try.func8, Try.ntmps8
      go_wp2_with fail
      refine (works_true _).mono ?_
      rintro e w9 ⟨rfl, hb9⟩
      go_wp2_with fail
      go_ret
      exact ⟨rfl, b_then (b_alloc (Below.refl _ _) _) hb9⟩
    · by_cases g3 : bits_ = 0
      · have g1' : (n2 : Int) ≤ 600 := by omega
        have g2' : (n1 : Int) ≤ 100 := by omega
        subst g3
        clear hK hV
        go_enter Try.func8, Try.ntmps8
        go_wp2_with fail
        refine (works_true _).mono ?_
        rintro e w9 ⟨rfl, hb9⟩
        go_wp2_with fail
        go_ret
        exact ⟨rfl, b_then (b_alloc (Below.refl _ _) _) hb9⟩
      · have g1' : (n2 : Int) ≤ 600 := by omega
        have g2' : (n1 : Int) ≤ 100 := by omega
        have g3' : (bits_ == 0) = false := by rw [beq_eq_false_iff_ne]; exact g3
        by_cases hm : from_.tmod 5 = 0
        · have hmod : (from_.tmod 5 == 0) = true := by rw [hm]; rfl
          clear hm
          have hrok := draftR_ok del seq K V s0
          have hrec := fun (w : World) (hb : Below W.heap.size W w) => rec_any del seq a1 n1 c1 K a2 n2 c2 V w s0 s1 (hK.later hb) (hV.later hb)
          obtain ⟨r, hr⟩ : ∃ r, r = draftR del seq K V := ⟨_, rfl⟩
          rw [← hr] at hrok hrec
          clear hr
          have hEl := encF_length r
          have hle := hrok.le
          obtain ⟨N, hNe⟩ : ∃ N, N = r.size := ⟨_, rfl⟩
          have hen := ren_yes r hrok
          have hN17 : 17 ≤ N := by rw [hNe]; have := hrok.2.2.2.2.1; unfold Rc.size; omega
          have hhi := fun at_ => chg_hi (at_ := at_) (lim := 8 * r.size) hrok
          have hlo := fun at_ => chg_lo (at_ := at_) hrok
          obtain ⟨E, hEe⟩ : ∃ E, E = encF r := ⟨_, rfl⟩
          rw [← hNe] at hEl hen hle hhi
          rw [← hEe] at hEl hen
          have hb0 := bb.1
          have hb1 := bb.2
          have hf0 := bf.1
          have hf1 := bf.2
          clear bb bf
          -- where the bits begin, and where they end
          obtain ⟨q, hq⟩ : ∃ q : Nat, from_ / 5 = (q : Int) := ⟨(from_ / 5).toNat, by omega⟩
          obtain ⟨m, hm2⟩ : ∃ m : Nat, m = q % 32 := ⟨_, rfl⟩
          have hm3 : m < 32 := by rw [hm2]; exact Nat.mod_lt _ (by omega)
          obtain ⟨at_, hat⟩ : ∃ at_ : Nat, at_ = 0 + m := ⟨_, rfl⟩
          have hInv : ∃ Inv, Flips Inv r at_ 32 := hlo at_
          obtain ⟨Inv, hI⟩ := hInv
          have hI0 : Inv 0 E false := by rw [hEe]; exact hI.start
          have HNe := Lib.hid hNe
          clear hhi hlo hEe hNe
          obtain ⟨kind, sq, key, val⟩ := r
          have hrec : ∀ w : World, Below W.heap.size W w → Calls Try.prog 26 #[.agg #[.bool del, .int .u64 seq, .slice a1 n1 c1, .slice a2 n2 c2]] w fun e w' => e = .returned (.agg #[.int .i64 kind, .int .i64 sq, .string key, .string val]) ∧ Below w.heap.size w w' := hrec
          have hen : ∀ w : World, Calls Try.prog 15 #[.agg #[.int .i64 kind, .int .i64 sq, .string key, .string val]] w fun e w' => (∃ g, e = .returned (.tuple #[.slice (some ⟨g, 0, none⟩) N N, .int .i64 0]) ∧ Clip w' w.heap.size g E) ∧ Below w.heap.size w w' := hen
          have ht5 : from_.tdiv 5 = (q : Int) := by rw [Int.tdiv_eq_ediv_of_nonneg hf0]; exact hq
          have hw16 : IntKind.u16.wrap (q : Int) = (q : Int) := by rw [IntKind.wrap_u16]; omega
          have hq2 : q < 13108 := by omega
          have hq3 : (q : Int) < 13108 := by omega
          have hq4 : (0 : Int) ≤ (q : Int) := Int.natCast_nonneg q
          clear hq hf0 hf1 hV hK hrok
          have htm : (q : Int).tmod 32 = (m : Int) := by
            rw [Int.tmod_eq_emod_of_nonneg (Int.natCast_nonneg q), hm2]
            exact (Int.natCast_emod q 32).symm
          have htm2 : (q : Int) % 32 = (m : Int) := by rw [hm2]; exact (Int.natCast_emod q 32).symm
          clear hm2
          obtain ⟨lim, hlim⟩ : ∃ lim : Nat, lim = 32 := ⟨_, rfl⟩
          rw [← hlim] at hI
          have hmi : (m : Int) < 4416 := by omega
          have hm0 : (0 : Int) ≤ (m : Int) := by omega
          have Hat := Lib.hid hat
          have Hlim := Lib.hid hlim
          clear hat hlim
          go_enter Try.func8, Try.ntmps8
          go_wp2_with fail
          refine (hrec _ (b_alloc (Below.refl _ _) _)).mono ?_
          rintro e w1 ⟨rfl, hb1⟩
          have hY1 : Below W.heap.size W w1 := b_then (by repeat first | exact Below.refl _ _ | apply Below.drew | apply b_alloc) hb1
          have bel1 := hY1
          clear hb1
          go_wp2_with fail
          refine (hen _).mono ?_
          rintro e w2 ⟨⟨g, rfl, hC⟩, hb2⟩
          have hY2 : Below w1.heap.size w1 w2 := b_then (by repeat first | exact Below.refl _ _ | apply Below.drew | apply b_alloc) hb2
          have bel2 := b_then bel1 hY2
          clear bel1 hb2 hY2
          clear hen hrec
          go_wp2_with fail
          have hC2 := hC.base (show W.heap.size ≤ _ from hY1.size)
          clear hC
          go_loopw [12, 13] (fun c i wr => ∃ (p : Nat) (E1 : List Int) (ch : Bool), p ≤ 32 ∧ i = .int .i64 p ∧ c = .bool ch ∧ Inv p E1 ch ∧ Clip wr W.heap.size g E1 ∧ Below W.heap.size W wr) (fun _ i _ => 32 - (intOf i).toNat)
          case atStart => exact ⟨0, E, false, by omega, rfl, rfl, hI0, hC2, bel2⟩
          case round =>
            obtain ⟨p, E1, ch, hp, rfl, rfl, hInv, hCl, hBr⟩ := hrel
            clear hC2 bel2 hI0
            obtain ⟨hE1l, hE1b⟩ := hI.len p E1 ch hInv
            have hE1l := hE1l.trans HNe.out.symm
            by_cases hlt : p < 32
            · have z1 : (p : Int) < 32 := by omega
              have z2 : (0 : Int) ≤ (p : Int) := by omega
              obtain ⟨k, hk⟩ : ∃ k : Nat, k = at_ + p := ⟨_, rfl⟩
              have hkI : ((m : Int) + (p : Int)) = (k : Int) := by have := Hat.out; omega
              have hk2 : (k : Int) < 5000 := by omega
              have hk3 : (0 : Int) ≤ (k : Int) := by omega
              obtain ⟨kb, hkb⟩ : ∃ kb : Nat, kb = k / 8 := ⟨_, rfl⟩
              obtain ⟨kr, hkr⟩ : ∃ kr : Nat, kr = k % 8 := ⟨_, rfl⟩
              have hd8 : (k : Int).tdiv 8 = (kb : Int) := by rw [Int.tdiv_eq_ediv_of_nonneg hk3]; omega
              have hm8 : (k : Int).tmod 8 = (kr : Int) := by rw [Int.tmod_eq_emod_of_nonneg hk3]; omega
              have hr1 : (kr : Int) < 8 := by omega
              have hr2 : (0 : Int) ≤ (kr : Int) := by omega
              have hb2 : (0 : Int) ≤ (kb : Int) := by omega
              have Hk := Lib.hid hk
              have Hkb := Lib.hid hkb
              have Hkr := Lib.hid hkr
              clear hk hkb hkr
              by_cases hin : k < lim
              · have zin : (k : Int) < 32 := by have := Hlim.out; omega
                have hkN : kb < N := by have := Hlim.out; have := Hkb.out; omega
                have hb1 : (kb : Int) < (N : Int) := by omega
                have hcl := hCl.rb.cell kb (by omega)
                have hfr := hCl.frozen kb
                go_wp2_with fail
                · have hx1 := hE1b.getD kb (by omega)
                  have hxb : bits BinOp.xor IntKind.u8 (E1[kb]?.getD 0) (2 ^ kr % 256) = (((E1.getD (k / 8) 0).toNat ^^^ 2 ^ (k % 8) : Nat) : Int) := by
                    rw [← Hkb.out, ← Hkr.out, ← List.getD_eq_getElem?_getD]
                    have e1 : ((2 : Int) ^ kr % 256) = ((2 ^ kr : Nat) : Int) := by
                      have h2 : 2 ^ kr < 2 ^ 8 := Nat.pow_lt_pow_right (by decide) (show kr < 8 by omega)
                      have h3 : ((2 : Int) ^ kr) = ((2 ^ kr : Nat) : Int) := by simp
                      rw [h3]
                      obtain ⟨T, hT⟩ : ∃ T : Nat, T = 2 ^ kr := ⟨_, rfl⟩
                      rw [← hT] at h2 ⊢
                      omega
                    have h2 : 2 ^ kr < 2 ^ 8 := Nat.pow_lt_pow_right (by decide) (show kr < 8 by omega)
                    rw [e1, u8_xor _ _ (by omega) (by omega) (by exact Int.natCast_nonneg _) (by exact_mod_cast h2), Int.toNat_natCast]
                  rw [hxb]
                  have hst := hI.step p E1 ch hlt (by have := Hk.out; omega) hInv
                  rw [← Hk.out] at hst
                  have hC3 := hCl.set kb (((E1.getD (k / 8) 0).toNat ^^^ 2 ^ (k % 8) : Nat) : Int)
                  have hfl : flip E1 k = E1.set kb (((E1.getD (k / 8) 0).toNat ^^^ 2 ^ (k % 8) : Nat) : Int) := by unfold flip; rw [Hkb.out]
                  rw [← hfl] at hC3
                  have hB3 : Below W.heap.size W (wr.setCell ⟨g, kb, none⟩ (.int .u8 (((E1.getD (k / 8) 0).toNat ^^^ 2 ^ (k % 8) : Nat) : Int))) := hBr.setCell (by exact hCl.lt.1) _
                  go_roundw
                  case rel => exact ⟨p + 1, flip E1 k, true, by omega, by go_num, rfl, hst, hC3, hB3⟩
                  case measure => simp [intOf]; omega
                · go_roundw
                  case rel => exact ⟨p + 1, E1, ch, by omega, by go_num, rfl, hI.skip p E1 ch hInv, hCl, hBr⟩
                  case measure => simp [intOf]; omega
              · have zin : ¬ (k : Int) < 32 := by have := Hlim.out; omega
                go_wp2_with fail
                all_goals
                  go_roundw
                  case rel => exact ⟨p + 1, E1, ch, by omega, by go_num, rfl, hI.skip p E1 ch hInv, hCl, hBr⟩
                  case measure => simp [intOf]; omega
            · obtain rfl : p = 32 := by omega
              have hfin := hI.fin 32 E1 ch hInv
              have hD : ∃ (kind' sq' : Int) (key' val' : ByteArray) (N' : Int), ∀ w, RB w (some ⟨g, 0, none⟩) E1 → Calls Try.prog 20 #[.slice (some ⟨g, 0, none⟩) N N] w fun e w' => e = .returned (.tuple #[.agg #[.int .i64 kind', .int .i64 sq', .string key', .string val'], .int .i64 N', .int .i64 (decF E1).2.2]) ∧ Below w.heap.size w w' :=
                ⟨(decF E1).1.kind, (decF E1).1.seq, (decF E1).1.key, (decF E1).1.val, (decF E1).2.1, fun w h => decode_any _ _ _ _ w h hE1l hE1b (Nat.le_refl _) (by unfold maxLen; omega)⟩
              obtain ⟨kind', sq', key', val', N', hD⟩ := hD
              obtain ⟨Er, hEr⟩ : ∃ Er, Er = (decF E1).2.2 := ⟨_, rfl⟩
              rw [← hEr] at hD hfin
              have hR := hCl.rb
              clear hEr hI hInv hlt hp hE1b
              clear Hlim Hat HNe
              cases ch with
              | false =>
                have hE0 : Er = 0 := hfin.1 rfl
                subst hE0
                clear hfin
                go_wp2_with fail
                refine (hD _ hR).mono ?_
                rintro e w4 ⟨rfl, hb4⟩
                have bel4 := b_then hBr hb4
                have hS4 := Blk.new w4 23 #[.int .i64 kind', .int .i64 sq', .string key', .string val']
                have cS := hS4.cell
                have bel5 := b_alloc bel4 (.cells #[.int .i64 kind', .int .i64 sq', .string key', .string val'] 23)
                clear hD hR hCl hBr hb4 bel4
                go_wp2_with fail
                refine (works_true _).mono ?_
                rintro e w9 ⟨rfl, hb9⟩
                go_wp2_with fail
                go_ret
                exact ⟨rfl, b_then bel5 hb9⟩
              | true =>
                have hE0 : (Er == 0) = false := by rw [beq_eq_false_iff_ne]; exact hfin.2 rfl
                clear hfin
                go_wp2_with fail
                refine (hD _ hR).mono ?_
                rintro e w4 ⟨rfl, hb4⟩
                have bel4 := b_then hBr hb4
                have hS4 := Blk.new w4 23 #[.int .i64 kind', .int .i64 sq', .string key', .string val']
                have cS := hS4.cell
                have bel5 := b_alloc bel4 (.cells #[.int .i64 kind', .int .i64 sq', .string key', .string val'] 23)
                clear hD hR hCl hBr hb4 bel4
                go_wp2_with fail
                refine (works_true _).mono ?_
                rintro e w9 ⟨rfl, hb9⟩
                go_wp2_with fail
                go_ret
                exact ⟨rfl, b_then bel5 hb9⟩
        · have hmod : (from_.tmod 5 == 0) = false := by rw [beq_eq_false_iff_ne]; exact hm
          clear hm
          have hrok := draftR_ok del seq K V s0
          have hrec := fun (w : World) (hb : Below W.heap.size W w) => rec_any del seq a1 n1 c1 K a2 n2 c2 V w s0 s1 (hK.later hb) (hV.later hb)
          obtain ⟨r, hr⟩ : ∃ r, r = draftR del seq K V := ⟨_, rfl⟩
          rw [← hr] at hrok hrec
          clear hr
          have hEl := encF_length r
          have hle := hrok.le
          obtain ⟨N, hNe⟩ : ∃ N, N = r.size := ⟨_, rfl⟩
          have hen := ren_yes r hrok
          have hN17 : 17 ≤ N := by rw [hNe]; have := hrok.2.2.2.2.1; unfold Rc.size; omega
          have hhi := fun at_ => chg_hi (at_ := at_) (lim := 8 * r.size) hrok
          have hlo := fun at_ => chg_lo (at_ := at_) hrok
          obtain ⟨E, hEe⟩ : ∃ E, E = encF r := ⟨_, rfl⟩
          rw [← hNe] at hEl hen hle hhi
          rw [← hEe] at hEl hen
          have hb0 := bb.1
          have hb1 := bb.2
          have hf0 := bf.1
          have hf1 := bf.2
          clear bb bf
          -- where the bits begin, and where they end
          obtain ⟨q, hq⟩ : ∃ q : Nat, from_ / 5 = (q : Int) := ⟨(from_ / 5).toNat, by omega⟩
          obtain ⟨m, hm2⟩ : ∃ m : Nat, m = q % (8 * N - 64) := ⟨_, rfl⟩
          have hm3 : m < 8 * N - 64 := by rw [hm2]; exact Nat.mod_lt _ (by omega)
          obtain ⟨at_, hat⟩ : ∃ at_ : Nat, at_ = 64 + m := ⟨_, rfl⟩
          have hInv : ∃ Inv, Flips Inv r at_ (8 * N) := hhi at_ (by omega) rfl
          obtain ⟨Inv, hI⟩ := hInv
          have hI0 : Inv 0 E false := by rw [hEe]; exact hI.start
          have HNe := Lib.hid hNe
          clear hhi hlo hEe hNe
          obtain ⟨kind, sq, key, val⟩ := r
          have hrec : ∀ w : World, Below W.heap.size W w → Calls Try.prog 26 #[.agg #[.bool del, .int .u64 seq, .slice a1 n1 c1, .slice a2 n2 c2]] w fun e w' => e = .returned (.agg #[.int .i64 kind, .int .i64 sq, .string key, .string val]) ∧ Below w.heap.size w w' := hrec
          have hen : ∀ w : World, Calls Try.prog 15 #[.agg #[.int .i64 kind, .int .i64 sq, .string key, .string val]] w fun e w' => (∃ g, e = .returned (.tuple #[.slice (some ⟨g, 0, none⟩) N N, .int .i64 0]) ∧ Clip w' w.heap.size g E) ∧ Below w.heap.size w w' := hen
          have ht5 : from_.tdiv 5 = (q : Int) := by rw [Int.tdiv_eq_ediv_of_nonneg hf0]; exact hq
          have hw16 : IntKind.u16.wrap (q : Int) = (q : Int) := by rw [IntKind.wrap_u16]; omega
          have hq2 : q < 13108 := by omega
          have hq3 : (q : Int) < 13108 := by omega
          have hq4 : (0 : Int) ≤ (q : Int) := Int.natCast_nonneg q
          clear hq hf0 hf1 hV hK hrok
          have htm : (q : Int).tmod (8 * (N : Int) - 64) = (m : Int) := by
            rw [Int.tmod_eq_emod_of_nonneg (Int.natCast_nonneg q), hm2]
            have : (8 * (N : Int) - 64) = ((8 * N - 64 : Nat) : Int) := by omega
            rw [this]
            exact (Int.natCast_emod q _).symm
          clear hm2
          obtain ⟨lim, hlim⟩ : ∃ lim : Nat, lim = 8 * N := ⟨_, rfl⟩
          rw [← hlim] at hI
          have hmi : (m : Int) < 4416 := by omega
          have hm0 : (0 : Int) ≤ (m : Int) := by omega
          have Hat := Lib.hid hat
          have Hlim := Lib.hid hlim
          clear hat hlim
          go_enter Try.func8, Try.ntmps8
          go_wp2_with fail
          refine (hrec _ (b_alloc (Below.refl _ _) _)).mono ?_
          rintro e w1 ⟨rfl, hb1⟩
          have hY1 : Below W.heap.size W w1 := b_then (by repeat first | exact Below.refl _ _ | apply Below.drew | apply b_alloc) hb1
          have bel1 := hY1
          clear hb1
          go_wp2_with fail
          refine (hen _).mono ?_
          rintro e w2 ⟨⟨g, rfl, hC⟩, hb2⟩
          have hY2 : Below w1.heap.size w1 w2 := b_then (by repeat first | exact Below.refl _ _ | apply Below.drew | apply b_alloc) hb2
          have bel2 := b_then bel1 hY2
          clear bel1 hb2 hY2
          clear hen hrec
          go_wp2_with fail
          have hC2 := hC.base (show W.heap.size ≤ _ from hY1.size)
          clear hC
          go_loopw [12, 13] (fun c i wr => ∃ (p : Nat) (E1 : List Int) (ch : Bool), p ≤ 32 ∧ i = .int .i64 p ∧ c = .bool ch ∧ Inv p E1 ch ∧ Clip wr W.heap.size g E1 ∧ Below W.heap.size W wr) (fun _ i _ => 32 - (intOf i).toNat)
          case atStart => exact ⟨0, E, false, by omega, rfl, rfl, hI0, hC2, bel2⟩
          case round =>
            obtain ⟨p, E1, ch, hp, rfl, rfl, hInv, hCl, hBr⟩ := hrel
            clear hC2 bel2 hI0
            obtain ⟨hE1l, hE1b⟩ := hI.len p E1 ch hInv
            have hE1l := hE1l.trans HNe.out.symm
            by_cases hlt : p < 32
            · have z1 : (p : Int) < 32 := by omega
              have z2 : (0 : Int) ≤ (p : Int) := by omega
              obtain ⟨k, hk⟩ : ∃ k : Nat, k = at_ + p := ⟨_, rfl⟩
              have hkI : (64 + (m : Int) + (p : Int)) = (k : Int) := by have := Hat.out; omega
              have hk2 : (k : Int) < 5000 := by omega
              have hk3 : (0 : Int) ≤ (k : Int) := by omega
              obtain ⟨kb, hkb⟩ : ∃ kb : Nat, kb = k / 8 := ⟨_, rfl⟩
              obtain ⟨kr, hkr⟩ : ∃ kr : Nat, kr = k % 8 := ⟨_, rfl⟩
              have hd8 : (k : Int).tdiv 8 = (kb : Int) := by rw [Int.tdiv_eq_ediv_of_nonneg hk3]; omega
              have hm8 : (k : Int).tmod 8 = (kr : Int) := by rw [Int.tmod_eq_emod_of_nonneg hk3]; omega
              have hr1 : (kr : Int) < 8 := by omega
              have hr2 : (0 : Int) ≤ (kr : Int) := by omega
              have hb2 : (0 : Int) ≤ (kb : Int) := by omega
              have Hk := Lib.hid hk
              have Hkb := Lib.hid hkb
              have Hkr := Lib.hid hkr
              clear hk hkb hkr
              by_cases hin : k < lim
              · have zin : (k : Int) < 64 + (8 * (N : Int) - 64) := by have := Hlim.out; omega
                have hkN : kb < N := by have := Hlim.out; have := Hkb.out; omega
                have hb1 : (kb : Int) < (N : Int) := by omega
                have hcl := hCl.rb.cell kb (by omega)
                have hfr := hCl.frozen kb
                go_wp2_with fail
                · have hx1 := hE1b.getD kb (by omega)
                  have hxb : bits BinOp.xor IntKind.u8 (E1[kb]?.getD 0) (2 ^ kr % 256) = (((E1.getD (k / 8) 0).toNat ^^^ 2 ^ (k % 8) : Nat) : Int) := by
                    rw [← Hkb.out, ← Hkr.out, ← List.getD_eq_getElem?_getD]
                    have e1 : ((2 : Int) ^ kr % 256) = ((2 ^ kr : Nat) : Int) := by
                      have h2 : 2 ^ kr < 2 ^ 8 := Nat.pow_lt_pow_right (by decide) (show kr < 8 by omega)
                      have h3 : ((2 : Int) ^ kr) = ((2 ^ kr : Nat) : Int) := by simp
                      rw [h3]
                      obtain ⟨T, hT⟩ : ∃ T : Nat, T = 2 ^ kr := ⟨_, rfl⟩
                      rw [← hT] at h2 ⊢
                      omega
                    have h2 : 2 ^ kr < 2 ^ 8 := Nat.pow_lt_pow_right (by decide) (show kr < 8 by omega)
                    rw [e1, u8_xor _ _ (by omega) (by omega) (by exact Int.natCast_nonneg _) (by exact_mod_cast h2), Int.toNat_natCast]
                  rw [hxb]
                  have hst := hI.step p E1 ch hlt (by have := Hk.out; omega) hInv
                  rw [← Hk.out] at hst
                  have hC3 := hCl.set kb (((E1.getD (k / 8) 0).toNat ^^^ 2 ^ (k % 8) : Nat) : Int)
                  have hfl : flip E1 k = E1.set kb (((E1.getD (k / 8) 0).toNat ^^^ 2 ^ (k % 8) : Nat) : Int) := by unfold flip; rw [Hkb.out]
                  rw [← hfl] at hC3
                  have hB3 : Below W.heap.size W (wr.setCell ⟨g, kb, none⟩ (.int .u8 (((E1.getD (k / 8) 0).toNat ^^^ 2 ^ (k % 8) : Nat) : Int))) := hBr.setCell (by exact hCl.lt.1) _
                  go_roundw
                  case rel => exact ⟨p + 1, flip E1 k, true, by omega, by go_num, rfl, hst, hC3, hB3⟩
                  case measure => simp [intOf]; omega
                · go_roundw
                  case rel => exact ⟨p + 1, E1, ch, by omega, by go_num, rfl, hI.skip p E1 ch hInv, hCl, hBr⟩
                  case measure => simp [intOf]; omega
              · have zin : ¬ (k : Int) < 64 + (8 * (N : Int) - 64) := by have := Hlim.out; omega
                go_wp2_with fail
                all_goals
                  go_roundw
                  case rel => exact ⟨p + 1, E1, ch, by omega, by go_num, rfl, hI.skip p E1 ch hInv, hCl, hBr⟩
                  case measure => simp [intOf]; omega
            · obtain rfl : p = 32 := by omega
              have hfin := hI.fin 32 E1 ch hInv
              have hD : ∃ (kind' sq' : Int) (key' val' : ByteArray) (N' : Int), ∀ w, RB w (some ⟨g, 0, none⟩) E1 → Calls Try.prog 20 #[.slice (some ⟨g, 0, none⟩) N N] w fun e w' => e = .returned (.tuple #[.agg #[.int .i64 kind', .int .i64 sq', .string key', .string val'], .int .i64 N', .int .i64 (decF E1).2.2]) ∧ Below w.heap.size w w' :=
                ⟨(decF E1).1.kind, (decF E1).1.seq, (decF E1).1.key, (decF E1).1.val, (decF E1).2.1, fun w h => decode_any _ _ _ _ w h hE1l hE1b (Nat.le_refl _) (by unfold maxLen; omega)⟩
              obtain ⟨kind', sq', key', val', N', hD⟩ := hD
              obtain ⟨Er, hEr⟩ : ∃ Er, Er = (decF E1).2.2 := ⟨_, rfl⟩
              rw [← hEr] at hD hfin
              have hR := hCl.rb
              clear hEr hI hInv hlt hp hE1b
              clear Hlim Hat HNe
              cases ch with
              | false =>
                have hE0 : Er = 0 := hfin.1 rfl
                subst hE0
                clear hfin
                go_wp2_with fail
                refine (hD _ hR).mono ?_
                rintro e w4 ⟨rfl, hb4⟩
                have bel4 := b_then hBr hb4
                have hS4 := Blk.new w4 23 #[.int .i64 kind', .int .i64 sq', .string key', .string val']
                have cS := hS4.cell
                have bel5 := b_alloc bel4 (.cells #[.int .i64 kind', .int .i64 sq', .string key', .string val'] 23)
                clear hD hR hCl hBr hb4 bel4
                go_wp2_with fail
                refine (works_true _).mono ?_
                rintro e w9 ⟨rfl, hb9⟩
                go_wp2_with fail
                go_ret
                exact ⟨rfl, b_then bel5 hb9⟩
              | true =>
                have hE0 : (Er == 0) = false := by rw [beq_eq_false_iff_ne]; exact hfin.2 rfl
                clear hfin
                go_wp2_with fail
                refine (hD _ hR).mono ?_
                rintro e w4 ⟨rfl, hb4⟩
                have bel4 := b_then hBr hb4
                have hS4 := Blk.new w4 23 #[.int .i64 kind', .int .i64 sq', .string key', .string val']
                have cS := hS4.cell
                have bel5 := b_alloc bel4 (.cells #[.int .i64 kind', .int .i64 sq', .string key', .string val'] 23)
                clear hD hR hCl hBr hb4 bel4
                go_wp2_with fail
                refine (works_true _).mono ?_
                rintro e w9 ⟨rfl, hb9⟩
                go_wp2_with fail
                go_ret
                exact ⟨rfl, b_then bel5 hb9⟩

set_option maxRecDepth 100000 in
theorem lifted (os : Os) (started : os.Started) (H : Type) (enc : TypeId × Value → H) :
    ReturnsInHanded {} Try.checked os 8 .any (Rows.recordChangesSpec.pre6 enc Try.prog Try.f8 Rows.recordChangesRow.domain false) (Rows.recordChangesSpec.post enc Try.prog Try.f8 false true false false) := by
  refine returnsInHanded_of_change (C := Try.checked) own started (by kernel_rfl) Try.func8
    (ChangeSpec.witness6 (enc := enc) (C := Try.checked) false ⟨#[], #[.agg #[.bool false, .int .u64 0, .slice none 0 0, .slice none 0 0], .int .u32 0, .int .u16 0], []⟩ 8 (by kernel_rfl) (by kernel_rfl) (by kernel_rfl) (by kernel_rfl)) ?_
  intro W base args ds gs before hval0 hW hcnd _
  have hval : ∀ (j : Nat) t v, Try.f8.params[j]? = some t → args[j]? = some v → Value.okWide Try.prog W .any base t v := hval0
  have hW' := hW
  obtain ⟨p, q, hA0, hV, rfl, hfz, hnd⟩ := hW
  have hA : DataW.TrodAll enc Try.prog W 0 (fun _ => true) true Try.f8.params.toList args.toList ds p := hA0
  rw [Try.params8] at hA hval
  obtain ⟨v0, vs0, d0, ds0, p0, q0, hargs, rfl, rfl, h0, r0⟩ := trodAll_cons hA
  obtain ⟨v1, vs1, d1, ds1, p1, q1, rfl, rfl, rfl, h1, r1⟩ := trodAll_cons r0
  obtain ⟨v2, vs2, d2, ds2, p2, q2, rfl, rfl, rfl, h2, r2⟩ := trodAll_cons r1
  obtain ⟨rfl, rfl, rfl⟩ := trodAll_nil r2
  obtain rfl : args = #[v0, v1, v2] := by cases args; simp_all
  obtain ⟨rfl, rfl⟩ := trodVars_none hV
  refine (walk (H := H) (enc := enc) W base (hval 0 45 v0 rfl rfl) h0 (hval 1 49 v1 rfl rfl) h1 (hval 2 50 v2 rfl rfl) h2).mono fun e W' ⟨he, bel⟩ => ?_
  subst he
  exact ⟨_, rfl, _, _, _, [], _, [], hW', trodAll_mk1 (shut_bool Try.underlying4 _), (trodAll_cons_mk (Below.trod laidOut (by kernel_rfl) (of_decide_eq_true (by kernel_rfl)) h0 bel (lt_of_Trod h0)) (trodAll_cons_mk (Below.trod laidOut (by kernel_rfl) (of_decide_eq_true (by kernel_rfl)) h1 bel (lt_of_Trod h1)) (trodAll_cons_mk (Below.trod laidOut (by kernel_rfl) (of_decide_eq_true (by kernel_rfl)) h2 bel (lt_of_Trod h2)) trodAll_mk0))), rfl, bel.frame _, fun h => by cases h⟩

/-- RecordChanges: for every draft and every two numbers the law returns true and changes nothing. No condition. -/
theorem proved : Rows.RecordChangesSaid :=
  OpenClaim.holds_of_wide 8 Try.f8 rfl rfl rfl rfl rfl rfl rfl ⟨rfl, rfl, rfl, rfl, rfl⟩ rfl rfl rfl rfl rfl (by kernel_rfl) Try.func8 (by kernel_rfl)
    (of_decide_eq_true (by kernel_rfl)) (by unfold Func.isWrapper; first | (rw [if_pos (by decide +kernel)]; kernel_rfl) | (rw [if_neg (by decide +kernel)]; exact ⟨rfl, rfl⟩))
    (fun os started H enc _ => lifted os started H enc)
#print axioms proved
end Go.Proofs.Ytookgehccmcgcaa.recordChanges
