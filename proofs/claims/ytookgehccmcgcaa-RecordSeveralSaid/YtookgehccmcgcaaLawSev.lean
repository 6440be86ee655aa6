/-
  RecordSeveral: for every slice of drafts the law returns true and changes nothing. No condition.
-/
import Derived.Test.YtookgehccmcgcaaOpen
import Derived.Test.YtookgehccmcgcaaWks
import Derived.Test.YtookgehccmcgcaaArg
import Derived.Test.YtookgehccmcgcaaLem
import Derived.Test.YtookgehccmcgcaaDfs
namespace Go.Proofs.Ytookgehccmcgcaa.recordSeveral
open Go.ChangeShapes Go.WideShapes Go.ChangeAt Go.RowKit
open Go.ChangeMaps (open_string shut_string)
set_option linter.unusedVariables false

theorem RB.none0 (w : World) : RB w none [] := .inl ⟨rfl, rfl⟩
def KS (W : World) (t g g0 off q : Nat) (kind sq : Int) (key val : ByteArray) (T : List Int) (del : Bool) (seq : Int) (a1 : Option Addr) (n1 c1 : Nat) (K : List Int) (a2 : Option Addr) (n2 c2 : Nat) (V : List Int) (w' : World) : Prop := Below W.heap.size W w' ∧ Blk w' t 23 (#[.int .i64 kind, .int .i64 sq, .string key, .string val]) ∧ RB w' (some ⟨g, 0, none⟩) T ∧ g0 < w'.heap.size ∧ BS w' a1 n1 c1 K ∧ BS w' a2 n2 c2 V
abbrev SS (W : World) (t g g0 off q : Nat) (kind sq : Int) (key val : ByteArray) (T : List Int) (del : Bool) (seq : Int) (a1 : Option Addr) (n1 c1 : Nat) (K : List Int) (a2 : Option Addr) (n2 c2 : Nat) (V : List Int) (w' : World) : Prop := w'.cell? ⟨t, 0, none⟩ = some (.int .i64 kind) ∧ w'.cell? ⟨t, 1, none⟩ = some (.int .i64 sq) ∧ w'.cell? ⟨t, 2, none⟩ = some (.string key) ∧ w'.cell? ⟨t, 3, none⟩ = some (.string val) ∧ w'.cell? ⟨g0, off + q * 4, none⟩ = some (.bool del) ∧ w'.cell? ⟨g0, off + q * 4 + 1, none⟩ = some (.int .u64 seq) ∧ w'.cell? ⟨g0, off + q * 4 + 2, none⟩ = some (.slice a1 n1 c1) ∧ w'.cell? ⟨g0, off + q * 4 + 3, none⟩ = some (.slice a2 n2 c2) ∧ KS W t g g0 off q kind sq key val T del seq a1 n1 c1 K a2 n2 c2 V w'
theorem SS.mk {W : World} {t g g0 off q : Nat} {kind sq : Int} {key val : ByteArray} {T : List Int} {del : Bool} {seq : Int} {a1 : Option Addr} {n1 c1 : Nat} {K : List Int} {a2 : Option Addr} {n2 c2 : Nat} {V : List Int} {w' : World} (h : KS W t g g0 off q kind sq key val T del seq a1 n1 c1 K a2 n2 c2 V w') (hd : w'.cell? ⟨g0, off + q * 4, none⟩ = some (.bool del) ∧ w'.cell? ⟨g0, off + q * 4 + 1, none⟩ = some (.int .u64 seq) ∧ w'.cell? ⟨g0, off + q * 4 + 2, none⟩ = some (.slice a1 n1 c1) ∧ w'.cell? ⟨g0, off + q * 4 + 3, none⟩ = some (.slice a2 n2 c2)) : SS W t g g0 off q kind sq key val T del seq a1 n1 c1 K a2 n2 c2 V w' :=
  ⟨h.2.1.cell 0, h.2.1.cell 1, h.2.1.cell 2, h.2.1.cell 3, hd.1, hd.2.1, hd.2.2.1, hd.2.2.2, h⟩
theorem SS.after {W : World} {t g g0 off q : Nat} {kind sq : Int} {key val : ByteArray} {T : List Int} {del : Bool} {seq : Int} {a1 : Option Addr} {n1 c1 : Nat} {K : List Int} {a2 : Option Addr} {n2 c2 : Nat} {V : List Int} {w w' : World} (h : SS W t g g0 off q kind sq key val T del seq a1 n1 c1 K a2 n2 c2 V w) (hb : Below w.heap.size w w') : SS W t g g0 off q kind sq key val T del seq a1 n1 c1 K a2 n2 c2 V w' := by
  obtain ⟨_, _, _, _, d0, d1, d2, d3, h1, h2, h3, h4, h5, h6⟩ := h
  exact SS.mk ⟨b_then h1 hb, h2.below hb h2.lt, h3.later hb, Nat.lt_of_lt_of_le h4 hb.size, h5.later hb, h6.later hb⟩ ⟨(hb.cell (p := ⟨g0, off + q * 4, none⟩) h4).trans d0, (hb.cell (p := ⟨g0, off + q * 4 + 1, none⟩) h4).trans d1, (hb.cell (p := ⟨g0, off + q * 4 + 2, none⟩) h4).trans d2, (hb.cell (p := ⟨g0, off + q * 4 + 3, none⟩) h4).trans d3⟩

set_option maxHeartbeats 6400000 in
set_option maxRecDepth 100000 in
theorem walk {H : Type} {enc : TypeId × Value → H} (W : World) (base : Nat) {v0 : Value} {d0 : DataW H} {p0 : List MemPlace} (o0 : Value.okWide Try.prog W .any base 53 v0) (h0 : DataW.Trod enc Try.prog W 0 (fun _ => true) true 53 v0 d0 p0) :
    Calls Try.prog 9 #[v0] W fun e W' => e = .returned (.bool true) ∧ Below W.heap.size W W' := by
  obtain ⟨a, len, cap, Ds, rfl, hlc, hcm, hDs, hcell⟩ := open_drafts o0 h0
  clear o0 h0
  unfold maxLen at hcm
  by_cases g1 : 12 < len
  · have g1' : (12 : Int) < (len : Int) := by omega
    clear hDs hcell
    go_enter Try.func9, Try.ntmps9
    go_wp2_with fail
    refine (works_true _).mono ?_
    rintro e w9 ⟨rfl, hb9⟩
    go_wp2_with fail
    go_ret
    exact ⟨rfl, hb9⟩
  · have g1' : (len : Int) ≤ 12 := by omega
    obtain ⟨i0, hi0, hz0, hz1, hz2⟩ := info_parts byte_info
    go_enter Try.func9, Try.ntmps9
    go_wp2_with fail
    go_loopw [3, 4] (fun b i wr => ∃ (q : Nat) (bv : Value), q ≤ len ∧ i = .int .i64 q ∧ bv = b ∧ (q = 0 → bv = .slice none 0 0) ∧ IsB wr W.heap.size bv (encs Ds q) ∧ Below W.heap.size W wr) (fun _ i _ => len - (intOf i).toNat)
    case atStart => exact ⟨0, _, Nat.zero_le _, rfl, rfl, fun _ => rfl, IsB.nil _ _, Below.refl _ _⟩
    case round =>
      obtain ⟨q, bv, hq, rfl, rfl, hq0, hI, hB⟩ := hrel
      by_cases hlt : q < len
      · have z1 : (q : Int) < (len : Int) := by omega
        have z2 : (0 : Int) ≤ (q : Int) := by omega
        have HD := Lib.hid hDs
        obtain ⟨g0, off, rfl, hgl, hc⟩ := hcell (by omega)
        obtain ⟨d, hd⟩ : ∃ d, d = Ds q := ⟨_, rfl⟩
        have hIn : d.In wr := by
          have h := hDs q hlt
          rw [← hd] at h
          exact ⟨h.1, h.2.1, h.2.2.1.later hB, h.2.2.2.later hB⟩
        have hEn : encs Ds (q + 1) = encs Ds q ++ encF d.r := by rw [hd]; rfl
        have hc' : ∀ (j : Nat) (u : Value), d.v[j]? = some u → wr.cell? ⟨g0, off + (q * 4 + j), none⟩ = some u := by
          intro j u h
          rw [hd] at h
          exact (hB.cell (p := ⟨g0, off + (q * 4 + j), none⟩) hgl).trans (hc q hlt j u h)
        clear hDs
        clear hd
        obtain ⟨del, seq, a1, n1, c1, K, a2, n2, c2, V⟩ := d
        have k0 : wr.cell? ⟨g0, off + q * 4, none⟩ = some (.bool del) := hc' 0 _ rfl
        have k1 : wr.cell? ⟨g0, off + q * 4 + 1, none⟩ = some (.int .u64 seq) := by rw [Nat.add_assoc]; exact hc' 1 _ rfl
        have k2 : wr.cell? ⟨g0, off + q * 4 + 2, none⟩ = some (.slice a1 n1 c1) := by rw [Nat.add_assoc]; exact hc' 2 _ rfl
        have k3 : wr.cell? ⟨g0, off + q * 4 + 3, none⟩ = some (.slice a2 n2 c2) := by rw [Nat.add_assoc]; exact hc' 3 _ rfl
        clear hc'
        obtain ⟨s0, s1, hK, hV⟩ := hIn
        have hK : BS wr a1 n1 c1 K := hK
        have hV : BS wr a2 n2 c2 V := hV
        have hn1 : n1 ≤ 9223372036854775807 := by have := hK.2.2.2; unfold maxLen at this; omega
        have hn2 : n2 ≤ 9223372036854775807 := by have := hV.2.2.2; unfold maxLen at this; omega
        have s0 : 0 ≤ seq := s0
        have s1 : seq ≤ 18446744073709551615 := s1
        by_cases gV : 100 < n2
        · have gV' : (100 : Int) < (n2 : Int) := by omega
          clear hI hEn hK hV hc
          go_wp2_with fail
          refine (works_true _).mono ?_
          rintro e w9 ⟨rfl, hb9⟩
          go_wp2_with fail
          go_ret
          exact ⟨rfl, b_then hB hb9⟩
        · have gV' : (n2 : Int) ≤ 100 := by omega
          by_cases gK : 100 < n1
          · have gK' : (100 : Int) < (n1 : Int) := by omega
            clear hI hEn hK hV hc
            go_wp2_with fail
            refine (works_true _).mono ?_
            rintro e w9 ⟨rfl, hb9⟩
            go_wp2_with fail
            go_ret
            exact ⟨rfl, b_then hB hb9⟩
          · have gK' : (n1 : Int) ≤ 100 := by omega
            have hrok : (draftR del seq K V).Ok := draftR_ok del seq K V s0
            have hrec := fun (w : World) (hb : Below wr.heap.size wr w) => rec_any del seq a1 n1 c1 K a2 n2 c2 V w s0 s1 (BS.later hK hb) (BS.later hV hb)
            have hEn : encs Ds (q + 1) = encs Ds q ++ encF (draftR del seq K V) := hEn
            obtain ⟨r, hr⟩ : ∃ r, r = draftR del seq K V := ⟨_, rfl⟩
            rw [← hr] at hrok hrec hEn
            clear hr hK hV
            have hEl := encF_length r
            obtain ⟨N, hNe⟩ : ∃ N, N = r.size := ⟨_, rfl⟩
            obtain ⟨E, hEe⟩ : ∃ E, E = encF r := ⟨_, rfl⟩
            have hN1 : 17 ≤ N := by rw [hNe]; have := hrok.2.2.2.2.1; unfold Rc.size; omega
            have hN2 : N ≤ 560 := by rw [hNe]; have := hrok.2.2.2.2.2; unfold Rc.size; omega
            have hen := ren_yes r hrok
            rw [← hNe] at hEl hen
            rw [← hEe] at hEl hen hEn
            clear hNe hEe hrok
            obtain ⟨kind, sq, key, val⟩ := r
            have hrec : ∀ w : World, Below wr.heap.size wr w → Calls Try.prog 26 #[.agg #[.bool del, .int .u64 seq, .slice a1 n1 c1, .slice a2 n2 c2]] w fun e w' => e = .returned (.agg #[.int .i64 kind, .int .i64 sq, .string key, .string val]) ∧ Below w.heap.size w w' := hrec
            have hen : ∀ w : World, Calls Try.prog 15 #[.agg #[.int .i64 kind, .int .i64 sq, .string key, .string val]] w fun e w' => (∃ g, e = .returned (.tuple #[.slice (some ⟨g, 0, none⟩) N N, .int .i64 0]) ∧ Clip w' w.heap.size g E) ∧ Below w.heap.size w w' := hen
            clear hc
            go_wp2_with fail
            refine (hrec _ (Below.refl _ _)).mono ?_
            rintro e w1 ⟨rfl, hb1⟩
            go_wp2_with fail
            refine (hen _).mono ?_
            rintro e w2 ⟨⟨g, rfl, hC⟩, hb2⟩
            have hb12 := b_then hb1 hb2
            have hI2 := hI.later hb12
            have hB2 := b_then hB hb12
            have hgg := hC.lt.2
            have hrd : Reads w2 w2.heap.size 1 (some ⟨g, 0, none⟩) N (E.map (Value.int .u8)) := by
              have h := Reads.of_rb hC.rb hgg
              rwa [hEl] at h
            obtain ⟨L, hL⟩ : ∃ L, L = (encs Ds q).length := ⟨_, rfl⟩
            have hLn := encs_len HD.out q (by omega)
            rw [← hL] at hLn
            have o2 : w2.ownsRow W.heap.size 5 1 bv L ((encs Ds q).map (Value.int .u8)) := by rw [hL]; exact hI2
            have k4 : ∀ u ∈ E.map (Value.int .u8), u.oneCell' = true := bytes_one
            have k5 : L + N ≤ maxLen := by unfold maxLen; omega
            have k6 : (L + N) * 1 ≤ 140737488355328 := by omega
            have k7 : W.heap.size ≤ w2.heap.size := hB2.size
            have HL := Lib.hid hL
            have HEn := Lib.hid hEn
            clear hrec hen hI hI2 hL hEn k0 k1 k2 k3 hb1 hb2 hb12 hC hB
            go_wp2_with (first
              | (at_builtin; refine wpList_append_any _ rfl (.tmp 53) (.tmp 54) _ rfl W.heap.size 5 i0 _ 1 1 Try.underlying29 hi0 hz0 hz1 hz2 rfl (by omega) _ L _ rfl o2 w2.heap.size _ N N (E.map (Value.int .u8)) rfl hrd k4 k5 k6 k7 ?_; intro v5 w5 o5 hg5 hat5))
            have hB5 := hB2.grown hg5 hB2.size (fun k hk => (World.ownsRow.lt o2 k hk).1)
            have o6 : IsB w5 W.heap.size v5 (encs Ds (q + 1)) := by
              unfold IsB
              rw [HEn.out, List.length_append, List.map_append, hEl, ← HL.out]
              exact o5
            go_roundw
            case rel => exact ⟨q + 1, _, by omega, by go_num, rfl, fun h => absurd h (by omega), o6, hB5⟩
            case measure => simp [intOf]; omega
      · obtain rfl : len = q := by omega
        rcases Nat.eq_zero_or_pos len with h0 | hp
        · subst h0
          obtain rfl := hq0 rfl
          have hDn : ∀ (A : Option Addr) (cp : Nat) (w : World), RB w A [] → cp ≤ maxLen → Calls Try.prog 20 #[.slice A 0 cp] w fun e w' => e = .returned (.tuple #[.agg #[.int .i64 0, .int .i64 0, .string ⟨#[]⟩, .string ⟨#[]⟩], .int .i64 0, .int .i64 14]) ∧ Below w.heap.size w w' := by
            intro A cp w h hc
            have d := decode_any A 0 cp [] w h rfl (fun x hx => by simp at hx) (Nat.zero_le _) hc
            rw [decF_nil] at d
            exact d
          clear hI hq0 hDs hcell hlt hq
          go_wp2_with fail
          go_loopw [7, 8] (fun av i wr => i = .int .i64 0 ∧ av = .int .i64 0 ∧ Below W.heap.size W wr) (fun _ _ _ => 0)
          case atStart => exact ⟨rfl, rfl, hB⟩
          case round =>
            clear hB
            obtain ⟨rfl, rfl, hB⟩ := hrel
            go_wp2_with fail
            (with_reducible refine (hDn _ _ _ (RB.none0 _) (by unfold maxLen; omega)).mono ?_)
            rintro e w1 ⟨rfl, hb1⟩
            have hS1 := Blk.new w1 23 #[.int .i64 0, .int .i64 0, .string ⟨#[]⟩, .string ⟨#[]⟩]
            have cS := hS1.cell
            have bel1 := b_alloc (b_then hB hb1) (.cells #[.int .i64 0, .int .i64 0, .string ⟨#[]⟩, .string ⟨#[]⟩] 23)
            clear hB hb1 hDn
            go_wp2_with fail
            refine (works_true _).mono ?_
            rintro e w9 ⟨rfl, hb9⟩
            go_wp2_with fail
            go_ret
            exact ⟨rfl, b_then bel1 hb9⟩
        · obtain ⟨T, hT⟩ : ∃ T, T = encs Ds len := ⟨_, rfl⟩
          rw [← hT] at hI
          have hTl := encs_len hDs len (Nat.le_refl _)
          have hTm := encs_min hDs len (Nat.le_refl _)
          rw [← hT] at hTl hTm
          obtain ⟨L, hL⟩ : ∃ L, L = T.length := ⟨_, rfl⟩
          obtain ⟨g, c, rfl, _, _, hle, hcx⟩ := hI.head (by omega)
          have hR0 := hI.rb
          have HTl := Lib.hid hL
          have HTe := Lib.hid hT
          rw [← hL] at hle hTl hTm ⊢
          unfold maxLen at hcx
          clear hI hq0 hL hT hlt hq
          go_wp2_with fail
          go_loopw [7, 8] (fun av i wr => ∃ q : Nat, q ≤ len ∧ i = .int .i64 q ∧ av = .int .i64 ((encs Ds q).length : Nat) ∧ RB wr (some ⟨g, 0, none⟩) T ∧ Below W.heap.size W wr) (fun _ i _ => len - (intOf i).toNat)
          case atStart => exact ⟨0, Nat.zero_le _, rfl, rfl, hR0, hB⟩
          case round =>
            clear hR0 hB
            obtain ⟨q, hq, rfl, hav, hR, hB⟩ := hrel
            obtain ⟨at_, hat⟩ : ∃ k, k = (encs Ds q).length := ⟨_, rfl⟩
            rw [← hat] at hav
            subst hav
            by_cases hlt : q < len
            · have z1 : (q : Int) < (len : Int) := by omega
              have z2 : (0 : Int) ≤ (q : Int) := by omega
              obtain ⟨g0, off, rfl, hgl, hc⟩ := hcell (by omega)
              obtain ⟨d, hd⟩ : ∃ d, d = Ds q := ⟨_, rfl⟩
              have hIn : d.In wr := by
                have h := hDs q hlt
                rw [← hd] at h
                exact ⟨h.1, h.2.1, h.2.2.1.later hB, h.2.2.2.later hB⟩
              have hEn : encs Ds (q + 1) = encs Ds q ++ encF d.r := by rw [hd]; rfl
              have hc' : ∀ (j : Nat) (u : Value), d.v[j]? = some u → wr.cell? ⟨g0, off + (q * 4 + j), none⟩ = some u := by
                intro j u h
                rw [hd] at h
                exact (hB.cell (p := ⟨g0, off + (q * 4 + j), none⟩) hgl).trans (hc q hlt j u h)
              obtain ⟨X, hX, hX2⟩ := encs_split Ds len q (by omega)
              obtain ⟨X', hX'⟩ := hX2 hlt
              rw [← hd] at hX'
              clear hDs hX2
              clear hd
              obtain ⟨del, seq, a1, n1, c1, K, a2, n2, c2, V⟩ := d
              have k0 : wr.cell? ⟨g0, off + q * 4, none⟩ = some (.bool del) := hc' 0 _ rfl
              have k1 : wr.cell? ⟨g0, off + q * 4 + 1, none⟩ = some (.int .u64 seq) := by rw [Nat.add_assoc]; exact hc' 1 _ rfl
              have k2 : wr.cell? ⟨g0, off + q * 4 + 2, none⟩ = some (.slice a1 n1 c1) := by rw [Nat.add_assoc]; exact hc' 2 _ rfl
              have k3 : wr.cell? ⟨g0, off + q * 4 + 3, none⟩ = some (.slice a2 n2 c2) := by rw [Nat.add_assoc]; exact hc' 3 _ rfl
              clear hc'
              obtain ⟨s0, s1, hK, hV⟩ := hIn
              have hK : BS wr a1 n1 c1 K := hK
              have hV : BS wr a2 n2 c2 V := hV
              have hn1 : n1 ≤ 9223372036854775807 := by have := hK.2.2.2; unfold maxLen at this; omega
              have hn2 : n2 ≤ 9223372036854775807 := by have := hV.2.2.2; unfold maxLen at this; omega
              have s0 : 0 ≤ seq := s0
              have s1 : seq ≤ 18446744073709551615 := s1
              have hrok : (draftR del seq K V).Ok := draftR_ok del seq K V s0
              have hrec0 := fun (w : World) (hK : BS w a1 n1 c1 K) (hV : BS w a2 n2 c2 V) => rec_any del seq a1 n1 c1 K a2 n2 c2 V w s0 s1 hK hV
              have hEn : encs Ds (q + 1) = encs Ds q ++ encF (draftR del seq K V) := hEn
              have hX' : X = encF (draftR del seq K V) ++ X' := hX'
              obtain ⟨r, hr⟩ : ∃ r, r = draftR del seq K V := ⟨_, rfl⟩
              rw [← hr] at hrok hrec0 hEn hX'
              clear hr
              have hEl := encF_length r
              obtain ⟨N, hNe⟩ : ∃ N, N = r.size := ⟨_, rfl⟩
              have hN1 : 17 ≤ N := by rw [hNe]; have := hrok.2.2.2.2.1; unfold Rc.size; omega
              have hN2 : N ≤ 560 := by rw [hNe]; have := hrok.2.2.2.2.2; unfold Rc.size; omega
              have hTX : T = encs Ds q ++ X := HTe.out.trans hX
              have hXl : L = at_ + X.length := by rw [HTl.out, hTX, List.length_append, hat]
              have hXN : X.length = N + X'.length := by rw [hX', List.length_append, hEl, hNe]
              have hdec := decF_enc hrok X'
              rw [← hX', ← hNe] at hdec
              have hXB : BB X := by
                intro x hx
                exact encs_bb Ds len x (by rw [hX]; exact List.mem_append_right _ hx)
              have hD : ∀ w : World, RB w (some ⟨g, 0, none⟩) T → Calls Try.prog 20 #[.slice (some ⟨g, at_, none⟩) (L - at_) (c - at_)] w fun e w' => e = .returned (.tuple #[r.v, .int .i64 (N : Nat), .int .i64 0]) ∧ Below w.heap.size w w' := by
                intro w h
                have h2 := h.zero4 at_ (by rw [← HTl.out]; omega)
                rw [show T.drop at_ = X by rw [hTX, hat, List.drop_left]] at h2
                have d := decode_any (some ⟨g, at_, none⟩) (L - at_) (c - at_) X w h2 (by omega) hXB (by omega) (by unfold maxLen; omega)
                rw [hdec] at d
                exact d
              have hNx : (encs Ds (q + 1)).length = at_ + N := by rw [hEn, List.length_append, hEl, ← hat, hNe]
              obtain ⟨m, hm⟩ : ∃ m, m = X.length := ⟨_, rfl⟩
              rw [← hm] at hXl hXN
              have y1 : N ≤ m := by omega
              clear hEn hX hX' hTX hXN hdec hXB hEl hNe hrok hm hat
              obtain ⟨kind, sq, key, val⟩ := r
              have hD : ∀ w : World, RB w (some ⟨g, 0, none⟩) T → Calls Try.prog 20 #[.slice (some ⟨g, at_, none⟩) (L - at_) (c - at_)] w fun e w' => e = .returned (.tuple #[.agg #[.int .i64 kind, .int .i64 sq, .string key, .string val], .int .i64 (N : Nat), .int .i64 0]) ∧ Below w.heap.size w w' := hD
              have hrec : ∀ (t : Nat) (w : World), SS W t g g0 off q kind sq key val T del seq a1 n1 c1 K a2 n2 c2 V w → Calls Try.prog 26 #[.agg #[.bool del, .int .u64 seq, .slice a1 n1 c1, .slice a2 n2 c2]] w fun e w' => e = .returned (.agg #[.int .i64 kind, .int .i64 sq, .string key, .string val]) ∧ Below w.heap.size w w' := fun t w h => hrec0 w h.2.2.2.2.2.2.2.2.2.2.2.2.1 h.2.2.2.2.2.2.2.2.2.2.2.2.2
              clear hrec0
              have y2 : (at_ : Int) ≤ (L : Int) := by omega
              have y3 : (L : Int) ≤ (c : Int) := by omega
              have y4 : ¬ c = at_ := by omega
              have y5 : (N : Int) ≤ (L : Int) - (at_ : Int) := by omega
              have y6 : (0 : Int) ≤ (N : Int) := by omega
              have y7 : (0 : Int) ≤ (at_ : Int) := by omega
              have y8 : IntKind.i64.wrap ((L : Int) - (at_ : Int)) = (L : Int) - (at_ : Int) := by rw [IntKind.wrap_i64]; omega
              have y9 : IntKind.i64.wrap ((at_ : Int) + (N : Int)) = (at_ : Int) + (N : Int) := by rw [IntKind.wrap_i64]; omega
              clear hc
              have HXl := Lib.hid hXl
              have HNx := Lib.hid hNx
              clear hXl hNx
              go_wp2_with fail
              (with_reducible refine (hD _ hR).mono ?_)
              rintro e w1 ⟨rfl, hb1⟩
              have hT := Blk.new w1 23 #[.int .i64 kind, .int .i64 sq, .string key, .string val]
              have hbX : Below wr.heap.size wr (w1.alloc (.cells #[.int .i64 kind, .int .i64 sq, .string key, .string val] 23)) := b_alloc hb1 _
              have hKS : KS W w1.heap.size g g0 off q kind sq key val T del seq a1 n1 c1 K a2 n2 c2 V (w1.alloc (.cells #[.int .i64 kind, .int .i64 sq, .string key, .string val] 23)) := ⟨b_then hB hbX, hT, hR.later hbX, Nat.lt_of_lt_of_le hgl (b_then hB hbX).size, hK.later hbX, hV.later hbX⟩
              have hgr := Nat.lt_of_lt_of_le hgl hB.size
              have hS0 := (SS.mk hKS ⟨(hbX.cell (p := ⟨g0, off + q * 4, none⟩) hgr).trans k0, (hbX.cell (p := ⟨g0, off + q * 4 + 1, none⟩) hgr).trans k1, (hbX.cell (p := ⟨g0, off + q * 4 + 2, none⟩) hgr).trans k2, (hbX.cell (p := ⟨g0, off + q * 4 + 3, none⟩) hgr).trans k3⟩).after (Below.drew (Below.refl _ _))
              clear hT hbX hKS hgr k0 k1 k2 k3 hK hV hR hB hb1 hD
              go_wp2_with fail
              go_region_held3 (fun w' => w'.cell? ⟨w1.heap.size, 0, none⟩ = some (.int .i64 kind) ∧ w'.cell? ⟨w1.heap.size, 1, none⟩ = some (.int .i64 sq) ∧ w'.cell? ⟨w1.heap.size, 2, none⟩ = some (.string key) ∧ w'.cell? ⟨w1.heap.size, 3, none⟩ = some (.string val) ∧ w'.cell? ⟨g0, off + q * 4, none⟩ = some (.bool del) ∧ w'.cell? ⟨g0, off + q * 4 + 1, none⟩ = some (.int .u64 seq) ∧ w'.cell? ⟨g0, off + q * 4 + 2, none⟩ = some (.slice a1 n1 c1) ∧ w'.cell? ⟨g0, off + q * 4 + 3, none⟩ = some (.slice a2 n2 c2) ∧ KS W w1.heap.size g g0 off q kind sq key val T del seq a1 n1 c1 K a2 n2 c2 V w') (first | (with_reducible assumption) | (with_reducible exact hS0) | go_keep) (first
                | (go_at_call 26; (with_reducible refine (hrec _ _ (by assumption)).mono ?_); rintro e w' ⟨rfl, hbk⟩; have hSk := SS.after (by assumption) hbk))
              rename_i hEnd
              obtain ⟨_, _, _, _, _, _, _, _, hBe, _, hRe, _⟩ := hEnd
              clear hS0 hrec
              go_wp2_with fail
              go_roundw
              case rel => exact ⟨q + 1, by omega, by go_num, by rw [HNx.out]; go_num, hRe, hBe⟩
              case measure => simp [intOf]; omega
            · obtain rfl : q = len := by omega
              have hLa : at_ = L := by rw [hat, HTl.out, HTe.out]
              subst hLa
              clear hDs hcell hat hlt hq
              have hDn : ∀ (A : Option Addr) (cp : Nat) (w : World), RB w A [] → cp ≤ maxLen → Calls Try.prog 20 #[.slice A 0 cp] w fun e w' => e = .returned (.tuple #[.agg #[.int .i64 0, .int .i64 0, .string ⟨#[]⟩, .string ⟨#[]⟩], .int .i64 0, .int .i64 14]) ∧ Below w.heap.size w w' := by
                intro A cp w h hc
                have d := decode_any A 0 cp [] w h rfl (fun x hx => by simp at hx) (Nat.zero_le _) hc
                rw [decF_nil] at d
                exact d
              have y2 : (at_ : Int) ≤ (c : Int) := by omega
              have y7 : (0 : Int) ≤ (at_ : Int) := by omega
              by_cases hca : c = at_
              · subst hca
                go_wp2_with fail
                (with_reducible refine (hDn _ _ _ (RB.empty _ _ _) (by unfold maxLen; omega)).mono ?_)
                rintro e w1 ⟨rfl, hb1⟩
                have hS1 := Blk.new w1 23 #[.int .i64 0, .int .i64 0, .string ⟨#[]⟩, .string ⟨#[]⟩]
                have cS := hS1.cell
                have bel1 := b_alloc (b_then hB hb1) (.cells #[.int .i64 0, .int .i64 0, .string ⟨#[]⟩, .string ⟨#[]⟩] 23)
                clear hB hb1 hDn
                go_wp2_with fail
                refine (works_true _).mono ?_
                rintro e w9 ⟨rfl, hb9⟩
                go_wp2_with fail
                go_ret
                exact ⟨rfl, b_then bel1 hb9⟩
              · go_wp2_with fail
                (with_reducible refine (hDn _ _ _ (RB.empty _ _ _) (by unfold maxLen; omega)).mono ?_)
                rintro e w1 ⟨rfl, hb1⟩
                have hS1 := Blk.new w1 23 #[.int .i64 0, .int .i64 0, .string ⟨#[]⟩, .string ⟨#[]⟩]
                have cS := hS1.cell
                have bel1 := b_alloc (b_then hB hb1) (.cells #[.int .i64 0, .int .i64 0, .string ⟨#[]⟩, .string ⟨#[]⟩] 23)
                clear hB hb1 hDn
                go_wp2_with fail
                refine (works_true _).mono ?_
                rintro e w9 ⟨rfl, hb9⟩
                go_wp2_with fail
                go_ret
                exact ⟨rfl, b_then bel1 hb9⟩

set_option maxRecDepth 100000 in
theorem lifted (os : Os) (started : os.Started) (H : Type) (enc : TypeId × Value → H) :
    ReturnsInHanded {} Try.checked os 9 .any (Rows.recordSeveralSpec.pre6 enc Try.prog Try.f9 Rows.recordSeveralRow.domain false) (Rows.recordSeveralSpec.post enc Try.prog Try.f9 false true false false) := by
  refine returnsInHanded_of_change (C := Try.checked) own started (by kernel_rfl) Try.func9
    (ChangeSpec.witness6 (enc := enc) (C := Try.checked) false ⟨#[], #[.slice none 0 0], []⟩ 8 (by kernel_rfl) (by kernel_rfl) (by kernel_rfl) (by kernel_rfl)) ?_
  intro W base args ds gs before hval0 hW hcnd _
  have hval : ∀ (j : Nat) t v, Try.f9.params[j]? = some t → args[j]? = some v → Value.okWide Try.prog W .any base t v := hval0
  have hW' := hW
  obtain ⟨p, q, hA0, hV, rfl, hfz, hnd⟩ := hW
  have hA : DataW.TrodAll enc Try.prog W 0 (fun _ => true) true Try.f9.params.toList args.toList ds p := hA0
  rw [Try.params9] at hA hval
  obtain ⟨v0, vs0, d0, ds0, p0, q0, hargs, rfl, rfl, h0, r0⟩ := trodAll_cons hA
  obtain ⟨rfl, rfl, rfl⟩ := trodAll_nil r0
  obtain rfl : args = #[v0] := by cases args; simp_all
  obtain ⟨rfl, rfl⟩ := trodVars_none hV
  refine (walk (H := H) (enc := enc) W base (hval 0 53 v0 rfl rfl) h0).mono fun e W' ⟨he, bel⟩ => ?_
  subst he
  exact ⟨_, rfl, _, _, _, [], _, [], hW', trodAll_mk1 (shut_bool Try.underlying4 _), (trodAll_cons_mk (Below.trod laidOut (by kernel_rfl) (of_decide_eq_true (by kernel_rfl)) h0 bel (lt_of_Trod h0)) trodAll_mk0), rfl, bel.frame _, fun h => by cases h⟩

/-- RecordSeveral: for every slice of drafts the law returns true and changes nothing. No condition. -/
theorem proved : Rows.RecordSeveralSaid :=
  OpenClaim.holds_of_wide 9 Try.f9 rfl rfl rfl rfl rfl rfl rfl ⟨rfl, rfl, rfl, rfl, rfl⟩ rfl rfl rfl rfl rfl (by kernel_rfl) Try.func9 (by kernel_rfl)
    (of_decide_eq_true (by kernel_rfl)) (by unfold Func.isWrapper; first | (rw [if_pos (by decide +kernel)]; kernel_rfl) | (rw [if_neg (by decide +kernel)]; exact ⟨rfl, rfl⟩))
    (fun os started H enc _ => lifted os started H enc)
#print axioms proved
end Go.Proofs.Ytookgehccmcgcaa.recordSeveral
