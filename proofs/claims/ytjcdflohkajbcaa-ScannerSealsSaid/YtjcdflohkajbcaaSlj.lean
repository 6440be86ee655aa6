/-
  Footers, joined bytes and Sealed at bytes that a call is handed. (The first part is XSlf's: a claim has at most 60 files.)
-/
import Derived.Test.YtjcdflohkajbcaaSC
namespace Go.Proofs.Ytjcdflohkajbcaa
open Go.RowKit
set_option linter.unusedVariables false
set_option linter.unusedSimpArgs false
theorem allOk_of {rs : List Rc} (h : ∀ r ∈ rs, r.Ok) : allOk rs = true := by
  unfold allOk
  rw [List.all_eq_true]
  intro r hr
  simpa using h r hr
/-- encodings with a footer behind, and more -/
theorem scan_foot {rs : List Rc} (hok : ∀ r ∈ rs, r.Ok) {c l : Int} (h : FOk c l) (Z : List Int) : Scanned (encL rs ++ (fenc c l ++ Z)) (pairsF 0 rs) (sizeL rs) :=
  scanned_encs hok (by rw [decF_foot h Z]; decide)
theorem scan_foot0 {rs : List Rc} (hok : ∀ r ∈ rs, r.Ok) {c l : Int} (h : FOk c l) : Scanned (encL rs ++ fenc c l) (pairsF 0 rs) (sizeL rs) := by
  have h2 := scan_foot hok h []
  rwa [List.append_nil] at h2
theorem scan_none {rs : List Rc} (hok : ∀ r ∈ rs, r.Ok) : Scanned (encL rs) (pairsF 0 rs) (sizeL rs) := by
  have h2 := scanned_encs hok (Z := []) (by decide)
  rwa [List.append_nil] at h2
theorem decF_few {Z : List Int} (h : Z.length < 16) : decF Z = (Rc.zero, 0, 14) := by
  unfold decF
  simp only []
  rw [if_pos h]
theorem seal_len {M : List Int} {rs : List Rc} {en : Nat} (h : M.length ≠ en + 16) : sealB M rs en = false := sealB_no fun e => absurd e h
theorem seal_yes {rs : List Rc} (hok : ∀ r ∈ rs, r.Ok) (hl : rs.length ≤ 65535) : sealB (encL rs ++ fenc rs.length (lastF rs)) rs (sizeL rs) = true := by
  obtain ⟨hf, ho⟩ := ofF_ok (allOk_of hok) hl
  have hd : (encL rs ++ fenc rs.length (lastF rs)).drop (sizeL rs) = fenc rs.length (lastF rs) := List.drop_left' rfl
  have he := fdec_enc hf []
  rw [List.append_nil] at he
  have hn : (encL rs ++ fenc rs.length (lastF rs)).length = sizeL rs + 16 := by rw [List.length_append, fenc_length]; rfl
  unfold sealB
  rw [hd, he, ho, hn]
  simp
theorem seal_other {rs : List Rc} (hok : ∀ r ∈ rs, r.Ok) (hl : rs.length ≤ 65535) {c l : Int} (h : FOk c l) (hne : c ≠ (rs.length : Int) ∨ l ≠ lastF rs) : sealB (encL rs ++ fenc c l) rs (sizeL rs) = false := by
  obtain ⟨hf, ho⟩ := ofF_ok (allOk_of hok) hl
  have hd : (encL rs ++ fenc c l).drop (sizeL rs) = fenc c l := List.drop_left' rfl
  have he := fdec_enc h []
  rw [List.append_nil] at he
  unfold sealB
  rw [hd, he, ho]
  rcases hne with hne | hne
  · simp [hne]
  · simp [hne]
theorem reason_yes {M : List Int} {rs : List Rc} {en : Nat} (h : sealB M rs en = true) : reasonF M rs en = 0 := by
  unfold reasonF
  rw [if_pos (.inr h)]
/-- the footer less its last byte -/
theorem foot_torn {rs : List Rc} (hok : ∀ r ∈ rs, r.Ok) (c l : Int) :
    Scanned ((encL rs ++ fenc c l).take (sizeL rs + 15)) (pairsF 0 rs) (sizeL rs) ∧ sealB ((encL rs ++ fenc c l).take (sizeL rs + 15)) rs (sizeL rs) = false ∧ reasonF ((encL rs ++ fenc c l).take (sizeL rs + 15)) rs (sizeL rs) = 14 := by
  have hL : (encL rs).length = sizeL rs := rfl
  have ht : (encL rs ++ fenc c l).take (sizeL rs + 15) = encL rs ++ (fenc c l).take 15 := by
    rw [List.take_append, List.take_of_length_le (by omega), hL, Nat.add_sub_cancel_left]
  have hz : ((fenc c l).take 15).length = 15 := by rw [List.length_take, fenc_length]; rfl
  have hde := decF_few (Z := (fenc c l).take 15) (by omega)
  have hn : (encL rs ++ (fenc c l).take 15).length = sizeL rs + 15 := by rw [List.length_append, hz]; rfl
  have hs : sealB (encL rs ++ (fenc c l).take 15) rs (sizeL rs) = false := seal_len (by omega)
  rw [ht]
  refine ⟨scanned_encs hok (by rw [hde]; decide), hs, ?_⟩
  unfold reasonF
  rw [hs, if_neg (by rw [hn]; simp), show (encL rs ++ (fenc c l).take 15).drop (sizeL rs) = (fenc c l).take 15 from List.drop_left' rfl, hde]
/-- the seven: sealed; torn; a byte more; another footer; records behind; a record between; twice -/
theorem seal_more {rs : List Rc} {c l : Int} {Z : List Int} (hz : Z ≠ []) : sealB (encL rs ++ (fenc c l ++ Z)) rs (sizeL rs) = false := by
  refine seal_len ?_
  have hL : (encL rs).length = sizeL rs := rfl
  have hp := List.length_pos_iff.2 hz
  rw [List.length_append, List.length_append, fenc_length]
  omega
theorem seal_bare (rs : List Rc) : sealB (encL rs) rs (sizeL rs) = false := by
  refine seal_len ?_
  have hL : (encL rs).length = sizeL rs := rfl
  omega
theorem encF_ne (r : Rc) : encL [r] ≠ [] := by
  intro h
  have h2 : (encL [r]).length = 0 := by rw [h]; rfl
  have h3 : (encL [r]).length = sizeL [r] := rfl
  rw [h3, sizeL_cons, sizeL_nil] at h2
  unfold Rc.size at h2
  omega
theorem seal_between {rs : List Rc} (hok : ∀ r ∈ rs, r.Ok) (hl : rs.length ≤ 1000) {r : Rc} (hr : r.Ok) {l : Int} (h : FOk rs.length l) :
    Scanned (encL rs ++ (encL [r] ++ fenc rs.length l)) (pairsF 0 (rs ++ [r])) (sizeL (rs ++ [r])) ∧ sealB (encL rs ++ (encL [r] ++ fenc rs.length l)) (rs ++ [r]) (sizeL (rs ++ [r])) = false := by
  have hok2 : ∀ x ∈ rs ++ [r], x.Ok := by
    intro x hx
    rcases List.mem_append.1 hx with hx | hx
    · exact hok x hx
    · rw [List.mem_singleton.1 hx]; exact hr
  have e : encL rs ++ (encL [r] ++ fenc rs.length l) = encL (rs ++ [r]) ++ fenc rs.length l := by rw [encL_app, List.append_assoc]
  rw [e]
  exact ⟨scan_foot0 hok2 h, seal_other hok2 (by simp; omega) h (.inl (by simp; omega))⟩

def KWs (w1 w' : World) : Prop := Below w1.heap.size w1 w'
theorem KWs.bel {w1 w' : World} (h : KWs w1 w') : Below w1.heap.size w1 w' := h
theorem KWs.after {w1 w w' : World} (h : KWs w1 w) (hb : Below w.heap.size w w') : KWs w1 w' := b_then h hb
theorem BA.reads {w : World} {A : Option Addr} {len cap : Nat} {M : List Int} (h : BA w A len cap M) : Reads w w.heap.size 1 A len (M.map (Value.int .u8)) := by
  obtain ⟨hl, h2, _⟩ := h
  subst hl
  rcases Nat.eq_zero_or_pos M.length with h0 | hp
  · rw [h0, List.eq_nil_of_length_eq_zero h0]
    exact Reads.none_
  · rcases (h2 hp).1 with ⟨_, rfl⟩ | ⟨b, off, rfl, hc⟩
    · simp at hp
    · exact Reads.of_rb (.inr ⟨b, off, rfl, hc⟩) ((h2 hp).2 b off rfl)
theorem ba_nil (w : World) : BA w none 0 0 [] := ⟨rfl, fun hp => absurd hp (by omega), fun x hx => by simp at hx, Nat.le_refl _, by unfold maxLen; omega⟩
theorem sealing_ba {c l : Int} (h : FOk c l) (w : World) :
    Calls Try.prog 20 #[.int .i64 c, .int .i64 l] w fun e w' => (∃ g cap, e = .returned (.slice (some ⟨g, 0, none⟩) 16 cap) ∧ BA w' (some ⟨g, 0, none⟩) 16 cap (fenc c l)) ∧ Below w.heap.size w w' := by
  refine (sealing_yes h w).mono ?_
  rintro e w' ⟨⟨g, cap, rfl, h1, h2, _, hI⟩, hb⟩
  refine ⟨⟨g, cap, rfl, rfl, fun _ => ⟨hI.rb, fun b off e => ?_⟩, fenc_bb _ _, h1, h2⟩, hb⟩
  injection e with e
  injection e with e1 e2
  subst e1
  exact (World.ownsRow.lt hI _ rfl).2
/-- a footer, or nothing -/
theorem sealing_u (c l : Int) (w : World) :
    Calls Try.prog 20 #[.int .i64 c, .int .i64 l] w fun e w' => (∃ A n cap M, e = .returned (.slice A n cap) ∧ BA w' A n cap M ∧ n ≤ 16 ∧ ((FOk c l ∧ M = fenc c l) ∨ M = [])) ∧ Below w.heap.size w w' := by
  by_cases h : FOk c l
  · refine (sealing_ba h w).mono ?_
    rintro e w' ⟨⟨g, cap, rfl, hB⟩, hb⟩
    exact ⟨⟨_, _, _, _, rfl, hB, Nat.le_refl _, .inl ⟨h, rfl⟩⟩, hb⟩
  · refine (sealing_no h w).mono ?_
    rintro e w' ⟨rfl, hb⟩
    exact ⟨⟨_, _, _, _, rfl, ba_nil w', by omega, .inr rfl⟩, hb⟩
theorem jn_isb {w : World} {B : Nat} {v : Value} {M : List Int} {n : Nat} (h : IsB w B v M) (hB : BB M) (hn : M.length = n) : ∃ A cap, v = .slice A n cap ∧ BA w A n cap M := by
  subst hn
  exact BA.of_own h hB
theorem joined2 {A1 A2 : Option Addr} {n1 c1 n2 c2 : Nat} {M1 M2 : List Int} (n : Nat) (w : World) (h1 : BA w A1 n1 c1 M1) (h2 : BA w A2 n2 c2 M2) (hn : n1 + n2 = n) (ht : n ≤ 100000) :
    Calls Try.prog 16 #[.slice (some ⟨w.heap.size, 0, none⟩) 2 2] (w.alloc (.cells #[.slice A1 n1 c1, .slice A2 n2 c2] 25)) fun e w' => (∃ A cap, e = .returned (.slice A n cap) ∧ BA w' A n cap (M1 ++ M2)) ∧ Below w.heap.size w w' := by
  have hb := b_alloc (Below.refl w.heap.size w) (.cells #[.slice A1 n1 c1, .slice A2 n2 c2] 25)
  have hj : jM [⟨A1, n1, c1, M1⟩, ⟨A2, n2, c2, M2⟩] = M1 ++ M2 := by simp [jM]
  have hl : (M1 ++ M2).length = n := by rw [List.length_append, h1.1, h2.1, hn]
  have h := joined_any w.heap.size 2 [⟨A1, n1, c1, M1⟩, ⟨A2, n2, c2, M2⟩] _ (Blk.new w 25 #[.slice A1 n1 c1, .slice A2 n2 c2]) rfl (by omega) (by
    intro p hp
    rcases List.mem_cons.1 hp with rfl | hp
    · exact ⟨h1.1, BA.reads (h1.later hb)⟩
    · rcases List.mem_cons.1 hp with rfl | hp
      · exact ⟨h2.1, BA.reads (h2.later hb)⟩
      · cases hp) (by rw [hj, hl]; exact ht)
  rw [hj] at h
  refine h.mono ?_
  rintro e w' ⟨⟨v, rfl, hI⟩, hk⟩
  obtain ⟨A, cap, rfl, hB⟩ := jn_isb hI (BB.app h1.2.2.1 h2.2.2.1) hl
  exact ⟨⟨A, cap, rfl, hB⟩, b_then hb hk⟩
theorem joined3 {A1 A2 A3 : Option Addr} {n1 c1 n2 c2 n3 c3 : Nat} {M1 M2 M3 : List Int} (n : Nat) (w : World) (h1 : BA w A1 n1 c1 M1) (h2 : BA w A2 n2 c2 M2) (h3 : BA w A3 n3 c3 M3) (hn : n1 + (n2 + n3) = n) (ht : n ≤ 100000) :
    Calls Try.prog 16 #[.slice (some ⟨w.heap.size, 0, none⟩) 3 3] (w.alloc (.cells #[.slice A1 n1 c1, .slice A2 n2 c2, .slice A3 n3 c3] 25)) fun e w' => (∃ A cap, e = .returned (.slice A n cap) ∧ BA w' A n cap (M1 ++ (M2 ++ M3))) ∧ Below w.heap.size w w' := by
  have hb := b_alloc (Below.refl w.heap.size w) (.cells #[.slice A1 n1 c1, .slice A2 n2 c2, .slice A3 n3 c3] 25)
  have hj : jM [⟨A1, n1, c1, M1⟩, ⟨A2, n2, c2, M2⟩, ⟨A3, n3, c3, M3⟩] = M1 ++ (M2 ++ M3) := by simp [jM]
  have hl : (M1 ++ (M2 ++ M3)).length = n := by rw [List.length_append, List.length_append, h1.1, h2.1, h3.1, hn]
  have h := joined_any w.heap.size 3 [⟨A1, n1, c1, M1⟩, ⟨A2, n2, c2, M2⟩, ⟨A3, n3, c3, M3⟩] _ (Blk.new w 25 #[.slice A1 n1 c1, .slice A2 n2 c2, .slice A3 n3 c3]) rfl (by omega) (by
    intro p hp
    rcases List.mem_cons.1 hp with rfl | hp
    · exact ⟨h1.1, BA.reads (h1.later hb)⟩
    · rcases List.mem_cons.1 hp with rfl | hp
      · exact ⟨h2.1, BA.reads (h2.later hb)⟩
      · rcases List.mem_cons.1 hp with rfl | hp
        · exact ⟨h3.1, BA.reads (h3.later hb)⟩
        · cases hp) (by rw [hj, hl]; exact ht)
  rw [hj] at h
  refine h.mono ?_
  rintro e w' ⟨⟨v, rfl, hI⟩, hk⟩
  obtain ⟨A, cap, rfl, hB⟩ := jn_isb hI (BB.app h1.2.2.1 (BB.app h2.2.2.1 h3.2.2.1)) hl
  exact ⟨⟨A, cap, rfl, hB⟩, b_then hb hk⟩
/-- a byte behind -/
theorem joined_byte {A1 : Option Addr} {n1 c1 : Nat} {M1 : List Int} (n : Nat) (x : Int) (w : World) (h1 : BA w A1 n1 c1 M1) (hx0 : 0 ≤ x) (hx1 : x ≤ 255) (hn : n1 + 1 = n) (ht : n ≤ 100000) :
    Calls Try.prog 16 #[.slice (some ⟨w.heap.size + 1, 0, none⟩) 2 2] ((w.alloc (.cells #[.int .u8 x] 5)).alloc (.cells #[.slice A1 n1 c1, .slice (some ⟨w.heap.size, 0, none⟩) 1 1] 25)) fun e w' => (∃ A cap, e = .returned (.slice A n cap) ∧ BA w' A n cap (M1 ++ [x])) ∧ Below w.heap.size w w' := by
  have hb := b_alloc (Below.refl w.heap.size w) (.cells #[.int .u8 x] 5)
  have h2 : BA (w.alloc (.cells #[.int .u8 x] 5)) (some ⟨w.heap.size, 0, none⟩) 1 1 [x] := by
    refine ⟨rfl, fun _ => ⟨.inr ⟨w.heap.size, 0, rfl, fun i hi => by
      obtain rfl : i = 0 := by simp at hi; omega
      exact (Blk.new w 5 #[.int .u8 x]).cell 0⟩, fun b off e => ?_⟩, fun y hy => ?_, Nat.le_refl _, by unfold maxLen; omega⟩
    · injection e with e
      injection e with e1 e2
      subst e1
      simp
    · rw [List.mem_singleton.1 hy]
      omega
  have h := joined2 n (w.alloc (.cells #[.int .u8 x] 5)) (h1.later hb) h2 hn ht
  rw [World.size_alloc] at h
  refine h.mono ?_
  rintro e w' ⟨h, hk⟩
  exact ⟨h, b_then hb (hk.mono (by rw [World.size_alloc]; omega))⟩
theorem sealed_is (A : Option Addr) (len cap : Nat) (M : List Int) (w : World) (rs : List Rc) (s : Bool) (hM : BA w A len cap M) (h5 : len ≤ 100000) (hS : Scanned M (pairsF 0 rs) (sizeL rs)) (hs : sealB M rs (sizeL rs) = s) :
    Calls Try.prog 27 #[.slice A len cap] w fun e w' => e = .returned (.bool s) ∧ Below w.heap.size w w' := by
  have h := sealed_any A len cap M w _ _ hM h5 hS
  rw [pairsF_snd, hs] at h
  exact h
/-- one item by its key -/
theorem one_item (k : Int) (hk0 : 0 ≤ k) (hk1 : k ≤ 255) (w : World) : IsIt (w.alloc (.cells #[.bool false, .int .u8 k, .int .u8 0, .int .u16 0] 54)) (some ⟨w.heap.size, 0, none⟩) [⟨false, k, 0, 0⟩] := by
  refine ⟨fun t ht => ?_, .inr ⟨w.heap.size, 0, rfl, by simp, fun i t hi j u hu => ?_⟩⟩
  · rw [List.mem_singleton.1 ht]
    exact ⟨hk0, hk1, by show (0 : Int) ≤ 0; omega, by show (0 : Int) ≤ 255; omega, by show (0 : Int) ≤ 0; omega, by show (0 : Int) ≤ 65535; omega⟩
  · cases i with
    | succ i => simp at hi
    | zero =>
      injection hi with e
      subst e
      rw [show 0 + (0 * 4 + j) = j by omega]
      exact ((Blk.new w 54 #[.bool false, .int .u8 k, .int .u8 0, .int .u16 0]).cell j).trans hu
end Go.Proofs.Ytjcdflohkajbcaa
