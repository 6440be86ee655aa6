/-
  Decoding of records: the document: the last two ways.
-/
import Derived.Test.YtjcdflohkajbcaaRd4
import Derived.Test.YtjcdflohkajbcaaRd5
namespace Go.Proofs.Ytjcdflohkajbcaa
open Go.RowKit
set_option linter.unusedVariables false
set_option linter.unusedSimpArgs false
set_option maxHeartbeats 6000000 in
theorem d4_yes (A : Option Addr) (n cap : Nat) (M : List Int) (kind seq S : Int) (Y V : Nat) (w : World) (H : Head M kind seq S Y V) (h : RB w A M) (hn : M.length = n) (hB : BB M) (hl : n ≤ cap) (hc : cap ≤ maxLen) (hs : 16 + Y + V ≤ n) (hcs : ((csI ((M.take (16 + Y + V)).drop 4)) != S) = false) (hk0 : keyB (strOfNums ((M.drop 16).take Y)) = true) :
    Calls Try.prog 37 #[.slice A n cap] w fun e w' => e = .returned (.tuple #[.agg #[.int .i64 kind, .int .i64 seq, .string (strOfNums ((M.drop 16).take Y)), .string (strOfNums (((M.take (16 + Y + V)).drop 16).drop Y))], .int .i64 (16 + (Y : Int) + (V : Int)), .int .i64 0]) ∧ Below w.heap.size w w' := by
  have h16 : 16 ≤ n := by have := H.len; omega
  obtain ⟨hk, q1, q2, y1, y2, v2⟩ := H.bd
  have hby := Byts.of_rb h hn hB hl hc
  have r16 : ∀ i, i < 16 → 0 ≤ (fun i => M.getD i 0) i ∧ (fun i => M.getD i 0) i ≤ 255 := fun i hi => hB.getD i (by omega)
  have hVb := dV_bd r16
  have hQb := dQ_bd r16
  have hSb := dS_bd r16
  have r4 := hB.getD 4 (by omega)
  have r5 := hB.getD 5 (by omega)
  obtain ⟨b, off, rfl, hbl⟩ := h.some_ (by omega)
  have hB1 : Below w.heap.size w (w.alloc (.cells #[.int .i64 0, .int .i64 0, .string ⟨#[]⟩, .string ⟨#[]⟩] 34)) := b_alloc (Below.refl _ w) _
  have hR := Blk.new w 34 #[.int .i64 0, .int .i64 0, .string ⟨#[]⟩, .string ⟨#[]⟩]
  have hRa := h.later hB1
  have hcl : ∀ i, i < n → (w.alloc (.cells #[.int .i64 0, .int .i64 0, .string ⟨#[]⟩, .string ⟨#[]⟩] 34)).cell? ⟨b, off + i, none⟩ = some (.int .u8 (M.getD i 0)) := by
    rcases hRa with ⟨h', _⟩ | ⟨b', o', hq, hcc⟩
    · cases h'
    · injection hq with hq; injection hq with q1 q2; subst q1 q2
      exact fun i hi => hcc i (by omega)
  have c4 := hcl 4 (by omega)
  have c5 := hcl 5 (by omega)
  have hN2 : Calls Try.prog 56 #[.slice (some ⟨b, off + 6, none⟩) 2 (cap - 6)] (w.alloc (.cells #[.int .i64 0, .int .i64 0, .string ⟨#[]⟩, .string ⟨#[]⟩] 34)) fun e w' => e = .returned (.int .u64 (dV fun i => M.getD i 0)) ∧ (w.alloc (.cells #[.int .i64 0, .int .i64 0, .string ⟨#[]⟩, .string ⟨#[]⟩] 34)) = w' :=
    number_2 b (off + 6) (cap - 6) (M.getD 6 0) (M.getD 7 0) (w.alloc (.cells #[.int .i64 0, .int .i64 0, .string ⟨#[]⟩, .string ⟨#[]⟩] 34)) (by omega) (hcl 6 (by omega)) (hcl 7 (by omega)) (hB.getD 6 (by omega)) (hB.getD 7 (by omega))
  have hN8 : Calls Try.prog 56 #[.slice (some ⟨b, off + 8, none⟩) 8 (cap - 8)] (w.alloc (.cells #[.int .i64 0, .int .i64 0, .string ⟨#[]⟩, .string ⟨#[]⟩] 34)) fun e w' => e = .returned (.int .u64 (dQ fun i => M.getD i 0)) ∧ (w.alloc (.cells #[.int .i64 0, .int .i64 0, .string ⟨#[]⟩, .string ⟨#[]⟩] 34)) = w' :=
    number_8 b (off + 8) (cap - 8) (M.getD 8 0) (M.getD 9 0) (M.getD 10 0) (M.getD 11 0) (M.getD 12 0) (M.getD 13 0) (M.getD 14 0) (M.getD 15 0) (w.alloc (.cells #[.int .i64 0, .int .i64 0, .string ⟨#[]⟩, .string ⟨#[]⟩] 34)) (by omega) (hcl 8 (by omega)) (hcl 9 (by omega)) (hcl 10 (by omega)) (hcl 11 (by omega)) (hcl 12 (by omega)) (hcl 13 (by omega)) (hcl 14 (by omega)) (hcl 15 (by omega))
      (hB.getD 8 (by omega)) (hB.getD 9 (by omega)) (hB.getD 10 (by omega)) (hB.getD 11 (by omega)) (hB.getD 12 (by omega)) (hB.getD 13 (by omega)) (hB.getD 14 (by omega)) (hB.getD 15 (by omega))
  have e6 : ¬ cap = 6 := by omega
  have e8 : ¬ cap = 8 := by omega
  have hcm : cap ≤ 9223372036854775807 := by unfold maxLen at hc; omega
  have z16 : (16 : Int) ≤ (n : Int) := by omega
  have zc16 : (16 : Int) ≤ (cap : Int) := by omega
  have zc8 : (8 : Int) ≤ (cap : Int) := by omega
  have zn5 : (4 : Int) < (n : Int) := by omega
  have zn6 : (5 : Int) < (n : Int) := by omega
  clear hcl hby r16
  rw [H.v] at hN2
  rw [H.q] at hN8
  rw [H.k] at c4
  rw [H.y] at c5
  have hSl := H.s
  have wk : IntKind.i64.wrap kind = kind := by rw [IntKind.wrap_i64]; omega
  have wy : IntKind.i64.wrap (Y : Int) = (Y : Int) := by rw [IntKind.wrap_i64]; omega
  have wV : IntKind.i64.wrap (V : Int) = (V : Int) := by rw [IntKind.wrap_i64]; omega
  have hkk : (kind = 1) ∨ (kind = 2 ∧ ((V : Int) != 0) = false) := by
    rw [bne_eq_false_iff_eq]
    omega
  have zc4 : (4 : Int) ≤ (cap : Int) := by omega
  clear hVb hQb r4 r5 H
  have hsl : ((M.take (16 + Y + V)).drop 4).length = 16 + Y + V - 4 := by rw [List.length_drop, List.length_take]; omega
  have hBs := (hB.take (16 + Y + V)).drop 4
  have hcs0 : ((csI ((M.take (16 + Y + V)).drop 4)) != S) = false := hcs
  obtain ⟨C, hC⟩ : ∃ C, C = csI ((M.take (16 + Y + V)).drop 4) := ⟨_, rfl⟩
  have hCb := csI_bd hBs
  have n4 : ¬ cap = 4 := by omega
  have HVs : Hid (∀ w' : World, RB w' (some ⟨b, off, none⟩) M → Calls Try.prog 48 #[.slice (some ⟨b, off + 4, none⟩) ((16 + (Y : Int) + (V : Int)).toNat - 4) (cap - 4)] w' fun e w'' => e = .returned (.int .u32 C) ∧ w' = w'') := fun w' h' => by
    have c := rsum_any (some ⟨b, off + 4, none⟩) (16 + Y + V - 4) (cap - 4) ((M.take (16 + Y + V)).drop 4) w' (h'.sub 4 (16 + Y + V)) hBs hsl (by omega) (by unfold maxLen at *; omega)
    rw [← hC] at c
    rwa [show (16 + (Y : Int) + (V : Int)).toNat = 16 + Y + V by omega]
  have HN4 : Hid (∀ w' : World, RB w' (some ⟨b, off, none⟩) M → Calls Try.prog 56 #[.slice (some ⟨b, off, none⟩) 4 cap] w' fun e w'' => e = .returned (.int .u64 S) ∧ w' = w'') := fun w' h' => by
    have hx : ∀ i, i < 4 → w'.cell? ⟨b, off + i, none⟩ = some (.int .u8 (M.getD i 0)) := by
      rcases h' with ⟨h', _⟩ | ⟨b', o', hq, hcc⟩
      · cases h'
      · injection hq with hq; injection hq with q1 q2; subst q1 q2
        exact fun i hi => hcc i (by omega)
    rw [← hSl]
    exact number_4 b off cap (M.getD 0 0) (M.getD 1 0) (M.getD 2 0) (M.getD 3 0) w' (by omega) (hx 0 (by omega)) (hx 1 (by omega)) (hx 2 (by omega)) (hx 3 (by omega)) (hB.getD 0 (by omega)) (hB.getD 1 (by omega)) (hB.getD 2 (by omega)) (hB.getD 3 (by omega))
  rw [← hC] at hcs0 hCb
  have uC : IntKind.u64.wrap C = C := by rw [IntKind.wrap_u64]; omega
  have z1 : (4 : Int) ≤ 16 + (Y : Int) + (V : Int) := by omega
  have z2 : 16 + (Y : Int) + (V : Int) ≤ (cap : Int) := by omega
  have z3 : (0 : Int) ≤ 16 + (Y : Int) + (V : Int) := by omega
  have zn : 16 + (Y : Int) + (V : Int) ≤ (n : Int) := by omega
  have hK0 : KD w b off M (w.alloc (.cells #[.int .i64 0, .int .i64 0, .string ⟨#[]⟩, .string ⟨#[]⟩] 34)) := ⟨hB1, hR, hRa⟩
  have hK1 := hK0.after (Below.drew (Below.refl _ _))
  clear hcs hsl hBs hC hSl hCb hSb h hK0
  obtain ⟨s1, hs1⟩ : ∃ s, s = strOfNums ((M.drop 16).take Y) := ⟨_, rfl⟩
  obtain ⟨s2, hs2⟩ : ∃ s, s = strOfNums (((M.take (16 + Y + V)).drop 16).drop Y) := ⟨_, rfl⟩
  have e1 : s1.size = Y := by rw [hs1, strOfNums_size, List.length_take, List.length_drop]; omega
  have e2 : s2.size = V := by rw [hs2, strOfNums_size, List.length_drop, List.length_drop, List.length_take]; omega
  have hyes : KeyOk s1 := ⟨by rw [hs1]; exact hk0, by omega, by omega⟩
  have hkey := fun w0 => rkey_yes s1 hyes w0
  rw [← hs1, ← hs2]
  have HS1 := Lib.hid hs1
  have HS2 := Lib.hid hs2
  clear hk0 hyes hs1 hs2
  rcases hkk with rfl | ⟨rfl, hV0⟩
  · go_enter Try.func37, Try.ntmps37
    go_wp2_with (first
      | (go_at_call 56; (with_reducible refine hN2.mono ?_); rintro e w' ⟨rfl, rfl⟩)
      | (go_at_call 56; (with_reducible refine hN8.mono ?_); rintro e w' ⟨rfl, rfl⟩))
    go_region_held3 (fun w' => KD w b off M w') (first | (with_reducible assumption) | (with_reducible exact hK1)) (first
      | (go_at_call 48; (with_reducible refine (HVs.out _ (KD.rb (by assumption))).mono ?_); rintro e w' ⟨rfl, rfl⟩)
      | (go_at_call 56; (with_reducible refine (HN4.out _ (KD.rb (by assumption))).mono ?_); rintro e w' ⟨rfl, rfl⟩))
    go_wp2_with fail
    obtain ⟨wx, hwx⟩ : ∃ wx, wx = (w.alloc (.cells #[.int .i64 0, .int .i64 0, .string ⟨#[]⟩, .string ⟨#[]⟩] 34)).drew := ⟨_, rfl⟩
    rw [← hwx]
    have hBx : Below w.heap.size w wx := by rw [hwx]; exact hB1.drew
    have hRx : Blk wx w.heap.size 34 #[.int .i64 0, .int .i64 0, .string ⟨#[]⟩, .string ⟨#[]⟩] := by rw [hwx]; exact hR.drew
    have hMx : RB wx (some ⟨b, off, none⟩) M := by rw [hwx]; exact hRa.later (Below.drew (Below.refl _ _))
    clear hwx hK1 hRa hR hB1
    have hM2d := hMx.later (Below.drew (Below.refl _ wx))
    have hM3d := hMx.later (Below.drew (b_alloc (Below.refl _ wx) (.cells #[.int .i64 0, .int .i64 0, .string ⟨#[]⟩, .string ⟨#[]⟩] 34)))
    have j1 : 16 + Y + V - (16 + Y) = V := by omega
    have j2 : 16 + Y - 16 = Y := by omega
    have z5 : (0 : Int) ≤ 16 + (Y : Int) := by omega
    have z6 : (16 : Int) ≤ 16 + (Y : Int) := by omega
    have z7 : 16 + (Y : Int) ≤ (cap : Int) := by omega
    have z8 : 16 + (Y : Int) ≤ 16 + (Y : Int) + (V : Int) := by omega
    have u1 := fun w0 (h : RB w0 (some ⟨b, off, none⟩) M) c => conv_key h Y c (by omega)
    have u2 := fun w0 (h : RB w0 (some ⟨b, off, none⟩) M) c => conv_val' h Y V c (by omega)
    have u3 := fun w0 o c hV => conv_val0 (w := w0) (b := b) (o := o) (M := M) Y V c hV
    rw [← HS1.out] at u1
    rw [← HS2.out] at u2 u3
    clear HS1 HS2
    by_cases hcy : cap = 16 + Y
    · have hV0' : V = 0 := by omega
      have a1 := u1 _ hM2d Y
      have a2 := u1 _ hM3d Y
      have a3 := u3 (wx.drew) off 0 hV0'
      have a4 := u3 ((wx.alloc (.cells #[.int .i64 0, .int .i64 0, .string ⟨#[]⟩, .string ⟨#[]⟩] 34)).drew) off 0 hV0'
      clear u1 u2 u3 hMx hM2d hM3d hV0'
      go_region
      all_goals
        (clear a1 a2 a3 a4
         go_wp2_with fail
         refine (hkey _).mono ?_
         rintro e w3 ⟨rfl, rfl⟩
         have hTT := Blk.new wx 34 #[.int .i64 1, .int .i64 seq, .string s1, .string s2]
         have cTT := hTT.cell
         have cRx := hRx.cell
         have fRx := hRx.frozen
         have lRx := hRx.lt
         go_wp2_with fail
         refine bodyPost_ret (v := .tuple #[.agg #[.int .i64 1, .int .i64 seq, .string s1, .string s2], .int .i64 (16 + (Y : Int) + (V : Int)), .int .i64 0]) (results_c2 Try.results37 _ _ w.heap.size #[.int .i64 1, .int .i64 seq, .string s1, .string s2] _ rfl (by repeat first | (with_reducible exact hRx.set4 _ _ _ _) | (with_reducible apply Blk.alloc) | (with_reducible exact hRx) | (with_reducible apply Blk.drew)) Try.underlying34 rfl (by kernel_rfl)) rfl ⟨rfl, ?_⟩
         repeat first | (with_reducible exact hBx) | (with_reducible apply Below.drew) | (with_reducible apply b_set) | (with_reducible apply b_alloc))
    · have a1 := u1 _ hM2d (cap - 16)
      have a2 := u1 _ hM3d (cap - 16)
      have a3 := u2 _ hM2d (cap - (16 + Y))
      have a4 := u2 _ hM3d (cap - (16 + Y))
      clear u1 u2 u3 hMx hM2d hM3d
      go_region
      all_goals
        (clear a1 a2 a3 a4
         go_wp2_with fail
         refine (hkey _).mono ?_
         rintro e w3 ⟨rfl, rfl⟩
         have hTT := Blk.new wx 34 #[.int .i64 1, .int .i64 seq, .string s1, .string s2]
         have cTT := hTT.cell
         have cRx := hRx.cell
         have fRx := hRx.frozen
         have lRx := hRx.lt
         go_wp2_with fail
         refine bodyPost_ret (v := .tuple #[.agg #[.int .i64 1, .int .i64 seq, .string s1, .string s2], .int .i64 (16 + (Y : Int) + (V : Int)), .int .i64 0]) (results_c2 Try.results37 _ _ w.heap.size #[.int .i64 1, .int .i64 seq, .string s1, .string s2] _ rfl (by repeat first | (with_reducible exact hRx.set4 _ _ _ _) | (with_reducible apply Blk.alloc) | (with_reducible exact hRx) | (with_reducible apply Blk.drew)) Try.underlying34 rfl (by kernel_rfl)) rfl ⟨rfl, ?_⟩
         repeat first | (with_reducible exact hBx) | (with_reducible apply Below.drew) | (with_reducible apply b_set) | (with_reducible apply b_alloc))
  · go_enter Try.func37, Try.ntmps37
    go_wp2_with (first
      | (go_at_call 56; (with_reducible refine hN2.mono ?_); rintro e w' ⟨rfl, rfl⟩)
      | (go_at_call 56; (with_reducible refine hN8.mono ?_); rintro e w' ⟨rfl, rfl⟩))
    go_region_held3 (fun w' => KD w b off M w') (first | (with_reducible assumption) | (with_reducible exact hK1)) (first
      | (go_at_call 48; (with_reducible refine (HVs.out _ (KD.rb (by assumption))).mono ?_); rintro e w' ⟨rfl, rfl⟩)
      | (go_at_call 56; (with_reducible refine (HN4.out _ (KD.rb (by assumption))).mono ?_); rintro e w' ⟨rfl, rfl⟩))
    go_wp2_with fail
    obtain ⟨wx, hwx⟩ : ∃ wx, wx = (w.alloc (.cells #[.int .i64 0, .int .i64 0, .string ⟨#[]⟩, .string ⟨#[]⟩] 34)).drew := ⟨_, rfl⟩
    rw [← hwx]
    have hBx : Below w.heap.size w wx := by rw [hwx]; exact hB1.drew
    have hRx : Blk wx w.heap.size 34 #[.int .i64 0, .int .i64 0, .string ⟨#[]⟩, .string ⟨#[]⟩] := by rw [hwx]; exact hR.drew
    have hMx : RB wx (some ⟨b, off, none⟩) M := by rw [hwx]; exact hRa.later (Below.drew (Below.refl _ _))
    clear hwx hK1 hRa hR hB1
    have hM2d := hMx.later (Below.drew (Below.refl _ wx))
    have hM3d := hMx.later (Below.drew (b_alloc (Below.refl _ wx) (.cells #[.int .i64 0, .int .i64 0, .string ⟨#[]⟩, .string ⟨#[]⟩] 34)))
    have j1 : 16 + Y + V - (16 + Y) = V := by omega
    have j2 : 16 + Y - 16 = Y := by omega
    have z5 : (0 : Int) ≤ 16 + (Y : Int) := by omega
    have z6 : (16 : Int) ≤ 16 + (Y : Int) := by omega
    have z7 : 16 + (Y : Int) ≤ (cap : Int) := by omega
    have z8 : 16 + (Y : Int) ≤ 16 + (Y : Int) + (V : Int) := by omega
    have u1 := fun w0 (h : RB w0 (some ⟨b, off, none⟩) M) c => conv_key h Y c (by omega)
    have u2 := fun w0 (h : RB w0 (some ⟨b, off, none⟩) M) c => conv_val' h Y V c (by omega)
    have u3 := fun w0 o c hV => conv_val0 (w := w0) (b := b) (o := o) (M := M) Y V c hV
    rw [← HS1.out] at u1
    rw [← HS2.out] at u2 u3
    clear HS1 HS2
    by_cases hcy : cap = 16 + Y
    · have hV0' : V = 0 := by omega
      have a1 := u1 _ hM2d Y
      have a2 := u1 _ hM3d Y
      have a3 := u3 (wx.drew) off 0 hV0'
      have a4 := u3 ((wx.alloc (.cells #[.int .i64 0, .int .i64 0, .string ⟨#[]⟩, .string ⟨#[]⟩] 34)).drew) off 0 hV0'
      clear u1 u2 u3 hMx hM2d hM3d hV0'
      go_region
      all_goals
        (clear a1 a2 a3 a4
         go_wp2_with fail
         refine (hkey _).mono ?_
         rintro e w3 ⟨rfl, rfl⟩
         have hTT := Blk.new wx 34 #[.int .i64 2, .int .i64 seq, .string s1, .string s2]
         have cTT := hTT.cell
         have cRx := hRx.cell
         have fRx := hRx.frozen
         have lRx := hRx.lt
         go_wp2_with fail
         refine bodyPost_ret (v := .tuple #[.agg #[.int .i64 2, .int .i64 seq, .string s1, .string s2], .int .i64 (16 + (Y : Int) + (V : Int)), .int .i64 0]) (results_c2 Try.results37 _ _ w.heap.size #[.int .i64 2, .int .i64 seq, .string s1, .string s2] _ rfl (by repeat first | (with_reducible exact hRx.set4 _ _ _ _) | (with_reducible apply Blk.alloc) | (with_reducible exact hRx) | (with_reducible apply Blk.drew)) Try.underlying34 rfl (by kernel_rfl)) rfl ⟨rfl, ?_⟩
         repeat first | (with_reducible exact hBx) | (with_reducible apply Below.drew) | (with_reducible apply b_set) | (with_reducible apply b_alloc))
    · have a1 := u1 _ hM2d (cap - 16)
      have a2 := u1 _ hM3d (cap - 16)
      have a3 := u2 _ hM2d (cap - (16 + Y))
      have a4 := u2 _ hM3d (cap - (16 + Y))
      clear u1 u2 u3 hMx hM2d hM3d
      go_region
      all_goals
        (clear a1 a2 a3 a4
         go_wp2_with fail
         refine (hkey _).mono ?_
         rintro e w3 ⟨rfl, rfl⟩
         have hTT := Blk.new wx 34 #[.int .i64 2, .int .i64 seq, .string s1, .string s2]
         have cTT := hTT.cell
         have cRx := hRx.cell
         have fRx := hRx.frozen
         have lRx := hRx.lt
         go_wp2_with fail
         refine bodyPost_ret (v := .tuple #[.agg #[.int .i64 2, .int .i64 seq, .string s1, .string s2], .int .i64 (16 + (Y : Int) + (V : Int)), .int .i64 0]) (results_c2 Try.results37 _ _ w.heap.size #[.int .i64 2, .int .i64 seq, .string s1, .string s2] _ rfl (by repeat first | (with_reducible exact hRx.set4 _ _ _ _) | (with_reducible apply Blk.alloc) | (with_reducible exact hRx) | (with_reducible apply Blk.drew)) Try.underlying34 rfl (by kernel_rfl)) rfl ⟨rfl, ?_⟩
         repeat first | (with_reducible exact hBx) | (with_reducible apply Below.drew) | (with_reducible apply b_set) | (with_reducible apply b_alloc))
end Go.Proofs.Ytjcdflohkajbcaa
