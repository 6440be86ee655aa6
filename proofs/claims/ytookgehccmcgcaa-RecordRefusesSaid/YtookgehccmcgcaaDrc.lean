/-
  The record of a draft.
-/
import Derived.Test.YtookgehccmcgcaaDft
namespace Go.Proofs.Ytookgehccmcgcaa
open Go.RowKit
set_option linter.unusedVariables false
set_option linter.unusedSimpArgs false
theorem dkey_take_succ (K : List Int) (i : Nat) (h : i < K.length) : 107 :: (K.take (i + 1)).map dlet = (107 :: (K.take i).map dlet) ++ [dlet (K.getD i 0)] := by
  rw [List.take_add_one, List.getElem?_eq_getElem h, List.map_append, List.getD_eq_getElem?_getD, List.getElem?_eq_getElem h]
  rfl
theorem RB.cell_ {w : World} {b off : Nat} {M : List Int} (h : RB w (some ⟨b, off, none⟩) M) (i : Nat) (hi : i < M.length) : w.cell? ⟨b, off + i, none⟩ = some (.int .u8 (M.getD i 0)) := by
  rcases h with ⟨h, _⟩ | ⟨b', off', hq, hc⟩
  · cases h
  · injection hq with hq
    injection hq with hq1 hq2
    subst hq1 hq2
    exact hc i hi
theorem b_set1' {a w : World} (h : Below a.heap.size a w) (o : Nat) (u : Value) : Below a.heap.size a (w.setCell ⟨a.heap.size + 1, o, none⟩ u) := h.setCell (Nat.le_succ _) u
theorem dlet_get (i : Nat) (h : i < dlets.size) : (dlets[i]'h) = dlets.get! i := by
  show dlets.data[i]'h = dlets.data[i]!
  rw [getElem!_pos dlets.data i h]
set_option maxHeartbeats 2000000 in
set_option maxRecDepth 100000 in
theorem rec_any (del : Bool) (seq : Int) (a1 : Option Addr) (n1 c1 : Nat) (K : List Int) (a2 : Option Addr) (n2 c2 : Nat) (V : List Int) (w : World) (h0 : 0 ≤ seq) (h1 : seq ≤ 18446744073709551615) (hK : BS w a1 n1 c1 K) (hV : BS w a2 n2 c2 V) :
    Calls Try.prog 26 #[.agg #[.bool del, .int .u64 seq, .slice a1 n1 c1, .slice a2 n2 c2]] w fun e w' => e = .returned (draftR del seq K V).v ∧ Below w.heap.size w w' := by
  obtain ⟨i0, hi0, hz0, hz1, hz2⟩ := info_parts byte_info
  obtain ⟨LT, hLT⟩ : ∃ LT, LT = dlets := ⟨_, rfl⟩
  have hLs : LT.size = 39 := by rw [hLT]; rfl
  have HLT := Lib.hid hLT
  obtain ⟨m, hm⟩ : ∃ m, m = min n1 31 := ⟨_, rfl⟩
  have hm1 : m ≤ n1 := by omega
  have hm2 : m ≤ 31 := by omega
  have hn1 : n1 ≤ 9223372036854775807 := by have := hK.2.2.2; unfold maxLen at this; omega
  have hn2 : n2 ≤ 9223372036854775807 := by have := hV.2.2.2; unfold maxLen at this; omega
  have HM := Lib.hid hm
  clear hm
  go_enter Try.func26, Try.ntmps26
  go_wp2_with fail
  have hb0 : Below w.heap.size w (((w.alloc (.cells #[.bool del, .int .u64 seq, .slice a1 n1 c1, .slice a2 n2 c2] 45)).alloc (.cells #[.int .i64 0, .int .i64 0, .string ⟨#[]⟩, .string ⟨#[]⟩] 23)).alloc (.cells #[.int .u8 107] 5)) := b_alloc (b_alloc (b_alloc (Below.refl _ w) _) _) _
  have q0 : Blk (((w.alloc (.cells #[.bool del, .int .u64 seq, .slice a1 n1 c1, .slice a2 n2 c2] 45)).alloc (.cells #[.int .i64 0, .int .i64 0, .string ⟨#[]⟩, .string ⟨#[]⟩] 23)).alloc (.cells #[.int .u8 107] 5)) w.heap.size 45 #[.bool del, .int .u64 seq, .slice a1 n1 c1, .slice a2 n2 c2] := ((Blk.new w _ _).alloc _).alloc _
  have q1 : Blk (((w.alloc (.cells #[.bool del, .int .u64 seq, .slice a1 n1 c1, .slice a2 n2 c2] 45)).alloc (.cells #[.int .i64 0, .int .i64 0, .string ⟨#[]⟩, .string ⟨#[]⟩] 23)).alloc (.cells #[.int .u8 107] 5)) (w.heap.size + 1) 23 #[.int .i64 0, .int .i64 0, .string ⟨#[]⟩, .string ⟨#[]⟩] := by
    have := (Blk.new (w.alloc (.cells #[.bool del, .int .u64 seq, .slice a1 n1 c1, .slice a2 n2 c2] 45)) 23 #[.int .i64 0, .int .i64 0, .string ⟨#[]⟩, .string ⟨#[]⟩]).alloc (.cells #[.int .u8 107] 5)
    simpa using this
  have q2 : IsB (((w.alloc (.cells #[.bool del, .int .u64 seq, .slice a1 n1 c1, .slice a2 n2 c2] 45)).alloc (.cells #[.int .i64 0, .int .i64 0, .string ⟨#[]⟩, .string ⟨#[]⟩] 23)).alloc (.cells #[.int .u8 107] 5)) (w.heap.size + 1 + 1) (.slice (some ⟨w.heap.size + 1 + 1, 0, none⟩) 1 1) [107] := by
    have := World.ownsRow_lit (e := 5) (size := 1) ((w.alloc (.cells #[.bool del, .int .u64 seq, .slice a1 n1 c1, .slice a2 n2 c2] 45)).alloc (.cells #[.int .i64 0, .int .i64 0, .string ⟨#[]⟩, .string ⟨#[]⟩] 23)) #[.int .u8 107] 1 (Nat.le_refl _) (by unfold maxLen; omega) rfl
    simpa [IsB] using this
  generalize (((w.alloc (.cells #[.bool del, .int .u64 seq, .slice a1 n1 c1, .slice a2 n2 c2] 45)).alloc (.cells #[.int .i64 0, .int .i64 0, .string ⟨#[]⟩, .string ⟨#[]⟩] 23)).alloc (.cells #[.int .u8 107] 5)) = wx at hb0 q0 q1 q2 ⊢
  rw [show (⟨#[97, 98, 99, 100, 101, 102, 103, 104, 105, 106, 107, 108, 109, 110, 111, 112, 113, 114, 115, 116, 117, 118, 119, 120, 121, 122, 48, 49, 50, 51, 52, 53, 54, 55, 56, 57, 46, 45, 95]⟩ : ByteArray) = LT from hLT.symm]
  clear hLT
  go_loopw [4, 5] (fun v i wr => ∃ q : Nat, q ≤ m ∧ i = .int .i64 q ∧ IsB wr (w.heap.size + 1 + 1) v (107 :: (K.take q).map dlet) ∧ Blk wr w.heap.size 45 #[.bool del, .int .u64 seq, .slice a1 n1 c1, .slice a2 n2 c2] ∧ Blk wr (w.heap.size + 1) 23 #[.int .i64 0, .int .i64 0, .string ⟨#[]⟩, .string ⟨#[]⟩] ∧ Below w.heap.size w wr) (fun _ i _ => m - (intOf i).toNat)
  case atStart => exact ⟨0, Nat.zero_le _, rfl, q2, q0, q1, hb0⟩
  case round =>
    obtain ⟨q, hq, rfl, hown, hD, hZ, hB⟩ := hrel
    clear hb0 q0 q1 q2
    have cD := hD.cell
    have lD := hD.lt
    by_cases hlt : q < m
    · have hqn : q < n1 := by omega
      have hX := hK.2.2.1.getD q (by rw [hK.1]; omega)
      have hRK := (hK.2.1 (by omega)).later hB
      obtain ⟨b, off, rfl, hbl⟩ := hRK.some_ (by rw [hK.1]; omega)
      have c0 := RB.cell_ hRK q (by rw [hK.1]; omega)
      have HD := Lib.hid (dkey_take_succ K q (by rw [hK.1]; omega))
      have hz3 : (q : Int) < (n1 : Int) := by omega
      have hz4 : (q : Int) < 31 := by omega
      generalize K.getD q 0 = X at hX c0 HD
      obtain ⟨x1, x2⟩ := hX
      have ht : X.tmod 39 = X % 39 := Int.tmod_eq_emod_of_nonneg x1
      have hwx : IntKind.i64.wrap X = X := by rw [IntKind.wrap_i64]; omega
      have hlq : (107 :: (K.take q).map dlet).length = q + 1 := by rw [List.length_cons, List.length_map, List.length_take, hK.1]; omega
      have hown' : wr.ownsRow (w.heap.size + 1 + 1) 5 1 u4 (q + 1) ((107 :: (K.take q).map dlet).map (Value.int .u8)) := by have h := hown; unfold IsB at h; rwa [hlq] at h
      have hx39 : (X % 39).toNat < LT.size := by rw [hLs]; have := Int.emod_lt_of_pos X (show (0 : Int) < 39 by decide); have := Int.emod_nonneg X (show (39 : Int) ≠ 0 by decide); omega
      have HV : Hid (((LT[(X % 39).toNat]'hx39).toNat : Int) = dlet X) := by
        show _ = _
        have h := HLT.out
        subst h
        rw [dlet_get]
        rfl
      have hsz := hB.size
      have k1 : q + 1 + 1 ≤ maxLen := by unfold maxLen; omega
      have k3 : w.heap.size + 1 + 1 ≤ (wr.alloc (.cells #[.int .u8 ((LT[(X % 39).toNat]'hx39).toNat : Int)] 5)).heap.size := by have := hZ.lt; simp; omega
      clear hown hlq
      go_wp2_with (at_builtin; refine wpList_append_any _ rfl (.tmp 19) (.tmp 31) _ rfl (w.heap.size + 1 + 1) 5 i0 _ 1 1 Try.underlying29 hi0 hz0 hz1 hz2 rfl (by omega) _ (q + 1) _ rfl (World.ownsRow.alloc hown' _) (wr.heap.size + 1) _ 1 1 [.int .u8 _] rfl (Reads.one _ _ _) (by intro u hu; simp at hu; subst hu; rfl) k1 (by omega) k3 ?_; intro v2 w2 o2 hg2 hat2)
      have hne : ∀ k, u4.ownBlock = some k → w.heap.size + 1 + 1 ≤ k := fun k hk => (World.ownsRow.lt hown' k hk).1
      have hD2 := (hD.alloc (.cells #[.int .u8 ((LT[(X % 39).toNat]'hx39).toNat : Int)] 5)).grown hg2 (fun h => by have := hne _ h.symm; omega)
      have hZ2 := (hZ.alloc (.cells #[.int .u8 ((LT[(X % 39).toNat]'hx39).toNat : Int)] 5)).grown hg2 (fun h => by have := hne _ h.symm; omega)
      have hB2 := (b_alloc hB (.cells #[.int .u8 ((LT[(X % 39).toNat]'hx39).toNat : Int)] 5)).grown hg2 (by simp; omega) (fun k hk => by have := hne _ hk; omega)
      go_roundw
      case rel =>
        refine ⟨q + 1, by omega, by go_num, ?_, hD2, hZ2, hB2⟩
        rw [HD.out, ← HV.out]
        unfold IsB
        rw [List.length_append, List.map_append, List.length_cons, List.length_map, List.length_take, hK.1, Nat.min_eq_left (by omega)]
        exact o2
      case measure => simp [intOf]; omega
    · obtain rfl : q = m := by omega
      have hkk : 107 :: (K.take q).map dlet = dkey K := by
        unfold dkey
        have h := HM.out
        by_cases h31 : n1 ≤ 31
        · rw [List.take_of_length_le (by rw [hK.1]; omega), List.take_of_length_le (by rw [hK.1]; omega)]
        · rw [show q = 31 by omega]
      rw [hkk] at hown
      obtain ⟨A, ck, rfl, hRk⟩ := RB.of_own hown
      have hkl : (dkey K).length = q + 1 := by rw [dkey_length, hK.1]; have := HM.out; omega
      rw [hkl]
      have hVr := hV.later hB
      have hq1 : (¬ (q : Int) < (n1 : Int)) ∨ ((q : Int) < (n1 : Int) ∧ ¬ (q : Int) < 31) := by have := HM.out; omega
      obtain ⟨p, hp⟩ : ∃ p, p = min n2 512 := ⟨_, rfl⟩
      have hp1 : p ≤ n2 := by omega
      have hpc : p ≤ c2 := Nat.le_trans hp1 hV.2.2.2.1
      have hRk1 := hRk.later (Below.drew (Below.refl _ wr))
      have hRk2 := hRk.later (Below.drew (b_alloc (Below.refl _ wr) (.cells #[.int .i64 0, .int .i64 0, .string ⟨#[]⟩, .string ⟨#[]⟩] 23)))
      have u1 := conv_any hRk1 ck
      have u2 := conv_any hRk2 ck
      rw [hkl] at u1 u2
      have u3 := (hVr.later (Below.drew (Below.refl _ wr))).conv p c2 hp1
      have u4 := (hVr.later (Below.drew (b_alloc (Below.refl _ wr) (.cells #[.int .i64 0, .int .i64 0, .string ⟨#[]⟩, .string ⟨#[]⟩] 23)))).conv p c2 hp1
      have hs2 : strOfNums (V.take p) = strOfNums (V.take 512) := by
        by_cases h5 : n2 ≤ 512
        · rw [List.take_of_length_le (by rw [hV.1]; omega), List.take_of_length_le (by rw [hV.1]; omega)]
        · rw [show p = 512 by omega]
      rw [hs2] at u3 u4
      have hw40 : IntKind.i64.wrap (seq % 1099511627776) = seq % 1099511627776 := by rw [IntKind.wrap_i64]; omega
      have HR : Hid ((draftR del seq K V).v = .agg #[.int .i64 (if del then 2 else 1), .int .i64 (1 + seq % 1099511627776), .string (strOfNums (dkey K)), .string (if del then ⟨#[]⟩ else strOfNums (V.take 512))]) := rfl
      have HP := Lib.hid hp
      obtain ⟨s1, hs1⟩ : ∃ s, s = strOfNums (dkey K) := ⟨_, rfl⟩
      obtain ⟨s2, hs2'⟩ : ∃ s, s = strOfNums (V.take 512) := ⟨_, rfl⟩
      rw [← hs1] at u1 u2 HR
      rw [← hs2'] at u3 u4 HR
      have hcZ := hZ.cell
      have hfZ := hZ.frozen
      have hlZ := hZ.lt
      clear hs1 hs2' hs2 hRk hRk1 hRk2 hVr hkl hkk hown hK hV hp HM hLs HLT
      have hpm : min (n2 : Int) 512 = (p : Int) := by have := HP.out; omega
      have hpz : (0 : Int) ≤ (p : Int) := by omega
      have hpcz : (p : Int) ≤ (c2 : Int) := by omega
      clear HP
      have hV9 : del = true ∨ del = false := by cases del <;> simp
      rcases hq1 with hq1 | ⟨hq1, hq2⟩
      all_goals
        go_wp2_with fail
        go_region
        all_goals
          clear u1 u2 u3 u4
          rcases hV9 with rfl | rfl
          · go_wp2_with fail
            refine bodyPost_ret (v := .agg #[.int .i64 2, .int .i64 (1 + seq % 1099511627776), .string s1, .string ⟨#[]⟩]) (results_cell_row rfl _ _ (w.heap.size + 1) 23 #[.int .i64 2, .int .i64 (1 + seq % 1099511627776), .string s1, .string ⟨#[]⟩] (0, 0) _ rfl (show Blk _ (w.heap.size + 1) 23 _ by repeat first | (with_reducible exact hZ.set4 _ _ _ _) | (with_reducible apply Blk.alloc) | (with_reducible apply Blk.drew)) Try.underlying23 rfl (by kernel_rfl)) rfl ⟨by rw [HR.out]; rfl, ?_⟩
            repeat first | (with_reducible exact hB) | (with_reducible apply Below.drew) | (with_reducible apply b_set1') | (with_reducible apply b_alloc)
          · go_wp2_with fail
            refine bodyPost_ret (v := .agg #[.int .i64 1, .int .i64 (1 + seq % 1099511627776), .string s1, .string s2]) (results_cell_row rfl _ _ (w.heap.size + 1) 23 #[.int .i64 1, .int .i64 (1 + seq % 1099511627776), .string s1, .string s2] (0, 0) _ rfl (show Blk _ (w.heap.size + 1) 23 _ by repeat first | (with_reducible exact hZ.set4 _ _ _ _) | (with_reducible apply Blk.alloc) | (with_reducible apply Blk.drew)) Try.underlying23 rfl (by kernel_rfl)) rfl ⟨by rw [HR.out]; rfl, ?_⟩
            repeat first | (with_reducible exact hB) | (with_reducible apply Below.drew) | (with_reducible apply b_set1') | (with_reducible apply b_alloc)
end Go.Proofs.Ytookgehccmcgcaa
