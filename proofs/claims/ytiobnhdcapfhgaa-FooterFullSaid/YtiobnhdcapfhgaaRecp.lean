/-
  Plain: a record is decoded from its bytes; what is decoded has these bytes; shorter bytes are torn.
-/
import Derived.Test.YtiobnhdcapfhgaaRecm
namespace Go.Proofs.Ytiobnhdcapfhgaa
open Go.RowKit
set_option linter.unusedVariables false

theorem hb_S {sum kind key val seq : Int} (hs0 : 0 ≤ sum) (hs1 : sum ≤ 4294967295) {L : Nat → Int} (hL : ∀ i, i < 16 → L i = (hbytes sum kind key val seq).getD i 0) : dS L = sum := by
  unfold dS
  rw [hL 0 (by omega), hL 1 (by omega), hL 2 (by omega), hL 3 (by omega)]
  simp [hbytes]
  omega
theorem hb_V {sum kind key val seq : Int} (hs0 : 0 ≤ val) (hs1 : val ≤ 65535) {L : Nat → Int} (hL : ∀ i, i < 16 → L i = (hbytes sum kind key val seq).getD i 0) : dV L = val := by
  unfold dV
  rw [hL 6 (by omega), hL 7 (by omega)]
  simp [hbytes]
  omega
theorem hb_Q {sum kind key val seq : Int} (hs0 : 0 ≤ seq) (hs1 : seq ≤ 1099511627776) {L : Nat → Int} (hL : ∀ i, i < 16 → L i = (hbytes sum kind key val seq).getD i 0) : dQ L = seq := by
  unfold dQ
  rw [hL 8 (by omega), hL 9 (by omega), hL 10 (by omega), hL 11 (by omega), hL 12 (by omega), hL 13 (by omega), hL 14 (by omega), hL 15 (by omega)]
  simp [hbytes]
  omega
theorem hb_4 {sum kind key val seq : Int} (hs0 : 0 ≤ kind) (hs1 : kind ≤ 255) {L : Nat → Int} (hL : ∀ i, i < 16 → L i = (hbytes sum kind key val seq).getD i 0) : L 4 = kind := by
  rw [hL 4 (by omega)]
  simp [hbytes]
  omega
theorem hb_5 {sum kind key val seq : Int} (hs0 : 0 ≤ key) (hs1 : key ≤ 255) {L : Nat → Int} (hL : ∀ i, i < 16 → L i = (hbytes sum kind key val seq).getD i 0) : L 5 = key := by
  rw [hL 5 (by omega)]
  simp [hbytes]
  omega
theorem getD_app_l {l m : List Int} {i : Nat} (h : i < l.length) : (l ++ m).getD i 0 = l.getD i 0 := by
  rw [List.getD_eq_getElem?_getD, List.getElem?_append_left h, List.getD_eq_getElem?_getD]
theorem getD_take {l : List Int} {i n : Nat} (h : i < n) : (l.take n).getD i 0 = l.getD i 0 := by
  rw [List.getD_eq_getElem?_getD, List.getElem?_take, if_pos h, List.getD_eq_getElem?_getD]
theorem encF_hb (r : Rc) : encF r = hbytes (csI (rrest r)) r.kind r.key.size r.val.size r.seq ++ (sb r.key ++ sb r.val) := by
  rw [encF, hbytes_split, rrest, List.append_assoc]
/-- bytes that begin with a record's header -/
structure Begins (M : List Int) (r : Rc) : Prop where
  d : DOk (fun i => M.getD i 0)
  k : M.getD 4 0 = r.kind
  y : M.getD 5 0 = r.key.size
  V : dV (fun i => M.getD i 0) = r.val.size
  Q : dQ (fun i => M.getD i 0) = r.seq
  S : dS (fun i => M.getD i 0) = csI (rrest r)
theorem begins {M : List Int} {r : Rc} (h : r.Ok) (hL : ∀ i, i < 16 → M.getD i 0 = (encF r).getD i 0) : Begins M r := by
  have hS := csI_bd (rrest_bb r)
  have hk := hok_bounds h.hok
  have hL' : ∀ i, i < 16 → (fun i => M.getD i 0) i = (hbytes (csI (rrest r)) r.kind r.key.size r.val.size r.seq).getD i 0 := by
    intro i hi
    show M.getD i 0 = _
    rw [hL i hi, encF_hb, getD_app_l hi]
  have e4 := hb_4 (L := fun i => M.getD i 0) (by omega) (by omega) hL'
  have e5 := hb_5 (L := fun i => M.getD i 0) (by omega) (by omega) hL'
  have eV := hb_V (L := fun i => M.getD i 0) (by omega) (by omega) hL'
  have eQ := hb_Q (L := fun i => M.getD i 0) (by omega) (by omega) hL'
  have eS := hb_S (L := fun i => M.getD i 0) hS.1 hS.2 hL'
  refine ⟨?_, e4, e5, eV, eQ, eS⟩
  show HOk (M.getD 4 0) (M.getD 5 0) (dV fun i => M.getD i 0) (dQ fun i => M.getD i 0)
  rw [e4, e5, eV, eQ]
  exact h.hok
theorem Rc.Ok.ne3 {r : Rc} (h : r.Ok) : r.kind ≠ 3 := by obtain ⟨h1, _⟩ := h; omega
theorem Rc.Ok.le {r : Rc} (h : r.Ok) : r.size ≤ 560 := by obtain ⟨_, _, _, _, _, h6, h7⟩ := h; unfold Rc.size; omega
theorem decF_enc {r : Rc} (h : r.Ok) (more : List Int) : decF (encF r ++ more) = (r, (r.size : Int), 0) := by
  have hl := encF_length r
  have hb := begins (M := encF r ++ more) h (fun i hi => getD_app_l (by rw [hl, Rc.size]; omega))
  have hsz : (16 + (encF r ++ more).getD 5 0 + dV (fun i => (encF r ++ more).getD i 0)).toNat = r.size := by rw [hb.y, hb.V, Rc.size]; omega
  have hsz' : 16 + (encF r ++ more).getD 5 0 + dV (fun i => (encF r ++ more).getD i 0) = (r.size : Int) := by rw [hb.y, hb.V, Rc.size]; omega
  have ht : (encF r ++ more).take r.size = encF r := List.take_left' hl
  have h4 : (encF r).drop 4 = rrest r := List.drop_left' rfl
  have h16 : (encF r).drop 16 = sb r.key ++ sb r.val := by rw [encF_hb]; exact List.drop_left' rfl
  have hy : ((encF r ++ more).getD 5 0).toNat = r.key.size := by rw [hb.y]; omega
  have hkey : ((encF r ++ more).drop 16).take r.key.size = sb r.key := by
    rw [List.drop_append_of_le_length (by rw [hl, Rc.size]; omega), h16, List.append_assoc]
    exact List.take_left' (sb_length _)
  have hval : (sb r.key ++ sb r.val).drop r.key.size = sb r.val := List.drop_left' (sb_length _)
  unfold decF
  simp only []
  rw [if_neg (by rw [List.length_append, hl, Rc.size]; omega), if_neg (by rw [hb.k]; exact not_not_intro ⟨hb.d, h.ne3⟩), hsz, hsz', ht, h4, h16, hy, hkey, hval, str_sb, str_sb, hb.S, hb.k, hb.Q,
    if_neg (by rw [List.length_append, hl]; omega), if_neg (by simp), if_neg (by rw [h.2.2.2.1]; simp)]
theorem decF_short {r : Rc} (h : r.Ok) {i : Nat} (hi : i < r.size) : decF ((encF r).take i) = (Rc.zero, 0, 14) := by
  have hl := encF_length r
  have hl' : ((encF r).take i).length = i := by rw [List.length_take, hl]; omega
  unfold decF
  simp only []
  by_cases h16 : i < 16
  · rw [if_pos (by rw [hl']; exact h16)]
  · have hb := begins (M := (encF r).take i) h (fun j hj => getD_take (by omega))
    rw [if_neg (by rw [hl']; exact h16), if_neg (by rw [hb.k]; exact not_not_intro ⟨hb.d, h.ne3⟩), if_pos (by rw [hl', hb.y, hb.V]; unfold Rc.size at hi; omega)]
theorem decF_err (M : List Int) : (decF M).2.2 = 0 ∨ decF M = (Rc.zero, 0, 14) ∨ decF M = (Rc.zero, 0, 8) ∨ decF M = (Rc.zero, 0, 15) := by
  unfold decF
  simp only []
  split
  · exact .inr (.inl rfl)
  split
  · exact .inr (.inr (.inl rfl))
  split
  · exact .inr (.inl rfl)
  split
  · exact .inr (.inr (.inr rfl))
  split
  · exact .inr (.inr (.inl rfl))
  · exact .inl rfl
theorem take16 {M : List Int} (h : 16 ≤ M.length) (hB : BB M) : M.take 16 = hbytes (dS (fun i => M.getD i 0)) (M.getD 4 0) (M.getD 5 0) (dV (fun i => M.getD i 0)) (dQ (fun i => M.getD i 0)) := by
  have hr := hB.getD
  have r0 := hr 0 (by omega); have r1 := hr 1 (by omega); have r2 := hr 2 (by omega); have r3 := hr 3 (by omega)
  have r4 := hr 4 (by omega); have r5 := hr 5 (by omega); have r6 := hr 6 (by omega); have r7 := hr 7 (by omega)
  have r8 := hr 8 (by omega); have r9 := hr 9 (by omega); have r10 := hr 10 (by omega); have r11 := hr 11 (by omega)
  have r12 := hr 12 (by omega); have r13 := hr 13 (by omega); have r14 := hr 14 (by omega); have r15 := hr 15 (by omega)
  have ht : M.take 16 = [M.getD 0 0, M.getD 1 0, M.getD 2 0, M.getD 3 0, M.getD 4 0, M.getD 5 0, M.getD 6 0, M.getD 7 0, M.getD 8 0, M.getD 9 0, M.getD 10 0, M.getD 11 0, M.getD 12 0, M.getD 13 0, M.getD 14 0, M.getD 15 0] := by
    apply List.ext_getElem?
    intro i
    rw [List.getElem?_take]
    by_cases hi : i < 16
    · rw [if_pos hi]
      have hx : M[i]? = some (M.getD i 0) := by rw [List.getD_eq_getElem?_getD, List.getElem?_eq_getElem (by omega)]; rfl
      rw [hx]
      match i, hi with
      | 0, _ => rfl
      | 1, _ => rfl
      | 2, _ => rfl
      | 3, _ => rfl
      | 4, _ => rfl
      | 5, _ => rfl
      | 6, _ => rfl
      | 7, _ => rfl
      | 8, _ => rfl
      | 9, _ => rfl
      | 10, _ => rfl
      | 11, _ => rfl
      | 12, _ => rfl
      | 13, _ => rfl
      | 14, _ => rfl
      | 15, _ => rfl
      | n + 16, hi => omega
    · rw [if_neg hi, List.getElem?_eq_none (by simp; omega)]
  rw [ht]
  unfold hbytes dS dV dQ
  simp only []
  generalize M.getD 0 0 = c0 at *; generalize M.getD 1 0 = c1 at *; generalize M.getD 2 0 = c2 at *; generalize M.getD 3 0 = c3 at *
  generalize M.getD 4 0 = c4 at *; generalize M.getD 5 0 = c5 at *; generalize M.getD 6 0 = c6 at *; generalize M.getD 7 0 = c7 at *
  generalize M.getD 8 0 = c8 at *; generalize M.getD 9 0 = c9 at *; generalize M.getD 10 0 = c10 at *; generalize M.getD 11 0 = c11 at *
  generalize M.getD 12 0 = c12 at *; generalize M.getD 13 0 = c13 at *; generalize M.getD 14 0 = c14 at *; generalize M.getD 15 0 = c15 at *
  clear ht hr hB h
  congr 1
  · omega
  congr 1
  · omega
  congr 1
  · omega
  congr 1
  · omega
  congr 1
  · omega
  congr 1
  · omega
  congr 1
  · omega
  congr 1
  · omega
  congr 1
  · omega
  congr 1
  · omega
  congr 1
  · omega
  congr 1
  · omega
  congr 1
  · omega
  congr 1
  · omega
  congr 1
  · omega
  congr 1
  omega
theorem decF_ok {M : List Int} (hB : BB M) {r : Rc} {n : Int} (h : decF M = (r, n, 0)) : r.Ok ∧ n = r.size ∧ r.size ≤ M.length ∧ M.take r.size = encF r := by
  unfold decF at h
  simp only [] at h
  split at h
  · cases h
  rename_i h16
  split at h
  · cases h
  rename_i hd
  split at h
  · cases h
  rename_i hs
  split at h
  · cases h
  rename_i hc
  split at h
  · cases h
  rename_i hk
  have hd' := Decidable.not_not.1 hd
  obtain ⟨hd1, hd3⟩ := hd'
  have hb := hok_bounds (kind := M.getD 4 0) (key := M.getD 5 0) hd1
  have hc' := Decidable.not_not.1 hc
  have h16' : 16 ≤ M.length := by omega
  injection h with h1 h2
  injection h2 with h2 _
  subst h1 h2
  obtain ⟨Y, hY⟩ : ∃ Y : Nat, M.getD 5 0 = (Y : Int) := ⟨(M.getD 5 0).toNat, by omega⟩
  obtain ⟨V, hV⟩ : ∃ V : Nat, dV (fun i => M.getD i 0) = (V : Int) := ⟨(dV (fun i => M.getD i 0)).toNat, by omega⟩
  have t16 := take16 h16' hB
  have hd2 : HOk (M.getD 4 0) (M.getD 5 0) (dV (fun i => M.getD i 0)) (dQ (fun i => M.getD i 0)) := hd1
  rw [hY] at hs hc' hk t16 hb hd2 ⊢
  rw [hV] at hs hc' t16 hb hd2 ⊢
  have hn : ((16 + (Y : Int) + (V : Int))).toNat = 16 + Y + V := by omega
  rw [hn] at hc' ⊢
  rw [Int.toNat_natCast] at hk ⊢
  have hlen : 16 + Y + V ≤ M.length := by omega
  obtain ⟨KY, hKY⟩ : ∃ KY, KY = (M.drop 16).take Y := ⟨_, rfl⟩
  obtain ⟨VL, hVL⟩ : ∃ VL, VL = ((M.take (16 + Y + V)).drop 16).drop Y := ⟨_, rfl⟩
  have hKl : KY.length = Y := by rw [hKY, List.length_take, List.length_drop]; omega
  have hVl : VL.length = V := by rw [hVL, List.length_drop, List.length_drop, List.length_take]; omega
  have hKB : BB KY := by rw [hKY]; exact (hB.drop _).take _
  have hVB : BB VL := by rw [hVL]; exact ((hB.take _).drop _).drop _
  have hall : M.take (16 + Y + V) = M.take 16 ++ (KY ++ VL) := by
    have e1 : M.take (16 + Y + V) = (M.take (16 + Y + V)).take 16 ++ (M.take (16 + Y + V)).drop 16 := (List.take_append_drop 16 _).symm
    have e2 : (M.take (16 + Y + V)).take 16 = M.take 16 := by rw [List.take_take]; congr 1; omega
    have e3 : (M.take (16 + Y + V)).drop 16 = ((M.take (16 + Y + V)).drop 16).take Y ++ VL := by rw [hVL]; exact (List.take_append_drop Y _).symm
    have e4 : ((M.take (16 + Y + V)).drop 16).take Y = KY := by
      rw [hKY, List.drop_take, List.take_take]
      congr 1
      omega
    rw [e1, e2, e3, e4]
  rw [← hKY] at hk ⊢
  rw [← hVL]
  have sK : (strOfNums KY).size = Y := by rw [strOfNums_size, hKl]
  have sV : (strOfNums VL).size = V := by rw [strOfNums_size, hVl]
  have hsize : Rc.size ⟨M.getD 4 0, dQ (fun i => M.getD i 0), strOfNums KY, strOfNums VL⟩ = 16 + Y + V := by
    simp only [Rc.size, sK, sV]
  have hrr : rrest ⟨M.getD 4 0, dQ (fun i => M.getD i 0), strOfNums KY, strOfNums VL⟩ = (M.take (16 + Y + V)).drop 4 := by
    rw [hall, t16, hbytes_split, List.append_assoc]
    have : (le4 (dS (fun i => M.getD i 0)) ++ (hrest (M.getD 4 0) (Y : Int) (V : Int) (dQ (fun i => M.getD i 0)) ++ (KY ++ VL))).drop 4 = hrest (M.getD 4 0) (Y : Int) (V : Int) (dQ (fun i => M.getD i 0)) ++ (KY ++ VL) := List.drop_left' rfl
    rw [this]
    simp only [rrest, sK, sV, sb_str hKB, sb_str hVB]
  refine ⟨?_, by rw [hsize]; omega, by rw [hsize]; exact hlen, ?_⟩
  · refine ⟨?_, ?_⟩
    · show M.getD 4 0 = 1 ∨ (M.getD 4 0 = 2 ∧ (strOfNums VL).size = 0)
      rw [sV]
      unfold HOk at hd2
      omega
    · show 1 ≤ dQ (fun i => M.getD i 0) ∧ dQ (fun i => M.getD i 0) ≤ 1099511627776 ∧ keyB (strOfNums KY) = true ∧ 1 ≤ (strOfNums KY).size ∧ (strOfNums KY).size ≤ 32 ∧ (strOfNums VL).size ≤ 512
      rw [sK, sV]
      unfold HOk at hd2
      refine ⟨by omega, by omega, by simpa using hk, by omega, by omega, by omega⟩
  · rw [hsize, encF, hrr, hc', hall, t16, hbytes_split, List.append_assoc]
    rw [show (le4 (dS (fun i => M.getD i 0)) ++ (hrest (M.getD 4 0) (Y : Int) (V : Int) (dQ (fun i => M.getD i 0)) ++ (KY ++ VL))).drop 4 = hrest (M.getD 4 0) (Y : Int) (V : Int) (dQ (fun i => M.getD i 0)) ++ (KY ++ VL) from List.drop_left' rfl]
end Go.Proofs.Ytiobnhdcapfhgaa
