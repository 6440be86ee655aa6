/-
  HistoryTypes: for every list of numbers and every number the law returns true and changes nothing. No condition.
-/
import Derived.Test.YtohnoioblhkepaaOpen
import Derived.Test.YtohnoioblhkepaaWks
import Derived.Test.YtohnoioblhkepaaHp
import Derived.Test.YtohnoioblhkepaaMov
namespace Go.Proofs.Ytohnoioblhkepaa.historyTypes
open Go.ChangeShapes Go.WideShapes Go.ChangeAt Go.RowKit
open Go.ChangeMaps (open_string shut_string)
set_option linter.unusedSimpArgs false
set_option linter.unusedVariables false

open Go.Proofs.Ytohnoioblhkepaa.Hp (Is)
section
variable {H : Type} {enc : TypeId × Value → H} {w : World} {base b0 : Nat} {r : Reach} {v : Value} {d : DataW H} {p : List MemPlace}
set_option maxRecDepth 100000 in
/-- a slice of small numbers -/
theorem open_u16s (hv : Value.okWide Try.prog w r b0 43 v) (h : DataW.Trod enc Try.prog w base (fun _ => true) true 43 v d p) :
    ∃ (a : Option Addr) (len cap : Nat) (zs : List Int), v = .slice a len cap ∧ len ≤ cap ∧ cap ≤ maxLen ∧ len ≤ zs.length ∧ (∀ n ∈ zs, 0 ≤ n ∧ n ≤ 65535) ∧ (0 < len → ∃ b off : Nat, a = some ⟨b, off, none⟩ ∧ b < w.heap.size ∧ ∀ i, i < zs.length → w.cell? ⟨b, off + i, none⟩ = some (.int .u16 (zs.getD i 0))) := by
  obtain ⟨a, len, cap, rfl⟩ := okWide_slice Try.underlying43 hv
  obtain ⟨fuel, hf⟩ := h
  rcases open_ints Try.underlying43 Try.underlying28 (by kernel_rfl) hf with ⟨hcs, _⟩ | ⟨a', l, c, zs, hcs, hb, hl, hm, hzl, hx, hcell, hwf⟩
  · simp [Value.cells] at hcs
    obtain ⟨rfl, rfl, rfl⟩ := hcs
    exact ⟨none, 0, 0, [], rfl, Nat.le_refl _, by unfold maxLen; omega, by simp, by simp, fun h => absurd h (by omega)⟩
  · simp [Value.cells] at hcs
    obtain ⟨rfl, rfl, rfl⟩ := hcs
    have hzc : zs.length = cap := by simpa using hzl
    refine ⟨some a', len, cap, zs, rfl, hl, hm, by omega, fun n hn => bounds_u16 (hwf n hn), fun hlen => ?_⟩
    have h0 := hcell 0 (by omega)
    obtain ⟨b, off, spot⟩ := a'
    have hsp : spot = none := by simpa [Addr.add] using World.cell?_spot h0
    subst hsp
    refine ⟨b, off, rfl, ?_, fun i hi => ?_⟩
    · have := block_lt_of_cell h0
      simpa [Addr.add] using this
    · have := hcell i hi
      rwa [Addr.add_lit] at this
end
/-- the points of the list -/
def pts (zs : List Int) (k : Nat) : List (Int × Int) := (List.range k).map fun (i : Nat) => ((i : Int), zs.getD i 0)
theorem pts_succ (zs : List Int) (k : Nat) : pts zs (k + 1) = pts zs k ++ [((k : Int), zs.getD k 0)] := by simp [pts, List.range_succ]
theorem pts_at (zs : List Int) (k i : Nat) (h : i < k) : (pts zs k)[i]? = some ((i : Int), zs.getD i 0) := by
  unfold pts
  rw [List.getElem?_map, List.getElem?_range h]
  rfl
theorem pts_zero (zs : List Int) : pts zs 0 = [] := rfl

set_option maxHeartbeats 6400000 in
set_option maxRecDepth 100000 in
theorem walk {H : Type} {enc : TypeId × Value → H} (W : World) (base : Nat) {v0 v1 : Value} {d0 d1 : DataW H} {p0 p1 : List MemPlace} (o0 : Value.okWide Try.prog W .any base 43 v0) (h0 : DataW.Trod enc Try.prog W 0 (fun _ => true) true 43 v0 d0 p0) (o1 : Value.okWide Try.prog W .any base 28 v1) (h1 : DataW.Trod enc Try.prog W 0 (fun _ => true) true 28 v1 d1 p1) :
    Calls Try.prog 5 #[v0, v1] W fun e W' => e = .returned (.bool true) ∧ Below W.heap.size W W' := by
  obtain ⟨a, len, cap, zs, rfl, hlc, hcm, hlz, hzs, hcl⟩ := open_u16s o0 h0
  obtain ⟨fz, rfl, rfl, rfl, wf⟩ := open_int Try.underlying28 o1 h1
  have bf := bounds_u16 wf
  clear o0 h0 o1 h1 wf
  unfold maxLen at hcm
  obtain ⟨pp, hpp⟩ : ∃ pp : Nat, pp = min len 60 := ⟨_, rfl⟩
  have p1 : (if (60 : Int) < (len : Int) then (60 : Int) else (len : Int)) = (pp : Int) := by split <;> omega
  have p2 : pp ≤ 60 := by omega
  have p3 : pp ≤ len := by omega
  clear hpp
  have HZS := Lib.hid hzs
  have HCL := Lib.hid hcl
  clear hzs hcl
  go_enter Try.func5, Try.ntmps5
  go_wp2_with fail
  have hZ := Blk.new W 3 #[.int .i64 (-1 - fz), .int .i64 (100001 + fz), .int .i64 (-9223372036854775808), .int .i64 9223372036854775807]
  have hB0 := b_alloc (Below.refl _ W) (.cells #[.int .i64 (-1 - fz), .int .i64 (100001 + fz), .int .i64 (-9223372036854775808), .int .i64 9223372036854775807] 3)
  generalize W.alloc (.cells #[.int .i64 (-1 - fz), .int .i64 (100001 + fz), .int .i64 (-9223372036854775808), .int .i64 9223372036854775807] 3) = w0 at hZ hB0 ⊢
  have hz : ∀ k, k < 4 → ∃ z : Int, w0.cell? ⟨W.heap.size, k, none⟩ = some (.int .i64 z) ∧ (z < 0 ∨ 100000 < z) := by
    intro k hk
    rw [hZ.cell]
    match k, hk with
    | 0, _ => exact ⟨-1 - fz, rfl, .inl (by omega)⟩
    | 1, _ => exact ⟨100001 + fz, rfl, .inr (by omega)⟩
    | 2, _ => exact ⟨-9223372036854775808, rfl, .inl (by decide)⟩
    | 3, _ => exact ⟨9223372036854775807, rfl, .inr (by decide)⟩
  have HZ := Lib.hid hz
  clear hz hZ
  go_loopw [26] (fun i wr => ∃ k : Nat, k ≤ 4 ∧ i = .int .i64 k ∧ wr = w0) (fun i _ => 4 - (intOf i).toNat)
  case atStart => exact ⟨0, Nat.zero_le _, rfl, rfl⟩
  case round =>
    obtain ⟨k, hk, rfl, rfl⟩ := hrel
    by_cases hlt : k < 4
    · obtain ⟨z, hcz, hzz⟩ := HZ.out k hlt
      have hA := Hp.New_err z wr hzz
      have z1 : (k : Int) < 4 := by omega
      have z2 : (0 : Int) ≤ (k : Int) := by omega
      clear hzz
      go_wp2_with fail
      refine hA.mono ?_
      rintro e w' ⟨rfl, rfl⟩
      go_wp2_with fail
      go_roundw
      case rel => exact ⟨k + 1, by omega, by go_num, trivial⟩
      case measure => simp [intOf]; omega
    · obtain rfl : k = 4 := by omega
      have z3 : (pp : Int) ≤ (cap : Int) := by omega
      go_wp2_with fail
      refine (Hp.New_ok pp _ (by omega)).mono ?_
      rintro e w1 ⟨b, rfl, h1, hz1, hb1⟩
      have hB1 := b_then hB0 hb1
      have hz2 : W.heap.size ≤ b := Nat.le_trans hB0.size hz1
      clear hb1 hB0 hz1
      go_wp2_with fail
      go_loopw [57] (fun i wr => ∃ (k : Nat) (A : Option Addr) (cp : Nat), k ≤ pp ∧ i = .int .i64 k ∧ Is wr b b pp A k cp (pts zs k) ∧ Below W.heap.size W wr) (fun i _ => pp - (intOf i).toNat)
      case atStart => exact ⟨0, none, 0, Nat.zero_le _, rfl, by rw [pts_zero]; exact h1, hB1⟩
      case round =>
        clear h1 hB1
        obtain ⟨k, A, cp, hk, rfl, h, hB⟩ := hrel
        by_cases hlt2 : k < pp
        · obtain ⟨bm, om, rfl, hbm, hcc⟩ := HCL.out (by omega)
          have hc0 := (hB.cell hbm).trans (hcc k (by omega))
          have hzn := HZS.out (zs.getD k 0) (by rw [List.getD_eq_getElem?_getD, List.getElem?_eq_getElem (by omega)]; exact List.getElem_mem _)
          have hps := pts_succ zs k
          generalize zs.getD k 0 = zk at hc0 hzn hps
          have z1 : (k : Int) < (pp : Int) := by omega
          have z4 : (0 : Int) ≤ (k : Int) := by omega
          clear hcc
          go_wp2_with fail
          refine (Hp.Add_ok b b pp k cp A _ _ h k zk hlt2 (by omega) (by have := h.lt; omega)).mono ?_
          rintro e w2 ⟨A2, cp2, rfl, h2, hO2⟩
          have hB2 := h.kept hB hz2 (Nat.le_refl _) hO2
          rw [← hps] at h2
          clear h hB hO2 hps hc0
          go_wp2_with fail
          go_roundw
          case rel => exact ⟨k + 1, A2, cp2, by omega, by go_num, h2, hB2⟩
          case measure => simp [intOf]; omega
        · obtain rfl : k = pp := by omega
          go_wp2_with fail
          go_loopw [72] (fun i wr => ∃ (j : Nat), j ≤ k ∧ i = .int .i64 j ∧ Is wr b b k A k cp (pts zs k) ∧ Below W.heap.size W wr) (fun i _ => k - (intOf i).toNat)
          case atStart => exact ⟨0, Nat.zero_le _, rfl, h, hB⟩
          case round =>
            clear h hB
            obtain ⟨j, hj, rfl, h, hB⟩ := hrel
            by_cases hlt3 : j < k
            · obtain ⟨bm, om, rfl, hbm, hcc⟩ := HCL.out (by omega)
              have hc0 := (hB.cell hbm).trans (hcc j (by omega))
              have hzn := HZS.out (zs.getD j 0) (by rw [List.getD_eq_getElem?_getD, List.getElem?_eq_getElem (by omega)]; exact List.getElem_mem _)
              have hpa := pts_at zs k j hlt3
              generalize zs.getD j 0 = zk at hc0 hzn hpa
              have hA := Hp.At_ok b b k k cp A _ _ h j _ _ hpa
              have z1 : (j : Int) < (k : Int) := by omega
              have z4 : (0 : Int) ≤ (j : Int) := by omega
              clear hcc hpa
              go_wp2_with fail
              refine hA.mono ?_
              rintro e w3 ⟨rfl, hb3⟩
              have h3 := (h.later hb3).later (b_alloc (Below.refl _ _) (.cells #[.int .i64 j, .int .i64 zk] 48))
              have hB3 := b_alloc (b_then hB hb3) (.cells #[.int .i64 j, .int .i64 zk] 48)
              clear hA h hB hb3 hc0
              go_wp2_with fail
              go_roundw
              case rel => exact ⟨j + 1, by omega, by go_num, h3, hB3⟩
              case measure => simp [intOf]; omega
            · obtain rfl : j = k := by omega
              go_wp2_with fail
              refine (Hp.New_ok 100000 _ (by omega)).mono ?_
              rintro e w2 ⟨b2, rfl, d2, hz3, hb2⟩
              have h2 := h.later hb2
              have hB2 := b_then hB hb2
              have hb2l : W.heap.size ≤ b2 := Nat.le_trans hB.size hz3
              clear h hB hb2
              go_wp2_with fail
              refine (Hp.Add_full b b j j cp A _ _ h2 0 0 (Nat.le_refl _)).mono ?_
              rintro e w3 ⟨rfl, hb3⟩
              have d3 := d2.later hb3
              have hB3 := b_then hB2 hb3
              clear h2 hB2 d2 hb3
              go_wp2_with fail
              refine (Hp.Add_ok b2 b2 100000 0 0 none [] _ d3 0 0 (by decide) (by decide) (by have := d3.lt; omega)).mono ?_
              rintro e w4 ⟨A4, cp4, rfl, d4, hO4⟩
              have hB4 := d3.kept hB3 hb2l (Nat.le_refl _) hO4
              clear d3 hB3 d4 hO4
              go_wp2_with fail
              refine (works_true _).mono ?_
              rintro e wz ⟨rfl, hbz⟩
              go_wp2_with fail
              go_ret
              exact ⟨rfl, b_then hB4 hbz⟩

set_option maxRecDepth 100000 in
theorem lifted (os : Os) (started : os.Started) (H : Type) (enc : TypeId × Value → H) :
    ReturnsInHanded {} Try.checked os 5 .any (Rows.historyTypesSpec.pre6 enc Try.prog Try.f5 Rows.historyTypesRow.domain false) (Rows.historyTypesSpec.post enc Try.prog Try.f5 false true false false) := by
  refine returnsInHanded_of_change (C := Try.checked) own started (by kernel_rfl) Try.func5
    (ChangeSpec.witness6 (enc := enc) (C := Try.checked) false ⟨#[], #[.slice none 0 0, .int .u16 0], []⟩ 8 (by kernel_rfl) (by kernel_rfl) (by kernel_rfl) (by kernel_rfl)) ?_
  intro W base args ds gs before hval0 hW hcnd _
  have hval : ∀ (j : Nat) t v, Try.f5.params[j]? = some t → args[j]? = some v → Value.okWide Try.prog W .any base t v := hval0
  have hW' := hW
  obtain ⟨p, q, hA0, hV, rfl, hfz, hnd⟩ := hW
  have hA : DataW.TrodAll enc Try.prog W 0 (fun _ => true) true Try.f5.params.toList args.toList ds p := hA0
  rw [Try.params5] at hA hval
  obtain ⟨v0, vs0, d0, ds0, p0, q0, hargs, rfl, rfl, h0, r0⟩ := trodAll_cons hA
  obtain ⟨v1, vs1, d1, ds1, p1, q1, rfl, rfl, rfl, h1, r1⟩ := trodAll_cons r0
  obtain ⟨rfl, rfl, rfl⟩ := trodAll_nil r1
  obtain rfl : args = #[v0, v1] := by cases args; simp_all
  obtain ⟨rfl, rfl⟩ := trodVars_none hV
  refine (walk (H := H) (enc := enc) W base (hval 0 43 v0 rfl rfl) h0 (hval 1 28 v1 rfl rfl) h1).mono fun e W' ⟨he, bel⟩ => ?_
  subst he
  exact ⟨_, rfl, _, _, _, [], _, [], hW', trodAll_mk1 (shut_bool Try.underlying4 _), (trodAll_cons_mk (Below.trod laidOut (by kernel_rfl) (of_decide_eq_true (by kernel_rfl)) h0 bel (lt_of_Trod h0)) (trodAll_cons_mk (Below.trod laidOut (by kernel_rfl) (of_decide_eq_true (by kernel_rfl)) h1 bel (lt_of_Trod h1)) trodAll_mk0)), rfl, bel.frame _, fun h => by cases h⟩

/-- HistoryTypes: for every list of numbers and every number the law returns true and changes nothing. No condition. -/
theorem proved : Rows.HistoryTypesSaid :=
  OpenClaim.holds_of_wide 5 Try.f5 rfl rfl rfl rfl rfl rfl rfl ⟨rfl, rfl, rfl, rfl, rfl⟩ rfl rfl rfl rfl rfl (by kernel_rfl) Try.func5 (by kernel_rfl)
    (of_decide_eq_true (by kernel_rfl)) (by unfold Func.isWrapper; first | (rw [if_pos (by decide +kernel)]; kernel_rfl) | (rw [if_neg (by decide +kernel)]; exact ⟨rfl, rfl⟩))
    (fun os started H enc _ => lifted os started H enc)
#print axioms proved
end Go.Proofs.Ytohnoioblhkepaa.historyTypes
