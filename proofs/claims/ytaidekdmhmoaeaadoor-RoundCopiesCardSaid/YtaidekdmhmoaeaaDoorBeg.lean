/-
  Begin of a round.
-/
import Derived.Test.YtaidekdmhmoaeaaDoorPop
import Derived.Test.YtaidekdmhmoaeaaDoorEq
namespace Go.Proofs.YtaidekdmhmoaeaaDoor.Rd
open Go.RowKit Bt
set_option linter.unusedVariables false
set_option linter.unusedSimpArgs false
/-- is a slot there? -/
def inn (s : Nat) (x : Int) : Bool := decide (0 ≤ x ∧ x < (s : Int))
theorem clos_any (b s M : Nat) (N : Int) (Bn : Nat) (x : Int) (w : World) (h : Is w b s M N) (hc : w.cell? ⟨Bn, 0, none⟩ = some (.pointer (some ⟨b, 0, none⟩))) : Calls Tryd.prog 30 #[.int .i64 x, .pointer (some ⟨Bn, 0, none⟩)] w fun e w' => e = .returned (.bool (!inn s x)) ∧ w = w' := by
  have he : Calls Tryd.prog 31 #[.pointer (some ⟨b, 0, none⟩), .int .i64 x] w fun e w' => e = .returned (.bool (inn s x)) ∧ w = w' := exists_any b s M N x w h
  generalize inn s x = v at he ⊢
  go_enter Tryd.func30, Tryd.ntmps30
  go_wp2_with fail
  refine he.mono ?_
  rintro e w' ⟨rfl, rfl⟩
  clear he
  go_wp2_with fail
  go_ret
  exact ⟨rfl, rfl⟩
set_option maxHeartbeats 1600000 in
theorem ixf_any (b s M : Nat) (N : Int) (Bn : Nat) (A : Option Addr) (n cap : Nat) (xs : List Int) (w : World) (h : Is w b s M N) (hc : w.cell? ⟨Bn, 0, none⟩ = some (.pointer (some ⟨b, 0, none⟩))) (hx : RI w A (xs.map (Value.int .i64))) (hl : xs.length = n) (hn : n ≤ maxLen) :
    Calls Tryd.prog 43 #[.slice A n cap, .func (.func 30) #[] #[.pointer (some ⟨Bn, 0, none⟩)]] w fun e w' => (∃ r : Int, e = .returned (.int .i64 r) ∧ (0 ≤ r ↔ xs.all (inn s) = false)) ∧ w = w' := by
  unfold maxLen at hn
  have HL := Lib.hid hl
  clear hl
  have hcl := fun x => clos_any b s M N Bn x w h hc
  clear h hc
  go_enter Tryd.func43, Tryd.ntmps43
  go_wp2_with fail
  go_loopw [8] (fun i wr => ∃ k : Nat, k ≤ n ∧ i = .int .i64 k ∧ (∀ j x, j < k → xs[j]? = some x → inn s x = true) ∧ wr = w) (fun i _ => n - (intOf i).toNat)
  case atStart => exact ⟨0, Nat.zero_le _, rfl, fun j x hj => absurd hj (Nat.not_lt_zero _), rfl⟩
  case round =>
    obtain ⟨k, hk, rfl, hg, rfl⟩ := hrel
    by_cases hlt : k < n
    · obtain ⟨x, hxk⟩ : ∃ x, xs[k]? = some x := ⟨_, List.getElem?_eq_getElem (by have := HL.out; omega)⟩
      obtain ⟨b1, o1, rfl, _, hc1⟩ := hx.resolve_left (by intro h; rw [List.map_eq_nil_iff] at h; subst h; simp at hxk)
      have e1 : wr.cell? ⟨b1, o1 + k, none⟩ = some ((Value.int .i64) x) := hc1 k _ (by rw [List.getElem?_map, hxk]; rfl)
      have z0 : (0 : Int) ≤ (k : Int) := by omega
      have z1 : (k : Int) < (n : Int) := by omega
      have HG := Lib.hid hg
      have HX := Lib.hid hxk
      have hq := hcl x
      clear hg hxk hx hc1 hcl
      cases hi : inn s x with
      | true =>
        rw [hi] at hq
        have HI := Lib.hid hi
        clear hi
        go_wp2_with fail
        refine hq.mono ?_
        rintro e w' ⟨rfl, rfl⟩
        clear hq
        go_wp2_with fail
        go_roundw
        case rel => exact ⟨k + 1, by omega, by go_num, fun j y hj hy => by
          rcases Nat.lt_or_ge j k with h | h
          · exact HG.out j y h hy
          · obtain rfl : j = k := by omega
            rw [HX.out] at hy
            injection hy with hy
            subst hy
            exact HI.out, trivial⟩
        case measure => simp [intOf]; omega
      | false =>
        rw [hi] at hq
        have HI := Lib.hid hi
        clear hi
        go_wp2_with fail
        refine hq.mono ?_
        rintro e w' ⟨rfl, rfl⟩
        clear hq
        go_wp2_with fail
        go_ret
        refine ⟨⟨_, rfl, ⟨fun _ => ?_, fun _ => by omega⟩⟩, rfl⟩
        rw [List.all_eq_false]
        exact ⟨x, List.mem_of_getElem? HX.out, by rw [HI.out]; simp⟩
    · obtain rfl : k = n := by omega
      go_wp2_with fail
      go_ret
      refine ⟨⟨_, rfl, ⟨fun h => absurd h (by decide), fun h => ?_⟩⟩, rfl⟩
      rw [List.all_eq_false] at h
      obtain ⟨x, hm, hb⟩ := h
      obtain ⟨j, hj⟩ := List.mem_iff_getElem?.1 hm
      have := HL.out
      have hj' := (List.getElem?_eq_some_iff.1 hj).1
      exact absurd (hg j x (by omega) hj) hb
theorem cf_any (b s M : Nat) (N : Int) (Bn : Nat) (A : Option Addr) (n cap : Nat) (xs : List Int) (w : World) (h : Is w b s M N) (hc : w.cell? ⟨Bn, 0, none⟩ = some (.pointer (some ⟨b, 0, none⟩))) (hx : RI w A (xs.map (Value.int .i64))) (hl : xs.length = n) (hn : n ≤ maxLen) :
    Calls Tryd.prog 29 #[.slice A n cap, .func (.func 30) #[] #[.pointer (some ⟨Bn, 0, none⟩)]] w fun e w' => e = .returned (.bool (!xs.all (inn s))) ∧ w = w' := by
  have hi := ixf_any b s M N Bn A n cap xs w h hc hx hl hn
  go_enter Tryd.func29, Tryd.ntmps29
  go_wp2_with fail
  refine hi.mono ?_
  rintro e w' ⟨⟨r, rfl, hr⟩, rfl⟩
  clear hi
  cases ha : xs.all (inn s) with
  | true =>
    have h1 : decide (0 ≤ r) = false := decide_eq_false fun h => by have := hr.1 h; rw [ha] at this; cases this
    clear hr
    have HA := Lib.hid ha
    clear ha
    go_wp2_with fail
    go_ret
    exact ⟨by rw [HA.out]; rfl, rfl⟩
  | false =>
    have h1 : 0 ≤ r := hr.2 ha
    clear hr
    have HA := Lib.hid ha
    clear ha
    go_wp2_with fail
    go_ret
    exact ⟨by rw [HA.out]; rfl, rfl⟩
theorem or_bit' {M k : Nat} (hk : k < 32) (hM : M < 2 ^ 32) : bits BinOp.or IntKind.u32 (M : Int) (2 ^ k % 4294967296) = ((M ||| 2 ^ k : Nat) : Int) := by
  have h1 : 2 ^ k < 2 ^ 32 := Nat.pow_lt_pow_right (by omega) hk
  have e1 : ((2 ^ k : Nat) : Int) = (2 : Int) ^ k := by simp
  rw [← e1]
  generalize 2 ^ k = q at h1 ⊢
  have e : ((q : Int) % 4294967296) = (q : Int) := by omega
  rw [e]
  exact u32_or_nat M q hM h1
theorem orAll_snoc (M : Nat) (xs : List Nat) (x : Nat) : orAll M (xs ++ [x]) = orAll M xs ||| 2 ^ x := by simp [orAll]
def ints (ks : List Nat) : List Int := ks.map fun (k : Nat) => (k : Int)
theorem ints_in {s : Nat} {ks : List Nat} (h : ∀ k ∈ ks, k < s) : (ints ks).all (inn s) = true := by
  rw [List.all_eq_true]
  intro x hx
  obtain ⟨k, hk, rfl⟩ := List.mem_map.1 hx
  have := h k hk
  exact decide_eq_true ⟨by omega, by omega⟩
theorem of_in {s : Nat} {xs : List Int} (h : xs.all (inn s) = true) : ∃ ks : List Nat, xs = ints ks ∧ ∀ k ∈ ks, k < s := by
  refine ⟨xs.map Int.toNat, ?_, fun k hk => ?_⟩
  · unfold ints
    rw [List.map_map]
    refine (List.map_id' xs).symm.trans (List.map_congr_left fun x hx => ?_)
    have := of_decide_eq_true (List.all_eq_true.1 h x hx)
    show x = ((x.toNat : Nat) : Int)
    omega
  · obtain ⟨x, hx, rfl⟩ := List.mem_map.1 hk
    have := of_decide_eq_true (List.all_eq_true.1 h x hx)
    omega
theorem beg_no (p : Option Addr) (w : World) (h : No p w) (A : Option Addr) (n cap : Nat) : Calls Tryd.prog 9 #[.pointer p, .slice A n cap] w fun e w' => e = .returned (.int .i64 1) ∧ Below w.heap.size w w' := by
  have hb := b_alloc (Below.refl w.heap.size w) (.cells #[.pointer p] 24)
  have hv := valid_no p _ (h.later hb)
  go_enter Tryd.func9, Tryd.ntmps9
  go_wp2_with fail
  refine hv.mono ?_
  rintro e w' ⟨rfl, rfl⟩
  clear hv
  go_wp2_with fail
  go_ret
  exact ⟨rfl, hb⟩
theorem beg_state (b s M : Nat) (N : Int) (w : World) (h : Is w b s M N) (h0 : M ≠ 0) (A : Option Addr) (n cap : Nat) : Calls Tryd.prog 9 #[.pointer (some ⟨b, 0, none⟩), .slice A n cap] w fun e w' => e = .returned (.int .i64 7) ∧ Below w.heap.size w w' := by
  have hb := b_alloc (Below.refl w.heap.size w) (.cells #[.pointer (some ⟨b, 0, none⟩)] 24)
  have hv := valid_any b s M N _ (h.later hb)
  have hc := (h.later hb).blk.cell
  have z : ((M : Int) != 0) = true := by rw [bne_iff_ne]; omega
  clear h0
  go_enter Tryd.func9, Tryd.ntmps9
  go_wp2_with fail
  refine hv.mono ?_
  rintro e w' ⟨rfl, rfl⟩
  clear hv
  go_wp2_with fail
  go_ret
  exact ⟨rfl, hb⟩
theorem beg_range (b s : Nat) (N : Int) (w : World) (h : Is w b s 0 N) (A : Option Addr) (n cap : Nat) (xs : List Int) (hx : RI w A (xs.map (Value.int .i64))) (hl : xs.length = n) (hn : n ≤ maxLen) (ha : xs.all (inn s) = false) : Calls Tryd.prog 9 #[.pointer (some ⟨b, 0, none⟩), .slice A n cap] w fun e w' => e = .returned (.int .i64 3) ∧ Below w.heap.size w w' := by
  have hb := b_alloc (Below.refl w.heap.size w) (.cells #[.pointer (some ⟨b, 0, none⟩)] 24)
  have hk := Blk.new w 24 #[.pointer (some ⟨b, 0, none⟩)]
  have h1 := h.later hb
  have hv := valid_any b s 0 N _ h1
  have hf := cf_any b s 0 N w.heap.size A n cap xs _ h1 (hk.cell 0) (hx.later hb) hl hn
  rw [ha] at hf
  have hc := h1.blk.cell
  clear ha hx hl hk
  go_enter Tryd.func9, Tryd.ntmps9
  go_wp2_with fail
  refine hv.mono ?_
  rintro e w' ⟨rfl, rfl⟩
  clear hv
  go_wp2_with fail
  refine hf.mono ?_
  rintro e w' ⟨rfl, rfl⟩
  clear hf
  go_wp2_with fail
  go_ret
  exact ⟨rfl, hb⟩
set_option maxHeartbeats 3200000 in
theorem beg_any (b s : Nat) (N : Int) (w : World) (h : Is w b s 0 N) (hN : 0 ≤ N ∧ N ≤ 100000) (A : Option Addr) (n cap : Nat) (ks : List Nat) (hx : RI w A ((ints ks).map (Value.int .i64))) (hl : ks.length = n) (hn : n ≤ maxLen) (hk : ∀ k ∈ ks, k < s) :
    Calls Tryd.prog 9 #[.pointer (some ⟨b, 0, none⟩), .slice A n cap] w fun e w' => (dup 0 ks = true ∧ e = .returned (.int .i64 6) ∧ Below w.heap.size w w') ∨ (dup 0 ks = false ∧ e = .returned (.int .i64 0) ∧ Is w' b s (orAll 0 ks) (N + 1) ∧ Only b none w w') := by
  have hb := b_alloc (Below.refl w.heap.size w) (.cells #[.pointer (some ⟨b, 0, none⟩)] 24)
  have hbx := Blk.new w 24 #[.pointer (some ⟨b, 0, none⟩)]
  have h1 := h.later hb
  have hx1 := hx.later hb
  have hv := valid_any b s 0 N _ h1
  have hf := cf_any b s 0 N w.heap.size A n cap (ints ks) _ h1 (hbx.cell 0) hx1 (by rw [← hl]; simp [ints]) hn
  rw [ints_in hk] at hf
  have hc := h1.blk.cell
  have hcb := hbx.cell
  have n1 := hN.1
  have n2 := hN.2
  have hs2 := h.s2
  have hm : orAll 0 ks < 2 ^ 32 := orAll_lt ks 0 (by decide) fun k hk' => by have := hk k hk'; omega
  have hbl := h.lt
  unfold maxLen at hn
  have HL := Lib.hid hl
  have HK := Lib.hid hk
  have HM := Lib.hid hm
  clear hl hk hN hx hm
  go_enter Tryd.func9, Tryd.ntmps9
  go_wp2_with fail
  refine hv.mono ?_
  rintro e w' ⟨rfl, rfl⟩
  clear hv
  go_wp2_with fail
  refine hf.mono ?_
  rintro e w' ⟨rfl, rfl⟩
  clear hf
  go_wp2_with fail
  generalize w.alloc (.cells #[.pointer (some ⟨b, 0, none⟩)] 24) = wA at *
  clear hc hcb
  go_loopw [5, 24] (fun v i wr => ∃ k : Nat, k ≤ n ∧ i = .int .i64 k ∧ v = .int .u32 (orAll 0 (ks.take k) : Nat) ∧ wr = wA) (fun _ i _ => n - (intOf i).toNat)
  case atStart => exact ⟨0, Nat.zero_le _, rfl, rfl, rfl⟩
  case round =>
    obtain ⟨k, hk, rfl, rfl, rfl⟩ := hrel
    by_cases hlt : k < n
    · obtain ⟨x, hxk⟩ : ∃ x, ks[k]? = some x := ⟨_, List.getElem?_eq_getElem (by have := HL.out; omega)⟩
      have hxi : ((ints ks).map (Value.int .i64))[k]? = some (.int .i64 x) := by simp [ints, hxk]
      obtain ⟨b1, o1, rfl, _, hc1⟩ := hx1.resolve_left (by intro h; rw [h] at hxi; simp at hxi)
      have e1 : wr.cell? ⟨b1, o1 + k, none⟩ = some (.int .i64 x) := hc1 k _ hxi
      have hxs := HK.out x (List.mem_of_getElem? hxk)
      have htk : orAll 0 (ks.take (k + 1)) = orAll 0 (ks.take k) ||| 2 ^ x := by
        rw [List.take_add_one, hxk]
        exact orAll_snoc _ _ _
      have hmk : orAll 0 (ks.take k) < 2 ^ 32 := orAll_lt _ 0 (by decide) fun y hy => by have := HK.out y (List.mem_of_mem_take hy); omega
      have hob := or_bit' (M := orAll 0 (ks.take k)) (k := x) (by omega) hmk
      rw [← htk] at hob
      have z0 : (0 : Int) ≤ (k : Int) := by omega
      have z1 : (k : Int) < (n : Int) := by omega
      have z2 : (0 : Int) ≤ (x : Int) := by omega
      have z3 : (x : Int) ≤ 31 := by omega
      generalize orAll 0 (ks.take k) = Mk at hob
      clear hxk hxi hc1 htk hmk
      go_wp2_with fail
      go_roundw
      case rel => exact ⟨k + 1, by omega, by go_num, rfl, trivial⟩
      case measure => simp [intOf]; omega
    · obtain rfl : k = n := by omega
      rw [List.take_of_length_le (by rw [HL.out]; exact Nat.le_refl _)]
      have hp := pop_any (orAll 0 ks) HM.out wr
      have hob := or_bits ks 0 (fun x hx => by have := HK.out x hx; omega)
      rw [slots_zero, List.length_nil, Nat.zero_add, HL.out] at hob
      have hs0 : orAll 0 ks < 2 ^ s := by
        apply Nat.lt_pow_two_of_testBit
        intro i hi
        rw [orAll_bit, Nat.zero_testBit, Bool.false_or, decide_eq_false_iff_not]
        intro hm
        have := HK.out i hm
        omega
      generalize hS : (slots (orAll 0 ks)).length = S at *
      clear hS
      cases hd : dup 0 ks with
      | true =>
        have hne : S ≠ k := fun e => by have := hob.2.1 e; rw [hd] at this; cases this
        have z : ((S : Int) != (k : Int)) = true := by rw [bne_iff_ne]; omega
        clear hne hob
        have HD := Lib.hid hd
        clear hd
        go_wp2_with fail
        refine hp.mono ?_
        rintro e w2 ⟨rfl, q, rfl⟩
        clear hp
        have hb2 := below_drewN hb q
        go_wp2_with fail
        go_ret
        exact .inl ⟨HD.out, rfl, hb2⟩
      | false =>
        have he := hob.2.2 hd
        have z : ((S : Int) != (k : Int)) = false := by rw [bne_eq_false_iff_eq]; omega
        clear he hob
        have HD := Lib.hid hd
        clear hd
        go_wp2_with fail
        refine hp.mono ?_
        rintro e w2 ⟨rfl, q, rfl⟩
        clear hp
        have hb2 := below_drewN hb q
        have h2 := h1.later (below_drewN (Below.refl _ _) q)
        have hbx2 := hbx.below (below_drewN (Below.refl _ _) q) hbx.lt
        generalize World.drewN wr q = w2 at *
        have hc := h2.blk.cell
        have hf := h2.blk.frozen
        have hcb := (hbx2.far (p := ⟨b, 1, none⟩) (by show w.heap.size ≠ b; omega) (.int .u32 (orAll 0 ks : Nat))).cell
        have hcb' := hbx2.cell
        have hc2 := (h2.blk.set_ 1 (.int .u32 (orAll 0 ks : Nat))).cell
        have hf2 := (h2.blk.set_ 1 (.int .u32 (orAll 0 ks : Nat))).frozen
        go_wp2_with fail
        go_ret
        exact .inr ⟨HD.out, rfl, ⟨(h2.blk.set_ 1 _).set_ 2 _, h2.s1, h2.s2, hs0⟩, ((Only.of_below hb2 b none).set_ 1 _).set_ 2 _⟩
end Go.Proofs.YtaidekdmhmoaeaaDoor.Rd
