/-
  The checksum of the program: its table, its update.
-/
import Derived.Test.YtiobnhdcapfhgaaRecm
import Derived.Laws.BitsAllLaws
import Derived.Deep.WholeRow
import Derived.Test.YtiobnhdcapfhgaaUp
import Derived.Deep.LoopGhost
import Derived.Laws.ResultCell
namespace Go.Proofs.Ytiobnhdcapfhgaa
open Go.RowKit
set_option linter.unusedVariables false

def tabC (f : Nat → Nat) : Array Value := Array.ofFn (n := 256) fun i => Value.int .u32 ((f i.1 : Nat) : Int)
def tabU (k : Nat) : Nat → Nat := fun i => if i < k then ctab i else 0
theorem tabC_size (f : Nat → Nat) : (tabC f).size = 256 := by simp [tabC]
theorem tabC_at (f : Nat → Nat) (i : Nat) (h : i < 256) : (tabC f)[i]? = some (.int .u32 ((f i : Nat) : Int)) := by
  rw [Array.getElem?_eq_getElem (by rw [tabC_size]; exact h)]
  simp [tabC]
theorem tabC_ext {f : Nat → Nat} {a : Array Value} (hs : a.size = 256) (h : ∀ i, i < 256 → a[i]? = some (.int .u32 ((f i : Nat) : Int))) : a = tabC f := by
  apply Array.ext_getElem?
  intro i
  by_cases hi : i < 256
  · rw [h i hi, tabC_at f i hi]
  · rw [Array.getElem?_eq_none (by omega), Array.getElem?_eq_none (by rw [tabC_size]; omega)]
theorem tabC_zero : Array.replicate 256 (Value.int .u32 0) = tabC (tabU 0) :=
  tabC_ext (by simp) fun i hi => by rw [Array.getElem?_replicate, if_pos hi]; rfl
theorem tabC_set (k : Nat) (h : k < 256) : (tabC (tabU k)).setIfInBounds k (.int .u32 ((ctab k : Nat) : Int)) = tabC (tabU (k + 1)) :=
  tabC_ext (by rw [Array.size_setIfInBounds, tabC_size]) fun i hi => by
    rw [Array.getElem?_setIfInBounds]
    by_cases he : k = i
    · subst he
      rw [if_pos rfl, if_pos (by rw [tabC_size]; exact h)]
      simp [tabU]
    · rw [if_neg he, tabC_at _ i hi]
      have : (i < k) = (i < k + 1) := by apply propext; omega
      simp only [tabU, this]
theorem tabC_all : tabC (tabU 256) = tabC ctab :=
  tabC_ext (tabC_size _) fun i hi => by rw [tabC_at _ i hi]; simp [tabU, hi]
theorem tabC_one (f : Nat → Nat) : (tabC f).all (·.oneCell') = true := by
  rw [Array.all_eq_true]
  intro i hi
  simp [tabC]
  rfl
attribute [irreducible] tabC
theorem csteps_snoc (k x : Nat) : csteps (k + 1) x = cstep (csteps k x) := by rw [csteps_add]; rfl
theorem and1 (x : Nat) (h : x < 4294967296) : bits .and .u32 (x : Int) 1 = ((x % 2 : Nat) : Int) := by
  have := u32_and_nat x 1 h (by omega)
  rw [Nat.and_one_is_mod] at this
  exact this

theorem b_setRow {a w : World} (h : Below a.heap.size a w) {g : Nat} (hg : a.heap.size ≤ g) (cs : Array Value) : Below a.heap.size a (w.setRow g cs) :=
  ⟨h.os, h.tape, h.output, by rw [size_setRow]; exact h.size, fun k hk => (setRow_other w g k cs (by omega)).trans (h.block k hk)⟩

set_option maxHeartbeats 4000000 in
set_option maxRecDepth 100000 in
theorem table_any (w : World) : Calls Try.prog 64 #[] w fun e w' => e = .returned (.agg (tabC ctab)) ∧ Below w.heap.size w w' := by
  have hv : ∀ w, (zeroValue 109).run Try.prog w = .ok (.agg (Array.replicate 256 (.int .u32 0))) w := fun w => by kernel_rfl
  rw [tabC_zero] at hv
  have hi : (Try.prog.info? 109).map (·.size) = some 256 := by kernel_rfl
  go_enter Try.func64, Try.ntmps64
  go_wp2_with fail
  clear hv
  go_loopg [4] 256 (fun g s4 wx => ∃ i : Nat, i + g = 256 ∧ s4 = .int .i64 i ∧ wx = (w.alloc (.cells (tabC (tabU 0)) 109)).alloc (.cells (tabC (tabU i)) 109))
  case atStart => exact ⟨0, by omega, rfl, rfl⟩
  case round =>
    obtain ⟨i, hig, rfl, rfl⟩ := hrel
    cases gk with
    | zero =>
      obtain rfl : i = 256 := by omega
      rw [tabC_all]
      have h1 : ((w.alloc (.cells (tabC (tabU 0)) 109)).alloc (.cells (tabC ctab) 109)).heap[w.heap.size + 1]? = some (.cells (tabC ctab) 109 (0, 0)) := alloc_here' (by simp)
      have h0 : ((w.alloc (.cells (tabC (tabU 0)) 109)).alloc (.cells (tabC ctab) 109)).heap[w.heap.size]? = some (.cells (tabC (tabU 0)) 109 (0, 0)) := alloc_old' (alloc_here' rfl)
      go_wp2_with (first
        | (refine wpList_load_row rfl 109 (.tmp 1) rfl (w.heap.size + 1) rfl 109 (tabC ctab) (0, 0) _ h1 Try.underlying109 rfl (by rw [tabC_size]; exact hi) ?_)
        | (refine wpList_store_row rfl 109 (.tmp 0) (.tmp 24) rfl w.heap.size (tabC ctab) rfl rfl 109 (tabC (tabU 0)) h0 (by rw [tabC_size]; exact hi) (by rw [tabC_size, tabC_size]) (tabC_one _) ?_))
      refine bodyPost_ret (v := .agg (tabC ctab)) (results_cell_row rfl _ _ w.heap.size 109 (tabC ctab) (0, 0) _ rfl (setRow_heap _ _ _ _ _ _ h0) Try.underlying109 rfl (by rw [tabC_size]; exact hi)) rfl ⟨rfl, ?_⟩
      exact b_setRow (b_alloc (b_alloc (Below.refl _ _) _) _) (Nat.le_refl _) _
    | succ g =>
      have hlt : (i : Int) < 256 := by omega
      have hi8 : i < 256 := by omega
      have hcell := tabC_at (tabU i) i hi8
      have hset := tabC_set i hi8
      have hw : IntKind.u32.wrap (i : Int) = (i : Int) := by rw [IntKind.wrap_u32']; omega
      go_wp2_with fail
      go_loop [3, 9] (fun x j => ∃ k : Nat, k ≤ 8 ∧ j = .int .i64 k ∧ x = .int .u32 ((csteps k i : Nat) : Int)) (fun _ j => 8 - (intOf j).toNat)
      case atStart => exact ⟨0, by omega, rfl, rfl⟩
      case round =>
        obtain ⟨k, hk, rfl, rfl⟩ := hrel
        by_cases hk8 : k < 8
        · have hX : csteps k i < 4294967296 := csteps_lt (by omega)
          have HS := Lib.hid (csteps_snoc k i)
          clear hcell hset
          generalize csteps k i = X at hX HS ⊢
          have hA := and1 X hX
          rcases Nat.mod_two_eq_zero_or_one X with hp | hp
          · rw [hp] at hA
            have HC : Hid (cstep X = X / 2) := by show _ = _; unfold cstep; rw [if_neg (by omega)]
            clear hp
            go_wp2_with fail
            go_round
            case rel => exact ⟨k + 1, by omega, by go_num, by rw [HS.out, HC.out]; rfl⟩
            case measure => simp [intOf]; omega
          · rw [hp] at hA
            have HC : Hid (cstep X = X / 2 ^^^ 3988292384) := by show _ = _; unfold cstep; rw [if_pos hp]
            have hx := u32_xor_nat (X / 2) 3988292384 (by omega) (by omega)
            have hx' : bits .xor .u32 ((X : Int) / 2) 3988292384 = ((X / 2 ^^^ 3988292384 : Nat) : Int) := hx
            clear hp hx
            go_wp2_with fail
            go_round
            case rel => exact ⟨k + 1, by omega, by go_num, by rw [HS.out, HC.out]⟩
            case measure => simp [intOf]; omega
        · obtain rfl : k = 8 := by omega
          have HT : Hid (csteps 8 i = ctab i) := by show _ = _; rfl
          rw [HT.out]
          go_wp2_with fail
          go_roundg g
          case measure => omega
          case rel => exact ⟨i + 1, by omega, by first | rfl | simp, by first | rfl | rw [hset]⟩

theorem cupd_snoc (x : Nat) (l : List Nat) (b : Nat) : cupd x (l ++ [b]) = cfeed (cupd x l) b := by simp [cupd]
theorem RB.later {w w' : World} {A : Option Addr} {M : List Int} (h : RB w A M) (hb : Below w.heap.size w w') : RB w' A M := by
  rcases h with h | ⟨b, off, rfl, hc⟩
  · exact .inl h
  · exact .inr ⟨b, off, rfl, fun i hi => (hb.cell (p := ⟨b, off + i, none⟩) (block_lt_of_cell (hc i hi))).trans (hc i hi)⟩
/-- the register behind k bytes -/
def reg (M : List Int) (k : Nat) : Nat := cupd 4294967295 ((M.take k).map Int.toNat)
theorem reg_succ (M : List Int) (k : Nat) (h : k < M.length) : reg M (k + 1) = cfeed (reg M k) (M.getD k 0).toNat := by
  unfold reg
  rw [List.take_add_one, List.getElem?_eq_getElem h, List.map_append, Option.toList_some, List.map_singleton, cupd_snoc, List.getD_eq_getElem?_getD, List.getElem?_eq_getElem h]
  rfl
theorem reg_lt {M : List Int} (h : BB M) (k : Nat) : reg M k < 4294967296 := cupd_lt (by omega) (toNat_lt_of (h.take k))
theorem reg_all (M : List Int) : ((reg M M.length ^^^ 4294967295 : Nat) : Int) = csI M := by
  unfold reg csI csum
  rw [List.take_length]

set_option maxHeartbeats 4000000 in
set_option maxRecDepth 100000 in
theorem update_any (A : Option Addr) (cap : Nat) (M : List Int) (w : World) (h : RB w A M) (hB : BB M) (hl : M.length ≤ cap) (hc : cap ≤ maxLen) :
    Calls Try.prog 49 #[.int .u32 0, .slice A M.length cap] w fun e w' => e = .returned (.int .u32 (csI M)) ∧ Below w.heap.size w w' := by
  have hv : ∀ w, (zeroValue 109).run Try.prog w = .ok (.agg (Array.replicate 256 (.int .u32 0))) w := fun w => by kernel_rfl
  rw [tabC_zero] at hv
  have hi : (Try.prog.info? 109).map (·.size) = some 256 := by kernel_rfl
  have h0x : bits .xor .u32 0 4294967295 = 4294967295 := by decide +kernel
  have hm : M.length ≤ 9223372036854775807 := by unfold maxLen at hc; omega
  have hBH := Lib.hid hB
  clear hB hc
  go_enter Try.func49, Try.ntmps49
  go_wp2_with (first
    | (go_at_call 64; refine (table_any _).mono ?_; rintro e w1 ⟨rfl, hb1⟩)
    | (refine wpList_store_row rfl 109 (.tmp 5) (.tmp 9) rfl w1.heap.size (tabC ctab) rfl rfl 109 (tabC (tabU 0)) (heap_alloc_new _ _) (by rw [tabC_size]; exact hi) (by rw [tabC_size, tabC_size]) (tabC_one _) ?_; rw [World.setRow_alloc_new]))
  have hB2 : Below w.heap.size w (w1.alloc (.cells (tabC ctab) 109)) := b_alloc hb1 _
  have hR := h.later hB2
  clear hb1 hv hi h
  go_loop [6, 14] (fun x j => ∃ k : Nat, k ≤ M.length ∧ j = .int .i64 k ∧ x = .int .u32 ((reg M k : Nat) : Int)) (fun _ j => M.length - (intOf j).toNat)
  case atStart => exact ⟨0, Nat.zero_le _, rfl, rfl⟩
  case round =>
    obtain ⟨k, hk, rfl, rfl⟩ := hrel
    by_cases hlt : k < M.length
    · have hX := reg_lt hBH.out k
      have HS := Lib.hid (reg_succ M k hlt)
      have hC := hBH.out.getD k hlt
      rcases hR with ⟨_, hMn⟩ | ⟨b, off, rfl, hcell⟩
      · rw [hMn] at hlt; simp at hlt
      have c0 := hcell k hlt
      clear hcell
      obtain ⟨C, hCe⟩ : ∃ C : Nat, M.getD k 0 = (C : Int) := ⟨(M.getD k 0).toNat, by omega⟩
      rw [hCe] at c0 hC
      have HS : Hid (reg M (k + 1) = cfeed (reg M k) C) := by show _ = _; rw [HS.out, hCe, Int.toNat_natCast]
      clear hCe
      generalize reg M k = X at hX HS ⊢
      have hC2 : C < 256 := by omega
      have HT := Lib.hid (cfeed_tab X C hC2)
      have h8 : IntKind.u8.wrap (X : Int) = ((X % 256 : Nat) : Int) := by rw [IntKind.wrap_u8']; omega
      have hx8 := u8_xor_nat (X % 256) C (by omega) hC2
      have hJ : X % 256 ^^^ C < 256 := Nat.xor_lt_two_pow (n := 8) (by omega) (by omega)
      generalize hY : X % 256 = Y at h8 hx8 hJ HT
      clear hY
      generalize Y ^^^ C = J at hx8 hJ HT
      have hcj : (w1.alloc (.cells (tabC ctab) 109)).cell? ⟨w1.heap.size, J, none⟩ = some (.int .u32 ((ctab J : Nat) : Int)) := by
        rw [(Blk.new w1 109 (tabC ctab)).cell J]; exact tabC_at _ _ hJ
      have hxx := u32_xor_nat (ctab J) (X / 256) (csteps_lt (by omega)) (by omega)
      have hxx' : bits .xor .u32 ((ctab J : Nat) : Int) ((X : Int) / 256) = ((ctab J ^^^ X / 256 : Nat) : Int) := hxx
      have hJ' : (J : Int) < 256 := by omega
      generalize ctab J = TJ at hcj hxx' HT
      clear hxx hC hX
      go_wp2_with fail
      go_round
      case rel => exact ⟨k + 1, by omega, by go_num, by rw [HS.out, HT.out]⟩
      case measure => simp [intOf]; omega
    · obtain rfl : k = M.length := by omega
      have hx := u32_xor_nat (reg M M.length) 4294967295 (reg_lt hBH.out _) (by omega)
      rw [reg_all] at hx
      have hx' : bits .xor .u32 ((reg M M.length : Nat) : Int) 4294967295 = csI M := hx
      clear hx hlt
      go_wp2_with fail
      go_ret
      exact ⟨rfl, hB2⟩
theorem sum_any (A : Option Addr) (cap : Nat) (M : List Int) (w : World) (h : RB w A M) (hB : BB M) (hl : M.length ≤ cap) (hc : cap ≤ maxLen) :
    Calls Try.prog 35 #[.slice A M.length cap] w fun e w' => e = .returned (.int .u32 (csI M)) ∧ Below w.heap.size w w' := by
  go_enter Try.func35, Try.ntmps35
  go_wp2_with (go_at_call 49; refine (update_any A cap M _ h hB hl hc).mono ?_; rintro e w1 ⟨rfl, hb1⟩)
  go_ret
  exact ⟨rfl, hb1⟩
end Go.Proofs.Ytiobnhdcapfhgaa
