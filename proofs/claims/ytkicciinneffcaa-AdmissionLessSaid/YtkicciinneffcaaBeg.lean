/-
  A configuration by numbers; a key by numbers.
-/
import Derived.Test.YtkicciinneffcaaAdw
import Derived.Test.YtkicciinneffcaaByt
namespace Go.Proofs.Ytkicciinneffcaa
open Go.RowKit
set_option linter.unusedVariables false

set_option maxHeartbeats 3200000 in
set_option maxRecDepth 100000 in
theorem Config_any (re mo ke va si : Int) (w : World) (r0 : 0 ≤ re) (m0 : 0 ≤ mo) (m1 : mo ≤ 255) (k0 : 0 ≤ ke) (v0 : 0 ≤ va) (s0 : 0 ≤ si) (s1 : si ≤ 65535) :
    Calls Try.prog 19 #[.agg #[.int .u8 re, .int .u8 mo, .int .u8 ke, .int .u16 va, .int .u16 si]] w fun e w' =>
      (∃ s z r wk k v p : Int, e = .returned (.agg #[.int .i64 s, .int .i64 z, .int .i64 r, .int .i64 wk, .int .i64 k, .int .i64 v, .int .i64 p]) ∧ CfgOk s z r wk k v p) ∧ Below w.heap.size w w' := by
  have tR : re.tmod 7 = re % 7 := Int.tmod_eq_emod_of_nonneg r0
  have tK : ke.tmod 32 = ke % 32 := Int.tmod_eq_emod_of_nonneg k0
  have tV : va.tmod 513 = va % 513 := Int.tmod_eq_emod_of_nonneg v0
  have tP : mo.tmod 2 = mo % 2 := Int.tmod_eq_emod_of_nonneg m0
  obtain ⟨a, ha⟩ : ∃ a, re % 7 = a := ⟨_, rfl⟩
  obtain ⟨b, hb⟩ : ∃ b, ke % 32 = b := ⟨_, rfl⟩
  obtain ⟨c, hc⟩ : ∃ c, va % 513 = c := ⟨_, rfl⟩
  obtain ⟨d, hd⟩ : ∃ d, mo % 2 = d := ⟨_, rfl⟩
  have a0 : 0 ≤ a := by omega
  have a1 : a ≤ 6 := by omega
  have b0 : 0 ≤ b := by omega
  have b1 : b ≤ 31 := by omega
  have c0 : 0 ≤ c := by omega
  have c1 : c ≤ 512 := by omega
  have d0 : 0 ≤ d := by omega
  have d1 : d ≤ 1 := by omega
  rw [ha] at tR
  rw [hb] at tK
  rw [hc] at tV
  rw [hd] at tP
  obtain ⟨f, hf⟩ : ∃ f, mo % (32 - (2 + a) - 1) = f := ⟨_, rfl⟩
  have f0 : 0 ≤ f := by rw [← hf]; exact Int.emod_nonneg _ (by omega)
  have f1 : f ≤ 28 - a := by have := Int.emod_lt_of_pos mo (show 0 < 32 - (2 + a) - 1 by omega); omega
  have tF : mo.tmod (32 - (2 + a) - 1) = f := by rw [Int.tmod_eq_emod_of_nonneg m0, hf]
  obtain ⟨g, hg⟩ : ∃ g, si % (8192 - (32 + (1 + b) + c) + 1) = g := ⟨_, rfl⟩
  have g0 : 0 ≤ g := by rw [← hg]; exact Int.emod_nonneg _ (by omega)
  have g1 : g ≤ 8159 - b - c := by have := Int.emod_lt_of_pos si (show 0 < 8192 - (32 + (1 + b) + c) + 1 by omega); omega
  have tG : si.tmod (8192 - (32 + (1 + b) + c) + 1) = g := by rw [Int.tmod_eq_emod_of_nonneg s0, hg]
  clear ha hb hc hd hf hg
  go_enter Try.func19, Try.ntmps19
  go_wp2
  have u1 : IntKind.i64.wrap (2 + a + 2) = 2 + a + 2 := iw64 (by omega) (by omega)
  have u2 : IntKind.i64.wrap (32 - (2 + a)) = 32 - (2 + a) := iw64 (by omega) (by omega)
  have u3 : IntKind.i64.wrap (32 - (2 + a) - 1) = 32 - (2 + a) - 1 := iw64 (by omega) (by omega)
  have u4 : IntKind.i64.wrap (2 + a + 2 + f) = 2 + a + 2 + f := iw64 (by omega) (by omega)
  have u5 : (32 - (2 + a) - 1 == 0) = false := by rw [beq_eq_false_iff_ne]; omega
  have u6 : IntKind.i64.wrap mo = mo := iw64 (by omega) (by omega)
  have u7 : ¬ (32 - (2 + a) - 1 = 0) := by omega
  have u8 : IntKind.i64.wrap f = f := iw64 (by omega) (by omega)
  go_region_held3 (fun w' => w'.cell? ⟨w.heap.size + 1 + 1, 2, none⟩ = some (.int .i64 (2 + a)) ∧ w'.cell? ⟨w.heap.size, 1, none⟩ = some (.int .u8 mo)) (simp [go_sem, World.cell?_alloc_past]) (fail)
  go_wp2
  exact bodyPost_ret (v := .agg #[.int .i64 (2 + a + 2 + f), .int .i64 (32 + (1 + b) + c + g), .int .i64 (2 + a), .int .i64 (2 * (16 + (1 + b) + c + 16)), .int .i64 (1 + b), .int .i64 c, .int .i64 (1 + d)])
    (by simp [results, Try.results19, go_sem]) rfl ⟨⟨_, _, _, _, _, _, _, rfl, by unfold CfgOk; omega⟩, (by repeat first | exact Below.refl _ _ | apply Below.drew | apply b_alloc)⟩

def klets : ByteArray := ⟨#[97, 98, 99, 100, 101, 102, 103, 104, 105, 106, 107, 108, 109, 110, 111, 112, 113, 114, 115, 116, 117, 118, 119, 120, 121, 122, 48, 49, 50, 51, 52, 53, 54, 55, 56, 57, 46, 45, 95]⟩
theorem klets_size : klets.size = 39 := rfl
theorem klets_ok : ∀ b ∈ klets.data.toList, kch b.toNat = true := by decide +kernel
/-- the bytes are key characters -/
def Kys (L : List Int) : Prop := ∀ x ∈ L, 0 ≤ x ∧ x ≤ 255 ∧ kch x.toNat = true
theorem keyAll_nums {L : List Int} (h : Kys L) : keyAll (strOfNums L) := by
  apply keyAll_of
  rw [strOfNums_data, List.all_eq_true]
  intro c hc
  obtain ⟨x, hx, rfl⟩ := List.mem_map.1 hc
  obtain ⟨h0, h1, h2⟩ := h x hx
  have : (UInt8.ofNat x.toNat).toNat = x.toNat := by simp; omega
  rw [this]
  exact h2

set_option maxHeartbeats 3200000 in
theorem keyed_any (n most : Int) (w : World) (n0 : 0 ≤ n) (n1 : n ≤ 255) (m0 : 1 ≤ most) (m1 : most ≤ 32) :
    Calls Try.prog 21 #[.int .u8 n, .int .i64 most] w fun e w' =>
      (∃ s : ByteArray, e = .returned (.string s) ∧ keyAll s ∧ 1 ≤ s.size ∧ (s.size : Int) ≤ most) ∧ Below w.heap.size w w' := by
  obtain ⟨i0, hi0, hz0, hz1, hz2⟩ := info_parts byte_info
  obtain ⟨q, hq⟩ : ∃ q : Nat, n % most = q := ⟨(n % most).toNat, by have := Int.emod_nonneg n (show most ≠ 0 by omega); omega⟩
  have q1 : (q : Int) < most := by rw [← hq]; exact Int.emod_lt_of_pos n (by omega)
  have tq : n.tmod most = q := by rw [Int.tmod_eq_emod_of_nonneg n0, hq]
  have hm : (most == 0) = false := by rw [beq_eq_false_iff_ne]; omega
  have hm' : ¬ most = 0 := by omega
  clear hq
  go_enter Try.func21, Try.ntmps21
  go_wp2
  go_loopw [6, 7] (fun v i wr => ∃ (L : List Int), L.length ≤ q + 1 ∧ i = .int .i64 (L.length : Nat) ∧ Kys L ∧ IsB wr w.heap.size v L ∧ Below w.heap.size w wr) (fun _ i _ => q + 1 - (intOf i).toNat)
  case atStart => exact ⟨[], by simp, rfl, fun x hx => by simp at hx, World.ownsRow_nil _ _ _ _, Below.refl _ _⟩
  case round =>
    obtain ⟨L, hk, rfl, hK, hown, hB⟩ := hrel
    have hKH := Lib.hid hK
    clear hK
    by_cases hlt : L.length ≤ q
    · have hlt' : (L.length : Int) ≤ (q : Int) := by omega
      have ht : (n + (L.length : Int)).tmod 39 = (n + (L.length : Int)) % 39 := Int.tmod_eq_emod_of_nonneg (by omega)
      have hsz := hB.size
      go_wp2_with (at_builtin; refine wpList_append_any _ rfl (.tmp 16) (.tmp 26) _ rfl w.heap.size 5 i0 _ 1 1 Try.underlying40 hi0 hz0 hz1 hz2 rfl (by omega) _ L.length _ rfl (World.ownsRow.alloc hown _) (wr.heap.size + 1) _ 1 1 [.int .u8 _] rfl (Reads.one _ _ _) (by intro u hu; simp at hu; subst hu; rfl) (by unfold maxLen; omega) (by omega) (by simp; omega) ?_; intro v2 w2 o2 hg2 hat2)
      have hB2 := (b_alloc hB (.cells #[.int .u8 (((klets[((n + (L.length : Int)) % 39).toNat]'(by rw [klets_size]; omega)).toNat : Nat) : Int)] 5)).grown hg2 (by simp; omega) (fun k hk => (World.ownsRow.lt hown k hk).1)
      go_roundw
      case rel =>
        refine ⟨L ++ [(((klets[((n + (L.length : Int)) % 39).toNat]'(by rw [klets_size]; omega)).toNat : Nat) : Int)], by simp; omega, by simp, ?_, ?_, hB2⟩
        · intro x hx
          rcases List.mem_append.1 hx with hx | hx
          · exact hKH.out x hx
          · obtain rfl := List.mem_singleton.1 hx
            refine ⟨by omega, by have := (klets[((n + (L.length : Int)) % 39).toNat]'(by rw [klets_size]; omega)).toNat_lt; omega, ?_⟩
            rw [Int.toNat_natCast]
            exact klets_ok _ (Array.getElem_mem_toList (xs := klets.data) _)
        · unfold IsB
          rw [List.length_append, List.map_append]
          exact o2
      case measure => simp [intOf]; omega
    · have hgt : (q : Int) < (L.length : Int) := by omega
      have h1 : 1 ≤ L.length := by omega
      obtain ⟨A, cap, rfl, hR⟩ := RB.of_own hown
      have hcv := conv_any hR cap
      clear hlt
      go_wp2
      go_ret
      exact ⟨⟨_, rfl, keyAll_nums hKH.out, by rw [strOfNums_size]; exact h1, by rw [strOfNums_size]; omega⟩, hB⟩
end Go.Proofs.Ytkicciinneffcaa
