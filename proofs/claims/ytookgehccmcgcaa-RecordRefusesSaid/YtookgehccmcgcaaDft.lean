/-
  A draft by value, opened; the record that it stands for.
-/
import Derived.Test.YtookgehccmcgcaaArg
import Derived.Test.YtookgehccmcgcaaRen
import Derived.Test.YtookgehccmcgcaaRes
import Derived.Test.YtookgehccmcgcaaRdc
namespace Go.Proofs.Ytookgehccmcgcaa
open Go.ChangeShapes Go.WideShapes Go.ChangeAt Go.RowKit Go.Joins Go.Deep
set_option linter.unusedVariables false
set_option linter.unusedSimpArgs false

theorem eq4 {cs : Array Value} {a b c d : Value} (h : cs.size = 4) (h0 : cs[0]? = some a) (h1 : cs[1]? = some b) (h2 : cs[2]? = some c) (h3 : cs[3]? = some d) : cs = #[a, b, c, d] := by
  apply Array.ext_getElem?
  intro i
  match i with
  | 0 => simpa using h0
  | 1 => simpa using h1
  | 2 => simpa using h2
  | 3 => simpa using h3
  | n + 4 => rw [Array.getElem?_eq_none (by omega)]; simp
/-- a slice of bytes reads as M -/
def BS (w : World) (a : Option Addr) (n cap : Nat) (M : List Int) : Prop := M.length = n ∧ (0 < n → RB w a M) ∧ BB M ∧ n ≤ cap ∧ cap ≤ maxLen
theorem BS.later {w w' : World} {a : Option Addr} {n cap : Nat} {M : List Int} (h : BS w a n cap M) (hb : Below w.heap.size w w') : BS w' a n cap M := ⟨h.1, fun hp => (h.2.1 hp).later hb, h.2.2⟩
section
variable {H : Type} {enc : TypeId × Value → H} {w : World} {base b0 : Nat} {r : Reach} {v : Value} {d : DataW H} {p : List MemPlace}
theorem bytes_cell {fuel : Nat} {x : Value} {y : DataW H × List MemPlace} (hf : DataW.trod enc Try.prog w base (fun _ => true) true fuel 29 [x] = some y) : ∃ (a : Option Addr) (n cap : Nat) (M : List Int), x = .slice a n cap ∧ BS w a n cap M := by
  rcases open_ints Try.underlying29 Try.underlying5 (by kernel_rfl) hf with ⟨hcs, _⟩ | ⟨a, l, c, zs, hcs, hb, hl, hm, hzl, hx, hcell, hwf⟩
  · simp only [List.cons.injEq, and_true] at hcs
    subst hcs
    exact ⟨none, 0, 0, [], rfl, rfl, fun h => absurd h (by omega), fun x hx => by simp at hx, Nat.le_refl _, by unfold maxLen; omega⟩
  · simp only [List.cons.injEq, and_true] at hcs
    subst hcs
    have hzc : zs.length = c := by simpa using hzl
    refine ⟨some a, l, c, zs.take l, rfl, by rw [List.length_take]; omega, fun hp => ?_, ?_, hl, hm⟩
    · obtain ⟨b, off, spot⟩ := a
      have hx0 := hcell 0 (by omega)
      have hsp : spot = none := by simpa [Addr.add] using World.cell?_spot hx0
      subst hsp
      refine .inr ⟨b, off, rfl, fun i hi => ?_⟩
      rw [List.length_take] at hi
      have hc := hcell i (by omega)
      rw [Addr.add_lit] at hc
      rw [hc, getD_take (by omega)]
    · intro x hx
      have hx' := List.mem_of_mem_take hx
      have := bounds_u8 (hwf _ hx')
      omega
/-- a draft, by value -/
theorem open_draft (hv : Value.okWide Try.prog w r b0 45 v) (h : DataW.Trod enc Try.prog w base (fun _ => true) true 45 v d p) :
    ∃ (del : Bool) (seq : Int) (a1 : Option Addr) (n1 c1 : Nat) (K : List Int) (a2 : Option Addr) (n2 c2 : Nat) (V : List Int), v = .agg #[.bool del, .int .u64 seq, .slice a1 n1 c1, .slice a2 n2 c2] ∧ 0 ≤ seq ∧ seq ≤ 18446744073709551615 ∧ BS w a1 n1 c1 K ∧ BS w a2 n2 c2 V := by
  obtain ⟨cs, rfl, hsz, hf⟩ := open_struct Try.underlying45 (by kernel_rfl) (by kernel_rfl) hv h
  obtain ⟨x0, n0, y0, e0, g0⟩ := hf 0 _ rfl
  obtain ⟨x1, n1, y1, e1, g1⟩ := hf 1 _ rfl
  obtain ⟨x2, n2, y2, e2, g2⟩ := hf 2 _ rfl
  obtain ⟨x3, n3, y3, e3, g3⟩ := hf 3 _ rfl
  obtain ⟨b0, q0, _⟩ := DataW.trod_bool Try.underlying4 g0
  obtain ⟨a1, q1, _, w1⟩ := DataW.trod_int Try.underlying43 g1
  obtain ⟨a2, m2, c2, K, q2, hK⟩ := bytes_cell g2
  obtain ⟨a3, m3, c3, V, q3, hV⟩ := bytes_cell g3
  simp only [List.cons.injEq, and_true] at q0 q1
  subst q0 q1 q2 q3
  have hb := bounds_u64 w1
  exact ⟨b0, a1, a2, m2, c2, K, a3, m3, c3, V, by rw [eq4 hsz e0 e1 e2 e3], by omega, by omega, hK, hV⟩
end
theorem conv_zero (w : World) (A : Option Addr) (cap : Nat) : (convert 29 9 (.slice A 0 cap)).run Try.prog w = .ok (.string (strOfNums [])) w := by
  rcases A with _ | ad
  · exact run_convert_bytes_nil w _ _ Try.underlying29 Try.underlying5 _ _ _ Try.underlying9
  · have hl : (loadCells ad 0).run Try.prog w = .ok (([] : List Int).map (Value.int .u8)).toArray w := by simp [loadCells, loadCellsFrom]
    rw [run_convert_bytes_string w _ _ _ _ 0 cap Try.underlying29 Try.underlying5 Try.underlying9, run_bytesToString w _ 0 cap [] hl]
    rfl
theorem RB.cut {w : World} {A : Option Addr} {M : List Int} (h : RB w A M) (k : Nat) : RB w A (M.take k) := by
  rcases h with ⟨h1, h2⟩ | ⟨b, off, rfl, hc⟩
  · exact .inl ⟨h1, by rw [h2]; simp⟩
  · refine .inr ⟨b, off, rfl, fun i hi => ?_⟩
    rw [List.length_take] at hi
    rw [hc i (by omega), getD_take (by omega)]
theorem BS.conv {w : World} {a : Option Addr} {n cap : Nat} {M : List Int} (h : BS w a n cap M) (k c : Nat) (hk : k ≤ n) : (convert 29 9 (.slice a k c)).run Try.prog w = .ok (.string (strOfNums (M.take k))) w := by
  rcases Nat.eq_zero_or_pos k with h0 | hp
  · subst h0
    exact conv_zero w a c
  · have h1 := RB.cut (h.2.1 (by omega)) k
    have h2 := conv_any h1 c
    rwa [show (M.take k).length = k by rw [List.length_take, h.1]; omega] at h2
def dlets : ByteArray := ⟨#[97, 98, 99, 100, 101, 102, 103, 104, 105, 106, 107, 108, 109, 110, 111, 112, 113, 114, 115, 116, 117, 118, 119, 120, 121, 122, 48, 49, 50, 51, 52, 53, 54, 55, 56, 57, 46, 45, 95]⟩
def dlet (x : Int) : Int := ((dlets.get! (x % 39).toNat).toNat : Int)
/-- the letters of a draft's key -/
def dkey (K : List Int) : List Int := 107 :: (K.take 31).map dlet
/-- the record of a draft -/
def draftR (del : Bool) (seq : Int) (K V : List Int) : Rc := ⟨if del then 2 else 1, 1 + seq % 1099511627776, strOfNums (dkey K), if del then ⟨#[]⟩ else strOfNums (V.take 512)⟩
theorem dlet_ok : ∀ c ∈ List.range 39, kch (dlets.get! c).toNat = true := by decide +kernel
theorem dlet_bd (x : Int) : 0 ≤ dlet x ∧ dlet x ≤ 255 ∧ kch (dlet x).toNat = true := by
  unfold dlet
  have h1 := Int.emod_nonneg x (show (39 : Int) ≠ 0 by decide)
  have h2 := Int.emod_lt_of_pos x (show (0 : Int) < 39 by decide)
  have h3 := dlet_ok (x % 39).toNat (List.mem_range.2 (by omega))
  have h4 := (dlets.get! (x % 39).toNat).toNat_lt
  exact ⟨by omega, by omega, by rwa [Int.toNat_natCast]⟩
theorem dkey_bb (K : List Int) : BB (dkey K) := by
  intro x hx
  rcases List.mem_cons.1 hx with rfl | hx
  · omega
  · obtain ⟨y, _, rfl⟩ := List.mem_map.1 hx
    have := dlet_bd y
    omega
theorem dkey_length (K : List Int) : (dkey K).length = 1 + min 31 K.length := by simp [dkey]; omega
theorem draftR_ok (del : Bool) (seq : Int) (K V : List Int) (h0 : 0 ≤ seq) : (draftR del seq K V).Ok := by
  have hk : keyB (strOfNums (dkey K)) = true := by
    unfold keyB
    rw [List.all_eq_true, strOfNums_data]
    intro b hb
    obtain ⟨x, hx, rfl⟩ := List.mem_map.1 hb
    have hbb := dkey_bb K x hx
    rw [show (UInt8.ofNat x.toNat).toNat = x.toNat by simp; omega]
    rcases List.mem_cons.1 hx with rfl | hx
    · rfl
    · obtain ⟨y, _, rfl⟩ := List.mem_map.1 hx
      exact (dlet_bd y).2.2
  have hl := dkey_length K
  refine ⟨?_, ?_, ?_, hk, ?_, ?_, ?_⟩
  · cases del
    · exact .inl rfl
    · exact .inr ⟨rfl, rfl⟩
  · show 1 ≤ 1 + seq % 1099511627776
    omega
  · show 1 + seq % 1099511627776 ≤ _
    omega
  · show 1 ≤ (strOfNums (dkey K)).size
    rw [strOfNums_size]; omega
  · show (strOfNums (dkey K)).size ≤ 32
    rw [strOfNums_size]; omega
  · cases del
    · show (strOfNums (V.take 512)).size ≤ 512
      rw [strOfNums_size, List.length_take]; omega
    · show 0 ≤ 512
      omega
end Go.Proofs.Ytookgehccmcgcaa
