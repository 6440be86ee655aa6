/-
  Decoding of headers by both texts; sizes; equality of bytes.
-/
import Derived.Test.YtiobnhdcapfhgaaEnc
import Derived.Laws.BytesArg
import Derived.Laws.ResultCell
namespace Go.Proofs.Ytiobnhdcapfhgaa
open Go.RowKit
set_option linter.unusedVariables false

/-! What bytes are decoded to. -/
def dS (L : Nat → Int) : Int := ((((L 0) + (L 1) * 256) + (L 2) * 65536) + (L 3) * 16777216)
def dV (L : Nat → Int) : Int := ((L 6) + (L 7) * 256)
def dQ (L : Nat → Int) : Int := ((((((((L 8) + (L 9) * 256) + (L 10) * 65536) + (L 11) * 16777216) + (L 12) * 4294967296) + (L 13) * 1099511627776) + (L 14) * 281474976710656) + (L 15) * 72057594037927936)
def DOk (L : Nat → Int) : Prop := HOk (L 4) (L 5) (dV L) (dQ L)
/-- n bytes that came in -/
def Byts (w : World) (a : Option Addr) (n cap : Nat) (L : Nat → Int) : Prop :=
  n ≤ cap ∧ cap ≤ maxLen ∧ (∀ i, i < n → 0 ≤ L i ∧ L i ≤ 255) ∧ (0 < n → ∃ b off : Nat, a = some ⟨b, off, none⟩ ∧ b < w.heap.size ∧ ∀ i, i < n → w.cell? ⟨b, off + i, none⟩ = some (.int .u8 (L i)))
theorem dS_bd {L : Nat → Int} (h : ∀ i, i < 16 → 0 ≤ L i ∧ L i ≤ 255) : 0 ≤ dS L ∧ dS L ≤ 4294967295 := by
  have h0 := h 0 (by omega); have h1 := h 1 (by omega); have h2 := h 2 (by omega); have h3 := h 3 (by omega)
  unfold dS; omega
theorem dV_bd {L : Nat → Int} (h : ∀ i, i < 16 → 0 ≤ L i ∧ L i ≤ 255) : 0 ≤ dV L ∧ dV L ≤ 65535 := by
  have h0 := h 6 (by omega); have h1 := h 7 (by omega)
  unfold dV; omega
theorem dQ_bd {L : Nat → Int} (h : ∀ i, i < 16 → 0 ≤ L i ∧ L i ≤ 255) : 0 ≤ dQ L ∧ dQ L ≤ 18446744073709551615 := by
  have h0 := h 8 (by omega); have h1 := h 9 (by omega); have h2 := h 10 (by omega); have h3 := h 11 (by omega)
  have h4 := h 12 (by omega); have h5 := h 13 (by omega); have h6 := h 14 (by omega); have h7 := h 15 (by omega)
  unfold dQ; omega

theorem dec_torn (a : Option Addr) (n cap : Nat) (w : World) (hn : n < 16) :
    Calls Try.prog 38 #[.slice a n cap] w fun e w' => e = .returned (.tuple #[.agg #[.int .u32 0, .int .i64 0, .int .i64 0, .int .i64 0, .int .i64 0], .int .i64 14]) ∧ Below w.heap.size w w' := by
  go_enter Try.func38, Try.ntmps38
  go_wp2
  exact bodyPost_ret (v := .tuple #[.agg #[.int .u32 0, .int .i64 0, .int .i64 0, .int .i64 0, .int .i64 0], .int .i64 14]) (by simp [results, Try.results38, go_sem]) rfl ⟨rfl, by repeat first | exact Below.refl _ _ | apply Below.drew | apply b_alloc⟩
end Go.Proofs.Ytiobnhdcapfhgaa
