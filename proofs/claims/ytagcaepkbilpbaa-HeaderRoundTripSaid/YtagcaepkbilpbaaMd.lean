/-
  Made: a valid header of any numbers.
-/
import Derived.Test.YtagcaepkbilpbaaChk
namespace Go.Proofs.Ytagcaepkbilpbaa
open Go.RowKit
set_option linter.unusedVariables false

set_option maxHeartbeats 1600000 in
theorem Made_any (sum kind key val seq : Int) (w : World) (hk0 : 0 ≤ kind) (hk1 : kind ≤ 255) (hy0 : 0 ≤ key) (hy1 : key ≤ 255) (hv0 : 0 ≤ val) (hv1 : val ≤ 65535) (hq0 : 0 ≤ seq) (hq1 : seq ≤ 18446744073709551615) :
    Calls Try.prog 20 #[.int .u32 sum, .int .u8 kind, .int .u8 key, .int .u16 val, .int .u64 seq] w fun e w' =>
      (∃ K Y V Q : Int, e = .returned (.agg #[.int .u32 sum, .int .i64 K, .int .i64 Y, .int .i64 V, .int .i64 Q]) ∧ HOk K Y V Q) ∧ Below w.heap.size w w' := by
  have k3 : kind % 3 = 0 ∨ kind % 3 = 1 ∨ kind % 3 = 2 := by omega
  obtain ⟨Q, hQ⟩ : ∃ Q, Q = seq % 1099511627776 := ⟨_, rfl⟩
  have hQ0 : 0 ≤ Q := by omega
  have hQ1 : Q ≤ 1099511627775 := by omega
  have tQ : seq.tmod 1099511627776 = Q := by rw [Int.tmod_eq_emod_of_nonneg hq0, hQ]
  have tK : kind.tmod 3 = kind % 3 := Int.tmod_eq_emod_of_nonneg hk0
  have tY : key.tmod 32 = key % 32 := Int.tmod_eq_emod_of_nonneg hy0
  have tV : val.tmod 513 = val % 513 := Int.tmod_eq_emod_of_nonneg hv0
  have hY0 : 0 ≤ key % 32 := by omega
  have hY1 : key % 32 ≤ 31 := by omega
  have hV0 : 0 ≤ val % 513 := by omega
  have hV1 : val % 513 ≤ 512 := by omega
  clear hQ
  rcases k3 with h3 | h3 | h3
  · rw [h3] at tK
    go_enter Try.func20, Try.ntmps20
    go_wp2
    exact bodyPost_ret (v := .agg #[.int .u32 sum, .int .i64 1, .int .i64 (1 + key % 32), .int .i64 (val % 513), .int .i64 (Q + 1)]) (by simp [results, Try.results20, go_sem]) rfl ⟨⟨_, _, _, _, rfl, by unfold HOk; omega⟩, by repeat first | exact Below.refl _ _ | apply Below.drew | apply b_alloc⟩
  · rw [h3] at tK
    go_enter Try.func20, Try.ntmps20
    go_wp2
    exact bodyPost_ret (v := .agg #[.int .u32 sum, .int .i64 2, .int .i64 (1 + key % 32), .int .i64 0, .int .i64 (Q + 1)]) (by simp [results, Try.results20, go_sem]) rfl ⟨⟨_, _, _, _, rfl, by unfold HOk; omega⟩, by repeat first | exact Below.refl _ _ | apply Below.drew | apply b_alloc⟩
  · rw [h3] at tK
    go_enter Try.func20, Try.ntmps20
    go_wp2
    exact bodyPost_ret (v := .agg #[.int .u32 sum, .int .i64 3, .int .i64 0, .int .i64 val, .int .i64 (Q + 1)]) (by simp [results, Try.results20, go_sem]) rfl ⟨⟨_, _, _, _, rfl, by unfold HOk; omega⟩, by repeat first | exact Below.refl _ _ | apply Below.drew | apply b_alloc⟩
end Go.Proofs.Ytagcaepkbilpbaa
