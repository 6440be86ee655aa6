/-
  A configuration made of numbers is valid.
-/
import Derived.Test.YtjnbkpjpcbmhcaaCfh
import Derived.Laws.ResultCell
namespace Go.Proofs.Ytjnbkpjpcbmhcaa
open Go.RowKit
set_option linter.unusedVariables false

/-- numbers that fit 32 bits -/
def U32 (n : Int) : Prop := 0 ≤ n ∧ n ≤ 4294967295

set_option maxHeartbeats 1600000 in
theorem Made_any (a b c d e f g : Int) (w : World) (ha : U32 a) (hb : U32 b) (hc : U32 c) (hd : U32 d) (he : U32 e) (hf : U32 f) (hg : U32 g) :
    Calls Try.prog 21 #[.agg #[.int .u32 a, .int .u32 b, .int .u32 c, .int .u32 d, .int .u32 e, .int .u32 f, .int .u32 g]] w fun e w' =>
      (∃ s z r wk k x p : Int, e = .returned (.agg #[.int .i64 s, .int .i64 z, .int .i64 r, .int .i64 wk, .int .i64 k, .int .i64 x, .int .i64 p]) ∧ CfgOk s z r wk k x p) ∧ Below w.heap.size w w' := by
  obtain ⟨ha0, ha1⟩ := ha
  obtain ⟨hb0, hb1⟩ := hb
  obtain ⟨hc0, hc1⟩ := hc
  obtain ⟨hd0, hd1⟩ := hd
  obtain ⟨he0, he1⟩ := he
  obtain ⟨hf0, hf1⟩ := hf
  obtain ⟨hg0, hg1⟩ := hg
  have p1 : (0 : Int) < 32 - (2 + a % 7) - 1 := by omega
  have p2 : (0 : Int) < 8176 - (16 + (1 + b % 32) + c % 513) + 1 := by omega
  have p3 : (0 : Int) < 65536 - 2 * (16 + (1 + b % 32) + c % 513 + 16) + 1 := by omega
  have q1 := Int.emod_nonneg e (Int.ne_of_gt p1)
  have q2 := Int.emod_lt_of_pos e p1
  have q3 := Int.emod_nonneg f (Int.ne_of_gt p2)
  have q4 := Int.emod_lt_of_pos f p2
  have q5 := Int.emod_nonneg g (Int.ne_of_gt p3)
  have q6 := Int.emod_lt_of_pos g p3
  go_enter Try.func21, Try.ntmps21
  go_wp2
  go_region
  go_wp2
  refine bodyPost_ret (v := .agg #[.int .i64 (2 + a % 7 + 2 + e % (32 - (2 + a % 7) - 1)), .int .i64 (16 + (16 + (1 + b % 32) + c % 513) + f % (8176 - (16 + (1 + b % 32) + c % 513) + 1)), .int .i64 (2 + a % 7), .int .i64 (2 * (16 + (1 + b % 32) + c % 513 + 16) + g % (65536 - 2 * (16 + (1 + b % 32) + c % 513 + 16) + 1)), .int .i64 (1 + b % 32), .int .i64 (c % 513), .int .i64 (1 + d % 2)]) ?_ rfl ?_
  · simp [results, Try.results21, go_sem]
  · refine ⟨⟨_, _, _, _, _, _, _, rfl, ?_⟩, by repeat first | exact Below.refl _ _ | apply Below.drew | apply b_alloc⟩
    unfold CfgOk
    omega
end Go.Proofs.Ytjnbkpjpcbmhcaa
