/-
  A slice of drafts that came in.
-/
import Derived.Test.YtookgehccmcgcaaSls
import Derived.Test.YtookgehccmcgcaaDft
namespace Go.Proofs.Ytookgehccmcgcaa
open Go.ChangeShapes Go.WideShapes Go.ChangeAt Go.RowKit Go.Joins Go.Deep
set_option linter.unusedVariables false
structure Dr where
  del : Bool
  seq : Int
  a1 : Option Addr
  n1 : Nat
  c1 : Nat
  K : List Int
  a2 : Option Addr
  n2 : Nat
  c2 : Nat
  V : List Int
def Dr.v (d : Dr) : Array Value := #[.bool d.del, .int .u64 d.seq, .slice d.a1 d.n1 d.c1, .slice d.a2 d.n2 d.c2]
def Dr.In (d : Dr) (w : World) : Prop := 0 ≤ d.seq ∧ d.seq ≤ 18446744073709551615 ∧ BS w d.a1 d.n1 d.c1 d.K ∧ BS w d.a2 d.n2 d.c2 d.V
def Dr.r (d : Dr) : Rc := draftR d.del d.seq d.K d.V
def IsDs (w : World) (a : Option Addr) (len cap : Nat) (D : Nat → Dr) : Prop := len ≤ cap ∧ cap ≤ maxLen ∧ (∀ i, i < len → (D i).In w) ∧
  (0 < len → ∃ b off : Nat, a = some ⟨b, off, none⟩ ∧ b < w.heap.size ∧ ∀ i, i < len → ∀ (j : Nat) (u : Value), (D i).v[j]? = some u → w.cell? ⟨b, off + (i * 4 + j), none⟩ = some u)
theorem open_drafts {H : Type} {enc : TypeId × Value → H} {w : World} {base b0 : Nat} {r : Reach} {v : Value} {d : DataW H} {p : List MemPlace} (hv : Value.okWide Try.prog w r b0 53 v) (h : DataW.Trod enc Try.prog w base (fun _ => true) true 53 v d p) :
    ∃ (a : Option Addr) (len cap : Nat) (D : Nat → Dr), v = .slice a len cap ∧ IsDs w a len cap D := by
  obtain ⟨a, len, cap, rfl, h1, h2, h3⟩ := open_structs Try.underlying53 Try.underlying45 (by kernel_rfl) (by kernel_rfl) (by decide) hv h
  have key : ∀ i, ∃ x : Dr, i < len → x.In w ∧ ∀ b off : Nat, a = some ⟨b, off, none⟩ → ∀ (j : Nat) (u : Value), x.v[j]? = some u → w.cell? ⟨b, off + (i * 4 + j), none⟩ = some u := by
    intro i
    by_cases hi : i < len
    · obtain ⟨b, off, rfl, _, hc⟩ := h3 (by omega)
      obtain ⟨x0, n0, y0, e0, g0⟩ := hc i hi 0 _ rfl
      obtain ⟨x1, n1, y1, e1, g1⟩ := hc i hi 1 _ rfl
      obtain ⟨x2, n2, y2, e2, g2⟩ := hc i hi 2 _ rfl
      obtain ⟨x3, n3, y3, e3, g3⟩ := hc i hi 3 _ rfl
      obtain ⟨b0, q0, _⟩ := DataW.trod_bool Try.underlying4 g0
      obtain ⟨a1, q1, _, w1⟩ := DataW.trod_int Try.underlying43 g1
      obtain ⟨a2, m2, c2, K, q2, hK⟩ := bytes_cell g2
      obtain ⟨a3, m3, c3, V, q3, hV⟩ := bytes_cell g3
      simp only [List.cons.injEq, and_true] at q0 q1
      subst q0 q1 q2 q3
      have hb := bounds_u64 w1
      refine ⟨⟨b0, a1, a2, m2, c2, K, a3, m3, c3, V⟩, fun _ => ⟨⟨hb.1, hb.2, hK, hV⟩, fun b' off' hh j u hj => ?_⟩⟩
      injection hh with hh
      injection hh with hh1 hh2 _
      subst hh1 hh2
      match j, hj with
      | 0, hj => injection hj with hj; subst hj; exact e0
      | 1, hj => injection hj with hj; subst hj; exact e1
      | 2, hj => injection hj with hj; subst hj; exact e2
      | 3, hj => injection hj with hj; subst hj; exact e3
      | j + 4, hj => simp [Dr.v] at hj
    · exact ⟨⟨false, 0, none, 0, 0, [], none, 0, 0, []⟩, fun h => absurd h hi⟩
  refine ⟨a, len, cap, fun i => (key i).choose, rfl, h1, h2, fun i hi => ((key i).choose_spec hi).1, fun hp => ?_⟩
  obtain ⟨b, off, ha, hlt, _⟩ := h3 hp
  exact ⟨b, off, ha, hlt, fun i hi => ((key i).choose_spec hi).2 b off ha⟩
/-- the encodings of the first drafts, one behind the other -/
def encs (D : Nat → Dr) : Nat → List Int
  | 0 => []
  | q + 1 => encs D q ++ encF (D q).r
theorem Dr.ok {d : Dr} {w : World} (h : d.In w) : d.r.Ok := draftR_ok _ _ _ _ h.1
theorem encs_len {D : Nat → Dr} {w : World} {n : Nat} (h : ∀ i, i < n → (D i).In w) : ∀ q, q ≤ n → (encs D q).length ≤ 560 * q := by
  intro q
  induction q with
  | zero => intro _; simp [encs]
  | succ q ih =>
    intro hq
    have h1 := ih (by omega)
    have hr := Dr.ok (h q (by omega))
    have h2 := hr.2.2.2.2.2.1
    have h3 := hr.2.2.2.2.2.2
    rw [encs, List.length_append, encF_length]
    unfold Rc.size
    omega
theorem encs_min {D : Nat → Dr} {w : World} {n : Nat} (h : ∀ i, i < n → (D i).In w) : ∀ q, q ≤ n → 17 * q ≤ (encs D q).length := by
  intro q
  induction q with
  | zero => intro _; simp [encs]
  | succ q ih =>
    intro hq
    have h1 := ih (by omega)
    have hr := Dr.ok (h q (by omega))
    have h2 := hr.2.2.2.2.1
    rw [encs, List.length_append, encF_length]
    unfold Rc.size
    omega
theorem decF_nil : decF [] = (Rc.zero, 0, 14) := by
  have h := decF_short (r := ⟨1, 1, ⟨#[97]⟩, ⟨#[]⟩⟩) (by decide) (i := 0) (by decide)
  simpa using h
theorem encs_bb (D : Nat → Dr) : ∀ q, BB (encs D q) := by
  intro q
  induction q with
  | zero => intro x hx; simp [encs] at hx
  | succ q ih => exact ih.app (encF_bb _)
/-- what lies behind the first q encodings begins with the next one -/
theorem encs_split (D : Nat → Dr) : ∀ n q, q ≤ n → ∃ R, encs D n = encs D q ++ R ∧ (q < n → ∃ R', R = encF (D q).r ++ R') := by
  intro n
  induction n with
  | zero =>
    intro q hq
    obtain rfl : q = 0 := by omega
    exact ⟨[], by simp, fun h => absurd h (by omega)⟩
  | succ n ih =>
    intro q hq
    rcases Nat.lt_or_ge n q with h | h
    · obtain rfl : q = n + 1 := by omega
      exact ⟨[], by simp, fun h => absurd h (by omega)⟩
    · obtain ⟨R, hR, hR'⟩ := ih q h
      refine ⟨R ++ encF (D n).r, by rw [encs, hR, List.append_assoc], fun _ => ?_⟩
      rcases Nat.lt_or_ge q n with h2 | h2
      · obtain ⟨R', rfl⟩ := hR' h2
        exact ⟨R' ++ encF (D n).r, by rw [List.append_assoc]⟩
      · obtain rfl : q = n := by omega
        have h3 := congrArg List.length hR
        rw [List.length_append] at h3
        have : R = [] := List.eq_nil_of_length_eq_zero (by omega)
        subst this
        exact ⟨[], by simp⟩
end Go.Proofs.Ytookgehccmcgcaa
