/-
  Plain: records, their bytes, what bytes are decoded to.
-/
import Derived.Test.YtiobnhdcapfhgaaCrcm
import Derived.Test.YtiobnhdcapfhgaaDec
import Derived.Test.YtiobnhdcapfhgaaKey
import Derived.Lib.AppendStr
import Derived.Shelf.Spec.RuneCount
namespace Go.Proofs.Ytiobnhdcapfhgaa
open Go.RowKit
set_option linter.unusedVariables false

/-- a record -/
structure Rc where
  kind : Int
  seq : Int
  key : ByteArray
  val : ByteArray
def Rc.v (r : Rc) : Value := .agg #[.int .i64 r.kind, .int .i64 r.seq, .string r.key, .string r.val]
def Rc.zero : Rc := ⟨0, 0, ByteArray.empty, ByteArray.empty⟩
/-- the bytes of a string -/
def sb (s : ByteArray) : List Int := s.data.toList.map fun b => (b.toNat : Int)
def BB (M : List Int) : Prop := ∀ x ∈ M, 0 ≤ x ∧ x ≤ 255
theorem sb_length (s : ByteArray) : (sb s).length = s.size := by rw [sb, List.length_map, Array.length_toList]; rfl
theorem sb_bb (s : ByteArray) : BB (sb s) := by
  intro x hx
  obtain ⟨b, _, rfl⟩ := List.mem_map.1 hx
  have := b.toNat_lt
  omega
theorem sb_cells (s : ByteArray) : Lib.strCells s = (sb s).map (Value.int .u8) := by rw [Lib.strCells, sb, List.map_map]; rfl
theorem str_sb (s : ByteArray) : strOfNums (sb s) = s := by
  apply ByteArray.ext
  apply Array.ext'
  rw [strOfNums_data, sb, List.map_map]
  conv => rhs; rw [← List.map_id s.data.toList]
  apply List.map_congr_left
  intro b _
  simp
theorem sb_str {M : List Int} (h : BB M) : sb (strOfNums M) = M := by
  rw [sb, strOfNums_data, List.map_map]
  conv => rhs; rw [← List.map_id M]
  apply List.map_congr_left
  intro x hx
  obtain ⟨h0, h1⟩ := h x hx
  obtain ⟨n, rfl⟩ := Int.eq_ofNat_of_zero_le h0
  simp
  omega
theorem BB.getD {M : List Int} (h : BB M) (i : Nat) (hi : i < M.length) : 0 ≤ M.getD i 0 ∧ M.getD i 0 ≤ 255 := by
  rw [List.getD_eq_getElem?_getD, List.getElem?_eq_getElem hi]
  exact h _ (List.getElem_mem hi)
theorem BB.of_getD {M : List Int} (h : ∀ i, i < M.length → 0 ≤ M.getD i 0 ∧ M.getD i 0 ≤ 255) : BB M := by
  intro x hx
  obtain ⟨i, hi, rfl⟩ := List.getElem_of_mem hx
  have := h i hi
  rwa [List.getD_eq_getElem?_getD, List.getElem?_eq_getElem hi] at this
theorem BB.app {M N : List Int} (h : BB M) (k : BB N) : BB (M ++ N) := by
  intro x hx
  rcases List.mem_append.1 hx with hx | hx
  · exact h x hx
  · exact k x hx
theorem BB.take {M : List Int} (h : BB M) (n : Nat) : BB (M.take n) := fun x hx => h x (List.mem_of_mem_take hx)
theorem BB.drop {M : List Int} (h : BB M) (n : Nat) : BB (M.drop n) := fun x hx => h x (List.mem_of_mem_drop hx)

/-- the checksum of bytes -/
def csI (M : List Int) : Int := (csum (M.map Int.toNat) : Nat)
theorem toNat_lt_of {M : List Int} (h : BB M) : ∀ b ∈ M.map Int.toNat, b < 256 := by
  intro b hb
  obtain ⟨x, hx, rfl⟩ := List.mem_map.1 hb
  have := h x hx
  omega
theorem csI_bd {M : List Int} (h : BB M) : 0 ≤ csI M ∧ csI M ≤ 4294967295 := by
  have := csum_lt (toNat_lt_of h)
  unfold csI
  omega

/-- keys -/
def keyB (s : ByteArray) : Bool := s.data.toList.all fun b => kch b.toNat
theorem keyB_iff (s : ByteArray) : keyB s = true ↔ keyAll s := by
  unfold keyB keyAll
  rw [List.all_eq_true]
  constructor
  · intro h i hi
    exact h _ (Array.getElem_mem_toList (xs := s.data) hi)
  · intro h b hb
    obtain ⟨i, hi, rfl⟩ := List.getElem_of_mem hb
    exact h i (by simpa using hi)

instance (kind key val seq : Int) : Decidable (HOk kind key val seq) := by unfold HOk; infer_instance
instance (L : Nat → Int) : Decidable (DOk L) := by unfold DOk; infer_instance

/-- a record is valid -/
def Rc.Ok (r : Rc) : Prop := (r.kind = 1 ∨ (r.kind = 2 ∧ r.val.size = 0)) ∧ 1 ≤ r.seq ∧ r.seq ≤ 1099511627776 ∧ keyB r.key = true ∧ 1 ≤ r.key.size ∧ r.key.size ≤ 32 ∧ r.val.size ≤ 512
instance (r : Rc) : Decidable r.Ok := by unfold Rc.Ok; infer_instance
theorem Rc.Ok.hok {r : Rc} (h : r.Ok) : HOk r.kind r.key.size r.val.size r.seq := by
  obtain ⟨h1, h2, h3, h4, h5, h6, h7⟩ := h
  unfold HOk
  omega
def Rc.size (r : Rc) : Nat := 16 + r.key.size + r.val.size

/-- the last 12 bytes of a header -/
def hrest (kind key val seq : Int) : List Int := [kind % 256, key % 256, val % 256, val / 256 % 256, seq % 256, seq / 256 % 256, seq / 65536 % 256, seq / 16777216 % 256, seq / 4294967296 % 256, seq / 1099511627776 % 256, seq / 281474976710656 % 256, seq / 72057594037927936 % 256]
def le4 (s : Int) : List Int := [s % 256, s / 256 % 256, s / 65536 % 256, s / 16777216 % 256]
theorem hbytes_split (sum kind key val seq : Int) : hbytes sum kind key val seq = le4 sum ++ hrest kind key val seq := rfl
theorem le4_bb (s : Int) : BB (le4 s) := by intro x hx; simp [le4] at hx; omega
theorem hrest_bb (kind key val seq : Int) : BB (hrest kind key val seq) := by intro x hx; simp [hrest] at hx; omega
/-- the bytes of a record behind the sum -/
def rrest (r : Rc) : List Int := hrest r.kind r.key.size r.val.size r.seq ++ (sb r.key ++ sb r.val)
def encF (r : Rc) : List Int := le4 (csI (rrest r)) ++ rrest r
theorem rrest_bb (r : Rc) : BB (rrest r) := (hrest_bb _ _ _ _).app ((sb_bb _).app (sb_bb _))
theorem encF_bb (r : Rc) : BB (encF r) := (le4_bb _).app (rrest_bb r)
theorem rrest_length (r : Rc) : (rrest r).length = 12 + r.key.size + r.val.size := by
  simp only [rrest, List.length_append, sb_length]
  show 12 + _ = _
  omega
theorem encF_length (r : Rc) : (encF r).length = r.size := by
  rw [encF, List.length_append, rrest_length, Rc.size]
  show 4 + _ = _
  omega

/-- what bytes are decoded to: the record, its size, the error -/
def decF (M : List Int) : Rc × Int × Int :=
  let L : Nat → Int := fun i => M.getD i 0
  if M.length < 16 then (Rc.zero, 0, 14)
  else if ¬ (DOk L ∧ L 4 ≠ 3) then (Rc.zero, 0, 8)
  else if (M.length : Int) < 16 + L 5 + dV L then (Rc.zero, 0, 14)
  else if csI ((M.take (16 + L 5 + dV L).toNat).drop 4) ≠ dS L then (Rc.zero, 0, 15)
  else if keyB (strOfNums ((M.drop 16).take (L 5).toNat)) = false then (Rc.zero, 0, 8)
  else (⟨L 4, dQ L, strOfNums ((M.drop 16).take (L 5).toNat), strOfNums (((M.take (16 + L 5 + dV L).toNat).drop 16).drop (L 5).toNat)⟩, 16 + L 5 + dV L, 0)
end Go.Proofs.Ytiobnhdcapfhgaa
