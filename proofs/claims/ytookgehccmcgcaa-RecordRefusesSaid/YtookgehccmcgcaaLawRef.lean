/-
  RecordRefuses: for every draft and every two numbers the law returns true and changes nothing. No condition.
-/
import Derived.Test.YtookgehccmcgcaaOpen
import Derived.Test.YtookgehccmcgcaaWks
import Derived.Test.YtookgehccmcgcaaArg
import Derived.Test.YtookgehccmcgcaaLem
import Derived.Test.YtookgehccmcgcaaArc
import Derived.Test.YtookgehccmcgcaaZer
namespace Go.Proofs.Ytookgehccmcgcaa.recordRefuses
open Go.ChangeShapes Go.WideShapes Go.ChangeAt Go.RowKit
open Go.ChangeMaps (open_string shut_string)
set_option linter.unusedVariables false

theorem keyB_app (a b : ByteArray) : keyB (a ++ b) = (keyB a && keyB b) := by
  unfold keyB
  rw [show (a ++ b).data = a.data ++ b.data from ByteArray.data_append, Array.toList_append, List.all_append]
theorem four (kind sq : Int) (key val : ByteArray) (h : ¬ Rc.Ok ⟨kind, sq, key, val⟩) (hk : key.size ≤ maxLen) (hv : val.size ≤ maxLen) :
    (∀ w : World, Calls Try.prog 13 #[.agg #[.int .i64 kind, .int .i64 sq, .string key, .string val]] w fun e w' => e = .returned (.tuple #[.int .i64 0, .int .i64 2]) ∧ Below w.heap.size w w') ∧ (∀ w : World, Calls Try.prog 15 #[.agg #[.int .i64 kind, .int .i64 sq, .string key, .string val]] w fun e w' => e = .returned (.tuple #[.slice none 0 0, .int .i64 2]) ∧ Below w.heap.size w w') ∧ (∀ w : World, Calls Try.prog 22 #[.agg #[.int .i64 kind, .int .i64 sq, .string key, .string val], .int .i64 0, .int .i64 0] w fun e w' => e = .returned (.tuple #[.agg #[.int .i64 0, .string ⟨#[]⟩, .bool false, .int .i64 0, .int .i64 0, .int .i64 0], .int .i64 2]) ∧ Below w.heap.size w w') ∧ (∀ w : World, Calls Try.prog 17 #[.agg #[.int .i64 kind, .int .i64 sq, .string key, .string val]] w fun e w' => e = .returned (.int .i64 2) ∧ Below w.heap.size w w') :=
  ⟨fun w => rsize_no ⟨kind, sq, key, val⟩ h hk hv w, fun w => ren_no ⟨kind, sq, key, val⟩ h hk hv w, fun w => entry_bad ⟨kind, sq, key, val⟩ 0 0 h hk hv w, fun w => rchk_no ⟨kind, sq, key, val⟩ h hk hv w⟩

def KT (W : World) (t s u : Nat) (dv rv ev : Array Value) (w' : World) : Prop := Below W.heap.size W w' ∧ Blk w' t 45 dv ∧ Blk w' s 23 rv ∧ Blk w' u 38 ev
abbrev ST (W : World) (t s u : Nat) (del : Bool) (kind sq : Int) (key val : ByteArray) (N : Nat) (a1 : Option Addr) (n1 c1 : Nat) (a2 : Option Addr) (n2 c2 : Nat) (seq : Int) (w' : World) : Prop := w'.cell? ⟨t, 0, none⟩ = some (.bool del) ∧ w'.cell? ⟨s, 1, none⟩ = some (.int .i64 sq) ∧ w'.cell? ⟨s, 2, none⟩ = some (.string key) ∧ w'.cell? ⟨s, 3, none⟩ = some (.string val) ∧ w'.cell? ⟨u, 0, none⟩ = some (.int .i64 sq) ∧ w'.cell? ⟨u, 1, none⟩ = some (.string key) ∧ w'.cell? ⟨u, 2, none⟩ = some (.bool del) ∧ w'.cell? ⟨u, 5, none⟩ = some (.int .i64 (N : Nat)) ∧ KT W t s u (#[.bool del, .int .u64 seq, .slice a1 n1 c1, .slice a2 n2 c2]) (#[.int .i64 kind, .int .i64 sq, .string key, .string val]) (#[.int .i64 sq, .string key, .bool del, .int .i64 31, .int .i64 8192, .int .i64 (N : Nat)]) w'
section
variable {W : World} {t s u : Nat} {del : Bool} {kind sq : Int} {key val : ByteArray} {N : Nat} {a1 : Option Addr} {n1 c1 : Nat} {a2 : Option Addr} {n2 c2 : Nat} {seq : Int}
theorem ST.mk {w' : World} (h : KT W t s u (#[.bool del, .int .u64 seq, .slice a1 n1 c1, .slice a2 n2 c2]) (#[.int .i64 kind, .int .i64 sq, .string key, .string val]) (#[.int .i64 sq, .string key, .bool del, .int .i64 31, .int .i64 8192, .int .i64 (N : Nat)]) w') : ST W t s u del kind sq key val N a1 n1 c1 a2 n2 c2 seq w' :=
  ⟨h.2.1.cell 0, h.2.2.1.cell 1, h.2.2.1.cell 2, h.2.2.1.cell 3, h.2.2.2.cell 0, h.2.2.2.cell 1, h.2.2.2.cell 2, h.2.2.2.cell 5, h⟩
theorem ST.after {w w' : World} (h : ST W t s u del kind sq key val N a1 n1 c1 a2 n2 c2 seq w) (hb : Below w.heap.size w w') : ST W t s u del kind sq key val N a1 n1 c1 a2 n2 c2 seq w' := by
  obtain ⟨_, _, _, _, _, _, _, _, h1, h2, h3, h4⟩ := h
  exact ST.mk ⟨b_then h1 hb, h2.below hb h2.lt, h3.below hb h3.lt, h4.below hb h4.lt⟩
end

set_option maxHeartbeats 20000000 in
set_option maxRecDepth 100000 in
theorem walk {H : Type} {enc : TypeId × Value → H} (W : World) (base : Nat) {v0 v1 v2 : Value} {d0 d1 d2 : DataW H} {p0 p1 p2 : List MemPlace} (o0 : Value.okWide Try.prog W .any base 45 v0) (h0 : DataW.Trod enc Try.prog W 0 (fun _ => true) true 45 v0 d0 p0) (o1 : Value.okWide Try.prog W .any base 5 v1) (h1 : DataW.Trod enc Try.prog W 0 (fun _ => true) true 5 v1 d1 p1) (o2 : Value.okWide Try.prog W .any base 50 v2) (h2 : DataW.Trod enc Try.prog W 0 (fun _ => true) true 50 v2 d2 p2) :
    Calls Try.prog 10 #[v0, v1, v2] W fun e W' => e = .returned (.bool true) ∧ Below W.heap.size W W' := by
  obtain ⟨del, seq, a1, n1, c1, K, a2, n2, c2, V, rfl, s0, s1, hK, hV⟩ := open_draft o0 h0
  clear o0 h0
  have hn1 : n1 ≤ 9223372036854775807 := by have := hK.2.2.2; unfold maxLen at this; omega
  have hn2 : n2 ≤ 9223372036854775807 := by have := hV.2.2.2; unfold maxLen at this; omega
  obtain ⟨what, rfl, rfl, rfl, wb⟩ := open_int Try.underlying5 o1 h1
  obtain ⟨far, rfl, rfl, rfl, wf⟩ := open_int Try.underlying50 o2 h2
  have bw := bounds_u8 wb
  have bf := bounds_u16 wf
  clear wb wf h1 o1 h2 o2
  by_cases g1 : 600 < n2
  · have g1' : (600 : Int) < (n2 : Int) := by omega
    clear hK hV
    go_enter Try.func10, Try.ntmps10
    go_wp2_with fail
    refine (works_true _).mono ?_
    rintro e w9 ⟨rfl, hb9⟩
    go_wp2_with fail
    go_ret
    exact ⟨rfl, b_then (b_alloc (Below.refl _ _) _) hb9⟩
  · by_cases g2 : 100 < n1
    · have g1' : (n2 : Int) ≤ 600 := by omega
      have g2' : (100 : Int) < (n1 : Int) := by omega
      clear hK hV
      go_enter Try.func10, Try.ntmps10
      go_wp2_with fail
      refine (works_true _).mono ?_
      rintro e w9 ⟨rfl, hb9⟩
      go_wp2_with fail
      go_ret
      exact ⟨rfl, b_then (b_alloc (Below.refl _ _) _) hb9⟩
    · have g1' : (n2 : Int) ≤ 600 := by omega
      have g2' : (n1 : Int) ≤ 100 := by omega
      have hrok := draftR_ok del seq K V s0
      have hrec := fun (w : World) (hb : Below W.heap.size W w) => rec_any del seq a1 n1 c1 K a2 n2 c2 V w s0 s1 (hK.later hb) (hV.later hb)
      have hkd : ((draftR del seq K V).kind == 2) = del := by cases del <;> rfl
      obtain ⟨r, hr⟩ : ∃ r, r = draftR del seq K V := ⟨_, rfl⟩
      rw [← hr] at hrok hrec hkd
      clear hr hK hV
      obtain ⟨kind, sq, key, val⟩ := r
      have hkd : (kind == 2) = del := hkd
      have hrec : ∀ w : World, Below W.heap.size W w → Calls Try.prog 26 #[.agg #[.bool del, .int .u64 seq, .slice a1 n1 c1, .slice a2 n2 c2]] w fun e w' => e = .returned (.agg #[.int .i64 kind, .int .i64 sq, .string key, .string val]) ∧ Below w.heap.size w w' := hrec
      have he1 : ∀ w : World, Calls Try.prog 22 #[.agg #[.int .i64 kind, .int .i64 sq, .string key, .string val], .int .i64 (-1 - far), .int .i64 (0)] w fun e w' => e = .returned (.tuple #[.agg #[.int .i64 0, .string ⟨#[]⟩, .bool false, .int .i64 0, .int .i64 0, .int .i64 0], .int .i64 2]) ∧ Below w.heap.size w w' := fun w => entry_out _ _ _ hrok (by omega) w
      have he2 : ∀ w : World, Calls Try.prog 22 #[.agg #[.int .i64 kind, .int .i64 sq, .string key, .string val], .int .i64 (32 + far), .int .i64 (0)] w fun e w' => e = .returned (.tuple #[.agg #[.int .i64 0, .string ⟨#[]⟩, .bool false, .int .i64 0, .int .i64 0, .int .i64 0], .int .i64 2]) ∧ Below w.heap.size w w' := fun w => entry_out _ _ _ hrok (by omega) w
      have he3 : ∀ w : World, Calls Try.prog 22 #[.agg #[.int .i64 kind, .int .i64 sq, .string key, .string val], .int .i64 (0), .int .i64 (-1 - far)] w fun e w' => e = .returned (.tuple #[.agg #[.int .i64 0, .string ⟨#[]⟩, .bool false, .int .i64 0, .int .i64 0, .int .i64 0], .int .i64 2]) ∧ Below w.heap.size w w' := fun w => entry_out _ _ _ hrok (by omega) w
      have he4 : ∀ w : World, Calls Try.prog 22 #[.agg #[.int .i64 kind, .int .i64 sq, .string key, .string val], .int .i64 (0), .int .i64 (8193 + far)] w fun e w' => e = .returned (.tuple #[.agg #[.int .i64 0, .string ⟨#[]⟩, .bool false, .int .i64 0, .int .i64 0, .int .i64 0], .int .i64 2]) ∧ Below w.heap.size w w' := fun w => entry_out _ _ _ hrok (by omega) w
      obtain ⟨N, hN⟩ : ∃ N : Nat, N = 16 + key.size + val.size := ⟨_, rfl⟩
      have he5 : ∀ w : World, Calls Try.prog 22 #[.agg #[.int .i64 kind, .int .i64 sq, .string key, .string val], .int .i64 (31), .int .i64 (8192)] w fun e w' => e = .returned (.tuple #[.agg #[.int .i64 sq, .string key, .bool del, .int .i64 31, .int .i64 8192, .int .i64 (N : Nat)], .int .i64 0]) ∧ Below w.heap.size w w' := by
        intro w
        have h := entry_yes _ 31 8192 hrok (by omega) (by omega) (by omega) (by omega) w
        simp only [entV] at h
        rw [hkd, show Rc.size ⟨kind, sq, key, val⟩ = N from hN.symm] at h
        exact h
      have hks : key.size ≤ 32 := hrok.2.2.2.2.2.1
      have hvs : val.size ≤ 512 := hrok.2.2.2.2.2.2
      have hk0 : 1 ≤ key.size := hrok.2.2.2.2.1
      have hco := fun w : World => cost_any key val (by omega) (by omega) w
      rw [← hN] at hco
      clear hN
      obtain ⟨bw0, bw1⟩ := bw
      obtain ⟨bf0, bf1⟩ := bf
      have u1 : IntKind.i64.wrap (-1 - far) = -1 - far := by rw [IntKind.wrap_i64]; omega
      have u2 : IntKind.i64.wrap (32 + far) = 32 + far := by rw [IntKind.wrap_i64]; omega
      have u3 : IntKind.i64.wrap (8193 + far) = 8193 + far := by rw [IntKind.wrap_i64]; omega
      have u4 : IntKind.i64.wrap far = far := by rw [IntKind.wrap_i64]; omega
      have HROK := Lib.hid hrok
      have HKD := Lib.hid hkd
      clear hrok hkd
      go_enter Try.func10, Try.ntmps10
      go_wp2_with fail
      refine (hrec _ (b_alloc (Below.refl _ _) _)).mono ?_
      rintro e w1 ⟨rfl, hb1⟩
      have hY1 : Below W.heap.size W w1 := b_then (by repeat first | exact Below.refl _ _ | apply Below.drew | apply b_alloc) hb1
      have hD1 : Blk w1 (W.heap.size) 45 #[.bool del, .int .u64 seq, .slice a1 n1 c1, .slice a2 n2 c2] := (hb1.block _ (by simp <;> omega)).trans (by repeat (first | ((with_reducible refine alloc_here' ?_); (simp; done)) | (with_reducible apply alloc_old') | (with_reducible apply drew_old)))
      have bel1 := hY1
      clear hb1
      have cD := hD1.cell
      have lD := hD1.lt
      have hDR : W.heap.size ≠ w1.heap.size := Nat.ne_of_lt hD1.lt
      go_wp2_with fail
      refine (he1 _).mono ?_
      rintro e w2 ⟨rfl, hb2⟩
      have hY2 : Below w1.heap.size w1 w2 := b_then (by repeat first | exact Below.refl _ _ | apply Below.drew | apply b_alloc) hb2
      have hD2 := hD1.below hY2 hD1.lt
      have hR2 : Blk w2 (w1.heap.size) 23 #[.int .i64 kind, .int .i64 sq, .string key, .string val] := (hb2.block _ (by simp <;> omega)).trans (by repeat (first | ((with_reducible refine alloc_here' ?_); (simp; done)) | (with_reducible apply alloc_old') | (with_reducible apply drew_old)))
      have bel2 := b_then bel1 hY2
      clear hD1 bel1 hb2 cD lD hY2
      have cD := hD2.cell
      have lD := hD2.lt
      have cR := hR2.cell
      have lR := hR2.lt
      go_wp2_with fail
      refine (he2 _).mono ?_
      rintro e w3 ⟨rfl, hb3⟩
      have hY3 : Below w2.heap.size w2 w3 := b_then (by repeat first | exact Below.refl _ _ | apply Below.drew | apply b_alloc) hb3
      have hD3 := hD2.below hY3 hD2.lt
      have hR3 := hR2.below hY3 hR2.lt
      have bel3 := b_then bel2 hY3
      clear hD2 hR2 bel2 hb3 cD lD cR lR hY3
      have cD := hD3.cell
      have lD := hD3.lt
      have cR := hR3.cell
      have lR := hR3.lt
      go_wp2_with fail
      refine (he3 _).mono ?_
      rintro e w4 ⟨rfl, hb4⟩
      have hY4 : Below w3.heap.size w3 w4 := b_then (by repeat first | exact Below.refl _ _ | apply Below.drew | apply b_alloc) hb4
      have hD4 := hD3.below hY4 hD3.lt
      have hR4 := hR3.below hY4 hR3.lt
      have bel4 := b_then bel3 hY4
      clear hD3 hR3 bel3 hb4 cD lD cR lR hY4
      have cD := hD4.cell
      have lD := hD4.lt
      have cR := hR4.cell
      have lR := hR4.lt
      go_wp2_with fail
      refine (he4 _).mono ?_
      rintro e w5 ⟨rfl, hb5⟩
      have hY5 : Below w4.heap.size w4 w5 := b_then (by repeat first | exact Below.refl _ _ | apply Below.drew | apply b_alloc) hb5
      have hD5 := hD4.below hY5 hD4.lt
      have hR5 := hR4.below hY5 hR4.lt
      have bel5 := b_then bel4 hY5
      clear hD4 hR4 bel4 hb5 cD lD cR lR hY5
      have cD := hD5.cell
      have lD := hD5.lt
      have cR := hR5.cell
      have lR := hR5.lt
      go_wp2_with fail
      refine (he5 _).mono ?_
      rintro e w6 ⟨rfl, hb6⟩
      have hY6 : Below w5.heap.size w5 w6 := b_then (by repeat first | exact Below.refl _ _ | apply Below.drew | apply b_alloc) hb6
      have hD6 := hD5.below hY6 hD5.lt
      have hR6 := hR5.below hY6 hR5.lt
      have bel6 := b_then bel5 hY6
      clear hD5 hR5 bel5 hb6 cD lD cR lR hY6
      have hP6 := Blk.new w6 38 #[.int .i64 sq, .string key, .bool del, .int .i64 31, .int .i64 8192, .int .i64 (N : Nat)]
      have cP := hP6.cell
      clear he1 he2 he3 he4 he5 hrec
      have hK : KT W W.heap.size w1.heap.size w6.heap.size (#[.bool del, .int .u64 seq, .slice a1 n1 c1, .slice a2 n2 c2]) (#[.int .i64 kind, .int .i64 sq, .string key, .string val]) (#[.int .i64 sq, .string key, .bool del, .int .i64 31, .int .i64 8192, .int .i64 (N : Nat)]) (w6.alloc (.cells #[.int .i64 sq, .string key, .bool del, .int .i64 31, .int .i64 8192, .int .i64 (N : Nat)] 38)) := ⟨b_alloc bel6 _, hD6.alloc _, hR6.alloc _, hP6⟩
      have hS0 := (ST.mk hK).after (Below.drew (Below.refl _ _))
      clear hK bel6 hD6 hR6 hP6 cP
      go_wp2_with fail
      go_region_held3 (fun w' => w'.cell? ⟨W.heap.size, 0, none⟩ = some (.bool del) ∧ w'.cell? ⟨w1.heap.size, 1, none⟩ = some (.int .i64 sq) ∧ w'.cell? ⟨w1.heap.size, 2, none⟩ = some (.string key) ∧ w'.cell? ⟨w1.heap.size, 3, none⟩ = some (.string val) ∧ w'.cell? ⟨w6.heap.size, 0, none⟩ = some (.int .i64 sq) ∧ w'.cell? ⟨w6.heap.size, 1, none⟩ = some (.string key) ∧ w'.cell? ⟨w6.heap.size, 2, none⟩ = some (.bool del) ∧ w'.cell? ⟨w6.heap.size, 5, none⟩ = some (.int .i64 (N : Nat)) ∧ KT W W.heap.size w1.heap.size w6.heap.size (#[.bool del, .int .u64 seq, .slice a1 n1 c1, .slice a2 n2 c2]) (#[.int .i64 kind, .int .i64 sq, .string key, .string val]) (#[.int .i64 sq, .string key, .bool del, .int .i64 31, .int .i64 8192, .int .i64 (N : Nat)]) w') (first | (with_reducible assumption) | (with_reducible exact hS0) | go_keep) (first
        | (go_at_call 24; (with_reducible refine (hco _).mono ?_); rintro e w' ⟨rfl, rfl⟩))
      obtain ⟨_, _, _, _, _, _, _, _, hB7, hD7, hR7, hP7⟩ := hS0
      generalize (w6.alloc (.cells #[.int .i64 sq, .string key, .bool del, .int .i64 31, .int .i64 8192, .int .i64 (N : Nat)] 38)).drew = w7 at hB7 hD7 hR7 hP7 ⊢
      clear hP7 hrec hkd hco
      have cR := hR7.cell
      have v0 : IntKind.i64.wrap (3 + far) = 3 + far := by rw [IntKind.wrap_i64]; omega
      have v1 : IntKind.i64.wrap (-far) = -far := by rw [IntKind.wrap_i64]; omega
      have v3 : IntKind.i64.wrap (1099511627777 + far) = 1099511627777 + far := by rw [IntKind.wrap_i64]; omega
      have hm : what % 8 = 0 ∨ what % 8 = 1 ∨ what % 8 = 2 ∨ what % 8 = 3 ∨ what % 8 = 4 ∨ what % 8 = 5 ∨ what % 8 = 6 ∨ what % 8 = 7 := by omega
      have htm : what.tmod 8 = what % 8 := Int.tmod_eq_emod_of_nonneg bw0
      rcases hm with hm | hm | hm | hm | hm | hm | hm | hm
      · rw [hm] at htm
        have hNew : Blk (w7.setCell ⟨w1.heap.size, 0, none⟩ (.int .i64 (3 + far))) w1.heap.size 23 #[.int .i64 (3 + far), .int .i64 sq, .string key, .string val] := hR7.set_ 0 (.int .i64 (3 + far))
        have hBS : Below W.heap.size W (w7.setCell ⟨w1.heap.size, 0, none⟩ (.int .i64 (3 + far))) := hB7.setCell (by exact hY1.size) (.int .i64 (3 + far))
        have cN := hNew.cell
        have hfr := hR7.frozen
        go_wp2_with fail
        generalize (w7.setCell ⟨w1.heap.size, 0, none⟩ (.int .i64 (3 + far))) = wS at hNew hBS cN ⊢
        clear hfr cR hR7 hB7 cN
        obtain ⟨q1, q2, q3, q4⟩ := four (3 + far) (sq) (key) (val) (fun h => by have := h.1; simp only at this; omega) (by unfold maxLen; omega) (by unfold maxLen; omega)
        (with_reducible refine (q1 _).mono ?_)
        rintro e w1 ⟨rfl, hb1⟩
        have hY1 : Below wS.heap.size wS w1 := b_then (by repeat first | exact Below.refl _ _ | apply Below.drew | apply b_alloc) hb1
        have hR1 := hNew.below hY1 hNew.lt
        have bel1 := b_then hBS hY1
        clear hNew hBS hb1 hY1
        have cR := hR1.cell
        have lR := hR1.lt
        go_wp2_with fail
        (with_reducible refine (q2 _).mono ?_)
        rintro e w2 ⟨rfl, hb2⟩
        have hY2 : Below w1.heap.size w1 w2 := b_then (by repeat first | exact Below.refl _ _ | apply Below.drew | apply b_alloc) hb2
        have hR2 := hR1.below hY2 hR1.lt
        have bel2 := b_then bel1 hY2
        clear hR1 bel1 hb2 cR lR hY2
        have cR := hR2.cell
        have lR := hR2.lt
        go_wp2_with fail
        (with_reducible refine (q3 _).mono ?_)
        rintro e w3 ⟨rfl, hb3⟩
        have hY3 : Below w2.heap.size w2 w3 := b_then (by repeat first | exact Below.refl _ _ | apply Below.drew | apply b_alloc) hb3
        have hR3 := hR2.below hY3 hR2.lt
        have bel3 := b_then bel2 hY3
        clear hR2 bel2 hb3 cR lR hY3
        have cR := hR3.cell
        have lR := hR3.lt
        go_wp2_with fail
        (with_reducible refine (q4 _).mono ?_)
        rintro e w4 ⟨rfl, hb4⟩
        have hY4 : Below w3.heap.size w3 w4 := b_then (by repeat first | exact Below.refl _ _ | apply Below.drew | apply b_alloc) hb4
        have hR4 := hR3.below hY4 hR3.lt
        have bel4 := b_then bel3 hY4
        clear hR3 bel3 hb4 cR lR hY4
        have cR := hR4.cell
        have lR := hR4.lt
        clear q1 q2 q3 q4
        go_wp2_with fail
        (with_reducible refine (works_true _).mono ?_)
        rintro e w5 ⟨rfl, hb5⟩
        have hY5 : Below w4.heap.size w4 w5 := b_then (by repeat first | exact Below.refl _ _ | apply Below.drew | apply b_alloc) hb5
        have hR5 := hR4.below hY5 hR4.lt
        have bel5 := b_then bel4 hY5
        clear hR4 bel4 hb5 cR lR hY5
        have cR := hR5.cell
        have lR := hR5.lt
        go_wp2_with fail
        go_ret
        exact ⟨rfl, bel5⟩
      · rw [hm] at htm
        have hNew : Blk (w7.setCell ⟨w1.heap.size, 0, none⟩ (.int .i64 (-far))) w1.heap.size 23 #[.int .i64 (-far), .int .i64 sq, .string key, .string val] := hR7.set_ 0 (.int .i64 (-far))
        have hBS : Below W.heap.size W (w7.setCell ⟨w1.heap.size, 0, none⟩ (.int .i64 (-far))) := hB7.setCell (by exact hY1.size) (.int .i64 (-far))
        have cN := hNew.cell
        have hfr := hR7.frozen
        go_wp2_with fail
        generalize (w7.setCell ⟨w1.heap.size, 0, none⟩ (.int .i64 (-far))) = wS at hNew hBS cN ⊢
        clear hfr cR hR7 hB7 cN
        obtain ⟨q1, q2, q3, q4⟩ := four (-far) (sq) (key) (val) (fun h => by have := h.1; simp only at this; omega) (by unfold maxLen; omega) (by unfold maxLen; omega)
        (with_reducible refine (q1 _).mono ?_)
        rintro e w1 ⟨rfl, hb1⟩
        have hY1 : Below wS.heap.size wS w1 := b_then (by repeat first | exact Below.refl _ _ | apply Below.drew | apply b_alloc) hb1
        have hR1 := hNew.below hY1 hNew.lt
        have bel1 := b_then hBS hY1
        clear hNew hBS hb1 hY1
        have cR := hR1.cell
        have lR := hR1.lt
        go_wp2_with fail
        (with_reducible refine (q2 _).mono ?_)
        rintro e w2 ⟨rfl, hb2⟩
        have hY2 : Below w1.heap.size w1 w2 := b_then (by repeat first | exact Below.refl _ _ | apply Below.drew | apply b_alloc) hb2
        have hR2 := hR1.below hY2 hR1.lt
        have bel2 := b_then bel1 hY2
        clear hR1 bel1 hb2 cR lR hY2
        have cR := hR2.cell
        have lR := hR2.lt
        go_wp2_with fail
        (with_reducible refine (q3 _).mono ?_)
        rintro e w3 ⟨rfl, hb3⟩
        have hY3 : Below w2.heap.size w2 w3 := b_then (by repeat first | exact Below.refl _ _ | apply Below.drew | apply b_alloc) hb3
        have hR3 := hR2.below hY3 hR2.lt
        have bel3 := b_then bel2 hY3
        clear hR2 bel2 hb3 cR lR hY3
        have cR := hR3.cell
        have lR := hR3.lt
        go_wp2_with fail
        (with_reducible refine (q4 _).mono ?_)
        rintro e w4 ⟨rfl, hb4⟩
        have hY4 : Below w3.heap.size w3 w4 := b_then (by repeat first | exact Below.refl _ _ | apply Below.drew | apply b_alloc) hb4
        have hR4 := hR3.below hY4 hR3.lt
        have bel4 := b_then bel3 hY4
        clear hR3 bel3 hb4 cR lR hY4
        have cR := hR4.cell
        have lR := hR4.lt
        clear q1 q2 q3 q4
        go_wp2_with fail
        (with_reducible refine (works_true _).mono ?_)
        rintro e w5 ⟨rfl, hb5⟩
        have hY5 : Below w4.heap.size w4 w5 := b_then (by repeat first | exact Below.refl _ _ | apply Below.drew | apply b_alloc) hb5
        have hR5 := hR4.below hY5 hR4.lt
        have bel5 := b_then bel4 hY5
        clear hR4 bel4 hb5 cR lR hY5
        have cR := hR5.cell
        have lR := hR5.lt
        go_wp2_with fail
        go_ret
        exact ⟨rfl, bel5⟩
      · rw [hm] at htm
        have hNew : Blk (w7.setCell ⟨w1.heap.size, 1, none⟩ (.int .i64 (-far))) w1.heap.size 23 #[.int .i64 kind, .int .i64 (-far), .string key, .string val] := hR7.set_ 1 (.int .i64 (-far))
        have hBS : Below W.heap.size W (w7.setCell ⟨w1.heap.size, 1, none⟩ (.int .i64 (-far))) := hB7.setCell (by exact hY1.size) (.int .i64 (-far))
        have cN := hNew.cell
        have hfr := hR7.frozen
        go_wp2_with fail
        generalize (w7.setCell ⟨w1.heap.size, 1, none⟩ (.int .i64 (-far))) = wS at hNew hBS cN ⊢
        clear hfr cR hR7 hB7 cN
        obtain ⟨q1, q2, q3, q4⟩ := four (kind) (-far) (key) (val) (fun h => by have := h.2.1; simp only at this; omega) (by unfold maxLen; omega) (by unfold maxLen; omega)
        (with_reducible refine (q1 _).mono ?_)
        rintro e w1 ⟨rfl, hb1⟩
        have hY1 : Below wS.heap.size wS w1 := b_then (by repeat first | exact Below.refl _ _ | apply Below.drew | apply b_alloc) hb1
        have hR1 := hNew.below hY1 hNew.lt
        have bel1 := b_then hBS hY1
        clear hNew hBS hb1 hY1
        have cR := hR1.cell
        have lR := hR1.lt
        go_wp2_with fail
        (with_reducible refine (q2 _).mono ?_)
        rintro e w2 ⟨rfl, hb2⟩
        have hY2 : Below w1.heap.size w1 w2 := b_then (by repeat first | exact Below.refl _ _ | apply Below.drew | apply b_alloc) hb2
        have hR2 := hR1.below hY2 hR1.lt
        have bel2 := b_then bel1 hY2
        clear hR1 bel1 hb2 cR lR hY2
        have cR := hR2.cell
        have lR := hR2.lt
        go_wp2_with fail
        (with_reducible refine (q3 _).mono ?_)
        rintro e w3 ⟨rfl, hb3⟩
        have hY3 : Below w2.heap.size w2 w3 := b_then (by repeat first | exact Below.refl _ _ | apply Below.drew | apply b_alloc) hb3
        have hR3 := hR2.below hY3 hR2.lt
        have bel3 := b_then bel2 hY3
        clear hR2 bel2 hb3 cR lR hY3
        have cR := hR3.cell
        have lR := hR3.lt
        go_wp2_with fail
        (with_reducible refine (q4 _).mono ?_)
        rintro e w4 ⟨rfl, hb4⟩
        have hY4 : Below w3.heap.size w3 w4 := b_then (by repeat first | exact Below.refl _ _ | apply Below.drew | apply b_alloc) hb4
        have hR4 := hR3.below hY4 hR3.lt
        have bel4 := b_then bel3 hY4
        clear hR3 bel3 hb4 cR lR hY4
        have cR := hR4.cell
        have lR := hR4.lt
        clear q1 q2 q3 q4
        go_wp2_with fail
        (with_reducible refine (works_true _).mono ?_)
        rintro e w5 ⟨rfl, hb5⟩
        have hY5 : Below w4.heap.size w4 w5 := b_then (by repeat first | exact Below.refl _ _ | apply Below.drew | apply b_alloc) hb5
        have hR5 := hR4.below hY5 hR4.lt
        have bel5 := b_then bel4 hY5
        clear hR4 bel4 hb5 cR lR hY5
        have cR := hR5.cell
        have lR := hR5.lt
        go_wp2_with fail
        go_ret
        exact ⟨rfl, bel5⟩
      · rw [hm] at htm
        have hNew : Blk (w7.setCell ⟨w1.heap.size, 1, none⟩ (.int .i64 (1099511627777 + far))) w1.heap.size 23 #[.int .i64 kind, .int .i64 (1099511627777 + far), .string key, .string val] := hR7.set_ 1 (.int .i64 (1099511627777 + far))
        have hBS : Below W.heap.size W (w7.setCell ⟨w1.heap.size, 1, none⟩ (.int .i64 (1099511627777 + far))) := hB7.setCell (by exact hY1.size) (.int .i64 (1099511627777 + far))
        have cN := hNew.cell
        have hfr := hR7.frozen
        go_wp2_with fail
        generalize (w7.setCell ⟨w1.heap.size, 1, none⟩ (.int .i64 (1099511627777 + far))) = wS at hNew hBS cN ⊢
        clear hfr cR hR7 hB7 cN
        obtain ⟨q1, q2, q3, q4⟩ := four (kind) (1099511627777 + far) (key) (val) (fun h => by have := h.2.2.1; simp only at this; omega) (by unfold maxLen; omega) (by unfold maxLen; omega)
        (with_reducible refine (q1 _).mono ?_)
        rintro e w1 ⟨rfl, hb1⟩
        have hY1 : Below wS.heap.size wS w1 := b_then (by repeat first | exact Below.refl _ _ | apply Below.drew | apply b_alloc) hb1
        have hR1 := hNew.below hY1 hNew.lt
        have bel1 := b_then hBS hY1
        clear hNew hBS hb1 hY1
        have cR := hR1.cell
        have lR := hR1.lt
        go_wp2_with fail
        (with_reducible refine (q2 _).mono ?_)
        rintro e w2 ⟨rfl, hb2⟩
        have hY2 : Below w1.heap.size w1 w2 := b_then (by repeat first | exact Below.refl _ _ | apply Below.drew | apply b_alloc) hb2
        have hR2 := hR1.below hY2 hR1.lt
        have bel2 := b_then bel1 hY2
        clear hR1 bel1 hb2 cR lR hY2
        have cR := hR2.cell
        have lR := hR2.lt
        go_wp2_with fail
        (with_reducible refine (q3 _).mono ?_)
        rintro e w3 ⟨rfl, hb3⟩
        have hY3 : Below w2.heap.size w2 w3 := b_then (by repeat first | exact Below.refl _ _ | apply Below.drew | apply b_alloc) hb3
        have hR3 := hR2.below hY3 hR2.lt
        have bel3 := b_then bel2 hY3
        clear hR2 bel2 hb3 cR lR hY3
        have cR := hR3.cell
        have lR := hR3.lt
        go_wp2_with fail
        (with_reducible refine (q4 _).mono ?_)
        rintro e w4 ⟨rfl, hb4⟩
        have hY4 : Below w3.heap.size w3 w4 := b_then (by repeat first | exact Below.refl _ _ | apply Below.drew | apply b_alloc) hb4
        have hR4 := hR3.below hY4 hR3.lt
        have bel4 := b_then bel3 hY4
        clear hR3 bel3 hb4 cR lR hY4
        have cR := hR4.cell
        have lR := hR4.lt
        clear q1 q2 q3 q4
        go_wp2_with fail
        (with_reducible refine (works_true _).mono ?_)
        rintro e w5 ⟨rfl, hb5⟩
        have hY5 : Below w4.heap.size w4 w5 := b_then (by repeat first | exact Below.refl _ _ | apply Below.drew | apply b_alloc) hb5
        have hR5 := hR4.below hY5 hR4.lt
        have bel5 := b_then bel4 hY5
        clear hR4 bel4 hb5 cR lR hY5
        have cR := hR5.cell
        have lR := hR5.lt
        go_wp2_with fail
        go_ret
        exact ⟨rfl, bel5⟩
      · rw [hm] at htm
        have hNew : Blk (w7.setCell ⟨w1.heap.size, 2, none⟩ (.string ⟨#[]⟩)) w1.heap.size 23 #[.int .i64 kind, .int .i64 sq, .string ⟨#[]⟩, .string val] := hR7.set_ 2 (.string ⟨#[]⟩)
        have hBS : Below W.heap.size W (w7.setCell ⟨w1.heap.size, 2, none⟩ (.string ⟨#[]⟩)) := hB7.setCell (by exact hY1.size) (.string ⟨#[]⟩)
        have cN := hNew.cell
        have hfr := hR7.frozen
        go_wp2_with fail
        generalize (w7.setCell ⟨w1.heap.size, 2, none⟩ (.string ⟨#[]⟩)) = wS at hNew hBS cN ⊢
        clear hfr cR hR7 hB7 cN
        obtain ⟨q1, q2, q3, q4⟩ := four (kind) (sq) (⟨#[]⟩) (val) (fun h => absurd (show 1 ≤ (⟨#[]⟩ : ByteArray).size from h.2.2.2.2.1) (by decide)) (by decide) (by unfold maxLen; omega)
        (with_reducible refine (q1 _).mono ?_)
        rintro e w1 ⟨rfl, hb1⟩
        have hY1 : Below wS.heap.size wS w1 := b_then (by repeat first | exact Below.refl _ _ | apply Below.drew | apply b_alloc) hb1
        have hR1 := hNew.below hY1 hNew.lt
        have bel1 := b_then hBS hY1
        clear hNew hBS hb1 hY1
        have cR := hR1.cell
        have lR := hR1.lt
        go_wp2_with fail
        (with_reducible refine (q2 _).mono ?_)
        rintro e w2 ⟨rfl, hb2⟩
        have hY2 : Below w1.heap.size w1 w2 := b_then (by repeat first | exact Below.refl _ _ | apply Below.drew | apply b_alloc) hb2
        have hR2 := hR1.below hY2 hR1.lt
        have bel2 := b_then bel1 hY2
        clear hR1 bel1 hb2 cR lR hY2
        have cR := hR2.cell
        have lR := hR2.lt
        go_wp2_with fail
        (with_reducible refine (q3 _).mono ?_)
        rintro e w3 ⟨rfl, hb3⟩
        have hY3 : Below w2.heap.size w2 w3 := b_then (by repeat first | exact Below.refl _ _ | apply Below.drew | apply b_alloc) hb3
        have hR3 := hR2.below hY3 hR2.lt
        have bel3 := b_then bel2 hY3
        clear hR2 bel2 hb3 cR lR hY3
        have cR := hR3.cell
        have lR := hR3.lt
        go_wp2_with fail
        (with_reducible refine (q4 _).mono ?_)
        rintro e w4 ⟨rfl, hb4⟩
        have hY4 : Below w3.heap.size w3 w4 := b_then (by repeat first | exact Below.refl _ _ | apply Below.drew | apply b_alloc) hb4
        have hR4 := hR3.below hY4 hR3.lt
        have bel4 := b_then bel3 hY4
        clear hR3 bel3 hb4 cR lR hY4
        have cR := hR4.cell
        have lR := hR4.lt
        clear q1 q2 q3 q4
        go_wp2_with fail
        (with_reducible refine (works_true _).mono ?_)
        rintro e w5 ⟨rfl, hb5⟩
        have hY5 : Below w4.heap.size w4 w5 := b_then (by repeat first | exact Below.refl _ _ | apply Below.drew | apply b_alloc) hb5
        have hR5 := hR4.below hY5 hR4.lt
        have bel5 := b_then bel4 hY5
        clear hR4 bel4 hb5 cR lR hY5
        have cR := hR5.cell
        have lR := hR5.lt
        go_wp2_with fail
        go_ret
        exact ⟨rfl, bel5⟩
      · rw [hm] at htm
        have cR := hR7.cell
        have hfr := hR7.frozen
        obtain ⟨kl, hkl⟩ : ∃ kl : Nat, key.size = kl + 1 := ⟨key.size - 1, by omega⟩
        have e1 : (key.size : Int) - 1 = (kl : Int) := by omega
        have e2 : IntKind.i64.wrap (kl : Int) = (kl : Int) := by rw [IntKind.wrap_i64]; omega
        have e3 : (0 : Int) ≤ (kl : Int) := by omega
        have e4 : (kl : Int) ≤ (key.size : Int) := by omega
        have HKL := Lib.hid hkl
        have e5 : ¬ (9223372036854775807 : Nat) < min kl key.size + 1 := by omega
        have e6 : ¬ (9223372036854775807 : Nat) < min kl key.size + 2 := by omega
        have hR5 := hR7.alloc (.cells #[.string ⟨#[65]⟩, .string ⟨#[32]⟩, .string ⟨#[0]⟩, .string ⟨#[195, 169]⟩, .string ⟨#[47]⟩] 9)
        have cR5 := hR5.cell
        have cR6 := hR5.drew.cell
        have cF5 := hR5.frozen
        have cF6 := hR5.drew.frozen
        clear hkl
        have hr5 : far % 5 = 0 ∨ far % 5 = 1 ∨ far % 5 = 2 ∨ far % 5 = 3 ∨ far % 5 = 4 := by omega
        have ht5 : far.tmod 5 = far % 5 := Int.tmod_eq_emod_of_nonneg bf0
        rcases hr5 with hr5 | hr5 | hr5 | hr5 | hr5
        · rw [hr5] at ht5
          have hNew : Blk (((w7.alloc (.cells #[.string ⟨#[65]⟩, .string ⟨#[32]⟩, .string ⟨#[0]⟩, .string ⟨#[195, 169]⟩, .string ⟨#[47]⟩] 9)).setCell ⟨w1.heap.size, 2, none⟩ (.string (key.extract 0 kl ++ (⟨#[65]⟩ : ByteArray)))).drew) w1.heap.size 23 #[.int .i64 kind, .int .i64 sq, .string (key.extract 0 kl ++ (⟨#[65]⟩ : ByteArray)), .string val] := (hR5.set_ 2 (.string (key.extract 0 kl ++ (⟨#[65]⟩ : ByteArray)))).drew
          have hBS : Below W.heap.size W (((w7.alloc (.cells #[.string ⟨#[65]⟩, .string ⟨#[32]⟩, .string ⟨#[0]⟩, .string ⟨#[195, 169]⟩, .string ⟨#[47]⟩] 9)).setCell ⟨w1.heap.size, 2, none⟩ (.string (key.extract 0 kl ++ (⟨#[65]⟩ : ByteArray)))).drew) := Below.drew ((b_alloc hB7 (.cells #[.string ⟨#[65]⟩, .string ⟨#[32]⟩, .string ⟨#[0]⟩, .string ⟨#[195, 169]⟩, .string ⟨#[47]⟩] 9)).setCell (by exact hY1.size) _)
          have hkB : keyB (key.extract 0 kl ++ (⟨#[65]⟩ : ByteArray)) = false := by rw [keyB_app, show keyB (⟨#[65]⟩ : ByteArray) = false by decide, Bool.and_false]
          have hkz : (key.extract 0 kl ++ (⟨#[65]⟩ : ByteArray)).size ≤ maxLen := by
            have h2 : (⟨#[65]⟩ : ByteArray).size ≤ 2 := by decide
            rw [ByteArray.size_append, ByteArray.size_extract]; unfold maxLen; omega
          go_wp2_with fail
          go_region
          generalize ((w7.alloc (.cells #[.string ⟨#[65]⟩, .string ⟨#[32]⟩, .string ⟨#[0]⟩, .string ⟨#[195, 169]⟩, .string ⟨#[47]⟩] 9)).setCell ⟨w1.heap.size, 2, none⟩ (.string (key.extract 0 kl ++ (⟨#[65]⟩ : ByteArray)))).drew = wS at hNew hBS ⊢
          generalize key.extract 0 kl ++ (⟨#[65]⟩ : ByteArray) = kk at hNew hkB hkz
          have cN := hNew.cell
          clear cR hfr e1 e2 e3 e4 e5 e6 cR5 cR6 cF5 cF6 hR5
          go_wp2_with fail
          clear cN hR7 hB7 hD7
          obtain ⟨q1, q2, q3, q4⟩ := four (kind) (sq) (kk) (val) (fun h => by have := h.2.2.2.1; simp only at this; rw [hkB] at this; cases this) hkz (by unfold maxLen; omega)
          (with_reducible refine (q1 _).mono ?_)
          rintro e w1 ⟨rfl, hb1⟩
          have hY1 : Below wS.heap.size wS w1 := b_then (by repeat first | exact Below.refl _ _ | apply Below.drew | apply b_alloc) hb1
          have hR1 := hNew.below hY1 hNew.lt
          have bel1 := b_then hBS hY1
          clear hNew hBS hb1 hY1
          have cR := hR1.cell
          have lR := hR1.lt
          go_wp2_with fail
          (with_reducible refine (q2 _).mono ?_)
          rintro e w2 ⟨rfl, hb2⟩
          have hY2 : Below w1.heap.size w1 w2 := b_then (by repeat first | exact Below.refl _ _ | apply Below.drew | apply b_alloc) hb2
          have hR2 := hR1.below hY2 hR1.lt
          have bel2 := b_then bel1 hY2
          clear hR1 bel1 hb2 cR lR hY2
          have cR := hR2.cell
          have lR := hR2.lt
          go_wp2_with fail
          (with_reducible refine (q3 _).mono ?_)
          rintro e w3 ⟨rfl, hb3⟩
          have hY3 : Below w2.heap.size w2 w3 := b_then (by repeat first | exact Below.refl _ _ | apply Below.drew | apply b_alloc) hb3
          have hR3 := hR2.below hY3 hR2.lt
          have bel3 := b_then bel2 hY3
          clear hR2 bel2 hb3 cR lR hY3
          have cR := hR3.cell
          have lR := hR3.lt
          go_wp2_with fail
          (with_reducible refine (q4 _).mono ?_)
          rintro e w4 ⟨rfl, hb4⟩
          have hY4 : Below w3.heap.size w3 w4 := b_then (by repeat first | exact Below.refl _ _ | apply Below.drew | apply b_alloc) hb4
          have hR4 := hR3.below hY4 hR3.lt
          have bel4 := b_then bel3 hY4
          clear hR3 bel3 hb4 cR lR hY4
          have cR := hR4.cell
          have lR := hR4.lt
          clear q1 q2 q3 q4
          go_wp2_with fail
          (with_reducible refine (works_true _).mono ?_)
          rintro e w5 ⟨rfl, hb5⟩
          have hY5 : Below w4.heap.size w4 w5 := b_then (by repeat first | exact Below.refl _ _ | apply Below.drew | apply b_alloc) hb5
          have hR5 := hR4.below hY5 hR4.lt
          have bel5 := b_then bel4 hY5
          clear hR4 bel4 hb5 cR lR hY5
          have cR := hR5.cell
          have lR := hR5.lt
          go_wp2_with fail
          go_ret
          exact ⟨rfl, bel5⟩
        · rw [hr5] at ht5
          have hNew : Blk (((w7.alloc (.cells #[.string ⟨#[65]⟩, .string ⟨#[32]⟩, .string ⟨#[0]⟩, .string ⟨#[195, 169]⟩, .string ⟨#[47]⟩] 9)).setCell ⟨w1.heap.size, 2, none⟩ (.string (key.extract 0 kl ++ (⟨#[32]⟩ : ByteArray)))).drew) w1.heap.size 23 #[.int .i64 kind, .int .i64 sq, .string (key.extract 0 kl ++ (⟨#[32]⟩ : ByteArray)), .string val] := (hR5.set_ 2 (.string (key.extract 0 kl ++ (⟨#[32]⟩ : ByteArray)))).drew
          have hBS : Below W.heap.size W (((w7.alloc (.cells #[.string ⟨#[65]⟩, .string ⟨#[32]⟩, .string ⟨#[0]⟩, .string ⟨#[195, 169]⟩, .string ⟨#[47]⟩] 9)).setCell ⟨w1.heap.size, 2, none⟩ (.string (key.extract 0 kl ++ (⟨#[32]⟩ : ByteArray)))).drew) := Below.drew ((b_alloc hB7 (.cells #[.string ⟨#[65]⟩, .string ⟨#[32]⟩, .string ⟨#[0]⟩, .string ⟨#[195, 169]⟩, .string ⟨#[47]⟩] 9)).setCell (by exact hY1.size) _)
          have hkB : keyB (key.extract 0 kl ++ (⟨#[32]⟩ : ByteArray)) = false := by rw [keyB_app, show keyB (⟨#[32]⟩ : ByteArray) = false by decide, Bool.and_false]
          have hkz : (key.extract 0 kl ++ (⟨#[32]⟩ : ByteArray)).size ≤ maxLen := by
            have h2 : (⟨#[32]⟩ : ByteArray).size ≤ 2 := by decide
            rw [ByteArray.size_append, ByteArray.size_extract]; unfold maxLen; omega
          go_wp2_with fail
          go_region
          generalize ((w7.alloc (.cells #[.string ⟨#[65]⟩, .string ⟨#[32]⟩, .string ⟨#[0]⟩, .string ⟨#[195, 169]⟩, .string ⟨#[47]⟩] 9)).setCell ⟨w1.heap.size, 2, none⟩ (.string (key.extract 0 kl ++ (⟨#[32]⟩ : ByteArray)))).drew = wS at hNew hBS ⊢
          generalize key.extract 0 kl ++ (⟨#[32]⟩ : ByteArray) = kk at hNew hkB hkz
          have cN := hNew.cell
          clear cR hfr e1 e2 e3 e4 e5 e6 cR5 cR6 cF5 cF6 hR5
          go_wp2_with fail
          clear cN hR7 hB7 hD7
          obtain ⟨q1, q2, q3, q4⟩ := four (kind) (sq) (kk) (val) (fun h => by have := h.2.2.2.1; simp only at this; rw [hkB] at this; cases this) hkz (by unfold maxLen; omega)
          (with_reducible refine (q1 _).mono ?_)
          rintro e w1 ⟨rfl, hb1⟩
          have hY1 : Below wS.heap.size wS w1 := b_then (by repeat first | exact Below.refl _ _ | apply Below.drew | apply b_alloc) hb1
          have hR1 := hNew.below hY1 hNew.lt
          have bel1 := b_then hBS hY1
          clear hNew hBS hb1 hY1
          have cR := hR1.cell
          have lR := hR1.lt
          go_wp2_with fail
          (with_reducible refine (q2 _).mono ?_)
          rintro e w2 ⟨rfl, hb2⟩
          have hY2 : Below w1.heap.size w1 w2 := b_then (by repeat first | exact Below.refl _ _ | apply Below.drew | apply b_alloc) hb2
          have hR2 := hR1.below hY2 hR1.lt
          have bel2 := b_then bel1 hY2
          clear hR1 bel1 hb2 cR lR hY2
          have cR := hR2.cell
          have lR := hR2.lt
          go_wp2_with fail
          (with_reducible refine (q3 _).mono ?_)
          rintro e w3 ⟨rfl, hb3⟩
          have hY3 : Below w2.heap.size w2 w3 := b_then (by repeat first | exact Below.refl _ _ | apply Below.drew | apply b_alloc) hb3
          have hR3 := hR2.below hY3 hR2.lt
          have bel3 := b_then bel2 hY3
          clear hR2 bel2 hb3 cR lR hY3
          have cR := hR3.cell
          have lR := hR3.lt
          go_wp2_with fail
          (with_reducible refine (q4 _).mono ?_)
          rintro e w4 ⟨rfl, hb4⟩
          have hY4 : Below w3.heap.size w3 w4 := b_then (by repeat first | exact Below.refl _ _ | apply Below.drew | apply b_alloc) hb4
          have hR4 := hR3.below hY4 hR3.lt
          have bel4 := b_then bel3 hY4
          clear hR3 bel3 hb4 cR lR hY4
          have cR := hR4.cell
          have lR := hR4.lt
          clear q1 q2 q3 q4
          go_wp2_with fail
          (with_reducible refine (works_true _).mono ?_)
          rintro e w5 ⟨rfl, hb5⟩
          have hY5 : Below w4.heap.size w4 w5 := b_then (by repeat first | exact Below.refl _ _ | apply Below.drew | apply b_alloc) hb5
          have hR5 := hR4.below hY5 hR4.lt
          have bel5 := b_then bel4 hY5
          clear hR4 bel4 hb5 cR lR hY5
          have cR := hR5.cell
          have lR := hR5.lt
          go_wp2_with fail
          go_ret
          exact ⟨rfl, bel5⟩
        · rw [hr5] at ht5
          have hNew : Blk (((w7.alloc (.cells #[.string ⟨#[65]⟩, .string ⟨#[32]⟩, .string ⟨#[0]⟩, .string ⟨#[195, 169]⟩, .string ⟨#[47]⟩] 9)).setCell ⟨w1.heap.size, 2, none⟩ (.string (key.extract 0 kl ++ (⟨#[0]⟩ : ByteArray)))).drew) w1.heap.size 23 #[.int .i64 kind, .int .i64 sq, .string (key.extract 0 kl ++ (⟨#[0]⟩ : ByteArray)), .string val] := (hR5.set_ 2 (.string (key.extract 0 kl ++ (⟨#[0]⟩ : ByteArray)))).drew
          have hBS : Below W.heap.size W (((w7.alloc (.cells #[.string ⟨#[65]⟩, .string ⟨#[32]⟩, .string ⟨#[0]⟩, .string ⟨#[195, 169]⟩, .string ⟨#[47]⟩] 9)).setCell ⟨w1.heap.size, 2, none⟩ (.string (key.extract 0 kl ++ (⟨#[0]⟩ : ByteArray)))).drew) := Below.drew ((b_alloc hB7 (.cells #[.string ⟨#[65]⟩, .string ⟨#[32]⟩, .string ⟨#[0]⟩, .string ⟨#[195, 169]⟩, .string ⟨#[47]⟩] 9)).setCell (by exact hY1.size) _)
          have hkB : keyB (key.extract 0 kl ++ (⟨#[0]⟩ : ByteArray)) = false := by rw [keyB_app, show keyB (⟨#[0]⟩ : ByteArray) = false by decide, Bool.and_false]
          have hkz : (key.extract 0 kl ++ (⟨#[0]⟩ : ByteArray)).size ≤ maxLen := by
            have h2 : (⟨#[0]⟩ : ByteArray).size ≤ 2 := by decide
            rw [ByteArray.size_append, ByteArray.size_extract]; unfold maxLen; omega
          go_wp2_with fail
          go_region
          generalize ((w7.alloc (.cells #[.string ⟨#[65]⟩, .string ⟨#[32]⟩, .string ⟨#[0]⟩, .string ⟨#[195, 169]⟩, .string ⟨#[47]⟩] 9)).setCell ⟨w1.heap.size, 2, none⟩ (.string (key.extract 0 kl ++ (⟨#[0]⟩ : ByteArray)))).drew = wS at hNew hBS ⊢
          generalize key.extract 0 kl ++ (⟨#[0]⟩ : ByteArray) = kk at hNew hkB hkz
          have cN := hNew.cell
          clear cR hfr e1 e2 e3 e4 e5 e6 cR5 cR6 cF5 cF6 hR5
          go_wp2_with fail
          clear cN hR7 hB7 hD7
          obtain ⟨q1, q2, q3, q4⟩ := four (kind) (sq) (kk) (val) (fun h => by have := h.2.2.2.1; simp only at this; rw [hkB] at this; cases this) hkz (by unfold maxLen; omega)
          (with_reducible refine (q1 _).mono ?_)
          rintro e w1 ⟨rfl, hb1⟩
          have hY1 : Below wS.heap.size wS w1 := b_then (by repeat first | exact Below.refl _ _ | apply Below.drew | apply b_alloc) hb1
          have hR1 := hNew.below hY1 hNew.lt
          have bel1 := b_then hBS hY1
          clear hNew hBS hb1 hY1
          have cR := hR1.cell
          have lR := hR1.lt
          go_wp2_with fail
          (with_reducible refine (q2 _).mono ?_)
          rintro e w2 ⟨rfl, hb2⟩
          have hY2 : Below w1.heap.size w1 w2 := b_then (by repeat first | exact Below.refl _ _ | apply Below.drew | apply b_alloc) hb2
          have hR2 := hR1.below hY2 hR1.lt
          have bel2 := b_then bel1 hY2
          clear hR1 bel1 hb2 cR lR hY2
          have cR := hR2.cell
          have lR := hR2.lt
          go_wp2_with fail
          (with_reducible refine (q3 _).mono ?_)
          rintro e w3 ⟨rfl, hb3⟩
          have hY3 : Below w2.heap.size w2 w3 := b_then (by repeat first | exact Below.refl _ _ | apply Below.drew | apply b_alloc) hb3
          have hR3 := hR2.below hY3 hR2.lt
          have bel3 := b_then bel2 hY3
          clear hR2 bel2 hb3 cR lR hY3
          have cR := hR3.cell
          have lR := hR3.lt
          go_wp2_with fail
          (with_reducible refine (q4 _).mono ?_)
          rintro e w4 ⟨rfl, hb4⟩
          have hY4 : Below w3.heap.size w3 w4 := b_then (by repeat first | exact Below.refl _ _ | apply Below.drew | apply b_alloc) hb4
          have hR4 := hR3.below hY4 hR3.lt
          have bel4 := b_then bel3 hY4
          clear hR3 bel3 hb4 cR lR hY4
          have cR := hR4.cell
          have lR := hR4.lt
          clear q1 q2 q3 q4
          go_wp2_with fail
          (with_reducible refine (works_true _).mono ?_)
          rintro e w5 ⟨rfl, hb5⟩
          have hY5 : Below w4.heap.size w4 w5 := b_then (by repeat first | exact Below.refl _ _ | apply Below.drew | apply b_alloc) hb5
          have hR5 := hR4.below hY5 hR4.lt
          have bel5 := b_then bel4 hY5
          clear hR4 bel4 hb5 cR lR hY5
          have cR := hR5.cell
          have lR := hR5.lt
          go_wp2_with fail
          go_ret
          exact ⟨rfl, bel5⟩
        · rw [hr5] at ht5
          have hNew : Blk (((w7.alloc (.cells #[.string ⟨#[65]⟩, .string ⟨#[32]⟩, .string ⟨#[0]⟩, .string ⟨#[195, 169]⟩, .string ⟨#[47]⟩] 9)).setCell ⟨w1.heap.size, 2, none⟩ (.string (key.extract 0 kl ++ (⟨#[195, 169]⟩ : ByteArray)))).drew) w1.heap.size 23 #[.int .i64 kind, .int .i64 sq, .string (key.extract 0 kl ++ (⟨#[195, 169]⟩ : ByteArray)), .string val] := (hR5.set_ 2 (.string (key.extract 0 kl ++ (⟨#[195, 169]⟩ : ByteArray)))).drew
          have hBS : Below W.heap.size W (((w7.alloc (.cells #[.string ⟨#[65]⟩, .string ⟨#[32]⟩, .string ⟨#[0]⟩, .string ⟨#[195, 169]⟩, .string ⟨#[47]⟩] 9)).setCell ⟨w1.heap.size, 2, none⟩ (.string (key.extract 0 kl ++ (⟨#[195, 169]⟩ : ByteArray)))).drew) := Below.drew ((b_alloc hB7 (.cells #[.string ⟨#[65]⟩, .string ⟨#[32]⟩, .string ⟨#[0]⟩, .string ⟨#[195, 169]⟩, .string ⟨#[47]⟩] 9)).setCell (by exact hY1.size) _)
          have hkB : keyB (key.extract 0 kl ++ (⟨#[195, 169]⟩ : ByteArray)) = false := by rw [keyB_app, show keyB (⟨#[195, 169]⟩ : ByteArray) = false by decide, Bool.and_false]
          have hkz : (key.extract 0 kl ++ (⟨#[195, 169]⟩ : ByteArray)).size ≤ maxLen := by
            have h2 : (⟨#[195, 169]⟩ : ByteArray).size ≤ 2 := by decide
            rw [ByteArray.size_append, ByteArray.size_extract]; unfold maxLen; omega
          go_wp2_with fail
          go_region
          generalize ((w7.alloc (.cells #[.string ⟨#[65]⟩, .string ⟨#[32]⟩, .string ⟨#[0]⟩, .string ⟨#[195, 169]⟩, .string ⟨#[47]⟩] 9)).setCell ⟨w1.heap.size, 2, none⟩ (.string (key.extract 0 kl ++ (⟨#[195, 169]⟩ : ByteArray)))).drew = wS at hNew hBS ⊢
          generalize key.extract 0 kl ++ (⟨#[195, 169]⟩ : ByteArray) = kk at hNew hkB hkz
          have cN := hNew.cell
          clear cR hfr e1 e2 e3 e4 e5 e6 cR5 cR6 cF5 cF6 hR5
          go_wp2_with fail
          clear cN hR7 hB7 hD7
          obtain ⟨q1, q2, q3, q4⟩ := four (kind) (sq) (kk) (val) (fun h => by have := h.2.2.2.1; simp only at this; rw [hkB] at this; cases this) hkz (by unfold maxLen; omega)
          (with_reducible refine (q1 _).mono ?_)
          rintro e w1 ⟨rfl, hb1⟩
          have hY1 : Below wS.heap.size wS w1 := b_then (by repeat first | exact Below.refl _ _ | apply Below.drew | apply b_alloc) hb1
          have hR1 := hNew.below hY1 hNew.lt
          have bel1 := b_then hBS hY1
          clear hNew hBS hb1 hY1
          have cR := hR1.cell
          have lR := hR1.lt
          go_wp2_with fail
          (with_reducible refine (q2 _).mono ?_)
          rintro e w2 ⟨rfl, hb2⟩
          have hY2 : Below w1.heap.size w1 w2 := b_then (by repeat first | exact Below.refl _ _ | apply Below.drew | apply b_alloc) hb2
          have hR2 := hR1.below hY2 hR1.lt
          have bel2 := b_then bel1 hY2
          clear hR1 bel1 hb2 cR lR hY2
          have cR := hR2.cell
          have lR := hR2.lt
          go_wp2_with fail
          (with_reducible refine (q3 _).mono ?_)
          rintro e w3 ⟨rfl, hb3⟩
          have hY3 : Below w2.heap.size w2 w3 := b_then (by repeat first | exact Below.refl _ _ | apply Below.drew | apply b_alloc) hb3
          have hR3 := hR2.below hY3 hR2.lt
          have bel3 := b_then bel2 hY3
          clear hR2 bel2 hb3 cR lR hY3
          have cR := hR3.cell
          have lR := hR3.lt
          go_wp2_with fail
          (with_reducible refine (q4 _).mono ?_)
          rintro e w4 ⟨rfl, hb4⟩
          have hY4 : Below w3.heap.size w3 w4 := b_then (by repeat first | exact Below.refl _ _ | apply Below.drew | apply b_alloc) hb4
          have hR4 := hR3.below hY4 hR3.lt
          have bel4 := b_then bel3 hY4
          clear hR3 bel3 hb4 cR lR hY4
          have cR := hR4.cell
          have lR := hR4.lt
          clear q1 q2 q3 q4
          go_wp2_with fail
          (with_reducible refine (works_true _).mono ?_)
          rintro e w5 ⟨rfl, hb5⟩
          have hY5 : Below w4.heap.size w4 w5 := b_then (by repeat first | exact Below.refl _ _ | apply Below.drew | apply b_alloc) hb5
          have hR5 := hR4.below hY5 hR4.lt
          have bel5 := b_then bel4 hY5
          clear hR4 bel4 hb5 cR lR hY5
          have cR := hR5.cell
          have lR := hR5.lt
          go_wp2_with fail
          go_ret
          exact ⟨rfl, bel5⟩
        · rw [hr5] at ht5
          have hNew : Blk (((w7.alloc (.cells #[.string ⟨#[65]⟩, .string ⟨#[32]⟩, .string ⟨#[0]⟩, .string ⟨#[195, 169]⟩, .string ⟨#[47]⟩] 9)).setCell ⟨w1.heap.size, 2, none⟩ (.string (key.extract 0 kl ++ (⟨#[47]⟩ : ByteArray)))).drew) w1.heap.size 23 #[.int .i64 kind, .int .i64 sq, .string (key.extract 0 kl ++ (⟨#[47]⟩ : ByteArray)), .string val] := (hR5.set_ 2 (.string (key.extract 0 kl ++ (⟨#[47]⟩ : ByteArray)))).drew
          have hBS : Below W.heap.size W (((w7.alloc (.cells #[.string ⟨#[65]⟩, .string ⟨#[32]⟩, .string ⟨#[0]⟩, .string ⟨#[195, 169]⟩, .string ⟨#[47]⟩] 9)).setCell ⟨w1.heap.size, 2, none⟩ (.string (key.extract 0 kl ++ (⟨#[47]⟩ : ByteArray)))).drew) := Below.drew ((b_alloc hB7 (.cells #[.string ⟨#[65]⟩, .string ⟨#[32]⟩, .string ⟨#[0]⟩, .string ⟨#[195, 169]⟩, .string ⟨#[47]⟩] 9)).setCell (by exact hY1.size) _)
          have hkB : keyB (key.extract 0 kl ++ (⟨#[47]⟩ : ByteArray)) = false := by rw [keyB_app, show keyB (⟨#[47]⟩ : ByteArray) = false by decide, Bool.and_false]
          have hkz : (key.extract 0 kl ++ (⟨#[47]⟩ : ByteArray)).size ≤ maxLen := by
            have h2 : (⟨#[47]⟩ : ByteArray).size ≤ 2 := by decide
            rw [ByteArray.size_append, ByteArray.size_extract]; unfold maxLen; omega
          go_wp2_with fail
          go_region
          generalize ((w7.alloc (.cells #[.string ⟨#[65]⟩, .string ⟨#[32]⟩, .string ⟨#[0]⟩, .string ⟨#[195, 169]⟩, .string ⟨#[47]⟩] 9)).setCell ⟨w1.heap.size, 2, none⟩ (.string (key.extract 0 kl ++ (⟨#[47]⟩ : ByteArray)))).drew = wS at hNew hBS ⊢
          generalize key.extract 0 kl ++ (⟨#[47]⟩ : ByteArray) = kk at hNew hkB hkz
          have cN := hNew.cell
          clear cR hfr e1 e2 e3 e4 e5 e6 cR5 cR6 cF5 cF6 hR5
          go_wp2_with fail
          clear cN hR7 hB7 hD7
          obtain ⟨q1, q2, q3, q4⟩ := four (kind) (sq) (kk) (val) (fun h => by have := h.2.2.2.1; simp only at this; rw [hkB] at this; cases this) hkz (by unfold maxLen; omega)
          (with_reducible refine (q1 _).mono ?_)
          rintro e w1 ⟨rfl, hb1⟩
          have hY1 : Below wS.heap.size wS w1 := b_then (by repeat first | exact Below.refl _ _ | apply Below.drew | apply b_alloc) hb1
          have hR1 := hNew.below hY1 hNew.lt
          have bel1 := b_then hBS hY1
          clear hNew hBS hb1 hY1
          have cR := hR1.cell
          have lR := hR1.lt
          go_wp2_with fail
          (with_reducible refine (q2 _).mono ?_)
          rintro e w2 ⟨rfl, hb2⟩
          have hY2 : Below w1.heap.size w1 w2 := b_then (by repeat first | exact Below.refl _ _ | apply Below.drew | apply b_alloc) hb2
          have hR2 := hR1.below hY2 hR1.lt
          have bel2 := b_then bel1 hY2
          clear hR1 bel1 hb2 cR lR hY2
          have cR := hR2.cell
          have lR := hR2.lt
          go_wp2_with fail
          (with_reducible refine (q3 _).mono ?_)
          rintro e w3 ⟨rfl, hb3⟩
          have hY3 : Below w2.heap.size w2 w3 := b_then (by repeat first | exact Below.refl _ _ | apply Below.drew | apply b_alloc) hb3
          have hR3 := hR2.below hY3 hR2.lt
          have bel3 := b_then bel2 hY3
          clear hR2 bel2 hb3 cR lR hY3
          have cR := hR3.cell
          have lR := hR3.lt
          go_wp2_with fail
          (with_reducible refine (q4 _).mono ?_)
          rintro e w4 ⟨rfl, hb4⟩
          have hY4 : Below w3.heap.size w3 w4 := b_then (by repeat first | exact Below.refl _ _ | apply Below.drew | apply b_alloc) hb4
          have hR4 := hR3.below hY4 hR3.lt
          have bel4 := b_then bel3 hY4
          clear hR3 bel3 hb4 cR lR hY4
          have cR := hR4.cell
          have lR := hR4.lt
          clear q1 q2 q3 q4
          go_wp2_with fail
          (with_reducible refine (works_true _).mono ?_)
          rintro e w5 ⟨rfl, hb5⟩
          have hY5 : Below w4.heap.size w4 w5 := b_then (by repeat first | exact Below.refl _ _ | apply Below.drew | apply b_alloc) hb5
          have hR5 := hR4.below hY5 hR4.lt
          have bel5 := b_then bel4 hY5
          clear hR4 bel4 hb5 cR lR hY5
          have cR := hR5.cell
          have lR := hR5.lt
          go_wp2_with fail
          go_ret
          exact ⟨rfl, bel5⟩
      · rw [hm] at htm
        have hNew : Blk (w7.setCell ⟨w1.heap.size, 2, none⟩ (.string ⟨#[49, 50, 51, 52, 53, 54, 55, 56, 57, 48, 49, 50, 51, 52, 53, 54, 55, 56, 57, 48, 49, 50, 51, 52, 53, 54, 55, 56, 57, 48, 49, 50, 120]⟩)) w1.heap.size 23 #[.int .i64 kind, .int .i64 sq, .string ⟨#[49, 50, 51, 52, 53, 54, 55, 56, 57, 48, 49, 50, 51, 52, 53, 54, 55, 56, 57, 48, 49, 50, 51, 52, 53, 54, 55, 56, 57, 48, 49, 50, 120]⟩, .string val] := hR7.set_ 2 (.string ⟨#[49, 50, 51, 52, 53, 54, 55, 56, 57, 48, 49, 50, 51, 52, 53, 54, 55, 56, 57, 48, 49, 50, 51, 52, 53, 54, 55, 56, 57, 48, 49, 50, 120]⟩)
        have hBS : Below W.heap.size W (w7.setCell ⟨w1.heap.size, 2, none⟩ (.string ⟨#[49, 50, 51, 52, 53, 54, 55, 56, 57, 48, 49, 50, 51, 52, 53, 54, 55, 56, 57, 48, 49, 50, 51, 52, 53, 54, 55, 56, 57, 48, 49, 50, 120]⟩)) := hB7.setCell (by exact hY1.size) (.string ⟨#[49, 50, 51, 52, 53, 54, 55, 56, 57, 48, 49, 50, 51, 52, 53, 54, 55, 56, 57, 48, 49, 50, 51, 52, 53, 54, 55, 56, 57, 48, 49, 50, 120]⟩)
        have cN := hNew.cell
        have hfr := hR7.frozen
        go_wp2_with fail
        generalize (w7.setCell ⟨w1.heap.size, 2, none⟩ (.string ⟨#[49, 50, 51, 52, 53, 54, 55, 56, 57, 48, 49, 50, 51, 52, 53, 54, 55, 56, 57, 48, 49, 50, 51, 52, 53, 54, 55, 56, 57, 48, 49, 50, 120]⟩)) = wS at hNew hBS cN ⊢
        clear hfr cR hR7 hB7 cN
        obtain ⟨q1, q2, q3, q4⟩ := four (kind) (sq) (⟨#[49, 50, 51, 52, 53, 54, 55, 56, 57, 48, 49, 50, 51, 52, 53, 54, 55, 56, 57, 48, 49, 50, 51, 52, 53, 54, 55, 56, 57, 48, 49, 50, 120]⟩) (val) (fun h => absurd (show (⟨#[49, 50, 51, 52, 53, 54, 55, 56, 57, 48, 49, 50, 51, 52, 53, 54, 55, 56, 57, 48, 49, 50, 51, 52, 53, 54, 55, 56, 57, 48, 49, 50, 120]⟩ : ByteArray).size ≤ 32 from h.2.2.2.2.2.1) (by decide)) (by decide) (by unfold maxLen; omega)
        (with_reducible refine (q1 _).mono ?_)
        rintro e w1 ⟨rfl, hb1⟩
        have hY1 : Below wS.heap.size wS w1 := b_then (by repeat first | exact Below.refl _ _ | apply Below.drew | apply b_alloc) hb1
        have hR1 := hNew.below hY1 hNew.lt
        have bel1 := b_then hBS hY1
        clear hNew hBS hb1 hY1
        have cR := hR1.cell
        have lR := hR1.lt
        go_wp2_with fail
        (with_reducible refine (q2 _).mono ?_)
        rintro e w2 ⟨rfl, hb2⟩
        have hY2 : Below w1.heap.size w1 w2 := b_then (by repeat first | exact Below.refl _ _ | apply Below.drew | apply b_alloc) hb2
        have hR2 := hR1.below hY2 hR1.lt
        have bel2 := b_then bel1 hY2
        clear hR1 bel1 hb2 cR lR hY2
        have cR := hR2.cell
        have lR := hR2.lt
        go_wp2_with fail
        (with_reducible refine (q3 _).mono ?_)
        rintro e w3 ⟨rfl, hb3⟩
        have hY3 : Below w2.heap.size w2 w3 := b_then (by repeat first | exact Below.refl _ _ | apply Below.drew | apply b_alloc) hb3
        have hR3 := hR2.below hY3 hR2.lt
        have bel3 := b_then bel2 hY3
        clear hR2 bel2 hb3 cR lR hY3
        have cR := hR3.cell
        have lR := hR3.lt
        go_wp2_with fail
        (with_reducible refine (q4 _).mono ?_)
        rintro e w4 ⟨rfl, hb4⟩
        have hY4 : Below w3.heap.size w3 w4 := b_then (by repeat first | exact Below.refl _ _ | apply Below.drew | apply b_alloc) hb4
        have hR4 := hR3.below hY4 hR3.lt
        have bel4 := b_then bel3 hY4
        clear hR3 bel3 hb4 cR lR hY4
        have cR := hR4.cell
        have lR := hR4.lt
        clear q1 q2 q3 q4
        go_wp2_with fail
        (with_reducible refine (works_true _).mono ?_)
        rintro e w5 ⟨rfl, hb5⟩
        have hY5 : Below w4.heap.size w4 w5 := b_then (by repeat first | exact Below.refl _ _ | apply Below.drew | apply b_alloc) hb5
        have hR5 := hR4.below hY5 hR4.lt
        have bel5 := b_then bel4 hY5
        clear hR4 bel4 hb5 cR lR hY5
        have cR := hR5.cell
        have lR := hR5.lt
        go_wp2_with fail
        go_ret
        exact ⟨rfl, bel5⟩
      · rw [hm] at htm
        have hRA := hR7.alloc (.cells (zeros 513) 5)
        have hDA := hD7.alloc (.cells (zeros 513) 5)
        have hmk : ∀ w : World, (Instr.makeSlice 29 (.int .i64 513) (.int .i64 513)).run Try.prog w = .ok (.slice (some ⟨w.heap.size, 0, none⟩) 513 513) (w.alloc (.cells (zeros 513) 5)) := fun w => make_any 513 (by omega) w
        have hcv : (convert 29 9 (.slice (some ⟨w7.heap.size, 0, none⟩) 513 513)).run Try.prog (w7.alloc (.cells (zeros 513) 5)) = .ok (.string (strOfNums (List.replicate 513 0))) (w7.alloc (.cells (zeros 513) 5)) := str_zeros w7 513 513
        obtain ⟨zz, hzz⟩ : ∃ zz, zz = strOfNums (List.replicate 513 0) := ⟨_, rfl⟩
        have hzs : zz.size = 513 := by rw [hzz]; exact size_zeros 513
        rw [← hzz] at hcv
        clear hzz
        have hBA := b_alloc hB7 (.cells (zeros 513) 5)
        have hN8 : Blk ((w7.alloc (.cells (zeros 513) 5)).setCell ⟨w1.heap.size, 3, none⟩ (.string zz)) w1.heap.size 23 #[.int .i64 kind, .int .i64 sq, .string key, .string zz] := hRA.set_ 3 (.string zz)
        have hD8 : Blk ((w7.alloc (.cells (zeros 513) 5)).setCell ⟨w1.heap.size, 3, none⟩ (.string zz)) W.heap.size 45 #[.bool del, .int .u64 seq, .slice a1 n1 c1, .slice a2 n2 c2] := hDA.far (p := ⟨w1.heap.size, 3, none⟩) (by exact hDR) (.string zz)
        have hB8 : Below W.heap.size W ((w7.alloc (.cells (zeros 513) 5)).setCell ⟨w1.heap.size, 3, none⟩ (.string zz)) := hBA.setCell (by exact hY1.size) (.string zz)
        have cD8 := hD8.cell
        have cN8 := hN8.cell
        have fA := hRA.frozen
        have cA := hRA.cell
        have f8 := hN8.frozen
        rcases (show del = true ∨ del = false by cases del <;> simp) with hdl | hdl
        · subst hdl
          have hNew : Blk (((w7.alloc (.cells (zeros 513) 5)).setCell ⟨w1.heap.size, 3, none⟩ (.string zz)).setCell ⟨w1.heap.size, 3, none⟩ (.string ⟨#[120]⟩)) w1.heap.size 23 #[.int .i64 kind, .int .i64 sq, .string key, .string ⟨#[120]⟩] := hN8.set_ 3 (.string ⟨#[120]⟩)
          have hBS : Below W.heap.size W (((w7.alloc (.cells (zeros 513) 5)).setCell ⟨w1.heap.size, 3, none⟩ (.string zz)).setCell ⟨w1.heap.size, 3, none⟩ (.string ⟨#[120]⟩)) := hB8.setCell (by exact hY1.size) (.string ⟨#[120]⟩)
          have cN9 := hNew.cell
          go_wp2_with fail
          generalize (((w7.alloc (.cells (zeros 513) 5)).setCell ⟨w1.heap.size, 3, none⟩ (.string zz)).setCell ⟨w1.heap.size, 3, none⟩ (.string ⟨#[120]⟩)) = wS at hNew hBS cN9 ⊢
          clear fA f8 cA cN8 cD8 hN8 hD8 hB8 hBA hRA hDA hmk hcv cR hR7 hB7 hD7 cN9
          obtain ⟨q1, q2, q3, q4⟩ := four (kind) (sq) (key) (⟨#[120]⟩) (fun h => by have h1 := h.1; simp only at h1; have h2 := HKD.out; rcases h1 with h1 | ⟨_, h1⟩; (subst h1; exact absurd h2 (by decide)); exact absurd h1 (by decide)) (by unfold maxLen; omega) (by decide)
          (with_reducible refine (q1 _).mono ?_)
          rintro e w1 ⟨rfl, hb1⟩
          have hY1 : Below wS.heap.size wS w1 := b_then (by repeat first | exact Below.refl _ _ | apply Below.drew | apply b_alloc) hb1
          have hR1 := hNew.below hY1 hNew.lt
          have bel1 := b_then hBS hY1
          clear hNew hBS hb1 hY1
          have cR := hR1.cell
          have lR := hR1.lt
          go_wp2_with fail
          (with_reducible refine (q2 _).mono ?_)
          rintro e w2 ⟨rfl, hb2⟩
          have hY2 : Below w1.heap.size w1 w2 := b_then (by repeat first | exact Below.refl _ _ | apply Below.drew | apply b_alloc) hb2
          have hR2 := hR1.below hY2 hR1.lt
          have bel2 := b_then bel1 hY2
          clear hR1 bel1 hb2 cR lR hY2
          have cR := hR2.cell
          have lR := hR2.lt
          go_wp2_with fail
          (with_reducible refine (q3 _).mono ?_)
          rintro e w3 ⟨rfl, hb3⟩
          have hY3 : Below w2.heap.size w2 w3 := b_then (by repeat first | exact Below.refl _ _ | apply Below.drew | apply b_alloc) hb3
          have hR3 := hR2.below hY3 hR2.lt
          have bel3 := b_then bel2 hY3
          clear hR2 bel2 hb3 cR lR hY3
          have cR := hR3.cell
          have lR := hR3.lt
          go_wp2_with fail
          (with_reducible refine (q4 _).mono ?_)
          rintro e w4 ⟨rfl, hb4⟩
          have hY4 : Below w3.heap.size w3 w4 := b_then (by repeat first | exact Below.refl _ _ | apply Below.drew | apply b_alloc) hb4
          have hR4 := hR3.below hY4 hR3.lt
          have bel4 := b_then bel3 hY4
          clear hR3 bel3 hb4 cR lR hY4
          have cR := hR4.cell
          have lR := hR4.lt
          clear q1 q2 q3 q4
          go_wp2_with fail
          (with_reducible refine (works_true _).mono ?_)
          rintro e w5 ⟨rfl, hb5⟩
          have hY5 : Below w4.heap.size w4 w5 := b_then (by repeat first | exact Below.refl _ _ | apply Below.drew | apply b_alloc) hb5
          have hR5 := hR4.below hY5 hR4.lt
          have bel5 := b_then bel4 hY5
          clear hR4 bel4 hb5 cR lR hY5
          have cR := hR5.cell
          have lR := hR5.lt
          go_wp2_with fail
          go_ret
          exact ⟨rfl, bel5⟩
        · subst hdl
          have hNew := hN8
          have hBS := hB8
          go_wp2_with fail
          generalize ((w7.alloc (.cells (zeros 513) 5)).setCell ⟨w1.heap.size, 3, none⟩ (.string zz)) = wS at hNew hBS cN8 ⊢
          clear fA f8 cA cN8 cD8 hN8 hD8 hB8 hBA hRA hDA hmk hcv cR hR7 hB7 hD7
          obtain ⟨q1, q2, q3, q4⟩ := four (kind) (sq) (key) (zz) (fun h => by have := h.2.2.2.2.2.2; simp only at this; omega) (by unfold maxLen; omega) (by unfold maxLen; omega)
          (with_reducible refine (q1 _).mono ?_)
          rintro e w1 ⟨rfl, hb1⟩
          have hY1 : Below wS.heap.size wS w1 := b_then (by repeat first | exact Below.refl _ _ | apply Below.drew | apply b_alloc) hb1
          have hR1 := hNew.below hY1 hNew.lt
          have bel1 := b_then hBS hY1
          clear hNew hBS hb1 hY1
          have cR := hR1.cell
          have lR := hR1.lt
          go_wp2_with fail
          (with_reducible refine (q2 _).mono ?_)
          rintro e w2 ⟨rfl, hb2⟩
          have hY2 : Below w1.heap.size w1 w2 := b_then (by repeat first | exact Below.refl _ _ | apply Below.drew | apply b_alloc) hb2
          have hR2 := hR1.below hY2 hR1.lt
          have bel2 := b_then bel1 hY2
          clear hR1 bel1 hb2 cR lR hY2
          have cR := hR2.cell
          have lR := hR2.lt
          go_wp2_with fail
          (with_reducible refine (q3 _).mono ?_)
          rintro e w3 ⟨rfl, hb3⟩
          have hY3 : Below w2.heap.size w2 w3 := b_then (by repeat first | exact Below.refl _ _ | apply Below.drew | apply b_alloc) hb3
          have hR3 := hR2.below hY3 hR2.lt
          have bel3 := b_then bel2 hY3
          clear hR2 bel2 hb3 cR lR hY3
          have cR := hR3.cell
          have lR := hR3.lt
          go_wp2_with fail
          (with_reducible refine (q4 _).mono ?_)
          rintro e w4 ⟨rfl, hb4⟩
          have hY4 : Below w3.heap.size w3 w4 := b_then (by repeat first | exact Below.refl _ _ | apply Below.drew | apply b_alloc) hb4
          have hR4 := hR3.below hY4 hR3.lt
          have bel4 := b_then bel3 hY4
          clear hR3 bel3 hb4 cR lR hY4
          have cR := hR4.cell
          have lR := hR4.lt
          clear q1 q2 q3 q4
          go_wp2_with fail
          (with_reducible refine (works_true _).mono ?_)
          rintro e w5 ⟨rfl, hb5⟩
          have hY5 : Below w4.heap.size w4 w5 := b_then (by repeat first | exact Below.refl _ _ | apply Below.drew | apply b_alloc) hb5
          have hR5 := hR4.below hY5 hR4.lt
          have bel5 := b_then bel4 hY5
          clear hR4 bel4 hb5 cR lR hY5
          have cR := hR5.cell
          have lR := hR5.lt
          go_wp2_with fail
          go_ret
          exact ⟨rfl, bel5⟩

set_option maxRecDepth 100000 in
theorem lifted (os : Os) (started : os.Started) (H : Type) (enc : TypeId × Value → H) :
    ReturnsInHanded {} Try.checked os 10 .any (Rows.recordRefusesSpec.pre6 enc Try.prog Try.f10 Rows.recordRefusesRow.domain false) (Rows.recordRefusesSpec.post enc Try.prog Try.f10 false true false false) := by
  refine returnsInHanded_of_change (C := Try.checked) own started (by kernel_rfl) Try.func10
    (ChangeSpec.witness6 (enc := enc) (C := Try.checked) false ⟨#[], #[.agg #[.bool false, .int .u64 0, .slice none 0 0, .slice none 0 0], .int .u8 0, .int .u16 0], []⟩ 8 (by kernel_rfl) (by kernel_rfl) (by kernel_rfl) (by kernel_rfl)) ?_
  intro W base args ds gs before hval0 hW hcnd _
  have hval : ∀ (j : Nat) t v, Try.f10.params[j]? = some t → args[j]? = some v → Value.okWide Try.prog W .any base t v := hval0
  have hW' := hW
  obtain ⟨p, q, hA0, hV, rfl, hfz, hnd⟩ := hW
  have hA : DataW.TrodAll enc Try.prog W 0 (fun _ => true) true Try.f10.params.toList args.toList ds p := hA0
  rw [Try.params10] at hA hval
  obtain ⟨v0, vs0, d0, ds0, p0, q0, hargs, rfl, rfl, h0, r0⟩ := trodAll_cons hA
  obtain ⟨v1, vs1, d1, ds1, p1, q1, rfl, rfl, rfl, h1, r1⟩ := trodAll_cons r0
  obtain ⟨v2, vs2, d2, ds2, p2, q2, rfl, rfl, rfl, h2, r2⟩ := trodAll_cons r1
  obtain ⟨rfl, rfl, rfl⟩ := trodAll_nil r2
  obtain rfl : args = #[v0, v1, v2] := by cases args; simp_all
  obtain ⟨rfl, rfl⟩ := trodVars_none hV
  refine (walk (H := H) (enc := enc) W base (hval 0 45 v0 rfl rfl) h0 (hval 1 5 v1 rfl rfl) h1 (hval 2 50 v2 rfl rfl) h2).mono fun e W' ⟨he, bel⟩ => ?_
  subst he
  exact ⟨_, rfl, _, _, _, [], _, [], hW', trodAll_mk1 (shut_bool Try.underlying4 _), (trodAll_cons_mk (Below.trod laidOut (by kernel_rfl) (of_decide_eq_true (by kernel_rfl)) h0 bel (lt_of_Trod h0)) (trodAll_cons_mk (Below.trod laidOut (by kernel_rfl) (of_decide_eq_true (by kernel_rfl)) h1 bel (lt_of_Trod h1)) (trodAll_cons_mk (Below.trod laidOut (by kernel_rfl) (of_decide_eq_true (by kernel_rfl)) h2 bel (lt_of_Trod h2)) trodAll_mk0))), rfl, bel.frame _, fun h => by cases h⟩

/-- RecordRefuses: for every draft and every two numbers the law returns true and changes nothing. No condition. -/
theorem proved : Rows.RecordRefusesSaid :=
  OpenClaim.holds_of_wide 10 Try.f10 rfl rfl rfl rfl rfl rfl rfl ⟨rfl, rfl, rfl, rfl, rfl⟩ rfl rfl rfl rfl rfl (by kernel_rfl) Try.func10 (by kernel_rfl)
    (of_decide_eq_true (by kernel_rfl)) (by unfold Func.isWrapper; first | (rw [if_pos (by decide +kernel)]; kernel_rfl) | (rw [if_neg (by decide +kernel)]; exact ⟨rfl, rfl⟩))
    (fun os started H enc _ => lifted os started H enc)
#print axioms proved
end Go.Proofs.Ytookgehccmcgcaa.recordRefuses
