/-
  Decoding of records: the program.
-/
import Derived.Test.YtjcdflohkajbcaaDed
import Derived.Test.YtjcdflohkajbcaaCrc
import Derived.Test.YtjcdflohkajbcaaRck
import Derived.Test.YtjcdflohkajbcaaRes
namespace Go.Proofs.Ytjcdflohkajbcaa
open Go.RowKit
set_option linter.unusedVariables false
set_option linter.unusedSimpArgs false

theorem Byts.of_rb {w : World} {A : Option Addr} {n cap : Nat} {M : List Int} (h : RB w A M) (hn : M.length = n) (hB : BB M) (hl : n ≤ cap) (hc : cap ≤ maxLen) : Byts w A n cap (fun i => M.getD i 0) := by
  refine ⟨hl, hc, fun i hi => hB.getD i (by omega), fun hp => ?_⟩
  rcases h with ⟨_, hM⟩ | ⟨b, off, rfl, hcell⟩
  · rw [hM] at hn; simp at hn; omega
  · exact ⟨b, off, rfl, block_lt_of_cell (hcell 0 (by omega)), fun i hi => hcell i (by omega)⟩
theorem RB.sub {w : World} {b off : Nat} {M : List Int} (h : RB w (some ⟨b, off, none⟩) M) (i j : Nat) : RB w (some ⟨b, off + i, none⟩) ((M.take j).drop i) := by
  rcases h with ⟨h, _⟩ | ⟨b', off', hq, hc⟩
  · cases h
  · injection hq with hq
    injection hq with hq1 hq2
    subst hq1 hq2
    refine .inr ⟨b, off + i, rfl, fun k hk => ?_⟩
    rw [List.length_drop, List.length_take] at hk
    rw [Nat.add_assoc, hc (i + k) (by omega), List.getD_eq_getElem?_getD, List.getD_eq_getElem?_getD, List.getElem?_drop, List.getElem?_take, if_pos (by omega)]
theorem RB.some_ {w : World} {A : Option Addr} {M : List Int} (h : RB w A M) (hp : 0 < M.length) : ∃ b off : Nat, A = some ⟨b, off, none⟩ ∧ b < w.heap.size := by
  rcases h with ⟨_, hM⟩ | ⟨b, off, rfl, hcell⟩
  · rw [hM] at hp; simp at hp
  · exact ⟨b, off, rfl, block_lt_of_cell (hcell 0 hp)⟩
theorem RB.empty (w : World) (b off : Nat) : RB w (some ⟨b, off, none⟩) [] := .inr ⟨b, off, rfl, fun i hi => by simp at hi⟩

/-- what the first three tests leave: what the header holds -/
structure Head (M : List Int) (kind seq S : Int) (Y V : Nat) : Prop where
  len : 16 ≤ M.length
  d : DOk (fun i => M.getD i 0)
  k : M.getD 4 0 = kind
  n3 : (kind == 3) = false
  y : M.getD 5 0 = Y
  v : dV (fun i => M.getD i 0) = V
  q : dQ (fun i => M.getD i 0) = seq
  s : dS (fun i => M.getD i 0) = S
theorem Head.hok {M : List Int} {kind seq S : Int} {Y V : Nat} (h : Head M kind seq S Y V) : HOk kind Y V seq := by
  have hd : HOk (M.getD 4 0) (M.getD 5 0) (dV fun i => M.getD i 0) (dQ fun i => M.getD i 0) := h.d
  rwa [h.k, h.y, h.v, h.q] at hd
theorem Head.bd {M : List Int} {kind seq S : Int} {Y V : Nat} (h : Head M kind seq S Y V) : (kind = 1 ∨ (kind = 2 ∧ V = 0)) ∧ 1 ≤ seq ∧ seq ≤ 1099511627776 ∧ 1 ≤ Y ∧ Y ≤ 32 ∧ V ≤ 512 := by
  have h1 := h.hok
  have h2 : kind ≠ 3 := by have := h.n3; simpa using this
  unfold HOk at h1
  omega
theorem hd_yes {M : List Int} {kind seq S : Int} {Y V : Nat} (h : Head M kind seq S Y V) (A : Option Addr) (n cap : Nat) (w : World) (hR : RB w A M) (hn : M.length = n) (hB : BB M) (hl : n ≤ cap) (hc : cap ≤ maxLen) :
    Calls Try.prog 49 #[.slice A n cap] w fun e w' => e = .returned (.tuple #[.agg #[.int .u32 S, .int .i64 kind, .int .i64 Y, .int .i64 V, .int .i64 seq], .int .i64 0]) ∧ Below w.heap.size w w' := by
  have c := dec_yes A n cap (fun i => M.getD i 0) w (by have := h.len; omega) (Byts.of_rb hR hn hB hl hc) h.d
  rw [h.v, h.q, h.s] at c
  simp only [h.k, h.y] at c
  exact c
theorem valid_any (A : Option Addr) (n cap : Nat) (M : List Int) (S : Int) (w : World) (h : RB w A M) (hB : BB M) (hn : M.length = n) (hl : n ≤ cap) (hc : cap ≤ maxLen) :
    Calls Try.prog 50 #[.slice A n cap, .int .u32 S] w fun e w' => e = .returned (.bool (csI M == S)) ∧ Below w.heap.size w w' := by
  subst hn
  go_enter Try.func50, Try.ntmps50
  go_wp2_with (go_at_call 55; refine (sum_any A cap M _ h hB hl hc).mono ?_; rintro e w1 ⟨rfl, hb1⟩)
  go_ret
  exact ⟨rfl, hb1⟩

theorem rd_torn0 (A : Option Addr) (n cap : Nat) (w : World) (hn : n < 16) :
    Calls Try.prog 33 #[.slice A n cap] w fun e w' => e = .returned (.tuple #[Rc.zero.v, .int .i64 0, .int .i64 14]) ∧ Below w.heap.size w w' := by
  go_enter Try.func33, Try.ntmps33
  go_wp2_with fail
  refine (dec_torn A n cap _ hn).mono ?_
  rintro e w1 ⟨rfl, hb1⟩
  have hR := (Blk.new w 34 #[.int .i64 0, .int .i64 0, .string ⟨#[]⟩, .string ⟨#[]⟩]).below hb1 (by simp)
  have hB1 := b_then (b_alloc (Below.refl _ w) _) hb1
  have cR := hR.cell
  have fR := hR.frozen
  have lR := hR.lt
  clear hb1
  go_wp2_with fail
  refine bodyPost_ret (v := .tuple #[.agg #[.int .i64 0, .int .i64 0, .string ⟨#[]⟩, .string ⟨#[]⟩], .int .i64 0, .int .i64 14]) (results_c2 Try.results33 _ _ w.heap.size #[.int .i64 0, .int .i64 0, .string ⟨#[]⟩, .string ⟨#[]⟩] _ rfl (by repeat first | (with_reducible exact hR.set4 _ _ _ _) | (with_reducible apply Blk.alloc) | (with_reducible apply Blk.drew)) Try.underlying34 rfl (by kernel_rfl)) rfl ⟨rfl, ?_⟩
  repeat first | (with_reducible exact hB1) | (with_reducible apply Below.drew) | (with_reducible apply b_set) | (with_reducible apply b_alloc)
theorem rd_form (A : Option Addr) (n cap : Nat) (M : List Int) (w : World) (h : RB w A M) (hn : M.length = n) (hB : BB M) (hl : n ≤ cap) (hc : cap ≤ maxLen) (h16 : 16 ≤ n) (hd : ¬ DOk (fun i => M.getD i 0)) :
    Calls Try.prog 33 #[.slice A n cap] w fun e w' => e = .returned (.tuple #[Rc.zero.v, .int .i64 0, .int .i64 8]) ∧ Below w.heap.size w w' := by
  have hby := Byts.of_rb (h.later (b_alloc (Below.refl _ w) (.cells #[.int .i64 0, .int .i64 0, .string ⟨#[]⟩, .string ⟨#[]⟩] 34))) hn hB hl hc
  go_enter Try.func33, Try.ntmps33
  go_wp2_with fail
  refine (dec_no A n cap (fun i => M.getD i 0) _ h16 hby hd).mono ?_
  rintro e w1 ⟨rfl, hb1⟩
  have hR := (Blk.new w 34 #[.int .i64 0, .int .i64 0, .string ⟨#[]⟩, .string ⟨#[]⟩]).below hb1 (by simp)
  have hB1 := b_then (b_alloc (Below.refl _ w) _) hb1
  have cR := hR.cell
  have fR := hR.frozen
  have lR := hR.lt
  clear hb1
  clear hby
  go_wp2_with fail
  refine bodyPost_ret (v := .tuple #[.agg #[.int .i64 0, .int .i64 0, .string ⟨#[]⟩, .string ⟨#[]⟩], .int .i64 0, .int .i64 8]) (results_c2 Try.results33 _ _ w.heap.size #[.int .i64 0, .int .i64 0, .string ⟨#[]⟩, .string ⟨#[]⟩] _ rfl (by repeat first | (with_reducible exact hR.set4 _ _ _ _) | (with_reducible apply Blk.alloc) | (with_reducible apply Blk.drew)) Try.underlying34 rfl (by kernel_rfl)) rfl ⟨rfl, ?_⟩
  repeat first | (with_reducible exact hB1) | (with_reducible apply Below.drew) | (with_reducible apply b_set) | (with_reducible apply b_alloc)
theorem rd_foot (A : Option Addr) (n cap : Nat) (M : List Int) (w : World) (h : RB w A M) (hn : M.length = n) (hB : BB M) (hl : n ≤ cap) (hc : cap ≤ maxLen) (h16 : 16 ≤ n) (hd : DOk (fun i => M.getD i 0)) (h3 : M.getD 4 0 = 3) :
    Calls Try.prog 33 #[.slice A n cap] w fun e w' => e = .returned (.tuple #[Rc.zero.v, .int .i64 0, .int .i64 8]) ∧ Below w.heap.size w w' := by
  have hby := Byts.of_rb (h.later (b_alloc (Below.refl _ w) (.cells #[.int .i64 0, .int .i64 0, .string ⟨#[]⟩, .string ⟨#[]⟩] 34))) hn hB hl hc
  have c := dec_yes A n cap (fun i => M.getD i 0) _ h16 hby hd
  simp only [h3] at c
  obtain ⟨x0, hx0⟩ : ∃ x, x = dS (fun i => M.getD i 0) := ⟨_, rfl⟩
  obtain ⟨x1, hx1⟩ : ∃ x, x = M.getD 5 0 := ⟨_, rfl⟩
  obtain ⟨x2, hx2⟩ : ∃ x, x = dV (fun i => M.getD i 0) := ⟨_, rfl⟩
  obtain ⟨x3, hx3⟩ : ∃ x, x = dQ (fun i => M.getD i 0) := ⟨_, rfl⟩
  rw [← hx0, ← hx1, ← hx2, ← hx3] at c
  clear hx0 hx1 hx2 hx3 hby hd h3 h hB
  go_enter Try.func33, Try.ntmps33
  go_wp2_with fail
  refine c.mono ?_
  rintro e w1 ⟨rfl, hb1⟩
  have hR := (Blk.new w 34 #[.int .i64 0, .int .i64 0, .string ⟨#[]⟩, .string ⟨#[]⟩]).below hb1 (by simp)
  have hB1 := b_then (b_alloc (Below.refl _ w) _) hb1
  have cR := hR.cell
  have fR := hR.frozen
  have lR := hR.lt
  clear hb1
  clear c
  go_wp2_with fail
  refine bodyPost_ret (v := .tuple #[.agg #[.int .i64 0, .int .i64 0, .string ⟨#[]⟩, .string ⟨#[]⟩], .int .i64 0, .int .i64 8]) (results_c2 Try.results33 _ _ w.heap.size #[.int .i64 0, .int .i64 0, .string ⟨#[]⟩, .string ⟨#[]⟩] _ rfl (by repeat first | (with_reducible exact hR.set4 _ _ _ _) | (with_reducible apply Blk.alloc) | (with_reducible apply Blk.drew)) Try.underlying34 rfl (by kernel_rfl)) rfl ⟨rfl, ?_⟩
  repeat first | (with_reducible exact hB1) | (with_reducible apply Below.drew) | (with_reducible apply b_set) | (with_reducible apply b_alloc)
theorem rd_torn1 (A : Option Addr) (n cap : Nat) (M : List Int) (kind seq S : Int) (Y V : Nat) (w : World) (H : Head M kind seq S Y V) (h : RB w A M) (hn : M.length = n) (hB : BB M) (hl : n ≤ cap) (hc : cap ≤ maxLen) (hs : n < 16 + Y + V) :
    Calls Try.prog 33 #[.slice A n cap] w fun e w' => e = .returned (.tuple #[Rc.zero.v, .int .i64 0, .int .i64 14]) ∧ Below w.heap.size w w' := by
  obtain ⟨hk, q1, q2, y1, y2, v2⟩ := H.bd
  have n3 := H.n3
  have hl16 := H.len
  obtain ⟨b, off, rfl, hbl⟩ := h.some_ (by omega)
  have c := hd_yes H (some ⟨b, off, none⟩) n cap _ (h.later (b_alloc (Below.refl _ w) (.cells #[.int .i64 0, .int .i64 0, .string ⟨#[]⟩, .string ⟨#[]⟩] 34))) hn hB hl hc
  unfold maxLen at hc
  go_enter Try.func33, Try.ntmps33
  go_wp2_with fail
  refine c.mono ?_
  rintro e w1 ⟨rfl, hb1⟩
  have hR := (Blk.new w 34 #[.int .i64 0, .int .i64 0, .string ⟨#[]⟩, .string ⟨#[]⟩]).below hb1 (by simp)
  have hB1 := b_then (b_alloc (Below.refl _ w) _) hb1
  have cR := hR.cell
  have fR := hR.frozen
  have lR := hR.lt
  clear hb1
  have HW := Lib.hid (h.later hB1)
  clear c H h
  go_wp2_with fail
  refine bodyPost_ret (v := .tuple #[.agg #[.int .i64 0, .int .i64 0, .string ⟨#[]⟩, .string ⟨#[]⟩], .int .i64 0, .int .i64 14]) (results_c2 Try.results33 _ _ w.heap.size #[.int .i64 0, .int .i64 0, .string ⟨#[]⟩, .string ⟨#[]⟩] _ rfl (by repeat first | (with_reducible exact hR.set4 _ _ _ _) | (with_reducible apply Blk.alloc) | (with_reducible apply Blk.drew)) Try.underlying34 rfl (by kernel_rfl)) rfl ⟨rfl, ?_⟩
  repeat first | (with_reducible exact hB1) | (with_reducible apply Below.drew) | (with_reducible apply b_set) | (with_reducible apply b_alloc)

def K9 (W : World) (g b off : Nat) (M : List Int) (hv : Array Value) (w' : World) : Prop := Below W.heap.size W w' ∧ Blk w' W.heap.size 34 #[.int .i64 0, .int .i64 0, .string ⟨#[]⟩, .string ⟨#[]⟩] ∧ Blk w' g 89 hv ∧ RB w' (some ⟨b, off, none⟩) M
theorem K9.after {W : World} {g b off : Nat} {M : List Int} {hv : Array Value} {w w' : World} (h : K9 W g b off M hv w) (hb : Below w.heap.size w w') : K9 W g b off M hv w' := by
  obtain ⟨h1, h2, h3, h4⟩ := h
  exact ⟨b_then h1 hb, h2.below hb h2.lt, h3.below hb h3.lt, h4.later hb⟩
theorem K9.cell {W : World} {g b off : Nat} {M : List Int} {S : Value} {a c d e : Value} {w : World} (h : K9 W g b off M #[S, a, c, d, e] w) : w.cell? ⟨g, 0, none⟩ = some S := h.2.2.1.cell 0
theorem K9.rb {W : World} {g b off : Nat} {M : List Int} {hv : Array Value} {w : World} (h : K9 W g b off M hv w) : RB w (some ⟨b, off, none⟩) M := h.2.2.2
theorem K9.start {w w1 : World} {b off : Nat} {M : List Int} {hv : Array Value} (h1 : Below w.heap.size w w1) (h2 : Blk w1 w.heap.size 34 #[.int .i64 0, .int .i64 0, .string ⟨#[]⟩, .string ⟨#[]⟩]) (h3 : RB w1 (some ⟨b, off, none⟩) M) : K9 w w1.heap.size b off M hv (w1.alloc (.cells hv 89)) :=
  ⟨b_alloc h1 _, h2.alloc _, Blk.new _ _ _, h3.later (b_alloc (Below.refl _ _) _)⟩
theorem S9.after {W : World} {g b off : Nat} {M : List Int} {S a c d e : Value} {w w' : World} (h : w.cell? ⟨g, 0, none⟩ = some S ∧ K9 W g b off M #[S, a, c, d, e] w) (hb : Below w.heap.size w w') : w'.cell? ⟨g, 0, none⟩ = some S ∧ K9 W g b off M #[S, a, c, d, e] w' :=
  ⟨(h.2.after hb).cell, h.2.after hb⟩
theorem S9.rb {W : World} {g b off : Nat} {M : List Int} {S a c d e : Value} {w : World} (h : w.cell? ⟨g, 0, none⟩ = some S ∧ K9 W g b off M #[S, a, c, d, e] w) : RB w (some ⟨b, off, none⟩) M := h.2.rb
set_option maxHeartbeats 1000000 in
theorem rd_sum (A : Option Addr) (n cap : Nat) (M : List Int) (kind seq S : Int) (Y V : Nat) (w : World) (H : Head M kind seq S Y V) (h : RB w A M) (hn : M.length = n) (hB : BB M) (hl : n ≤ cap) (hc : cap ≤ maxLen) (hs : 16 + Y + V ≤ n) (hcs : (csI ((M.take (16 + Y + V)).drop 4) == S) = false) :
    Calls Try.prog 33 #[.slice A n cap] w fun e w' => e = .returned (.tuple #[Rc.zero.v, .int .i64 0, .int .i64 15]) ∧ Below w.heap.size w w' := by
  obtain ⟨hk, q1, q2, y1, y2, v2⟩ := H.bd
  have n3 := H.n3
  have hl16 := H.len
  obtain ⟨b, off, rfl, hbl⟩ := h.some_ (by omega)
  have c := hd_yes H (some ⟨b, off, none⟩) n cap _ (h.later (b_alloc (Below.refl _ w) (.cells #[.int .i64 0, .int .i64 0, .string ⟨#[]⟩, .string ⟨#[]⟩] 34))) hn hB hl hc
  unfold maxLen at hc
  have hBH := Lib.hid hB
  clear hB
  go_enter Try.func33, Try.ntmps33
  go_wp2_with fail
  refine c.mono ?_
  rintro e w1 ⟨rfl, hb1⟩
  have hR := (Blk.new w 34 #[.int .i64 0, .int .i64 0, .string ⟨#[]⟩, .string ⟨#[]⟩]).below hb1 (by simp)
  have hB1 := b_then (b_alloc (Below.refl _ w) _) hb1
  have cR := hR.cell
  have fR := hR.frozen
  have lR := hR.lt
  clear hb1
  have HW := Lib.hid (h.later hB1)
  clear c H h
  go_wp2_with fail
  have hH := (Blk.new w1 89 #[.int .u32 S, .int .i64 kind, .int .i64 Y, .int .i64 V, .int .i64 seq])
  have cH := hH.cell
  have lH := hH.lt
  have n4 : ¬ cap = 4 := by omega
  have z1 : (4 : Int) ≤ 16 + (Y : Int) + (V : Int) := by omega
  have z2 : 16 + (Y : Int) + (V : Int) ≤ (cap : Int) := by omega
  have z3 : (0 : Int) ≤ 16 + (Y : Int) + (V : Int) := by omega
  have hcn : cap - 4 ≤ maxLen := by unfold maxLen; omega
  have hsl : ((M.take (16 + Y + V)).drop 4).length = 16 + Y + V - 4 := by rw [List.length_drop, List.length_take]; omega
  have hBs := Lib.hid ((hBH.out.take (16 + Y + V)).drop 4)
  have HV : Hid (∀ w' : World, RB w' (some ⟨b, off, none⟩) M → Calls Try.prog 50 #[.slice (some ⟨b, off + 4, none⟩) ((16 + (Y : Int) + (V : Int)).toNat - 4) (cap - 4), .int .u32 S] w' fun e w'' => e = .returned (.bool false) ∧ Below w'.heap.size w' w'') := fun w' h' => by
    have c := valid_any (some ⟨b, off + 4, none⟩) (16 + Y + V - 4) (cap - 4) ((M.take (16 + Y + V)).drop 4) S w' (h'.sub 4 (16 + Y + V)) hBs.out hsl (by omega) hcn
    rw [hcs] at c
    rwa [show (16 + (Y : Int) + (V : Int)).toNat = 16 + Y + V by omega]
  clear hcs hsl
  have hK := K9.start (hv := #[.int .u32 S, .int .i64 kind, .int .i64 Y, .int .i64 V, .int .i64 seq]) hB1 hR HW.out
  have hK := hK.after (Below.drew (Below.refl _ _))
  have hS : _ ∧ _ := ⟨hK.cell, hK⟩
  clear HW hK
  go_region_held3 (fun w' => w'.cell? ⟨w1.heap.size, 0, none⟩ = some (.int .u32 S) ∧ K9 w w1.heap.size b off M #[.int .u32 S, .int .i64 kind, .int .i64 Y, .int .i64 V, .int .i64 seq] w') (first | assumption | exact hS) (first
    | (go_at_call 50; (with_reducible refine (HV.out _ (S9.rb (by assumption))).mono ?_); rintro e w' ⟨rfl, hbk⟩; have hSk := S9.after (by assumption) hbk))
  rename_i hE
  obtain ⟨_, hK⟩ := hE
  obtain ⟨hB2, hR2, hH2, hM2⟩ := hK
  have cR := hR2.cell
  have fR := hR2.frozen
  have lR := hR2.lt
  clear hM2
  go_wp2_with fail
  refine bodyPost_ret (v := .tuple #[.agg #[.int .i64 0, .int .i64 0, .string ⟨#[]⟩, .string ⟨#[]⟩], .int .i64 0, .int .i64 15]) (results_c2 Try.results33 _ _ w.heap.size #[.int .i64 0, .int .i64 0, .string ⟨#[]⟩, .string ⟨#[]⟩] _ rfl (by repeat first | (with_reducible exact hR2.set4 _ _ _ _) | (with_reducible apply Blk.alloc) | (with_reducible apply Blk.drew)) Try.underlying34 rfl (by kernel_rfl)) rfl ⟨rfl, ?_⟩
  repeat first | (with_reducible exact hB2) | (with_reducible apply Below.drew) | (with_reducible apply b_set) | (with_reducible apply b_alloc)
theorem conv_key {w : World} {b off : Nat} {M : List Int} (h : RB w (some ⟨b, off, none⟩) M) (Y c : Nat) (hl : 16 + Y ≤ M.length) :
    (convert 25 9 (.slice (some ⟨b, off + 16, none⟩) Y c)).run Try.prog w = .ok (.string (strOfNums ((M.drop 16).take Y))) w := by
  have h1 := h.sub 16 (16 + Y)
  rw [List.drop_take, show 16 + Y - 16 = Y by omega] at h1
  have h2 := conv_any h1 c
  rwa [show ((M.drop 16).take Y).length = Y by rw [List.length_take, List.length_drop]; omega] at h2
theorem conv_val {w : World} {b off : Nat} {M : List Int} (h : RB w (some ⟨b, off, none⟩) M) (Y V c : Nat) (hl : 16 + Y + V ≤ M.length) :
    (convert 25 9 (.slice (some ⟨b, off + 16 + Y, none⟩) V c)).run Try.prog w = .ok (.string (strOfNums (((M.take (16 + Y + V)).drop 16).drop Y))) w := by
  have h1 := h.sub (16 + Y) (16 + Y + V)
  rw [← Nat.add_assoc] at h1
  have h2 := conv_any h1 c
  rw [List.drop_drop]
  rwa [show ((M.take (16 + Y + V)).drop (16 + Y)).length = V by rw [List.length_drop, List.length_take]; omega] at h2
theorem conv_val0 {w : World} {b o : Nat} {M : List Int} (Y V c : Nat) (hV : V = 0) :
    (convert 25 9 (.slice (some ⟨b, o, none⟩) V c)).run Try.prog w = .ok (.string (strOfNums (((M.take (16 + Y + V)).drop 16).drop Y))) w := by
  subst hV
  have h2 := conv_any (RB.empty w b o) c
  rw [List.drop_drop]
  rw [show (M.take (16 + Y + 0)).drop (16 + Y) = [] from List.drop_eq_nil_of_le (by rw [List.length_take]; omega)]
  exact h2
set_option maxHeartbeats 1000000 in
theorem rd_key (A : Option Addr) (n cap : Nat) (M : List Int) (kind seq S : Int) (Y V : Nat) (w : World) (H : Head M kind seq S Y V) (h : RB w A M) (hn : M.length = n) (hB : BB M) (hl : n ≤ cap) (hc : cap ≤ maxLen) (hs : 16 + Y + V ≤ n) (hcs : (csI ((M.take (16 + Y + V)).drop 4) == S) = true) (hk0 : keyB (strOfNums ((M.drop 16).take Y)) = false) :
    Calls Try.prog 33 #[.slice A n cap] w fun e w' => e = .returned (.tuple #[Rc.zero.v, .int .i64 0, .int .i64 8]) ∧ Below w.heap.size w w' := by
  obtain ⟨hk, q1, q2, y1, y2, v2⟩ := H.bd
  have n3 := H.n3
  have hl16 := H.len
  obtain ⟨b, off, rfl, hbl⟩ := h.some_ (by omega)
  have c := hd_yes H (some ⟨b, off, none⟩) n cap _ (h.later (b_alloc (Below.refl _ w) (.cells #[.int .i64 0, .int .i64 0, .string ⟨#[]⟩, .string ⟨#[]⟩] 34))) hn hB hl hc
  unfold maxLen at hc
  obtain ⟨s1, hs1⟩ : ∃ s, s = strOfNums ((M.drop 16).take Y) := ⟨_, rfl⟩
  obtain ⟨s2, hs2⟩ : ∃ s, s = strOfNums (((M.take (16 + Y + V)).drop 16).drop Y) := ⟨_, rfl⟩
  have hBH := Lib.hid hB
  clear hB
  go_enter Try.func33, Try.ntmps33
  go_wp2_with fail
  refine c.mono ?_
  rintro e w1 ⟨rfl, hb1⟩
  have hR := (Blk.new w 34 #[.int .i64 0, .int .i64 0, .string ⟨#[]⟩, .string ⟨#[]⟩]).below hb1 (by simp)
  have hB1 := b_then (b_alloc (Below.refl _ w) _) hb1
  have cR := hR.cell
  have fR := hR.frozen
  have lR := hR.lt
  clear hb1
  have HW := Lib.hid (h.later hB1)
  clear c H h
  go_wp2_with fail
  have hH := (Blk.new w1 89 #[.int .u32 S, .int .i64 kind, .int .i64 Y, .int .i64 V, .int .i64 seq])
  have cH := hH.cell
  have lH := hH.lt
  have n4 : ¬ cap = 4 := by omega
  have z1 : (4 : Int) ≤ 16 + (Y : Int) + (V : Int) := by omega
  have z2 : 16 + (Y : Int) + (V : Int) ≤ (cap : Int) := by omega
  have z3 : (0 : Int) ≤ 16 + (Y : Int) + (V : Int) := by omega
  have hcn : cap - 4 ≤ maxLen := by unfold maxLen; omega
  have hsl : ((M.take (16 + Y + V)).drop 4).length = 16 + Y + V - 4 := by rw [List.length_drop, List.length_take]; omega
  have hBs := Lib.hid ((hBH.out.take (16 + Y + V)).drop 4)
  have HV : Hid (∀ w' : World, RB w' (some ⟨b, off, none⟩) M → Calls Try.prog 50 #[.slice (some ⟨b, off + 4, none⟩) ((16 + (Y : Int) + (V : Int)).toNat - 4) (cap - 4), .int .u32 S] w' fun e w'' => e = .returned (.bool true) ∧ Below w'.heap.size w' w'') := fun w' h' => by
    have c := valid_any (some ⟨b, off + 4, none⟩) (16 + Y + V - 4) (cap - 4) ((M.take (16 + Y + V)).drop 4) S w' (h'.sub 4 (16 + Y + V)) hBs.out hsl (by omega) hcn
    rw [hcs] at c
    rwa [show (16 + (Y : Int) + (V : Int)).toNat = 16 + Y + V by omega]
  clear hcs hsl
  have hK := K9.start (hv := #[.int .u32 S, .int .i64 kind, .int .i64 Y, .int .i64 V, .int .i64 seq]) hB1 hR HW.out
  have hK := hK.after (Below.drew (Below.refl _ _))
  have hS : _ ∧ _ := ⟨hK.cell, hK⟩
  clear HW hK
  go_region_held3 (fun w' => w'.cell? ⟨w1.heap.size, 0, none⟩ = some (.int .u32 S) ∧ K9 w w1.heap.size b off M #[.int .u32 S, .int .i64 kind, .int .i64 Y, .int .i64 V, .int .i64 seq] w') (first | assumption | exact hS) (first
    | (go_at_call 50; (with_reducible refine (HV.out _ (S9.rb (by assumption))).mono ?_); rintro e w' ⟨rfl, hbk⟩; have hSk := S9.after (by assumption) hbk))
  rename_i hE
  obtain ⟨_, hK⟩ := hE
  obtain ⟨hB2, hR2, hH2, hM2⟩ := hK
  have cH2 := hH2.cell
  have lH2 := hH2.lt
  have n16 : ¬ cap = 16 := by omega
  have z4 : (16 : Int) ≤ 16 + (Y : Int) + (V : Int) := by omega
  clear cH lH HV hBs n4 z1
  go_wp2_with fail
  rw [show 16 + Y + V - 16 = Y + V from by omega]
  have u1 := fun w0 (h : RB w0 (some ⟨b, off, none⟩) M) c => conv_key h Y c (by omega)
  have u2 := fun w0 (h : RB w0 (some ⟨b, off, none⟩) M) c => conv_val h Y V c (by omega)
  have u3 := fun w0 o c hV => conv_val0 (w := w0) (b := b) (o := o) (M := M) Y V c hV
  rw [← hs1] at u1
  rw [← hs2] at u2 u3
  have hM3 := hM2.later (b_alloc (Below.refl _ w') (.cells #[.int .i64 0, .int .i64 0, .string ⟨#[]⟩, .string ⟨#[]⟩] 34))
  have hM2d := hM2.later (Below.drew (Below.refl _ w'))
  have hM3d := hM3.later (Below.drew (Below.refl _ _))
  obtain ⟨c2, hc2⟩ : ∃ c2, c2 = cap - 16 := ⟨_, rfl⟩
  rw [← hc2]
  have zc : (Y : Int) + (V : Int) ≤ (c2 : Int) := by omega
  have zc1 : (Y : Int) ≤ (c2 : Int) := by omega
  have hcc : c2 ≤ 9223372036854775807 := by omega
  have e1 : s1.size = Y := by rw [hs1, strOfNums_size, List.length_take, List.length_drop]; omega
  have e2 : s2.size = V := by rw [hs2, strOfNums_size, List.length_drop, List.length_drop, List.length_take]; omega
  have hno : Hid (¬ (⟨kind, seq, s1, s2⟩ : Rc).Ok) := fun h => by have h1 := h.2.2.2.1; simp only [hs1] at h1; rw [hk0] at h1; cases h1
  clear hk0
  by_cases hcy : c2 = Y
  · have hV0 : V = 0 := by omega
    have a1 := u1 _ hM2d Y
    have a2 := u1 _ hM3d Y
    have a3 := u3 (w'.drew) (off + 16) 0 hV0
    have a4 := u3 ((w'.alloc (.cells #[.int .i64 0, .int .i64 0, .string ⟨#[]⟩, .string ⟨#[]⟩] 34)).drew) (off + 16) 0 hV0
    clear u1 u2 u3 hs1 hs2 hM2 hM3 hM2d hM3d hc2 hV0
    go_region
    all_goals
      (clear a1 a2 a3 a4
       go_wp2_with fail
       refine (rchk_no ⟨kind, seq, s1, s2⟩ hno.out (by unfold maxLen; simp only [e1]; omega) (by unfold maxLen; simp only [e2]; omega) _).mono ?_
       rintro e w3 ⟨rfl, hb3⟩
       have hR3 := ((hR2.alloc (.cells #[.int .i64 kind, .int .i64 seq, .string s1, .string s2] 34)).drew).below hb3 (by simp; exact Nat.lt_succ_of_lt hR2.lt)
       have hB3 := b_then (b_alloc hB2 (.cells #[.int .i64 kind, .int .i64 seq, .string s1, .string s2] 34)).drew hb3
       have cR3 := hR3.cell
       have fR3 := hR3.frozen
       have lR3 := hR3.lt
       clear hb3
       go_wp2_with fail
       refine bodyPost_ret (v := .tuple #[.agg #[.int .i64 0, .int .i64 0, .string ⟨#[]⟩, .string ⟨#[]⟩], .int .i64 0, .int .i64 8]) (results_c2 Try.results33 _ _ w.heap.size #[.int .i64 0, .int .i64 0, .string ⟨#[]⟩, .string ⟨#[]⟩] _ rfl (by repeat first | (with_reducible exact hR3.set4 _ _ _ _) | (with_reducible apply Blk.alloc) | (with_reducible apply Blk.drew)) Try.underlying34 rfl (by kernel_rfl)) rfl ⟨rfl, ?_⟩
       repeat first | (with_reducible exact hB3) | (with_reducible apply Below.drew) | (with_reducible apply b_set) | (with_reducible apply b_alloc))
  · have a1 := u1 _ hM2d c2
    have a2 := u1 _ hM3d c2
    have a3 := u2 _ hM2d (c2 - Y)
    have a4 := u2 _ hM3d (c2 - Y)
    clear u1 u2 u3 hs1 hs2 hM2 hM3 hM2d hM3d hc2
    go_region
    all_goals
      (clear a1 a2 a3 a4
       go_wp2_with fail
       refine (rchk_no ⟨kind, seq, s1, s2⟩ hno.out (by unfold maxLen; simp only [e1]; omega) (by unfold maxLen; simp only [e2]; omega) _).mono ?_
       rintro e w3 ⟨rfl, hb3⟩
       have hR3 := ((hR2.alloc (.cells #[.int .i64 kind, .int .i64 seq, .string s1, .string s2] 34)).drew).below hb3 (by simp; exact Nat.lt_succ_of_lt hR2.lt)
       have hB3 := b_then (b_alloc hB2 (.cells #[.int .i64 kind, .int .i64 seq, .string s1, .string s2] 34)).drew hb3
       have cR3 := hR3.cell
       have fR3 := hR3.frozen
       have lR3 := hR3.lt
       clear hb3
       go_wp2_with fail
       refine bodyPost_ret (v := .tuple #[.agg #[.int .i64 0, .int .i64 0, .string ⟨#[]⟩, .string ⟨#[]⟩], .int .i64 0, .int .i64 8]) (results_c2 Try.results33 _ _ w.heap.size #[.int .i64 0, .int .i64 0, .string ⟨#[]⟩, .string ⟨#[]⟩] _ rfl (by repeat first | (with_reducible exact hR3.set4 _ _ _ _) | (with_reducible apply Blk.alloc) | (with_reducible apply Blk.drew)) Try.underlying34 rfl (by kernel_rfl)) rfl ⟨rfl, ?_⟩
       repeat first | (with_reducible exact hB3) | (with_reducible apply Below.drew) | (with_reducible apply b_set) | (with_reducible apply b_alloc))
set_option maxHeartbeats 1000000 in
theorem rd_yes (A : Option Addr) (n cap : Nat) (M : List Int) (kind seq S : Int) (Y V : Nat) (w : World) (H : Head M kind seq S Y V) (h : RB w A M) (hn : M.length = n) (hB : BB M) (hl : n ≤ cap) (hc : cap ≤ maxLen) (hs : 16 + Y + V ≤ n) (hcs : (csI ((M.take (16 + Y + V)).drop 4) == S) = true) (hk0 : keyB (strOfNums ((M.drop 16).take Y)) = true) :
    Calls Try.prog 33 #[.slice A n cap] w fun e w' => e = .returned (.tuple #[.agg #[.int .i64 kind, .int .i64 seq, .string (strOfNums ((M.drop 16).take Y)), .string (strOfNums (((M.take (16 + Y + V)).drop 16).drop Y))], .int .i64 (16 + (Y : Int) + (V : Int)), .int .i64 0]) ∧ Below w.heap.size w w' := by
  obtain ⟨hk, q1, q2, y1, y2, v2⟩ := H.bd
  have n3 := H.n3
  have hl16 := H.len
  obtain ⟨b, off, rfl, hbl⟩ := h.some_ (by omega)
  have c := hd_yes H (some ⟨b, off, none⟩) n cap _ (h.later (b_alloc (Below.refl _ w) (.cells #[.int .i64 0, .int .i64 0, .string ⟨#[]⟩, .string ⟨#[]⟩] 34))) hn hB hl hc
  unfold maxLen at hc
  obtain ⟨s1, hs1⟩ : ∃ s, s = strOfNums ((M.drop 16).take Y) := ⟨_, rfl⟩
  obtain ⟨s2, hs2⟩ : ∃ s, s = strOfNums (((M.take (16 + Y + V)).drop 16).drop Y) := ⟨_, rfl⟩
  rw [← hs1, ← hs2]
  have hBH := Lib.hid hB
  clear hB
  go_enter Try.func33, Try.ntmps33
  go_wp2_with fail
  refine c.mono ?_
  rintro e w1 ⟨rfl, hb1⟩
  have hR := (Blk.new w 34 #[.int .i64 0, .int .i64 0, .string ⟨#[]⟩, .string ⟨#[]⟩]).below hb1 (by simp)
  have hB1 := b_then (b_alloc (Below.refl _ w) _) hb1
  have cR := hR.cell
  have fR := hR.frozen
  have lR := hR.lt
  clear hb1
  have HW := Lib.hid (h.later hB1)
  clear c H h
  go_wp2_with fail
  have hH := (Blk.new w1 89 #[.int .u32 S, .int .i64 kind, .int .i64 Y, .int .i64 V, .int .i64 seq])
  have cH := hH.cell
  have lH := hH.lt
  have n4 : ¬ cap = 4 := by omega
  have z1 : (4 : Int) ≤ 16 + (Y : Int) + (V : Int) := by omega
  have z2 : 16 + (Y : Int) + (V : Int) ≤ (cap : Int) := by omega
  have z3 : (0 : Int) ≤ 16 + (Y : Int) + (V : Int) := by omega
  have hcn : cap - 4 ≤ maxLen := by unfold maxLen; omega
  have hsl : ((M.take (16 + Y + V)).drop 4).length = 16 + Y + V - 4 := by rw [List.length_drop, List.length_take]; omega
  have hBs := Lib.hid ((hBH.out.take (16 + Y + V)).drop 4)
  have HV : Hid (∀ w' : World, RB w' (some ⟨b, off, none⟩) M → Calls Try.prog 50 #[.slice (some ⟨b, off + 4, none⟩) ((16 + (Y : Int) + (V : Int)).toNat - 4) (cap - 4), .int .u32 S] w' fun e w'' => e = .returned (.bool true) ∧ Below w'.heap.size w' w'') := fun w' h' => by
    have c := valid_any (some ⟨b, off + 4, none⟩) (16 + Y + V - 4) (cap - 4) ((M.take (16 + Y + V)).drop 4) S w' (h'.sub 4 (16 + Y + V)) hBs.out hsl (by omega) hcn
    rw [hcs] at c
    rwa [show (16 + (Y : Int) + (V : Int)).toNat = 16 + Y + V by omega]
  clear hcs hsl
  have hK := K9.start (hv := #[.int .u32 S, .int .i64 kind, .int .i64 Y, .int .i64 V, .int .i64 seq]) hB1 hR HW.out
  have hK := hK.after (Below.drew (Below.refl _ _))
  have hS : _ ∧ _ := ⟨hK.cell, hK⟩
  clear HW hK
  go_region_held3 (fun w' => w'.cell? ⟨w1.heap.size, 0, none⟩ = some (.int .u32 S) ∧ K9 w w1.heap.size b off M #[.int .u32 S, .int .i64 kind, .int .i64 Y, .int .i64 V, .int .i64 seq] w') (first | assumption | exact hS) (first
    | (go_at_call 50; (with_reducible refine (HV.out _ (S9.rb (by assumption))).mono ?_); rintro e w' ⟨rfl, hbk⟩; have hSk := S9.after (by assumption) hbk))
  rename_i hE
  obtain ⟨_, hK⟩ := hE
  obtain ⟨hB2, hR2, hH2, hM2⟩ := hK
  have cH2 := hH2.cell
  have lH2 := hH2.lt
  have n16 : ¬ cap = 16 := by omega
  have z4 : (16 : Int) ≤ 16 + (Y : Int) + (V : Int) := by omega
  clear cH lH HV hBs n4 z1
  go_wp2_with fail
  rw [show 16 + Y + V - 16 = Y + V from by omega]
  have u1 := fun w0 (h : RB w0 (some ⟨b, off, none⟩) M) c => conv_key h Y c (by omega)
  have u2 := fun w0 (h : RB w0 (some ⟨b, off, none⟩) M) c => conv_val h Y V c (by omega)
  have u3 := fun w0 o c hV => conv_val0 (w := w0) (b := b) (o := o) (M := M) Y V c hV
  rw [← hs1] at u1
  rw [← hs2] at u2 u3
  have hM3 := hM2.later (b_alloc (Below.refl _ w') (.cells #[.int .i64 0, .int .i64 0, .string ⟨#[]⟩, .string ⟨#[]⟩] 34))
  have hM2d := hM2.later (Below.drew (Below.refl _ w'))
  have hM3d := hM3.later (Below.drew (Below.refl _ _))
  obtain ⟨c2, hc2⟩ : ∃ c2, c2 = cap - 16 := ⟨_, rfl⟩
  rw [← hc2]
  have zc : (Y : Int) + (V : Int) ≤ (c2 : Int) := by omega
  have zc1 : (Y : Int) ≤ (c2 : Int) := by omega
  have hcc : c2 ≤ 9223372036854775807 := by omega
  have e1 : s1.size = Y := by rw [hs1, strOfNums_size, List.length_take, List.length_drop]; omega
  have e2 : s2.size = V := by rw [hs2, strOfNums_size, List.length_drop, List.length_drop, List.length_take]; omega
  have hyes : Hid ((⟨kind, seq, s1, s2⟩ : Rc).Ok) := ⟨hk.imp id (fun h => ⟨h.1, by simp only [e2]; exact h.2⟩), q1, q2, by simp only [hs1]; exact hk0, by simp only [e1]; exact y1, by simp only [e1]; exact y2, by simp only [e2]; exact v2⟩
  clear hk0
  by_cases hcy : c2 = Y
  · have hV0 : V = 0 := by omega
    have a1 := u1 _ hM2d Y
    have a2 := u1 _ hM3d Y
    have a3 := u3 (w'.drew) (off + 16) 0 hV0
    have a4 := u3 ((w'.alloc (.cells #[.int .i64 0, .int .i64 0, .string ⟨#[]⟩, .string ⟨#[]⟩] 34)).drew) (off + 16) 0 hV0
    clear u1 u2 u3 hs1 hs2 hM2 hM3 hM2d hM3d hc2 hV0
    go_region
    all_goals
      (clear a1 a2 a3 a4
       go_wp2_with fail
       refine (rchk_yes ⟨kind, seq, s1, s2⟩ hyes.out _).mono ?_
       rintro e w3 ⟨rfl, hb3⟩
       have hR3 := ((hR2.alloc (.cells #[.int .i64 kind, .int .i64 seq, .string s1, .string s2] 34)).drew).below hb3 (by simp; exact Nat.lt_succ_of_lt hR2.lt)
       have hT3 := ((Blk.new w' 34 #[.int .i64 kind, .int .i64 seq, .string s1, .string s2]).drew).below hb3 (by simp)
       have hB3 := b_then (b_alloc hB2 (.cells #[.int .i64 kind, .int .i64 seq, .string s1, .string s2] 34)).drew hb3
       have cR3 := hR3.cell
       have fR3 := hR3.frozen
       have lR3 := hR3.lt
       have cT3 := hT3.cell
       have lT3 := hT3.lt
       clear hb3
       go_wp2_with fail
       refine bodyPost_ret (v := .tuple #[.agg #[.int .i64 kind, .int .i64 seq, .string s1, .string s2], .int .i64 (16 + (Y : Int) + (V : Int)), .int .i64 0]) (results_c2 Try.results33 _ _ w.heap.size #[.int .i64 kind, .int .i64 seq, .string s1, .string s2] _ rfl (by repeat first | (with_reducible exact hR3.set4 _ _ _ _) | (with_reducible apply Blk.alloc) | (with_reducible apply Blk.drew)) Try.underlying34 rfl (by kernel_rfl)) rfl ⟨rfl, ?_⟩
       repeat first | (with_reducible exact hB3) | (with_reducible apply Below.drew) | (with_reducible apply b_set) | (with_reducible apply b_alloc))
  · have a1 := u1 _ hM2d c2
    have a2 := u1 _ hM3d c2
    have a3 := u2 _ hM2d (c2 - Y)
    have a4 := u2 _ hM3d (c2 - Y)
    clear u1 u2 u3 hs1 hs2 hM2 hM3 hM2d hM3d hc2
    go_region
    all_goals
      (clear a1 a2 a3 a4
       go_wp2_with fail
       refine (rchk_yes ⟨kind, seq, s1, s2⟩ hyes.out _).mono ?_
       rintro e w3 ⟨rfl, hb3⟩
       have hR3 := ((hR2.alloc (.cells #[.int .i64 kind, .int .i64 seq, .string s1, .string s2] 34)).drew).below hb3 (by simp; exact Nat.lt_succ_of_lt hR2.lt)
       have hT3 := ((Blk.new w' 34 #[.int .i64 kind, .int .i64 seq, .string s1, .string s2]).drew).below hb3 (by simp)
       have hB3 := b_then (b_alloc hB2 (.cells #[.int .i64 kind, .int .i64 seq, .string s1, .string s2] 34)).drew hb3
       have cR3 := hR3.cell
       have fR3 := hR3.frozen
       have lR3 := hR3.lt
       have cT3 := hT3.cell
       have lT3 := hT3.lt
       clear hb3
       go_wp2_with fail
       refine bodyPost_ret (v := .tuple #[.agg #[.int .i64 kind, .int .i64 seq, .string s1, .string s2], .int .i64 (16 + (Y : Int) + (V : Int)), .int .i64 0]) (results_c2 Try.results33 _ _ w.heap.size #[.int .i64 kind, .int .i64 seq, .string s1, .string s2] _ rfl (by repeat first | (with_reducible exact hR3.set4 _ _ _ _) | (with_reducible apply Blk.alloc) | (with_reducible apply Blk.drew)) Try.underlying34 rfl (by kernel_rfl)) rfl ⟨rfl, ?_⟩
       repeat first | (with_reducible exact hB3) | (with_reducible apply Below.drew) | (with_reducible apply b_set) | (with_reducible apply b_alloc))

end Go.Proofs.Ytjcdflohkajbcaa
