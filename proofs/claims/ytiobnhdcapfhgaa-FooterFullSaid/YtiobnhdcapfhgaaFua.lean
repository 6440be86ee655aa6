/-
  FooterFull, the part behind region 14.
-/
import Derived.Test.YtiobnhdcapfhgaaOpen
import Derived.Test.YtiobnhdcapfhgaaArg
import Derived.Test.YtiobnhdcapfhgaaFmd
import Derived.Test.YtiobnhdcapfhgaaFdr
namespace Go.Proofs.Ytiobnhdcapfhgaa.footerFull
open Go.ChangeShapes Go.WideShapes Go.ChangeAt Go.RowKit
open Go.ChangeMaps (open_string shut_string)
set_option linter.unusedVariables false

theorem blk_new1 (w : World) (o : Obj) (t : TypeId) (cs : Array Value) : Blk ((w.alloc o).alloc (.cells cs t)) (w.heap.size + 1) t cs := by
  have h := Blk.new (w.alloc o) t cs
  rwa [World.size_alloc] at h
def KB (W : World) (bs : List (Nat × TypeId × Array Value)) (w' : World) : Prop := Below W.heap.size W w' ∧ ∀ x ∈ bs, Blk w' x.1 x.2.1 x.2.2
theorem KB.after {W : World} {bs : List (Nat × TypeId × Array Value)} {w w' : World} (h : KB W bs w) (hb : Below w.heap.size w w') : KB W bs w' := ⟨b_then h.1 hb, fun x hx => (h.2 x hx).below hb (h.2 x hx).lt⟩
theorem KB.ne {W : World} {bs : List (Nat × TypeId × Array Value)} {w : World} (h : KB W bs w) : W.heap.size ≤ w.heap.size ∧ ∀ x ∈ bs, x.1 ≠ w.heap.size := ⟨h.1.size, fun x hx => Nat.ne_of_lt (h.2 x hx).lt⟩
theorem KB.setN {W : World} {bs : List (Nat × TypeId × Array Value)} {w : World} {g : Nat} (h : KB W bs w) (hn : W.heap.size ≤ g ∧ ∀ x ∈ bs, x.1 ≠ g) (a b : Value) : KB W bs ((w.setCell ⟨g, 0, none⟩ a).setCell ⟨g, 1, none⟩ b) :=
  ⟨(h.1.setCell (by exact hn.1) _).setCell (by exact hn.1) _, fun x hx => ((h.2 x hx).far (p := ⟨g, 0, none⟩) (by exact hn.2 x hx) _).far (p := ⟨g, 1, none⟩) (by exact hn.2 x hx) _⟩
theorem KB.add {W : World} {bs : List (Nat × TypeId × Array Value)} {w : World} (h : KB W bs w) {g : Nat} {t : TypeId} {cs : Array Value} (hb : Blk w g t cs) : KB W ((g, t, cs) :: bs) w := ⟨h.1, fun x hx => by
  rcases List.mem_cons.1 hx with rfl | hx
  · exact hb
  · exact h.2 x hx⟩
theorem KB.ne1 {W : World} {bs : List (Nat × TypeId × Array Value)} {w : World} {o : Obj} (h : KB W bs (w.alloc o)) : W.heap.size ≤ w.heap.size + 1 ∧ ∀ x ∈ bs, x.1 ≠ w.heap.size + 1 := by
  have := h.ne
  rwa [World.size_alloc] at this

def after (k : Nat) : Code → Option Code
  | .seq a b => match a with
    | .region i _ _ => if i == k then some b else after k b
    | _ => after k b
  | _ => none

set_option maxHeartbeats 40000000 in
set_option maxRecDepth 100000 in
theorem rest14 (W wc : World) (kind sq : Int) (key val : ByteArray) (g14 g16 : Nat) (bs2 : List (Nat × TypeId × Array Value)) (m2 : (W.heap.size, 23, #[.int .i64 65535, .int .i64 7]) ∈ bs2) (hN14 : W.heap.size ≤ g14 ∧ ∀ x ∈ bs2, x.1 ≠ g14) (hno : ¬ Rc.Ok ⟨kind, sq, key, val⟩) (hsz : Rc.Sz ⟨kind, sq, key, val⟩) (hK16 : KB W ((g16, 46, Rc.cs ⟨kind, sq, key, val⟩) :: bs2) wc) (hG16 : Blk wc g14 23 #[.int .i64 0, .int .i64 0]) (hne : g16 ≠ g14) (s0 s1 s2 s3 s6 s7 s8 s9 s10 s11 s12 s13 s15 s17 s18 s19 s20 s21 s22 s23 s24 s25 s26 s27 s28 s29 s30 s31 s32 s33 s34 s35 s36 s37 s38 s39 s40 s41 s42 s43 s44 s45 s46 s47 s48 s49 s50 s51 s52 s53 s54 s55 s56 s57 s58 s59 s60 s61 s62 s63 s64 s65 s66 s67 s68 s69 s70 s71 s72 s73 s74 s75 s76 s77 s78 s79 s80 s81 s82 s83 s84 s85 s86 s87 s88 s89 s90 s91 s92 s93 s94 s95 s96 s97 s98 s99 s100 s101 s102 s103 s104 s105 s106 s107 s108 s109 s110 s111 s112 s113 s114 s115 s116 s117 s118 s119 s120 s121 s122 s123 s124 s125 s126 s127 s128 s129 s130 s131 s132 s133 s134 s135 s136 s137 s138 s139 s140 s141 s142 s143 s144 s145 s146 : Value) :
    Code.wp Try.prog ((Try.f7.body.bind (after 14)).getD .skip) (bodyPost Try.prog Try.f7 fun e W' => e = .returned (.bool true) ∧ Below W.heap.size W W') ⟨#[s0, s1, s2, s3, .bool false, .pointer (some ⟨W.heap.size, 0, none⟩), s6, s7, s8, s9, s10, s11, s12, s13, .pointer (some ⟨g14, 0, none⟩), s15, .pointer (some ⟨g16, 0, none⟩), s17, s18, s19, s20, s21, s22, s23, s24, s25, s26, s27, s28, s29, s30, s31, s32, s33, s34, s35, s36, s37, s38, s39, s40, s41, s42, s43, s44, s45, s46, s47, s48, s49, s50, s51, s52, s53, s54, s55, s56, s57, s58, s59, s60, s61, s62, s63, s64, s65, s66, s67, s68, s69, s70, s71, s72, s73, s74, s75, s76, s77, s78, s79, s80, s81, s82, s83, s84, s85, s86, s87, s88, s89, s90, s91, s92, s93, s94, s95, s96, s97, s98, s99, s100, s101, s102, s103, s104, s105, s106, s107, s108, s109, s110, s111, s112, s113, s114, s115, s116, s117, s118, s119, s120, s121, s122, s123, s124, s125, s126, s127, s128, s129, s130, s131, s132, s133, s134, s135, s136, s137, s138, s139, s140, s141, s142, s143, s144, s145, s146], []⟩ wc := by
  conv => arg 2; whnf
  have hK16 : KB W ((g16, 46, #[.int .i64 kind, .int .i64 sq, .string key, .string val]) :: bs2) wc := hK16
  have m3 : (g16, 46, #[.int .i64 kind, .int .i64 sq, .string key, .string val]) ∈ (g16, 46, #[.int .i64 kind, .int .i64 sq, .string key, .string val]) :: bs2 := List.mem_cons_self ..
  have m4 := List.mem_cons_of_mem (g16, 46, #[.int .i64 kind, .int .i64 sq, .string key, .string val]) m2
  have hN16 : W.heap.size ≤ g14 ∧ ∀ x ∈ (g16, 46, #[.int .i64 kind, .int .i64 sq, .string key, .string val]) :: bs2, x.1 ≠ g14 := ⟨hN14.1, fun x hx => by
    rcases List.mem_cons.1 hx with rfl | hx
    · exact hne
    · exact hN14.2 x hx⟩
  obtain ⟨bs3, hbs3⟩ : ∃ bs3, bs3 = (g16, 46, #[.int .i64 kind, .int .i64 sq, .string key, .string val]) :: bs2 := ⟨_, rfl⟩
  rw [← hbs3] at hK16 m3 m4 hN16
  clear hbs3 m2 hN14 hne
  have oA4 : ∀ w : World, Calls Try.prog 21 #[.agg #[.int .i64 65535, .int .i64 7], .agg #[.int .i64 kind, .int .i64 sq, .string key, .string val]] w fun e w' => e = .returned (.tuple #[.agg #[.int .i64 0, .int .i64 0], .int .i64 2]) ∧ Below w.heap.size w w' := by
    intro w
    have h := fad_any 65535 7 ⟨kind, sq, key, val⟩ hsz.1 hsz.2 w
    rw [show addF 65535 7 ⟨kind, sq, key, val⟩ = (0, 0, 2) from if_pos (.inr hno)] at h
    exact h
  have oO : ∀ (w : World) (G : Nat), Blk w G 46 #[.int .i64 1, .int .i64 1, .string ⟨#[107]⟩, .string ⟨#[118]⟩, .int .i64 kind, .int .i64 sq, .string key, .string val] → Calls Try.prog 23 #[.slice (some ⟨G, 0, none⟩) 2 2] w fun e w' => e = .returned (.tuple #[.agg #[.int .i64 0, .int .i64 0], .int .i64 2]) ∧ Below w.heap.size w w' := by
    intro w G hB
    have h := fof_any (some ⟨G, 0, none⟩) 2 [rc 1, ⟨kind, sq, key, val⟩] w (IsRs.of_blk (rs := [rc 1, ⟨kind, sq, key, val⟩]) hB (by intro r hr; simp at hr; rcases hr with rfl | rfl; exact rc_sz _; exact hsz)) (Nat.le_refl _) (by unfold maxLen; decide)
    rw [show ofF [rc 1, ⟨kind, sq, key, val⟩] = (0, 0, 2) from if_pos (by simp [allOk, hno])] at h
    exact h
  have f0 : wc.cell? ⟨W.heap.size, 0, none⟩ = some (.int .i64 65535) := (hK16.2 _ m4).cell 0
  have f1 : wc.cell? ⟨W.heap.size, 1, none⟩ = some (.int .i64 7) := (hK16.2 _ m4).cell 1
  have f2 : wc.cell? ⟨g16, 0, none⟩ = some (.int .i64 kind) := (hK16.2 _ m3).cell 0
  have f3 : wc.cell? ⟨g16, 1, none⟩ = some (.int .i64 sq) := (hK16.2 _ m3).cell 1
  have f4 : wc.cell? ⟨g16, 2, none⟩ = some (.string key) := (hK16.2 _ m3).cell 2
  have f5 : wc.cell? ⟨g16, 3, none⟩ = some (.string val) := (hK16.2 _ m3).cell 3
  clear hno hsz
  go_wp2_with fail
  refine (oA4 _).mono ?_
  rintro e w18 ⟨rfl, hb18⟩
  have hK18 := hK16.after hb18
  have hG18 := hG16.below hb18 hG16.lt
  have cG := hG18.cell
  have fG := hG18.frozen
  have hK19 := hK18.setN hN16 (.int .i64 0) (.int .i64 0)
  have hG19 : Blk ((w18.setCell ⟨g14, 0, none⟩ (.int .i64 0)).setCell ⟨g14, 1, none⟩ (.int .i64 0)) g14 23 #[.int .i64 0, .int .i64 0] := hG18.set2 _ _
  clear oA4 hb18 f0 f1 f2 f3 f4 f5 hK16 hG16
  go_upto_region 16 with fail
  generalize (w18.setCell ⟨g14, 0, none⟩ (.int .i64 0)).setCell ⟨g14, 1, none⟩ (.int .i64 0) = wq at hK19 hG19 ⊢
  have hK := hK19.add hG19
  have m5 : (g14, 23, #[.int .i64 0, .int .i64 0]) ∈ (g14, 23, #[.int .i64 0, .int .i64 0]) :: bs3 := List.mem_cons_self ..
  have m3 := List.mem_cons_of_mem (g14, 23, #[.int .i64 0, .int .i64 0]) m3
  obtain ⟨bs4, hbs4⟩ : ∃ bs4, bs4 = (g14, 23, #[.int .i64 0, .int .i64 0]) :: bs3 := ⟨_, rfl⟩
  rw [← hbs4] at hK m5 m3
  clear hbs4 hK18 hG18 cG fG hK19 hG19 m4 hN16
  have hD := hK.after (Below.drew (Below.refl _ wq))
  have ne0 := hK.ne
  have hA0 := hD.after (b_alloc (Below.refl _ wq.drew) (.cells #[.int .i64 0, .int .i64 0] 23))
  have hZ0 : Blk (wq.drew.alloc (.cells #[.int .i64 0, .int .i64 0] 23)) wq.heap.size 23 #[.int .i64 0, .int .i64 0] := Blk.new wq.drew 23 #[.int .i64 0, .int .i64 0]
  have cs0 : (wq.drew).cell? ⟨g16, 0, none⟩ = some (.int .i64 kind) := (hD.2 _ m3).cell 0
  have cs1 : (wq.drew).cell? ⟨g16, 1, none⟩ = some (.int .i64 sq) := (hD.2 _ m3).cell 1
  have cs2 : (wq.drew).cell? ⟨g16, 2, none⟩ = some (.string key) := (hD.2 _ m3).cell 2
  have cs3 : (wq.drew).cell? ⟨g16, 3, none⟩ = some (.string val) := (hD.2 _ m3).cell 3
  have ca0 : (wq.drew.alloc (.cells #[.int .i64 0, .int .i64 0] 23)).cell? ⟨g16, 0, none⟩ = some (.int .i64 kind) := (hA0.2 _ m3).cell 0
  have ca1 : (wq.drew.alloc (.cells #[.int .i64 0, .int .i64 0] 23)).cell? ⟨g16, 1, none⟩ = some (.int .i64 sq) := (hA0.2 _ m3).cell 1
  have ca2 : (wq.drew.alloc (.cells #[.int .i64 0, .int .i64 0] 23)).cell? ⟨g16, 2, none⟩ = some (.string key) := (hA0.2 _ m3).cell 2
  have ca3 : (wq.drew.alloc (.cells #[.int .i64 0, .int .i64 0] 23)).cell? ⟨g16, 3, none⟩ = some (.string val) := (hA0.2 _ m3).cell 3
  have cb0 : (wq.alloc (.cells #[.int .i64 0, .int .i64 0] 23)).cell? ⟨g16, 0, none⟩ = some (.int .i64 kind) := ((hK.after (b_alloc (Below.refl _ wq) (.cells #[.int .i64 0, .int .i64 0] 23))).2 _ m3).cell 0
  have cb1 : (wq.alloc (.cells #[.int .i64 0, .int .i64 0] 23)).cell? ⟨g16, 1, none⟩ = some (.int .i64 sq) := ((hK.after (b_alloc (Below.refl _ wq) (.cells #[.int .i64 0, .int .i64 0] 23))).2 _ m3).cell 1
  have cb2 : (wq.alloc (.cells #[.int .i64 0, .int .i64 0] 23)).cell? ⟨g16, 2, none⟩ = some (.string key) := ((hK.after (b_alloc (Below.refl _ wq) (.cells #[.int .i64 0, .int .i64 0] 23))).2 _ m3).cell 2
  have cb3 : (wq.alloc (.cells #[.int .i64 0, .int .i64 0] 23)).cell? ⟨g16, 3, none⟩ = some (.string val) := ((hK.after (b_alloc (Below.refl _ wq) (.cells #[.int .i64 0, .int .i64 0] 23))).2 _ m3).cell 3
  have cd0 : ((wq.alloc (.cells #[.int .i64 0, .int .i64 0] 23)).drew).cell? ⟨g16, 0, none⟩ = some (.int .i64 kind) := (((hK.after (b_alloc (Below.refl _ wq) (.cells #[.int .i64 0, .int .i64 0] 23))).after (Below.drew (Below.refl _ _))).2 _ m3).cell 0
  have cd1 : ((wq.alloc (.cells #[.int .i64 0, .int .i64 0] 23)).drew).cell? ⟨g16, 1, none⟩ = some (.int .i64 sq) := (((hK.after (b_alloc (Below.refl _ wq) (.cells #[.int .i64 0, .int .i64 0] 23))).after (Below.drew (Below.refl _ _))).2 _ m3).cell 1
  have cd2 : ((wq.alloc (.cells #[.int .i64 0, .int .i64 0] 23)).drew).cell? ⟨g16, 2, none⟩ = some (.string key) := (((hK.after (b_alloc (Below.refl _ wq) (.cells #[.int .i64 0, .int .i64 0] 23))).after (Below.drew (Below.refl _ _))).2 _ m3).cell 2
  have cd3 : ((wq.alloc (.cells #[.int .i64 0, .int .i64 0] 23)).drew).cell? ⟨g16, 3, none⟩ = some (.string val) := (((hK.after (b_alloc (Below.refl _ wq) (.cells #[.int .i64 0, .int .i64 0] 23))).after (Below.drew (Below.refl _ _))).2 _ m3).cell 3
  go_cut [18, 19] (fun sa sb wx => ∃ g : Nat, sa = .pointer (some ⟨g, 0, none⟩) ∧ sb = .int .i64 2 ∧ KB W bs4 wx ∧ Blk wx g 23 #[.int .i64 0, .int .i64 0])
  case first =>
    go_region_with (first
      | (go_at_call 22; (with_reducible refine (put_any 1 _).mono ?_); rintro e w7 ⟨rfl, hbk⟩; (first | (have hSk := hD.after hbk) | (have hSk := hA0.after hbk; have hNb := hZ0.below hbk hZ0.lt; have neN := ne0)); have ck0 : (w7).cell? ⟨g16, 0, none⟩ = some (.int .i64 kind) := (hSk.2 _ m3).cell 0; have ck1 : (w7).cell? ⟨g16, 1, none⟩ = some (.int .i64 sq) := (hSk.2 _ m3).cell 1; have ck2 : (w7).cell? ⟨g16, 2, none⟩ = some (.string key) := (hSk.2 _ m3).cell 2; have ck3 : (w7).cell? ⟨g16, 3, none⟩ = some (.string val) := (hSk.2 _ m3).cell 3; have ne7 := hSk.ne; have hAk := hSk.after (b_alloc (Below.refl _ w7) (.cells #[.int .i64 0, .int .i64 0] 23)); have dk0 : (w7.alloc (.cells #[.int .i64 0, .int .i64 0] 23)).cell? ⟨g16, 0, none⟩ = some (.int .i64 kind) := (hAk.2 _ m3).cell 0; have dk1 : (w7.alloc (.cells #[.int .i64 0, .int .i64 0] 23)).cell? ⟨g16, 1, none⟩ = some (.int .i64 sq) := (hAk.2 _ m3).cell 1; have dk2 : (w7.alloc (.cells #[.int .i64 0, .int .i64 0] 23)).cell? ⟨g16, 2, none⟩ = some (.string key) := (hAk.2 _ m3).cell 2; have dk3 : (w7.alloc (.cells #[.int .i64 0, .int .i64 0] 23)).cell? ⟨g16, 3, none⟩ = some (.string val) := (hAk.2 _ m3).cell 3; have q1 := Blk.new w7 46 #[.int .i64 1, .int .i64 1, .string ⟨#[107]⟩, .string ⟨#[118]⟩, .int .i64 kind, .int .i64 sq, .string key, .string val]; have q2 := blk_new1 w7 (.cells #[.int .i64 0, .int .i64 0] 23) 46 #[.int .i64 1, .int .i64 1, .string ⟨#[107]⟩, .string ⟨#[118]⟩, .int .i64 kind, .int .i64 sq, .string key, .string val]; have q3 := q1.alloc (.cells #[.int .i64 0, .int .i64 0] 23); have q4 := blk_new1 w7 (.cells #[.int .i64 1, .int .i64 1, .string ⟨#[107]⟩, .string ⟨#[118]⟩, .int .i64 kind, .int .i64 sq, .string key, .string val] 46) 23 #[.int .i64 0, .int .i64 0]; have hKq1 := hSk.after (b_alloc (Below.refl _ w7) (.cells #[.int .i64 1, .int .i64 1, .string ⟨#[107]⟩, .string ⟨#[118]⟩, .int .i64 kind, .int .i64 sq, .string key, .string val] 46)); have hKq2 := hAk.after (b_alloc (Below.refl _ _) (.cells #[.int .i64 1, .int .i64 1, .string ⟨#[107]⟩, .string ⟨#[118]⟩, .int .i64 kind, .int .i64 sq, .string key, .string val] 46)); have hKq3 := hKq1.after (b_alloc (Below.refl _ _) (.cells #[.int .i64 0, .int .i64 0] 23)); have neK1 := hKq1.ne1; have hZk := (Blk.new w7 23 #[.int .i64 0, .int .i64 0]).alloc (.cells #[.int .i64 1, .int .i64 1, .string ⟨#[107]⟩, .string ⟨#[118]⟩, .int .i64 kind, .int .i64 sq, .string key, .string val] 46))
      | (go_at_call 23; (first
          | ((with_reducible refine (oO _ _ q1).mono ?_); rintro e w8 ⟨rfl, hbk2⟩; have hSm := hKq1.after hbk2; (try (have hNb := hNb.alloc (.cells #[.int .i64 1, .int .i64 1, .string ⟨#[107]⟩, .string ⟨#[118]⟩, .int .i64 kind, .int .i64 sq, .string key, .string val] 46); have hNb := hNb.below hbk2 hNb.lt)))
          | ((with_reducible refine (oO _ _ q2).mono ?_); rintro e w8 ⟨rfl, hbk2⟩; have hSm := hKq2.after hbk2; have hNb := hZk.below hbk2 hZk.lt; have neN := ne7)
          | ((with_reducible refine (oO _ _ q3).mono ?_); rintro e w8 ⟨rfl, hbk2⟩; have hSm := hKq3.after hbk2; have hNb := q4.below hbk2 q4.lt; have neN := neK1)); (try (have cNb := hNb.cell; have fNb := hNb.frozen))))
    all_goals (go_wp2_with fail; go_meet; (first | exact ⟨_, rfl, rfl, hSm.setN neN _ _, hNb.set2 _ _⟩ | exact ⟨_, rfl, rfl, hSm.after (b_alloc (Below.refl _ _) _), Blk.new _ _ _⟩))
  case rest =>
    obtain ⟨g18, rfl, rfl, hK20, hG20⟩ := hcut
    have h0 : wc.cell? ⟨g14, 0, none⟩ = some (.int .i64 0) := (hK20.2 _ m5).cell 0
    have h1 : wc.cell? ⟨g14, 1, none⟩ = some (.int .i64 0) := (hK20.2 _ m5).cell 1
    have c20 := hG20.cell
    clear hD ne0 hA0 hZ0 hK oO cs0 cs1 cs2 cs3 ca0 ca1 ca2 ca3 cb0 cb1 cb2 cb3 cd0 cd1 cd2 cd3
    go_wp2_with fail
    refine (works_true _).mono ?_
    rintro e w9 ⟨rfl, hb9⟩
    go_wp2_with fail
    go_ret
    exact ⟨rfl, b_then hK20.1 hb9⟩

end Go.Proofs.Ytiobnhdcapfhgaa.footerFull
