/-
  FooterFull, the part between the regions 9 and 14.
-/
import Derived.Test.YtiobnhdcapfhgaaOpen
import Derived.Test.YtiobnhdcapfhgaaFua
namespace Go.Proofs.Ytiobnhdcapfhgaa.footerFull
open Go.ChangeShapes Go.WideShapes Go.ChangeAt Go.RowKit
open Go.ChangeMaps (open_string shut_string)
set_option linter.unusedVariables false

set_option maxHeartbeats 40000000 in
set_option maxRecDepth 100000 in
theorem rest9 (W wc : World) (what far c l : Int) (g11 : Nat) (bs : List (Nat × TypeId × Array Value)) (bw0 : 0 ≤ what) (bw1 : what ≤ 255) (m0 : (W.heap.size, 23, #[.int .i64 65535, .int .i64 7]) ∈ bs) (HM : Hid (what % 6 = 0 ∨ what % 6 = 1 ∨ what % 6 = 2 ∨ what % 6 = 3 ∨ what % 6 = 4 ∨ what % 6 = 5)) (HT : Hid (what.tmod 6 = what % 6)) (hno : ¬ FOk c l) (hK11 : KB W ((g11, 23, #[.int .i64 c, .int .i64 l]) :: bs) wc) (s2 s3 s6 s7 s8 s9 s10 s12 s13 s14 s15 s16 s17 s18 s19 s20 s21 s22 s23 s24 s25 s26 s27 s28 s29 s30 s31 s32 s33 s34 s35 s36 s37 s38 s39 s40 s41 s42 s43 s44 s45 s46 s47 s48 s49 s50 s51 s52 s53 s54 s55 s56 s57 s58 s59 s60 s61 s62 s63 s64 s65 s66 s67 s68 s69 s70 s71 s72 s73 s74 s75 s76 s77 s78 s79 s80 s81 s82 s83 s84 s85 s86 s87 s88 s89 s90 s91 s92 s93 s94 s95 s96 s97 s98 s99 s100 s101 s102 s103 s104 s105 s106 s107 s108 s109 s110 s111 s112 s113 s114 s115 s116 s117 s118 s119 s120 s121 s122 s123 s124 s125 s126 s127 s128 s129 s130 s131 s132 s133 s134 s135 s136 s137 s138 s139 s140 s141 s142 s143 s144 s145 s146 : Value) :
    Code.wp Try.prog ((Try.f7.body.bind (after 9)).getD .skip) (bodyPost Try.prog Try.f7 fun e W' => e = .returned (.bool true) ∧ Below W.heap.size W W') ⟨#[.int .u8 what, .int .u16 far, s2, s3, .bool false, .pointer (some ⟨W.heap.size, 0, none⟩), s6, s7, s8, s9, s10, .pointer (some ⟨g11, 0, none⟩), s12, s13, s14, s15, s16, s17, s18, s19, s20, s21, s22, s23, s24, s25, s26, s27, s28, s29, s30, s31, s32, s33, s34, s35, s36, s37, s38, s39, s40, s41, s42, s43, s44, s45, s46, s47, s48, s49, s50, s51, s52, s53, s54, s55, s56, s57, s58, s59, s60, s61, s62, s63, s64, s65, s66, s67, s68, s69, s70, s71, s72, s73, s74, s75, s76, s77, s78, s79, s80, s81, s82, s83, s84, s85, s86, s87, s88, s89, s90, s91, s92, s93, s94, s95, s96, s97, s98, s99, s100, s101, s102, s103, s104, s105, s106, s107, s108, s109, s110, s111, s112, s113, s114, s115, s116, s117, s118, s119, s120, s121, s122, s123, s124, s125, s126, s127, s128, s129, s130, s131, s132, s133, s134, s135, s136, s137, s138, s139, s140, s141, s142, s143, s144, s145, s146], []⟩ wc := by
  conv => arg 2; whnf
  have m1 : (g11, 23, #[.int .i64 c, .int .i64 l]) ∈ (g11, 23, #[.int .i64 c, .int .i64 l]) :: bs := List.mem_cons_self ..
  have m2 := List.mem_cons_of_mem (g11, 23, #[.int .i64 c, .int .i64 l]) m0
  obtain ⟨bs2, hbs2⟩ : ∃ bs2, bs2 = (g11, 23, #[.int .i64 c, .int .i64 l]) :: bs := ⟨_, rfl⟩
  rw [← hbs2] at hK11 m1 m2
  clear hbs2 m0
  have oE := fun w => fen_no hno w
  have oA3 : ∀ w : World, Calls Try.prog 21 #[.agg #[.int .i64 c, .int .i64 l], .agg #[.int .i64 1, .int .i64 1, .string ⟨#[107]⟩, .string ⟨#[118]⟩]] w fun e w' => e = .returned (.tuple #[.agg #[.int .i64 0, .int .i64 0], .int .i64 2]) ∧ Below w.heap.size w w' := by
    intro w
    have h := fad_any c l (rc 1) (rc_sz 1).1 (rc_sz 1).2 w
    rw [show addF c l (rc 1) = (0, 0, 2) from if_pos (.inl hno)] at h
    exact h
  have oC := fun w => fchk_no hno w
  have d0 : wc.cell? ⟨g11, 0, none⟩ = some (.int .i64 c) := (hK11.2 _ m1).cell 0
  have d1 : wc.cell? ⟨g11, 1, none⟩ = some (.int .i64 l) := (hK11.2 _ m1).cell 1
  clear hno
  go_wp2_with fail
  refine (oE _).mono ?_
  rintro e wq ⟨rfl, hbq⟩
  have hK := hK11.after hbq
  have e0 : wq.cell? ⟨g11, 0, none⟩ = some (.int .i64 c) := (hK.2 _ m1).cell 0
  have e1 : wq.cell? ⟨g11, 1, none⟩ = some (.int .i64 l) := (hK.2 _ m1).cell 1
  clear oE hbq d0 d1 hK11
  go_wp2_with fail
  have hD := hK.after (Below.drew (Below.refl _ wq))
  have ne0 := hK.ne
  have hA0 := hD.after (b_alloc (Below.refl _ wq.drew) (.cells #[.int .i64 0, .int .i64 0] 23))
  have hZ0 : Blk (wq.drew.alloc (.cells #[.int .i64 0, .int .i64 0] 23)) wq.heap.size 23 #[.int .i64 0, .int .i64 0] := Blk.new wq.drew 23 #[.int .i64 0, .int .i64 0]
  have cs0 : (wq.drew).cell? ⟨g11, 0, none⟩ = some (.int .i64 c) := (hD.2 _ m1).cell 0
  have cs1 : (wq.drew).cell? ⟨g11, 1, none⟩ = some (.int .i64 l) := (hD.2 _ m1).cell 1
  have ca0 : (wq.drew.alloc (.cells #[.int .i64 0, .int .i64 0] 23)).cell? ⟨g11, 0, none⟩ = some (.int .i64 c) := (hA0.2 _ m1).cell 0
  have ca1 : (wq.drew.alloc (.cells #[.int .i64 0, .int .i64 0] 23)).cell? ⟨g11, 1, none⟩ = some (.int .i64 l) := (hA0.2 _ m1).cell 1
  have cb0 : (wq.alloc (.cells #[.int .i64 0, .int .i64 0] 23)).cell? ⟨g11, 0, none⟩ = some (.int .i64 c) := ((hK.after (b_alloc (Below.refl _ wq) (.cells #[.int .i64 0, .int .i64 0] 23))).2 _ m1).cell 0
  have cb1 : (wq.alloc (.cells #[.int .i64 0, .int .i64 0] 23)).cell? ⟨g11, 1, none⟩ = some (.int .i64 l) := ((hK.after (b_alloc (Below.refl _ wq) (.cells #[.int .i64 0, .int .i64 0] 23))).2 _ m1).cell 1
  have cd0 : ((wq.alloc (.cells #[.int .i64 0, .int .i64 0] 23)).drew).cell? ⟨g11, 0, none⟩ = some (.int .i64 c) := (((hK.after (b_alloc (Below.refl _ wq) (.cells #[.int .i64 0, .int .i64 0] 23))).after (Below.drew (Below.refl _ _))).2 _ m1).cell 0
  have cd1 : ((wq.alloc (.cells #[.int .i64 0, .int .i64 0] 23)).drew).cell? ⟨g11, 1, none⟩ = some (.int .i64 l) := (((hK.after (b_alloc (Below.refl _ wq) (.cells #[.int .i64 0, .int .i64 0] 23))).after (Below.drew (Below.refl _ _))).2 _ m1).cell 1
  go_cut [14, 15] (fun sa sb wx => ∃ g : Nat, sa = .pointer (some ⟨g, 0, none⟩) ∧ sb = .int .i64 2 ∧ KB W bs2 wx ∧ Blk wx g 23 #[.int .i64 0, .int .i64 0] ∧ (W.heap.size ≤ g ∧ ∀ x ∈ bs2, x.1 ≠ g))
  case first =>
    go_region_with (first
      | (go_at_call 22; (with_reducible refine (put_any 1 _).mono ?_); rintro e w7 ⟨rfl, hbk⟩; (first | (have hSk := hD.after hbk) | (have hSk := hA0.after hbk; have hNb := hZ0.below hbk hZ0.lt; have neN := ne0)); have ck0 : (w7).cell? ⟨g11, 0, none⟩ = some (.int .i64 c) := (hSk.2 _ m1).cell 0; have ck1 : (w7).cell? ⟨g11, 1, none⟩ = some (.int .i64 l) := (hSk.2 _ m1).cell 1; have ne7 := hSk.ne; have hAk := hSk.after (b_alloc (Below.refl _ w7) (.cells #[.int .i64 0, .int .i64 0] 23)); have dk0 : (w7.alloc (.cells #[.int .i64 0, .int .i64 0] 23)).cell? ⟨g11, 0, none⟩ = some (.int .i64 c) := (hAk.2 _ m1).cell 0; have dk1 : (w7.alloc (.cells #[.int .i64 0, .int .i64 0] 23)).cell? ⟨g11, 1, none⟩ = some (.int .i64 l) := (hAk.2 _ m1).cell 1; have hZk := Blk.new w7 23 #[.int .i64 0, .int .i64 0])
      | (go_at_call 21; (with_reducible refine (oA3 _).mono ?_); rintro e w8 ⟨rfl, hbk2⟩; (first | (have hSm := hSk.after hbk2; (try (have hNb := hNb.below hbk2 hNb.lt))) | (have hSm := hAk.after hbk2; have hNb := hZk.below hbk2 hZk.lt; have neN := ne7)); (try (have cNb := hNb.cell; have fNb := hNb.frozen))))
    all_goals (go_wp2_with fail; go_meet; (first | exact ⟨_, rfl, rfl, hSm.setN neN _ _, hNb.set2 _ _, neN⟩ | exact ⟨_, rfl, rfl, hSm.after (b_alloc (Below.refl _ _) _), Blk.new _ _ _, hSm.ne⟩))
  case rest =>
    obtain ⟨g14, rfl, rfl, hK14, hG14, hN14⟩ := hcut
    clear cs0 ca0 cs1 ca1 cb0 cb1 cd0 cd1 hZ0 hA0 ne0 hD hK oA3 e0 e1
    have d0 : wc.cell? ⟨g11, 0, none⟩ = some (.int .i64 c) := (hK14.2 _ m1).cell 0
    have d1 : wc.cell? ⟨g11, 1, none⟩ = some (.int .i64 l) := (hK14.2 _ m1).cell 1
    go_wp2_with fail
    refine (oC _).mono ?_
    rintro e w15 ⟨rfl, hb15⟩
    have hK15 := hK14.after hb15
    have hG15 := hG14.below hb15 hG14.lt
    have c15 := hG15.cell
    clear oC d0 d1 hK14 hG14 hb15
    go_upto_region 14 with fail
    go_cut [16] (fun s16 wx => ∃ (g : Nat) (r : Rc), s16 = .pointer (some ⟨g, 0, none⟩) ∧ ¬ r.Ok ∧ r.Sz ∧ KB W ((g, 46, r.cs) :: bs2) wx ∧ Blk wx g14 23 #[.int .i64 0, .int .i64 0] ∧ g ≠ g14)
    case first =>
      go_wp2_with fail
      refine (put_any 0 _).mono ?_
      rintro e w16 ⟨rfl, hb16⟩
      go_wp2_with fail
      refine (put_any 1099511627777 _).mono ?_
      rintro e w17 ⟨rfl, hb17⟩
      have hK17 := (hK15.after hb16).after hb17
      have hG16 := hG15.below hb16 hG15.lt
      have hG17 := hG16.below hb17 hG16.lt
      clear hb16 hb17 hK15 hG15 c15 hG16
      have hm := HM.out
      have htm := HT.out
      rcases hm with hm | hm | hm | hm | hm | hm
      · rw [hm] at htm
        go_wp2_with fail
        go_meet
        exact ⟨_, ⟨0, 0, ⟨#[]⟩, ⟨#[]⟩⟩, rfl, by decide +kernel, by constructor <;> (show _ ≤ maxLen; unfold maxLen; decide), (hK17.after (b_alloc (b_alloc (Below.refl _ _) _) _)).add (blk_new1 _ _ _ _), (hG17.alloc _).alloc _, by have := hG17.lt; omega⟩
      · rw [hm] at htm
        go_wp2_with fail
        go_meet
        exact ⟨_, ⟨1, 0, ⟨#[107]⟩, ⟨#[118]⟩⟩, rfl, by decide +kernel, by constructor <;> (show _ ≤ maxLen; unfold maxLen; decide), (hK17.after (b_alloc (b_alloc (Below.refl _ _) _) _)).add (blk_new1 _ _ _ _), (hG17.alloc _).alloc _, by have := hG17.lt; omega⟩
      · rw [hm] at htm
        go_wp2_with fail
        go_meet
        exact ⟨_, ⟨1, 1099511627777, ⟨#[107]⟩, ⟨#[118]⟩⟩, rfl, by decide +kernel, by constructor <;> (show _ ≤ maxLen; unfold maxLen; decide), (hK17.after (b_alloc (b_alloc (Below.refl _ _) _) _)).add (blk_new1 _ _ _ _), (hG17.alloc _).alloc _, by have := hG17.lt; omega⟩
      · rw [hm] at htm
        go_wp2_with fail
        go_meet
        exact ⟨_, ⟨1, 1, ⟨#[]⟩, ⟨#[]⟩⟩, rfl, by decide +kernel, by constructor <;> (show _ ≤ maxLen; unfold maxLen; decide), (hK17.after (b_alloc (b_alloc (Below.refl _ _) _) _)).add (blk_new1 _ _ _ _), (hG17.alloc _).alloc _, by have := hG17.lt; omega⟩
      · rw [hm] at htm
        go_wp2_with fail
        go_meet
        exact ⟨_, ⟨3, 1, ⟨#[]⟩, ⟨#[]⟩⟩, rfl, by decide +kernel, by constructor <;> (show _ ≤ maxLen; unfold maxLen; decide), (hK17.after (b_alloc (b_alloc (Below.refl _ _) _) _)).add (blk_new1 _ _ _ _), (hG17.alloc _).alloc _, by have := hG17.lt; omega⟩
      · rw [hm] at htm
        go_wp2_with fail
        go_meet
        exact ⟨_, ⟨2, 1, ⟨#[107]⟩, ⟨#[118]⟩⟩, rfl, by decide +kernel, by constructor <;> (show _ ≤ maxLen; unfold maxLen; decide), (hK17.after (b_alloc (b_alloc (Below.refl _ _) _) _)).add (blk_new1 _ _ _ _), (hG17.alloc _).alloc _, by have := hG17.lt; omega⟩
    case rest =>
      obtain ⟨g16, ⟨kind, sq, key, val⟩, rfl, hno, hsz, hK16, hG16, hne⟩ := hcut
      refine (show ∀ a w, Code.wp _ _ _ a w → _ from by assumption) _ _ ?_
      exact rest14 W wc kind sq key val g14 g16 bs2 m2 hN14 hno hsz hK16 hG16 hne _ _ _ _ _ _ _ _ _ _ _ _ _ _ _ _ _ _ _ _ _ _ _ _ _ _ _ _ _ _ _ _ _ _ _ _ _ _ _ _ _ _ _ _ _ _ _ _ _ _ _ _ _ _ _ _ _ _ _ _ _ _ _ _ _ _ _ _ _ _ _ _ _ _ _ _ _ _ _ _ _ _ _ _ _ _ _ _ _ _ _ _ _ _ _ _ _ _ _ _ _ _ _ _ _ _ _ _ _ _ _ _ _ _ _ _ _ _ _ _ _ _ _ _ _ _ _ _ _ _ _ _ _ _ _ _ _ _ _ _ _ _ _

end Go.Proofs.Ytiobnhdcapfhgaa.footerFull
