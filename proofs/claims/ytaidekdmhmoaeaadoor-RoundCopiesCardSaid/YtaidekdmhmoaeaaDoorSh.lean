/-
  A round shows what the reference shows.
-/
import Derived.Test.YtaidekdmhmoaeaaDoorRb
namespace Go.Proofs.YtaidekdmhmoaeaaDoor.Rr
open Go.RowKit Bt
open Rd (ints inn Tab RS left_any Got1)
set_option linter.unusedVariables false
set_option linter.unusedSimpArgs false
set_option maxHeartbeats 3200000 in
theorem shows_yes (b s M : Nat) (N : Int) (b' g' cap' : Nat) (x : Int) (w : World) (h : Rd.Is w b s M N) (g : Is w b' g' s cap' M N) (hT : Tab w) : Calls Tryd.prog 11 #[.pointer (some ⟨b, 0, none⟩), .pointer (some ⟨b', 0, none⟩), .int .i64 x] w fun e w' => e = .returned (.bool true) ∧ Below w.heap.size w w' := by
  have hh : Calls Tryd.prog 25 #[.pointer (some ⟨b, 0, none⟩), .int .i64 x] w fun e w' => e = .returned (.bool (inn s x && M.testBit x.toNat)) ∧ w = w' := Rd.Has_any b s M N x w h
  have gh := Has_any b' g' s cap' M N x w g
  generalize (inn s x && M.testBit x.toNat) = v at hh gh
  have hl := left_any (some ⟨b, 0, none⟩) (ints (slots M)) w (.inr ⟨b, s, M, N, rfl, h, rfl⟩) hT
  have hlen : (ints (slots M)).length = (slots M).length := by simp [ints]
  rw [hlen] at hl
  have hl32 : (slots M).length ≤ 32 := by rw [← hlen]; exact Rd.RS.len (.inr ⟨b, s, M, N, rfl, h, rfl⟩)
  obtain ⟨S, hS⟩ : ∃ S, S = (slots M).length := ⟨_, rfl⟩
  obtain ⟨L, hL⟩ : ∃ L, L = ints (slots M) := ⟨_, rfl⟩
  have HS := Lib.hid hS
  have HL := Lib.hid hL
  have hlS : L.length = S := by rw [hL, hS]; exact hlen
  have HLS := Lib.hid hlS
  rw [← hS, ← hL] at hl
  rw [← hS] at hl32
  clear hlen hS hL hlS
  go_enter Tryd.func11, Tryd.ntmps11
  go_wp2_with fail
  refine hh.mono ?_
  rintro e w' ⟨rfl, rfl⟩
  go_wp2_with fail
  refine gh.mono ?_
  rintro e w' ⟨rfl, rfl⟩
  clear hh gh
  go_wp2_with fail
  refine hl.mono ?_
  rintro e w1 ⟨⟨A1, c1, rfl, o1⟩, hb1⟩
  clear hl
  have h1 := h.later hb1
  have g1 := g.later hb1
  clear h g hT
  have hl2 := Left_any b' g' s cap' M N w1 g1
  rw [← HS.out, ← HL.out] at hl2
  go_wp2_with fail
  refine hl2.mono ?_
  rintro e w2 ⟨⟨A2, c2, rfl, o2⟩, hb2⟩
  clear hl2
  have h2 := h1.later hb2
  have g2 := g1.later hb2
  have hb2' := b_then hb1 hb2
  have hq := eqi_any A1 A2 S c1 c2 L w2 HLS.out (RI.of_row (own_later o1 hb2)) (RI.of_row o2) (by unfold maxLen; omega)
  clear h1 g1 o1 o2 hb1 hb2
  go_wp2_with fail
  refine hq.mono ?_
  rintro e w3 ⟨rfl, q3, rfl⟩
  clear hq
  have h3 := h2.later (below_drewN (Below.refl _ _) q3)
  have g3 := g2.later (below_drewN (Below.refl _ _) q3)
  have hb3 := below_drewN hb2' q3
  generalize World.drewN w2 q3 = w3 at h3 g3 hb3 ⊢
  clear h2 g2 hb2'
  have ho := Rd.Over_any b s M N w3 h3
  have go' := Over_any b' g' s cap' M N w3 g3
  generalize (M == 0) = o at ho go'
  go_wp2_with fail
  refine ho.mono ?_
  rintro e w' ⟨rfl, rfl⟩
  clear ho
  go_wp2_with fail
  refine go'.mono ?_
  rintro e w4 ⟨rfl, hb4⟩
  clear go'
  have h4 := h3.later hb4
  have g4 := g3.later hb4
  have hb4' := b_then hb3 hb4
  clear h3 g3 hb3 hb4
  go_wp2_with fail
  refine (Rd.Count_any b s M N w4 h4).mono ?_
  rintro e w' ⟨rfl, rfl⟩
  go_wp2_with fail
  refine (Count_any b' g' s cap' M N w4 g4).mono ?_
  rintro e w' ⟨rfl, rfl⟩
  go_wp2_with fail
  go_ret
  exact ⟨rfl, hb4'⟩
set_option maxHeartbeats 3200000 in
theorem shows_no (p : Option Addr) (x : Int) (w : World) (h : Rd.No p w) (hT : Tab w) : Calls Tryd.prog 11 #[.pointer p, .pointer none, .int .i64 x] w fun e w' => e = .returned (.bool true) ∧ Below w.heap.size w w' := by
  have hl := left_any p [] w (.inl ⟨h, rfl⟩) hT
  have hl : Calls Tryd.prog 24 #[.pointer p] w (Got1 w 0 []) := hl
  go_enter Tryd.func11, Tryd.ntmps11
  go_wp2_with fail
  refine (Rd.Has_no p w h x).mono ?_
  rintro e w' ⟨rfl, rfl⟩
  go_wp2_with fail
  refine (Has_no w x).mono ?_
  rintro e w' ⟨rfl, rfl⟩
  go_wp2_with fail
  refine hl.mono ?_
  rintro e w1 ⟨⟨A1, c1, rfl, o1⟩, hb1⟩
  clear hl
  have h1 := h.later hb1
  clear h hT
  go_wp2_with fail
  refine (Left_no w1).mono ?_
  rintro e w' ⟨rfl, rfl⟩
  have hq := eqi_any A1 none 0 c1 0 [] w1 rfl (.inl rfl) (.inl rfl) (by unfold maxLen; omega)
  clear o1
  go_wp2_with fail
  refine hq.mono ?_
  rintro e w3 ⟨rfl, q3, rfl⟩
  clear hq
  have h3 := h1.later (below_drewN (Below.refl _ _) q3)
  have hb3 := below_drewN hb1 q3
  generalize World.drewN w1 q3 = w3 at h3 hb3 ⊢
  clear h1 hb1
  go_wp2_with fail
  refine (Rd.Over_no p w3 h3).mono ?_
  rintro e w' ⟨rfl, rfl⟩
  go_wp2_with fail
  refine (Over_no w3).mono ?_
  rintro e w' ⟨rfl, rfl⟩
  go_wp2_with fail
  refine (Rd.Count_no p w3 h3).mono ?_
  rintro e w' ⟨rfl, rfl⟩
  go_wp2_with fail
  refine (Count_no w3).mono ?_
  rintro e w' ⟨rfl, rfl⟩
  go_wp2_with fail
  go_ret
  exact ⟨rfl, hb3⟩
end Go.Proofs.YtaidekdmhmoaeaaDoor.Rr
