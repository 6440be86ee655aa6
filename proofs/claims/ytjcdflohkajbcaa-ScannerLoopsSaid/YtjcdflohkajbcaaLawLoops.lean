/-
  ScannerLoops: for every slice of items and every two numbers the law returns true and changes nothing. No condition.
-/
import Derived.Test.YtjcdflohkajbcaaOpen
import Derived.Test.YtjcdflohkajbcaaSC
import Derived.Deep.CutBlock
import Derived.Deep.DeepCutAuto
namespace Go.Proofs.Ytjcdflohkajbcaa.scannerLoops
open Go.ChangeShapes Go.WideShapes Go.ChangeAt Go.RowKit
open Go.ChangeMaps (open_string shut_string)
set_option linter.unusedVariables false

theorem recs_at (A : Option Addr) (n cap : Nat) (its : List It) (w : World) (h : IsIt w A its) (hn : its.length = n) (hn2 : n ≤ 1000) :
    Calls Try.prog 18 #[.slice A n cap] w fun e w' => (∃ A' c', e = .returned (.slice A' n c') ∧ IsRs w' A' (rsI its)) ∧ Below w.heap.size w w' := by
  refine (recs_any A n cap its w h hn hn2).mono ?_
  rintro e w' ⟨⟨v, rfl, ho⟩, hb⟩
  have hl : (rsI its).length = n := by rw [rsI, List.length_map, hn]
  obtain ⟨A', c', rfl, hR, _⟩ := IsRs.of_own (rs := rsI its) (by rw [hl]; exact ho) (rsI_sz h.1)
  rw [hl]
  exact ⟨⟨A', c', rfl, hR⟩, hb⟩
theorem bytes_at (A : Option Addr) (n cap : Nat) (its : List It) (w : World) (h : IsIt w A its) (hn : its.length = n) (hn2 : n ≤ 100) :
    Calls Try.prog 12 #[.slice A n cap] w fun e w' => (∃ v1 A2 b2 o2 c2, e = .returned (.tuple #[v1, .slice A2 (n + 1) c2]) ∧ A2 = some ⟨b2, o2, none⟩ ∧ w'.ownsRow w.heap.size 5 1 v1 (sizeL (rsI its)) ((encL (rsI its)).map (Value.int .u8)) ∧ RI w' A2 (atQ (rsI its) n) ∧ n + 1 ≤ c2 ∧ c2 ≤ maxLen ∧ b2 < w'.heap.size) ∧ Below w.heap.size w w' := by
  refine (bytes_any A n cap its w h hn hn2).mono ?_
  rintro e w' ⟨⟨v1, v2, rfl, hI, oa⟩, hb⟩
  obtain ⟨A2, c2, rfl, hRI, h1, h2⟩ := RI.of_own oa
  obtain ⟨b2, o2, e2, hlt, _⟩ := hRI.cell (atQ_at (rsI its) (n := n) (k := 0) (by omega))
  exact ⟨⟨v1, A2, b2, o2, c2, rfl, e2, hI, hRI, h1, h2, hlt⟩, hb⟩

def KT (w1 w' : World) : Prop := Below w1.heap.size w1 w'
abbrev ST (w1 : World) (b o S : Nat) (w' : World) : Prop := w'.cell? ⟨b, o, none⟩ = some (.int .i64 (S : Nat)) ∧ KT w1 w'
theorem ST.bel {w1 : World} {b o S : Nat} {w' : World} (h : ST w1 b o S w') : Below w1.heap.size w1 w' := h.2
theorem ST.after {w1 : World} {b o S : Nat} {w w' : World} (h : ST w1 b o S w) (hb : b < w1.heap.size) (hk : Below w.heap.size w w') : ST w1 b o S w' :=
  ⟨(hk.cell (p := ⟨b, o, none⟩) (Nat.lt_of_lt_of_le hb (show Below w1.heap.size w1 w from h.2).size)).trans h.1, b_then h.2 hk⟩

open Go.Shelf
attribute [local go_sem] Oper.semAt_some
theorem wp_noexit {P : Program} {c : Code} {K : Act → World → Prop} {Q' : Exit → Act → World → Prop} {a : Act} {w : World} (h : c.wp P (Exit.then K (fun _ _ _ => False)) a w) : c.wp P (Exit.then K Q') a w :=
  wp_mono h fun e a w hp => by cases e <;> first | exact hp | exact hp.elim
/-- a range over a function with break: both ways go on with one continuation -/
theorem range_brkO {F : Fence} {n : Nat} {P : Program} {α : Type} {g : Operand} {ps : Array Tmp} {assign body : Code} {id : Nat} {K : Act → World → Prop} {Q' : Exit → Act → World → Prop} {a : Act} {w : World}
    (hro : F.round = none) (h1 : 1 ≤ n) {gf : Nat} {lb : Array Value} (hg : a.eval g = .func (.func gf) #[] lb) (hFg : F.fn gf) (eg : ∀ args w, (callFunc gf args).run P w = .ok (.enter gf args) w)
    {encs : α → Array Value} {G : World → Prop} {S Sp : List α → Prop} (hps : ∀ x, (encs x).size = ps.size)
    (hseq : ∀ W1, Below w.heap.size w W1 → W1.heap.size = w.heap.size + 2 → IterO F (n - 1) P gf lb encs G S Sp W1)
    (I : List α → World → Prop) (Ix : Code → List α → World → Prop) (FA : World → Prop) (hI : OwnFrom w.heap.size I) (hIx : ∀ c, OwnFrom w.heap.size (Ix c)) (hIG : ∀ s A, I s A → G A) (h0 : I [] w)
    (hround : ∀ (l : Nat) (pre : List α) (x : α) (W : World), w.heap.size < l → l < W.heap.size → Sp (pre ++ [x]) → I pre W →
      assign.wpIn (F.inRound l) (n - 1 - 1) P (Exit.then (fun a' W' => KeepsFrom w.heap.size W W' ∧ I pre W' ∧ ∀ o, I pre (W'.putObj l o) → body.wpIn (F.inRound l) (n - 1 - 1) P (outO w.heap.size I Ix (pre ++ [x]) (W'.putObj l o)) a' (W'.putObj l o)) (fun _ _ _ => False))
        { tmps := (ps.zip (encs x)).foldl (fun t (p, v) => t.setIfInBounds p v) a.tmps, defers := [] } W)
    (hdone : ∀ (xs : List α) (W : World), S xs → I xs W → FA W)
    (hstop : ∀ (c : Code) (pre : List α) (W : World), Sp pre → Ix c pre W → c = .exit id ∧ FA W)
    (hK : ∀ (D : Nat) (W : World), w.heap.size ≤ D → FA W → W.heap[D]? = some (.deferred (some [])) → K { a with defers := { target := .collected D, args := #[] } :: a.defers } W) :
    (Code.rangeFunc g ps assign body).wpIn F n P (Exit.inBlock id (Exit.then K Q')) a w := by
  refine range_own hro h1 hg hFg eg hps hseq I Ix hI hIx hIG h0 hround ?_ ?_
  · intro D xs W hD hS hi hd
    exact hK D W hD (hdone xs W hS hi) hd
  · intro D c pre W hD hSp hi hd
    obtain ⟨rfl, hf⟩ := hstop c pre W hSp hi
    refine wpIn_exit ?_
    have h := hK D W hD hf hd
    simp only [Exit.inBlock, if_true]
    exact h
theorem BA.reads {w : World} {A : Option Addr} {len cap : Nat} {M : List Int} (h : BA w A len cap M) : Reads w w.heap.size 1 A len (M.map (Value.int .u8)) := by
  obtain ⟨hl, h2, _⟩ := h
  subst hl
  rcases Nat.eq_zero_or_pos M.length with h0 | hp
  · rw [h0, List.eq_nil_of_length_eq_zero h0]
    exact Reads.none_
  · rcases (h2 hp).1 with ⟨_, rfl⟩ | ⟨b, off, rfl, hc⟩
    · simp at hp
    · exact Reads.of_rb (.inr ⟨b, off, rfl, hc⟩) ((h2 hp).2 b off rfl)
/-- between two rounds: the counter, the limit and the bytes -/
def lpI (w : World) (sb ab nb st : Nat) (A : Option Addr) (len cap : Nat) (M : List Int) (pre : List (Nat × Rc)) (W : World) : Prop :=
  pre.length ≤ st ∧ Blk W sb 5 #[.int .u8 (st : Nat)] ∧ Blk W nb 3 #[.int .i64 (pre.length : Nat)] ∧ Blk W ab 25 #[.slice A len cap] ∧ (0 < len → RB W A M ∧ At A w.heap.size) ∧ Below w.heap.size w W
/-- behind a break -/
def lpX (w : World) (sb nb st id : Nat) (c : Code) (pre : List (Nat × Rc)) (W : World) : Prop :=
  c = .exit id ∧ pre.length = st + 1 ∧ Blk W sb 5 #[.int .u8 (st : Nat)] ∧ Blk W nb 3 #[.int .i64 (st : Nat)] ∧ Below w.heap.size w W
/-- behind the loop -/
def lpF (w : World) (sb nb st n : Nat) (W : World) : Prop :=
  Blk W sb 5 #[.int .u8 (st : Nat)] ∧ Blk W nb 3 #[.int .i64 (min st n : Nat)] ∧ Below w.heap.size w W
theorem lpI_own (w : World) (sb ab nb st : Nat) (A : Option Addr) (len cap : Nat) (M : List Int) (b : Nat) (hb : w.heap.size ≤ b) : OwnFrom b (lpI w sb ab nb st A len cap M) := by
  rintro s W W' row ⟨h0, h1, h2, h3, h6, h7⟩ hg hr
  have hr' := fun r e => (hr r e).2
  refine ⟨h0, h1.turn hg hr', h2.turn hg hr', h3.turn hg hr', fun hp => ⟨?_, (h6 hp).2⟩, below_turn h7 hg (fun r e => Nat.le_trans hb (hr r e).1) h7.size⟩
  exact (h6 hp).1.keep (below_turn (Below.refl w.heap.size W) hg (fun r e => Nat.le_trans hb (hr r e).1) h7.size) (h6 hp).2
theorem lpX_own (w : World) (sb nb st id : Nat) (c : Code) (b : Nat) (hb : w.heap.size ≤ b) : OwnFrom b (lpX w sb nb st id c) := by
  rintro s W W' row ⟨h0, h00, h1, h2, h7⟩ hg hr
  have hr' := fun r e => (hr r e).2
  exact ⟨h0, h00, h1.turn hg hr', h2.turn hg hr', below_turn h7 hg (fun r e => Nat.le_trans hb (hr r e).1) h7.size⟩
abbrev S2 (a : World) (p1 : Nat) (v1 : Value) (p2 : Nat) (v2 : Value) (w' : World) : Prop := w'.cell? ⟨p1, 0, none⟩ = some v1 ∧ w'.cell? ⟨p2, 0, none⟩ = some v2 ∧ KT a w'
section
variable {a w w' : World} {p1 p2 : Nat} {v1 v2 : Value}
theorem S2.bel (h : S2 a p1 v1 p2 v2 w') : Below a.heap.size a w' := h.2.2
theorem S2.after (h : S2 a p1 v1 p2 v2 w) (l1 : p1 < a.heap.size) (l2 : p2 < a.heap.size) (hb : Below w.heap.size w w') : S2 a p1 v1 p2 v2 w' := by
  have hs := h.bel.size
  exact ⟨(hb.cell (p := ⟨p1, 0, none⟩) (Nat.lt_of_lt_of_le l1 hs)).trans h.1, (hb.cell (p := ⟨p2, 0, none⟩) (Nat.lt_of_lt_of_le l2 hs)).trans h.2.1, b_then h.bel hb⟩
end
theorem bb_zeros (n : Nat) : BB (List.replicate n 0) := by
  intro x hx
  rw [List.eq_of_mem_replicate hx]
  omega
theorem ba_zeros (w : World) (n : Nat) (hn : n ≤ 100000) : BA (w.alloc (.cells (zeros n) 5)) (some ⟨w.heap.size, 0, none⟩) n n (List.replicate n 0) := by
  refine ⟨by simp, fun _ => ⟨RB.zeros w n, fun b off e => ?_⟩, bb_zeros n, Nat.le_refl _, by unfold maxLen; omega⟩
  injection e with e
  injection e with e1 e2
  subst e1
  simp

set_option maxHeartbeats 6400000 in
set_option maxRecDepth 100000 in
theorem walk {H : Type} {enc : TypeId × Value → H} (W : World) (base : Nat) {v0 v1 v2 : Value} {d0 d1 d2 : DataW H} {p0 p1 p2 : List MemPlace} (o0 : Value.okWide Try.prog W .any base 22 v0) (h0 : DataW.Trod enc Try.prog W 0 (fun _ => true) true 22 v0 d0 p0) (o1 : Value.okWide Try.prog W .any base 5 v1) (h1 : DataW.Trod enc Try.prog W 0 (fun _ => true) true 5 v1 d1 p1) (o2 : Value.okWide Try.prog W .any base 23 v2) (h2 : DataW.Trod enc Try.prog W 0 (fun _ => true) true 23 v2 d2 p2) :
    Calls Try.prog 3 #[v0, v1, v2] W fun e W' => e = .returned (.bool true) ∧ Below W.heap.size W W' := by
  obtain ⟨a1, c1, its, rfl, hlc, hcm, hIt⟩ := open_items o0 h0
  clear o0 h0
  obtain ⟨n1, hn1⟩ : ∃ n1, its.length = n1 := ⟨_, rfl⟩
  rw [hn1] at hlc ⊢
  unfold maxLen at hcm
  obtain ⟨sz, rfl, rfl, rfl, ws⟩ := open_int Try.underlying5 o1 h1
  have bs := bounds_u8 ws
  obtain ⟨st, rfl⟩ : ∃ st : Nat, sz = (st : Int) := ⟨sz.toNat, by omega⟩
  obtain ⟨fr, rfl, rfl, rfl, wf⟩ := open_int Try.underlying23 o2 h2
  obtain ⟨fr0, fr1⟩ := bounds_u16 wf
  clear ws h1 o1 wf h2 o2
  by_cases g1 : 30 < n1
  · have g1' : (30 : Int) < (n1 : Int) := by omega
    clear hIt hn1
    go_enter Try.func3, Try.ntmps3
    go_wp2_with fail
    refine (works_true _).mono ?_
    rintro e w9 ⟨rfl, hb9⟩
    go_wp2_with fail
    go_ret
    exact ⟨rfl, b_then (b_alloc (Below.refl _ _) _) hb9⟩
  · have g1' : (n1 : Int) ≤ 30 := by omega
    have m2 : ∀ w : World, (Instr.makeSlice 25 (.int .i64 8193) (.int .i64 8193)).run Try.prog w = .ok (.slice (some ⟨w.heap.size, 0, none⟩) 8193 8193) (w.alloc (.cells (zeros 8193) 5)) := fun w => make_any 8193 (by omega) w
    have hx0 := Blk.new W 5 #[.int .u8 (st : Int)]
    have hbW := b_alloc (Below.refl W.heap.size W) (.cells #[.int .u8 (st : Int)] 5)
    obtain ⟨W1, hW1⟩ : ∃ W1, W1 = W.alloc (.cells #[.int .u8 (st : Int)] 5) := ⟨_, rfl⟩
    rw [← hW1] at hx0 hbW
    have hok := rsI_ok hIt.1
    have hsz := sizeL_its hIt.1
    have hrl : (rsI its).length = n1 := by rw [rsI, List.length_map, hn1]
    rw [hn1] at hsz
    have c_by := bytes_at a1 n1 c1 its W1 (hIt.later hbW) hn1 (by omega)
    obtain ⟨T, hT⟩ : ∃ T, T = sizeL (rsI its) := ⟨_, rfl⟩
    rw [← hT] at c_by hsz
    have hTl : (encL (rsI its)).length = T := by rw [hT]; rfl
    have HT := Lib.hid hT
    clear hT
    have hScn : Scanned (encL (rsI its)) (pairsF 0 (rsI its)) T := by
      have h := scanned_encs hok (Z := []) (by decide)
      rw [List.append_nil] at h
      rw [HT.out]
      exact h
    have hpl : (pairsF 0 (rsI its)).length = n1 := by rw [pairsF_length, hrl]
    refine (callsIn_wide (n := 9)).1 ?_
    refine callsIn_of_wp_marks Try.func3 rfl trivial ?_ rfl
    simp only [Try.ntmps3, List.size_toArray, List.length_cons, List.length_nil, Nat.reduceAdd, Nat.reduceSub, Array.replicate_succ, Array.replicate_zero, List.push_toArray, List.append_toArray, List.nil_append, List.cons_append]
    gi_wp2
    rw [← hW1]
    clear hW1
    refine ⟨trivial, (callsIn_wide.2 (c_by)).mono ?_⟩
    rintro e w1 ⟨⟨v1, A2, b2, o2, d2, rfl, hA2, hI, hRI, hd2, hd2m, hlt2⟩, hb1⟩
    subst hA2
    obtain ⟨A1, d1, rfl, hBA⟩ := BA.of_own (v := v1) (M := encL (rsI its)) (by unfold IsB; rw [hTl]; exact hI) (encL_bb _)
    rw [hTl] at hBA ⊢
    have hd1m := hBA.2.2.2.2
    unfold maxLen at hd1m hd2m
    have x1 := hx0.below hb1 hx0.lt
    have hB1 : Below W.heap.size W w1 := b_then hbW hb1
    clear c_by hI hx0 hbW hb1
    gi_wp2
    refine ⟨trivial, (callsIn_wide.2 (all_any _ _ _ _)).mono ?_⟩
    rintro e w' ⟨rfl, rfl⟩
    have q1 := Blk.new w1 25 #[.slice A1 T d1]
    have q2 := b_alloc (Below.refl w1.heap.size w1) (.cells #[.slice A1 T d1] 25)
    have x2 := x1.below q2 x1.lt
    obtain ⟨ab, hab⟩ : ∃ ab, ab = w1.heap.size := ⟨_, rfl⟩
    rw [← hab] at q1
    generalize w1.alloc (.cells #[.slice A1 T d1] 25) = w2 at q1 q2 x2 ⊢
    gi_wp2
    have q3 := Blk.new w2 3 #[.int .i64 0]
    have q4 := b_alloc (Below.refl w2.heap.size w2) (.cells #[.int .i64 0] 3)
    have x3 := x2.below q4 x2.lt
    have q5 := q1.below q4 q1.lt
    obtain ⟨nb, hnb⟩ : ∃ nb, nb = w2.heap.size := ⟨_, rfl⟩
    have hln : w2.heap.size < (w2.alloc (.cells #[.int .i64 0] 3)).heap.size := by simp
    have hnab : ab < nb := by rw [hnb]; exact q1.lt
    have hsnb : W.heap.size < nb := by rw [hnb]; exact x2.lt
    rw [← hnb] at q3 hln ⊢
    generalize w2.alloc (.cells #[.int .i64 0] 3) = w3 at q3 q4 q5 x3 hln ⊢
    have hb3 : Below w1.heap.size w1 w3 := b_then q2 q4
    have hBA3 := hBA.later hb3
    have hnb1 : w1.heap.size ≤ nb := by omega
    clear hnb q1 q2 x1 x2 q4
    refine ⟨trivial, (callsIn_wide.2 (yields_any _ _)).mono ?_⟩
    rintro e w' ⟨rfl, rfl⟩
    gi_wp2
    rw [← hab]
    have HAB := Lib.hid hab
    clear hab
    have hI0 : lpI w1 W.heap.size ab nb st A1 T d1 (encL (rsI its)) [] w3 := ⟨Nat.zero_le _, x3, q3, q5, fun hp => ⟨(hBA3.2.1 hp).1, (hBA.2.1 hp).2⟩, hb3⟩
    refine range_brkO rfl (by omega) (gf := 32) (lb := #[.pointer (some ⟨ab, 0, none⟩)]) rfl trivial (enters_of Try.func32 (by kernel_rfl) rfl)
      (encs := sEnc) (G := sG A1 T d1 (encL (rsI its)) ab) (S := fun xs => ∃ e, Scanned (encL (rsI its)) xs e) (Sp := fun xs => ∃ e, Chain (encL (rsI its)) xs e) (fun _ => rfl)
      (fun W1 hW1 hs1 => scan_iter _ (by omega) A1 d1 T _ _ W1 hTl hBA3.2.2.1 hBA3.2.2.2.1 hBA3.2.2.2.2)
      (lpI w1 W.heap.size ab nb st A1 T d1 (encL (rsI its))) (lpX w1 W.heap.size nb st 0) (lpF w1 W.heap.size nb st n1) (lpI_own w1 _ _ _ _ _ _ _ _ _ hb3.size) (fun c => lpX_own w1 _ _ _ _ c _ hb3.size)
      (fun s W h => by
        obtain ⟨h0, h1, h2, h3, h6, h7⟩ := h
        exact ⟨fun hp => ⟨(h6 hp).1, (h6 hp).2.more h7.size⟩, h3.cell 0⟩)
      hI0 ?round ?done ?stop ?rest
    case done =>
      rintro xs Wd ⟨e', hS'⟩ ⟨h0, h1, h2, h3, h6, h7⟩
      obtain ⟨rfl, rfl⟩ := scanned_unique hS' hScn
      rw [hpl] at h0 h2
      refine ⟨h1, ?_, h7⟩
      rw [Nat.min_eq_right h0]
      exact h2
    case stop =>
      rintro c pre Wd ⟨e', hch⟩ ⟨h0, h00, h1, h2, h7⟩
      obtain ⟨p1, _, _⟩ := chain_prefix hch hScn
      rw [hpl, h00] at p1
      refine ⟨h0, h1, ?_, h7⟩
      rw [Nat.min_eq_left (by omega)]
      exact h2
    case round =>
      have HBA := Lib.hid hBA
      clear hI0 hBA3 hBA hRI hScn hpl hB1 x3 q3 q5 hok hIt m2 hb3
      rintro l pre ⟨off, kind, sq, key, val⟩ Wr hl1 hl2 ⟨en2, hch⟩ hI
      clear hch
      simp only [sEnc, List.zip_toArray, List.zip_cons_cons, List.zip_nil_right, List.foldl_toArray, List.foldl_cons, List.foldl_nil, List.setIfInBounds_toArray, List.set_cons_zero, List.set_cons_succ]
      gi_wp2
      refine ⟨KeepsFrom.new (Below.refl _ Wr), hI, fun o hIo => ?_⟩
      clear hI
      generalize Wr.putObj l o = Wq at hIo ⊢
      have hpr : (pre ++ [(off, (⟨kind, sq, key, val⟩ : Rc))]).length = pre.length + 1 := by simp
      obtain ⟨pr, hprr⟩ : ∃ pr, pr = pre ++ [(off, (⟨kind, sq, key, val⟩ : Rc))] := ⟨_, rfl⟩
      rw [← hprr] at hpr ⊢
      clear hprr
      obtain ⟨L, hL⟩ : ∃ L, L = pre.length := ⟨_, rfl⟩
      obtain ⟨h0, h1, h2, h3, h6, h7⟩ := hIo
      rw [← hL] at h0 h2 hpr
      clear hL
      have e1 := h1.cell
      have e2 := h2.cell
      have f2 := h2.frozen
      have y0 : IntKind.i64.wrap (st : Int) = (st : Int) := by rw [IntKind.wrap_i64]; omega
      have y3 : IntKind.i64.wrap ((L : Int) + 1) = (L : Int) + 1 := by rw [IntKind.wrap_i64]; omega
      have HPR := Lib.hid hpr
      have H6 := Lib.hid h6
      clear hpr h6
      by_cases hst : L = st
      · have z2 : ((L : Int) == (st : Int)) = true := by rw [beq_iff_eq]; omega
        gi_wp2
        exact ⟨KeepsFrom.new (Below.refl _ Wq), rfl, by rw [HPR.out, hst], h1, by rw [← hst]; exact h2, h7⟩
      · have z2 : ((L : Int) == (st : Int)) = false := by rw [beq_eq_false_iff_ne]; omega
        gi_wp2
        have hB9 := h7.setCell (p := ⟨nb, 0, none⟩) hnb1 (.int .i64 ((L : Int) + 1))
        refine ⟨KeepsFrom.set_ Wq _ _, by rw [HPR.out]; omega, h1.far (p := ⟨nb, 0, none⟩) (by show W.heap.size ≠ nb; omega) _, ?_, h3.far (p := ⟨nb, 0, none⟩) (by show ab ≠ nb; omega) _, fun hp => ⟨(HBA.out.2.1 hp).1.keep hB9 (HBA.out.2.1 hp).2, (HBA.out.2.1 hp).2⟩, hB9⟩
        rw [HPR.out]
        exact h2.set_ 0 (.int .i64 ((L : Int) + 1))
    case rest =>
      clear hI0
      rintro D Wd hD ⟨h1, h2, h7⟩ hdf
      have hBAd := hBA.later h7
      have hRId := hRI.later h7
      have hBd := b_then hB1 h7
      have hItd := hIt.later hBd
      have hltd := Nat.lt_of_lt_of_le hlt2 h7.size
      have hDW : W.heap.size ≤ D := Nat.le_trans hB1.size (Nat.le_trans hb3.size hD)
      clear hBA3 hBA hRI hIt hB1 h7 x3 q3 q5 hlt2 hb3
      obtain ⟨mn, hmn⟩ : ∃ mn, mn = min st n1 := ⟨_, rfl⟩
      rw [← hmn] at h2
      have hmi : ∀ (ts : Array TypeId) (t : TypeId) (w : World), (Builtin.min_ ts t #[.int .i64 (st : Int), .int .i64 (n1 : Int)]).run Try.prog w = .ok (.int .i64 (mn : Int)) w := by
        intro ts t w
        rw [run_min_int2, show (if (n1 : Int) < (st : Int) then (n1 : Int) else (st : Int)) = (mn : Int) from by split <;> omega]
      have u1 : IntKind.i64.wrap (-1 - fr) = -1 - fr := by rw [IntKind.wrap_i64]; omega
      have u2 : IntKind.i64.wrap (32 + fr) = 32 + fr := by rw [IntKind.wrap_i64]; omega
      have u3 : IntKind.i64.wrap fr = fr := by rw [IntKind.wrap_i64]; omega
      have u4 : IntKind.i64.wrap (st : Int) = (st : Int) := by rw [IntKind.wrap_i64]; omega
      clear hmn
      gi_wp2
      refine ⟨trivial, (callsIn_wide.2 (entries_range A1 T d1 (-1 - fr) _ (.inl (by omega)))).mono ?_⟩
      rintro e w4 ⟨rfl, hb4⟩
      gi_wp2
      refine ⟨trivial, (callsIn_wide.2 (entries_range A1 T d1 (32 + fr) _ (.inr (by omega)))).mono ?_⟩
      rintro e w5 ⟨rfl, hb5⟩
      have be5 := b_then hb4 hb5
      clear hb4 hb5
      have hJB : Blk ((w5.alloc (.cells (zeros 8193) 5)).alloc (.cells #[.slice A1 T d1, .slice (some ⟨w5.heap.size, 0, none⟩) 8193 8193] 25)) (w5.heap.size + 1) 25 #[.slice A1 T d1, .slice (some ⟨w5.heap.size, 0, none⟩) 8193 8193] := by
        have h := Blk.new (w5.alloc (.cells (zeros 8193) 5)) 25 #[.slice A1 T d1, .slice (some ⟨w5.heap.size, 0, none⟩) 8193 8193]
        rw [World.size_alloc] at h
        exact h
      have hbz := b_alloc (Below.refl w5.heap.size w5) (.cells (zeros 8193) 5)
      have hbz2 := b_alloc hbz (.cells #[.slice A1 T d1, .slice (some ⟨w5.heap.size, 0, none⟩) 8193 8193] 25)
      have hp1 := (BA.reads ((hBAd.later be5).later hbz2))
      have hp2 := (BA.reads ((ba_zeros w5 8193 (by omega)).later (b_alloc (Below.refl _ _) (.cells #[.slice A1 T d1, .slice (some ⟨w5.heap.size, 0, none⟩) 8193 8193] 25))))
      have hjl : (jM [⟨A1, T, d1, encL (rsI its)⟩, ⟨some ⟨w5.heap.size, 0, none⟩, 8193, 8193, List.replicate 8193 0⟩]).length = T + 8193 := by
        show (encL (rsI its) ++ (List.replicate 8193 0 ++ [])).length = _
        rw [List.append_nil, List.length_append, hTl, List.length_replicate]
      have cJ := joined_any (w5.heap.size + 1) 2 [⟨A1, T, d1, encL (rsI its)⟩, ⟨some ⟨w5.heap.size, 0, none⟩, 8193, 8193, List.replicate 8193 0⟩] _ hJB rfl (by omega) (by
        intro p hp
        rcases List.mem_cons.1 hp with rfl | hp
        · exact ⟨hTl, hp1⟩
        · rcases List.mem_cons.1 hp with rfl | hp
          · exact ⟨List.length_replicate .., hp2⟩
          · cases hp) (by rw [hjl]; omega)
      clear hp1 hp2 hJB hbz
      gi_wp2
      refine ⟨trivial, (callsIn_wide.2 cJ).mono ?_⟩
      rintro e w6 ⟨⟨v6, rfl, o6⟩, hb6⟩
      obtain ⟨A6, d6, rfl, _⟩ := RB.of_own o6
      rw [hjl]
      have be6 := b_then be5 (b_then hbz2 hb6)
      clear cJ o6 hb6 hbz2 be5
      gi_wp2
      refine ⟨trivial, (callsIn_wide.2 (entries_long A6 (T + 8193) d6 0 _ (by omega) (by omega) (by omega))).mono ?_⟩
      rintro e w7 ⟨rfl, hb7⟩
      have be7 := b_then be6 hb7
      have k1 := h1.below be7 h1.lt
      have k2 := h2.below be7 h2.lt
      have hdf7 := (be7.block D (Array.getElem?_eq_some_iff.1 hdf).1).trans hdf
      have hBA7 := hBAd.later be7
      have hRI7 := hRId.later be7
      have hIt7 := hItd.later be7
      have hB7 := b_then hBd be7
      have l1 := k1.lt
      have l2 := k2.lt
      clear be6 hb7 be7 h1 h2 hdf hBAd hRId hItd hBd hltd m2 hjl
      gi_wp2
      refine wpIn_wide.2 ?_
      go_cut [6] from 62 to 93 (fun s6 wx => s6 = .bool true ∧ Below w7.heap.size w7 wx)
      case first =>
        refine wp_noexit ?_
        have c_rc := fun (w : World) (hb : Below w7.heap.size w7 w) => recs_at a1 n1 c1 its w (hIt7.later hb) hn1 (by omega)
        have c_sc := fun (w : World) (hb : Below w7.heap.size w7 w) (A3 : Option Addr) (d3 : Nat) (h : IsRs w A3 (rsI its)) => scanned_true A1 T d1 _ (some ⟨b2, o2, none⟩) n1 d2 A3 d3 w _ T (hBA7.later hb) (by omega) hScn hpl (by have h2 := (hRI7.later hb).take_ n1; rw [atQ_take _ (Nat.le_refl _) hrl, List.take_of_length_le (by omega)] at h2; exact h2) (by rw [pairsF_snd]; exact h)
        have HRC := Lib.hid c_rc
        have HSC := Lib.hid c_sc
        have hsI := fun w => slice_toI (A := some ⟨b2, o2, none⟩) (len := n1 + 1) (cap := d2) (k := n1) (by omega) w
        have hS0 : S2 w7 nb (.int .i64 (mn : Int)) W.heap.size (.int .u8 (st : Int)) w7.drew := ⟨k2.cell 0, k1.cell 0, Below.drew (Below.refl _ _)⟩
        have hbe : ((mn : Int) == (mn : Int)) = true := beq_self_eq_true _
        clear c_rc c_sc hScn hpl hok hrl HT hTl hsz hdf7 hBA7 hRI7 hIt7 hB7 k1 k2 hcm hlc hn1 hd2 hd2m hd1m u1 u2 u3
        go_region_held3 (fun w' => w'.cell? ⟨nb, 0, none⟩ = some (.int .i64 (mn : Int)) ∧ w'.cell? ⟨W.heap.size, 0, none⟩ = some (.int .u8 (st : Int)) ∧ KT w7 w') (first | (with_reducible assumption) | (with_reducible exact hS0) | go_keep) (first
          | (go_at_call 18; (with_reducible refine (HRC.out _ (S2.bel (by assumption))).mono ?_); rintro e w8 ⟨⟨A3, d3, rfl, hRS⟩, hbk⟩; have hS2 := S2.after (by assumption) l2 l1 hbk)
          | (go_at_call 17; (with_reducible refine (HSC.out _ (S2.bel (by assumption)) _ _ hRS).mono ?_); rintro e w9 ⟨rfl, hbk⟩; have hS3 := S2.after (by assumption) l2 l1 hbk)
          | (go_at_call 11; (with_reducible refine (works_true _).mono ?_); rintro e w10 ⟨rfl, hbk⟩; have hS9 := S2.after (by assumption) l2 l1 hbk))
        rename_i hEnd
        go_wp2
        go_meet
        exact ⟨rfl, S2.bel (by assumption)⟩
      case rest =>
        obtain ⟨rfl, hbx⟩ := hcut
        have hdfx := (hbx.block D (Array.getElem?_eq_some_iff.1 hdf7).1).trans hdf7
        have hBx := b_then hB7 hbx
        clear hBA7 hRI7 hIt7 hB7 k1 k2 hdf7 hbx
        gi_wp2
        refine ⟨by simp, .inl ⟨_, _, rfl, run_takeDeferred hdfx, ?_⟩⟩
        exact ⟨_, by simp [results, Try.results3, go_sem], rfl, hBx.trans (below_putObj _ D (.deferred none) hDW)⟩

set_option maxRecDepth 100000 in
theorem lifted (os : Os) (started : os.Started) (H : Type) (enc : TypeId × Value → H) :
    ReturnsInHanded {} Try.checked os 3 .any (Rows.scannerLoopsSpec.pre6 enc Try.prog Try.f3 Rows.scannerLoopsRow.domain false) (Rows.scannerLoopsSpec.post enc Try.prog Try.f3 false true false false) := by
  refine returnsInHanded_of_change (C := Try.checked) own started (by kernel_rfl) Try.func3
    (ChangeSpec.witness6 (enc := enc) (C := Try.checked) false ⟨#[], #[.slice none 0 0, .int .u8 0, .int .u16 0], []⟩ 8 (by kernel_rfl) (by kernel_rfl) (by kernel_rfl) (by kernel_rfl)) ?_
  intro W base args ds gs before hval0 hW hcnd _
  have hval : ∀ (j : Nat) t v, Try.f3.params[j]? = some t → args[j]? = some v → Value.okWide Try.prog W .any base t v := hval0
  have hW' := hW
  obtain ⟨p, q, hA0, hV, rfl, hfz, hnd⟩ := hW
  have hA : DataW.TrodAll enc Try.prog W 0 (fun _ => true) true Try.f3.params.toList args.toList ds p := hA0
  rw [Try.params3] at hA hval
  obtain ⟨v0, vs0, d0, ds0, p0, q0, hargs, rfl, rfl, h0, r0⟩ := trodAll_cons hA
  obtain ⟨v1, vs1, d1, ds1, p1, q1, rfl, rfl, rfl, h1, r1⟩ := trodAll_cons r0
  obtain ⟨v2, vs2, d2, ds2, p2, q2, rfl, rfl, rfl, h2, r2⟩ := trodAll_cons r1
  obtain ⟨rfl, rfl, rfl⟩ := trodAll_nil r2
  obtain rfl : args = #[v0, v1, v2] := by cases args; simp_all
  obtain ⟨rfl, rfl⟩ := trodVars_none hV
  refine (walk (H := H) (enc := enc) W base (hval 0 22 v0 rfl rfl) h0 (hval 1 5 v1 rfl rfl) h1 (hval 2 23 v2 rfl rfl) h2).mono fun e W' ⟨he, bel⟩ => ?_
  subst he
  exact ⟨_, rfl, _, _, _, [], _, [], hW', trodAll_mk1 (shut_bool Try.underlying4 _), (trodAll_cons_mk (Below.trod laidOut (by kernel_rfl) (of_decide_eq_true (by kernel_rfl)) h0 bel (lt_of_Trod h0)) (trodAll_cons_mk (Below.trod laidOut (by kernel_rfl) (of_decide_eq_true (by kernel_rfl)) h1 bel (lt_of_Trod h1)) (trodAll_cons_mk (Below.trod laidOut (by kernel_rfl) (of_decide_eq_true (by kernel_rfl)) h2 bel (lt_of_Trod h2)) trodAll_mk0))), rfl, bel.frame _, fun h => by cases h⟩

/-- ScannerLoops: for every slice of items and every two numbers the law returns true and changes nothing. No condition. -/
theorem proved : Rows.ScannerLoopsSaid :=
  OpenClaim.holds_of_wide 3 Try.f3 rfl rfl rfl rfl rfl rfl rfl ⟨rfl, rfl, rfl, rfl, rfl⟩ rfl rfl rfl rfl rfl (by kernel_rfl) Try.func3 (by kernel_rfl)
    (of_decide_eq_true (by kernel_rfl)) (by unfold Func.isWrapper; first | (rw [if_pos (by decide +kernel)]; kernel_rfl) | (rw [if_neg (by decide +kernel)]; exact ⟨rfl, rfl⟩))
    (fun os started H enc _ => lifted os started H enc)
#print axioms proved
end Go.Proofs.Ytjcdflohkajbcaa.scannerLoops
