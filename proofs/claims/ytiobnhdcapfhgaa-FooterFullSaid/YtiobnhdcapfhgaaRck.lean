/-
  Which records are valid, their sizes: the program.
-/
import Derived.Test.YtiobnhdcapfhgaaRecp
import Derived.Test.YtiobnhdcapfhgaaKey
namespace Go.Proofs.Ytiobnhdcapfhgaa
open Go.RowKit
set_option linter.unusedVariables false

theorem vchk_yes (s : ByteArray) (h : s.size ≤ 512) (w : World) :
    Calls Try.prog 56 #[.string s, .int .i64 512] w fun e w' => e = .returned (.int .i64 0) ∧ w = w' := by
  go_enter Try.func56, Try.ntmps56
  go_wp2
  go_ret
  exact ⟨rfl, rfl⟩
theorem vchk_no (s : ByteArray) (h : 512 < s.size) (hm : s.size ≤ maxLen) (w : World) :
    Calls Try.prog 56 #[.string s, .int .i64 512] w fun e w' => e = .returned (.int .i64 12) ∧ w = w' := by
  unfold maxLen at hm
  go_enter Try.func56, Try.ntmps56
  go_wp2
  go_ret
  exact ⟨rfl, rfl⟩
def KeyOk (s : ByteArray) : Prop := keyB s = true ∧ 1 ≤ s.size ∧ s.size ≤ 32
instance (s : ByteArray) : Decidable (KeyOk s) := by unfold KeyOk; infer_instance
theorem kc_yes (s : ByteArray) (h : KeyOk s) (w : World) : Calls Try.prog 55 #[.string s] w fun e w' => e = .returned (.int .i64 0) ∧ Below w.heap.size w w' := by
  obtain ⟨h1, h2, h3⟩ := h
  have hm : s.size ≤ maxLen := by unfold maxLen; omega
  refine (keyc_all s ((keyB_iff s).1 h1) hm w).mono fun e w' h => ?_
  have he : keyErr s.size = 0 := by unfold keyErr; rw [if_neg (by omega), if_neg (by omega)]
  rwa [he] at h
theorem kc_no (s : ByteArray) (h : ¬ KeyOk s) (hm : s.size ≤ maxLen) (w : World) : Calls Try.prog 55 #[.string s] w fun e w' => (∃ q : Int, e = .returned (.int .i64 q) ∧ (q != 0) = true) ∧ Below w.heap.size w w' := by
  by_cases hb : keyB s = true
  · refine (keyc_all s ((keyB_iff s).1 hb) hm w).mono fun e w' h' => ⟨⟨_, h'.1, ?_⟩, h'.2⟩
    have hq : ¬ (1 ≤ s.size ∧ s.size ≤ 32) := fun hq => h ⟨hb, hq⟩
    unfold keyErr
    by_cases h0 : s.size = 0
    · rw [if_pos h0]; rfl
    · rw [if_neg h0, if_pos (by omega)]; rfl
  · refine (keyc_bad s (fun hk => hb ((keyB_iff s).2 hk)) hm w).mono fun e w' h' => ⟨⟨_, h'.1, rfl⟩, h'.2⟩

section
variable (kind seq : Int) (key val : ByteArray) (w : World)
theorem rk_kind (h1 : (kind != 1) = true) (h2 : (kind != 2) = true) :
    Calls Try.prog 40 #[.agg #[.int .i64 kind, .int .i64 seq, .string key, .string val]] w fun e w' => e = .returned (.int .i64 2) ∧ Below w.heap.size w w' := by
  go_enter Try.func40, Try.ntmps40
  go_wp2_with fail
  go_ret
  exact ⟨rfl, b_alloc (Below.refl _ _) _⟩
theorem rk_seq (h1 : kind = 1 ∨ kind = 2) (h2 : seq < 1 ∨ 1099511627776 < seq) :
    Calls Try.prog 40 #[.agg #[.int .i64 kind, .int .i64 seq, .string key, .string val]] w fun e w' => e = .returned (.int .i64 2) ∧ Below w.heap.size w w' := by
  rcases h1 with rfl | rfl <;> rcases h2 with h2 | h2
  all_goals
    go_enter Try.func40, Try.ntmps40
    go_wp2_with fail
    go_ret
    exact ⟨rfl, b_alloc (Below.refl _ _) _⟩
theorem rk_key (h1 : kind = 1 ∨ kind = 2) (h2 : 1 ≤ seq) (h3 : seq ≤ 1099511627776) (h4 : ¬ KeyOk key) (hm : key.size ≤ maxLen) :
    Calls Try.prog 40 #[.agg #[.int .i64 kind, .int .i64 seq, .string key, .string val]] w fun e w' => e = .returned (.int .i64 2) ∧ Below w.heap.size w w' := by
  rcases h1 with rfl | rfl
  all_goals
    go_enter Try.func40, Try.ntmps40
    go_wp2_with fail
    refine (kc_no key h4 hm _).mono ?_
    rintro e w1 ⟨⟨q, rfl, hq⟩, hb1⟩
    go_wp2_with fail
    go_ret
    exact ⟨rfl, b_then (b_alloc (Below.refl _ _) _) hb1⟩
theorem rk_val (h1 : kind = 1 ∨ kind = 2) (h2 : 1 ≤ seq) (h3 : seq ≤ 1099511627776) (h4 : KeyOk key) (h5 : 512 < val.size) (hm : val.size ≤ maxLen) :
    Calls Try.prog 40 #[.agg #[.int .i64 kind, .int .i64 seq, .string key, .string val]] w fun e w' => e = .returned (.int .i64 2) ∧ Below w.heap.size w w' := by
  rcases h1 with rfl | rfl
  · go_enter Try.func40, Try.ntmps40
    go_wp2_with fail
    refine (kc_yes key h4 _).mono ?_
    rintro e w1 ⟨rfl, hb1⟩
    have B1 := ((Blk.new w 46 #[.int .i64 1, .int .i64 seq, .string key, .string val]).below hb1 (by simp)).cell
    go_wp2_with fail
    refine (vchk_no val h5 hm _).mono ?_
    rintro e w2 ⟨rfl, rfl⟩
    go_wp2_with fail
    go_ret
    exact ⟨rfl, b_then (b_alloc (Below.refl _ _) _) hb1⟩
  · go_enter Try.func40, Try.ntmps40
    go_wp2_with fail
    refine (kc_yes key h4 _).mono ?_
    rintro e w1 ⟨rfl, hb1⟩
    have B1 := ((Blk.new w 46 #[.int .i64 2, .int .i64 seq, .string key, .string val]).below hb1 (by simp)).cell
    go_wp2_with fail
    refine (vchk_no val h5 hm _).mono ?_
    rintro e w2 ⟨rfl, rfl⟩
    go_wp2_with fail
    go_ret
    exact ⟨rfl, b_then (b_alloc (Below.refl _ _) _) hb1⟩
theorem str_ne {s : ByteArray} (h : s.size ≠ 0) : s ≠ ⟨#[]⟩ := by rintro rfl; exact h rfl
theorem rk_del (h2 : 1 ≤ seq) (h3 : seq ≤ 1099511627776) (h4 : KeyOk key) (h5 : val.size ≤ 512) (h6 : val.size ≠ 0) :
    Calls Try.prog 40 #[.agg #[.int .i64 2, .int .i64 seq, .string key, .string val]] w fun e w' => e = .returned (.int .i64 2) ∧ Below w.heap.size w w' := by
  have h8 : val.toList.isEmpty = false := isEmpty_of h6
  clear h6
  go_enter Try.func40, Try.ntmps40
  go_wp2_with fail
  refine (kc_yes key h4 _).mono ?_
  rintro e w1 ⟨rfl, hb1⟩
  have B1 := ((Blk.new w 46 #[.int .i64 2, .int .i64 seq, .string key, .string val]).below hb1 (by simp)).cell
  go_wp2_with fail
  refine (vchk_yes val h5 _).mono ?_
  rintro e w2 ⟨rfl, rfl⟩
  go_wp2_with fail
  go_ret
  exact ⟨rfl, b_then (b_alloc (Below.refl _ _) _) hb1⟩
theorem rk_ok1 (h2 : 1 ≤ seq) (h3 : seq ≤ 1099511627776) (h4 : KeyOk key) (h5 : val.size ≤ 512) :
    Calls Try.prog 40 #[.agg #[.int .i64 1, .int .i64 seq, .string key, .string val]] w fun e w' => e = .returned (.int .i64 0) ∧ Below w.heap.size w w' := by
  go_enter Try.func40, Try.ntmps40
  go_wp2_with fail
  refine (kc_yes key h4 _).mono ?_
  rintro e w1 ⟨rfl, hb1⟩
  have B1 := ((Blk.new w 46 #[.int .i64 1, .int .i64 seq, .string key, .string val]).below hb1 (by simp)).cell
  go_wp2_with fail
  refine (vchk_yes val h5 _).mono ?_
  rintro e w2 ⟨rfl, rfl⟩
  go_wp2_with fail
  go_ret
  exact ⟨rfl, b_then (b_alloc (Below.refl _ _) _) hb1⟩
theorem rk_ok2 (h2 : 1 ≤ seq) (h3 : seq ≤ 1099511627776) (h4 : KeyOk key) :
    Calls Try.prog 40 #[.agg #[.int .i64 2, .int .i64 seq, .string key, .string ⟨#[]⟩]] w fun e w' => e = .returned (.int .i64 0) ∧ Below w.heap.size w w' := by
  go_enter Try.func40, Try.ntmps40
  go_wp2_with fail
  refine (kc_yes key h4 _).mono ?_
  rintro e w1 ⟨rfl, hb1⟩
  have B1 := ((Blk.new w 46 #[.int .i64 2, .int .i64 seq, .string key, .string ⟨#[]⟩]).below hb1 (by simp)).cell
  go_wp2_with fail
  refine (vchk_yes ⟨#[]⟩ (by decide) _).mono ?_
  rintro e w2 ⟨rfl, rfl⟩
  go_wp2_with fail
  go_ret
  exact ⟨rfl, b_then (b_alloc (Below.refl _ _) _) hb1⟩
end
theorem rchk_yes (r : Rc) (h : r.Ok) (w : World) :
    Calls Try.prog 40 #[r.v] w fun e w' => e = .returned (.int .i64 0) ∧ Below w.heap.size w w' := by
  obtain ⟨kind, seq, key, val⟩ := r
  obtain ⟨h1, h2, h3, h4, h5, h6, h7⟩ := h
  simp only [] at h1 h2 h3 h4 h5 h6 h7
  rcases h1 with rfl | ⟨rfl, hv⟩
  · exact rk_ok1 seq key val w h2 h3 ⟨h4, h5, h6⟩ h7
  · obtain rfl := empty_of hv
    exact rk_ok2 seq key w h2 h3 ⟨h4, h5, h6⟩
theorem rchk_no (r : Rc) (h : ¬ r.Ok) (hk : r.key.size ≤ maxLen) (hv : r.val.size ≤ maxLen) (w : World) :
    Calls Try.prog 40 #[r.v] w fun e w' => e = .returned (.int .i64 2) ∧ Below w.heap.size w w' := by
  obtain ⟨kind, seq, key, val⟩ := r
  unfold Rc.Ok at h
  simp only [] at h hk hv
  show Calls Try.prog 40 #[.agg #[.int .i64 kind, .int .i64 seq, .string key, .string val]] w _
  by_cases h1 : kind = 1 ∨ kind = 2
  · by_cases h2 : seq < 1 ∨ 1099511627776 < seq
    · exact rk_seq kind seq key val w h1 h2
    · by_cases h4 : KeyOk key
      · by_cases h5 : 512 < val.size
        · exact rk_val kind seq key val w h1 (by omega) (by omega) h4 h5 hv
        · obtain ⟨a1, a2, a3⟩ := h4
          have hk2 : kind = 2 ∧ val.size ≠ 0 := by
            rcases h1 with h1 | h1
            · exact (h ⟨.inl h1, by omega, by omega, a1, a2, a3, by omega⟩).elim
            · exact ⟨h1, fun h0 => h ⟨.inr ⟨h1, h0⟩, by omega, by omega, a1, a2, a3, by omega⟩⟩
          obtain ⟨rfl, hv0⟩ := hk2
          exact rk_del seq key val w (by omega) (by omega) ⟨a1, a2, a3⟩ (by omega) hv0
      · exact rk_key kind seq key val w h1 (by omega) (by omega) h4 hk
  · exact rk_kind kind seq key val w (by rw [bne_iff_ne]; omega) (by rw [bne_iff_ne]; omega)
end Go.Proofs.Ytiobnhdcapfhgaa
