/- Names: l01Name and IsName answer the same, and what. -/
import Derived.Test.YtdbgjjckafeenaaBase
namespace Go.Proofs.Ytdbgjjckafeenaa.Names
open Go.RowKit Go.Proofs.YtdbgjjckafeenaaW.PrintWords Go.Proofs.YtdbgjjckafeenaaW.PrintLast Go.Proofs.YtdbgjjckafeenaaW.PrintMore Go.Proofs.Ytdbgjjckafeenaa.Base
set_option linter.unusedVariables false
set_option linter.unusedSimpArgs false

def smallC (c : Int) : Bool := inB c 97 122
def digitC (c : Int) : Bool := inB c 48 57
def nameC (c : Int) : Bool := smallC c || digitC c
def nameB (s : ByteArray) : Bool := decide (1 ≤ s.size) && decide (s.size ≤ 10) && smallC (bt s 0) && decide (∀ j : Nat, j < s.size → nameC (bt s j) = true)

theorem small_c (c : Int) (w : World) : Calls Try.prog 94 #[.int .u8 c] w fun e w' => e = .returned (.bool (smallC c)) ∧ w = w' := by
  go_enter Try.func94, Try.ntmps94
  go_wp2
  all_goals (go_ret; exact ⟨ret_bool (by unfold smallC inB; rw [Bool.eq_iff_iff]; simp <;> omega), rfl⟩)
theorem digit_c (c : Int) (w : World) : Calls Try.prog 95 #[.int .u8 c] w fun e w' => e = .returned (.bool (digitC c)) ∧ w = w' := by
  go_enter Try.func95, Try.ntmps95
  go_wp2
  all_goals (go_ret; exact ⟨ret_bool (by unfold digitC inB; rw [Bool.eq_iff_iff]; simp <;> omega), rfl⟩)

theorem list_size (s : ByteArray) : s.toList.length = s.size := by rw [ByteArray.toList_eq, Array.length_toList]; rfl
theorem empty_size {s : ByteArray} (h : s.toList = []) : s.size = 0 := by rw [← list_size, h]; rfl
theorem size_pos {s : ByteArray} (h : ¬ s.toList = []) : 0 < s.size := by
  rcases Nat.eq_zero_or_pos s.size with h0 | h0
  · exact absurd (List.eq_nil_of_length_eq_zero ((list_size s).trans h0)) h
  · exact h0
theorem nameB_empty {s : ByteArray} (h : s.size = 0) : nameB s = false := by unfold nameB; simp [h]
theorem nameB_long {s : ByteArray} (h : 10 < s.size) : nameB s = false := by
  unfold nameB
  rw [decide_eq_false (p := s.size ≤ 10) (by omega)]
  simp
theorem nameB_first {s : ByteArray} (h : smallC (bt s 0) = false) : nameB s = false := by unfold nameB; simp [h]
theorem nameB_bad {s : ByteArray} {k : Nat} (h : k < s.size) (hk : nameC (bt s k) = false) : nameB s = false := by
  unfold nameB
  rw [decide_eq_false (p := ∀ j : Nat, j < s.size → nameC (bt s j) = true) (fun hh => by simp [hh k h] at hk)]
  simp
theorem nameB_all {s : ByteArray} (h0 : 0 < s.size) (h1 : s.size ≤ 10) (h2 : smallC (bt s 0) = true) (h : ∀ j : Nat, j < s.size → nameC (bt s j) = true) : nameB s = true := by
  unfold nameB
  rw [decide_eq_true (p := 1 ≤ s.size) h0, decide_eq_true h1, h2, decide_eq_true h]
  rfl

theorem name_c (s : ByteArray) (w : World) : Calls Try.prog 89 #[.string s] w fun e w' => e = .returned (.bool (nameB s)) ∧ w = w' := by
  by_cases h0 : s.toList = []
  · have hn := Lib.hid (nameB_empty (empty_size h0))
    go_enter Try.func89, Try.ntmps89
    go_wp2
    go_ret
    exact ⟨ret_bool hn.out.symm, rfl⟩
  have h1 := size_pos h0
  have he : s.toList.isEmpty = false := by simpa using h0
  by_cases h10 : s.size ≤ 10
  · have hb0 : ∀ h : 0 < s.size, ((s[0]'h).toNat : Int) = bt s 0 := fun h => bt_at s 0 h
    by_cases hc : smallC (bt s 0) = true
    · go_enter Try.func89, Try.ntmps89
      go_wp2_with (first | (go_at_call 94; refine (small_c _ _).mono ?_; rintro e w' ⟨rfl, rfl⟩))
      go_loop [3] (fun i => ∃ k : Nat, k ≤ s.size ∧ i = .int .i64 k ∧ ∀ j : Nat, j < k → nameC (bt s j) = true) (fun i => s.size - (intOf i).toNat)
      case atStart => exact ⟨0, Nat.zero_le _, rfl, fun j hj => absurd hj (Nat.not_lt_zero _)⟩
      case round =>
        obtain ⟨k, hk, rfl, hall⟩ := hrel
        have HA := Lib.hid hall
        clear hall
        have hbk : ∀ h : k < s.size, ((s[k]'h).toNat : Int) = bt s k := fun h => bt_at s k h
        by_cases hlt : k < s.size
        · have HN := Lib.hid (show nameC (bt s k) = (smallC (bt s k) || digitC (bt s k)) from rfl)
          have HX := fun (hg : nameC (bt s k) = true) => Lib.hid (show ∀ j : Nat, j < k + 1 → nameC (bt s j) = true from fun j hj => (Nat.lt_or_ge j k).elim (HA.out j) (fun h => (Nat.le_antisymm h (Nat.le_of_lt_succ hj)) ▸ hg))
          go_wp2_with (first | (go_at_call 94; refine (small_c _ _).mono ?_; rintro e w' ⟨rfl, rfl⟩) | (go_at_call 95; refine (digit_c _ _).mono ?_; rintro e w' ⟨rfl, rfl⟩))
          · have hq : smallC (bt s k) = true := by assumption
            go_round
            case rel => exact ⟨k + 1, by omega, by go_num, (HX (by rw [HN.out, hq]; rfl)).out⟩
            case measure => simp [intOf]; omega
          · have hq : ¬ smallC (bt s k) = true := by assumption
            have hd : (!digitC (bt s k)) = true := by assumption
            go_ret
            exact ⟨ret_bool (nameB_bad hlt (by rw [HN.out]; simpa [hq] using hd)).symm, rfl⟩
          · have hd : (!digitC (bt s k)) = false := by assumption
            go_round
            case rel => exact ⟨k + 1, by omega, by go_num, (HX (by rw [HN.out]; simp at hd; simp [hd])).out⟩
            case measure => simp [intOf]; omega
        · obtain rfl : k = s.size := by omega
          go_wp2
          go_ret
          exact ⟨ret_bool (nameB_all h1 h10 hc HA.out).symm, rfl⟩
    · have hn := Lib.hid (nameB_first (s := s) (by simpa using hc))
      go_enter Try.func89, Try.ntmps89
      go_wp2_with (first | (go_at_call 94; refine (small_c _ _).mono ?_; rintro e w' ⟨rfl, rfl⟩))
      go_ret
      exact ⟨ret_bool hn.out.symm, rfl⟩
  · have hn := Lib.hid (nameB_long (s := s) (by omega))
    go_enter Try.func89, Try.ntmps89
    go_wp2
    go_ret
    exact ⟨ret_bool hn.out.symm, rfl⟩

theorem isName_c (s : ByteArray) (w : World) : Calls Try.prog 96 #[.string s] w fun e w' => e = .returned (.bool (nameB s)) ∧ w = w' := by
  by_cases h0 : s.size = 0
  · have hn := Lib.hid (nameB_empty h0)
    have h0' : (s.size : Int) < 1 := by omega
    clear h0
    go_enter Try.func96, Try.ntmps96
    go_wp2
    go_ret
    exact ⟨ret_bool hn.out.symm, rfl⟩
  have h1 : 0 < s.size := by omega
  have h1' : decide ((s.size : Int) < 1) = false := by simp; omega
  by_cases h10 : s.size ≤ 10
  · have hb0 : ∀ h : 0 < s.size, ((s[0]'h).toNat : Int) = bt s 0 := fun h => bt_at s 0 h
    by_cases hc : 97 ≤ bt s 0 ∧ bt s 0 ≤ 122
    · obtain ⟨hc1, hc2⟩ := hc
      go_enter Try.func96, Try.ntmps96
      go_wp2
      go_loop [3] (fun i => ∃ k : Nat, k ≤ s.size ∧ i = .int .i64 k ∧ ∀ j : Nat, j < k → nameC (bt s j) = true) (fun i => s.size - (intOf i).toNat)
      case atStart => exact ⟨0, Nat.zero_le _, rfl, fun j hj => absurd hj (Nat.not_lt_zero _)⟩
      case round =>
        obtain ⟨k, hk, rfl, hall⟩ := hrel
        have HA := Lib.hid hall
        clear hall
        have hbk : ∀ h : k < s.size, ((s[k]'h).toNat : Int) = bt s k := fun h => bt_at s k h
        by_cases hlt : k < s.size
        · have HX := fun (hg : nameC (bt s k) = true) => Lib.hid (show ∀ j : Nat, j < k + 1 → nameC (bt s j) = true from fun j hj => (Nat.lt_or_ge j k).elim (HA.out j) (fun h => (Nat.le_antisymm h (Nat.le_of_lt_succ hj)) ▸ hg))
          by_cases hg : nameC (bt s k) = true
          · have HG := (HX hg).out
            have hg' : (97 ≤ bt s k ∧ bt s k ≤ 122) ∨ (48 ≤ bt s k ∧ bt s k ≤ 57) := by simpa [nameC, smallC, digitC, inB] using hg
            have HG2 := Lib.hid HG
            clear HG HX hg
            rcases hg' with ⟨g1, g2⟩ | ⟨g1, g2⟩
            · go_wp2
              go_round
              case rel => exact ⟨k + 1, by omega, by go_num, HG2.out⟩
              case measure => simp [intOf]; omega
            · go_wp2
              go_round
              case rel => exact ⟨k + 1, by omega, by go_num, HG2.out⟩
              case measure => simp [intOf]; omega
          · have hn := Lib.hid (nameB_bad hlt (by simpa using hg))
            have hg' : ¬ ((97 ≤ bt s k ∧ bt s k ≤ 122) ∨ (48 ≤ bt s k ∧ bt s k ≤ 57)) := by simpa [nameC, smallC, digitC, inB] using hg
            clear HX hg
            go_wp2
            all_goals first | (exfalso; omega) | (go_ret; exact ⟨ret_bool hn.out.symm, rfl⟩)
        · obtain rfl : k = s.size := by omega
          go_wp2
          go_ret
          exact ⟨ret_bool (nameB_all h1 h10 (inB_true.2 ⟨hc1, hc2⟩) HA.out).symm, rfl⟩
    · have hn := Lib.hid (nameB_first (s := s) (inB_false.2 hc))
      go_enter Try.func96, Try.ntmps96
      go_wp2
      all_goals first | (exfalso; omega) | (go_ret; exact ⟨ret_bool hn.out.symm, rfl⟩)
  · have hn := Lib.hid (nameB_long (s := s) (by omega))
    have h10' : decide ((s.size : Int) > 10) = true := by simp; omega
    go_enter Try.func96, Try.ntmps96
    go_wp2
    go_ret
    exact ⟨ret_bool hn.out.symm, rfl⟩
end Go.Proofs.Ytdbgjjckafeenaa.Names
