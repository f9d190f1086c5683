/- Numbers in decimal: the program's and the reference's text of a number. -/
import Derived.Test.YtdbgjjckafeenaaDoorBase
import Derived.Test.YtdbgjjckafeenaaDoorShelf
import Derived.Lib.AppendIntMem
import Derived.Test.YtdbgjjckafeenaaDoorXRt3
namespace Go.Proofs.YtdbgjjckafeenaaDoor.Dec
open Go.RowKit Go.Proofs.YtdbgjjckafeenaaDoorW.PrintWords Go.Proofs.YtdbgjjckafeenaaDoorW.PrintLast Go.Proofs.YtdbgjjckafeenaaDoorW.PrintMore Go.Proofs.YtdbgjjckafeenaaDoor.Base Go.Proofs.YtdbgjjckafeenaaDoor.XRt
set_option linter.unusedVariables false
set_option linter.unusedSimpArgs false

/-- A number in decimal. -/
def decS (n : Int) : ByteArray := ⟨(Lib.itoa n).toArray⟩
/-- The table that the library's text of a number reads. -/
def Tab (w : World) : Prop := Lib.TabIs Tryd.prog w "internal/strconv.uint64pow10" .u64 Lib.pow10Tab
theorem Tab.below {w w' : World} (h : Tab w) (hb : Below w.heap.size w w') : Tab w' := by
  unfold Tab Lib.TabIs World.var? at *
  rw [show Tryd.prog.globalNamed "internal/strconv.uint64pow10" = some 0 by kernel_rfl] at *
  simp only [Option.bind_some] at *
  have hlt : 0 < w.heap.size := by
    rcases Nat.eq_zero_or_pos w.heap.size with h0 | h0
    · rw [show w.heap[0]? = none from Array.getElem?_eq_none (by omega)] at h; cases h
    · exact h0
  rw [hb.block 0 hlt]
  exact h
theorem impDec_c (n : Int) (h0 : -9223372036854775808 ≤ n) (h1 : n ≤ 9223372036854775807) (w : World) (ht : Tab w) :
    Calls Tryd.prog 23 #[.int .i64 n] w fun e w' => e = .returned (.string (decS n)) ∧ Below w.heap.size w w' := by
  have HT := Lib.hid ht
  clear ht
  go_enter Tryd.func23, Tryd.ntmps23
  go_wp2_with (go_at_call 36; refine (Tryd.strconv_FormatInt_10 n h0 h1 _ HT.out).mono ?_; rintro e w' ⟨rfl, k, os, rfl⟩)
  go_ret
  exact ⟨rfl, Lib.below_grow _ _ (Nat.le_refl _) _ _⟩

/-! The reference's. -/
def digI (u : Nat) : List Int := (Lib.decDigits u).reverse.map fun c => (c.toNat : Int)
theorem digI_one {u : Nat} (h : u < 10) : digI u = [48 + (u : Int)] := by
  unfold digI
  rw [Lib.decDigits, dif_pos h]
  simp
  omega
theorem digI_more {u : Nat} (h : ¬ u < 10) : digI u = (48 + ((u % 10 : Nat) : Int)) :: digI (u / 10) := by
  unfold digI
  rw [Lib.decDigits, dif_neg h]
  simp
  omega
theorem digI_len (u : Nat) : (digI u).length = Lib.nDigits u := by unfold digI; simp [Lib.decDigits_length]
theorem l1_rev (xs : List Int) (hn : xs.length ≤ 1000) (d : Nat) : ∀ (k : Nat) (ys : List Int), d ≤ xs.length → ys.length + d ≤ 1000 → d < k → spec_l01Dec.l1 k xs ys ((d : Int) - 1) = some (strOfNums (ys ++ (xs.take d).reverse)) := by
  induction d with
  | zero =>
    intro k ys h1 h2 hk
    obtain ⟨k, rfl⟩ : ∃ m, k = m + 1 := ⟨k - 1, by omega⟩
    simp only [spec_l01Dec.l1]
    rw [if_neg (by omega)]
    simp
  | succ d ih =>
    intro k ys h1 h2 hk
    obtain ⟨k, rfl⟩ : ∃ m, k = m + 1 := ⟨k - 1, by omega⟩
    simp only [spec_l01Dec.l1]
    rw [show ((d + 1 : Nat) : Int) - 1 = (d : Int) by omega, if_pos (by omega), if_pos (by omega), if_pos (by omega), if_pos (by omega), wrap_id (by omega) (by omega)]
    rw [ih k _ (by omega) (by simp <;> omega) (by omega)]
    congr 2
    rw [List.append_assoc]
    congr 1
    unfold rd
    rw [Int.toNat_natCast, List.getD_eq_getElem?_getD, List.getElem?_eq_getElem (show d < xs.length by omega), List.take_succ_eq_append_getElem (show d < xs.length by omega), List.reverse_append]
    rfl
theorem l0_digits (n : Int) (hn : 0 < n) (u : Nat) : ∀ (k : Nat) (xs : List Int), 0 < u → u ≤ 1000000000000000000 → xs.length + Lib.nDigits u ≤ 100 → Lib.nDigits u + 110 < k → spec_l01Dec.l0 k n xs (u : Int) = some (strOfNums ((xs ++ digI u).reverse)) := by
  induction u using Nat.strongRecOn with
  | _ u ih =>
    intro k xs h0 h1 h2 hk
    obtain ⟨k, rfl⟩ : ∃ m, k = m + 1 := ⟨k - 1, by omega⟩
    simp only [spec_l01Dec.l0]
    have e1 : Int.tmod (u : Int) 10 = ((u % 10 : Nat) : Int) := by rw [Int.tmod_eq_emod_of_nonneg (by omega)]; omega
    have e2 : Int.tdiv (u : Int) 10 = ((u / 10 : Nat) : Int) := by rw [Int.tdiv_eq_ediv_of_nonneg (by omega)]; omega
    rw [if_neg (by omega), e1, e2, if_neg (by omega), if_pos (by omega), wrap_id (x := 48 + ((u % 10 : Nat) : Int)) (by omega) (by omega), wrap_id (x := ((u / 10 : Nat) : Int)) (by omega) (by omega), show (48 + ((u % 10 : Nat) : Int)) % 256 = 48 + ((u % 10 : Nat) : Int) by omega]
    by_cases hlt : u < 10
    · rw [Lib.nDigits_small hlt] at h2 hk
      rw [show ((u / 10 : Nat) : Int) = 0 by omega, digI_one hlt]
      obtain ⟨k, rfl⟩ : ∃ m, k = m + 1 := ⟨k - 1, by omega⟩
      simp only [spec_l01Dec.l0]
      rw [if_pos trivial, if_neg (by omega)]
      obtain ⟨k, rfl⟩ : ∃ m, k = m + 1 := ⟨k - 1, by omega⟩
      simp only [spec_l01Dec.j1]
      rw [wrap_id (by simp <;> omega) (by simp <;> omega), l1_rev _ (by simp <;> omega) _ k [] (Nat.le_refl _) (by simp <;> omega) (by simp <;> omega)]
      rw [List.take_length, List.nil_append, show ((u % 10 : Nat) : Int) = (u : Int) by omega]
    · have hd : Lib.nDigits u = Lib.nDigits (u / 10) + 1 := by rw [Lib.nDigits, dif_neg hlt]
      rw [ih (u / 10) (by omega) k _ (by omega) (by omega) (by simp <;> omega) (by omega), digI_more hlt]
      simp
theorem nDigits_le (d : Nat) : ∀ u : Nat, u < 10 ^ (d + 1) → Lib.nDigits u ≤ d + 1 := by
  induction d with
  | zero => intro u h; rw [Lib.nDigits_small (by simpa using h)]; omega
  | succ d ih =>
    intro u h
    rw [Lib.nDigits]
    split
    · omega
    · have := ih (u / 10) (by rw [Nat.pow_succ] at h; omega)
      omega
theorem strOf_digits (u : Nat) : strOfNums ((digI u).reverse) = ⟨(Lib.decDigits u).toArray⟩ := by
  unfold strOfNums digI
  rw [← List.map_reverse, List.reverse_reverse, List.map_map]
  congr 2
  rw [show ((fun n : Int => UInt8.ofNat n.toNat) ∘ fun c : UInt8 => (c.toNat : Int)) = id by funext c; simp]
  simp
theorem specDec_c (n : Int) (h0 : 1 ≤ n) (h1 : n ≤ 1000000000000) (w : World) : Calls Tryd.prog 34 #[.int .i64 n] w fun e w' => e = .returned (.string (decS n)) ∧ Below w.heap.size w w' := by
  refine spec_l01Dec.calls 200 n (decS n) w ?_
  unfold spec_l01Dec.f
  rw [if_neg (by omega)]
  obtain ⟨u, rfl⟩ : ∃ u : Nat, n = u := ⟨n.toNat, by omega⟩
  have hd := nDigits_le 12 u (by simp only [Nat.reduceAdd, Nat.reducePow]; omega)
  rw [l0_digits _ (by omega) u 200 [] (by omega) (by omega) (by simp <;> omega) (by omega), List.nil_append, strOf_digits]
  unfold decS
  rw [Lib.itoa_nonneg]
theorem decS_size (n : Int) (h0 : 0 ≤ n) (h1 : n ≤ 1000000000000) : (decS n).size ≤ 13 := by
  obtain ⟨u, rfl⟩ : ∃ u : Nat, n = u := ⟨n.toNat, by omega⟩
  have hd := nDigits_le 12 u (by simp only [Nat.reduceAdd, Nat.reducePow]; omega)
  unfold decS
  rw [Lib.itoa_nonneg]
  show (Lib.decDigits u).toArray.size ≤ 13
  rw [List.size_toArray, Lib.decDigits_length]
  omega
end Go.Proofs.YtdbgjjckafeenaaDoor.Dec
