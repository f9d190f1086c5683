/- Plain laws of the helpers over rows of whole numbers. -/
import Derived.Test.YtdbgjjckafeenaaBase
import Derived.Test.YtdbgjjckafeenaaXRp1
import Derived.Test.YtdbgjjckafeenaaXRp2
import Derived.Test.YtdbgjjckafeenaaXRp3
namespace Go.Proofs.Ytdbgjjckafeenaa.PlI
open Go.RowKit Go.Proofs.YtdbgjjckafeenaaW.PrintWords Go.Proofs.YtdbgjjckafeenaaW.PrintLast Go.Proofs.YtdbgjjckafeenaaW.PrintMore Go.Proofs.Ytdbgjjckafeenaa.Base Go.Proofs.Ytdbgjjckafeenaa.XRp
set_option linter.unusedVariables false
set_option linter.unusedSimpArgs false

theorem wrap_next {i n : Nat} (h : i < n) (hn : n ≤ 9223372036854775807) : wrap64 ((i : Int) + 1) = ((i + 1 : Nat) : Int) := by
  rw [wrap_id (by omega) (by omega)]; omega

theorem eqI_l (xs : List Int) (hn : xs.length ≤ 9223372036854775807) (d : Nat) : ∀ (i k : Nat), i + d = xs.length → d < k → laws_eqInt64S.l0 k xs xs (i : Int) = some true := by
  induction d with
  | zero =>
    intro i k hi hk
    obtain ⟨k, rfl⟩ : ∃ m, k = m + 1 := ⟨k - 1, by omega⟩
    simp only [laws_eqInt64S.l0]
    rw [if_neg (by omega)]
  | succ d ih =>
    intro i k hi hk
    obtain ⟨k, rfl⟩ : ∃ m, k = m + 1 := ⟨k - 1, by omega⟩
    simp only [laws_eqInt64S.l0]
    rw [if_pos (by omega), if_pos (by omega), if_pos (by omega), if_pos trivial, wrap_next (n := xs.length) (by omega) hn]
    exact ih (i + 1) k (by omega) (by omega)
theorem eqI_ev (xs : List Int) (hn : xs.length ≤ 9223372036854775807) : Ev (fun k => laws_eqInt64S.f k xs xs) true :=
  ⟨xs.length + 1, fun k hk => by (show laws_eqInt64S.f k xs xs = some true); unfold laws_eqInt64S.f; rw [if_pos rfl]; exact eqI_l xs hn xs.length 0 k (by omega) (by omega)⟩

theorem rd_set {ys : List Int} {i : Nat} {v : Int} (hi : i < ys.length) (j : Nat) : rd (ys.set i v) (j : Int) = if j = i then v else rd ys (j : Int) := by
  unfold rd
  simp only [Int.toNat_natCast, List.getD_eq_getElem?_getD, List.getElem?_set]
  by_cases h : i = j
  · subst h; simp [hi]
  · rw [if_neg h, if_neg (fun e => h e.symm)]
theorem markI_l (n : Nat) (hn : n ≤ 1000000000) (d : Nat) : ∀ (i k : Nat) (ys : List Int), ys.length = n → i + d = n → d < k → (∀ j : Nat, j < i → rd ys (j : Int) = 1 + (j : Int)) →
    ∃ zs, laws_markInt64S.l0 k ys (1 + (i : Int)) (i : Int) = some (1 + (n : Int), zs) ∧ zs.length = n ∧ ∀ j : Nat, j < n → rd zs (j : Int) = 1 + (j : Int) := by
  induction d with
  | zero =>
    intro i k ys hl hi hk hh
    obtain ⟨k, rfl⟩ : ∃ m, k = m + 1 := ⟨k - 1, by omega⟩
    obtain rfl : i = n := by omega
    simp only [laws_markInt64S.l0]
    rw [if_neg (by omega)]
    exact ⟨ys, rfl, hl, hh⟩
  | succ d ih =>
    intro i k ys hl hi hk hh
    obtain ⟨k, rfl⟩ : ∃ m, k = m + 1 := ⟨k - 1, by omega⟩
    simp only [laws_markInt64S.l0]
    rw [if_pos (by omega), if_pos (by omega), wrap_next (n := n) (by omega) (by omega), wrap_id (by omega) (by omega), Int.toNat_natCast, show (1 : Int) + (i : Int) + 1 = 1 + ((i + 1 : Nat) : Int) by omega]
    refine ih (i + 1) k (ys.set i (1 + (i : Int))) (by simpa using hl) (by omega) (by omega) (fun j hj => ?_)
    rw [rd_set (by omega)]
    split
    · rename_i h; subst h; rfl
    · exact hh j (by omega)
theorem heldI_l (n : Nat) (hn : n ≤ 1000000000) (zs : List Int) (hl : zs.length = n) (hh : ∀ j : Nat, j < n → rd zs (j : Int) = 1 + (j : Int)) (d : Nat) : ∀ (i k : Nat), i + d = n → d < k → laws_heldInt64S.l0 k zs (1 + (i : Int)) (i : Int) = some (1 + (n : Int)) := by
  induction d with
  | zero =>
    intro i k hi hk
    obtain ⟨k, rfl⟩ : ∃ m, k = m + 1 := ⟨k - 1, by omega⟩
    obtain rfl : i = n := by omega
    simp only [laws_heldInt64S.l0]
    rw [if_neg (by omega)]
  | succ d ih =>
    intro i k hi hk
    obtain ⟨k, rfl⟩ : ∃ m, k = m + 1 := ⟨k - 1, by omega⟩
    simp only [laws_heldInt64S.l0]
    rw [if_pos (by omega), if_pos (by omega), if_pos (hh i (by omega)), wrap_next (n := n) (by omega) (by omega), wrap_id (by omega) (by omega), show (1 : Int) + (i : Int) + 1 = 1 + ((i + 1 : Nat) : Int) by omega]
    exact ih (i + 1) k (by omega) (by omega)
/-- What is marked is held. -/
theorem markI_ev (xs : List Int) (hn : xs.length ≤ 1000000000) : ∃ zs, Ev (fun k => laws_markInt64S.f k xs 1) (1 + (xs.length : Int), zs) ∧ Ev (fun k => laws_heldInt64S.f k zs 1) (1 + (xs.length : Int)) := by
  obtain ⟨zs, h1, h2, h3⟩ := markI_l xs.length hn xs.length 0 (xs.length + 1) xs rfl (by omega) (by omega) (fun j hj => absurd hj (Nat.not_lt_zero j))
  refine ⟨zs, Ev.of (k := xs.length + 1) (fun k => laws_markInt64S.mono _ _ k) (by unfold laws_markInt64S.f; exact h1), ⟨xs.length + 1, fun k hk => ?_⟩⟩
  unfold laws_heldInt64S.f
  exact heldI_l xs.length hn zs h2 h3 xs.length 0 k (by omega) (by omega)
end Go.Proofs.Ytdbgjjckafeenaa.PlI
