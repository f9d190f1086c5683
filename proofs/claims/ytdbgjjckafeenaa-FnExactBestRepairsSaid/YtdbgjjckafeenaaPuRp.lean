/- The law of the best repairs answers true. -/
import Derived.Test.YtdbgjjckafeenaaPlI
import Derived.Test.YtdbgjjckafeenaaXRp17
namespace Go.Proofs.Ytdbgjjckafeenaa.PuRp
open Go.RowKit Go.Proofs.YtdbgjjckafeenaaW.PrintWords Go.Proofs.YtdbgjjckafeenaaW.PrintLast Go.Proofs.YtdbgjjckafeenaaW.PrintMore Go.Proofs.Ytdbgjjckafeenaa.Base Go.Proofs.Ytdbgjjckafeenaa.XRp Go.Proofs.Ytdbgjjckafeenaa.PlI Go.Proofs.Ytdbgjjckafeenaa.ExtR Go.Proofs.Ytdbgjjckafeenaa.Vis Go.Proofs.Ytdbgjjckafeenaa.Loss
set_option linter.unusedVariables false
set_option linter.unusedSimpArgs false

/-! sz -/
theorem szV (s : ByteArray) (a b left : Int) : ∃ r, laws_szVeneer.f s a b left = some r := by
  unfold laws_szVeneer.f
  split <;> exact ⟨_, rfl⟩
theorem szL (x : S89) (left : Int) : ∃ r, laws_szLoss.f x.f0 x.f1.f0 x.f1.f1 x.f1.f2 x.f2 x.f3 x.f4 x.f5 left = some r := by
  unfold laws_szLoss.f
  split
  · exact ⟨_, rfl⟩
  · obtain ⟨r, hr⟩ := szV x.f1.f0 x.f1.f1 x.f1.f2 (wrap64 (left - (x.f0.size : Int)))
    rw [hr]
    simp only [Option.bind_some]
    split <;> exact ⟨_, rfl⟩
theorem sz_l (xs : List S89) (hn : xs.length ≤ 1048576) (d : Nat) : ∀ (i k : Nat) (left : Int), i + d = xs.length → d < k → ∃ r, laws_szLossS.l0 k xs left (i : Int) = some r := by
  induction d with
  | zero =>
    intro i k left hi hk
    obtain ⟨k, rfl⟩ : ∃ m, k = m + 1 := ⟨k - 1, by omega⟩
    simp only [laws_szLossS.l0]
    rw [if_neg (by omega)]
    exact ⟨_, rfl⟩
  | succ d ih =>
    intro i k left hi hk
    obtain ⟨k, rfl⟩ : ∃ m, k = m + 1 := ⟨k - 1, by omega⟩
    simp only [laws_szLossS.l0]
    obtain ⟨r, hr⟩ := szL (rd_T89 xs i) left
    rw [if_pos (by omega), if_pos (by omega), hr]
    simp only [Option.bind_some]
    split
    · exact ⟨_, rfl⟩
    · rw [wrap_next (n := xs.length) (by omega) (by omega)]
      exact ih (i + 1) k r (by omega) (by omega)
/-- What is told of the size: if it is not refused, there are no more than so many. -/
theorem sz_ev (xs : List S89) (hn : xs.length ≤ 9223372036854775807) : ∃ r, Ev (fun k => laws_szLossS.f k xs 1048576) r ∧ (¬ r < 0 → xs.length ≤ 1048576) := by
  by_cases h : xs.length ≤ 1048576
  · obtain ⟨r, hr⟩ := sz_l xs h xs.length 0 (xs.length + 1) (wrap64 (1048576 - (xs.length : Int))) (by omega) (by omega)
    refine ⟨r, Ev.of (k := xs.length + 1) (fun k => laws_szLossS.mono _ _ k) ?_, fun _ => h⟩
    unfold laws_szLossS.f
    rw [if_neg (by rw [wrap_id (by omega) (by omega)]; omega)]
    exact hr
  · refine ⟨-1, ⟨0, fun k _ => ?_⟩, fun h' => absurd (by omega) h'⟩
    show laws_szLossS.f k xs 1048576 = some (-1)
    unfold laws_szLossS.f
    rw [if_pos (by rw [wrap_id (by omega) (by omega)]; omega)]

/-! to -/
def conv (x : S89) : S98 := ⟨x.f0, ⟨x.f1.f0, x.f1.f1, x.f1.f2⟩, x.f2, x.f3, x.f4, x.f5⟩
theorem to_one (x : S89) : laws_toLoss.f x.f0 x.f1.f0 x.f1.f1 x.f1.f2 x.f2 x.f3 x.f4 x.f5 = some (x.f0, x.f1.f0, x.f1.f1, x.f1.f2, x.f2, x.f3, x.f4, x.f5) := rfl
theorem to_l (xs : List S89) (hn : xs.length ≤ 1048576) (d : Nat) : ∀ (i k : Nat) (ys : List S98), ys.length = xs.length → i + d = xs.length → d < k → (∀ j : Nat, j < i → ys[j]? = (xs.map conv)[j]?) → laws_toLossS.l0 k xs ys (i : Int) = some (xs.map conv) := by
  induction d with
  | zero =>
    intro i k ys hl hi hk hh
    obtain ⟨k, rfl⟩ : ∃ m, k = m + 1 := ⟨k - 1, by omega⟩
    simp only [laws_toLossS.l0]
    rw [if_neg (by omega)]
    congr 1
    apply List.ext_getElem?
    intro j
    by_cases hj : j < i
    · exact hh j hj
    · rw [List.getElem?_eq_none (by omega), List.getElem?_eq_none (by simp; omega)]
  | succ d ih =>
    intro i k ys hl hi hk hh
    obtain ⟨k, rfl⟩ : ∃ m, k = m + 1 := ⟨k - 1, by omega⟩
    simp only [laws_toLossS.l0]
    rw [if_pos (by omega), if_pos (by omega), to_one]
    simp only [Option.bind_some]
    rw [if_pos (by omega), wrap_next (n := xs.length) (by omega) (by omega), Int.toNat_natCast]
    refine ih (i + 1) k _ (by simpa using hl) (by omega) (by omega) (fun j hj => ?_)
    rw [List.getElem?_set]
    by_cases h : i = j
    · subst h
      rw [if_pos rfl, if_pos (by omega), List.getElem?_map]
      unfold rd_T89
      simp only [Int.toNat_natCast, List.getD_eq_getElem?_getD]
      rw [List.getElem?_eq_getElem (show i < xs.length by omega)]
      rfl
    · rw [if_neg h]
      exact hh j (by omega)
theorem to_ev (xs : List S89) (hn : xs.length ≤ 1048576) : Ev (fun k => laws_toLossS.f k xs) (xs.map conv) := by
  refine ⟨xs.length + 1, fun k hk => ?_⟩
  show laws_toLossS.f k xs = some (xs.map conv)
  unfold laws_toLossS.f
  rw [if_pos (by omega), if_pos (by omega)]
  exact to_l xs hn xs.length 0 k _ (by simp) (by omega) (by omega) (fun j hj => absurd hj (Nat.not_lt_zero j))

/-! eq -/
theorem eq_one (x : S98) : laws_eqLoss.f x.f0 x.f1.f0 x.f1.f1 x.f1.f2 x.f2 x.f3 x.f4 x.f5 x.f0 x.f1.f0 x.f1.f1 x.f1.f2 x.f2 x.f3 x.f4 x.f5 = some true := by
  simp [laws_eqLoss.f, laws_eqVeneer.f]
theorem eq_l (xs : List S98) (hn : xs.length ≤ 1048576) (d : Nat) : ∀ (i k : Nat), i + d = xs.length → d < k → laws_eqLossS.l0 k xs xs (i : Int) = some true := by
  induction d with
  | zero =>
    intro i k hi hk
    obtain ⟨k, rfl⟩ : ∃ m, k = m + 1 := ⟨k - 1, by omega⟩
    simp only [laws_eqLossS.l0]
    rw [if_neg (by omega)]
  | succ d ih =>
    intro i k hi hk
    obtain ⟨k, rfl⟩ : ∃ m, k = m + 1 := ⟨k - 1, by omega⟩
    simp only [laws_eqLossS.l0]
    rw [if_pos (by omega), if_pos (by omega), if_pos (by omega), eq_one]
    simp only [Option.bind_some, if_true]
    rw [wrap_next (n := xs.length) (by omega) (by omega)]
    exact ih (i + 1) k (by omega) (by omega)
theorem eq_ev (xs : List S98) (hn : xs.length ≤ 1048576) : Ev (fun k => laws_eqLossS.f k xs xs) true :=
  ⟨xs.length + 1, fun k hk => by (show laws_eqLossS.f k xs xs = some true); unfold laws_eqLossS.f; rw [if_pos rfl]; exact eq_l xs hn xs.length 0 k (by omega) (by omega)⟩

/-! mark -/
theorem strOf_one (c : Int) : (strOfNums [c]).size = 1 := by
  unfold strOfNums
  rfl
theorem text_l (d : Nat) : ∀ (k : Nat) (n : Int) (s : ByteArray), 0 ≤ n → n ≤ 1000000000000 → n < 10 ^ d → d < k → s.size + d ≤ 1000 → ∃ r, laws_markText.l0 k n s = some r := by
  induction d with
  | zero =>
    intro k n s h0 hb h1 hk hs
    obtain ⟨k, rfl⟩ : ∃ m, k = m + 1 := ⟨k - 1, by omega⟩
    simp only [laws_markText.l0]
    rw [if_neg (by simp at h1; omega), if_pos (by omega)]
    exact ⟨_, rfl⟩
  | succ d ih =>
    intro k n s h0 hb h1 hk hs
    obtain ⟨k, rfl⟩ : ∃ m, k = m + 1 := ⟨k - 1, by omega⟩
    simp only [laws_markText.l0]
    by_cases hp : n > 0
    · rw [if_pos hp]
      simp only [Option.bind_some]
      rw [if_pos (by rw [strOf_one]; omega)]
      have h2 : (10 : Int) ^ (d + 1) = 10 ^ d * 10 := Int.pow_succ _ _
      rw [h2] at h1
      have h3 : Int.tdiv n 10 = n / 10 := Int.tdiv_eq_ediv_of_nonneg h0
      rw [h3, wrap_id (by omega) (by omega)]
      exact ih k (n / 10) _ (by omega) (by omega) (by omega) (by omega) (by rw [ByteArray.size_append, strOf_one]; omega)
    · rw [if_neg hp, if_pos (by omega)]
      exact ⟨_, rfl⟩
theorem text_f (k : Nat) (n : Int) (hk : 20 < k) (h0 : 0 ≤ n) (h1 : n ≤ 1000000000000) : ∃ r, laws_markText.f k n = some r := by
  unfold laws_markText.f
  split
  · exact ⟨_, rfl⟩
  · exact text_l 13 k n _ h0 h1 (by omega) (by omega) (by decide)
theorem someBind {α β : Type} (P : Option β → Prop) (a : α) (f : α → Option β) (h : ∀ y, y = a → P (f y)) : P ((some a).bind f) := h a rfl
theorem mark_l (n : Nat) (hn : n ≤ 1048576) (d : Nat) : ∀ (i k : Nat) (ys : List S98) (x : Int), ys.length = n → i + d = n → d + 20 < k → 0 ≤ x → x + 8 * d ≤ 100000000 → ∃ m zs, laws_markLossS.l0 k ys x (i : Int) = some (m, zs) ∧ 0 ≤ m := by
  induction d with
  | zero =>
    intro i k ys x hl hi hk h0 h1
    obtain ⟨k, rfl⟩ : ∃ m, k = m + 1 := ⟨k - 1, by omega⟩
    simp only [laws_markLossS.l0]
    rw [if_neg (by omega)]
    exact ⟨_, _, rfl, h0⟩
  | succ d ih =>
    intro i k ys x hl hi hk h0 h1
    obtain ⟨k, rfl⟩ : ∃ m, k = m + 1 := ⟨k - 1, by omega⟩
    simp only [laws_markLossS.l0]
    obtain ⟨r1, e1⟩ := text_f k x (by omega) h0 (by omega)
    obtain ⟨r2, e2⟩ := text_f k (x + 1) (by omega) (by omega) (by omega)
    rw [if_pos (by omega), e1]
    refine someBind (fun o => ∃ m zs, o = some (m, zs) ∧ 0 ≤ m) _ _ (fun t1 ht => ?_)
    rw [if_pos (by omega)]
    refine someBind (fun o => ∃ m zs, o = some (m, zs) ∧ 0 ≤ m) _ _ (fun y1 hy => ?_)
    have l1 : y1.length = n := by rw [hy, List.length_set]; exact hl
    clear hy
    rw [wrap_id (x := x + 1) (by omega) (by omega), e2]
    refine someBind (fun o => ∃ m zs, o = some (m, zs) ∧ 0 ≤ m) _ _ (fun t2 ht => ?_)
    refine someBind (fun o => ∃ m zs, o = some (m, zs) ∧ 0 ≤ m) _ _ (fun y2 hy => ?_)
    have l2 : y2.length = n := by rw [hy, List.length_set]; exact l1
    clear hy
    refine someBind (fun o => ∃ m zs, o = some (m, zs) ∧ 0 ≤ m) _ _ (fun y3 hy => ?_)
    have l3 : y3.length = n := by rw [hy, List.length_set]; exact l2
    clear hy
    refine someBind (fun o => ∃ m zs, o = some (m, zs) ∧ 0 ≤ m) _ _ (fun y4 hy => ?_)
    have l4 : y4.length = n := by rw [hy, List.length_set]; exact l3
    clear hy
    refine someBind (fun o => ∃ m zs, o = some (m, zs) ∧ 0 ≤ m) _ _ (fun y5 hy => ?_)
    have l5 : y5.length = n := by rw [hy, List.length_set]; exact l4
    clear hy
    refine someBind (fun o => ∃ m zs, o = some (m, zs) ∧ 0 ≤ m) _ _ (fun y6 hy => ?_)
    have l6 : y6.length = n := by rw [hy, List.length_set]; exact l5
    clear hy
    refine someBind (fun o => ∃ m zs, o = some (m, zs) ∧ 0 ≤ m) _ _ (fun y7 hy => ?_)
    have l7 : y7.length = n := by rw [hy, List.length_set]; exact l6
    clear hy
    rw [wrap_next (n := n) (by omega) (by omega), wrap_id (x := x + 1 + 1) (by omega) (by omega), wrap_id (x := x + 1 + 1 + 1) (by omega) (by omega), wrap_id (x := x + 1 + 1 + 1 + 1) (by omega) (by omega), wrap_id (x := x + 1 + 1 + 1 + 1 + 1) (by omega) (by omega), wrap_id (x := x + 1 + 1 + 1 + 1 + 1 + 1) (by omega) (by omega), wrap_id (x := x + 1 + 1 + 1 + 1 + 1 + 1 + 1) (by omega) (by omega), wrap_id (x := x + 1 + 1 + 1 + 1 + 1 + 1 + 1 + 1) (by omega) (by omega)]
    exact ih (i + 1) k _ _ (by rw [List.length_set]; exact l7) (by omega) (by omega) (by omega) (by omega)
theorem mark_ev (xs : List S98) (hn : xs.length ≤ 1048576) : ∃ m zs, Ev (fun k => laws_markLossS.f k xs 1) (m, zs) ∧ 0 ≤ m := by
  obtain ⟨m, zs, h, h0⟩ := mark_l xs.length hn xs.length 0 (xs.length + 21) xs 1 rfl (by omega) (by omega) (by omega) (by omega)
  exact ⟨m, zs, Ev.of (k := xs.length + 21) (fun k => laws_markLossS.mono _ _ k) (by unfold laws_markLossS.f; exact h), h0⟩

theorem bestV_len (xs : List Ls) (mo mi b : Int) : (bestV xs mo mi b).1.length ≤ xs.length := by
  unfold bestV
  split
  · split
    · exact Nat.zero_le _
    · exact enterV_len xs b mo mi
  · exact Nat.zero_le _

theorem law_true (l0 : List S89) (a1 a2 a3 : Int) (hn : l0.length ≤ 9223372036854775807) : ∃ k, laws_FnExactBestRepairs.f k l0 a1 a2 a3 = some true := by
  refine Ev.rounds (g := fun k => laws_FnExactBestRepairs.f k l0 a1 a2 a3) ?_
  obtain ⟨s, hs, hs2⟩ := sz_ev l0 hn
  unfold laws_FnExactBestRepairs.f
  refine Ev.bind hs ?_
  by_cases hneg : s < 0
  · exact Ev.congr (fun k => if_pos hneg) (Ev.now true)
  refine Ev.congr (fun k => if_neg hneg) ?_
  have hl := hs2 hneg
  have hl2 : (l0.map conv).length ≤ 1048576 := by simpa using hl
  have hto := to_ev l0 hl
  generalize hB : bestV ((l0.map conv).map toL) a1 a2 a3 = B
  have hI : impl_BestRepairs.f (l0.map conv) a1 a2 a3 = some B := by unfold impl_BestRepairs.f; rw [← best_same, hB]
  have hV : spec_BestRepairs.f (l0.map conv) a1 a2 a3 = some B := by unfold spec_BestRepairs.f; rw [hB]
  have hlen : B.1.length ≤ 1048576 := by rw [← hB]; exact Nat.le_trans (bestV_len _ _ _ _) (by simpa using hl)
  obtain ⟨b1, b2, b3⟩ := B
  simp only at hlen
  refine Ev.bind hto ?_
  refine Ev.congr (fun k => by rw [hV]) ?_
  refine Ev.bind (Ev.now _) ?_
  refine Ev.bind hto ?_
  refine Ev.congr (fun k => by rw [hI]) ?_
  refine Ev.bind (Ev.now _) ?_
  refine Ev.bind (eqI_ev b1 (by omega)) ?_
  refine Ev.congr (fun k => if_pos rfl) ?_
  refine Ev.congr (fun k => if_pos rfl) ?_
  refine Ev.step (fun k => by simp only [laws_FnExactBestRepairs.j0]; exact if_neg (by simp)) ?_
  refine Ev.bind hto ?_
  refine Ev.bind (eq_ev _ hl2) ?_
  refine Ev.congr (fun k => if_pos rfl) ?_
  obtain ⟨m, zs, hm, hm0⟩ := mark_ev (l0.map conv) hl2
  refine Ev.bind hm ?_
  refine Ev.congr (fun k => if_neg (by simp only; omega)) ?_
  refine Ev.bind (eqI_ev b1 (by omega)) ?_
  refine Ev.congr (fun k => if_pos rfl) ?_
  refine Ev.congr (fun k => if_pos trivial) ?_
  refine Ev.step (fun k => by simp only [laws_FnExactBestRepairs.j1]; exact if_neg (by simp)) ?_
  obtain ⟨ys, hy1, hy2⟩ := markI_ev b1 (by omega)
  refine Ev.bind hy1 ?_
  refine Ev.bind hy2 ?_
  refine Ev.congr (fun k => if_neg (by omega)) ?_
  refine Ev.congr (fun k => if_pos rfl) ?_
  refine Ev.bind hto ?_
  refine Ev.congr (fun k => by rw [hI]) ?_
  refine Ev.bind (Ev.now _) ?_
  refine Ev.bind (eqI_ev b1 (by omega)) ?_
  refine Ev.congr (fun k => if_pos rfl) ?_
  refine Ev.congr (fun k => if_pos rfl) ?_
  refine Ev.step (fun k => by simp only [laws_FnExactBestRepairs.j2]; exact if_neg (by simp)) ?_
  refine Ev.bind hy2 ?_
  refine Ev.congr (fun k => if_neg (by omega)) ?_
  exact Ev.congr (fun k => if_pos rfl) (Ev.now true)
end Go.Proofs.Ytdbgjjckafeenaa.PuRp
