import Derived.Test.YtdbgjjckafeenaaDoorExtM
import Derived.Test.YtdbgjjckafeenaaDoorXRm19
namespace Go.Proofs.YtdbgjjckafeenaaDoor.PuRm
open Go.RowKit Go.Proofs.YtdbgjjckafeenaaDoorW.PrintWords Go.Proofs.YtdbgjjckafeenaaDoorW.PrintLast Go.Proofs.YtdbgjjckafeenaaDoorW.PrintMore Go.Proofs.YtdbgjjckafeenaaDoor.Base Go.Proofs.YtdbgjjckafeenaaDoor.Dec Go.Proofs.YtdbgjjckafeenaaDoor.Rtx Go.Proofs.YtdbgjjckafeenaaDoor.ExtD Go.Proofs.YtdbgjjckafeenaaDoor.ExtM Go.Proofs.YtdbgjjckafeenaaDoor.XRs Go.Proofs.YtdbgjjckafeenaaDoor.XRm
open Go.Proofs.YtdbgjjckafeenaaDoor.PuRr (wrap_next digs numM roomM cutL scan isD isD_true dec_head dec_ne toL)
set_option linter.unusedVariables false
set_option linter.unusedSimpArgs false
theorem u64_mod (y : Int) : IntKind.u64.wrap y = y % 18446744073709551616 := by simp [IntKind.wrap, IntKind.bits, IntKind.signed]
theorem and_ok (y : Int) : 0 ≤ Go.bits .and .u64 (IntKind.u64.wrap y / 1099511627776) 255 ∧ Go.bits .and .u64 (IntKind.u64.wrap y / 1099511627776) 255 ≤ 255 := by
  have h0 : 0 ≤ IntKind.u64.wrap y / 1099511627776 := by rw [u64_mod]; omega
  have h1 : IntKind.u64.wrap y / 1099511627776 < 2 ^ 63 := by rw [u64_mod]; omega
  have h := bits_mask .u64 63 (by decide) (fun n a b => by rw [u64_mod]; omega) 8 (by decide) _ h0 h1
  rw [show (2 : Int) ^ 8 - 1 = 255 by decide] at h
  rw [h]
  omega
def Byt (c : List Int) : Prop := ∀ i : Int, 0 ≤ rd c i ∧ rd c i ≤ 255
theorem next_ok (c : List Int) (hc : Byt c) (p q N : Int) (h0 : 0 ≤ p) (h1 : p ≤ N) (hN : N ≤ 1000000) : ∃ r p' q', spec_l00Src_next.f c p q = some (r, p', q') ∧ 0 ≤ r ∧ r ≤ 255 ∧ 0 ≤ p' ∧ p' ≤ N + 1 := by
  have hb := hc p
  unfold spec_l00Src_next.f
  rw [wrap_id (x := p + 1) (by omega) (by omega), wrap_id (x := rd c p) (by omega) (by omega)]
  split
  · split
    · exact ⟨_, _, _, rfl, by omega, by omega, by omega, by omega⟩
    · refine ⟨_, _, _, rfl, ?_, ?_, by omega, by omega⟩
      · rw [wrap_id (Int.le_trans (by decide) (and_ok _).1) (Int.le_trans (and_ok _).2 (by decide))]; exact (and_ok _).1
      · rw [wrap_id (Int.le_trans (by decide) (and_ok _).1) (Int.le_trans (and_ok _).2 (by decide))]; exact (and_ok _).2
  · split
    · exact ⟨_, _, _, rfl, by omega, by omega, by omega, by omega⟩
    · refine ⟨_, _, _, rfl, ?_, ?_, by omega, by omega⟩
      · rw [wrap_id (Int.le_trans (by decide) (and_ok _).1) (Int.le_trans (and_ok _).2 (by decide))]; exact (and_ok _).1
      · rw [wrap_id (Int.le_trans (by decide) (and_ok _).1) (Int.le_trans (and_ok _).2 (by decide))]; exact (and_ok _).2
theorem pick_ok (c : List Int) (hc : Byt c) (a p q N : Int) (h0 : 0 ≤ p) (h1 : p ≤ N) (hN : N ≤ 999990) : ∃ r p' q', spec_l00Src_pick.f c p q a = some (r, p', q') ∧ 0 ≤ r ∧ (1 ≤ a → r < a) ∧ 0 ≤ p' ∧ p' ≤ N + 2 := by
  unfold spec_l00Src_pick.f
  split
  · exact ⟨_, _, _, rfl, by omega, by omega, by omega, by omega⟩
  · rename_i ha
    obtain ⟨r, p', q', e1, r0, r1, g0, g1⟩ := next_ok c hc p q N h0 h1 (by omega)
    rw [e1]
    simp only [Option.bind_some]
    split
    · obtain ⟨r', p2, q2, e2, r2, r3, g2, g3⟩ := next_ok c hc p' q' (N + 1) g0 g1 (by omega)
      rw [e2]
      simp only [Option.bind_some]
      rw [if_neg (by omega), wrap_id (x := r * 256) (by omega) (by omega), wrap_id (by omega) (by omega)]
      exact ⟨_, _, _, rfl, Int.tmod_nonneg _ (by omega), fun _ => Int.tmod_lt_of_pos _ (by omega), by omega, by omega⟩
    · rw [if_neg (by omega)]
      exact ⟨_, _, _, rfl, Int.tmod_nonneg _ (by omega), fun _ => Int.tmod_lt_of_pos _ (by omega), by omega, by omega⟩
theorem among_ok (c : List Int) (hc : Byt c) (l : List Int) (hl : 0 < l.length) (p q N : Int) (h0 : 0 ≤ p) (h1 : p ≤ N) (hN : N ≤ 999990) : ∃ r p' q', spec_l00Src_among.f c p q l = some (r, p', q') ∧ 0 ≤ p' ∧ p' ≤ N + 2 := by
  obtain ⟨r, p', q', e, r0, r1, g0, g1⟩ := pick_ok c hc (l.length : Int) p q N h0 h1 hN
  unfold spec_l00Src_among.f
  rw [e]
  simp only [Option.bind_some]
  rw [if_pos r0, if_pos (r1 (by omega))]
  exact ⟨_, _, _, rfl, g0, g1⟩
theorem room_ok (c : List Int) (hc : Byt c) (p q N : Int) (h0 : 0 ≤ p) (h1 : p ≤ N) (hN : N ≤ 900000) : ∃ a b p' q', spec_l30DrawRoom.f c p q = some (a, b, p', q') ∧ 0 ≤ p' ∧ p' ≤ N + 8 := by
  unfold spec_l30DrawRoom.f
  obtain ⟨r1, p1, q1, e1, _, _, g1, k1⟩ := pick_ok c hc 400 p q N h0 h1 (by omega)
  obtain ⟨r2, p2, q2, e2, _, _, g2, k2⟩ := pick_ok c hc 80 p1 q1 _ g1 k1 (by omega)
  obtain ⟨r3, p3, q3, e3, _, _, g3, k3⟩ := pick_ok c hc 24 p2 q2 _ g2 k2 (by omega)
  rw [e1]
  simp only [Option.bind_some]
  rw [e2]
  simp only [Option.bind_some]
  rw [e3]
  simp only [Option.bind_some]
  obtain ⟨r4, p4, q4, e4, g4, k4⟩ := among_ok c hc ([0, 1, 20000, 20001] : List Int) (by decide) p3 q3 _ g3 k3 (by omega)
  obtain ⟨r5, p5, q5, e5, g5, k5⟩ := among_ok c hc ([0, 1, 400, 401, 20001] : List Int) (by decide) p3 q3 _ g3 k3 (by omega)
  rw [e4, e5]
  simp only [Option.bind_some]
  split
  · exact ⟨_, _, _, _, rfl, g4, by omega⟩
  · split
    · exact ⟨_, _, _, _, rfl, g5, by omega⟩
    · exact ⟨_, _, _, _, rfl, g3, by omega⟩
theorem stock_ok (c : List Int) (hc : Byt c) (p q N : Int) (h0 : 0 ≤ p) (h1 : p ≤ N) (hN : N ≤ 900000) : ∃ a b l s p' q', spec_l30DrawStock.f c p q = some (a, b, l, s, p', q') ∧ 0 ≤ p' ∧ p' ≤ N + 12 := by
  unfold spec_l30DrawStock.f
  obtain ⟨r1, p1, q1, e1, _, _, g1, k1⟩ := pick_ok c hc 80 p q N h0 h1 (by omega)
  rw [e1]
  simp only [Option.bind_some]
  obtain ⟨r2, p2, q2, e2, _, _, g2, k2⟩ := pick_ok c hc 10 p1 q1 _ g1 k1 (by omega)
  rw [e2]
  simp only [Option.bind_some]
  obtain ⟨r3, p3, q3, e3, _, _, g3, k3⟩ := pick_ok c hc 12 p2 q2 _ g2 k2 (by omega)
  rw [e3]
  simp only [Option.bind_some]
  obtain ⟨r4, p4, q4, e4, g4, k4⟩ := among_ok c hc ([0, 3, 5, wrap64 (Int.tdiv (wrap64 (20 + r1)) 2), 8] : List Int) (Nat.succ_pos _) p3 q3 _ g3 k3 (by omega)
  rw [e4]
  simp only [Option.bind_some]
  obtain ⟨r5, p5, q5, e5, _, _, g5, k5⟩ := pick_ok c hc 24 p4 q4 _ g4 k4 (by omega)
  rw [e5]
  simp only [Option.bind_some]
  obtain ⟨r6, p6, q6, e6, g6, k6⟩ := among_ok c hc ([9, 10, 5000, 5001] : List Int) (by decide) p5 q5 _ g5 k5 (by omega)
  obtain ⟨r7, p7, q7, e7, g7, k7⟩ := among_ok c hc ([9, 1000, 1001] : List Int) (by decide) p5 q5 _ g5 k5 (by omega)
  obtain ⟨r8, p8, q8, e8, g8, k8⟩ := among_ok c hc ([0, wrap64 (20 + r1), wrap64 ((wrap64 (20 + r1)) + 1)] : List Int) (Nat.succ_pos _) p5 q5 _ g5 k5 (by omega)
  obtain ⟨r9, p9, q9, e9, g9, k9⟩ := among_ok c hc ([(-1), wrap64 ((wrap64 (Int.tdiv (wrap64 (20 + r1)) 2)) + 1)] : List Int) (Nat.succ_pos _) p5 q5 _ g5 k5 (by omega)
  rw [e6, e7, e8, e9]
  simp only [Option.bind_some]
  split
  · exact ⟨_, _, _, _, _, _, rfl, g6, by omega⟩
  · split
    · exact ⟨_, _, _, _, _, _, rfl, g7, by omega⟩
    · split
      · exact ⟨_, _, _, _, _, _, rfl, g8, by omega⟩
      · split
        · exact ⟨_, _, _, _, _, _, rfl, g9, by omega⟩
        · exact ⟨_, _, _, _, _, _, rfl, g5, by omega⟩
theorem first_ok (c : List Int) (hc : Byt c) (b ls p q N : Int) (h0 : 0 ≤ p) (h1 : p ≤ N) (hN : N ≤ 900000) : ∃ r p' q', first_f c p q b ls = some (r, p', q') ∧ 0 ≤ p' ∧ p' ≤ N + 4 := by
  unfold first_f spec_l00Src_one.f
  obtain ⟨r1, p1, q1, e1, _, _, g1, k1⟩ := pick_ok c hc 8 p q N h0 h1 (by omega)
  rw [e1]
  simp only [Option.bind_some]
  split
  · obtain ⟨r2, p2, q2, e2, g2, k2⟩ := among_ok c hc (fewI b ls) (Nat.succ_pos _) p1 q1 _ g1 k1 (by omega)
    rw [e2]
    exact ⟨_, _, _, rfl, g2, by omega⟩
  · obtain ⟨m, hm⟩ : ∃ m, spec_l00Max.f 1 b = some m := by
      unfold spec_l00Max.f
      split <;> exact ⟨_, rfl⟩
    rw [hm]
    simp only [Option.bind_some]
    obtain ⟨r2, p2, q2, e2, _, _, g2, k2⟩ := pick_ok c hc m p1 q1 _ g1 k1 (by omega)
    rw [e2]
    exact ⟨_, _, _, rfl, g2, (by omega : p2 ≤ N + 4)⟩
theorem pieces_ok (c : List Int) (hc : Byt c) : ∃ r0 r1 b wd ls st f, spec_DrawRowPieces.f c = some (r0, r1, b, wd, ls, st, f) := by
  unfold spec_DrawRowPieces.f
  obtain ⟨r0, r1, p1, q1, e1, g1, k1⟩ := room_ok c hc 0 0 0 (by omega) (by omega) (by omega)
  rw [e1]
  simp only [Option.bind_some]
  obtain ⟨b, wd, ls, st, p2, q2, e2, g2, k2⟩ := stock_ok c hc p1 q1 _ g1 k1 (by omega)
  rw [e2]
  simp only [Option.bind_some]
  obtain ⟨f, p3, q3, e3, g3, k3⟩ := first_ok c hc b ls p2 q2 _ g2 k2 (by omega)
  rw [e3]
  exact ⟨_, _, _, _, _, _, _, rfl⟩
theorem stag_ok (c : List Int) (hc : Byt c) : ∃ r0 r1 b wd ls st f g, spec_DrawStaggered.f c = some (r0, r1, b, wd, ls, st, f, g) := by
  unfold spec_DrawStaggered.f
  obtain ⟨r0, r1, p1, q1, e1, g1, k1⟩ := room_ok c hc 0 0 0 (by omega) (by omega) (by omega)
  rw [e1]
  simp only [Option.bind_some]
  obtain ⟨b, wd, ls, st, p2, q2, e2, g2, k2⟩ := stock_ok c hc p1 q1 _ g1 k1 (by omega)
  rw [e2]
  simp only [Option.bind_some]
  obtain ⟨f, p3, q3, e3, g3, k3⟩ := first_ok c hc b ls p2 q2 _ g2 k2 (by omega)
  rw [e3]
  simp only [Option.bind_some]
  obtain ⟨g, p4, q4, e4, g4, k4⟩ := first_ok c hc b ls p3 q3 _ g3 k3 (by omega)
  rw [e4]
  exact ⟨_, _, _, _, _, _, _, _, rfl⟩
theorem within_f (a b c : Int) : impl_within.f a b c = some (inB a b c) := by
  unfold impl_within.f inB
  split
  · rename_i h; simp [h]
  · rename_i h; simp [h]
def sumI (xs : List Int) : Int := xs.foldr (· + ·) 0
theorem sumI_snoc (xs : List Int) (x : Int) : sumI (xs ++ [x]) = sumI xs + x := by
  induction xs with
  | nil => simp [sumI]
  | cons a t ih => simp only [sumI, List.cons_append, List.foldr_cons] at ih ⊢; omega
/-- What a row is, if it is one. -/
structure Row (W b ls : Int) (ps js : List Int) : Prop where
  sum : sumI ps = W
  len : ps.length = js.length + 1
  few : (ps.length : Int) ≤ W
  pos : ∀ x ∈ ps, 1 ≤ x ∧ x ≤ b
  least : 1 < ps.length → ∀ x ∈ ps, ls ≤ x
  jr : ∀ x ∈ js, 0 ≤ x ∧ x ≤ W
theorem make_l (W r1 b wd ls st : Int) (hW : W ≤ 20000) (hb0 : 1 ≤ b) (hb1 : b ≤ 5000) (hl0 : 1 ≤ ls) (hl1 : ls ≤ b) : ∀ (d : Nat) (at_ : Int) (k : Nat) (ps js : List Int) (last : Int),
    (W - at_).toNat ≤ d → d + 2 ≤ k → 0 ≤ at_ → at_ < W → (∀ x ∈ ps, ls ≤ x ∧ x ≤ b) → sumI ps = at_ → ps.length = js.length + 1 → (ps.length : Int) ≤ at_ → (∀ x ∈ js, 0 ≤ x ∧ x ≤ W) →
    ∃ ps' js' l' co, impl_makeRow.l0 k at_ W r1 b wd ls st ps js last = some (ps', js', l', co) ∧ ((co = 6 ∧ js' = []) ∨ (co = 0 ∧ Row W b ls ps' js')) := by
  intro d
  induction d with
  | zero => intro at_ k ps js last h1 h2 h3 h4; omega
  | succ d ih =>
    intro at_ k ps js last h1 h2 h3 h4 hg hs hl hf hj
    obtain ⟨k, rfl⟩ : ∃ m, k = m + 1 := ⟨k - 1, by omega⟩
    simp only [impl_makeRow.l0]
    rw [if_pos h4, if_pos (by omega), if_pos (by omega), wrap_id (x := W - at_) (by omega) (by omega)]
    have hj' : ∀ x ∈ js ++ [at_], 0 ≤ x ∧ x ≤ W := by
      intro x hx
      rcases List.mem_append.1 hx with h | h
      · exact hj x h
      · obtain rfl := List.mem_singleton.1 h; omega
    by_cases hlast : W - at_ ≤ b
    · have hm : mn (W - at_) b = W - at_ := by unfold mn; rw [if_neg (by omega)]
      rw [hm, wrap_id (by omega) (by omega), show at_ + (W - at_) = W by omega]
      obtain ⟨k, rfl⟩ : ∃ m, k = m + 1 := ⟨k - 1, by omega⟩
      simp only [impl_makeRow.l0]
      rw [if_neg (by omega)]
      split
      · exact ⟨_, _, _, _, rfl, .inl ⟨rfl, rfl⟩⟩
      · rename_i hle
        have hall : ∀ x ∈ ps ++ [W - at_], ls ≤ x ∧ x ≤ b := by
          intro x hx
          rcases List.mem_append.1 hx with h | h
          · exact hg x h
          · obtain rfl := List.mem_singleton.1 h; omega
        exact ⟨_, _, _, _, rfl, .inr ⟨rfl, by rw [sumI_snoc]; omega, by simp; omega, by simp; omega, fun x hx => ⟨by have := (hall x hx).1; omega, (hall x hx).2⟩, fun _ x hx => (hall x hx).1, hj'⟩⟩
    · have hm : mn (W - at_) b = b := by unfold mn; rw [if_pos (by omega)]
      rw [hm, wrap_id (by omega) (by omega)]
      refine ih (at_ + b) k _ _ _ (by omega) (by omega) (by omega) (by omega) ?_ (by rw [sumI_snoc]; omega) (by simp; omega) (by simp; omega) hj'
      intro x hx
      rcases List.mem_append.1 hx with h | h
      · exact hg x h
      · obtain rfl := List.mem_singleton.1 h; omega
theorem make_f (W r1 b wd ls st f : Int) (hW0 : 1 ≤ W) (hW : W ≤ 20000) (hb0 : 1 ≤ b) (hb1 : b ≤ 5000) (hl0 : 1 ≤ ls) (hl1 : ls ≤ b) : ∃ ps js l co, (∀ k, 30000 ≤ k → impl_makeRow.f k W r1 b wd ls st f = some (ps, js, l, co)) ∧ ((co ≠ 0 ∧ js = []) ∨ (co = 0 ∧ Row W b ls ps js)) := by
  by_cases hin : inB f ls b = true
  · have hi := inB_true.1 hin
    by_cases hwf : W ≤ f
    · refine ⟨[W], [], W, 0, fun k hk => ?_, .inr ⟨rfl, by simp [sumI], rfl, by simp; omega, ?_, ?_, ?_⟩⟩
      · unfold impl_makeRow.f
        rw [within_f, hin]
        simp only [Option.bind_some, if_true]
        rw [if_pos hwf]
      · intro x hx; obtain rfl := List.mem_singleton.1 hx; omega
      · intro h; simp at h
      · intro x hx; cases hx
    · have key : ∀ k, 30000 ≤ k → ∃ ps' js' l' co, impl_makeRow.l0 k f W r1 b wd ls st [f] [] 0 = some (ps', js', l', co) ∧ ((co = 6 ∧ js' = []) ∨ (co = 0 ∧ Row W b ls ps' js')) := fun k hk =>
        make_l W r1 b wd ls st hW hb0 hb1 hl0 hl1 (W - f).toNat f k [f] [] 0 (Nat.le_refl _) (by omega) (by omega) (by omega) (by intro x hx; obtain rfl := List.mem_singleton.1 hx; omega) (by simp [sumI]) rfl (by simp; omega) (by intro x hx; cases hx)
      obtain ⟨ps, js, l, co, e, hh⟩ := key 30000 (Nat.le_refl _)
      refine ⟨ps, js, l, co, fun k hk => ?_, ?_⟩
      · have mono : ∀ d, impl_makeRow.l0 (30000 + d) f W r1 b wd ls st [f] [] 0 = some (ps, js, l, co) := by
          intro d
          induction d with
          | zero => exact e
          | succ d ih => exact (impl_makeRow.mono_l _ _ _ _ _ _ _ _ _ _ _) _ ih
        unfold impl_makeRow.f
        rw [within_f, hin]
        simp only [Option.bind_some, if_true]
        rw [if_neg hwf, show k = 30000 + (k - 30000) by omega]
        exact mono _
      · rcases hh with ⟨h1, h2⟩ | h
        · exact .inl ⟨by rw [h1]; decide, h2⟩
        · exact .inr h
  · refine ⟨[], [], 0, 2, fun k hk => ?_, .inl ⟨by decide, rfl⟩⟩
    unfold impl_makeRow.f
    rw [within_f, Bool.eq_false_iff.2 hin]
    rfl
theorem sum_nonneg : ∀ xs : List Int, (∀ x ∈ xs, 0 ≤ x) → 0 ≤ sumI xs
  | [], _ => by simp [sumI]
  | a :: t, h => by
    have h1 := h a (by simp)
    have h2 := sum_nonneg t (fun x hx => h x (by simp [hx]))
    simp only [sumI, List.foldr_cons] at h2 ⊢
    omega
theorem sum_l (xs : List Int) (hn : xs.length ≤ 1000000) (hp : ∀ x ∈ xs, 0 ≤ x) : ∀ (t : List Int) (i k : Nat) (acc : Int), xs.drop i = t → i ≤ xs.length → t.length < k → 0 ≤ acc → acc + sumI t ≤ 1000000 → laws_b10Sum.l0 k xs acc (i : Int) = some (acc + sumI t) := by
  intro t
  induction t with
  | nil =>
    intro i k acc ht hi hk ha hs
    obtain ⟨k, rfl⟩ : ∃ m, k = m + 1 := ⟨k - 1, by omega⟩
    have := List.drop_eq_nil_iff.1 ht
    simp only [laws_b10Sum.l0]
    rw [if_neg (by omega)]
    simp [sumI]
  | cons a t ih =>
    intro i k acc ht hi hk ha hs
    obtain ⟨k, rfl⟩ : ∃ m, k = m + 1 := ⟨k - 1, by omega⟩
    have hlt : i < xs.length := by
      rcases Nat.lt_or_ge i xs.length with h | h
      · exact h
      · rw [List.drop_eq_nil_of_le h] at ht; cases ht
    rw [List.drop_eq_getElem_cons hlt] at ht
    obtain ⟨h1, h2⟩ := List.cons.inj ht
    have hrd : rd xs (i : Int) = a := by unfold rd; simp [hlt, h1]
    have ha0 : 0 ≤ a := by rw [← h1]; exact hp _ (List.getElem_mem hlt)
    have ht0 : 0 ≤ sumI t := sum_nonneg t (fun x hx => hp x (List.mem_of_mem_drop (h2 ▸ hx : x ∈ xs.drop (i + 1))))
    have hst : sumI (a :: t) = a + sumI t := rfl
    simp only [laws_b10Sum.l0]
    rw [if_pos (by omega), if_pos (by omega), hrd, wrap_id (x := acc + a) (by omega) (by omega), wrap_next (n := xs.length) hlt (by omega), ih (i + 1) k _ h2 (by omega) (by simp at hk; omega) (by omega) (by omega), hst]
    congr 1
    omega
theorem sum_f (xs : List Int) (hn : xs.length ≤ 1000000) (hp : ∀ x ∈ xs, 0 ≤ x) (hs : sumI xs ≤ 1000000) (k : Nat) (hk : xs.length < k) : laws_b10Sum.f k xs = some (sumI xs) := by
  unfold laws_b10Sum.f
  have := sum_l xs hn hp xs 0 k 0 rfl (by omega) hk (by omega) (by omega)
  simpa using this
theorem abs_eq (a : Int) (h0 : -100000 ≤ a) (h1 : a ≤ 100000) : impl_absolute.f a = some (if a < 0 then -a else a) := by
  unfold impl_absolute.f mx
  rw [wrap_id (by omega) (by omega)]
  congr 1
  split <;> split <;> omega
theorem rd_in (xs : List Int) (W : Int) (hx : ∀ x ∈ xs, 0 ≤ x ∧ x ≤ W) (i : Nat) (hi : i < xs.length) : 0 ≤ rd xs (i : Int) ∧ rd xs (i : Int) ≤ W := by
  have : rd xs (i : Int) = xs[i] := by unfold rd; simp [hi]
  rw [this]
  exact hx _ (List.getElem_mem hi)
theorem stag_l (W st b wd ls : Int) (hW0 : 0 ≤ W) (hW : W ≤ 20000) (hst : 0 ≤ st) (px xs : List Int) (lx : Int) (py ys : List Int) (ly : Int) (hx : ∀ x ∈ xs, 0 ≤ x ∧ x ≤ W) (hy : ∀ x ∈ ys, 0 ≤ x ∧ x ≤ W) (hxl : xs.length ≤ 1000000) (hyl : ys.length ≤ 1000000) :
    ∀ (d i n k : Nat), (xs.length - i) + (ys.length - n) ≤ d → 2 * d + 2 ≤ k → i ≤ xs.length → n ≤ ys.length →
    (st = 0 → impl_staggered.l0 k (i : Int) (n : Int) px xs lx py ys ly b wd ls st = some true) ∧
    ∃ r, impl_staggered.l0 k (i : Int) (n : Int) px xs lx py ys ly b wd ls st = some r ∧ (1 ≤ st → impl_staggered.l0 k (n : Int) (i : Int) py ys ly px xs lx b wd ls st = some r) := by
  intro d
  induction d with
  | zero =>
    intro i n k h1 h2 h3 h4
    obtain ⟨k, rfl⟩ : ∃ m, k = m + 2 := ⟨k - 2, by omega⟩
    have e : ∀ (i n : Nat) (px xs : List Int) (lx : Int) (py ys : List Int) (ly : Int), ¬ i < xs.length → impl_staggered.l0 (k + 2) (i : Int) (n : Int) px xs lx py ys ly b wd ls st = some true := by
      intro i n px xs lx py ys ly hi
      simp only [impl_staggered.l0]
      rw [if_neg (by omega)]
      simp [impl_staggered.j1]
    refine ⟨fun _ => e i n px xs lx py ys ly (by omega), true, e i n px xs lx py ys ly (by omega), fun _ => e n i py ys ly px xs lx (by omega)⟩
  | succ d ih =>
    intro i n k h1 h2 h3 h4
    obtain ⟨k, rfl⟩ : ∃ m, k = m + 2 := ⟨k - 2, by omega⟩
    have done : ∀ (i n : Nat) (px xs : List Int) (lx : Int) (py ys : List Int) (ly : Int), ¬ (i < xs.length ∧ n < ys.length) → impl_staggered.l0 (k + 2) (i : Int) (n : Int) px xs lx py ys ly b wd ls st = some true := by
      intro i n px xs lx py ys ly hi
      simp only [impl_staggered.l0]
      by_cases hq : i < xs.length
      · rw [if_pos (by omega), decide_eq_false (by omega)]
        simp [impl_staggered.j1]
      · rw [if_neg (by omega)]
        simp [impl_staggered.j1]
    by_cases hboth : i < xs.length ∧ n < ys.length
    · obtain ⟨hi, hn⟩ := hboth
      have step : ∀ (i n : Nat) (px xs : List Int) (lx : Int) (py ys : List Int) (ly : Int), i < xs.length → n < ys.length → xs.length ≤ 1000000 → ys.length ≤ 1000000 → (∀ x ∈ xs, 0 ≤ x ∧ x ≤ W) → (∀ x ∈ ys, 0 ≤ x ∧ x ≤ W) →
          impl_staggered.l0 (k + 2) (i : Int) (n : Int) px xs lx py ys ly b wd ls st =
            if (if rd xs i - rd ys n < 0 then -(rd xs i - rd ys n) else rd xs i - rd ys n) < st then some false else if rd xs i < rd ys n then impl_staggered.l0 k ((i + 1 : Nat) : Int) (n : Int) px xs lx py ys ly b wd ls st else impl_staggered.l0 k (i : Int) ((n + 1 : Nat) : Int) px xs lx py ys ly b wd ls st := by
        intro i n px xs lx py ys ly hi hn hxl hyl hx hy
        have q1 := rd_in xs W hx i hi
        have q2 := rd_in ys W hy n hn
        simp only [impl_staggered.l0]
        rw [if_pos (by omega), decide_eq_true (by omega)]
        simp only [impl_staggered.j1]
        rw [if_pos trivial, if_pos (by omega), if_pos (by omega), if_pos (by omega), if_pos (by omega), wrap_id (x := rd xs i - rd ys n) (by omega) (by omega), abs_eq _ (by omega) (by omega), wrap_next (n := xs.length) hi (by omega), wrap_next (n := ys.length) hn (by omega)]
        rfl
      have s1 := step i n px xs lx py ys ly hi hn hxl hyl hx hy
      have s2 := step n i py ys ly px xs lx hn hi hyl hxl hy hx
      obtain ⟨a1, r1, b1, c1⟩ := ih (i + 1) n k (by omega) (by omega) (by omega) h4
      obtain ⟨a2, r2, b2, c2⟩ := ih i (n + 1) k (by omega) (by omega) h3 (by omega)
      rw [s1, s2]
      refine ⟨fun h0 => ?_, ?_⟩
      · rw [if_neg (by split <;> omega)]
        split
        · exact a1 h0
        · exact a2 h0
      · by_cases hf : (if rd xs i - rd ys n < 0 then -(rd xs i - rd ys n) else rd xs i - rd ys n) < st
        · refine ⟨false, by rw [if_pos hf], fun _ => ?_⟩
          rw [if_pos (by revert hf; split <;> split <;> omega)]
        · have hf2 : ¬ (if rd ys n - rd xs i < 0 then -(rd ys n - rd xs i) else rd ys n - rd xs i) < st := by revert hf; split <;> split <;> omega
          rw [if_neg hf, if_neg hf2]
          by_cases hlt : rd xs i < rd ys n
          · rw [if_pos hlt, if_neg (by omega)]
            exact ⟨r1, b1, c1⟩
          · rw [if_neg hlt]
            refine ⟨r2, b2, fun h => ?_⟩
            rw [if_pos (by revert hf; split <;> omega)]
            exact c2 h
    · refine ⟨fun _ => done i n px xs lx py ys ly hboth, true, done i n px xs lx py ys ly hboth, fun _ => done n i py ys ly px xs lx (by omega)⟩
def roomOk (r0 r1 b wd ls st : Int) : Bool := roomB r0 r1 && (inB b 10 5000 && inB wd 10 1000 && inB ls 1 b && inB st 0 (wrap64 (Int.tdiv b 2)))
theorem valid_f (a b : Int) : impl_ValidRoom.f a b = some (roomB a b) := by
  unfold impl_ValidRoom.f roomB
  rw [within_f, within_f]
  simp only [Option.bind_some]
  cases inB a 1 20000 <;> rfl
theorem code_f (r0 r1 b wd ls st : Int) : impl_roomCode.f r0 r1 b wd ls st = some (if roomOk r0 r1 b wd ls st = true then 0 else 1) := by
  unfold impl_roomCode.f impl_ValidStock.f roomOk
  rw [valid_f, within_f, within_f, within_f, within_f]
  simp only [Option.bind_some]
  cases roomB r0 r1 <;> cases inB b 10 5000 <;> cases inB wd 10 1000 <;> cases inB ls 1 b <;> cases inB st 0 (wrap64 (Int.tdiv b 2)) <;> rfl
theorem ok_bounds {r0 r1 b wd ls st : Int} (h : roomOk r0 r1 b wd ls st = true) : (1 ≤ r0 ∧ r0 ≤ 20000) ∧ (10 ≤ b ∧ b ≤ 5000) ∧ (1 ≤ ls ∧ ls ≤ b) ∧ 0 ≤ st := by
  unfold roomOk at h
  simp only [Bool.and_eq_true, inB_true, roomB_true] at h
  obtain ⟨⟨h1, _⟩, ⟨⟨h2, _⟩, h3⟩, h4, _⟩ := h
  exact ⟨h1, h2, h3, h4⟩
theorem staggered_eq (r0 r1 b wd ls st f g : Int) : ∃ r, ∀ k, 200000 ≤ k → impl_Staggered.f k r0 r1 b wd ls st f g = some r ∧ impl_Staggered.f k r0 r1 b wd ls st g f = some r := by
  by_cases hok : roomOk r0 r1 b wd ls st = true
  · obtain ⟨⟨w0, w1⟩, ⟨b0, b1⟩, ⟨l0, l1⟩, s0⟩ := ok_bounds hok
    obtain ⟨px, jx, lx, cx, ex, hx⟩ := make_f r0 r1 b wd ls st f w0 w1 (by omega) b1 l0 l1
    obtain ⟨py, jy, ly, cy, ey, hy⟩ := make_f r0 r1 b wd ls st g w0 w1 (by omega) b1 l0 l1
    have hcode : impl_roomCode.f r0 r1 b wd ls st = some 0 := by rw [code_f, if_pos hok]
    have shape : ∀ k, 200000 ≤ k → impl_Staggered.f k r0 r1 b wd ls st f g = (if cx = 0 then (if cy = 0 then impl_staggered.f k px jx lx py jy ly b wd ls st else some false) else some false) ∧ impl_Staggered.f k r0 r1 b wd ls st g f = (if cy = 0 then (if cx = 0 then impl_staggered.f k py jy ly px jx lx b wd ls st else some false) else some false) := by
      intro k hk
      unfold impl_Staggered.f
      rw [hcode]
      simp only [Option.bind_some, if_true]
      rw [ex k (by omega), ey k (by omega)]
      simp only [Option.bind_some]
      constructor
      · cases impl_staggered.f k px jx lx py jy ly b wd ls st <;> rfl
      · cases impl_staggered.f k py jy ly px jx lx b wd ls st <;> rfl
    by_cases hcx : cx = 0
    · by_cases hcy : cy = 0
      · rcases hx with h | ⟨_, hx⟩
        · exact absurd hcx h.1
        rcases hy with h | ⟨_, hy⟩
        · exact absurd hcy h.1
        have nx : jx.length ≤ 20000 := by have h1 := hx.len; have h2 := hx.few; omega
        have ny : jy.length ≤ 20000 := by have h1 := hy.len; have h2 := hy.few; omega
        have A := fun k => stag_l r0 st b wd ls (by omega) w1 s0 px jx lx py jy ly hx.jr hy.jr (by omega) (by omega) 40000 0 0 k (by omega)
        have B := fun k => stag_l r0 st b wd ls (by omega) w1 s0 py jy ly px jx lx hy.jr hx.jr (by omega) (by omega) 40000 0 0 k (by omega)
        have mono : ∀ (r : Bool) (a b_ : Int) (p1 q1 : List Int) (l1 : Int) (p2 q2 : List Int) (l2 : Int) (d : Nat), impl_staggered.l0 100000 a b_ p1 q1 l1 p2 q2 l2 b wd ls st = some r → impl_staggered.l0 (100000 + d) a b_ p1 q1 l1 p2 q2 l2 b wd ls st = some r := by
          intro r a b_ p1 q1 l1 p2 q2 l2 d h
          induction d with
          | zero => exact h
          | succ d ih => exact (impl_staggered.mono_l (100000 + d)).1 _ _ _ _ _ _ _ _ _ _ _ _ _ ih
        by_cases hs : st = 0
        · refine ⟨true, fun k hk => ?_⟩
          rw [(shape k hk).1, (shape k hk).2, if_pos hcx, if_pos hcy, if_pos hcy, if_pos hcx]
          exact ⟨(A k (by omega) (Nat.zero_le _) (Nat.zero_le _)).1 hs, (B k (by omega) (Nat.zero_le _) (Nat.zero_le _)).1 hs⟩
        · obtain ⟨_, r, h1, h2⟩ := A 100000 (by omega) (Nat.zero_le _) (Nat.zero_le _)
          refine ⟨r, fun k hk => ?_⟩
          rw [(shape k hk).1, (shape k hk).2, if_pos hcx, if_pos hcy, if_pos hcy, if_pos hcx, show k = 100000 + (k - 100000) by omega]
          exact ⟨mono _ _ _ _ _ _ _ _ _ _ h1, mono _ _ _ _ _ _ _ _ _ _ (h2 (by omega))⟩
      · exact ⟨false, fun k hk => by rw [(shape k hk).1, (shape k hk).2, if_pos hcx, if_neg hcy, if_neg hcy]; exact ⟨rfl, rfl⟩⟩
    · refine ⟨false, fun k hk => ?_⟩
      rw [(shape k hk).1, (shape k hk).2, if_neg hcx, if_neg hcx]
      exact ⟨rfl, by split <;> rfl⟩
  · refine ⟨false, fun k hk => ?_⟩
    have hcode : impl_roomCode.f r0 r1 b wd ls st = some 1 := by rw [code_f, if_neg hok]
    unfold impl_Staggered.f
    rw [hcode]
    exact ⟨rfl, rfl⟩
theorem scan_snoc : ∀ (p : List UInt8) (c : UInt8) (v : Nat), scan (p ++ [c]) v = (scan p v).bind fun u => if isD c = true then some (10 * u + (c.toNat - 48)) else none
  | [], c, v => by
    simp only [List.nil_append, scan, Option.bind_some]
  | a :: t, c, v => by
    simp only [List.cons_append, scan]
    split
    · exact scan_snoc t c _
    · rfl
theorem dg_isD {x : Nat} (hx : x < 10) : isD (UInt8.ofNat (48 + x)) = true ∧ (UInt8.ofNat (48 + x)).toNat = 48 + x := by
  have h : (UInt8.ofNat (48 + x)).toNat = 48 + x := by rw [UInt8.toNat_ofNat']; omega
  exact ⟨isD_true.2 (by rw [h]; omega), h⟩
theorem scan_dec (u : Nat) : scan (Lib.decDigits u) 0 = some u ∧ ∀ c ∈ Lib.decDigits u, isD c = true := by
  induction u using Nat.strongRecOn with
  | ind u ih =>
    rw [Lib.decDigits]
    split
    · rename_i h
      obtain ⟨h1, h2⟩ := dg_isD h
      refine ⟨?_, fun c hc => by rw [List.mem_singleton.1 hc]; exact h1⟩
      simp only [scan]
      rw [if_pos h1, h2]
      congr 1
      omega
    · obtain ⟨i1, i2⟩ := ih (u / 10) (by omega)
      obtain ⟨h1, h2⟩ := dg_isD (x := u % 10) (by omega)
      refine ⟨?_, fun c hc => ?_⟩
      · rw [scan_snoc, i1]
        simp only [Option.bind_some]
        rw [if_pos h1, h2]
        congr 1
        omega
      · rcases List.mem_append.1 hc with h | h
        · exact i2 c h
        · rw [List.mem_singleton.1 h]; exact h1
theorem numM_dec (u : Nat) (h0 : 1 ≤ u) (h1 : u ≤ 20000) : numM (Lib.decDigits u) = ((u : Int), true) := by
  obtain ⟨s1, s2⟩ := scan_dec u
  have hh : ¬ (Lib.decDigits u).head? = some 45 := by
    intro e
    cases hd : Lib.decDigits u with
    | nil => rw [hd] at e; cases e
    | cons c t =>
      rw [hd] at e s2
      have h2 := s2 c (by simp)
      obtain rfl := Option.some.inj e
      exact absurd h2 (by decide)
  have hd : digs (Lib.decDigits u) = Lib.decDigits u := by unfold digs; rw [if_neg hh]
  have hl : (Lib.decDigits u).length ≤ 13 := by
    have := decS_size (u : Int) (by omega) (by omega)
    unfold decS at this
    rw [Lib.itoa_nonneg] at this
    exact this
  unfold numM
  rw [hd, if_neg ?_, s1]
  · simp only
    rw [if_neg hh]
  · rintro (h | h | ⟨h, _⟩)
    · exact dec_ne u h
    · omega
    · exact dec_head u h0 h
theorem cut_mid : ∀ (p q : List UInt8), (∀ c ∈ p, isD c = true) → cutL (p ++ 120 :: q) = (p, q, true)
  | [], q, _ => by simp [cutL]
  | a :: t, q, h => by
    have ha : a ≠ 120 := fun e => absurd (h a (by simp)) (by rw [e]; decide)
    have ih := cut_mid t q (fun c hc => h c (by simp [hc]))
    simp only [List.cons_append, cutL]
    rw [if_neg ha, ih]
theorem text_read (a b : Int) : roomM (roomT a b).data.toList = (if roomB a b = true then (a, b, true) else (0, 0, false)) := by
  by_cases h : roomB a b = true
  · obtain ⟨⟨a0, a1⟩, b0, b1⟩ := roomB_true.1 h
    obtain ⟨u, rfl⟩ : ∃ u : Nat, a = u := ⟨a.toNat, by omega⟩
    obtain ⟨v, rfl⟩ : ∃ v : Nat, b = v := ⟨b.toNat, by omega⟩
    have e : (roomT (u : Int) (v : Int)).data.toList = Lib.decDigits u ++ 120 :: Lib.decDigits v := by
      unfold roomT
      rw [if_pos h]
      unfold roomS decS
      rw [Lib.itoa_nonneg, Lib.itoa_nonneg]
      simp [ByteArray.data_append]
    unfold roomM
    rw [e, cut_mid _ _ (scan_dec u).2, if_pos rfl]
    simp only
    rw [numM_dec u (by omega) (by omega), numM_dec v (by omega) (by omega), if_pos h]
    unfold ExtQ.pick
    simp only [Bool.and_self, Bool.true_and]
    rw [if_pos h]
  · unfold roomT
    rw [if_neg h, if_neg h]
    rfl
theorem text_size (a b : Int) : (roomT a b).size ≤ 1048576 := by
  unfold roomT
  split
  · rename_i h
    obtain ⟨⟨a0, a1⟩, b0, b1⟩ := roomB_true.1 h
    have s1 := decS_size a (by omega) (by omega)
    have s2 := decS_size b (by omega) (by omega)
    unfold roomS
    simp only [ByteArray.size_append]
    have : (⟨#[120]⟩ : ByteArray).size = 1 := rfl
    omega
  · show 0 ≤ 1048576
    omega
theorem j3_true (c : List Int) (hc : Byt c) (a b : Int) (k : Nat) (hk : 200001 ≤ k) : laws_FnRooms.j3 k c a b = some true := by
  obtain ⟨k, rfl⟩ : ∃ m, k = m + 1 := ⟨k - 1, by omega⟩
  obtain ⟨r0, r1, bb, wd, ls, st, f, g, e⟩ := stag_ok c hc
  obtain ⟨r, hr⟩ := staggered_eq r0 r1 bb wd ls st f g
  obtain ⟨h1, h2⟩ := hr k (by omega)
  simp only [laws_FnRooms.j3]
  rw [e]
  simp only [Option.bind_some]
  rw [h1, h2]
  simp only [Option.bind_some]
  rw [if_neg (by simp)]
  unfold impl_RoomText.f impl_ReadRoom.f spec_ValidRoom.f
  simp only [Option.bind_some]
  rw [if_pos (text_size a b), text_read]
  simp only [Option.bind_some]
  cases hb : roomB a b
  · rfl
  · simp
theorem l0_true (c : List Int) (hc : Byt c) (ps js : List Int) (r0 r1 b wd ls st : Int) (hr : Row r0 b ls ps js) (hn : ps.length ≤ 100000) : ∀ (d i k : Nat), i + d = ps.length → 200002 + d ≤ k → laws_FnRooms.l0 k c ps (i : Int) r0 r1 b wd ls st = some true := by
  intro d
  induction d with
  | zero =>
    intro i k hi hk
    obtain ⟨k, rfl⟩ : ∃ m, k = m + 1 := ⟨k - 1, by omega⟩
    simp only [laws_FnRooms.l0]
    rw [if_neg (by omega)]
    exact j3_true c hc r0 r1 k (by omega)
  | succ d ih =>
    intro i k hi hk
    obtain ⟨k, rfl⟩ : ∃ m, k = m + 1 := ⟨k - 1, by omega⟩
    have hlt : i < ps.length := by omega
    have hmem : rd ps (i : Int) ∈ ps := by
      have : rd ps (i : Int) = ps[i] := by unfold rd; simp [hlt]
      rw [this]
      exact List.getElem_mem hlt
    have hp := hr.pos _ hmem
    have hnext := ih (i + 1) k (by omega) (by omega)
    simp only [laws_FnRooms.l0]
    rw [if_pos (by omega), if_pos (by omega), if_neg (by omega)]
    split
    · rename_i h1
      have hl := hr.least (by omega) _ hmem
      rw [if_neg (by omega), if_neg (by omega), wrap_next (n := ps.length) hlt (by omega)]
      exact hnext
    · rw [if_neg (by omega), wrap_next (n := ps.length) hlt (by omega)]
      exact hnext
theorem j0_true (c0 c1 : List Int) (h0 : Byt c0) (h1 : Byt c1) (k : Nat) (hk : 400000 ≤ k) : laws_FnRooms.j0 k c0 c1 false = some true := by
  obtain ⟨k, rfl⟩ : ∃ m, k = m + 1 := ⟨k - 1, by omega⟩
  obtain ⟨r0, r1, b, wd, ls, st, f, e⟩ := pieces_ok c0 h0
  simp only [laws_FnRooms.j0]
  rw [if_neg (by decide), e]
  simp only [Option.bind_some]
  by_cases hok : roomOk r0 r1 b wd ls st = true
  · obtain ⟨⟨w0, w1⟩, ⟨b0, b1⟩, ⟨l0, l1⟩, s0⟩ := ok_bounds hok
    obtain ⟨ps, js, l, co, em, hh⟩ := make_f r0 r1 b wd ls st f w0 w1 (by omega) b1 l0 l1
    have hcode : impl_roomCode.f r0 r1 b wd ls st = some 0 := by rw [code_f, if_pos hok]
    have e1 : impl_RowPieces.f k r0 r1 b wd ls st f = some (ps, co) := by
      unfold impl_RowPieces.f
      rw [hcode]
      simp only [Option.bind_some, if_true]
      rw [em k (by omega)]
      rfl
    have e2 : impl_RowJoints.f k r0 r1 b wd ls st f = some (js, co) := by
      unfold impl_RowJoints.f
      rw [hcode]
      simp only [Option.bind_some, if_true]
      rw [em k (by omega)]
      rfl
    rw [e1, e2]
    simp only [Option.bind_some, if_true]
    by_cases hco : co = 0
    · rcases hh with h | ⟨_, hr⟩
      · exact absurd hco h.1
      have hlen := hr.len
      have hfew := hr.few
      rw [if_pos hco, sum_f ps (by omega) (fun x hx => by have := (hr.pos x hx).1; omega) (by rw [hr.sum]; omega) k (by omega)]
      simp only [Option.bind_some]
      rw [if_pos hr.sum, wrap_id (by omega) (by omega), show ((js.length : Int) != (ps.length : Int) - 1) = false by rw [bne_eq_false_iff_eq]; omega]
      obtain ⟨k, rfl⟩ : ∃ m, k = m + 1 := ⟨k - 1, by omega⟩
      simp only [laws_FnRooms.j1]
      rw [if_neg (by decide)]
      exact l0_true c1 h1 ps js r0 r1 b wd ls st hr (by omega) ps.length 0 k (by omega) (by omega)
    · rw [if_neg hco]
      exact j3_true c1 h1 r0 r1 k (by omega)
  · have hcode : impl_roomCode.f r0 r1 b wd ls st = some 1 := by rw [code_f, if_neg hok]
    have e1 : impl_RowPieces.f k r0 r1 b wd ls st f = some ([], 1) := by
      unfold impl_RowPieces.f
      rw [hcode]
      rfl
    have e2 : impl_RowJoints.f k r0 r1 b wd ls st f = some ([], 1) := by
      unfold impl_RowJoints.f
      rw [hcode]
      rfl
    rw [e1, e2]
    simp only [Option.bind_some, if_true]
    rw [if_neg (by decide)]
    exact j3_true c1 h1 r0 r1 k (by omega)
theorem law (c0 c1 : List Int) (h0 : Byt c0) (h1 : Byt c1) : ∃ k, laws_FnRooms.f k c0 c1 = some true := by
  refine ⟨400000, ?_⟩
  have long : laws_FnRooms.j0 400000 c0 c1 true = some true := by
    obtain ⟨k, hk⟩ : ∃ m, 400000 = m + 1 := ⟨399999, rfl⟩
    rw [hk]
    simp only [laws_FnRooms.j0]
    rw [if_pos trivial]
  unfold laws_FnRooms.f laws_b10Long.f
  simp only [Option.bind_some]
  cases hd0 : decide ((c0.length : Int) > 1048576)
  · rw [if_neg (by decide)]
    cases hd1 : decide ((c1.length : Int) > 1048576)
    · exact j0_true c0 c1 h0 h1 400000 (Nat.le_refl _)
    · exact long
  · rw [if_pos rfl]
    exact long
theorem byt_of (c : List Int) (h : ∀ n ∈ c, 0 ≤ n ∧ n ≤ 255) : Byt c := by
  intro i
  unfold rd
  rw [List.getD_eq_getElem?_getD]
  cases e : c[i.toNat]? with
  | none => exact ⟨by decide, by decide⟩
  | some x => exact h x (List.mem_of_getElem? e)
end Go.Proofs.YtdbgjjckafeenaaDoor.PuRm
