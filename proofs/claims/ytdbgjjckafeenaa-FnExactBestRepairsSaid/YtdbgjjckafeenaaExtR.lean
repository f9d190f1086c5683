/- The best repairs: what the program's function and the reference's tell; they tell the same. -/
import Derived.Test.YtdbgjjckafeenaaVis
import Derived.Test.YtdbgjjckafeenaaXRp0
namespace Go.Proofs.Ytdbgjjckafeenaa.ExtR
open Go.RowKit Go.Proofs.YtdbgjjckafeenaaW.PrintWords Go.Proofs.YtdbgjjckafeenaaW.PrintLast Go.Proofs.YtdbgjjckafeenaaW.PrintMore Go.Proofs.Ytdbgjjckafeenaa.Base Go.Proofs.Ytdbgjjckafeenaa.Ven Go.Proofs.Ytdbgjjckafeenaa.Loss Go.Proofs.Ytdbgjjckafeenaa.Rw Go.Proofs.Ytdbgjjckafeenaa.Rep Go.Proofs.Ytdbgjjckafeenaa.Vis Go.Proofs.Ytdbgjjckafeenaa.XRp
set_option linter.unusedVariables false
set_option linter.unusedSimpArgs false
set_option maxRecDepth 100000

def toL (x : S98) : Ls := ⟨x.f0, x.f1.f0, x.f1.f1, x.f1.f2, x.f2, x.f3, x.f4, x.f5⟩
theorem C_L {w : World} {A : Option Addr} {n : Nat} {xs : List S98} (h : Kd.C k98 w A n xs) : kL.C w A n (xs.map toL) := by
  obtain ⟨h1, h2, h3⟩ := h
  refine ⟨by simpa using h1, h2, fun hn => ?_⟩
  obtain ⟨ad, e, hc⟩ := h3 hn
  refine ⟨ad, e, fun j p hp => ?_⟩
  rw [List.getElem?_map] at hp
  obtain ⟨y, hy, rfl⟩ := Option.map_eq_some_iff.1 hp
  obtain ⟨c, hs, hr, hcell⟩ := hc j y hy
  obtain rfl := k98_open hr
  exact ⟨_, rfl, rfl, hcell⟩

theorem fit_of {xs : List Ls} (h : lossesB xs = true) : Fit xs := by
  unfold lossesB at h
  rw [Bool.and_eq_true] at h
  have h1 := of_decide_eq_true h.1
  have h2 := of_decide_eq_true h.2
  have h3 : ∀ k, k < xs.length → inB (gL xs k).pr 1 9 = true ∧ inB (gL xs k).co 0 1000000 = true ∧ inB (gL xs k).mi 0 10000 = true := by
    intro k hk
    have := (h1 k hk).1
    unfold lossB at this
    simp only [Bool.and_eq_true] at this
    exact ⟨this.1.1.2, this.1.2, this.2⟩
  exact ⟨h2, fun k hk => inB_true.1 (h3 k hk).2.1, fun k hk => inB_true.1 (h3 k hk).2.2, fun k hk => inB_true.1 (h3 k hk).1⟩

/-- The code of losses, money, time and a budget. -/
def limB (mo mi : Int) : Bool := inB mo 0 16000000 && inB mi 0 160000
def codeR (xs : List Ls) (mo mi b : Int) : Int := if lossesB xs = true then (if (inB b 1 20000 && limB mo mi) = true then 0 else 2) else 1
def bestI (xs : List Ls) (mo mi b : Int) : List Int × Int × Int :=
  if codeR xs mo mi b = 0 then
    (if (enterR xs xs.length 0 ⟨b, [], 0⟩ [] 0 mo mi).1 = true then ([], 0, 5) else ((enterR xs xs.length 0 ⟨b, [], 0⟩ [] 0 mo mi).2.best, (enterR xs xs.length 0 ⟨b, [], 0⟩ [] 0 mo mi).2.most, 0))
  else ([], 0, codeR xs mo mi b)
def bestV (xs : List Ls) (mo mi b : Int) : List Int × Int × Int :=
  if codeR xs mo mi b = 0 then
    (if (enterV xs b xs.length 0 ⟨[], 0, 0⟩ [] 0 mo mi).nodes > b then ([], 0, 5) else ((enterV xs b xs.length 0 ⟨[], 0, 0⟩ [] 0 mo mi).best, (enterV xs b xs.length 0 ⟨[], 0, 0⟩ [] 0 mo mi).most, 0))
  else ([], 0, codeR xs mo mi b)

/-! The program stops at the spent budget, the reference counts on: they tell the same. -/
theorem updRV (b : Int) (st : RSt) (sv : VSt) (ch : List Int) (pr : Int) (h1 : sv.nodes = b - st.left) (h2 : sv.best = st.best) (h3 : sv.most = st.most) :
    (updV sv ch pr).nodes = b - (updR st ch pr).left ∧ (updV sv ch pr).best = (updR st ch pr).best ∧ (updV sv ch pr).most = (updR st ch pr).most := by
  unfold updV updR
  rw [h3]
  split <;> exact ⟨by simp only; omega, by first | rfl | exact h2, by first | rfl | exact h3⟩
theorem runV_over (xs : List Ls) (b : Int) (d k : Nat) (sv : VSt) (ch : List Int) (pr mo mi : Int) (h : sv.nodes > b) : (runV xs b d k sv ch pr mo mi).nodes > b := by
  have := (runV_nodes xs b d k sv ch pr mo mi).1
  omega
theorem same (xs : List Ls) (b : Int) (d : Nat) : ∀ (k : Nat) (st : RSt) (sv : VSt) (ch : List Int) (pr mo mi : Int), 0 ≤ st.left → sv.nodes = b - st.left → sv.best = st.best → sv.most = st.most →
    ((runR xs d k st ch pr mo mi).1 = true → (runV xs b d k sv ch pr mo mi).nodes > b) ∧
    ((runR xs d k st ch pr mo mi).1 = false → (runV xs b d k sv ch pr mo mi).nodes = b - (runR xs d k st ch pr mo mi).2.left ∧ (runV xs b d k sv ch pr mo mi).best = (runR xs d k st ch pr mo mi).2.best ∧ (runV xs b d k sv ch pr mo mi).most = (runR xs d k st ch pr mo mi).2.most) := by
  induction d with
  | zero =>
    intro k st sv ch pr mo mi h0 h1 h2 h3
    simp only [runR, runV]
    exact ⟨(fun h => by cases h), fun _ => ⟨h1, h2, h3⟩⟩
  | succ d ih =>
    intro k st sv ch pr mo mi h0 h1 h2 h3
    by_cases hc : (gL xs k).co > mo ∨ (gL xs k).mi > mi
    · rw [runR_dear hc, runV_dear hc]
      exact ih (k + 1) st sv ch pr mo mi h0 h1 h2 h3
    · rw [runV_go hc]
      by_cases hz : st.left = 0
      · have e1 : enterR xs d (k + 1) st (ch ++ [(k : Int)]) (pr + (gL xs k).pr) (mo - (gL xs k).co) (mi - (gL xs k).mi) = (true, st) := by unfold enterR; rw [if_pos hz]
        rw [runR_stop hc e1]
        refine ⟨fun _ => runV_over _ _ _ _ _ _ _ _ _ ?_, fun h => by cases h⟩
        unfold enterV
        rw [if_pos (by omega)]
        simp only
        omega
      · have e1 : enterR xs d (k + 1) st (ch ++ [(k : Int)]) (pr + (gL xs k).pr) (mo - (gL xs k).co) (mi - (gL xs k).mi) = runR xs d (k + 1) (updR st (ch ++ [(k : Int)]) (pr + (gL xs k).pr)) (ch ++ [(k : Int)]) (pr + (gL xs k).pr) (mo - (gL xs k).co) (mi - (gL xs k).mi) := by unfold enterR; rw [if_neg hz]
        have e2 : enterV xs b d (k + 1) sv (ch ++ [(k : Int)]) (pr + (gL xs k).pr) (mo - (gL xs k).co) (mi - (gL xs k).mi) = runV xs b d (k + 1) (updV sv (ch ++ [(k : Int)]) (pr + (gL xs k).pr)) (ch ++ [(k : Int)]) (pr + (gL xs k).pr) (mo - (gL xs k).co) (mi - (gL xs k).mi) := by unfold enterV; rw [if_neg (by omega)]
        obtain ⟨u1, u2, u3⟩ := updRV b st sv (ch ++ [(k : Int)]) (pr + (gL xs k).pr) h1 h2 h3
        have hul := updR_left st (ch ++ [(k : Int)]) (pr + (gL xs k).pr)
        obtain ⟨i1, i2⟩ := ih (k + 1) (updR st (ch ++ [(k : Int)]) (pr + (gL xs k).pr)) (updV sv (ch ++ [(k : Int)]) (pr + (gL xs k).pr)) (ch ++ [(k : Int)]) (pr + (gL xs k).pr) (mo - (gL xs k).co) (mi - (gL xs k).mi) (by omega) u1 u2 u3
        have hl := runR_left xs d (k + 1) (updR st (ch ++ [(k : Int)]) (pr + (gL xs k).pr)) (ch ++ [(k : Int)]) (pr + (gL xs k).pr) (mo - (gL xs k).co) (mi - (gL xs k).mi) (by omega)
        rw [e2]
        rw [← e1] at i1 i2 hl
        cases hb : (enterR xs d (k + 1) st (ch ++ [(k : Int)]) (pr + (gL xs k).pr) (mo - (gL xs k).co) (mi - (gL xs k).mi)).1 with
        | true =>
          rw [runR_stop hc (Prod.ext hb rfl)]
          exact ⟨fun _ => runV_over _ _ _ _ _ _ _ _ _ (i1 hb), fun h => by cases h⟩
        | false =>
          rw [runR_go hc (Prod.ext hb rfl)]
          obtain ⟨v1, v2, v3⟩ := i2 hb
          exact ih (k + 1) _ _ ch pr mo mi hl.1 v1 v2 v3
theorem best_same (xs : List Ls) (mo mi b : Int) : bestV xs mo mi b = bestI xs mo mi b := by
  unfold bestV bestI
  by_cases hc : codeR xs mo mi b = 0
  · rw [if_pos hc, if_pos hc]
    have hb : 1 ≤ b := by
      unfold codeR at hc
      split at hc
      · split at hc
        · rename_i h
          rw [Bool.and_eq_true] at h
          exact (inB_true.1 h.1).1
        · cases hc
      · cases hc
    have e1 : enterR xs xs.length 0 ⟨b, [], 0⟩ [] 0 mo mi = runR xs xs.length 0 (updR ⟨b, [], 0⟩ [] 0) [] 0 mo mi := by unfold enterR; rw [if_neg (by simp only; omega)]
    have e2 : enterV xs b xs.length 0 ⟨[], 0, 0⟩ [] 0 mo mi = runV xs b xs.length 0 (updV ⟨[], 0, 0⟩ [] 0) [] 0 mo mi := by unfold enterV; rw [if_neg (by simp only; omega)]
    obtain ⟨u1, u2, u3⟩ := updRV b ⟨b, [], 0⟩ ⟨[], 0, 0⟩ [] 0 (by simp only; omega) rfl rfl
    have hul := updR_left ⟨b, [], 0⟩ [] 0
    simp only at hul
    obtain ⟨i1, i2⟩ := same xs b xs.length 0 (updR ⟨b, [], 0⟩ [] 0) (updV ⟨[], 0, 0⟩ [] 0) [] 0 mo mi (by omega) u1 u2 u3
    have hl := runR_left xs xs.length 0 (updR ⟨b, [], 0⟩ [] 0) [] 0 mo mi (by omega)
    rw [← e1] at i1 i2 hl
    rw [← e2] at i1 i2
    cases hb : (enterR xs xs.length 0 ⟨b, [], 0⟩ [] 0 mo mi).1 with
    | true => rw [if_pos (i1 hb), if_pos rfl]
    | false =>
      obtain ⟨v1, v2, v3⟩ := i2 hb
      rw [if_neg (by rw [v1]; omega), if_neg (by simp), v2, v3]
  · rw [if_neg hc, if_neg hc]

set_option maxHeartbeats 1000000 in
theorem code_c (A0 : Option Addr) (c0 : Nat) (xs : List Ls) (mo mi b : Int) (w : World) (hr : kL.C w A0 xs.length xs) (hc0 : xs.length ≤ c0) :
    Calls Try.prog 54 #[.slice A0 xs.length c0, .int .i64 mo, .int .i64 mi, .int .i64 b] w fun e w' => e = .returned (.int .i64 (codeR xs mo mi b)) ∧ Below w.heap.size w w' := by
  have HR := Lib.hid hr
  clear hr
  cases h1 : lossesB xs <;> cases h2 : inB b 1 20000 <;> cases h3 : inB mo 0 16000000 <;> cases h4 : inB mi 0 160000
  all_goals
    have hE := Lib.hid (show codeR xs mo mi b = _ by unfold codeR limB; rw [h1, h2, h3, h4])
    have H1 := Lib.hid h1
    have H2 := Lib.hid h2
    have H3 := Lib.hid h3
    have H4 := Lib.hid h4
    clear h1 h2 h3 h4
    go_enter Try.func54, Try.ntmps54
    go_wp2_with (first | (go_at_call 81; refine (validLosses_c A0 c0 xs _ HR.out hc0).mono ?_; rintro e w1 ⟨rfl, hb⟩; rw [H1.out]; have HB := Lib.hid hb; clear hb) | (go_at_call 74; refine (within_c _ _ _ _).mono ?_; rintro e w' ⟨rfl, rfl⟩; first | rw [H2.out] | rw [H3.out] | rw [H4.out]))
    go_ret
    exact ⟨ret_int (by rw [hE.out]; rfl), HB.out⟩

theorem limits_c (mo mi : Int) (w : World) : Calls Try.prog 50 #[.int .i64 mo, .int .i64 mi] w fun e w' => e = .returned (.bool (limB mo mi)) ∧ w = w' := by
  cases h3 : inB mo 0 16000000 <;> cases h4 : inB mi 0 160000
  all_goals
    have hE := Lib.hid (show limB mo mi = _ by unfold limB; rw [h3, h4])
    have H3 := Lib.hid h3
    have H4 := Lib.hid h4
    clear h3 h4
    go_enter Try.func50, Try.ntmps50
    go_wp2_with (go_at_call 41; refine (in_c _ _ _ _).mono ?_; rintro e w' ⟨rfl, rfl⟩; first | rw [H3.out] | rw [H4.out])
    go_ret
    exact ⟨ret_bool (by rw [hE.out]; rfl), rfl⟩

/-- What a function that tells a row, a number and a code ends in. -/
def Told3 (w : World) (r : List Int × Int × Int) (e : Ending) (w' : World) : Prop :=
  ∃ v : Value, e = .returned (.tuple #[v, .int .i64 r.2.1, .int .i64 r.2.2]) ∧ kI.R 2 w' w.heap.size (fun _ => True) v r.1 ∧ Below w.heap.size w w'
theorem Told3.mk {w : World} {r : List Int × Int × Int} {v : Value} {m c : Int} {w' : World} (hr : r = (r.1, m, c)) (h : kI.R 2 w' w.heap.size (fun _ => True) v r.1) (hb : Below w.heap.size w w') :
    Told3 w r (.returned (.tuple #[v, .int .i64 m, .int .i64 c])) w' := by
  refine ⟨v, ?_, h, hb⟩
  rw [hr]

theorem code_zero {xs : List Ls} {mo mi b : Int} (h : codeR xs mo mi b = 0) : lossesB xs = true ∧ (1 ≤ b ∧ b ≤ 20000) ∧ (0 ≤ mo ∧ mo ≤ 16000000) ∧ 0 ≤ mi ∧ mi ≤ 160000 := by
  unfold codeR at h
  split at h
  · rename_i h1
    split at h
    · rename_i h2
      unfold limB at h2
      simp only [Bool.and_eq_true] at h2
      exact ⟨h1, inB_true.1 h2.1, inB_true.1 h2.2.1, inB_true.1 h2.2.2⟩
    · cases h
  · cases h

set_option maxHeartbeats 1000000 in
theorem bestI_c (A0 : Option Addr) (c0 : Nat) (xs : List Ls) (mo mi b : Int) (w : World) (hr : kL.C w A0 xs.length xs) (hc0 : xs.length ≤ c0) :
    Calls Try.prog 29 #[.slice A0 xs.length c0, .int .i64 mo, .int .i64 mi, .int .i64 b] w (Told3 w (bestI xs mo mi b)) := by
  have HR := Lib.hid hr
  clear hr
  by_cases hc : codeR xs mo mi b = 0
  · have hE := Lib.hid (show bestI xs mo mi b = _ by unfold bestI; rw [if_pos hc])
    obtain ⟨hl, ⟨b0, b1⟩, ⟨m0, m1⟩, n0, n1⟩ := code_zero hc
    have HF := Lib.hid (fit_of hl)
    have HC := Lib.hid hc
    clear hc hl
    cases hq : (enterR xs xs.length 0 ⟨b, [], 0⟩ [] 0 mo mi).1
    all_goals
      have HQ := Lib.hid hq
      clear hq
      go_enter Try.func29, Try.ntmps29
      go_wp2_with (go_at_call 54; refine (code_c A0 c0 xs mo mi b _ HR.out hc0).mono ?_; rintro e w1 ⟨rfl, hb⟩; rw [HC.out]; have HB := Lib.hid hb; clear hb)
      refine (run_c xs HF.out A0 c0 w HR.out hc0 w1.heap.size xs.length 0 0 ⟨b, [], 0⟩ none 0 [] 0 mo mi _ rfl (Nat.zero_add _) ⟨⟨none, 0, heap_alloc_new w1 _, Kd.R_nil _ _ _ _ _⟩, HB.out.size, below_alloc HB.out _⟩ (Kd.R_nil _ _ _ _ _) (Nat.le_refl _) (by simp only; omega) b1 (Int.le_refl _) (Int.le_refl _) m0 m1 n0 n1).mono ?_
      rintro e w2 ⟨rfl, hA2, hK2⟩
      rw [HQ.out]
      obtain ⟨Ab, cb, hG2, hS2⟩ := hA2.blk
      have e2 : w2.cell? ⟨w1.heap.size, 2, none⟩ = some (.slice Ab (enterR xs xs.length 0 ⟨b, [], 0⟩ [] 0 mo mi).2.best.length cb) := (blk_cell hG2 2).trans rfl
      have e3 : w2.cell? ⟨w1.heap.size, 3, none⟩ = some (.int .i64 (enterR xs xs.length 0 ⟨b, [], 0⟩ [] 0 mo mi).2.most) := (blk_cell hG2 3).trans rfl
      have HS2 := Lib.hid hS2
      have HA2 := Lib.hid hA2.below
      clear hG2 hS2 hA2 hK2
    · go_wp2
      go_quiet (fail)
      go_wp2
      go_ret3
      exact Told3.mk (by rw [hE.out, HQ.out]; rfl) (by rw [hE.out, HQ.out]; exact Kd.R_drewN (Kd.R_mono HS2.out (fun _ _ => trivial)) nq) (pw_below_drewN HA2.out nq)
    · go_wp2
      go_ret3
      exact Told3.mk (by rw [hE.out, HQ.out]; rfl) (by rw [hE.out, HQ.out]; exact Kd.R_nil _ _ _ _ _) HA2.out
  · have hE := Lib.hid (show bestI xs mo mi b = _ by unfold bestI; rw [if_neg hc])
    have hz : (codeR xs mo mi b != 0) = true := bne_iff_ne.mpr hc
    clear hc
    go_enter Try.func29, Try.ntmps29
    go_wp2_with (go_at_call 54; refine (code_c A0 c0 xs mo mi b _ HR.out hc0).mono ?_; rintro e w1 ⟨rfl, hb⟩; have HB := Lib.hid hb; clear hb)
    go_ret3
    exact Told3.mk (by rw [hE.out]) (by rw [hE.out]; exact Kd.R_nil _ _ _ _ _) HB.out

theorem pow_sixteen {n : Nat} (h : n ≤ 16) : (2 : Int) ^ n ≤ 65536 := by
  have h1 : (2 : Nat) ^ n ≤ 2 ^ 16 := Nat.pow_le_pow_right (by decide) h
  have h2 : ((2 ^ n : Nat) : Int) = (2 : Int) ^ n := by simp
  rw [← h2]
  exact Int.ofNat_le.2 h1
theorem updV_len {st : VSt} {ch : List Int} {pr : Int} {n : Nat} (h1 : st.best.length ≤ n) (h2 : ch.length ≤ n) : (updV st ch pr).best.length ≤ n := by
  unfold updV
  split
  · exact h2
  · exact h1
theorem runV_len (xs : List Ls) (b : Int) (n : Nat) (d : Nat) : ∀ (k : Nat) (st : VSt) (ch : List Int) (pr mo mi : Int), st.best.length ≤ n → ch.length + d ≤ n → (runV xs b d k st ch pr mo mi).best.length ≤ n := by
  induction d with
  | zero => intro k st ch pr mo mi h1 h2; rw [runV]; exact h1
  | succ d ih =>
    intro k st ch pr mo mi h1 h2
    rw [runV]
    split
    · exact ih _ _ _ _ _ _ h1 (by omega)
    · refine ih _ _ _ _ _ _ ?_ (by omega)
      split
      · exact h1
      · exact ih _ _ _ _ _ _ (updV_len h1 (by simp; omega)) (by simp; omega)
theorem enterV_len (xs : List Ls) (b : Int) (mo mi : Int) : (enterV xs b xs.length 0 ⟨[], 0, 0⟩ [] 0 mo mi).best.length ≤ xs.length := by
  unfold enterV
  split
  · exact Nat.zero_le _
  · exact runV_len _ _ _ _ _ _ _ _ _ _ (updV_len (Nat.zero_le _) (Nat.zero_le _)) (by simp)

set_option maxHeartbeats 1000000 in
theorem bestV_c (A0 : Option Addr) (c0 : Nat) (xs : List Ls) (mo mi b : Int) (w : World) (hr : kL.C w A0 xs.length xs) (hc0 : xs.length ≤ c0) :
    Calls Try.prog 27 #[.slice A0 xs.length c0, .int .i64 mo, .int .i64 mi, .int .i64 b] w (Told3 w (bestV xs mo mi b)) := by
  have HR := Lib.hid hr
  clear hr
  cases h1 : lossesB xs
  · have hE := Lib.hid (show bestV xs mo mi b = ([], 0, 1) by unfold bestV codeR; rw [h1]; rfl)
    have H1 := Lib.hid h1
    clear h1
    go_enter Try.func27, Try.ntmps27
    go_wp2_with (go_at_call 49; refine (l25Ok_c A0 c0 xs _ HR.out hc0).mono ?_; rintro e w1 ⟨rfl, hb⟩; rw [H1.out]; have HB := Lib.hid hb; clear hb)
    go_ret3
    exact Told3.mk (by rw [hE.out]) (by rw [hE.out]; exact Kd.R_nil _ _ _ _ _) HB.out
  cases h2 : inB b 1 20000 && limB mo mi
  · have hE := Lib.hid (show bestV xs mo mi b = ([], 0, 2) by unfold bestV codeR; rw [h1, h2]; rfl)
    have H1 := Lib.hid h1
    clear h1
    cases h3 : inB b 1 20000
    · have H3 := Lib.hid h3
      clear h2 h3
      go_enter Try.func27, Try.ntmps27
      go_wp2_with (first | (go_at_call 49; refine (l25Ok_c A0 c0 xs _ HR.out hc0).mono ?_; rintro e w1 ⟨rfl, hb⟩; rw [H1.out]; have HB := Lib.hid hb; clear hb) | (go_at_call 41; refine (in_c _ _ _ _).mono ?_; rintro e w' ⟨rfl, rfl⟩; rw [H3.out]))
      go_ret3
      exact Told3.mk (by rw [hE.out]) (by rw [hE.out]; exact Kd.R_nil _ _ _ _ _) HB.out
    · have H4 := Lib.hid (show limB mo mi = false by rw [h3] at h2; simpa using h2)
      have H3 := Lib.hid h3
      clear h2 h3
      go_enter Try.func27, Try.ntmps27
      go_wp2_with (first | (go_at_call 49; refine (l25Ok_c A0 c0 xs _ HR.out hc0).mono ?_; rintro e w1 ⟨rfl, hb⟩; rw [H1.out]; have HB := Lib.hid hb; clear hb) | (go_at_call 41; refine (in_c _ _ _ _).mono ?_; rintro e w' ⟨rfl, rfl⟩; rw [H3.out]) | (go_at_call 50; refine (limits_c _ _ _).mono ?_; rintro e w' ⟨rfl, rfl⟩; rw [H4.out]))
      go_ret3
      exact Told3.mk (by rw [hE.out]) (by rw [hE.out]; exact Kd.R_nil _ _ _ _ _) HB.out
  · have hc : codeR xs mo mi b = 0 := by unfold codeR; rw [h1, h2]; rfl
    obtain ⟨_, ⟨b0, b1⟩, ⟨m0, m1⟩, n0, n1⟩ := code_zero hc
    have HF := Lib.hid (fit_of h1)
    have hp := pow_sixteen HF.out.len
    have HP := Lib.hid (show (0 : Int) + 2 ^ xs.length ≤ 1000000 by omega)
    have hE := Lib.hid (show bestV xs mo mi b = _ by unfold bestV; rw [if_pos hc])
    have H1 := Lib.hid h1
    have H3 := Lib.hid (show inB b 1 20000 = true by rw [Bool.and_eq_true] at h2; exact h2.1)
    have H4 := Lib.hid (show limB mo mi = true by rw [Bool.and_eq_true] at h2; exact h2.2)
    clear h1 h2 hc hp
    by_cases hq : (enterV xs b xs.length 0 ⟨[], 0, 0⟩ [] 0 mo mi).nodes > b
    all_goals
      have HQ := Lib.hid hq
      clear hq
      go_enter Try.func27, Try.ntmps27
      go_wp2_with (first | (go_at_call 49; refine (l25Ok_c A0 c0 xs _ HR.out hc0).mono ?_; rintro e w1 ⟨rfl, hb⟩; rw [H1.out]; have HB := Lib.hid hb; clear hb) | (go_at_call 41; refine (in_c _ _ _ _).mono ?_; rintro e w' ⟨rfl, rfl⟩; rw [H3.out]) | (go_at_call 50; refine (limits_c _ _ _).mono ?_; rintro e w' ⟨rfl, rfl⟩; rw [H4.out]))
      refine (visit_c xs HF.out A0 c0 w HR.out hc0 b w1.heap.size xs.length 0 0 ⟨[], 0, 0⟩ [] 0 mo mi _ rfl (Nat.zero_add _) ⟨⟨none, 0, none, 0, heap_alloc_new w1 _, Kd.R_nil _ _ _ _ _, Kd.R_nil _ _ _ _ _⟩, HB.out.size, below_alloc HB.out _⟩ (Nat.le_refl _) (Int.le_refl _) HP.out (Int.le_refl _) (Int.le_refl _) m0 m1 n0 n1).mono ?_
      rintro e w2 ⟨rfl, hA2⟩
      obtain ⟨Ac, cc, Ab, cb, hG2, hR1, hR2⟩ := hA2.blk
      have e2 : w2.cell? ⟨w1.heap.size, 2, none⟩ = some (.slice Ab (enterV xs b xs.length 0 ⟨[], 0, 0⟩ [] 0 mo mi).best.length cb) := (blk_cell hG2 2).trans rfl
      have e3 : w2.cell? ⟨w1.heap.size, 3, none⟩ = some (.int .i64 (enterV xs b xs.length 0 ⟨[], 0, 0⟩ [] 0 mo mi).most) := (blk_cell hG2 3).trans rfl
      have e4 : w2.cell? ⟨w1.heap.size, 4, none⟩ = some (.int .i64 (enterV xs b xs.length 0 ⟨[], 0, 0⟩ [] 0 mo mi).nodes) := (blk_cell hG2 4).trans rfl
      have HS2 := Lib.hid (Kd.R_reads' hR2)
      have HA2 := Lib.hid hA2.below
      clear hG2 hR1 hR2 hA2
    · have hq := decide_eq_true HQ.out
      go_wp2
      go_ret3
      exact Told3.mk (by rw [hE.out, if_pos HQ.out]) (by rw [hE.out, if_pos HQ.out]; exact Kd.R_nil _ _ _ _ _) HA2.out
    · have hq := decide_eq_false (Int.not_lt.mpr HQ.out)
      go_wp2
      clear hq
      refine start_ (n := 12) (ds := []) (S := (fun W => W.cell? ⟨w1.heap.size, 2, none⟩ = some (.slice Ab (enterV xs b xs.length 0 ⟨[], 0, 0⟩ [] 0 mo mi).best.length cb) ∧ W.cell? ⟨w1.heap.size, 3, none⟩ = some (.int .i64 (enterV xs b xs.length 0 ⟨[], 0, 0⟩ [] 0 mo mi).most) ∧ kI.C W Ab (enterV xs b xs.length 0 ⟨[], 0, 0⟩ [] 0 mo mi).best.length (enterV xs b xs.length 0 ⟨[], 0, 0⟩ [] 0 mo mi).best ∧ Below w.heap.size w W)) (obits 12 0) (by kernel_rfl) rfl (by kernel_rfl) (⟨e2, e3, Kd.C_below HS2.out.2.2 (below_drew (Below.refl _ _)), below_drew HA2.out⟩) (fun hHeld => ?_)
      refine with_tabW (T := (true, [([], []), ([0], [0]), ([1], [1]), ([2], [2]), ([3], [3]), ([], []), ([5], [5]), ([6], [6]), ([7], [7]), ([4, 4, 0, 1, 2, 3, 4], [4]), ([8, 9, 0, 1, 2, 3, 4, 5, 6, 7, 8, 9], [8]), ([10, 0, 1, 2, 3, 4, 5, 6, 7, 8, 9, 10], [])])) (B := [0, 1, 3, 7, 15, 0, 32, 96, 224, 31, 1023, 2047]) (by kernel_rfl) (by kernel_rfl) (fun HT_ HW_ => ?_)
      refine pu HT_ 0 12 0 1 (some 38) rfl rfl (by kernel_rfl) (fun _ _ _ h => h) (Or.inl ⟨by rfl, fun w' => by go_simp; with_reducible rfl⟩) (by simp only [Act.put, List.setIfInBounds_toArray, List.set_cons_zero, List.set_cons_succ, i64_w, i32_w]; rfl) ?_
      refine pu HT_ 1 12 1 3 (some 39) rfl rfl (by kernel_rfl) (fun _ _ _ h => h) (Or.inl ⟨by rfl, fun w' => by go_simp; with_reducible rfl⟩) (by simp only [Act.put, List.setIfInBounds_toArray, List.set_cons_zero, List.set_cons_succ, i64_w, i32_w]; rfl) ?_
      refine pu HT_ 2 12 3 7 (some 40) rfl rfl (by kernel_rfl) (fun _ _ _ h => h) (Or.inl ⟨by rfl, fun w' => by go_simp; with_reducible rfl⟩) (by simp only [Act.put, List.setIfInBounds_toArray, List.set_cons_zero, List.set_cons_succ, i64_w, i32_w]; rfl) ?_
      refine tk HT_ HW_ 3 12 7 15 (some 41) rfl rfl (by kernel_rfl) (fun _ _ _ h => h) (Or.inl ⟨by rfl, fun w' hs => by have c2 := hs.1; have c3 := hs.2.1; clear hs; go_simp; with_reducible rfl⟩) hHeld (by simp only [Act.put, List.setIfInBounds_toArray, List.set_cons_zero, List.set_cons_succ, i64_w, i32_w]; rfl) ?_
      refine pu HT_ 5 12 15 47 (some 43) rfl rfl (by kernel_rfl) (fun _ _ _ h => h) (Or.inl ⟨by rfl, fun w' => by go_simp; with_reducible rfl⟩) (by simp only [Act.put, List.setIfInBounds_toArray, List.set_cons_zero, List.set_cons_succ, i64_w, i32_w]; rfl) ?_
      refine pu HT_ 6 12 47 111 (some 44) rfl rfl (by kernel_rfl) (fun _ _ _ h => h) (Or.inl ⟨by rfl, fun w' => by go_simp; with_reducible rfl⟩) (by simp only [Act.put, List.setIfInBounds_toArray, List.set_cons_zero, List.set_cons_succ, i64_w, i32_w]; rfl) ?_
      refine pu HT_ 7 12 111 239 (some 45) rfl rfl (by kernel_rfl) (fun _ _ _ h => h) (Or.inl ⟨by rfl, fun w' => by go_simp; with_reducible rfl⟩) (by simp only [Act.put, List.setIfInBounds_toArray, List.set_cons_zero, List.set_cons_succ, i64_w, i32_w]; rfl) ?_
      refine tk HT_ HW_ 8 12 239 495 (some 46) rfl rfl (by kernel_rfl) (fun _ _ _ h => h) (Or.inl ⟨by rfl, fun w' hs => by have c2 := hs.1; have c3 := hs.2.1; clear hs; go_simp; with_reducible rfl⟩) hHeld (by simp only [Act.put, List.setIfInBounds_toArray, List.set_cons_zero, List.set_cons_succ, i64_w, i32_w]; rfl) ?_
      refine ca HT_ 4 12 495 511 (some 42) rfl rfl (by kernel_rfl) (by decide) (fun K hK => ?_)
      refine goes_ Try.func52 (by kernel_rfl) rfl #[.slice Ab (enterV xs b xs.length 0 ⟨[], 0, 0⟩ [] 0 mo mi).best.length cb] (by rfl) rfl rfl (by (try simp only [List.map_toArray, List.map_cons, List.map_nil]); first | done | rfl | go_simp) ?_
      refine (own_c Ab cb _ _ hHeld.2.2.1 HS2.out.2.1 (by have h1_ := enterV_len xs b mo mi; have h2_ := HF.out.len; omega)).mono ?_
      rintro e W1 ⟨v1, rfl, hv1, hbw⟩
      refine ⟨_, rfl, ?_⟩
      refine hK.out _ _ (⟨Base.moved hbw hHeld.1, Base.moved hbw hHeld.2.1, Kd.C_below hHeld.2.2.1 hbw, below_weaken hHeld.2.2.2 hHeld.2.2.2.size hbw⟩) (fun hHeld => ?_)
      clear hK K
      refine norm_ (by simp only [Act.put, List.setIfInBounds_toArray, List.set_cons_zero, List.set_cons_succ, i64_w, i32_w]; rfl) ?_
      refine pu HT_ 9 12 511 1023 (some 8) rfl rfl (by kernel_rfl) (fun _ _ _ h => h) (Or.inl ⟨by rfl, fun w' => by go_simp; with_reducible rfl⟩) (by simp only [Act.put, List.setIfInBounds_toArray, List.set_cons_zero, List.set_cons_succ, i64_w, i32_w]; rfl) ?_
      refine pu HT_ 10 12 1023 2047 (some 9) rfl rfl (by kernel_rfl) (fun _ _ _ h => h) (Or.inl ⟨by rfl, fun w' => by go_simp; with_reducible rfl⟩) (by simp only [Act.put, List.setIfInBounds_toArray, List.set_cons_zero, List.set_cons_succ, i64_w, i32_w]; rfl) ?_
      refine pu HT_ 11 12 2047 4095 (some 10) rfl rfl (by kernel_rfl) (fun _ _ _ h => h) (Or.inl ⟨by rfl, fun w' => by go_simp; with_reducible rfl⟩) (by simp only [Act.put, List.setIfInBounds_toArray, List.set_cons_zero, List.set_cons_succ, i64_w, i32_w]; rfl) ?_
      refine done_ (done_of HT_.out (by kernel_rfl)) ?_
      go_wp2
      go_ret3
      exact Told3.mk (by rw [hE.out, if_neg (Int.not_lt.mpr HQ.out)]) (by rw [hE.out, if_neg (Int.not_lt.mpr HQ.out)]; exact Kd.R_lower hv1 HA2.out.size) hHeld.2.2.2

/-! For the printed law. -/
def impl_BestRepairs.f (l0 : List S98) (a1 : Int) (a2 : Int) (a3 : Int) : Option (List Int × Int × Int) := some (bestI (l0.map toL) a1 a2 a3)
def spec_BestRepairs.f (l0 : List S98) (a1 : Int) (a2 : Int) (a3 : Int) : Option (List Int × Int × Int) := some (bestV (l0.map toL) a1 a2 a3)
theorem impl_BestRepairs.calls (A0 : Option Addr) (c0 : Nat) (l0 : List S98) (a1 : Int) (a2 : Int) (a3 : Int) (r1 : List Int) (r2 : Int) (r3 : Int) (w : World) (hr0 : Kd.C k98 w A0 l0.length l0) (hc0 : l0.length ≤ c0) (h : impl_BestRepairs.f l0 a1 a2 a3 = some (r1, r2, r3)) :
    Calls Try.prog 29 #[.slice A0 l0.length c0, .int .i64 a1, .int .i64 a2, .int .i64 a3] w fun e w' => ∃ v0_ : Value, e = .returned (.tuple #[v0_, .int .i64 r2, .int .i64 r3]) ∧ Kd.R (Kd.int .i64) 2 w' w.heap.size (fun _ => True) v0_ r1 ∧ Below w.heap.size w w' := by
  have hl : (l0.map toL).length = l0.length := by simp
  have h2 := bestI_c A0 c0 (l0.map toL) a1 a2 a3 w (by rw [hl]; exact C_L hr0) (by rw [hl]; exact hc0)
  rw [hl] at h2
  refine h2.mono ?_
  rintro e w' ⟨v, he, hR, hb⟩
  rw [Option.some.inj h] at he hR
  exact ⟨v, he, hR, hb⟩
theorem spec_BestRepairs.calls (A0 : Option Addr) (c0 : Nat) (l0 : List S98) (a1 : Int) (a2 : Int) (a3 : Int) (r1 : List Int) (r2 : Int) (r3 : Int) (w : World) (hr0 : Kd.C k98 w A0 l0.length l0) (hc0 : l0.length ≤ c0) (h : spec_BestRepairs.f l0 a1 a2 a3 = some (r1, r2, r3)) :
    Calls Try.prog 27 #[.slice A0 l0.length c0, .int .i64 a1, .int .i64 a2, .int .i64 a3] w fun e w' => ∃ v0_ : Value, e = .returned (.tuple #[v0_, .int .i64 r2, .int .i64 r3]) ∧ Kd.R (Kd.int .i64) 2 w' w.heap.size (fun _ => True) v0_ r1 ∧ Below w.heap.size w w' := by
  have hl : (l0.map toL).length = l0.length := by simp
  have h2 := bestV_c A0 c0 (l0.map toL) a1 a2 a3 w (by rw [hl]; exact C_L hr0) (by rw [hl]; exact hc0)
  rw [hl] at h2
  refine h2.mono ?_
  rintro e w' ⟨v, he, hR, hb⟩
  rw [Option.some.inj h] at he hR
  exact ⟨v, he, hR, hb⟩
end Go.Proofs.Ytdbgjjckafeenaa.ExtR
