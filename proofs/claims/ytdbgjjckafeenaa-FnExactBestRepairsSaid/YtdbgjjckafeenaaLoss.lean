/- Losses: which ones are valid, in the program and in the reference. -/
import Derived.Test.YtdbgjjckafeenaaVen
namespace Go.Proofs.Ytdbgjjckafeenaa.Loss
open Go.RowKit Go.Proofs.YtdbgjjckafeenaaW.PrintWords Go.Proofs.YtdbgjjckafeenaaW.PrintLast Go.Proofs.YtdbgjjckafeenaaW.PrintMore Go.Proofs.Ytdbgjjckafeenaa.Base Go.Proofs.Ytdbgjjckafeenaa.Names Go.Proofs.Ytdbgjjckafeenaa.Ven
set_option linter.unusedVariables false
set_option linter.unusedSimpArgs false
set_option maxRecDepth 100000

structure Ls where
  nm : ByteArray
  sp : ByteArray
  sh : Int
  gr : Int
  ar : Int
  pr : Int
  co : Int
  mi : Int
def zL : Ls := ⟨ByteArray.empty, ByteArray.empty, 0, 0, 0, 0, 0, 0⟩
/-- The loss at a place. -/
def gL (xs : List Ls) (k : Nat) : Ls := xs.getD k zL
def encL (x : Ls) : List Value := [.string x.nm, .string x.sp, .int .i64 x.sh, .int .i64 x.gr, .int .i64 x.ar, .int .i64 x.pr, .int .i64 x.co, .int .i64 x.mi]
def kL : Kd Ls := flat 8 encL (fun _ => rfl) (fun x u hu => by simp [encL] at hu; rcases hu with rfl | rfl | rfl | rfl | rfl | rfl | rfl | rfl <;> rfl)
def lossB (x : Ls) : Bool := nameB x.nm && venB x.sp x.sh x.gr && inB x.ar 1 400000000 && inB x.pr 1 9 && inB x.co 0 1000000 && inB x.mi 0 10000

theorem at_L {w : World} {A : Option Addr} {n : Nat} {xs : List Ls} (h : kL.C w A n xs) (k : Nat) (hk : k < n) :
    ∃ ad, A = some ad ∧ w.cell? (ad.add (k * 8)) = some (.string (gL xs k).nm) ∧ w.cell? ⟨(ad.add (k * 8)).block, (ad.add (k * 8)).off + 1, none⟩ = some (.string (gL xs k).sp)
      ∧ w.cell? ⟨(ad.add (k * 8)).block, (ad.add (k * 8)).off + 2, none⟩ = some (.int .i64 (gL xs k).sh) ∧ w.cell? ⟨(ad.add (k * 8)).block, (ad.add (k * 8)).off + 3, none⟩ = some (.int .i64 (gL xs k).gr)
      ∧ w.cell? ⟨(ad.add (k * 8)).block, (ad.add (k * 8)).off + 4, none⟩ = some (.int .i64 (gL xs k).ar) ∧ w.cell? ⟨(ad.add (k * 8)).block, (ad.add (k * 8)).off + 5, none⟩ = some (.int .i64 (gL xs k).pr)
      ∧ w.cell? ⟨(ad.add (k * 8)).block, (ad.add (k * 8)).off + 6, none⟩ = some (.int .i64 (gL xs k).co) ∧ w.cell? ⟨(ad.add (k * 8)).block, (ad.add (k * 8)).off + 7, none⟩ = some (.int .i64 (gL xs k).mi) := by
  obtain ⟨ad, e, h0, hj⟩ := flat_at h zL k hk
  exact ⟨ad, e, h0 _ rfl, hj 1 _ (by omega) rfl, hj 2 _ (by omega) rfl, hj 3 _ (by omega) rfl, hj 4 _ (by omega) rfl, hj 5 _ (by omega) rfl, hj 6 _ (by omega) rfl, hj 7 _ (by omega) rfl⟩

theorem l25One_at (p : Addr) (x : Ls) (w : World) (h0 : w.cell? p = some (.string x.nm)) (h1 : w.cell? ⟨p.block, p.off + 1, none⟩ = some (.string x.sp)) (h2 : w.cell? ⟨p.block, p.off + 2, none⟩ = some (.int .i64 x.sh)) (h3 : w.cell? ⟨p.block, p.off + 3, none⟩ = some (.int .i64 x.gr))
    (h4 : w.cell? ⟨p.block, p.off + 4, none⟩ = some (.int .i64 x.ar)) (h5 : w.cell? ⟨p.block, p.off + 5, none⟩ = some (.int .i64 x.pr)) (h6 : w.cell? ⟨p.block, p.off + 6, none⟩ = some (.int .i64 x.co)) (h7 : w.cell? ⟨p.block, p.off + 7, none⟩ = some (.int .i64 x.mi)) :
    Calls Try.prog 79 #[.pointer (some p)] w fun e w' => e = .returned (.bool (lossB x)) ∧ Below w.heap.size w w' := by
  go_enter Try.func79, Try.ntmps79
  go_wp2_with (first | (go_at_call 89; refine (name_c _ _).mono ?_; rintro e w' ⟨rfl, rfl⟩) | (go_at_call 41; refine (in_c _ _ _ _).mono ?_; rintro e w' ⟨rfl, rfl⟩) | (go_at_call 92; refine (l07Ok_at _ x.sp x.sh x.gr _ (by assumption) (by assumption) (by assumption)).mono ?_; rintro e w1 ⟨rfl, hb⟩; replace h4 := moved hb h4; replace h5 := moved hb h5; replace h6 := moved hb h6; replace h7 := moved hb h7; have HB := Lib.hid hb; clear hb h0 h1 h2 h3))
  all_goals (go_ret; exact ⟨ret_bool (by simp [lossB, *]), by first | exact HB.out | exact Below.refl _ _⟩)

theorem validLoss_c (x : Ls) (w : World) : Calls Try.prog 93 #[.agg #[.string x.nm, .string x.sp, .int .i64 x.sh, .int .i64 x.gr, .int .i64 x.ar, .int .i64 x.pr, .int .i64 x.co, .int .i64 x.mi]] w fun e w' => e = .returned (.bool (lossB x)) ∧ Below w.heap.size w w' := by
  have hu := Try.underlying96
  go_enter Try.func93, Try.ntmps93
  go_wp2_with (first | (go_at_call 96; refine (isName_c _ _).mono ?_; rintro e w' ⟨rfl, rfl⟩) | (go_at_call 74; refine (within_c _ _ _ _).mono ?_; rintro e w' ⟨rfl, rfl⟩) | (go_at_call 102; refine (validVeneer_c _ _ _ _).mono ?_; rintro e w1 ⟨rfl, hb⟩; obtain ⟨hc, hf⟩ := bcell hb; have HB := Lib.hid (below_step (w := w) (by repeat (first | exact Below.refl _ _ | apply below_alloc)) hb); clear hb))
  all_goals (go_ret; exact ⟨ret_bool (by simp [lossB, *]), by first | exact HB.out | (repeat (first | exact Below.refl _ _ | apply below_alloc))⟩)

/-- A loss in a variable of its own. -/
abbrev boxL (x : Ls) : Obj := .cells #[.string x.nm, .string x.sp, .int .i64 x.sh, .int .i64 x.gr, .int .i64 x.ar, .int .i64 x.pr, .int .i64 x.co, .int .i64 x.mi] 98
abbrev aggL (x : Ls) : Value := .agg #[.string x.nm, .string x.sp, .int .i64 x.sh, .int .i64 x.gr, .int .i64 x.ar, .int .i64 x.pr, .int .i64 x.co, .int .i64 x.mi]
/-- A loss lies at p. -/
structure AtL (w : World) (p : Addr) (x : Ls) : Prop where
  g0 : w.cell? p = some (.string x.nm)
  g1 : w.cell? ⟨p.block, p.off + 1, none⟩ = some (.string x.sp)
  g2 : w.cell? ⟨p.block, p.off + 2, none⟩ = some (.int .i64 x.sh)
  g3 : w.cell? ⟨p.block, p.off + 3, none⟩ = some (.int .i64 x.gr)
  g4 : w.cell? ⟨p.block, p.off + 4, none⟩ = some (.int .i64 x.ar)
  g5 : w.cell? ⟨p.block, p.off + 5, none⟩ = some (.int .i64 x.pr)
  g6 : w.cell? ⟨p.block, p.off + 6, none⟩ = some (.int .i64 x.co)
  g7 : w.cell? ⟨p.block, p.off + 7, none⟩ = some (.int .i64 x.mi)
theorem AtL.moved {w w1 : World} {p : Addr} {x : Ls} (h : AtL w p x) (hb : Below w.heap.size w w1) : AtL w1 p x :=
  ⟨Base.moved hb h.g0, Base.moved hb h.g1, Base.moved hb h.g2, Base.moved hb h.g3, Base.moved hb h.g4, Base.moved hb h.g5, Base.moved hb h.g6, Base.moved hb h.g7⟩
theorem AtL.drew {w : World} {p : Addr} {x : Ls} (h : AtL w p x) : AtL w.drew p x := ⟨h.g0, h.g1, h.g2, h.g3, h.g4, h.g5, h.g6, h.g7⟩
/-- What a region is walked with: the loss, and that nothing elder has changed. -/
structure SB (w W : World) (p : Addr) (x : Ls) : Prop where
  at_ : AtL W p x
  below : Below w.heap.size w W
theorem SB.moved {w W w1 : World} {p : Addr} {x : Ls} (hb : Below W.heap.size W w1) (h : SB w W p x) : SB w w1 p x := ⟨h.at_.moved hb, below_step h.below hb⟩
theorem SB.first {w W : World} {p : Addr} {x : Ls} (h : AtL W p x) (hb : Below w.heap.size w W) : SB w W.drew p x := ⟨h.drew, below_drew hb⟩
theorem l25One_p (p : Addr) (x : Ls) (w : World) (h : AtL w p x) : Calls Try.prog 79 #[.pointer (some p)] w fun e w' => e = .returned (.bool (lossB x)) ∧ Below w.heap.size w w' :=
  l25One_at p x w h.g0 h.g1 h.g2 h.g3 h.g4 h.g5 h.g6 h.g7

/-- The names rise, and all are valid, of the first so many. -/
def okTo (xs : List Ls) (k : Nat) : Prop := ∀ i : Nat, i < k → lossB (gL xs i) = true ∧ (0 < i → Op.bytesLess (gL xs (i - 1)).nm.toList (gL xs i).nm.toList = true)
instance (xs : List Ls) (k : Nat) : Decidable (okTo xs k) := by unfold okTo; infer_instance
def lossesB (xs : List Ls) : Bool := decide (okTo xs xs.length) && decide (xs.length ≤ 16)
theorem okTo_zero (xs : List Ls) : okTo xs 0 := fun i hi => absurd hi (Nat.not_lt_zero i)
theorem okTo_succ {xs : List Ls} {k : Nat} (h : okTo xs k) (h1 : lossB (gL xs k) = true) (h2 : 0 < k → Op.bytesLess (gL xs (k - 1)).nm.toList (gL xs k).nm.toList = true) : okTo xs (k + 1) := by
  intro i hi
  rcases Nat.lt_or_ge i k with hlt | hge
  · exact h i hlt
  · obtain rfl : i = k := by omega
    exact ⟨h1, h2⟩
theorem bad_loss {xs : List Ls} {k : Nat} (hk : k < xs.length) (h : lossB (gL xs k) = false) : lossesB xs = false := by
  unfold lossesB
  rw [decide_eq_false (p := okTo xs xs.length) (fun hh => by have := (hh k hk).1; rw [h] at this; cases this)]
  rfl
theorem bad_name {xs : List Ls} {k : Nat} (hk : k + 1 < xs.length) (h : Op.bytesLess (gL xs k).nm.toList (gL xs (k + 1)).nm.toList = false) : lossesB xs = false := by
  unfold lossesB
  rw [decide_eq_false (p := okTo xs xs.length) (fun hh => by have := (hh (k + 1) hk).2 (by omega); rw [Nat.add_sub_cancel, h] at this; cases this)]
  rfl

set_option maxHeartbeats 1000000 in
theorem l25Ok_c (A0 : Option Addr) (c0 : Nat) (xs : List Ls) (w : World) (hr : kL.C w A0 xs.length xs) (hc0 : xs.length ≤ c0) :
    Calls Try.prog 49 #[.slice A0 xs.length c0] w fun e w' => e = .returned (.bool (lossesB xs)) ∧ Below w.heap.size w w' := by
  have hlen := hr.2.1
  go_enter Try.func49, Try.ntmps49
  go_wp2
  go_loopw [3] (fun i wr => ∃ k : Nat, k ≤ xs.length ∧ i = .int .i64 k ∧ okTo xs k ∧ Below w.heap.size w wr) (fun i _ => xs.length - (intOf i).toNat)
  case atStart => exact ⟨0, Nat.zero_le _, rfl, okTo_zero _, Below.refl _ _⟩
  case round =>
    obtain ⟨k, hk, rfl, hok, hB0⟩ := hrel
    have HB := Lib.hid hB0
    have HO := Lib.hid hok
    clear hB0 hok
    by_cases hlt : k < xs.length
    · obtain ⟨ad, rfl, g0, g1, g2, g3, g4, g5, g6, g7⟩ := at_L (Kd.C_below hr HB.out) k hlt
      cases hv : lossB (gL xs k) with
      | false =>
        have hbad := Lib.hid (bad_loss hlt hv)
        have HV := Lib.hid hv
        clear hv
        have hA : AtL wr (ad.add (k * 8)) (gL xs k) := ⟨g0, g1, g2, g3, g4, g5, g6, g7⟩
        clear g0 g1 g2 g3 g4 g5 g6 g7
        go_wp2
        refine start_ (n := 23) (ds := []) (S := (fun W => SB w W (ad.add (k * 8)) (gL xs k))) (obits 23 0) (by kernel_rfl) rfl (by kernel_rfl) (SB.first hA HB.out) (fun hHeld => ?_)
        refine with_tabW (T := (true, [([], []), ([], []), ([0, 1], [0, 1]), ([2], [2]), ([3], [3]), ([4, 3], [4]), ([5], [5]), ([6, 5], [5, 6]), ([7, 5, 5], [5, 7]), ([8], [8]), ([8], [8]), ([10, 8], [8, 10]), ([9, 11, 8], [8, 9, 11]), ([12, 8], [8, 12]), ([13, 8], [8, 13]), ([8], [8]), ([8], [8]), ([15, 16, 8], [8, 15, 16]), ([17, 8], [8, 17]), ([18, 8], [8, 18]), ([14, 19, 8], [8, 14, 19]), ([8, 20, 5], [5, 8, 20]), ([5, 21], [5, 21])])) (B := [0, 0, 3, 7, 15, 31, 63, 127, 255, 511, 511, 1535, 4095, 8191, 16383, 511, 511, 98815, 229887, 492031, 1048575, 2097151, 4194303]) (by kernel_rfl) (by kernel_rfl) (fun HT_ HW_ => ?_)
        refine pu HT_ 0 23 0 1 (some 10) rfl rfl (by kernel_rfl) (fun _ _ _ h => h) (Or.inl ⟨by rfl, fun w' => by go_simp; with_reducible rfl⟩) (by simp only [Act.put, List.setIfInBounds_toArray, List.set_cons_zero, List.set_cons_succ, i64_w, i32_w]; rfl) ?_
        refine pu HT_ 1 23 1 3 (some 11) rfl rfl (by kernel_rfl) (fun _ _ _ h => h) (Or.inl ⟨by rfl, fun w' => by go_simp; with_reducible rfl⟩) (by simp only [Act.put, List.setIfInBounds_toArray, List.set_cons_zero, List.set_cons_succ, i64_w, i32_w]; rfl) ?_
        refine pu HT_ 2 23 3 7 (some 12) rfl rfl (by kernel_rfl) (fun _ _ _ h => h) (Or.inl ⟨by rfl, fun w' => by go_simp; with_reducible rfl⟩) (by simp only [Act.put, List.setIfInBounds_toArray, List.set_cons_zero, List.set_cons_succ, i64_w, i32_w]; rfl) ?_
        refine ca HT_ 3 23 7 15 (some 13) rfl rfl (by kernel_rfl) (by decide) (fun K hK => ?_)
        refine goes_ Try.func79 (by kernel_rfl) rfl #[.pointer (some (ad.add (k * 8)))] (by rfl) rfl rfl (by (try simp only [List.map_toArray, List.map_cons, List.map_nil]); first | done | rfl | go_simp) ?_
        refine (l25One_p (ad.add (k * 8)) (gL xs k) _ hHeld.at_).mono ?_
        rintro e w1 ⟨rfl, hb⟩; rw [HV.out]
        refine ⟨_, rfl, ?_⟩
        refine hK.out _ _ (SB.moved hb hHeld) (fun hHeld => ?_)
        clear hK K
        refine norm_ (by simp only [Act.put, List.setIfInBounds_toArray, List.set_cons_zero, List.set_cons_succ, i64_w, i32_w]; rfl) ?_
        refine pu HT_ 4 23 15 31 (some 14) rfl rfl (by kernel_rfl) (fun _ _ _ h => h) (Or.inl ⟨by rfl, fun w' => by go_simp; with_reducible rfl⟩) (by simp only [Act.put, List.setIfInBounds_toArray, List.set_cons_zero, List.set_cons_succ, i64_w, i32_w]; rfl) ?_
        refine pu HT_ 5 23 31 63 (some 15) rfl rfl (by kernel_rfl) (fun _ _ _ h => h) (Or.inl ⟨by rfl, fun w' => by go_simp; with_reducible rfl⟩) (by simp only [Act.put, List.setIfInBounds_toArray, List.set_cons_zero, List.set_cons_succ, i64_w, i32_w]; rfl) ?_
        refine po HT_ 6 23 63 127 (some 16) rfl rfl (by kernel_rfl) (fun _ _ _ h => h) (by rfl) (by simp only [Act.put, List.setIfInBounds_toArray, List.set_cons_zero, List.set_cons_succ, i64_w, i32_w]; rfl) ?_
        refine po HT_ 7 23 127 255 (some 17) rfl rfl (by kernel_rfl) (fun _ _ _ h => h) (by rfl) (by simp only [Act.put, List.setIfInBounds_toArray, List.set_cons_zero, List.set_cons_succ, i64_w, i32_w]; rfl) ?_
        refine po HT_ 8 23 255 511 (some 18) rfl rfl (by kernel_rfl) (fun _ _ _ h => h) (by rfl) (by simp only [Act.put, List.setIfInBounds_toArray, List.set_cons_zero, List.set_cons_succ, i64_w, i32_w]; rfl) ?_
        refine po HT_ 9 23 511 1023 (some 19) rfl rfl (by kernel_rfl) (fun _ _ _ h => h) (by rfl) (by simp only [Act.put, List.setIfInBounds_toArray, List.set_cons_zero, List.set_cons_succ, i64_w, i32_w]; rfl) ?_
        refine po HT_ 10 23 1023 2047 (some 20) rfl rfl (by kernel_rfl) (fun _ _ _ h => h) (by rfl) (by simp only [Act.put, List.setIfInBounds_toArray, List.set_cons_zero, List.set_cons_succ, i64_w, i32_w]; rfl) ?_
        refine po HT_ 11 23 2047 4095 (some 21) rfl rfl (by kernel_rfl) (fun _ _ _ h => h) (by rfl) (by simp only [Act.put, List.setIfInBounds_toArray, List.set_cons_zero, List.set_cons_succ, i64_w, i32_w]; rfl) ?_
        refine po HT_ 12 23 4095 8191 (some 22) rfl rfl (by kernel_rfl) (fun _ _ _ h => h) (by rfl) (by simp only [Act.put, List.setIfInBounds_toArray, List.set_cons_zero, List.set_cons_succ, i64_w, i32_w]; rfl) ?_
        refine po HT_ 13 23 8191 16383 (some 23) rfl rfl (by kernel_rfl) (fun _ _ _ h => h) (by rfl) (by simp only [Act.put, List.setIfInBounds_toArray, List.set_cons_zero, List.set_cons_succ, i64_w, i32_w]; rfl) ?_
        refine po HT_ 14 23 16383 32767 (some 24) rfl rfl (by kernel_rfl) (fun _ _ _ h => h) (by rfl) (by simp only [Act.put, List.setIfInBounds_toArray, List.set_cons_zero, List.set_cons_succ, i64_w, i32_w]; rfl) ?_
        refine po HT_ 15 23 32767 65535 (some 25) rfl rfl (by kernel_rfl) (fun _ _ _ h => h) (by rfl) (by simp only [Act.put, List.setIfInBounds_toArray, List.set_cons_zero, List.set_cons_succ, i64_w, i32_w]; rfl) ?_
        refine po HT_ 16 23 65535 131071 (some 26) rfl rfl (by kernel_rfl) (fun _ _ _ h => h) (by rfl) (by simp only [Act.put, List.setIfInBounds_toArray, List.set_cons_zero, List.set_cons_succ, i64_w, i32_w]; rfl) ?_
        refine po HT_ 17 23 131071 262143 (some 27) rfl rfl (by kernel_rfl) (fun _ _ _ h => h) (by rfl) (by simp only [Act.put, List.setIfInBounds_toArray, List.set_cons_zero, List.set_cons_succ, i64_w, i32_w]; rfl) ?_
        refine po HT_ 18 23 262143 524287 (some 28) rfl rfl (by kernel_rfl) (fun _ _ _ h => h) (by rfl) (by simp only [Act.put, List.setIfInBounds_toArray, List.set_cons_zero, List.set_cons_succ, i64_w, i32_w]; rfl) ?_
        refine po HT_ 19 23 524287 1048575 (some 29) rfl rfl (by kernel_rfl) (fun _ _ _ h => h) (by rfl) (by simp only [Act.put, List.setIfInBounds_toArray, List.set_cons_zero, List.set_cons_succ, i64_w, i32_w]; rfl) ?_
        refine po HT_ 20 23 1048575 2097151 (some 30) rfl rfl (by kernel_rfl) (fun _ _ _ h => h) (by rfl) (by simp only [Act.put, List.setIfInBounds_toArray, List.set_cons_zero, List.set_cons_succ, i64_w, i32_w]; rfl) ?_
        refine po HT_ 21 23 2097151 4194303 (some 31) rfl rfl (by kernel_rfl) (fun _ _ _ h => h) (by rfl) (by simp only [Act.put, List.setIfInBounds_toArray, List.set_cons_zero, List.set_cons_succ, i64_w, i32_w]; rfl) ?_
        refine pu HT_ 22 23 4194303 8388607 (some 32) rfl rfl (by kernel_rfl) (fun _ _ _ h => h) (Or.inl ⟨by rfl, fun w' => by go_simp; with_reducible rfl⟩) (by simp only [Act.put, List.setIfInBounds_toArray, List.set_cons_zero, List.set_cons_succ, i64_w, i32_w]; rfl) ?_
        refine done_ (done_of HT_.out (by kernel_rfl)) ?_
        try go_wp2
        go_ret
        exact ⟨ret_bool hbad.out.symm, hHeld.below⟩
      | true =>
        have HV := Lib.hid hv
        have hA : AtL wr (ad.add (k * 8)) (gL xs k) := ⟨g0, g1, g2, g3, g4, g5, g6, g7⟩
        clear hv g0 g1 g2 g3 g4 g5 g6 g7
        cases k with
        | zero =>
          have hn := Lib.hid (okTo_succ HO.out HV.out (fun h => absurd h (Nat.lt_irrefl 0)))
          go_wp2
          refine start_ (n := 23) (ds := []) (S := (fun W => SB w W (ad.add (0 * 8)) (gL xs 0))) (obits 23 0) (by kernel_rfl) rfl (by kernel_rfl) (SB.first hA HB.out) (fun hHeld => ?_)
          refine with_tabW (T := (true, [([], []), ([], []), ([0, 1], [0, 1]), ([2], [2]), ([3], [3]), ([4, 3], [4]), ([5], [5]), ([6, 5], [5, 6]), ([7, 5, 5], [5, 7]), ([8], [8]), ([8], [8]), ([10, 8], [8, 10]), ([9, 11, 8], [8, 9, 11]), ([12, 8], [8, 12]), ([13, 8], [8, 13]), ([8], [8]), ([8], [8]), ([15, 16, 8], [8, 15, 16]), ([17, 8], [8, 17]), ([18, 8], [8, 18]), ([14, 19, 8], [8, 14, 19]), ([8, 20, 5], [5, 8, 20]), ([5, 21], [5, 21])])) (B := [0, 0, 3, 7, 15, 31, 63, 127, 255, 511, 511, 1535, 4095, 8191, 16383, 511, 511, 98815, 229887, 492031, 1048575, 2097151, 4194303]) (by kernel_rfl) (by kernel_rfl) (fun HT_ HW_ => ?_)
          refine pu HT_ 0 23 0 1 (some 10) rfl rfl (by kernel_rfl) (fun _ _ _ h => h) (Or.inl ⟨by rfl, fun w' => by go_simp; with_reducible rfl⟩) (by simp only [Act.put, List.setIfInBounds_toArray, List.set_cons_zero, List.set_cons_succ, i64_w, i32_w]; rfl) ?_
          refine pu HT_ 1 23 1 3 (some 11) rfl rfl (by kernel_rfl) (fun _ _ _ h => h) (Or.inl ⟨by rfl, fun w' => by go_simp; with_reducible rfl⟩) (by simp only [Act.put, List.setIfInBounds_toArray, List.set_cons_zero, List.set_cons_succ, i64_w, i32_w]; rfl) ?_
          refine pu HT_ 2 23 3 7 (some 12) rfl rfl (by kernel_rfl) (fun _ _ _ h => h) (Or.inl ⟨by rfl, fun w' => by go_simp; with_reducible rfl⟩) (by simp only [Act.put, List.setIfInBounds_toArray, List.set_cons_zero, List.set_cons_succ, i64_w, i32_w]; rfl) ?_
          refine ca HT_ 3 23 7 15 (some 13) rfl rfl (by kernel_rfl) (by decide) (fun K hK => ?_)
          refine goes_ Try.func79 (by kernel_rfl) rfl #[.pointer (some (ad.add (0 * 8)))] (by rfl) rfl rfl (by (try simp only [List.map_toArray, List.map_cons, List.map_nil]); first | done | rfl | go_simp) ?_
          refine (l25One_p (ad.add (0 * 8)) (gL xs 0) _ hHeld.at_).mono ?_
          rintro e w1 ⟨rfl, hb⟩; rw [HV.out]
          refine ⟨_, rfl, ?_⟩
          refine hK.out _ _ (SB.moved hb hHeld) (fun hHeld => ?_)
          clear hK K
          refine norm_ (by simp only [Act.put, List.setIfInBounds_toArray, List.set_cons_zero, List.set_cons_succ, i64_w, i32_w]; rfl) ?_
          refine pu HT_ 4 23 15 31 (some 14) rfl rfl (by kernel_rfl) (fun _ _ _ h => h) (Or.inl ⟨by rfl, fun w' => by go_simp; with_reducible rfl⟩) (by simp only [Act.put, List.setIfInBounds_toArray, List.set_cons_zero, List.set_cons_succ, i64_w, i32_w]; rfl) ?_
          refine pu HT_ 5 23 31 63 (some 15) rfl rfl (by kernel_rfl) (fun _ _ _ h => h) (Or.inl ⟨by rfl, fun w' => by go_simp; with_reducible rfl⟩) (by simp only [Act.put, List.setIfInBounds_toArray, List.set_cons_zero, List.set_cons_succ, i64_w, i32_w]; rfl) ?_
          refine pu HT_ 6 23 63 127 (some 16) rfl rfl (by kernel_rfl) (fun _ _ _ h => h) (Or.inl ⟨by rfl, fun w' => by go_simp; with_reducible rfl⟩) (by simp only [Act.put, List.setIfInBounds_toArray, List.set_cons_zero, List.set_cons_succ, i64_w, i32_w]; rfl) ?_
          refine pu HT_ 7 23 127 255 (some 17) rfl rfl (by kernel_rfl) (fun _ _ _ h => h) (Or.inl ⟨by rfl, fun w' => by go_simp; with_reducible rfl⟩) (by simp only [Act.put, List.setIfInBounds_toArray, List.set_cons_zero, List.set_cons_succ, i64_w, i32_w]; rfl) ?_
          refine pu HT_ 8 23 255 511 (some 18) rfl rfl (by kernel_rfl) (fun _ _ _ h => h) (Or.inl ⟨by rfl, fun w' => by go_simp; with_reducible rfl⟩) (by simp only [Act.put, List.setIfInBounds_toArray, List.set_cons_zero, List.set_cons_succ, i64_w, i32_w]; rfl) ?_
          refine po HT_ 9 23 511 1023 (some 19) rfl rfl (by kernel_rfl) (fun _ _ _ h => h) (by rfl) (by simp only [Act.put, List.setIfInBounds_toArray, List.set_cons_zero, List.set_cons_succ, i64_w, i32_w]; rfl) ?_
          refine po HT_ 10 23 1023 2047 (some 20) rfl rfl (by kernel_rfl) (fun _ _ _ h => h) (by rfl) (by simp only [Act.put, List.setIfInBounds_toArray, List.set_cons_zero, List.set_cons_succ, i64_w, i32_w]; rfl) ?_
          refine po HT_ 11 23 2047 4095 (some 21) rfl rfl (by kernel_rfl) (fun _ _ _ h => h) (by rfl) (by simp only [Act.put, List.setIfInBounds_toArray, List.set_cons_zero, List.set_cons_succ, i64_w, i32_w]; rfl) ?_
          refine po HT_ 12 23 4095 8191 (some 22) rfl rfl (by kernel_rfl) (fun _ _ _ h => h) (by rfl) (by simp only [Act.put, List.setIfInBounds_toArray, List.set_cons_zero, List.set_cons_succ, i64_w, i32_w]; rfl) ?_
          refine po HT_ 13 23 8191 16383 (some 23) rfl rfl (by kernel_rfl) (fun _ _ _ h => h) (by rfl) (by simp only [Act.put, List.setIfInBounds_toArray, List.set_cons_zero, List.set_cons_succ, i64_w, i32_w]; rfl) ?_
          refine po HT_ 14 23 16383 32767 (some 24) rfl rfl (by kernel_rfl) (fun _ _ _ h => h) (by rfl) (by simp only [Act.put, List.setIfInBounds_toArray, List.set_cons_zero, List.set_cons_succ, i64_w, i32_w]; rfl) ?_
          refine po HT_ 15 23 32767 65535 (some 25) rfl rfl (by kernel_rfl) (fun _ _ _ h => h) (by rfl) (by simp only [Act.put, List.setIfInBounds_toArray, List.set_cons_zero, List.set_cons_succ, i64_w, i32_w]; rfl) ?_
          refine po HT_ 16 23 65535 131071 (some 26) rfl rfl (by kernel_rfl) (fun _ _ _ h => h) (by rfl) (by simp only [Act.put, List.setIfInBounds_toArray, List.set_cons_zero, List.set_cons_succ, i64_w, i32_w]; rfl) ?_
          refine po HT_ 17 23 131071 262143 (some 27) rfl rfl (by kernel_rfl) (fun _ _ _ h => h) (by rfl) (by simp only [Act.put, List.setIfInBounds_toArray, List.set_cons_zero, List.set_cons_succ, i64_w, i32_w]; rfl) ?_
          refine po HT_ 18 23 262143 524287 (some 28) rfl rfl (by kernel_rfl) (fun _ _ _ h => h) (by rfl) (by simp only [Act.put, List.setIfInBounds_toArray, List.set_cons_zero, List.set_cons_succ, i64_w, i32_w]; rfl) ?_
          refine po HT_ 19 23 524287 1048575 (some 29) rfl rfl (by kernel_rfl) (fun _ _ _ h => h) (by rfl) (by simp only [Act.put, List.setIfInBounds_toArray, List.set_cons_zero, List.set_cons_succ, i64_w, i32_w]; rfl) ?_
          refine po HT_ 20 23 1048575 2097151 (some 30) rfl rfl (by kernel_rfl) (fun _ _ _ h => h) (by rfl) (by simp only [Act.put, List.setIfInBounds_toArray, List.set_cons_zero, List.set_cons_succ, i64_w, i32_w]; rfl) ?_
          refine pu HT_ 21 23 2097151 4194303 (some 31) rfl rfl (by kernel_rfl) (fun _ _ _ h => h) (Or.inl ⟨by rfl, fun w' => by go_simp; with_reducible rfl⟩) (by simp only [Act.put, List.setIfInBounds_toArray, List.set_cons_zero, List.set_cons_succ, i64_w, i32_w]; rfl) ?_
          refine pu HT_ 22 23 4194303 8388607 (some 32) rfl rfl (by kernel_rfl) (fun _ _ _ h => h) (Or.inl ⟨by rfl, fun w' => by go_simp; with_reducible rfl⟩) (by simp only [Act.put, List.setIfInBounds_toArray, List.set_cons_zero, List.set_cons_succ, i64_w, i32_w]; rfl) ?_
          refine done_ (done_of HT_.out (by kernel_rfl)) ?_
          try go_wp2
          go_roundw
          case rel => exact ⟨1, by omega, by go_num, hn.out, hHeld.below⟩
          case measure => simp [intOf]; omega
        | succ j =>
          obtain ⟨ad2, e2, q0, _⟩ := at_L (Kd.C_below hr HB.out) j (by omega)
          cases e2
          have i0 : 0 ≤ (j : Int) + 1 := by omega
          have i1 : (j : Int) < xs.length := by omega
          have i2 : (j + 1 : Int) < xs.length := by omega
          have iw := wrap_id (x := (j : Int)) (by omega) (by omega)
          cases hlt2 : Op.bytesLess (gL xs j).nm.toList (gL xs (j + 1)).nm.toList with
          | true =>
            have hn := Lib.hid (okTo_succ HO.out HV.out (fun _ => hlt2))
            go_wp2
            refine start_ (n := 23) (ds := []) (S := (fun W => SB w W (ad.add ((j + 1) * 8)) (gL xs (j + 1)) ∧ W.cell? (ad.add (j * 8)) = some (.string (gL xs j).nm))) (obits 23 0) (by kernel_rfl) rfl (by kernel_rfl) (⟨SB.first hA HB.out, q0⟩) (fun hHeld => ?_)
            refine with_tabW (T := (true, [([], []), ([], []), ([0, 1], [0, 1]), ([2], [2]), ([3], [3]), ([4, 3], [4]), ([5], [5]), ([6, 5], [5, 6]), ([7, 5, 5], [5, 7]), ([8], [8]), ([8], [8]), ([10, 8], [8, 10]), ([9, 11, 8], [8, 9, 11]), ([12, 8], [8, 12]), ([13, 8], [8, 13]), ([8], [8]), ([8], [8]), ([15, 16, 8], [8, 15, 16]), ([17, 8], [8, 17]), ([18, 8], [8, 18]), ([14, 19, 8], [8, 14, 19]), ([8, 20, 5], [5, 8, 20]), ([5, 21], [5, 21])])) (B := [0, 0, 3, 7, 15, 31, 63, 127, 255, 511, 511, 1535, 4095, 8191, 16383, 511, 511, 98815, 229887, 492031, 1048575, 2097151, 4194303]) (by kernel_rfl) (by kernel_rfl) (fun HT_ HW_ => ?_)
            refine pu HT_ 0 23 0 1 (some 10) rfl rfl (by kernel_rfl) (fun _ _ _ h => h) (Or.inl ⟨by rfl, fun w' => by go_simp; with_reducible rfl⟩) (by simp only [Act.put, List.setIfInBounds_toArray, List.set_cons_zero, List.set_cons_succ, i64_w, i32_w]; rfl) ?_
            refine pu HT_ 1 23 1 3 (some 11) rfl rfl (by kernel_rfl) (fun _ _ _ h => h) (Or.inl ⟨by rfl, fun w' => by go_simp; with_reducible rfl⟩) (by simp only [Act.put, List.setIfInBounds_toArray, List.set_cons_zero, List.set_cons_succ, i64_w, i32_w]; rfl) ?_
            refine pu HT_ 2 23 3 7 (some 12) rfl rfl (by kernel_rfl) (fun _ _ _ h => h) (Or.inl ⟨by rfl, fun w' => by go_simp; with_reducible rfl⟩) (by simp only [Act.put, List.setIfInBounds_toArray, List.set_cons_zero, List.set_cons_succ, i64_w, i32_w]; rfl) ?_
            refine ca HT_ 3 23 7 15 (some 13) rfl rfl (by kernel_rfl) (by decide) (fun K hK => ?_)
            refine goes_ Try.func79 (by kernel_rfl) rfl #[.pointer (some (ad.add ((j + 1) * 8)))] (by rfl) rfl rfl (by (try simp only [List.map_toArray, List.map_cons, List.map_nil]); first | done | rfl | go_simp) ?_
            refine (l25One_p (ad.add ((j + 1) * 8)) (gL xs (j + 1)) _ hHeld.1.at_).mono ?_
            rintro e w1 ⟨rfl, hb⟩; rw [HV.out]
            refine ⟨_, rfl, ?_⟩
            refine hK.out _ _ (⟨SB.moved hb hHeld.1, Base.moved hb hHeld.2⟩) (fun hHeld => ?_)
            clear hK K
            refine norm_ (by simp only [Act.put, List.setIfInBounds_toArray, List.set_cons_zero, List.set_cons_succ, i64_w, i32_w]; rfl) ?_
            refine pu HT_ 4 23 15 31 (some 14) rfl rfl (by kernel_rfl) (fun _ _ _ h => h) (Or.inl ⟨by rfl, fun w' => by go_simp; with_reducible rfl⟩) (by simp only [Act.put, List.setIfInBounds_toArray, List.set_cons_zero, List.set_cons_succ, i64_w, i32_w]; rfl) ?_
            refine pu HT_ 5 23 31 63 (some 15) rfl rfl (by kernel_rfl) (fun _ _ _ h => h) (Or.inl ⟨by rfl, fun w' => by go_simp; with_reducible rfl⟩) (by simp only [Act.put, List.setIfInBounds_toArray, List.set_cons_zero, List.set_cons_succ, i64_w, i32_w]; rfl) ?_
            refine pu HT_ 6 23 63 127 (some 16) rfl rfl (by kernel_rfl) (fun _ _ _ h => h) (Or.inl ⟨by rfl, fun w' => by go_simp; with_reducible rfl⟩) (by simp only [Act.put, List.setIfInBounds_toArray, List.set_cons_zero, List.set_cons_succ, i64_w, i32_w]; rfl) ?_
            refine pu HT_ 7 23 127 255 (some 17) rfl rfl (by kernel_rfl) (fun _ _ _ h => h) (Or.inl ⟨by rfl, fun w' => by go_simp; with_reducible rfl⟩) (by simp only [Act.put, List.setIfInBounds_toArray, List.set_cons_zero, List.set_cons_succ, i64_w, i32_w]; rfl) ?_
            refine pu HT_ 8 23 255 511 (some 18) rfl rfl (by kernel_rfl) (fun _ _ _ h => h) (Or.inl ⟨by rfl, fun w' => by go_simp; with_reducible rfl⟩) (by simp only [Act.put, List.setIfInBounds_toArray, List.set_cons_zero, List.set_cons_succ, i64_w, i32_w]; rfl) ?_
            refine pu HT_ 9 23 511 1023 (some 19) rfl rfl (by kernel_rfl) (fun _ _ _ h => h) (Or.inl ⟨by rfl, fun w' => by go_simp; with_reducible rfl⟩) (by simp only [Act.put, List.setIfInBounds_toArray, List.set_cons_zero, List.set_cons_succ, i64_w, i32_w]; rfl) ?_
            refine pu HT_ 10 23 1023 2047 (some 20) rfl rfl (by kernel_rfl) (fun _ _ _ h => h) (Or.inl ⟨by rfl, fun w' => by go_simp; with_reducible rfl⟩) (by simp only [Act.put, List.setIfInBounds_toArray, List.set_cons_zero, List.set_cons_succ, i64_w, i32_w]; rfl) ?_
            refine pu HT_ 11 23 2047 4095 (some 21) rfl rfl (by kernel_rfl) (fun _ _ _ h => h) (Or.inl ⟨by rfl, fun w' => by go_simp; with_reducible rfl⟩) (by simp only [Act.put, List.setIfInBounds_toArray, List.set_cons_zero, List.set_cons_succ, i64_w, i32_w]; rfl) ?_
            refine pu HT_ 12 23 4095 8191 (some 22) rfl rfl (by kernel_rfl) (fun _ _ _ h => h) (Or.inl ⟨by rfl, fun w' => by go_simp; with_reducible rfl⟩) (by simp only [Act.put, List.setIfInBounds_toArray, List.set_cons_zero, List.set_cons_succ, i64_w, i32_w]; rfl) ?_
            refine pu HT_ 13 23 8191 16383 (some 23) rfl rfl (by kernel_rfl) (fun _ _ _ h => h) (Or.inl ⟨by rfl, fun w' => by go_simp; with_reducible rfl⟩) (by simp only [Act.put, List.setIfInBounds_toArray, List.set_cons_zero, List.set_cons_succ, i64_w, i32_w]; rfl) ?_
            refine tk HT_ HW_ 14 23 16383 32767 (some 24) rfl rfl (by kernel_rfl) (fun _ _ _ h => h) (Or.inl ⟨by rfl, fun w' hs => by have c0 := hs.1.at_.g0; have c1 := hs.2; clear hs; go_simp; with_reducible rfl⟩) hHeld (by simp only [Act.put, List.setIfInBounds_toArray, List.set_cons_zero, List.set_cons_succ, i64_w, i32_w]; rfl) ?_
            refine pu HT_ 15 23 32767 65535 (some 25) rfl rfl (by kernel_rfl) (fun _ _ _ h => h) (Or.inl ⟨by rfl, fun w' => by go_simp; with_reducible rfl⟩) (by simp only [Act.put, List.setIfInBounds_toArray, List.set_cons_zero, List.set_cons_succ, i64_w, i32_w]; rfl) ?_
            refine pu HT_ 16 23 65535 131071 (some 26) rfl rfl (by kernel_rfl) (fun _ _ _ h => h) (Or.inl ⟨by rfl, fun w' => by go_simp; with_reducible rfl⟩) (by simp only [Act.put, List.setIfInBounds_toArray, List.set_cons_zero, List.set_cons_succ, i64_w, i32_w]; rfl) ?_
            refine pu HT_ 17 23 131071 262143 (some 27) rfl rfl (by kernel_rfl) (fun _ _ _ h => h) (Or.inl ⟨by rfl, fun w' => by go_simp; with_reducible rfl⟩) (by simp only [Act.put, List.setIfInBounds_toArray, List.set_cons_zero, List.set_cons_succ, i64_w, i32_w]; rfl) ?_
            refine pu HT_ 18 23 262143 524287 (some 28) rfl rfl (by kernel_rfl) (fun _ _ _ h => h) (Or.inl ⟨by rfl, fun w' => by go_simp; with_reducible rfl⟩) (by simp only [Act.put, List.setIfInBounds_toArray, List.set_cons_zero, List.set_cons_succ, i64_w, i32_w]; rfl) ?_
            refine tk HT_ HW_ 19 23 524287 1048575 (some 29) rfl rfl (by kernel_rfl) (fun _ _ _ h => h) (Or.inl ⟨by rfl, fun w' hs => by have c0 := hs.1.at_.g0; have c1 := hs.2; clear hs; go_simp; with_reducible rfl⟩) hHeld (by simp only [Act.put, List.setIfInBounds_toArray, List.set_cons_zero, List.set_cons_succ, i64_w, i32_w]; rfl) ?_
            refine pu HT_ 20 23 1048575 2097151 (some 30) rfl rfl (by kernel_rfl) (fun _ _ _ h => h) (Or.inl ⟨by rfl, fun w' => by go_simp; with_reducible rfl⟩) (by simp only [Act.put, List.setIfInBounds_toArray, List.set_cons_zero, List.set_cons_succ, i64_w, i32_w]; rfl) ?_
            refine pu HT_ 21 23 2097151 4194303 (some 31) rfl rfl (by kernel_rfl) (fun _ _ _ h => h) (Or.inl ⟨by rfl, fun w' => by go_simp; with_reducible rfl⟩) (by simp only [Act.put, List.setIfInBounds_toArray, List.set_cons_zero, List.set_cons_succ, i64_w, i32_w]; rfl) ?_
            refine pu HT_ 22 23 4194303 8388607 (some 32) rfl rfl (by kernel_rfl) (fun _ _ _ h => h) (Or.inl ⟨by rfl, fun w' => by go_simp; with_reducible rfl⟩) (by simp only [Act.put, List.setIfInBounds_toArray, List.set_cons_zero, List.set_cons_succ, i64_w, i32_w]; rfl) ?_
            refine done_ (done_of HT_.out (by kernel_rfl)) ?_
            clear iw
            try go_wp2
            go_roundw
            case rel => exact ⟨j + 2, by omega, by go_num, hn.out, hHeld.1.below⟩
            case measure => simp [intOf]; omega
          | false =>
            have hbad := Lib.hid (bad_name (by omega) hlt2)
            go_wp2
            refine start_ (n := 23) (ds := []) (S := (fun W => SB w W (ad.add ((j + 1) * 8)) (gL xs (j + 1)) ∧ W.cell? (ad.add (j * 8)) = some (.string (gL xs j).nm))) (obits 23 0) (by kernel_rfl) rfl (by kernel_rfl) (⟨SB.first hA HB.out, q0⟩) (fun hHeld => ?_)
            refine with_tabW (T := (true, [([], []), ([], []), ([0, 1], [0, 1]), ([2], [2]), ([3], [3]), ([4, 3], [4]), ([5], [5]), ([6, 5], [5, 6]), ([7, 5, 5], [5, 7]), ([8], [8]), ([8], [8]), ([10, 8], [8, 10]), ([9, 11, 8], [8, 9, 11]), ([12, 8], [8, 12]), ([13, 8], [8, 13]), ([8], [8]), ([8], [8]), ([15, 16, 8], [8, 15, 16]), ([17, 8], [8, 17]), ([18, 8], [8, 18]), ([14, 19, 8], [8, 14, 19]), ([8, 20, 5], [5, 8, 20]), ([5, 21], [5, 21])])) (B := [0, 0, 3, 7, 15, 31, 63, 127, 255, 511, 511, 1535, 4095, 8191, 16383, 511, 511, 98815, 229887, 492031, 1048575, 2097151, 4194303]) (by kernel_rfl) (by kernel_rfl) (fun HT_ HW_ => ?_)
            refine pu HT_ 0 23 0 1 (some 10) rfl rfl (by kernel_rfl) (fun _ _ _ h => h) (Or.inl ⟨by rfl, fun w' => by go_simp; with_reducible rfl⟩) (by simp only [Act.put, List.setIfInBounds_toArray, List.set_cons_zero, List.set_cons_succ, i64_w, i32_w]; rfl) ?_
            refine pu HT_ 1 23 1 3 (some 11) rfl rfl (by kernel_rfl) (fun _ _ _ h => h) (Or.inl ⟨by rfl, fun w' => by go_simp; with_reducible rfl⟩) (by simp only [Act.put, List.setIfInBounds_toArray, List.set_cons_zero, List.set_cons_succ, i64_w, i32_w]; rfl) ?_
            refine pu HT_ 2 23 3 7 (some 12) rfl rfl (by kernel_rfl) (fun _ _ _ h => h) (Or.inl ⟨by rfl, fun w' => by go_simp; with_reducible rfl⟩) (by simp only [Act.put, List.setIfInBounds_toArray, List.set_cons_zero, List.set_cons_succ, i64_w, i32_w]; rfl) ?_
            refine ca HT_ 3 23 7 15 (some 13) rfl rfl (by kernel_rfl) (by decide) (fun K hK => ?_)
            refine goes_ Try.func79 (by kernel_rfl) rfl #[.pointer (some (ad.add ((j + 1) * 8)))] (by rfl) rfl rfl (by (try simp only [List.map_toArray, List.map_cons, List.map_nil]); first | done | rfl | go_simp) ?_
            refine (l25One_p (ad.add ((j + 1) * 8)) (gL xs (j + 1)) _ hHeld.1.at_).mono ?_
            rintro e w1 ⟨rfl, hb⟩; rw [HV.out]
            refine ⟨_, rfl, ?_⟩
            refine hK.out _ _ (⟨SB.moved hb hHeld.1, Base.moved hb hHeld.2⟩) (fun hHeld => ?_)
            clear hK K
            refine norm_ (by simp only [Act.put, List.setIfInBounds_toArray, List.set_cons_zero, List.set_cons_succ, i64_w, i32_w]; rfl) ?_
            refine pu HT_ 4 23 15 31 (some 14) rfl rfl (by kernel_rfl) (fun _ _ _ h => h) (Or.inl ⟨by rfl, fun w' => by go_simp; with_reducible rfl⟩) (by simp only [Act.put, List.setIfInBounds_toArray, List.set_cons_zero, List.set_cons_succ, i64_w, i32_w]; rfl) ?_
            refine pu HT_ 5 23 31 63 (some 15) rfl rfl (by kernel_rfl) (fun _ _ _ h => h) (Or.inl ⟨by rfl, fun w' => by go_simp; with_reducible rfl⟩) (by simp only [Act.put, List.setIfInBounds_toArray, List.set_cons_zero, List.set_cons_succ, i64_w, i32_w]; rfl) ?_
            refine pu HT_ 6 23 63 127 (some 16) rfl rfl (by kernel_rfl) (fun _ _ _ h => h) (Or.inl ⟨by rfl, fun w' => by go_simp; with_reducible rfl⟩) (by simp only [Act.put, List.setIfInBounds_toArray, List.set_cons_zero, List.set_cons_succ, i64_w, i32_w]; rfl) ?_
            refine pu HT_ 7 23 127 255 (some 17) rfl rfl (by kernel_rfl) (fun _ _ _ h => h) (Or.inl ⟨by rfl, fun w' => by go_simp; with_reducible rfl⟩) (by simp only [Act.put, List.setIfInBounds_toArray, List.set_cons_zero, List.set_cons_succ, i64_w, i32_w]; rfl) ?_
            refine pu HT_ 8 23 255 511 (some 18) rfl rfl (by kernel_rfl) (fun _ _ _ h => h) (Or.inl ⟨by rfl, fun w' => by go_simp; with_reducible rfl⟩) (by simp only [Act.put, List.setIfInBounds_toArray, List.set_cons_zero, List.set_cons_succ, i64_w, i32_w]; rfl) ?_
            refine pu HT_ 9 23 511 1023 (some 19) rfl rfl (by kernel_rfl) (fun _ _ _ h => h) (Or.inl ⟨by rfl, fun w' => by go_simp; with_reducible rfl⟩) (by simp only [Act.put, List.setIfInBounds_toArray, List.set_cons_zero, List.set_cons_succ, i64_w, i32_w]; rfl) ?_
            refine pu HT_ 10 23 1023 2047 (some 20) rfl rfl (by kernel_rfl) (fun _ _ _ h => h) (Or.inl ⟨by rfl, fun w' => by go_simp; with_reducible rfl⟩) (by simp only [Act.put, List.setIfInBounds_toArray, List.set_cons_zero, List.set_cons_succ, i64_w, i32_w]; rfl) ?_
            refine pu HT_ 11 23 2047 4095 (some 21) rfl rfl (by kernel_rfl) (fun _ _ _ h => h) (Or.inl ⟨by rfl, fun w' => by go_simp; with_reducible rfl⟩) (by simp only [Act.put, List.setIfInBounds_toArray, List.set_cons_zero, List.set_cons_succ, i64_w, i32_w]; rfl) ?_
            refine pu HT_ 12 23 4095 8191 (some 22) rfl rfl (by kernel_rfl) (fun _ _ _ h => h) (Or.inl ⟨by rfl, fun w' => by go_simp; with_reducible rfl⟩) (by simp only [Act.put, List.setIfInBounds_toArray, List.set_cons_zero, List.set_cons_succ, i64_w, i32_w]; rfl) ?_
            refine pu HT_ 13 23 8191 16383 (some 23) rfl rfl (by kernel_rfl) (fun _ _ _ h => h) (Or.inl ⟨by rfl, fun w' => by go_simp; with_reducible rfl⟩) (by simp only [Act.put, List.setIfInBounds_toArray, List.set_cons_zero, List.set_cons_succ, i64_w, i32_w]; rfl) ?_
            refine tk HT_ HW_ 14 23 16383 32767 (some 24) rfl rfl (by kernel_rfl) (fun _ _ _ h => h) (Or.inl ⟨by rfl, fun w' hs => by have c0 := hs.1.at_.g0; have c1 := hs.2; clear hs; go_simp; with_reducible rfl⟩) hHeld (by simp only [Act.put, List.setIfInBounds_toArray, List.set_cons_zero, List.set_cons_succ, i64_w, i32_w]; rfl) ?_
            refine pu HT_ 15 23 32767 65535 (some 25) rfl rfl (by kernel_rfl) (fun _ _ _ h => h) (Or.inl ⟨by rfl, fun w' => by go_simp; with_reducible rfl⟩) (by simp only [Act.put, List.setIfInBounds_toArray, List.set_cons_zero, List.set_cons_succ, i64_w, i32_w]; rfl) ?_
            refine pu HT_ 16 23 65535 131071 (some 26) rfl rfl (by kernel_rfl) (fun _ _ _ h => h) (Or.inl ⟨by rfl, fun w' => by go_simp; with_reducible rfl⟩) (by simp only [Act.put, List.setIfInBounds_toArray, List.set_cons_zero, List.set_cons_succ, i64_w, i32_w]; rfl) ?_
            refine pu HT_ 17 23 131071 262143 (some 27) rfl rfl (by kernel_rfl) (fun _ _ _ h => h) (Or.inl ⟨by rfl, fun w' => by go_simp; with_reducible rfl⟩) (by simp only [Act.put, List.setIfInBounds_toArray, List.set_cons_zero, List.set_cons_succ, i64_w, i32_w]; rfl) ?_
            refine pu HT_ 18 23 262143 524287 (some 28) rfl rfl (by kernel_rfl) (fun _ _ _ h => h) (Or.inl ⟨by rfl, fun w' => by go_simp; with_reducible rfl⟩) (by simp only [Act.put, List.setIfInBounds_toArray, List.set_cons_zero, List.set_cons_succ, i64_w, i32_w]; rfl) ?_
            refine tk HT_ HW_ 19 23 524287 1048575 (some 29) rfl rfl (by kernel_rfl) (fun _ _ _ h => h) (Or.inl ⟨by rfl, fun w' hs => by have c0 := hs.1.at_.g0; have c1 := hs.2; clear hs; go_simp; with_reducible rfl⟩) hHeld (by simp only [Act.put, List.setIfInBounds_toArray, List.set_cons_zero, List.set_cons_succ, i64_w, i32_w]; rfl) ?_
            refine pu HT_ 20 23 1048575 2097151 (some 30) rfl rfl (by kernel_rfl) (fun _ _ _ h => h) (Or.inl ⟨by rfl, fun w' => by go_simp; with_reducible rfl⟩) (by simp only [Act.put, List.setIfInBounds_toArray, List.set_cons_zero, List.set_cons_succ, i64_w, i32_w]; rfl) ?_
            refine pu HT_ 21 23 2097151 4194303 (some 31) rfl rfl (by kernel_rfl) (fun _ _ _ h => h) (Or.inl ⟨by rfl, fun w' => by go_simp; with_reducible rfl⟩) (by simp only [Act.put, List.setIfInBounds_toArray, List.set_cons_zero, List.set_cons_succ, i64_w, i32_w]; rfl) ?_
            refine pu HT_ 22 23 4194303 8388607 (some 32) rfl rfl (by kernel_rfl) (fun _ _ _ h => h) (Or.inl ⟨by rfl, fun w' => by go_simp; with_reducible rfl⟩) (by simp only [Act.put, List.setIfInBounds_toArray, List.set_cons_zero, List.set_cons_succ, i64_w, i32_w]; rfl) ?_
            refine done_ (done_of HT_.out (by kernel_rfl)) ?_
            clear iw
            try go_wp2
            go_ret
            exact ⟨ret_bool hbad.out.symm, hHeld.1.below⟩
    · obtain rfl : k = xs.length := by omega
      have hfin := Lib.hid (show lossesB xs = decide ((xs.length : Int) ≤ 16) by unfold lossesB; rw [decide_eq_true HO.out]; rw [Bool.eq_iff_iff]; simp; omega)
      go_wp2
      go_ret
      exact ⟨ret_bool hfin.out.symm, HB.out⟩
set_option maxHeartbeats 2000000 in
theorem validLosses_c (A0 : Option Addr) (c0 : Nat) (xs : List Ls) (w : World) (hr : kL.C w A0 xs.length xs) (hc0 : xs.length ≤ c0) :
    Calls Try.prog 81 #[.slice A0 xs.length c0] w fun e w' => e = .returned (.bool (lossesB xs)) ∧ Below w.heap.size w w' := by
  have hlen := hr.2.1
  have hu := Try.underlying98
  go_enter Try.func81, Try.ntmps81
  go_wp2
  go_loopw [7] (fun i wr => ∃ k : Nat, k ≤ xs.length ∧ i = .int .i64 k ∧ okTo xs k ∧ Below w.heap.size w wr) (fun i _ => xs.length - (intOf i).toNat)
  case atStart => exact ⟨0, Nat.zero_le _, rfl, okTo_zero _, Below.refl _ _⟩
  case round =>
    obtain ⟨k, hk, rfl, hok, hB0⟩ := hrel
    have HB := Lib.hid hB0
    have HO := Lib.hid hok
    clear hB0 hok
    by_cases hlt : k < xs.length
    · obtain ⟨ad, rfl, g0, g1, g2, g3, g4, g5, g6, g7⟩ := at_L (Kd.C_below hr HB.out) k hlt
      have hA : AtL (wr.alloc (boxL (gL xs k))) ⟨wr.heap.size, 0, none⟩ (gL xs k) := ⟨by simp, by simp, by simp, by simp, by simp, by simp, by simp, by simp⟩
      have HB1 := Lib.hid (below_alloc HB.out (boxL (gL xs k)))
      cases hv : lossB (gL xs k) with
      | false =>
        have hbad := Lib.hid (bad_loss hlt hv)
        have HV := Lib.hid hv
        clear hv
        go_wp2
        refine start_ (n := 18) (ds := []) (S := (fun W => SB w W ⟨wr.heap.size, 0, none⟩ (gL xs k) ∧ True)) (obits 18 0) (by kernel_rfl) rfl (by kernel_rfl) (⟨SB.first hA HB1.out, trivial⟩) (fun hHeld => ?_)
        refine with_tabW (T := (true, [([], []), ([0], [0]), ([1], [1]), ([2, 1], [2]), ([3], [3]), ([4, 3], [3, 4]), ([5, 3, 3], [3, 5]), ([6], [6]), ([6], [6]), ([8, 6], [6, 8]), ([7, 9, 6], [6, 7, 9]), ([10, 6], [6, 10]), ([11, 6], [6, 11]), ([6], [6]), ([13, 6], [6, 13]), ([12, 14, 6], [6, 12, 14]), ([6, 15, 3], [3, 6, 15]), ([3, 16], [3, 16])])) (B := [0, 1, 3, 7, 15, 31, 63, 127, 127, 383, 1023, 2047, 4095, 127, 8319, 32767, 65535, 131071]) (by kernel_rfl) (by kernel_rfl) (fun HT_ HW_ => ?_)
        refine tk HT_ HW_ 0 18 0 1 (some 12) rfl rfl (by kernel_rfl) (fun _ _ _ h => h) (Or.inl ⟨by rfl, fun w' hs => by have c0 : w'.cell? ⟨wr.heap.size, 0, none⟩ = _ := hs.1.at_.g0; have c1 : w'.cell? ⟨wr.heap.size, 1, none⟩ = _ := hs.1.at_.g1; have c2 : w'.cell? ⟨wr.heap.size, 2, none⟩ = _ := hs.1.at_.g2; have c3 : w'.cell? ⟨wr.heap.size, 3, none⟩ = _ := hs.1.at_.g3; have c4 : w'.cell? ⟨wr.heap.size, 4, none⟩ = _ := hs.1.at_.g4; have c5 : w'.cell? ⟨wr.heap.size, 5, none⟩ = _ := hs.1.at_.g5; have c6 : w'.cell? ⟨wr.heap.size, 6, none⟩ = _ := hs.1.at_.g6; have c7 : w'.cell? ⟨wr.heap.size, 7, none⟩ = _ := hs.1.at_.g7; have cn := hs.2; clear hs; go_simp; with_reducible rfl⟩) hHeld (by simp only [Act.put, List.setIfInBounds_toArray, List.set_cons_zero, List.set_cons_succ, i64_w, i32_w]; rfl) ?_
        refine ca HT_ 1 18 1 3 (some 13) rfl rfl (by kernel_rfl) (by decide) (fun K hK => ?_)
        refine goes_ Try.func93 (by kernel_rfl) rfl #[aggL (gL xs k)] (by rfl) rfl rfl (by (try simp only [List.map_toArray, List.map_cons, List.map_nil]); first | done | rfl | go_simp) ?_
        refine (validLoss_c (gL xs k) _).mono ?_
        rintro e w1 ⟨rfl, hb⟩; rw [HV.out]
        refine ⟨_, rfl, ?_⟩
        refine hK.out _ _ (⟨SB.moved hb hHeld.1, trivial⟩) (fun hHeld => ?_)
        clear hK K
        refine norm_ (by simp only [Act.put, List.setIfInBounds_toArray, List.set_cons_zero, List.set_cons_succ, i64_w, i32_w]; rfl) ?_
        refine pu HT_ 2 18 3 7 (some 14) rfl rfl (by kernel_rfl) (fun _ _ _ h => h) (Or.inl ⟨by rfl, fun w' => by go_simp; with_reducible rfl⟩) (by simp only [Act.put, List.setIfInBounds_toArray, List.set_cons_zero, List.set_cons_succ, i64_w, i32_w]; rfl) ?_
        refine pu HT_ 3 18 7 15 (some 15) rfl rfl (by kernel_rfl) (fun _ _ _ h => h) (Or.inl ⟨by rfl, fun w' => by go_simp; with_reducible rfl⟩) (by simp only [Act.put, List.setIfInBounds_toArray, List.set_cons_zero, List.set_cons_succ, i64_w, i32_w]; rfl) ?_
        refine po HT_ 4 18 15 31 (some 16) rfl rfl (by kernel_rfl) (fun _ _ _ h => h) (by rfl) (by simp only [Act.put, List.setIfInBounds_toArray, List.set_cons_zero, List.set_cons_succ, i64_w, i32_w]; rfl) ?_
        refine po HT_ 5 18 31 63 (some 17) rfl rfl (by kernel_rfl) (fun _ _ _ h => h) (by rfl) (by simp only [Act.put, List.setIfInBounds_toArray, List.set_cons_zero, List.set_cons_succ, i64_w, i32_w]; rfl) ?_
        refine po HT_ 6 18 63 127 (some 18) rfl rfl (by kernel_rfl) (fun _ _ _ h => h) (by rfl) (by simp only [Act.put, List.setIfInBounds_toArray, List.set_cons_zero, List.set_cons_succ, i64_w, i32_w]; rfl) ?_
        refine po HT_ 7 18 127 255 (some 19) rfl rfl (by kernel_rfl) (fun _ _ _ h => h) (by rfl) (by simp only [Act.put, List.setIfInBounds_toArray, List.set_cons_zero, List.set_cons_succ, i64_w, i32_w]; rfl) ?_
        refine po HT_ 8 18 255 511 (some 20) rfl rfl (by kernel_rfl) (fun _ _ _ h => h) (by rfl) (by simp only [Act.put, List.setIfInBounds_toArray, List.set_cons_zero, List.set_cons_succ, i64_w, i32_w]; rfl) ?_
        refine po HT_ 9 18 511 1023 (some 21) rfl rfl (by kernel_rfl) (fun _ _ _ h => h) (by rfl) (by simp only [Act.put, List.setIfInBounds_toArray, List.set_cons_zero, List.set_cons_succ, i64_w, i32_w]; rfl) ?_
        refine po HT_ 10 18 1023 2047 (some 22) rfl rfl (by kernel_rfl) (fun _ _ _ h => h) (by rfl) (by simp only [Act.put, List.setIfInBounds_toArray, List.set_cons_zero, List.set_cons_succ, i64_w, i32_w]; rfl) ?_
        refine po HT_ 11 18 2047 4095 (some 23) rfl rfl (by kernel_rfl) (fun _ _ _ h => h) (by rfl) (by simp only [Act.put, List.setIfInBounds_toArray, List.set_cons_zero, List.set_cons_succ, i64_w, i32_w]; rfl) ?_
        refine po HT_ 12 18 4095 8191 (some 24) rfl rfl (by kernel_rfl) (fun _ _ _ h => h) (by rfl) (by simp only [Act.put, List.setIfInBounds_toArray, List.set_cons_zero, List.set_cons_succ, i64_w, i32_w]; rfl) ?_
        refine po HT_ 13 18 8191 16383 (some 25) rfl rfl (by kernel_rfl) (fun _ _ _ h => h) (by rfl) (by simp only [Act.put, List.setIfInBounds_toArray, List.set_cons_zero, List.set_cons_succ, i64_w, i32_w]; rfl) ?_
        refine po HT_ 14 18 16383 32767 (some 26) rfl rfl (by kernel_rfl) (fun _ _ _ h => h) (by rfl) (by simp only [Act.put, List.setIfInBounds_toArray, List.set_cons_zero, List.set_cons_succ, i64_w, i32_w]; rfl) ?_
        refine po HT_ 15 18 32767 65535 (some 27) rfl rfl (by kernel_rfl) (fun _ _ _ h => h) (by rfl) (by simp only [Act.put, List.setIfInBounds_toArray, List.set_cons_zero, List.set_cons_succ, i64_w, i32_w]; rfl) ?_
        refine po HT_ 16 18 65535 131071 (some 28) rfl rfl (by kernel_rfl) (fun _ _ _ h => h) (by rfl) (by simp only [Act.put, List.setIfInBounds_toArray, List.set_cons_zero, List.set_cons_succ, i64_w, i32_w]; rfl) ?_
        refine pu HT_ 17 18 131071 262143 (some 29) rfl rfl (by kernel_rfl) (fun _ _ _ h => h) (Or.inl ⟨by rfl, fun w' => by go_simp; with_reducible rfl⟩) (by simp only [Act.put, List.setIfInBounds_toArray, List.set_cons_zero, List.set_cons_succ, i64_w, i32_w]; rfl) ?_
        refine done_ (done_of HT_.out (by kernel_rfl)) ?_
        try go_wp2
        go_ret
        exact ⟨ret_bool hbad.out.symm, hHeld.1.below⟩
      | true =>
        have HV := Lib.hid hv
        clear hv
        rcases Nat.eq_zero_or_pos k with hk0 | hk0
        · have hn := Lib.hid (okTo_succ HO.out HV.out (fun h => by omega))
          have hz : decide ((0 : Int) < (k : Int)) = false := decide_eq_false (by omega)
          have hz2 : decide (0 < k) = false := decide_eq_false (by omega)
          clear hk0
          go_wp2
          refine start_ (n := 18) (ds := []) (S := (fun W => SB w W ⟨wr.heap.size, 0, none⟩ (gL xs k) ∧ True)) (obits 18 0) (by kernel_rfl) rfl (by kernel_rfl) (⟨SB.first hA HB1.out, trivial⟩) (fun hHeld => ?_)
          refine with_tabW (T := (true, [([], []), ([0], [0]), ([1], [1]), ([2, 1], [2]), ([3], [3]), ([4, 3], [3, 4]), ([5, 3, 3], [3, 5]), ([6], [6]), ([6], [6]), ([8, 6], [6, 8]), ([7, 9, 6], [6, 7, 9]), ([10, 6], [6, 10]), ([11, 6], [6, 11]), ([6], [6]), ([13, 6], [6, 13]), ([12, 14, 6], [6, 12, 14]), ([6, 15, 3], [3, 6, 15]), ([3, 16], [3, 16])])) (B := [0, 1, 3, 7, 15, 31, 63, 127, 127, 383, 1023, 2047, 4095, 127, 8319, 32767, 65535, 131071]) (by kernel_rfl) (by kernel_rfl) (fun HT_ HW_ => ?_)
          refine tk HT_ HW_ 0 18 0 1 (some 12) rfl rfl (by kernel_rfl) (fun _ _ _ h => h) (Or.inl ⟨by rfl, fun w' hs => by have c0 : w'.cell? ⟨wr.heap.size, 0, none⟩ = _ := hs.1.at_.g0; have c1 : w'.cell? ⟨wr.heap.size, 1, none⟩ = _ := hs.1.at_.g1; have c2 : w'.cell? ⟨wr.heap.size, 2, none⟩ = _ := hs.1.at_.g2; have c3 : w'.cell? ⟨wr.heap.size, 3, none⟩ = _ := hs.1.at_.g3; have c4 : w'.cell? ⟨wr.heap.size, 4, none⟩ = _ := hs.1.at_.g4; have c5 : w'.cell? ⟨wr.heap.size, 5, none⟩ = _ := hs.1.at_.g5; have c6 : w'.cell? ⟨wr.heap.size, 6, none⟩ = _ := hs.1.at_.g6; have c7 : w'.cell? ⟨wr.heap.size, 7, none⟩ = _ := hs.1.at_.g7; have cn := hs.2; clear hs; go_simp; with_reducible rfl⟩) hHeld (by simp only [Act.put, List.setIfInBounds_toArray, List.set_cons_zero, List.set_cons_succ, i64_w, i32_w]; rfl) ?_
          refine ca HT_ 1 18 1 3 (some 13) rfl rfl (by kernel_rfl) (by decide) (fun K hK => ?_)
          refine goes_ Try.func93 (by kernel_rfl) rfl #[aggL (gL xs k)] (by rfl) rfl rfl (by (try simp only [List.map_toArray, List.map_cons, List.map_nil]); first | done | rfl | go_simp) ?_
          refine (validLoss_c (gL xs k) _).mono ?_
          rintro e w1 ⟨rfl, hb⟩; rw [HV.out]
          refine ⟨_, rfl, ?_⟩
          refine hK.out _ _ (⟨SB.moved hb hHeld.1, trivial⟩) (fun hHeld => ?_)
          clear hK K
          refine norm_ (by simp only [Act.put, List.setIfInBounds_toArray, List.set_cons_zero, List.set_cons_succ, i64_w, i32_w]; rfl) ?_
          refine pu HT_ 2 18 3 7 (some 14) rfl rfl (by kernel_rfl) (fun _ _ _ h => h) (Or.inl ⟨by rfl, fun w' => by go_simp; with_reducible rfl⟩) (by simp only [Act.put, List.setIfInBounds_toArray, List.set_cons_zero, List.set_cons_succ, i64_w, i32_w]; rfl) ?_
          refine pu HT_ 3 18 7 15 (some 15) rfl rfl (by kernel_rfl) (fun _ _ _ h => h) (Or.inl ⟨by rfl, fun w' => by go_simp; with_reducible rfl⟩) (by simp only [Act.put, List.setIfInBounds_toArray, List.set_cons_zero, List.set_cons_succ, i64_w, i32_w]; rfl) ?_
          refine pu HT_ 4 18 15 31 (some 16) rfl rfl (by kernel_rfl) (fun _ _ _ h => h) (Or.inl ⟨by rfl, fun w' => by go_simp; with_reducible rfl⟩) (by simp only [Act.put, List.setIfInBounds_toArray, List.set_cons_zero, List.set_cons_succ, i64_w, i32_w]; rfl) ?_
          refine pu HT_ 5 18 31 63 (some 17) rfl rfl (by kernel_rfl) (fun _ _ _ h => h) (Or.inl ⟨by rfl, fun w' => by go_simp; with_reducible rfl⟩) (by simp only [Act.put, List.setIfInBounds_toArray, List.set_cons_zero, List.set_cons_succ, i64_w, i32_w]; rfl) ?_
          refine pu HT_ 6 18 63 127 (some 18) rfl rfl (by kernel_rfl) (fun _ _ _ h => h) (Or.inl ⟨by rfl, fun w' => by go_simp; with_reducible rfl⟩) (by simp only [Act.put, List.setIfInBounds_toArray, List.set_cons_zero, List.set_cons_succ, i64_w, i32_w]; rfl) ?_
          refine po HT_ 7 18 127 255 (some 19) rfl rfl (by kernel_rfl) (fun _ _ _ h => h) (by rfl) (by simp only [Act.put, List.setIfInBounds_toArray, List.set_cons_zero, List.set_cons_succ, i64_w, i32_w]; rfl) ?_
          refine po HT_ 8 18 255 511 (some 20) rfl rfl (by kernel_rfl) (fun _ _ _ h => h) (by rfl) (by simp only [Act.put, List.setIfInBounds_toArray, List.set_cons_zero, List.set_cons_succ, i64_w, i32_w]; rfl) ?_
          refine po HT_ 9 18 511 1023 (some 21) rfl rfl (by kernel_rfl) (fun _ _ _ h => h) (by rfl) (by simp only [Act.put, List.setIfInBounds_toArray, List.set_cons_zero, List.set_cons_succ, i64_w, i32_w]; rfl) ?_
          refine po HT_ 10 18 1023 2047 (some 22) rfl rfl (by kernel_rfl) (fun _ _ _ h => h) (by rfl) (by simp only [Act.put, List.setIfInBounds_toArray, List.set_cons_zero, List.set_cons_succ, i64_w, i32_w]; rfl) ?_
          refine po HT_ 11 18 2047 4095 (some 23) rfl rfl (by kernel_rfl) (fun _ _ _ h => h) (by rfl) (by simp only [Act.put, List.setIfInBounds_toArray, List.set_cons_zero, List.set_cons_succ, i64_w, i32_w]; rfl) ?_
          refine po HT_ 12 18 4095 8191 (some 24) rfl rfl (by kernel_rfl) (fun _ _ _ h => h) (by rfl) (by simp only [Act.put, List.setIfInBounds_toArray, List.set_cons_zero, List.set_cons_succ, i64_w, i32_w]; rfl) ?_
          refine po HT_ 13 18 8191 16383 (some 25) rfl rfl (by kernel_rfl) (fun _ _ _ h => h) (by rfl) (by simp only [Act.put, List.setIfInBounds_toArray, List.set_cons_zero, List.set_cons_succ, i64_w, i32_w]; rfl) ?_
          refine po HT_ 14 18 16383 32767 (some 26) rfl rfl (by kernel_rfl) (fun _ _ _ h => h) (by rfl) (by simp only [Act.put, List.setIfInBounds_toArray, List.set_cons_zero, List.set_cons_succ, i64_w, i32_w]; rfl) ?_
          refine po HT_ 15 18 32767 65535 (some 27) rfl rfl (by kernel_rfl) (fun _ _ _ h => h) (by rfl) (by simp only [Act.put, List.setIfInBounds_toArray, List.set_cons_zero, List.set_cons_succ, i64_w, i32_w]; rfl) ?_
          refine pu HT_ 16 18 65535 131071 (some 28) rfl rfl (by kernel_rfl) (fun _ _ _ h => h) (Or.inl ⟨by rfl, fun w' => by go_simp; with_reducible rfl⟩) (by simp only [Act.put, List.setIfInBounds_toArray, List.set_cons_zero, List.set_cons_succ, i64_w, i32_w]; rfl) ?_
          refine pu HT_ 17 18 131071 262143 (some 29) rfl rfl (by kernel_rfl) (fun _ _ _ h => h) (Or.inl ⟨by rfl, fun w' => by go_simp; with_reducible rfl⟩) (by simp only [Act.put, List.setIfInBounds_toArray, List.set_cons_zero, List.set_cons_succ, i64_w, i32_w]; rfl) ?_
          refine done_ (done_of HT_.out (by kernel_rfl)) ?_
          try go_wp2
          go_roundw
          case rel => exact ⟨k + 1, by omega, by go_num, hn.out, hHeld.1.below⟩
          case measure => simp [intOf]; omega
        · obtain ⟨j, rfl⟩ : ∃ j, k = j + 1 := ⟨k - 1, by omega⟩
          obtain ⟨ad2, e2, q0, _⟩ := at_L (Kd.C_below hr HB1.out) j (by omega)
          cases e2
          have i0 : 0 ≤ (j : Int) + 1 := by omega
          have i1 : (j : Int) < xs.length := by omega
          have i2 : (j + 1 : Int) < xs.length := by omega
          have iw := wrap_id (x := (j : Int)) (by omega) (by omega)
          cases hlt2 : Op.bytesLess (gL xs j).nm.toList (gL xs (j + 1)).nm.toList with
          | true =>
            have hn := Lib.hid (okTo_succ HO.out HV.out (fun _ => hlt2))
            go_wp2
            refine start_ (n := 18) (ds := []) (S := (fun W => SB w W ⟨wr.heap.size, 0, none⟩ (gL xs (j + 1)) ∧ W.cell? (ad.add (j * 8)) = some (.string (gL xs j).nm))) (obits 18 0) (by kernel_rfl) rfl (by kernel_rfl) (⟨SB.first hA HB1.out, q0⟩) (fun hHeld => ?_)
            refine with_tabW (T := (true, [([], []), ([0], [0]), ([1], [1]), ([2, 1], [2]), ([3], [3]), ([4, 3], [3, 4]), ([5, 3, 3], [3, 5]), ([6], [6]), ([6], [6]), ([8, 6], [6, 8]), ([7, 9, 6], [6, 7, 9]), ([10, 6], [6, 10]), ([11, 6], [6, 11]), ([6], [6]), ([13, 6], [6, 13]), ([12, 14, 6], [6, 12, 14]), ([6, 15, 3], [3, 6, 15]), ([3, 16], [3, 16])])) (B := [0, 1, 3, 7, 15, 31, 63, 127, 127, 383, 1023, 2047, 4095, 127, 8319, 32767, 65535, 131071]) (by kernel_rfl) (by kernel_rfl) (fun HT_ HW_ => ?_)
            refine tk HT_ HW_ 0 18 0 1 (some 12) rfl rfl (by kernel_rfl) (fun _ _ _ h => h) (Or.inl ⟨by rfl, fun w' hs => by have c0 : w'.cell? ⟨wr.heap.size, 0, none⟩ = _ := hs.1.at_.g0; have c1 : w'.cell? ⟨wr.heap.size, 1, none⟩ = _ := hs.1.at_.g1; have c2 : w'.cell? ⟨wr.heap.size, 2, none⟩ = _ := hs.1.at_.g2; have c3 : w'.cell? ⟨wr.heap.size, 3, none⟩ = _ := hs.1.at_.g3; have c4 : w'.cell? ⟨wr.heap.size, 4, none⟩ = _ := hs.1.at_.g4; have c5 : w'.cell? ⟨wr.heap.size, 5, none⟩ = _ := hs.1.at_.g5; have c6 : w'.cell? ⟨wr.heap.size, 6, none⟩ = _ := hs.1.at_.g6; have c7 : w'.cell? ⟨wr.heap.size, 7, none⟩ = _ := hs.1.at_.g7; have cn := hs.2; clear hs; go_simp; with_reducible rfl⟩) hHeld (by simp only [Act.put, List.setIfInBounds_toArray, List.set_cons_zero, List.set_cons_succ, i64_w, i32_w]; rfl) ?_
            refine ca HT_ 1 18 1 3 (some 13) rfl rfl (by kernel_rfl) (by decide) (fun K hK => ?_)
            refine goes_ Try.func93 (by kernel_rfl) rfl #[aggL (gL xs (j + 1))] (by rfl) rfl rfl (by (try simp only [List.map_toArray, List.map_cons, List.map_nil]); first | done | rfl | go_simp) ?_
            refine (validLoss_c (gL xs (j + 1)) _).mono ?_
            rintro e w1 ⟨rfl, hb⟩; rw [HV.out]
            refine ⟨_, rfl, ?_⟩
            refine hK.out _ _ (⟨SB.moved hb hHeld.1, Base.moved hb hHeld.2⟩) (fun hHeld => ?_)
            clear hK K
            refine norm_ (by simp only [Act.put, List.setIfInBounds_toArray, List.set_cons_zero, List.set_cons_succ, i64_w, i32_w]; rfl) ?_
            refine pu HT_ 2 18 3 7 (some 14) rfl rfl (by kernel_rfl) (fun _ _ _ h => h) (Or.inl ⟨by rfl, fun w' => by go_simp; with_reducible rfl⟩) (by simp only [Act.put, List.setIfInBounds_toArray, List.set_cons_zero, List.set_cons_succ, i64_w, i32_w]; rfl) ?_
            refine pu HT_ 3 18 7 15 (some 15) rfl rfl (by kernel_rfl) (fun _ _ _ h => h) (Or.inl ⟨by rfl, fun w' => by go_simp; with_reducible rfl⟩) (by simp only [Act.put, List.setIfInBounds_toArray, List.set_cons_zero, List.set_cons_succ, i64_w, i32_w]; rfl) ?_
            refine pu HT_ 4 18 15 31 (some 16) rfl rfl (by kernel_rfl) (fun _ _ _ h => h) (Or.inl ⟨by rfl, fun w' => by go_simp; with_reducible rfl⟩) (by simp only [Act.put, List.setIfInBounds_toArray, List.set_cons_zero, List.set_cons_succ, i64_w, i32_w]; rfl) ?_
            refine pu HT_ 5 18 31 63 (some 17) rfl rfl (by kernel_rfl) (fun _ _ _ h => h) (Or.inl ⟨by rfl, fun w' => by go_simp; with_reducible rfl⟩) (by simp only [Act.put, List.setIfInBounds_toArray, List.set_cons_zero, List.set_cons_succ, i64_w, i32_w]; rfl) ?_
            refine pu HT_ 6 18 63 127 (some 18) rfl rfl (by kernel_rfl) (fun _ _ _ h => h) (Or.inl ⟨by rfl, fun w' => by go_simp; with_reducible rfl⟩) (by simp only [Act.put, List.setIfInBounds_toArray, List.set_cons_zero, List.set_cons_succ, i64_w, i32_w]; rfl) ?_
            refine pu HT_ 7 18 127 255 (some 19) rfl rfl (by kernel_rfl) (fun _ _ _ h => h) (Or.inl ⟨by rfl, fun w' => by go_simp; with_reducible rfl⟩) (by simp only [Act.put, List.setIfInBounds_toArray, List.set_cons_zero, List.set_cons_succ, i64_w, i32_w]; rfl) ?_
            refine pu HT_ 8 18 255 511 (some 20) rfl rfl (by kernel_rfl) (fun _ _ _ h => h) (Or.inl ⟨by rfl, fun w' => by go_simp; with_reducible rfl⟩) (by simp only [Act.put, List.setIfInBounds_toArray, List.set_cons_zero, List.set_cons_succ, i64_w, i32_w]; rfl) ?_
            refine pu HT_ 9 18 511 1023 (some 21) rfl rfl (by kernel_rfl) (fun _ _ _ h => h) (Or.inl ⟨by rfl, fun w' => by go_simp; with_reducible rfl⟩) (by simp only [Act.put, List.setIfInBounds_toArray, List.set_cons_zero, List.set_cons_succ, i64_w, i32_w]; rfl) ?_
            refine pu HT_ 10 18 1023 2047 (some 22) rfl rfl (by kernel_rfl) (fun _ _ _ h => h) (Or.inl ⟨by rfl, fun w' => by go_simp; with_reducible rfl⟩) (by simp only [Act.put, List.setIfInBounds_toArray, List.set_cons_zero, List.set_cons_succ, i64_w, i32_w]; rfl) ?_
            refine pu HT_ 11 18 2047 4095 (some 23) rfl rfl (by kernel_rfl) (fun _ _ _ h => h) (Or.inl ⟨by rfl, fun w' => by go_simp; with_reducible rfl⟩) (by simp only [Act.put, List.setIfInBounds_toArray, List.set_cons_zero, List.set_cons_succ, i64_w, i32_w]; rfl) ?_
            refine tk HT_ HW_ 12 18 4095 8191 (some 24) rfl rfl (by kernel_rfl) (fun _ _ _ h => h) (Or.inl ⟨by rfl, fun w' hs => by have c0 : w'.cell? ⟨wr.heap.size, 0, none⟩ = _ := hs.1.at_.g0; have c1 : w'.cell? ⟨wr.heap.size, 1, none⟩ = _ := hs.1.at_.g1; have c2 : w'.cell? ⟨wr.heap.size, 2, none⟩ = _ := hs.1.at_.g2; have c3 : w'.cell? ⟨wr.heap.size, 3, none⟩ = _ := hs.1.at_.g3; have c4 : w'.cell? ⟨wr.heap.size, 4, none⟩ = _ := hs.1.at_.g4; have c5 : w'.cell? ⟨wr.heap.size, 5, none⟩ = _ := hs.1.at_.g5; have c6 : w'.cell? ⟨wr.heap.size, 6, none⟩ = _ := hs.1.at_.g6; have c7 : w'.cell? ⟨wr.heap.size, 7, none⟩ = _ := hs.1.at_.g7; have cn := hs.2; clear hs; go_simp; with_reducible rfl⟩) hHeld (by simp only [Act.put, List.setIfInBounds_toArray, List.set_cons_zero, List.set_cons_succ, i64_w, i32_w]; rfl) ?_
            refine pu HT_ 13 18 8191 16383 (some 25) rfl rfl (by kernel_rfl) (fun _ _ _ h => h) (Or.inl ⟨by rfl, fun w' => by go_simp; with_reducible rfl⟩) (by simp only [Act.put, List.setIfInBounds_toArray, List.set_cons_zero, List.set_cons_succ, i64_w, i32_w]; rfl) ?_
            refine tk HT_ HW_ 14 18 16383 32767 (some 26) rfl rfl (by kernel_rfl) (fun _ _ _ h => h) (Or.inl ⟨by rfl, fun w' hs => by have c0 : w'.cell? ⟨wr.heap.size, 0, none⟩ = _ := hs.1.at_.g0; have c1 : w'.cell? ⟨wr.heap.size, 1, none⟩ = _ := hs.1.at_.g1; have c2 : w'.cell? ⟨wr.heap.size, 2, none⟩ = _ := hs.1.at_.g2; have c3 : w'.cell? ⟨wr.heap.size, 3, none⟩ = _ := hs.1.at_.g3; have c4 : w'.cell? ⟨wr.heap.size, 4, none⟩ = _ := hs.1.at_.g4; have c5 : w'.cell? ⟨wr.heap.size, 5, none⟩ = _ := hs.1.at_.g5; have c6 : w'.cell? ⟨wr.heap.size, 6, none⟩ = _ := hs.1.at_.g6; have c7 : w'.cell? ⟨wr.heap.size, 7, none⟩ = _ := hs.1.at_.g7; have cn := hs.2; clear hs; go_simp; with_reducible rfl⟩) hHeld (by simp only [Act.put, List.setIfInBounds_toArray, List.set_cons_zero, List.set_cons_succ, i64_w, i32_w]; rfl) ?_
            refine pu HT_ 15 18 32767 65535 (some 27) rfl rfl (by kernel_rfl) (fun _ _ _ h => h) (Or.inl ⟨by rfl, fun w' => by go_simp; with_reducible rfl⟩) (by simp only [Act.put, List.setIfInBounds_toArray, List.set_cons_zero, List.set_cons_succ, i64_w, i32_w]; rfl) ?_
            refine pu HT_ 16 18 65535 131071 (some 28) rfl rfl (by kernel_rfl) (fun _ _ _ h => h) (Or.inl ⟨by rfl, fun w' => by go_simp; with_reducible rfl⟩) (by simp only [Act.put, List.setIfInBounds_toArray, List.set_cons_zero, List.set_cons_succ, i64_w, i32_w]; rfl) ?_
            refine pu HT_ 17 18 131071 262143 (some 29) rfl rfl (by kernel_rfl) (fun _ _ _ h => h) (Or.inl ⟨by rfl, fun w' => by go_simp; with_reducible rfl⟩) (by simp only [Act.put, List.setIfInBounds_toArray, List.set_cons_zero, List.set_cons_succ, i64_w, i32_w]; rfl) ?_
            refine done_ (done_of HT_.out (by kernel_rfl)) ?_
            clear iw
            try go_wp2
            go_roundw
            case rel => exact ⟨j + 2, by omega, by go_num, hn.out, hHeld.1.below⟩
            case measure => simp [intOf]; omega
          | false =>
            have hbad := Lib.hid (bad_name (by omega) hlt2)
            go_wp2
            refine start_ (n := 18) (ds := []) (S := (fun W => SB w W ⟨wr.heap.size, 0, none⟩ (gL xs (j + 1)) ∧ W.cell? (ad.add (j * 8)) = some (.string (gL xs j).nm))) (obits 18 0) (by kernel_rfl) rfl (by kernel_rfl) (⟨SB.first hA HB1.out, q0⟩) (fun hHeld => ?_)
            refine with_tabW (T := (true, [([], []), ([0], [0]), ([1], [1]), ([2, 1], [2]), ([3], [3]), ([4, 3], [3, 4]), ([5, 3, 3], [3, 5]), ([6], [6]), ([6], [6]), ([8, 6], [6, 8]), ([7, 9, 6], [6, 7, 9]), ([10, 6], [6, 10]), ([11, 6], [6, 11]), ([6], [6]), ([13, 6], [6, 13]), ([12, 14, 6], [6, 12, 14]), ([6, 15, 3], [3, 6, 15]), ([3, 16], [3, 16])])) (B := [0, 1, 3, 7, 15, 31, 63, 127, 127, 383, 1023, 2047, 4095, 127, 8319, 32767, 65535, 131071]) (by kernel_rfl) (by kernel_rfl) (fun HT_ HW_ => ?_)
            refine tk HT_ HW_ 0 18 0 1 (some 12) rfl rfl (by kernel_rfl) (fun _ _ _ h => h) (Or.inl ⟨by rfl, fun w' hs => by have c0 : w'.cell? ⟨wr.heap.size, 0, none⟩ = _ := hs.1.at_.g0; have c1 : w'.cell? ⟨wr.heap.size, 1, none⟩ = _ := hs.1.at_.g1; have c2 : w'.cell? ⟨wr.heap.size, 2, none⟩ = _ := hs.1.at_.g2; have c3 : w'.cell? ⟨wr.heap.size, 3, none⟩ = _ := hs.1.at_.g3; have c4 : w'.cell? ⟨wr.heap.size, 4, none⟩ = _ := hs.1.at_.g4; have c5 : w'.cell? ⟨wr.heap.size, 5, none⟩ = _ := hs.1.at_.g5; have c6 : w'.cell? ⟨wr.heap.size, 6, none⟩ = _ := hs.1.at_.g6; have c7 : w'.cell? ⟨wr.heap.size, 7, none⟩ = _ := hs.1.at_.g7; have cn := hs.2; clear hs; go_simp; with_reducible rfl⟩) hHeld (by simp only [Act.put, List.setIfInBounds_toArray, List.set_cons_zero, List.set_cons_succ, i64_w, i32_w]; rfl) ?_
            refine ca HT_ 1 18 1 3 (some 13) rfl rfl (by kernel_rfl) (by decide) (fun K hK => ?_)
            refine goes_ Try.func93 (by kernel_rfl) rfl #[aggL (gL xs (j + 1))] (by rfl) rfl rfl (by (try simp only [List.map_toArray, List.map_cons, List.map_nil]); first | done | rfl | go_simp) ?_
            refine (validLoss_c (gL xs (j + 1)) _).mono ?_
            rintro e w1 ⟨rfl, hb⟩; rw [HV.out]
            refine ⟨_, rfl, ?_⟩
            refine hK.out _ _ (⟨SB.moved hb hHeld.1, Base.moved hb hHeld.2⟩) (fun hHeld => ?_)
            clear hK K
            refine norm_ (by simp only [Act.put, List.setIfInBounds_toArray, List.set_cons_zero, List.set_cons_succ, i64_w, i32_w]; rfl) ?_
            refine pu HT_ 2 18 3 7 (some 14) rfl rfl (by kernel_rfl) (fun _ _ _ h => h) (Or.inl ⟨by rfl, fun w' => by go_simp; with_reducible rfl⟩) (by simp only [Act.put, List.setIfInBounds_toArray, List.set_cons_zero, List.set_cons_succ, i64_w, i32_w]; rfl) ?_
            refine pu HT_ 3 18 7 15 (some 15) rfl rfl (by kernel_rfl) (fun _ _ _ h => h) (Or.inl ⟨by rfl, fun w' => by go_simp; with_reducible rfl⟩) (by simp only [Act.put, List.setIfInBounds_toArray, List.set_cons_zero, List.set_cons_succ, i64_w, i32_w]; rfl) ?_
            refine pu HT_ 4 18 15 31 (some 16) rfl rfl (by kernel_rfl) (fun _ _ _ h => h) (Or.inl ⟨by rfl, fun w' => by go_simp; with_reducible rfl⟩) (by simp only [Act.put, List.setIfInBounds_toArray, List.set_cons_zero, List.set_cons_succ, i64_w, i32_w]; rfl) ?_
            refine pu HT_ 5 18 31 63 (some 17) rfl rfl (by kernel_rfl) (fun _ _ _ h => h) (Or.inl ⟨by rfl, fun w' => by go_simp; with_reducible rfl⟩) (by simp only [Act.put, List.setIfInBounds_toArray, List.set_cons_zero, List.set_cons_succ, i64_w, i32_w]; rfl) ?_
            refine pu HT_ 6 18 63 127 (some 18) rfl rfl (by kernel_rfl) (fun _ _ _ h => h) (Or.inl ⟨by rfl, fun w' => by go_simp; with_reducible rfl⟩) (by simp only [Act.put, List.setIfInBounds_toArray, List.set_cons_zero, List.set_cons_succ, i64_w, i32_w]; rfl) ?_
            refine pu HT_ 7 18 127 255 (some 19) rfl rfl (by kernel_rfl) (fun _ _ _ h => h) (Or.inl ⟨by rfl, fun w' => by go_simp; with_reducible rfl⟩) (by simp only [Act.put, List.setIfInBounds_toArray, List.set_cons_zero, List.set_cons_succ, i64_w, i32_w]; rfl) ?_
            refine pu HT_ 8 18 255 511 (some 20) rfl rfl (by kernel_rfl) (fun _ _ _ h => h) (Or.inl ⟨by rfl, fun w' => by go_simp; with_reducible rfl⟩) (by simp only [Act.put, List.setIfInBounds_toArray, List.set_cons_zero, List.set_cons_succ, i64_w, i32_w]; rfl) ?_
            refine pu HT_ 9 18 511 1023 (some 21) rfl rfl (by kernel_rfl) (fun _ _ _ h => h) (Or.inl ⟨by rfl, fun w' => by go_simp; with_reducible rfl⟩) (by simp only [Act.put, List.setIfInBounds_toArray, List.set_cons_zero, List.set_cons_succ, i64_w, i32_w]; rfl) ?_
            refine pu HT_ 10 18 1023 2047 (some 22) rfl rfl (by kernel_rfl) (fun _ _ _ h => h) (Or.inl ⟨by rfl, fun w' => by go_simp; with_reducible rfl⟩) (by simp only [Act.put, List.setIfInBounds_toArray, List.set_cons_zero, List.set_cons_succ, i64_w, i32_w]; rfl) ?_
            refine pu HT_ 11 18 2047 4095 (some 23) rfl rfl (by kernel_rfl) (fun _ _ _ h => h) (Or.inl ⟨by rfl, fun w' => by go_simp; with_reducible rfl⟩) (by simp only [Act.put, List.setIfInBounds_toArray, List.set_cons_zero, List.set_cons_succ, i64_w, i32_w]; rfl) ?_
            refine tk HT_ HW_ 12 18 4095 8191 (some 24) rfl rfl (by kernel_rfl) (fun _ _ _ h => h) (Or.inl ⟨by rfl, fun w' hs => by have c0 : w'.cell? ⟨wr.heap.size, 0, none⟩ = _ := hs.1.at_.g0; have c1 : w'.cell? ⟨wr.heap.size, 1, none⟩ = _ := hs.1.at_.g1; have c2 : w'.cell? ⟨wr.heap.size, 2, none⟩ = _ := hs.1.at_.g2; have c3 : w'.cell? ⟨wr.heap.size, 3, none⟩ = _ := hs.1.at_.g3; have c4 : w'.cell? ⟨wr.heap.size, 4, none⟩ = _ := hs.1.at_.g4; have c5 : w'.cell? ⟨wr.heap.size, 5, none⟩ = _ := hs.1.at_.g5; have c6 : w'.cell? ⟨wr.heap.size, 6, none⟩ = _ := hs.1.at_.g6; have c7 : w'.cell? ⟨wr.heap.size, 7, none⟩ = _ := hs.1.at_.g7; have cn := hs.2; clear hs; go_simp; with_reducible rfl⟩) hHeld (by simp only [Act.put, List.setIfInBounds_toArray, List.set_cons_zero, List.set_cons_succ, i64_w, i32_w]; rfl) ?_
            refine pu HT_ 13 18 8191 16383 (some 25) rfl rfl (by kernel_rfl) (fun _ _ _ h => h) (Or.inl ⟨by rfl, fun w' => by go_simp; with_reducible rfl⟩) (by simp only [Act.put, List.setIfInBounds_toArray, List.set_cons_zero, List.set_cons_succ, i64_w, i32_w]; rfl) ?_
            refine tk HT_ HW_ 14 18 16383 32767 (some 26) rfl rfl (by kernel_rfl) (fun _ _ _ h => h) (Or.inl ⟨by rfl, fun w' hs => by have c0 : w'.cell? ⟨wr.heap.size, 0, none⟩ = _ := hs.1.at_.g0; have c1 : w'.cell? ⟨wr.heap.size, 1, none⟩ = _ := hs.1.at_.g1; have c2 : w'.cell? ⟨wr.heap.size, 2, none⟩ = _ := hs.1.at_.g2; have c3 : w'.cell? ⟨wr.heap.size, 3, none⟩ = _ := hs.1.at_.g3; have c4 : w'.cell? ⟨wr.heap.size, 4, none⟩ = _ := hs.1.at_.g4; have c5 : w'.cell? ⟨wr.heap.size, 5, none⟩ = _ := hs.1.at_.g5; have c6 : w'.cell? ⟨wr.heap.size, 6, none⟩ = _ := hs.1.at_.g6; have c7 : w'.cell? ⟨wr.heap.size, 7, none⟩ = _ := hs.1.at_.g7; have cn := hs.2; clear hs; go_simp; with_reducible rfl⟩) hHeld (by simp only [Act.put, List.setIfInBounds_toArray, List.set_cons_zero, List.set_cons_succ, i64_w, i32_w]; rfl) ?_
            refine pu HT_ 15 18 32767 65535 (some 27) rfl rfl (by kernel_rfl) (fun _ _ _ h => h) (Or.inl ⟨by rfl, fun w' => by go_simp; with_reducible rfl⟩) (by simp only [Act.put, List.setIfInBounds_toArray, List.set_cons_zero, List.set_cons_succ, i64_w, i32_w]; rfl) ?_
            refine pu HT_ 16 18 65535 131071 (some 28) rfl rfl (by kernel_rfl) (fun _ _ _ h => h) (Or.inl ⟨by rfl, fun w' => by go_simp; with_reducible rfl⟩) (by simp only [Act.put, List.setIfInBounds_toArray, List.set_cons_zero, List.set_cons_succ, i64_w, i32_w]; rfl) ?_
            refine pu HT_ 17 18 131071 262143 (some 29) rfl rfl (by kernel_rfl) (fun _ _ _ h => h) (Or.inl ⟨by rfl, fun w' => by go_simp; with_reducible rfl⟩) (by simp only [Act.put, List.setIfInBounds_toArray, List.set_cons_zero, List.set_cons_succ, i64_w, i32_w]; rfl) ?_
            refine done_ (done_of HT_.out (by kernel_rfl)) ?_
            clear iw
            try go_wp2
            go_ret
            exact ⟨ret_bool hbad.out.symm, hHeld.1.below⟩
    · obtain rfl : k = xs.length := by omega
      have hfin := Lib.hid (show lossesB xs = decide ((xs.length : Int) ≤ 16) by unfold lossesB; rw [decide_eq_true HO.out]; rw [Bool.eq_iff_iff]; simp; omega)
      go_wp2
      go_ret
      exact ⟨ret_bool hfin.out.symm, HB.out⟩
end Go.Proofs.Ytdbgjjckafeenaa.Loss
