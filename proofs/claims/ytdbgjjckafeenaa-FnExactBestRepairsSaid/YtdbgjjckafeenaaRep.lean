/- The search for repairs. -/
import Derived.Test.YtdbgjjckafeenaaLoss
import Derived.Test.YtdbgjjckafeenaaRw
namespace Go.Proofs.Ytdbgjjckafeenaa.Rep
open Go.RowKit Go.Proofs.YtdbgjjckafeenaaW.PrintWords Go.Proofs.YtdbgjjckafeenaaW.PrintLast Go.Proofs.YtdbgjjckafeenaaW.PrintMore Go.Proofs.Ytdbgjjckafeenaa.Base Go.Proofs.Ytdbgjjckafeenaa.Loss Go.Proofs.Ytdbgjjckafeenaa.Rw
set_option linter.unusedVariables false
set_option linter.unusedSimpArgs false
set_option maxRecDepth 100000

structure RSt where
  left : Int
  best : List Int
  most : Int
def updR (st : RSt) (ch : List Int) (pr : Int) : RSt := if pr > st.most then ⟨st.left - 1, ch, pr⟩ else ⟨st.left - 1, st.best, st.most⟩
/-- From place k on, d places left: is the budget spent, and what then stands. -/
def runR (xs : List Ls) : Nat → Nat → RSt → List Int → Int → Int → Int → Bool × RSt
  | 0, _, st, _, _, _, _ => (false, st)
  | d + 1, k, st, ch, pr, mo, mi =>
    if (gL xs k).co > mo ∨ (gL xs k).mi > mi then runR xs d (k + 1) st ch pr mo mi
    else
      let r := if st.left = 0 then (true, st) else runR xs d (k + 1) (updR st (ch ++ [(k : Int)]) (pr + (gL xs k).pr)) (ch ++ [(k : Int)]) (pr + (gL xs k).pr) (mo - (gL xs k).co) (mi - (gL xs k).mi)
      if r.1 = true then r else runR xs d (k + 1) r.2 ch pr mo mi
def enterR (xs : List Ls) (d k : Nat) (st : RSt) (ch : List Int) (pr mo mi : Int) : Bool × RSt :=
  if st.left = 0 then (true, st) else runR xs d k (updR st ch pr) ch pr mo mi

/-- A row of the call's own, another one than block g. -/
def St (w : World) (base g : Nat) (A : Option Addr) (c : Nat) (l : List Int) : Prop := kI.R 2 w base (fun k => k ≠ g) (.slice A l.length c) l
theorem St.keep {w w1 : World} {base g : Nat} {A : Option Addr} {c : Nat} {l : List Int} (h : St w base g A c l) (hk : KeepBut w w1 g none) : St w1 base g A c l := Kd.R_keep h hk (fun _ hk => hk)
theorem St.now {w : World} {base g : Nat} {A : Option Addr} {c : Nat} {l : List Int} (h : St w base g A c l) : kI.C w A l.length l := (Kd.R_reads' h).2.2
theorem St.le {w : World} {base g : Nat} {A : Option Addr} {c : Nat} {l : List Int} (h : St w base g A c l) : l.length ≤ c := (Kd.R_reads' h).2.1

/-- The losses are such as the search wants them. -/
structure Fit (xs : List Ls) : Prop where
  len : xs.length ≤ 16
  co : ∀ k, k < xs.length → 0 ≤ (gL xs k).co ∧ (gL xs k).co ≤ 1000000
  mi : ∀ k, k < xs.length → 0 ≤ (gL xs k).mi ∧ (gL xs k).mi ≤ 10000
  pr : ∀ k, k < xs.length → 1 ≤ (gL xs k).pr ∧ (gL xs k).pr ≤ 9

/-- A search at block g. -/
structure At (w0 w : World) (g : Nat) (A : Option Addr) (c : Nat) (xs : List Ls) (st : RSt) : Prop where
  blk : ∃ Ab cb, w.heap[g]? = some (.cells #[.slice A xs.length c, .int .i64 st.left, .slice Ab st.best.length cb, .int .i64 st.most] 103 (0, 0)) ∧ St w w0.heap.size g Ab cb st.best
  ge : w0.heap.size ≤ g
  below : Below w0.heap.size w0 w

theorem At.lt {w0 w : World} {g : Nat} {A : Option Addr} {c : Nat} {xs : List Ls} {st : RSt} (h : At w0 w g A c xs st) : g < w.heap.size := by
  obtain ⟨_, _, hG, _⟩ := h.blk
  exact blk_lt hG
theorem At.moved {w0 w w1 : World} {g : Nat} {A : Option Addr} {c : Nat} {xs : List Ls} {st : RSt} (h : At w0 w g A c xs st) (hb : Below w.heap.size w w1) : At w0 w1 g A c xs st := by
  obtain ⟨Ab, cb, hG, hS⟩ := h.blk
  exact ⟨⟨Ab, cb, blk_below hG hb, hS.keep (KeepBut.of_below hb g none)⟩, h.ge, below_weaken h.below h.below.size hb⟩
theorem At.spent {w0 w : World} {g : Nat} {A : Option Addr} {c : Nat} {xs : List Ls} {st : RSt} (h : At w0 w g A c xs st) {Ac : Option Addr} {cc : Nat} {ch : List Int} {pr : Int} (hS : St w w0.heap.size g Ac cc ch) (hpm : pr > st.most) :
    At w0 (((w.setCell ⟨g, 1, none⟩ (.int .i64 (st.left - 1))).setCell ⟨g, 2, none⟩ (.slice Ac ch.length cc)).setCell ⟨g, 3, none⟩ (.int .i64 pr)) g A c xs (updR st ch pr) := by
  obtain ⟨Ab, cb, hG, _⟩ := h.blk
  have e : updR st ch pr = ⟨st.left - 1, ch, pr⟩ := by unfold updR; rw [if_pos hpm]
  rw [e]
  refine ⟨⟨Ac, cc, ?_, hS.keep (((KeepBut.refl w g none).set_ _ _).set_ _ _ |>.set_ _ _)⟩, h.ge, below_set (below_set (below_set h.below h.ge) h.ge) h.ge⟩
  exact blk_put (blk_put (blk_put hG 1 _ rfl) 2 _ rfl) 3 _ rfl
theorem At.kept {w0 w : World} {g : Nat} {A : Option Addr} {c : Nat} {xs : List Ls} {st : RSt} (h : At w0 w g A c xs st) {ch : List Int} {pr : Int} (hpm : ¬ pr > st.most) :
    At w0 (w.setCell ⟨g, 1, none⟩ (.int .i64 (st.left - 1))) g A c xs (updR st ch pr) := by
  obtain ⟨Ab, cb, hG, hS⟩ := h.blk
  have e : updR st ch pr = ⟨st.left - 1, st.best, st.most⟩ := by unfold updR; rw [if_neg hpm]
  rw [e]
  exact ⟨⟨Ab, cb, blk_put hG 1 _ rfl, hS.keep ((KeepBut.refl w g none).set_ _ _)⟩, h.ge, below_set h.below h.ge⟩
/-- A row that was made since is another one than block g. -/
theorem St.of_row {w : World} {base base' g : Nat} {v : Value} {l : List Int} (h : kI.R 2 w base' (fun _ => True) v l) (hg : g < base') (hb : base ≤ base') : ∃ A1 c1, v = .slice A1 l.length c1 ∧ St w base g A1 c1 l := by
  obtain ⟨A1, c1, rfl, hl, _⟩ := Kd.R_reads h
  exact ⟨A1, c1, rfl, Kd.R_lower (Kd.R_mono (Kd.R_bound h) (fun k hk => by have := hk.2.1; omega)) hb⟩
theorem updR_left (st : RSt) (ch : List Int) (pr : Int) : (updR st ch pr).left = st.left - 1 := by unfold updR; split <;> rfl
theorem runR_dear {xs : List Ls} {d k : Nat} {st : RSt} {ch : List Int} {pr mo mi : Int} (h : (gL xs k).co > mo ∨ (gL xs k).mi > mi) : runR xs (d + 1) k st ch pr mo mi = runR xs d (k + 1) st ch pr mo mi := by
  rw [runR, if_pos h]
theorem runR_stop {xs : List Ls} {d k : Nat} {st st' : RSt} {ch : List Int} {pr mo mi : Int} (h : ¬ ((gL xs k).co > mo ∨ (gL xs k).mi > mi)) (h2 : enterR xs d (k + 1) st (ch ++ [(k : Int)]) (pr + (gL xs k).pr) (mo - (gL xs k).co) (mi - (gL xs k).mi) = (true, st')) : runR xs (d + 1) k st ch pr mo mi = (true, st') := by
  rw [runR, if_neg h]
  unfold enterR at h2
  simp only [h2, if_true]
theorem runR_go {xs : List Ls} {d k : Nat} {st st' : RSt} {ch : List Int} {pr mo mi : Int} (h : ¬ ((gL xs k).co > mo ∨ (gL xs k).mi > mi)) (h2 : enterR xs d (k + 1) st (ch ++ [(k : Int)]) (pr + (gL xs k).pr) (mo - (gL xs k).co) (mi - (gL xs k).mi) = (false, st')) : runR xs (d + 1) k st ch pr mo mi = runR xs d (k + 1) st' ch pr mo mi := by
  rw [runR, if_neg h]
  unfold enterR at h2
  simp only [h2]
  rw [if_neg (by simp)]
/-- The budget only falls. -/
theorem runR_left (xs : List Ls) (d : Nat) : ∀ (k : Nat) (st : RSt) (ch : List Int) (pr mo mi : Int), 0 ≤ st.left → 0 ≤ (runR xs d k st ch pr mo mi).2.left ∧ (runR xs d k st ch pr mo mi).2.left ≤ st.left := by
  induction d with
  | zero => intro k st ch pr mo mi h; exact ⟨h, Int.le_refl _⟩
  | succ d ih =>
    intro k st ch pr mo mi h
    rw [runR]
    split
    · exact ih _ _ _ _ _ _ h
    · by_cases hz : st.left = 0
      · simp only [hz, if_true]; exact ⟨by omega, by omega⟩
      · simp only [if_neg hz]
        have hu := updR_left st (ch ++ [(k : Int)]) (pr + (gL xs k).pr)
        have h1 := ih (k + 1) (updR st (ch ++ [(k : Int)]) (pr + (gL xs k).pr)) (ch ++ [(k : Int)]) (pr + (gL xs k).pr) (mo - (gL xs k).co) (mi - (gL xs k).mi) (by omega)
        split
        · exact ⟨h1.1, by omega⟩
        · have h2 := ih (k + 1) _ ch pr mo mi h1.1
          exact ⟨h2.1, by omega⟩
theorem enterR_left (xs : List Ls) (d k : Nat) (st : RSt) (ch : List Int) (pr mo mi : Int) (h : 0 ≤ st.left) : 0 ≤ (enterR xs d k st ch pr mo mi).2.left ∧ (enterR xs d k st ch pr mo mi).2.left ≤ st.left := by
  unfold enterR
  split
  · exact ⟨h, Int.le_refl _⟩
  · have hu := updR_left st ch pr
    have h1 := runR_left xs d k (updR st ch pr) ch pr mo mi (by omega)
    exact ⟨h1.1, by omega⟩

/-- What holds at each round's head. -/
structure Loop (w0 w wr : World) (g : Nat) (A : Option Addr) (c : Nat) (xs : List Ls) (d k d' k' : Nat) (st' : RSt) (ch : List Int) (pr mo mi : Int) (R : Bool × RSt) : Prop where
  sum : k' + d' = xs.length
  ge : k ≤ k'
  le : d' ≤ d
  res : runR xs d' k' st' ch pr mo mi = R
  l0 : 0 ≤ st'.left
  l1 : st'.left ≤ 20000
  at_ : At w0 wr g A c xs st'
  keep : KeepBut w wr g none
/-- What the region of the inner call is walked with. -/
structure SR (w0 wr W : World) (b g : Nat) (A : Option Addr) (c : Nat) (xs : List Ls) (st : RSt) (x : Ls) : Prop where
  at_ : At w0 W g A c xs st
  keep : KeepBut wr W g none
  box : AtL W ⟨b, 0, none⟩ x
theorem SR.moved {w0 wr W w1 : World} {b g : Nat} {A : Option Addr} {c : Nat} {xs : List Ls} {st : RSt} {x : Ls} (hb : Below W.heap.size W w1) (h : SR w0 wr W b g A c xs st x) : SR w0 wr w1 b g A c xs st x :=
  ⟨h.at_.moved hb, h.keep.trans (KeepBut.of_below hb g none) (.inl rfl), h.box.moved hb⟩

set_option maxHeartbeats 8000000 in
theorem run_c (xs : List Ls) (hx : Fit xs) (A : Option Addr) (c : Nat) (w0 : World) (hr : kL.C w0 A xs.length xs) (hc0 : xs.length ≤ c) (g : Nat) (d : Nat) :
    ∀ (k : Nat) (kk : Int) (st : RSt) (Ac : Option Addr) (cc : Nat) (ch : List Int) (pr mo mi : Int) (w : World), kk = k → k + d = xs.length → At w0 w g A c xs st → St w w0.heap.size g Ac cc ch → ch.length ≤ k →
      0 ≤ st.left → st.left ≤ 20000 → 0 ≤ pr → pr ≤ 9 * k → 0 ≤ mo → mo ≤ 16000000 → 0 ≤ mi → mi ≤ 160000 →
      Calls Try.prog 55 #[.pointer (some ⟨g, 0, none⟩), .slice Ac ch.length cc, .int .i64 kk, .int .i64 pr, .int .i64 mo, .int .i64 mi] w fun e w' =>
        e = .returned (.bool (enterR xs d k st ch pr mo mi).1) ∧ At w0 w' g A c xs (enterR xs d k st ch pr mo mi).2 ∧ KeepBut w w' g none := by
  induction d using Nat.strongRecOn with
  | _ d ih =>
  intro k kk st Ac cc ch pr mo mi w hkk hkd hA hS hck hl0 hl1 hp0 hp1 hm0 hm1 hi0 hi1
  subst hkk
  obtain ⟨Ab, cb, hG, hSb⟩ := hA.blk
  have hcb := hSb.le
  have hcc := hS.le
  have HS := Lib.hid hS
  have HA := Lib.hid hA
  have e0 : w.cell? ⟨g, 0, none⟩ = some (.slice A xs.length c) := (blk_cell hG 0).trans rfl
  have e1 : w.cell? ⟨g, 1, none⟩ = some (.int .i64 st.left) := (blk_cell hG 1).trans rfl
  have e2 : w.cell? ⟨g, 2, none⟩ = some (.slice Ab st.best.length cb) := (blk_cell hG 2).trans rfl
  have e3 : w.cell? ⟨g, 3, none⟩ = some (.int .i64 st.most) := (blk_cell hG 3).trans rfl
  have f1 := blk_frozen hG 1
  have f2 := blk_frozen hG 2
  have f3 := blk_frozen hG 3
  clear hG hA hS hSb
  by_cases hz : st.left = 0
  · have hfin := Lib.hid (show enterR xs d k st ch pr mo mi = (true, st) by unfold enterR; rw [if_pos hz])
    have hz' : (st.left == 0) = true := beq_iff_eq.mpr hz
    clear hz ih
    go_enter Try.func55, Try.ntmps55
    go_wp2
    go_ret
    rw [hfin.out]
    exact ⟨rfl, HA.out, KeepBut.refl _ _ _⟩
  have hz' : (st.left == 0) = false := beq_eq_false_iff_ne.mpr hz
  have hz1 : 1 ≤ st.left := by omega
  have hfin := Lib.hid (show enterR xs d k st ch pr mo mi = runR xs d k (updR st ch pr) ch pr mo mi by unfold enterR; rw [if_neg hz])
  have IH := Lib.hid ih
  have HX := Lib.hid hx
  have hul := Lib.hid (updR_left st ch pr)
  clear hz ih
  by_cases hpm : pr > st.most
  all_goals
    go_enter Try.func55, Try.ntmps55
    go_wp2
    go_loopw [13] (fun i wr => ∃ (d' k' : Nat) (st' : RSt), i = .int .i64 k' ∧ Loop w0 w wr g A c xs d k d' k' st' ch pr mo mi (runR xs d k (updR st ch pr) ch pr mo mi)) (fun i _ => xs.length - (intOf i).toNat)
    case atStart =>
      refine ⟨d, k, updR st ch pr, rfl, hkd, Nat.le_refl _, Nat.le_refl _, rfl, by rw [hul.out]; omega, by rw [hul.out]; omega, ?_, ?_⟩
      · first | exact HA.out.spent HS.out hpm | exact HA.out.kept (by omega)
      · first | exact ((KeepBut.refl w g none).set_ _ _).set_ _ _ |>.set_ _ _ | exact (KeepBut.refl w g none).set_ _ _
    case round =>
      clear e0 e1 e2 e3 f1 f2 f3
      obtain ⟨d', k', st', rfl, hL⟩ := hrel
      have HL := Lib.hid hL
      obtain ⟨Ab', cb', hG', hSb'⟩ := hL.at_.blk
      have hcb' := hSb'.le
      have e0 : wr.cell? ⟨g, 0, none⟩ = some (.slice A xs.length c) := (blk_cell hG' 0).trans rfl
      have hk'l : k' ≤ xs.length := by have := hL.sum; omega
      have hnl : xs.length ≤ 16 := HX.out.len
      clear hL hG' hSb' hcb'
      by_cases hlt : k' < xs.length
      · obtain ⟨d1, rfl⟩ : ∃ d1, d' = d1 + 1 := ⟨d' - 1, by have := HL.out.sum; omega⟩
        obtain ⟨ad, eA, g0, g1, g2, g3, g4, g5, g6, g7⟩ := at_L (Kd.C_below hr HL.out.at_.below) k' hlt
        have hkk := HL.out.ge
        have hdd := HL.out.le
        have hsum := HL.out.sum
        have hll0 := HL.out.l0
        have hll1 := HL.out.l1
        have EA := Lib.hid eA
        clear eA
        rw [EA.out] at e0
        have hu := Try.underlying98
        have hA1 := Lib.hid (HL.out.at_.moved (below_alloc (Below.refl _ wr) (boxL (gL xs k'))))
        have hK1 := Lib.hid (KeepBut.of_below (below_alloc (Below.refl _ wr) (boxL (gL xs k'))) g none)
        have hbox : AtL (wr.alloc (boxL (gL xs k'))) ⟨wr.heap.size, 0, none⟩ (gL xs k') := ⟨by simp, by simp, by simp, by simp, by simp, by simp, by simp, by simp⟩
        have HBX := Lib.hid hbox
        clear hbox
        obtain ⟨bc0, bc1⟩ := HX.out.co k' hlt
        obtain ⟨bm0, bm1⟩ := HX.out.mi k' hlt
        obtain ⟨bp0, bp1⟩ := HX.out.pr k' hlt
        by_cases q1 : (gL xs k').co > mo
        · have hres := Lib.hid ((runR_dear (d := d1) (st := st') (ch := ch) (pr := pr) (mi := mi) (.inl q1)).symm.trans HL.out.res)
          go_wp2
          go_roundw
          case rel => exact ⟨d1, k' + 1, st', by go_num, ⟨by omega, by omega, by omega, hres.out, by omega, by omega, hA1.out, HL.out.keep.trans hK1.out (.inl rfl)⟩⟩
          case measure => simp [intOf]; omega
        by_cases q2 : (gL xs k').mi > mi
        · have hres := Lib.hid ((runR_dear (d := d1) (st := st') (ch := ch) (pr := pr) (mo := mo) (.inr q2)).symm.trans HL.out.res)
          have q1' : decide ((gL xs k').co > mo) = false := decide_eq_false q1
          clear q1
          go_wp2
          go_roundw
          case rel => exact ⟨d1, k' + 1, st', by go_num, ⟨by omega, by omega, by omega, hres.out, by omega, by omega, hA1.out, HL.out.keep.trans hK1.out (.inl rfl)⟩⟩
          case measure => simp [intOf]; omega
        have q1' : decide ((gL xs k').co > mo) = false := decide_eq_false q1
        have q2' : decide ((gL xs k').mi > mi) = false := decide_eq_false q2
        have hnd := Lib.hid (show ¬ ((gL xs k').co > mo ∨ (gL xs k').mi > mi) from fun h => h.elim q1 q2)
        have q1'' : (gL xs k').co ≤ mo := by omega
        have q2'' : (gL xs k').mi ≤ mi := by omega
        clear q1 q2
        go_wp2
        have z1 : d1 < d := by omega
        have z2 : (k' : Int) + 1 = ((k' + 1 : Nat) : Int) := by omega
        have z3 : k' + 1 + d1 = xs.length := by omega
        have z4 : (ch ++ [(k' : Int)]).length ≤ k' + 1 := by simp; omega
        have z5 : 0 ≤ pr + (gL xs k').pr := by omega
        have z6 : pr + (gL xs k').pr ≤ 9 * ((k' + 1 : Nat) : Int) := by omega
        have z7 : 0 ≤ mo - (gL xs k').co := by omega
        have z8 : mo - (gL xs k').co ≤ 16000000 := by omega
        have z9 : 0 ≤ mi - (gL xs k').mi := by omega
        have z10 : mi - (gL xs k').mi ≤ 160000 := by omega
        have z11 : ch.length < 100000 := by omega
        have ZZ := Lib.hid (show _ ∧ _ ∧ _ ∧ _ ∧ _ ∧ _ from ⟨z1, z2, z3, z4, z6, z11⟩)
        have y1 : (0 : Int) ≤ (k' : Int) + 1 := by omega
        have y2 : (k' : Int) + 1 ≤ 1000000000 := by omega
        have y3 : pr + (gL xs k').pr ≤ 1000000000 := by omega
        have y4 : mo - (gL xs k').co ≤ 1000000000 := by omega
        have y5 : mi - (gL xs k').mi ≤ 1000000000 := by omega
        clear z1 z2 z3 z4 z6 z11
        have iw1 := wrap_sm_ y1 y2
        have iw2 := wrap_sm_ z5 y3
        have iw3 := wrap_sm_ z7 y4
        have iw4 := wrap_sm_ z9 y5
        refine start_ (n := 21) (ds := [20]) (S := (fun W => SR w0 wr W wr.heap.size g A c xs st' (gL xs k'))) (obits 21 0) (by kernel_rfl) rfl (by kernel_rfl) (SR.moved (below_drew (Below.refl _ _)) ⟨hA1.out, hK1.out, HBX.out⟩) (fun hHeld => ?_)
        refine with_tabW (T := (true, [([], []), ([], []), ([1], [1]), ([], []), ([3], [3]), ([2, 4, 2], [2, 4]), ([], []), ([6], [6]), ([], []), ([], []), ([9], [9]), ([8, 10], [8, 10]), ([], []), ([], []), ([13], [13]), ([12, 14], [12, 14]), ([], []), ([], []), ([17], [17]), ([16, 18], [16, 18]), ([0, 5, 7, 11, 15, 19, 5], [0, 5, 7, 11, 15, 19])])) (B := [0, 0, 2, 0, 8, 30, 0, 64, 0, 0, 512, 1792, 0, 0, 8192, 28672, 0, 0, 131072, 458752, 1048575]) (by kernel_rfl) (by kernel_rfl) (fun HT_ HW_ => ?_)
        refine pu HT_ 0 21 0 1 (some 68) rfl rfl (by kernel_rfl) (fun _ _ _ h => h) (Or.inl ⟨by rfl, fun w' => by go_simp; with_reducible rfl⟩) (by simp only [Act.put, List.setIfInBounds_toArray, List.set_cons_zero, List.set_cons_succ, i64_w, i32_w]; rfl) ?_
        refine pu HT_ 1 21 1 3 (some 69) rfl rfl (by kernel_rfl) (fun _ _ _ h => h) (Or.inl ⟨by rfl, fun w' => by go_simp; with_reducible rfl⟩) (by simp only [Act.put, List.setIfInBounds_toArray, List.set_cons_zero, List.set_cons_succ, i64_w, i32_w]; rfl) ?_
        refine pu HT_ 3 21 3 11 (some 71) rfl rfl (by kernel_rfl) (fun _ _ _ h => h) (Or.inl ⟨by rfl, fun w' => by go_simp; with_reducible rfl⟩) (by simp only [Act.put, List.setIfInBounds_toArray, List.set_cons_zero, List.set_cons_succ, i64_w, i32_w]; rfl) ?_
        refine pu HT_ 6 21 11 75 (some 74) rfl rfl (by kernel_rfl) (fun _ _ _ h => h) (Or.inl ⟨by rfl, fun w' => by go_simp; with_reducible rfl⟩) (by simp only [Act.put, List.setIfInBounds_toArray, List.set_cons_zero, List.set_cons_succ, i64_w, i32_w]; rfl) ?_
        refine pu HT_ 7 21 75 203 (some 75) rfl rfl (by kernel_rfl) (fun _ _ _ h => h) (Or.inl ⟨by rfl, fun w' => by go_simp; with_reducible rfl⟩) (by simp only [Act.put, List.setIfInBounds_toArray, List.set_cons_zero, List.set_cons_succ, i64_w, i32_w]; rfl) ?_
        refine pu HT_ 8 21 203 459 (some 76) rfl rfl (by kernel_rfl) (fun _ _ _ h => h) (Or.inl ⟨by rfl, fun w' => by go_simp; with_reducible rfl⟩) (by simp only [Act.put, List.setIfInBounds_toArray, List.set_cons_zero, List.set_cons_succ, i64_w, i32_w]; rfl) ?_
        refine pu HT_ 9 21 459 971 (some 77) rfl rfl (by kernel_rfl) (fun _ _ _ h => h) (Or.inl ⟨by rfl, fun w' => by go_simp; with_reducible rfl⟩) (by simp only [Act.put, List.setIfInBounds_toArray, List.set_cons_zero, List.set_cons_succ, i64_w, i32_w]; rfl) ?_
        refine tk HT_ HW_ 10 21 971 1995 (some 78) rfl rfl (by kernel_rfl) (fun _ _ _ h => h) (Or.inl ⟨by rfl, fun w' hs => by have c5 : w'.cell? ⟨wr.heap.size, 5, none⟩ = _ := hs.box.g5; have c6 : w'.cell? ⟨wr.heap.size, 6, none⟩ = _ := hs.box.g6; have c7 : w'.cell? ⟨wr.heap.size, 7, none⟩ = _ := hs.box.g7; clear hs; go_simp; with_reducible rfl⟩) hHeld (by simp only [Act.put, List.setIfInBounds_toArray, List.set_cons_zero, List.set_cons_succ, i64_w, i32_w]; rfl) ?_
        refine pu HT_ 11 21 1995 4043 (some 79) rfl rfl (by kernel_rfl) (fun _ _ _ h => h) (Or.inl ⟨by rfl, fun w' => by go_simp; with_reducible rfl⟩) (by simp only [Act.put, List.setIfInBounds_toArray, List.set_cons_zero, List.set_cons_succ, i64_w, i32_w]; rfl) ?_
        refine pu HT_ 12 21 4043 8139 (some 80) rfl rfl (by kernel_rfl) (fun _ _ _ h => h) (Or.inl ⟨by rfl, fun w' => by go_simp; with_reducible rfl⟩) (by simp only [Act.put, List.setIfInBounds_toArray, List.set_cons_zero, List.set_cons_succ, i64_w, i32_w]; rfl) ?_
        refine pu HT_ 13 21 8139 16331 (some 81) rfl rfl (by kernel_rfl) (fun _ _ _ h => h) (Or.inl ⟨by rfl, fun w' => by go_simp; with_reducible rfl⟩) (by simp only [Act.put, List.setIfInBounds_toArray, List.set_cons_zero, List.set_cons_succ, i64_w, i32_w]; rfl) ?_
        refine tk HT_ HW_ 14 21 16331 32715 (some 82) rfl rfl (by kernel_rfl) (fun _ _ _ h => h) (Or.inl ⟨by rfl, fun w' hs => by have c5 : w'.cell? ⟨wr.heap.size, 5, none⟩ = _ := hs.box.g5; have c6 : w'.cell? ⟨wr.heap.size, 6, none⟩ = _ := hs.box.g6; have c7 : w'.cell? ⟨wr.heap.size, 7, none⟩ = _ := hs.box.g7; clear hs; go_simp; with_reducible rfl⟩) hHeld (by simp only [Act.put, List.setIfInBounds_toArray, List.set_cons_zero, List.set_cons_succ, i64_w, i32_w]; rfl) ?_
        refine pu HT_ 15 21 32715 65483 (some 83) rfl rfl (by kernel_rfl) (fun _ _ _ h => h) (Or.inl ⟨by rfl, fun w' => by go_simp; with_reducible rfl⟩) (by simp only [Act.put, List.setIfInBounds_toArray, List.set_cons_zero, List.set_cons_succ, i64_w, i32_w]; rfl) ?_
        refine pu HT_ 16 21 65483 131019 (some 84) rfl rfl (by kernel_rfl) (fun _ _ _ h => h) (Or.inl ⟨by rfl, fun w' => by go_simp; with_reducible rfl⟩) (by simp only [Act.put, List.setIfInBounds_toArray, List.set_cons_zero, List.set_cons_succ, i64_w, i32_w]; rfl) ?_
        refine pu HT_ 17 21 131019 262091 (some 85) rfl rfl (by kernel_rfl) (fun _ _ _ h => h) (Or.inl ⟨by rfl, fun w' => by go_simp; with_reducible rfl⟩) (by simp only [Act.put, List.setIfInBounds_toArray, List.set_cons_zero, List.set_cons_succ, i64_w, i32_w]; rfl) ?_
        refine tk HT_ HW_ 18 21 262091 524235 (some 86) rfl rfl (by kernel_rfl) (fun _ _ _ h => h) (Or.inl ⟨by rfl, fun w' hs => by have c5 : w'.cell? ⟨wr.heap.size, 5, none⟩ = _ := hs.box.g5; have c6 : w'.cell? ⟨wr.heap.size, 6, none⟩ = _ := hs.box.g6; have c7 : w'.cell? ⟨wr.heap.size, 7, none⟩ = _ := hs.box.g7; clear hs; go_simp; with_reducible rfl⟩) hHeld (by simp only [Act.put, List.setIfInBounds_toArray, List.set_cons_zero, List.set_cons_succ, i64_w, i32_w]; rfl) ?_
        refine pu HT_ 19 21 524235 1048523 (some 87) rfl rfl (by kernel_rfl) (fun _ _ _ h => h) (Or.inl ⟨by rfl, fun w' => by go_simp; with_reducible rfl⟩) (by simp only [Act.put, List.setIfInBounds_toArray, List.set_cons_zero, List.set_cons_succ, i64_w, i32_w]; rfl) ?_
        refine snoc_ HT_ 2 4 5 21 1048523 1048527 1048539 1048543 1048575 70 72 73 (Ac) (cc) (ch) ((k' : Int)) rfl rfl rfl rfl rfl rfl (by decide) (by kernel_rfl) (by kernel_rfl) (by kernel_rfl) (by kernel_rfl) (by decide) (by decide) (by decide) (fun _ => rfl) (fun _ => rfl) (fun _ => rfl) rfl (by (try simp only [List.map_toArray, List.map_cons, List.map_nil]); first | done | rfl) (fun _ => by (try simp only [List.map_toArray, List.map_cons, List.map_nil]); first | done | rfl) (fun w => by go_simp) (fun v w => by go_simp) rfl (fun _ _ => ⟨by rfl, by rfl⟩) (fun w1 hb => SR.moved hb hHeld) ((HS.out.keep (HL.out.keep.trans hHeld.keep (.inl rfl))).now) (hcc) (ZZ.out.2.2.2.2.2) ?_
        intro u_ v_ v1 w1 ho hb1 hHeld
        obtain ⟨A1, c1, rfl, hSt⟩ := St.of_row (base := w0.heap.size) ho (Nat.lt_of_lt_of_le hA1.out.lt (Nat.le_refl _)) hA1.out.below.size
        refine norm_ (by simp only [Act.put, List.setIfInBounds_toArray, List.set_cons_zero, List.set_cons_succ, i64_w, i32_w]; rfl) ?_
        refine la HT_ 20 21 1048575 2097151 (some 88) rfl rfl (by kernel_rfl) (by decide) (fun K hK => ?_)
        refine goes_ Try.func55 (by kernel_rfl) rfl #[.pointer (some ⟨g, 0, none⟩), .slice A1 (ch ++ [(k' : Int)]).length c1, .int .i64 ((k' : Int) + 1), .int .i64 (pr + (gL xs k').pr), .int .i64 (mo - (gL xs k').co), .int .i64 (mi - (gL xs k').mi)] (by rfl) rfl rfl (by (try simp only [List.map_toArray, List.map_cons, List.map_nil]); first | done | rfl | go_simp) ?_
        refine (IH.out d1 ZZ.out.1 (k' + 1) ((k' : Int) + 1) st' A1 c1 (ch ++ [(k' : Int)]) (pr + (gL xs k').pr) (mo - (gL xs k').co) (mi - (gL xs k').mi) w1 ZZ.out.2.1 ZZ.out.2.2.1 hHeld.at_ hSt ZZ.out.2.2.2.1 hll0 hll1 z5 ZZ.out.2.2.2.2.1 z7 z8 z9 z10).mono ?_
        rintro e w2 ⟨rfl, hA2, hK2⟩
        refine ⟨_, rfl, ?_⟩
        refine hK.out _ _ ?_
        clear hK K
        refine norm_ (by simp only [Act.put, List.setIfInBounds_toArray, List.set_cons_zero, List.set_cons_succ, i64_w, i32_w]; rfl) ?_
        refine done_ (done_of HT_.out (by kernel_rfl)) ?_
        clear iw1 iw2 iw3 iw4 ZZ z5 z7 z8 z9 z10 y1 y2 y3 y4 y5
        cases hb : (enterR xs d1 (k' + 1) st' (ch ++ [(k' : Int)]) (pr + (gL xs k').pr) (mo - (gL xs k').co) (mi - (gL xs k').mi)).1 with
        | true =>
          have hE := Lib.hid (show enterR xs d1 (k' + 1) st' (ch ++ [(k' : Int)]) (pr + (gL xs k').pr) (mo - (gL xs k').co) (mi - (gL xs k').mi) = (true, _) from Prod.ext hb rfl)
          have hres := Lib.hid ((runR_stop hnd.out hE.out).symm.trans HL.out.res)
          try go_wp2
          go_ret
          rw [hfin.out, ← hres.out]
          exact ⟨rfl, hA2, HL.out.keep.trans (hHeld.keep.trans hK2 (.inl rfl)) (.inl rfl)⟩
        | false =>
          have hE := Lib.hid (show enterR xs d1 (k' + 1) st' (ch ++ [(k' : Int)]) (pr + (gL xs k').pr) (mo - (gL xs k').co) (mi - (gL xs k').mi) = (false, _) from Prod.ext hb rfl)
          have hres := Lib.hid ((runR_go hnd.out hE.out).symm.trans HL.out.res)
          have hle := enterR_left xs d1 (k' + 1) st' (ch ++ [(k' : Int)]) (pr + (gL xs k').pr) (mo - (gL xs k').co) (mi - (gL xs k').mi) hll0
          have hle2 := Lib.hid hle
          clear hle
          try go_wp2
          go_roundw
          case rel => exact ⟨d1, k' + 1, _, by go_num, ⟨by omega, by omega, by omega, hres.out, hle2.out.1, Int.le_trans hle2.out.2 hll1, hA2, HL.out.keep.trans (hHeld.keep.trans hK2 (.inl rfl)) (.inl rfl)⟩⟩
          case measure => simp [intOf]; omega
      · obtain rfl : k' = xs.length := by omega
        have hd0 : d' = 0 := by have := HL.out.sum; omega
        have hres := Lib.hid (show runR xs d k (updR st ch pr) ch pr mo mi = (false, st') by rw [← HL.out.res, hd0, runR])
        clear hd0
        go_wp2
        go_ret
        rw [hfin.out, hres.out]
        exact ⟨rfl, HL.out.at_, HL.out.keep⟩
end Go.Proofs.Ytdbgjjckafeenaa.Rep
