/- The reference's search for repairs. -/
import Derived.Test.YtdbgjjckafeenaaLoss
import Derived.Test.YtdbgjjckafeenaaRep
import Derived.StillTailTactics
namespace Go.Proofs.Ytdbgjjckafeenaa.Vis
open Go.RowKit Go.Proofs.YtdbgjjckafeenaaW.PrintWords Go.Proofs.YtdbgjjckafeenaaW.PrintLast Go.Proofs.YtdbgjjckafeenaaW.PrintMore Go.Proofs.Ytdbgjjckafeenaa.Base Go.Proofs.Ytdbgjjckafeenaa.Loss Go.Proofs.Ytdbgjjckafeenaa.Rw Go.Proofs.Ytdbgjjckafeenaa.Rep
set_option linter.unusedVariables false
set_option linter.unusedSimpArgs false
set_option maxRecDepth 100000

structure VSt where
  best : List Int
  most : Int
  nodes : Int
def updV (st : VSt) (ch : List Int) (pr : Int) : VSt := if pr > st.most then ⟨ch, pr, st.nodes + 1⟩ else ⟨st.best, st.most, st.nodes + 1⟩
/-- From place k on, d places left: what then stands. -/
def runV (xs : List Ls) (b : Int) : Nat → Nat → VSt → List Int → Int → Int → Int → VSt
  | 0, _, st, _, _, _, _ => st
  | d + 1, k, st, ch, pr, mo, mi =>
    if (gL xs k).co > mo ∨ (gL xs k).mi > mi then runV xs b d (k + 1) st ch pr mo mi
    else
      runV xs b d (k + 1) (if st.nodes + 1 > b then ⟨st.best, st.most, st.nodes + 1⟩ else runV xs b d (k + 1) (updV st (ch ++ [(k : Int)]) (pr + (gL xs k).pr)) (ch ++ [(k : Int)]) (pr + (gL xs k).pr) (mo - (gL xs k).co) (mi - (gL xs k).mi)) ch pr mo mi
def enterV (xs : List Ls) (b : Int) (d k : Nat) (st : VSt) (ch : List Int) (pr mo mi : Int) : VSt :=
  if st.nodes + 1 > b then ⟨st.best, st.most, st.nodes + 1⟩ else runV xs b d k (updV st ch pr) ch pr mo mi

theorem updV_nodes (st : VSt) (ch : List Int) (pr : Int) : (updV st ch pr).nodes = st.nodes + 1 := by unfold updV; split <;> rfl
theorem runV_dear {xs : List Ls} {b : Int} {d k : Nat} {st : VSt} {ch : List Int} {pr mo mi : Int} (h : (gL xs k).co > mo ∨ (gL xs k).mi > mi) : runV xs b (d + 1) k st ch pr mo mi = runV xs b d (k + 1) st ch pr mo mi := by
  rw [runV, if_pos h]
theorem runV_go {xs : List Ls} {b : Int} {d k : Nat} {st : VSt} {ch : List Int} {pr mo mi : Int} (h : ¬ ((gL xs k).co > mo ∨ (gL xs k).mi > mi)) : runV xs b (d + 1) k st ch pr mo mi = runV xs b d (k + 1) (enterV xs b d (k + 1) st (ch ++ [(k : Int)]) (pr + (gL xs k).pr) (mo - (gL xs k).co) (mi - (gL xs k).mi)) ch pr mo mi := by
  rw [runV, if_neg h, enterV]
/-- How many nodes there may come. -/
theorem runV_nodes (xs : List Ls) (b : Int) (d : Nat) : ∀ (k : Nat) (st : VSt) (ch : List Int) (pr mo mi : Int), st.nodes ≤ (runV xs b d k st ch pr mo mi).nodes ∧ (runV xs b d k st ch pr mo mi).nodes + 1 ≤ st.nodes + 2 ^ d := by
  induction d with
  | zero => intro k st ch pr mo mi; rw [runV]; exact ⟨Int.le_refl _, by simp⟩
  | succ d ih =>
    intro k st ch pr mo mi
    have h2 : (2 : Int) ^ (d + 1) = 2 ^ d + 2 ^ d := by rw [Int.pow_succ]; omega
    have h1 : (1 : Int) ≤ 2 ^ d := Int.pow_pos (by decide)
    rw [runV]
    split
    · have := ih (k + 1) st ch pr mo mi
      omega
    · by_cases hb : st.nodes + 1 > b
      · rw [if_pos hb]
        have := ih (k + 1) ⟨st.best, st.most, st.nodes + 1⟩ ch pr mo mi
        simp only at this
        omega
      · rw [if_neg hb]
        have a1 := ih (k + 1) (updV st (ch ++ [(k : Int)]) (pr + (gL xs k).pr)) (ch ++ [(k : Int)]) (pr + (gL xs k).pr) (mo - (gL xs k).co) (mi - (gL xs k).mi)
        rw [updV_nodes] at a1
        have a2 := ih (k + 1) (runV xs b d (k + 1) (updV st (ch ++ [(k : Int)]) (pr + (gL xs k).pr)) (ch ++ [(k : Int)]) (pr + (gL xs k).pr) (mo - (gL xs k).co) (mi - (gL xs k).mi)) ch pr mo mi
        omega
theorem enterV_nodes (xs : List Ls) (b : Int) (d k : Nat) (st : VSt) (ch : List Int) (pr mo mi : Int) : st.nodes + 1 ≤ (enterV xs b d k st ch pr mo mi).nodes ∧ (enterV xs b d k st ch pr mo mi).nodes ≤ st.nodes + 2 ^ d := by
  have h1 : (1 : Int) ≤ 2 ^ d := Int.pow_pos (by decide)
  unfold enterV
  split
  · exact ⟨Int.le_refl _, by simp only; omega⟩
  · have a1 := runV_nodes xs b d k (updV st ch pr) ch pr mo mi
    rw [updV_nodes] at a1
    omega

set_option maxHeartbeats 1000000 in
theorem own_c (A0 : Option Addr) (c0 : Nat) (l0 : List Int) (w : World) (hr0 : kI.C w A0 l0.length l0) (hc0 : l0.length ≤ c0) (hlim : l0.length < 17592186044416) :
    Calls Try.prog 52 #[.slice A0 l0.length c0] w fun e w' => ∃ v : Value, e = .returned v ∧ kI.R 2 w' w.heap.size (fun _ => True) v l0 ∧ Below w.heap.size w w' := by
  have HR0 := Lib.hid hr0
  clear hr0
  go_enter Try.func52, Try.ntmps52
  go_wp2_with (first | ((with_reducible refine gate_dst (N := 3) rfl ?_); refine Kd.R_lit kI _ 2 ?hg (N := 3) ?hd (xs := ([] : List Int)) (inner := []) (ok := fun _ => True) (okp := fun _ => True) ?hr ?hp (fun _ hk => hk) trivial (Below.refl _ _) (Nat.le_refl _) (by simp) ?_; (case hd => rfl); (case hg => rfl); (case hr => first | (go_simp; done) | (go_simp; rfl)); (case hp => exact (Reps.none _ _)); intro v1 w1 ho hb hg_ hnew_; clear hg_ hnew_; have HO := Lib.hid ho; have HB := Lib.hid hb; clear ho hb) | ((with_reducible refine gate_builtin (b := .append) (xs := #[.tmp 3, .tmp 4]) rfl ?_); at_builtin; refine Kd.R_append_rows kI (w0 := w) w.heap.size rfl (.tmp 3) (.tmp 4) 26 2 (.int .i64 0) 8 rfl Try.underlying26 infoInt rfl (by decide) (by omega) v1 ([] : List Int) l0 _ _ _ (fun _ => True) (fun _ => False) rfl rfl ?aO ?aR (fun _ _ h => h) (fun _ h => h.elim) ?aF ?aB ?aS ?aL ?_; (case aR => exact Kd.C_below HR0.out HB.out); (case aB => exact HB.out); (case aF => exact (fun _ _ => trivial)); (case aO => exact HO.out); (case aS => exact HB.out.size); (case aL => simp; omega); intro v2 w2 ho hb hg hat; have HO2 := Lib.hid ho; have HB2 := Lib.hid hb; clear ho hb hg hat))
  go_ret
  exact ⟨_, rfl, HO2.out, HB2.out⟩

/-- A search at block g. -/
structure AtV (w0 w : World) (g : Nat) (A : Option Addr) (c : Nat) (xs : List Ls) (b : Int) (st : VSt) (ch : List Int) : Prop where
  blk : ∃ Ac cc Ab cb, w.heap[g]? = some (.cells #[.slice A xs.length c, .slice Ac ch.length cc, .slice Ab st.best.length cb, .int .i64 st.most, .int .i64 st.nodes, .int .i64 b] 94 (0, 0)) ∧
    kI.R 2 w w0.heap.size (fun k => k ≠ g) (.slice Ac ch.length cc) ch ∧ kI.R 2 w w0.heap.size (fun k => k ≠ g ∧ some k ≠ (Value.slice Ac ch.length cc).ownBlock) (.slice Ab st.best.length cb) st.best
  ge : w0.heap.size ≤ g
  below : Below w0.heap.size w0 w

theorem AtV.lt {w0 w : World} {g : Nat} {A : Option Addr} {c : Nat} {xs : List Ls} {b : Int} {st : VSt} {ch : List Int} (h : AtV w0 w g A c xs b st ch) : g < w.heap.size := by
  obtain ⟨_, _, _, _, hG, _⟩ := h.blk
  exact blk_lt hG
theorem AtV.moved {w0 w w1 : World} {g : Nat} {A : Option Addr} {c : Nat} {xs : List Ls} {b : Int} {st : VSt} {ch : List Int} (h : AtV w0 w g A c xs b st ch) (hb : Below w.heap.size w w1) : AtV w0 w1 g A c xs b st ch := by
  obtain ⟨Ac, cc, Ab, cb, hG, h1, h2⟩ := h.blk
  exact ⟨⟨Ac, cc, Ab, cb, blk_below hG hb, Kd.R_below h1 hb, Kd.R_below h2 hb⟩, h.ge, below_weaken h.below h.below.size hb⟩
theorem RV_set {w : World} {g i base : Nat} {ok : Nat → Prop} {v u : Value} {l : List Int} (h : kI.R 2 w base ok v l) (hok : ∀ k, ok k → k ≠ g) : kI.R 2 (w.setCell ⟨g, i, none⟩ u) base ok v l := Kd.R_far h (p := ⟨g, i, none⟩) hok u
/-- One node more. -/
theorem AtV.node {w0 w : World} {g : Nat} {A : Option Addr} {c : Nat} {xs : List Ls} {b : Int} {st : VSt} {ch : List Int} (h : AtV w0 w g A c xs b st ch) : AtV w0 (w.setCell ⟨g, 4, none⟩ (.int .i64 (st.nodes + 1))) g A c xs b ⟨st.best, st.most, st.nodes + 1⟩ ch := by
  obtain ⟨Ac, cc, Ab, cb, hG, h1, h2⟩ := h.blk
  exact ⟨⟨Ac, cc, Ab, cb, blk_put hG 4 _ rfl, RV_set h1 (fun _ hk => hk), RV_set h2 (fun _ hk => hk.1)⟩, h.ge, below_set h.below h.ge⟩
theorem AtV.most {w0 w : World} {g : Nat} {A : Option Addr} {c : Nat} {xs : List Ls} {b : Int} {st : VSt} {ch : List Int} (h : AtV w0 w g A c xs b st ch) (m : Int) : AtV w0 (w.setCell ⟨g, 3, none⟩ (.int .i64 m)) g A c xs b ⟨st.best, m, st.nodes⟩ ch := by
  obtain ⟨Ac, cc, Ab, cb, hG, h1, h2⟩ := h.blk
  exact ⟨⟨Ac, cc, Ab, cb, blk_put hG 3 _ rfl, RV_set h1 (fun _ hk => hk), RV_set h2 (fun _ hk => hk.1)⟩, h.ge, below_set h.below h.ge⟩
/-- The best one is a copy that was made since w. -/
theorem AtV.best {w0 w W : World} {g : Nat} {A : Option Addr} {c : Nat} {xs : List Ls} {b : Int} {st : VSt} {ch l : List Int} {v : Value} (h : AtV w0 w g A c xs b st ch) (hb : Below w.heap.size w W) (hv : kI.R 2 W w.heap.size (fun _ => True) v l) : AtV w0 (W.setCell ⟨g, 2, none⟩ v) g A c xs b ⟨l, st.most, st.nodes⟩ ch := by
  obtain ⟨Ac, cc, Ab, cb, hG, h1, h2⟩ := h.blk
  obtain ⟨A1, c1, rfl, _, _⟩ := Kd.R_reads hv
  have hlt := blk_lt hG
  have hv2 := Kd.R_mono (ok' := fun k => k ≠ g ∧ some k ≠ (Value.slice Ac ch.length cc).ownBlock) (Kd.R_bound hv) (fun k hk => ⟨by have := hk.2.1; omega, fun he => by have := Kd.R_lt h1 k he.symm; have := hk.2.1; omega⟩)
  exact ⟨⟨Ac, cc, A1, c1, blk_put (blk_below hG hb) 2 _ rfl, RV_set (Kd.R_below h1 hb) (fun _ hk => hk), RV_set (Kd.R_lower hv2 h.below.size) (fun _ hk => hk.1)⟩, h.ge, below_set (below_weaken h.below h.below.size hb) h.ge⟩
/-- The chosen ones have grown. -/
theorem AtV.grown {w0 w w1 : World} {g : Nat} {A : Option Addr} {c : Nat} {xs : List Ls} {b : Int} {st : VSt} {ch ch1 : List Int} {Ac Ab : Option Addr} {cc cb : Nat} {v1 : Value}
    (hG : w.heap[g]? = some (.cells #[.slice A xs.length c, .slice Ac ch.length cc, .slice Ab st.best.length cb, .int .i64 st.most, .int .i64 st.nodes, .int .i64 b] 94 (0, 0)))
    (h1 : kI.R 2 w w0.heap.size (fun k => k ≠ g) (.slice Ac ch.length cc) ch) (h2 : kI.R 2 w w0.heap.size (fun k => k ≠ g ∧ some k ≠ (Value.slice Ac ch.length cc).ownBlock) (.slice Ab st.best.length cb) st.best) (hge : w0.heap.size ≤ g)
    (hv : kI.R 2 w1 w0.heap.size (fun k => k ≠ g) v1 ch1) (hb : Below w0.heap.size w0 w1) (hg : w.grownBy w1 (Value.slice Ac ch.length cc).ownBlock) (hat : v1.ownBlock = (Value.slice Ac ch.length cc).ownBlock ∨ ∃ b, v1.ownBlock = some b ∧ w.heap.size ≤ b) :
    ∃ A1 n1 c1, v1 = .slice A1 n1 c1 ∧ w1.frozen? ⟨g, 1, none⟩ = false ∧ w1.cell? ⟨g, 1, none⟩ = some (.slice Ac ch.length cc) ∧ (∀ b v, b ≠ g → some b ≠ (Value.slice Ac ch.length cc).ownBlock → ∀ o, w.cell? ⟨b, o, none⟩ = some v → ∀ u, (w1.setCell ⟨g, 1, none⟩ u).cell? ⟨b, o, none⟩ = some v) ∧ AtV w0 (w1.setCell ⟨g, 1, none⟩ v1) g A c xs b st ch1 := by
  obtain ⟨A1, c1, rfl, _, _⟩ := Kd.R_reads hv
  have hlt := blk_lt hG
  have hG1 : w1.heap[g]? = _ := (hg.block g hlt (fun e => h1.1 g e.symm rfl)).trans hG
  refine ⟨A1, _, c1, rfl, (blk_frozen hG1 1), (blk_cell hG1 1).trans rfl, fun b v hb2 hb3 o hc u => ?_, ⟨⟨A1, c1, Ab, cb, blk_put hG1 1 _ rfl, RV_set hv (fun _ hk => hk), RV_set ?_ (fun _ hk => hk.1)⟩, hge, below_set hb hge⟩⟩
  · rw [World.cell?_setCell_far _ _ _ _ (fun e => hb2 e.symm)]
    have h5 := hg.block b (World.block_lt_of_cell? w _ hc) hb3
    unfold World.cell? at hc ⊢
    rw [h5]; exact hc
  have h3 := Kd.R_grown (Kd.R_bound h2) hg (fun k hk => hk.1.2)
  refine Kd.R_mono h3 (fun k hk => ⟨hk.1.1, ?_⟩)
  rcases hat with e | ⟨b', e, hle⟩
  · rw [e]; exact hk.1.2
  · rw [e]; intro e2; have e2 := Option.some.inj e2; have := hk.2.2.1; omega
/-- The chosen ones are cut. -/
theorem AtV.cut {w0 w : World} {g : Nat} {A : Option Addr} {c : Nat} {xs : List Ls} {b : Int} {st : VSt} {ch : List Int} {k : Int} {Ac Ab : Option Addr} {cc cb : Nat}
    (hG : w.heap[g]? = some (.cells #[.slice A xs.length c, .slice Ac (ch ++ [k]).length cc, .slice Ab st.best.length cb, .int .i64 st.most, .int .i64 st.nodes, .int .i64 b] 94 (0, 0)))
    (h1 : kI.R 2 w w0.heap.size (fun k => k ≠ g) (.slice Ac (ch ++ [k]).length cc) (ch ++ [k])) (h2 : kI.R 2 w w0.heap.size (fun j => j ≠ g ∧ some j ≠ (Value.slice Ac (ch ++ [k]).length cc).ownBlock) (.slice Ab st.best.length cb) st.best) (hge : w0.heap.size ≤ g) (hb : Below w0.heap.size w0 w) :
    AtV w0 (w.setCell ⟨g, 1, none⟩ (.slice Ac ch.length cc)) g A c xs b st ch := by
  have h3 : kI.R 2 w w0.heap.size (fun k => k ≠ g) (.slice Ac ch.length cc) ch := by
    have := Kd.R_take (m := ch.length) h1 (by simp)
    rwa [List.take_left] at this
  have e : (Value.slice Ac (ch ++ [k]).length cc).ownBlock = (Value.slice Ac ch.length cc).ownBlock := by cases Ac <;> rfl
  rw [e] at h2
  exact ⟨⟨Ac, cc, Ab, cb, blk_put hG 1 _ rfl, RV_set h3 (fun _ hk => hk), RV_set h2 (fun _ hk => hk.1)⟩, hge, below_set hb hge⟩

/-- What holds at each round's head. -/
structure LoopV (w0 wr : World) (g : Nat) (A : Option Addr) (c : Nat) (xs : List Ls) (b : Int) (d k d' k' : Nat) (st' : VSt) (ch : List Int) (pr mo mi : Int) (R : VSt) : Prop where
  sum : k' + d' = xs.length
  ge : k ≤ k'
  le : d' ≤ d
  res : runV xs b d' k' st' ch pr mo mi = R
  n0 : 0 ≤ st'.nodes
  n1 : st'.nodes + 2 ^ d' ≤ 1000001
  at_ : AtV w0 wr g A c xs b st' ch

set_option maxHeartbeats 8000000 in
theorem visit_c (xs : List Ls) (hx : Fit xs) (A : Option Addr) (c : Nat) (w0 : World) (hr : kL.C w0 A xs.length xs) (hc0 : xs.length ≤ c) (b : Int) (g : Nat) (d : Nat) :
    ∀ (k : Nat) (kk : Int) (st : VSt) (ch : List Int) (pr mo mi : Int) (w : World), kk = k → k + d = xs.length → AtV w0 w g A c xs b st ch → ch.length ≤ k →
      0 ≤ st.nodes → st.nodes + 2 ^ d ≤ 1000000 → 0 ≤ pr → pr ≤ 9 * k → 0 ≤ mo → mo ≤ 16000000 → 0 ≤ mi → mi ≤ 160000 →
      Calls Try.prog 51 #[.pointer (some ⟨g, 0, none⟩), .int .i64 kk, .int .i64 pr, .int .i64 mo, .int .i64 mi] w fun e w' =>
        e = .returned (.tuple #[]) ∧ AtV w0 w' g A c xs b (enterV xs b d k st ch pr mo mi) ch := by
  induction d using Nat.strongRecOn with
  | _ d ih =>
  intro k kk st ch pr mo mi w hkk hkd hA hck hl0 hl1 hp0 hp1 hm0 hm1 hi0 hi1
  subst hkk
  have hpow : (1 : Int) ≤ 2 ^ d := Int.pow_pos (by decide)
  obtain ⟨Ac, cc, Ab, cb, hG, hR1, hR2⟩ := hA.blk
  have HA := Lib.hid hA
  have e1 : w.cell? ⟨g, 1, none⟩ = some (.slice Ac ch.length cc) := (blk_cell hG 1).trans rfl
  have e2 : w.cell? ⟨g, 2, none⟩ = some (.slice Ab st.best.length cb) := (blk_cell hG 2).trans rfl
  have e3 : w.cell? ⟨g, 3, none⟩ = some (.int .i64 st.most) := (blk_cell hG 3).trans rfl
  have e4 : w.cell? ⟨g, 4, none⟩ = some (.int .i64 st.nodes) := (blk_cell hG 4).trans rfl
  have e5 : w.cell? ⟨g, 5, none⟩ = some (.int .i64 b) := (blk_cell hG 5).trans rfl
  have f2 := blk_frozen hG 2
  have f3 := blk_frozen hG 3
  have f4 := blk_frozen hG 4
  have HR1 := Lib.hid hR1
  clear hG hA hR1 hR2
  have y1 : 0 ≤ st.nodes + 1 := by omega
  have y2 : st.nodes + 1 ≤ 1000000000 := by omega
  have iw := wrap_sm_ y1 y2
  have hnode := Lib.hid HA.out.node
  by_cases hz : st.nodes + 1 > b
  · have hfin := Lib.hid (show enterV xs b d k st ch pr mo mi = ⟨st.best, st.most, st.nodes + 1⟩ by unfold enterV; rw [if_pos hz])
    clear ih hpow
    go_enter Try.func51, Try.ntmps51
    go_wp2
    go_quiet (fail)
    go_wp2
    refine bodyPost_ret (results_none rfl _ _ _) rfl ?_
    rw [hfin.out]
    exact ⟨rfl, hnode.out.moved (pw_below_drewN (Below.refl _ _) _)⟩
  have hfin := Lib.hid (show enterV xs b d k st ch pr mo mi = runV xs b d k (updV st ch pr) ch pr mo mi by unfold enterV; rw [if_neg hz])
  have hz' : decide (st.nodes + 1 > b) = false := decide_eq_false hz
  have IH := Lib.hid ih
  have HX := Lib.hid hx
  have hul := Lib.hid (updV_nodes st ch pr)
  have hcl : ch.length < 17592186044416 := by have := hx.len; omega
  clear ih hz
  have hstart : ∀ W, AtV w0 W g A c xs b (updV st ch pr) ch → ∃ (d' k' : Nat) (st' : VSt), Value.int .i64 (k : Int) = .int .i64 k' ∧ LoopV w0 W g A c xs b d k d' k' st' ch pr mo mi (runV xs b d k (updV st ch pr) ch pr mo mi) := fun W hW =>
    ⟨d, k, updV st ch pr, rfl, hkd, Nat.le_refl _, Nat.le_refl _, rfl, by rw [hul.out]; omega, by rw [hul.out]; omega, hW⟩
  have HST := Lib.hid hstart
  clear hstart hpow
  have hl1' := Lib.hid hl1
  clear hl1
  by_cases hpm : pr > st.most
  all_goals
    go_enter Try.func51, Try.ntmps51
    go_wp2
    go_quiet (fail)
    try go_wp2_with (go_at_call 52; refine (own_c Ac cc ch _ (Kd.R_reads' (RV_set (Kd.R_drewN (RV_set HR1.out (fun _ hk => hk)) _) (fun _ hk => hk))).2.2 (Kd.R_reads' HR1.out).2.1 hcl).mono ?_; rintro e W1 ⟨v1, rfl, hv1, hbw⟩; obtain ⟨A1, c1, rfl, _, _⟩ := Kd.R_reads hv1; have HV1 := Lib.hid hv1; have HBW := Lib.hid hbw; have HF : W1.frozen? ⟨g, 2, none⟩ = false := (Below.frozen hbw (p := ⟨g, 2, none⟩) (by have := HA.out.lt; simpa using this)).trans (by go_simp); have HC : W1.cell? ⟨g, 2, none⟩ = some (.slice Ab st.best.length cb) := (Below.cell hbw (p := ⟨g, 2, none⟩) (by have := HA.out.lt; simpa using this)).trans (by go_simp); clear hv1 hbw)
    go_loopw [10] (fun i wr => ∃ (d' k' : Nat) (st' : VSt), i = .int .i64 k' ∧ LoopV w0 wr g A c xs b d k d' k' st' ch pr mo mi (runV xs b d k (updV st ch pr) ch pr mo mi)) (fun i _ => xs.length - (intOf i).toNat)
    case atStart =>
      refine HST.out _ ?_
      first | (have h := (((hnode.out.moved (pw_below_drewN (Below.refl _ _) _)).most pr).best HBW.out HV1.out); rw [show updV st ch pr = ⟨ch, pr, st.nodes + 1⟩ from if_pos hpm]; exact h) | (rw [show updV st ch pr = ⟨st.best, st.most, st.nodes + 1⟩ from if_neg (by omega)]; exact hnode.out.moved (pw_below_drewN (Below.refl _ _) _))
    case round =>
      clear e1 e2 e3 e4 e5 f2 f3 f4
      obtain ⟨d', k', st', rfl, hL⟩ := hrel
      have HL := Lib.hid hL
      obtain ⟨Ac', cc', Ab', cb', hG', hR1', hR2'⟩ := hL.at_.blk
      have HG' := Lib.hid hG'
      have HR1' := Lib.hid hR1'
      have HR2' := Lib.hid hR2'
      have e0 : wr.cell? ⟨g, 0, none⟩ = some (.slice A xs.length c) := (blk_cell hG' 0).trans rfl
      have e1 : wr.cell? ⟨g, 1, none⟩ = some (.slice Ac' ch.length cc') := (blk_cell hG' 1).trans rfl
      have f1 := blk_frozen hG' 1
      have hk'l : k' ≤ xs.length := by have := hL.sum; omega
      have hnl : xs.length ≤ 16 := HX.out.len
      clear hL hG' hR1' hR2'
      by_cases hlt : k' < xs.length
      · obtain ⟨d1, rfl⟩ : ∃ d1, d' = d1 + 1 := ⟨d' - 1, by have := HL.out.sum; omega⟩
        obtain ⟨ad, eA, g0, g1, g2, g3, g4, g5, g6, g7⟩ := at_L (Kd.C_below hr HL.out.at_.below) k' hlt
        have hkk := HL.out.ge
        have hdd := HL.out.le
        have hsum := HL.out.sum
        have hn0 := HL.out.n0
        have hn1 := HL.out.n1
        have hp2 : (2 : Int) ^ (d1 + 1) = 2 ^ d1 + 2 ^ d1 := by rw [Int.pow_succ]; omega
        have hp3 : (1 : Int) ≤ 2 ^ d1 := Int.pow_pos (by decide)
        rw [hp2] at hn1
        have EA := Lib.hid eA
        clear eA hp2
        rw [EA.out] at e0
        have hu := Try.underlying98
        have hA1 := Lib.hid (HL.out.at_.moved (below_alloc (Below.refl _ wr) (boxL (gL xs k'))))
        have hltg := Lib.hid (HL.out.at_.lt)
        have hbox : AtL (wr.alloc (boxL (gL xs k'))) ⟨wr.heap.size, 0, none⟩ (gL xs k') := ⟨by simp, by simp, by simp, by simp, by simp, by simp, by simp, by simp⟩
        have HBX := Lib.hid hbox
        clear hbox
        have hown := Lib.hid (show some wr.heap.size ≠ (Value.slice Ac' ch.length cc').ownBlock from fun e => Nat.lt_irrefl _ (Kd.R_lt HR1'.out _ e.symm))
        have ea1 : ∀ o, (wr.alloc o).cell? ⟨g, 1, none⟩ = some (.slice Ac' ch.length cc') := fun o => (World.cell?_alloc_past (w := wr) o g 1 hltg.out).trans e1
        obtain ⟨bc0, bc1⟩ := HX.out.co k' hlt
        obtain ⟨bm0, bm1⟩ := HX.out.mi k' hlt
        obtain ⟨bp0, bp1⟩ := HX.out.pr k' hlt
        by_cases q1 : (gL xs k').co > mo
        · have hres := Lib.hid ((runV_dear (b := b) (d := d1) (st := st') (ch := ch) (pr := pr) (mi := mi) (.inl q1)).symm.trans HL.out.res)
          go_wp2
          go_roundw
          case rel => exact ⟨d1, k' + 1, st', by go_num, ⟨by omega, by omega, by omega, hres.out, by omega, by omega, hA1.out⟩⟩
          case measure => simp [intOf]; omega
        by_cases q2 : (gL xs k').mi > mi
        · have hres := Lib.hid ((runV_dear (b := b) (d := d1) (st := st') (ch := ch) (pr := pr) (mo := mo) (.inr q2)).symm.trans HL.out.res)
          have q1' : decide ((gL xs k').co > mo) = false := decide_eq_false q1
          clear q1
          go_wp2
          go_roundw
          case rel => exact ⟨d1, k' + 1, st', by go_num, ⟨by omega, by omega, by omega, hres.out, by omega, by omega, hA1.out⟩⟩
          case measure => simp [intOf]; omega
        have q1' : decide ((gL xs k').co > mo) = false := decide_eq_false q1
        have q2' : decide ((gL xs k').mi > mi) = false := decide_eq_false q2
        have hnd := Lib.hid (show ¬ ((gL xs k').co > mo ∨ (gL xs k').mi > mi) from fun h => h.elim q1 q2)
        have q1'' : (gL xs k').co ≤ mo := by omega
        have q2'' : (gL xs k').mi ≤ mi := by omega
        clear q1 q2
        have z1 : d1 < d := by omega
        have z2 : (k' : Int) + 1 = ((k' + 1 : Nat) : Int) := by omega
        have z3 : k' + 1 + d1 = xs.length := by omega
        have z4 : (ch ++ [(k' : Int)]).length ≤ k' + 1 := by simp; omega
        have z5 : 0 ≤ pr + (gL xs k').pr := by omega
        have z6 : pr + (gL xs k').pr ≤ 9 * ((k' + 1 : Nat) : Int) := by omega
        have z7 : 0 ≤ mo - (gL xs k').co := by omega
        have z8 : mo - (gL xs k').co ≤ 16000000 := by omega
        have z9 : 0 ≤ mi - (gL xs k').mi := by omega
        have z10 : mi - (gL xs k').mi ≤ 160000 := by omega
        have z11 : (ch.length + 1) * 8 ≤ 140737488355328 := by omega
        have z12 : st'.nodes + 2 ^ d1 ≤ 1000000 := by omega
        have ZZ := Lib.hid (show _ ∧ _ ∧ _ ∧ _ ∧ _ ∧ _ ∧ _ from ⟨z1, z2, z3, z4, z6, z11, z12⟩)
        have y1 : (0 : Int) ≤ (k' : Int) + 1 := by omega
        have y2 : (k' : Int) + 1 ≤ 1000000000 := by omega
        have y3 : pr + (gL xs k').pr ≤ 1000000000 := by omega
        have y4 : mo - (gL xs k').co ≤ 1000000000 := by omega
        have y5 : mi - (gL xs k').mi ≤ 1000000000 := by omega
        clear z1 z2 z3 z4 z6 z11 z12
        have ZY := Lib.hid (show _ ∧ _ ∧ _ ∧ _ ∧ _ from ⟨z5, z7, z8, z9, z10⟩)
        have ZN := Lib.hid (show _ ∧ _ ∧ _ ∧ _ ∧ _ from ⟨hn0, hn1, hp3, hl0, hl1'.out⟩)
        clear hn0 hn1 hp3 z8 z10
        go_wp2_with (first | ((with_reducible refine gate_builtin (b := .append) (xs := #[.tmp 77, .tmp 79]) rfl ?_); at_builtin; refine Kd.R_append kI (w0 := w0) w0.heap.size rfl (.tmp 77) (.tmp 79) 26 2 (.int .i64 0) 8 rfl Try.underlying26 infoInt rfl (by decide) (by decide) (.slice Ac' ch.length cc') ch (k' : Int) [.int .i64 (k' : Int)] (fun k => k ≠ g) (fun _ => False) rfl (by go_simp) rfl (fun _ h => h.elim) ?aF ?aO ?aB ?aS ZZ.out.2.2.2.2.2.1 ?_; (case aF => exact (fun k hk => by have := hltg.out; simp at hk; omega)); (case aO => exact Kd.R_alloc HR1'.out _); (case aB => exact hA1.out.below); (case aS => exact hA1.out.below.size); intro v1 w1 ho hb hg hat; have hx1 := AtV.grown (blk_below HG'.out (below_alloc (Below.refl _ wr) (boxL (gL xs k')))) (Kd.R_alloc HR1'.out _) (Kd.R_alloc HR2'.out _) HL.out.at_.ge ho hb hg hat; obtain ⟨A1, n1, c1, rfl, fz, cz, hfar, hAt1⟩ := hx1; have HAT1 := Lib.hid hAt1; have x3 := hfar wr.heap.size _ (Nat.ne_of_gt hltg.out) hown.out 5 HBX.out.g5; have x4 := hfar wr.heap.size _ (Nat.ne_of_gt hltg.out) hown.out 6 HBX.out.g6; have x5 := hfar wr.heap.size _ (Nat.ne_of_gt hltg.out) hown.out 7 HBX.out.g7; clear hAt1 ho hb hg hat hfar))
        refine (IH.out d1 ZZ.out.1 (k' + 1) ((k' : Int) + 1) st' (ch ++ [(k' : Int)]) (pr + (gL xs k').pr) (mo - (gL xs k').co) (mi - (gL xs k').mi) _ ZZ.out.2.1 ZZ.out.2.2.1 HAT1.out ZZ.out.2.2.2.1 ZN.out.1 ZZ.out.2.2.2.2.2.2 ZY.out.1 ZZ.out.2.2.2.2.1 ZY.out.2.1 ZY.out.2.2.1 ZY.out.2.2.2.1 ZY.out.2.2.2.2).mono ?_
        rintro e w2 ⟨rfl, hA2⟩
        obtain ⟨A2, c2, Ab2, cb2, hG2, hR21, hR22⟩ := hA2.blk
        have HA2 := Lib.hid (AtV.cut hG2 hR21 hR22 hA2.ge hA2.below)
        have e1 : w2.cell? ⟨g, 1, none⟩ = some (.slice A2 (ch.length + 1) c2) := (blk_cell hG2 1).trans (by simp)
        have f1 := blk_frozen hG2 1
        have hlc : ch.length + 1 ≤ c2 := by simpa using (Kd.R_reads' hR21).2.1
        have q1 : (ch.length : Int) ≤ (c2 : Int) := by omega
        have q2 : IntKind.i64.wrap (ch.length : Int) = (ch.length : Int) := (i64_w _).trans (wrap_sm_ (by omega) (by omega))
        clear hA2 hG2 hR21 hR22
        go_wp2
        go_still_tail 14, (by kernel_rfl)
        change wpList _ _ _ _ _ w2.drew
        go_wp2
        have hen := Lib.hid (enterV_nodes xs b d1 (k' + 1) st' (ch ++ [(k' : Int)]) (pr + (gL xs k').pr) (mo - (gL xs k').co) (mi - (gL xs k').mi))
        have hres := Lib.hid ((runV_go (b := b) (d := d1) (st := st') (ch := ch) (pr := pr) hnd.out).symm.trans HL.out.res)
        go_roundw
        case rel =>
          have h1 := hen.out.1
          have h2 := hen.out.2
          have h3 := ZN.out.1
          have h4 := ZN.out.2.1
          exact ⟨d1, k' + 1, _, by go_num, ⟨ZZ.out.2.2.1, by omega, by omega, hres.out, by omega, by omega, HA2.out.moved (below_drew (Below.refl _ _))⟩⟩
        case measure => simp [intOf]; omega
      · obtain rfl : k' = xs.length := by omega
        have hd0 : d' = 0 := by have := HL.out.sum; omega
        have hres := Lib.hid (show runV xs b d k (updV st ch pr) ch pr mo mi = st' by rw [← HL.out.res, hd0, runV])
        clear hd0
        go_wp2
        go_end0
        rw [hfin.out, hres.out]
        exact ⟨rfl, HL.out.at_⟩
end Go.Proofs.Ytdbgjjckafeenaa.Vis
