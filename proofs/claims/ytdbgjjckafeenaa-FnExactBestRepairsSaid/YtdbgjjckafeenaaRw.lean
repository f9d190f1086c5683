/- Rows of numbers: copied, grown. -/
import Derived.Test.YtdbgjjckafeenaaBase
namespace Go.Proofs.Ytdbgjjckafeenaa.Rw
open Go.RowKit Go.Proofs.YtdbgjjckafeenaaW.PrintWords Go.Proofs.YtdbgjjckafeenaaW.PrintLast Go.Proofs.YtdbgjjckafeenaaW.PrintMore Go.Proofs.Ytdbgjjckafeenaa.Base
set_option linter.unusedVariables false
set_option linter.unusedSimpArgs false
set_option maxRecDepth 100000

theorem infoInt : (Try.prog.info? 2).map (fun i => (i.zero, i.size, i.bytes)) = some (some (.int .i64 0), 1, 8) := by kernel_rfl
abbrev kI : Kd Int := Kd.int .i64

set_option maxHeartbeats 1000000 in
theorem clone_c (A0 : Option Addr) (c0 : Nat) (l0 : List Int) (w : World) (hr0 : kI.C w A0 l0.length l0) (hc0 : l0.length ≤ c0) (hlim : l0.length < 17592186044416) :
    Calls Try.prog 77 #[.slice A0 l0.length c0] w fun e w' => ∃ v : Value, e = .returned v ∧ kI.R 2 w' w.heap.size (fun _ => True) v l0 ∧ Below w.heap.size w w' := by
  have hnil := fun (w : World) (a : Option Addr) (n c : Nat) => Lib.run_eql_slice_nil (P := Try.prog) w 26 2 a n c 0 0 Try.underlying26
  cases A0 with
  | none =>
    have hn : l0 = [] := by
      rcases Nat.eq_zero_or_pos l0.length with h | h
      · exact List.eq_nil_of_length_eq_zero h
      · obtain ⟨ad, e, _⟩ := hr0.2.2 h; cases e
    subst hn
    go_enter Try.func77, Try.ntmps77
    go_wp2
    go_ret
    exact ⟨_, rfl, Kd.R_nil _ _ _ _ _, Below.refl _ _⟩
  | some ad =>
    have HR0 := Lib.hid hr0
    clear hr0
    go_enter Try.func77, Try.ntmps77
    go_wp2_with (first | ((with_reducible refine gate_dst (N := 5) rfl ?_); refine Kd.R_lit kI _ 2 ?hg (N := 5) ?hd (xs := ([] : List Int)) (inner := []) (ok := fun _ => True) (okp := fun _ => True) ?hr ?hp (fun _ hk => hk) trivial (Below.refl _ _) (Nat.le_refl _) (by simp) ?_; (case hd => rfl); (case hg => rfl); (case hr => first | (go_simp; done) | (go_simp; rfl)); (case hp => exact (Reps.none _ _)); intro v1 w1 ho hb hg_ hnew_; clear hg_ hnew_; have HO := Lib.hid ho; have HB := Lib.hid hb; clear ho hb) | ((with_reducible refine gate_builtin (b := .append) (xs := #[.tmp 5, .tmp 6]) rfl ?_); at_builtin; refine Kd.R_append_rows kI (w0 := w) w.heap.size rfl (.tmp 5) (.tmp 6) 26 2 (.int .i64 0) 8 rfl Try.underlying26 infoInt rfl (by decide) (by omega) v1 ([] : List Int) l0 _ _ _ (fun _ => True) (fun _ => False) rfl rfl ?aO ?aR (fun _ _ h => h) (fun _ h => h.elim) ?aF ?aB ?aS ?aL ?_; (case aR => exact Kd.C_below HR0.out HB.out); (case aB => exact HB.out); (case aF => exact (fun _ _ => trivial)); (case aO => exact HO.out); (case aS => exact HB.out.size); (case aL => simp; omega); intro v2 w2 ho hb hg hat; have HO2 := Lib.hid ho; have HB2 := Lib.hid hb; clear ho hb hg hat))
    go_ret
    exact ⟨_, rfl, HO2.out, HB2.out⟩

theorem put_comm (a : Act) {x y : Nat} (h : x ≠ y) (u v : Value) : (a.put (some x) u).put (some y) v = (a.put (some y) v).put (some x) u := by
  simp only [Act.put]
  rw [Array.setIfInBounds_comm u v h]
section
variable {ops : Array Oper} {Q : Exit → Act → World → Prop} {S : World → Prop} {ds : List Nat} {T : Bool × List (List Nat × List Nat)} {fuel : Nat} {a : Act} {W : World} {oi oj ol : Oper}
/-- 'append(slices.Clone(ch), k)' in a region that draws: Clone's call (i) and the literal (j) in either order, then the append (l). -/
theorem snoc_ (hT : Aside0 (rtab .any ops = T)) (i j l n m mi mj mij m' : Nat) (x y z : Nat) (A : Option Addr) (c : Nat) (ch : List Int) (k : Int) {asx : Array Operand} {ts : Array TypeId}
    (hi : ops[i]? = some oi) (hj : ops[j]? = some oj) (hl : ops[l]? = some ol) (hNi : oi.dst = some x) (hNj : oj.dst = some y) (hNl : ol.dst = some z) (hxy : x ≠ y)
    (hc : (readyT T.2 (obits n m).toList == [i, j] && (obits n m).toList.set i true == (obits n mi).toList && (obits n m).toList.set j true == (obits n mj).toList) = true)
    (hcj : (readyT T.2 (obits n mi).toList == [j] && (obits n mi).toList.set j true == (obits n mij).toList) = true)
    (hci : (readyT T.2 (obits n mj).toList == [i] && (obits n mj).toList.set i true == (obits n mij).toList) = true)
    (hcl : (readyT T.2 (obits n mij).toList == [l] && (obits n mij).toList.set l true == (obits n m').toList) = true)
    (hdi : i ∉ ds) (hdj : j ∉ ds) (hdl : l ∉ ds) (hgi : ∀ tm, Region.wanted oi (yielded ops tm) = true) (hgj : ∀ tm, Region.wanted oj (yielded ops tm) = true) (hgl : ∀ tm, Region.wanted ol (yielded ops tm) = true)
    (hopi : oi.op = .call { callee := .value (.func 77), args := asx, argTypes := ts }) (ha1 : asx.map a.eval = #[.slice A ch.length c]) (ha2 : ∀ v, asx.map (a.put (some y) v).eval = #[.slice A ch.length c])
    (hr1 : ∀ w : World, (execOp a.eval oj).run Try.prog w = .ok (.value (.slice (some ⟨w.heap.size, 0, none⟩) 1 1)) (w.alloc (.cells #[.int .i64 k] 2)))
    (hr2 : ∀ (v : Value) (w : World), (execOp (a.put (some x) v).eval oj).run Try.prog w = .ok (.value (.slice (some ⟨w.heap.size, 0, none⟩) 1 1)) (w.alloc (.cells #[.int .i64 k] 2)))
    (hopl : ol.op = .call { callee := .builtin .append, args := #[.tmp x, .tmp y], argTypes := #[26, 26] })
    (he : ∀ u v, ((a.put (some x) u).put (some y) v).eval (.tmp x) = u ∧ ((a.put (some x) u).put (some y) v).eval (.tmp y) = v)
    (hS : ∀ w1, Below W.heap.size W w1 → S w1) (hC : kI.C W A ch.length ch) (hcc : ch.length ≤ c) (hlim : ch.length < 100000)
    (hh : ∀ u v v1 w1, kI.R 2 w1 W.heap.size (fun _ => True) v1 (ch ++ [k]) → Below W.heap.size W w1 → S w1 → wpAnyLast Try.prog .any ops Q S ds fuel (obits n m') (((a.put (some x) u).put (some y) v).put (some z) v1) w1) :
    wpAnyLast Try.prog .any ops Q S ds (fuel + 3) (obits n m) a W := by
  have last : ∀ u b w2, kI.R 2 w2 W.heap.size (fun _ => True) u ch → kI.C w2 (some ⟨b, 0, none⟩) 1 [k] → Below W.heap.size W w2 → wpAnyLast Try.prog .any ops Q S ds (fuel + 1) (obits n mij) ((a.put (some x) u).put (some y) (.slice (some ⟨b, 0, none⟩) 1 1)) w2 := by
    intro u b w2 hR hk hb
    refine one_ (obits n m') hl hNl (one_of hT.out hcl) hdl (fun K hK => ?_)
    rw [← hNl]
    refine Kd.R_append_rows_step kI (w0 := W) W.heap.size (hgl _) (.tmp x) (.tmp y) 26 2 (.int .i64 0) 8 hopl Try.underlying26 infoInt rfl (by decide) (by omega) u ch [k] (some ⟨b, 0, none⟩) 1 1 (fun _ => True) (fun _ => False) (he _ _).1 (he _ _).2 hR hk (fun _ _ h => h) (fun _ h => h.elim) (fun _ _ => trivial) hb hb.size (by omega) ?_
    intro v1 w3 ho hb3 _ _
    rw [hNl]
    exact hK.out _ _ (hS _ hb3) (fun hS1 => hh _ _ _ _ ho hb3 hS1)
  have litC : ∀ w : World, kI.C (w.alloc (.cells #[.int .i64 k] 2)) (some ⟨w.heap.size, 0, none⟩) 1 [k] := by
    intro w
    refine ⟨rfl, by omega, fun _ => ⟨_, rfl, ?_⟩⟩
    intro j p hp
    match j, hp with
    | 0, hp =>
      refine ⟨[.int .i64 k], rfl, by simp at hp; subst hp; rfl, ?_⟩
      intro i u hu
      match i, hu with
      | 0, hu => simp at hu; subst hu; simp [add_plain, kI, Kd.int, Kd.scalar]
  refine two_ (obits n mi) (obits n mj) hi hj hNi hNj (two_of hT.out hc) hdi hdj (fun K hK => ?_) (fun K hK => ?_)
  · refine goes_ Try.func77 (by kernel_rfl) rfl _ (hgi _) hNi hopi ha1 ?_
    refine (clone_c A c ch W hC hcc (by omega)).mono ?_
    rintro e w1 ⟨u, rfl, hR, hb⟩
    refine ⟨_, rfl, hK.out _ _ (hS _ hb) (fun _ => ?_)⟩
    refine one_ (obits n mij) hj hNj (one_of hT.out hcj) hdj (fun K2 hK2 => ?_)
    refine value_ (hgj _) hNj (hr2 u w1) ?_
    have hb2 := below_alloc hb (.cells #[.int .i64 k] 2)
    exact hK2.out _ _ (hS _ hb2) (fun _ => last _ _ _ (Kd.R_alloc hR _) (litC w1) hb2)
  · refine value_ (hgj _) hNj (hr1 W) ?_
    have hb := below_alloc (Below.refl _ W) (.cells #[.int .i64 k] 2)
    refine hK.out _ _ (hS _ hb) (fun _ => ?_)
    refine one_ (obits n mij) hi hNi (one_of hT.out hci) hdi (fun K2 hK2 => ?_)
    refine goes_ Try.func77 (by kernel_rfl) rfl _ (hgi _) hNi hopi (ha2 _) ?_
    refine (clone_c A c ch _ (Kd.C_below hC hb) hcc (by omega)).mono ?_
    rintro e w2 ⟨u, rfl, hR, hb2⟩
    have hb3 := below_step hb hb2
    refine ⟨_, rfl, hK2.out _ _ (hS _ hb3) (fun _ => ?_)⟩
    rw [← put_comm a hxy]
    exact last _ _ _ (Kd.R_lower hR hb.size) (Kd.C_below (litC W) hb2) hb3
end
end Go.Proofs.Ytdbgjjckafeenaa.Rw
