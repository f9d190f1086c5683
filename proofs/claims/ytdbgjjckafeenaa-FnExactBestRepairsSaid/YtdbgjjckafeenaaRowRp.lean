/- FnExactBestRepairs: for every input the law answers true, and each argument reads afterwards as it read before. No condition. -/
import Derived.Test.YtdbgjjckafeenaaRows
import Derived.Test.YtdbgjjckafeenaaPuRp
import Derived.Test.YtdbgjjckafeenaaOpn
import Derived.WalkKit
import Derived.ProofKit
import Derived.OpenShut
import Derived.ShutString
import Derived.ChangeOld
import Derived.Below
import Derived.SizedLaws
namespace Go.Proofs.Ytdbgjjckafeenaa.fnExactBestRepairs
open Go.ChangeShapes Go.WideShapes Go.ChangeAt Go.RowKit
open Go.ChangeMaps (open_string shut_string)
open Go.Proofs.YtdbgjjckafeenaaW.PrintWords Go.Proofs.Ytdbgjjckafeenaa.Opn Go.Proofs.Ytdbgjjckafeenaa.XRp
set_option linter.unusedVariables false
theorem own : ownKnob Try.prog.godebug = none := by kernel_rfl
theorem laidOut : laidOutB Try.prog = true := by kernel_rfl
theorem opensT9 (H : Type) : Opens H Try.prog Kd.string 9 := opens_string Try.underlying9
theorem opensT2 (H : Type) : Opens H Try.prog (Kd.int .i64) 2 := opens_int Try.underlying2
theorem opensT87 (H : Type) : Opens H Try.prog k87 87 := by
  intro enc w base spare held fuel cs x h
  obtain ⟨xs, n, _, rfl, hl, hlen, hf⟩ := DataW.trod_struct Try.underlying87 h
  have hlen : xs.length = 3 := hlen
  have hl : cs.length = 3 := hl.trans (by kernel_rfl)
  have q0 : DataW.trod enc Try.prog w base spare held n 9 ((cs.drop 0).take (Try.prog.cellsOf 9)) = xs[0]? := hf 0 _ rfl
  rw [show Try.prog.cellsOf 9 = 1 by kernel_rfl, List.getElem?_eq_getElem (show 0 < xs.length by omega)] at q0
  obtain ⟨a0, e0⟩ := opensT9 H enc w base spare held n _ _ q0
  have q1 : DataW.trod enc Try.prog w base spare held n 2 ((cs.drop 1).take (Try.prog.cellsOf 2)) = xs[1]? := hf 1 _ rfl
  rw [show Try.prog.cellsOf 2 = 1 by kernel_rfl, List.getElem?_eq_getElem (show 1 < xs.length by omega)] at q1
  obtain ⟨a1, e1⟩ := opensT2 H enc w base spare held n _ _ q1
  have q2 : DataW.trod enc Try.prog w base spare held n 2 ((cs.drop 2).take (Try.prog.cellsOf 2)) = xs[2]? := hf 2 _ rfl
  rw [show Try.prog.cellsOf 2 = 1 by kernel_rfl, List.getElem?_eq_getElem (show 2 < xs.length by omega)] at q2
  obtain ⟨a2, e2⟩ := opensT2 H enc w base spare held n _ _ q2
  exact ⟨⟨a0, a1, a2⟩, ⟨(cs.drop 0).take 1, cs.drop 1, split_first 1, e0, ⟨(cs.drop 1).take 1, cs.drop 2, split_at 1 1, e1, (by rw [last_at 2 1 (hl.trans (by decide))]; exact e2)⟩⟩⟩
theorem opensT89 (H : Type) : Opens H Try.prog k89 89 := by
  intro enc w base spare held fuel cs x h
  obtain ⟨xs, n, _, rfl, hl, hlen, hf⟩ := DataW.trod_struct Try.underlying89 h
  have hlen : xs.length = 6 := hlen
  have hl : cs.length = 8 := hl.trans (by kernel_rfl)
  have q0 : DataW.trod enc Try.prog w base spare held n 9 ((cs.drop 0).take (Try.prog.cellsOf 9)) = xs[0]? := hf 0 _ rfl
  rw [show Try.prog.cellsOf 9 = 1 by kernel_rfl, List.getElem?_eq_getElem (show 0 < xs.length by omega)] at q0
  obtain ⟨a0, e0⟩ := opensT9 H enc w base spare held n _ _ q0
  have q1 : DataW.trod enc Try.prog w base spare held n 87 ((cs.drop 1).take (Try.prog.cellsOf 87)) = xs[1]? := hf 1 _ rfl
  rw [show Try.prog.cellsOf 87 = 3 by kernel_rfl, List.getElem?_eq_getElem (show 1 < xs.length by omega)] at q1
  obtain ⟨a1, e1⟩ := opensT87 H enc w base spare held n _ _ q1
  have q2 : DataW.trod enc Try.prog w base spare held n 2 ((cs.drop 4).take (Try.prog.cellsOf 2)) = xs[2]? := hf 2 _ rfl
  rw [show Try.prog.cellsOf 2 = 1 by kernel_rfl, List.getElem?_eq_getElem (show 2 < xs.length by omega)] at q2
  obtain ⟨a2, e2⟩ := opensT2 H enc w base spare held n _ _ q2
  have q3 : DataW.trod enc Try.prog w base spare held n 2 ((cs.drop 5).take (Try.prog.cellsOf 2)) = xs[3]? := hf 3 _ rfl
  rw [show Try.prog.cellsOf 2 = 1 by kernel_rfl, List.getElem?_eq_getElem (show 3 < xs.length by omega)] at q3
  obtain ⟨a3, e3⟩ := opensT2 H enc w base spare held n _ _ q3
  have q4 : DataW.trod enc Try.prog w base spare held n 2 ((cs.drop 6).take (Try.prog.cellsOf 2)) = xs[4]? := hf 4 _ rfl
  rw [show Try.prog.cellsOf 2 = 1 by kernel_rfl, List.getElem?_eq_getElem (show 4 < xs.length by omega)] at q4
  obtain ⟨a4, e4⟩ := opensT2 H enc w base spare held n _ _ q4
  have q5 : DataW.trod enc Try.prog w base spare held n 2 ((cs.drop 7).take (Try.prog.cellsOf 2)) = xs[5]? := hf 5 _ rfl
  rw [show Try.prog.cellsOf 2 = 1 by kernel_rfl, List.getElem?_eq_getElem (show 5 < xs.length by omega)] at q5
  obtain ⟨a5, e5⟩ := opensT2 H enc w base spare held n _ _ q5
  exact ⟨⟨a0, a1, a2, a3, a4, a5⟩, ⟨(cs.drop 0).take 1, cs.drop 1, split_first 1, e0, ⟨(cs.drop 1).take 3, cs.drop 4, split_at 1 3, e1, ⟨(cs.drop 4).take 1, cs.drop 5, split_at 4 1, e2, ⟨(cs.drop 5).take 1, cs.drop 6, split_at 5 1, e3, ⟨(cs.drop 6).take 1, cs.drop 7, split_at 6 1, e4, (by rw [last_at 7 1 (hl.trans (by decide))]; exact e5)⟩⟩⟩⟩⟩⟩
theorem opensT47 (H : Type) : Opens H Try.prog (Kd.slice 89 k89) 47 := @opens_slice H Try.prog S89 ⟨z89⟩ k89 47 89 89 Try.underlying47 (by kernel_rfl) (opensT89 H)
set_option maxRecDepth 100000 in
theorem lifted (os : Os) (started : os.Started) (H : Type) (enc : TypeId × Value → H) :
    ReturnsInHanded {} Try.checked os 7 .any (Rows.fnExactBestRepairsSpec.pre6 enc Try.prog Try.f7 Rows.fnExactBestRepairsRow.domain false) (Rows.fnExactBestRepairsSpec.post enc Try.prog Try.f7 false true false false) := by
  refine returnsInHanded_of_change_sized (C := Try.checked) own started (by kernel_rfl) Try.func7
    (ChangeSpec.witness6 (enc := enc) (C := Try.checked) false ⟨#[], #[.slice none 0 0, .int .i64 0, .int .i64 0, .int .i64 0], []⟩ 8 (by kernel_rfl) (by kernel_rfl) (by kernel_rfl) (by kernel_rfl)) ?_
  intro W base args ds gs before hval0 hW hcnd hsz0 _
  have hsz : (DataW.weightsEach Try.prog (Try.f7.params.toList ++ Rows.fnExactBestRepairsSpec.plain.varTypes Try.prog) (ds ++ gs)).all (· ≤ reachBytes) = true := hsz0
  have hval : ∀ (j : Nat) t v, Try.f7.params[j]? = some t → args[j]? = some v → Value.okWide Try.prog W .any base t v := hval0
  have hW' := hW
  obtain ⟨p, q, hA0, hV, rfl, hfz, hnd⟩ := hW
  have hA : DataW.TrodAll enc Try.prog W 0 (fun _ => true) true Try.f7.params.toList args.toList ds p := hA0
  rw [Try.params7] at hA hval hsz
  obtain ⟨v0, vs0, d0, ds0, p0, q0, hargs, rfl, rfl, h0, r0⟩ := trodAll_cons hA
  obtain ⟨v1, vs1, d1, ds1, p1, q1, rfl, rfl, rfl, h1, r1⟩ := trodAll_cons r0
  obtain ⟨v2, vs2, d2, ds2, p2, q2, rfl, rfl, rfl, h2, r2⟩ := trodAll_cons r1
  obtain ⟨v3, vs3, d3, ds3, p3, q3, rfl, rfl, rfl, h3, r3⟩ := trodAll_cons r2
  obtain ⟨rfl, rfl, rfl⟩ := trodAll_nil r3
  obtain rfl : args = #[v0, v1, v2, v3] := by cases args; simp_all
  obtain ⟨rfl, rfl⟩ := trodVars_none hV
  obtain ⟨b0, len0, cap0, rfl⟩ := okWide_slice Try.underlying47 (hval 0 47 v0 rfl rfl)
  have k0 := h0
  have lt0 : ∀ x ∈ p0, x.block < W.heap.size := by obtain ⟨m, hm⟩ := k0; exact DataW.trod_lt m _ _ _ hm
  obtain ⟨fuel0, hf0⟩ := h0
  obtain ⟨x0, hx0⟩ := opensT47 H enc W 0 _ _ fuel0 _ _ hf0
  obtain ⟨A0, c0, he0, hl0, hC0⟩ := hx0
  obtain ⟨rfl, rfl, rfl⟩ : b0 = A0 ∧ len0 = x0.length ∧ cap0 = c0 := by simpa [Value.cells] using he0
  obtain ⟨a1, rfl, rfl, rfl, w1⟩ := open_int Try.underlying2 (hval 1 2 v1 rfl rfl) h1
  obtain ⟨a2, rfl, rfl, rfl, w2⟩ := open_int Try.underlying2 (hval 2 2 v2 rfl rfl) h2
  obtain ⟨a3, rfl, rfl, rfl, w3⟩ := open_int Try.underlying2 (hval 3 2 v3 rfl rfl) h3
  clear hA0 hval0 hsz0 hsz
  obtain ⟨k_, hk_⟩ := PuRp.law_true x0 a1 a2 a3 hC0.2.1
  refine (laws_FnExactBestRepairs.calls k_ _ _ x0 a1 a2 a3 true W hC0 hl0 hk_).mono fun e W' ⟨he, bel⟩ => ?_
  subst he
  exact ⟨_, rfl, _, _, _, [], _, [], hW', trodAll_mk1 (shut_bool Try.underlying4 _), (trodAll_cons_mk (Below.trod laidOut (by kernel_rfl) (of_decide_eq_true (by kernel_rfl)) k0 bel lt0) (trodAll_cons_mk (shut_int Try.underlying2 w1) (trodAll_cons_mk (shut_int Try.underlying2 w2) (trodAll_cons_mk (shut_int Try.underlying2 w3) trodAll_mk0)))), rfl, bel.frame _, fun h => by cases h⟩
theorem over : Rows.fnExactBestRepairsRow.holds Try.pinned (OpenSpec.ofChange Rows.fnExactBestRepairsSpec) :=
  OpenClaim.holds_of_wide 7 Try.f7 rfl rfl rfl rfl rfl rfl rfl ⟨rfl, rfl, rfl, rfl, rfl⟩ rfl rfl rfl rfl rfl (by kernel_rfl) Try.func7 (by kernel_rfl)
    (of_decide_eq_true (by kernel_rfl)) (by unfold Func.isWrapper; first | (rw [if_pos (by decide +kernel)]; kernel_rfl) | (rw [if_neg (by decide +kernel)]; exact ⟨rfl, rfl⟩))
    (fun os started H enc _ => lifted os started H enc)
theorem proved : Rows.FnExactBestRepairsSaid := over
#print axioms proved
end Go.Proofs.Ytdbgjjckafeenaa.fnExactBestRepairs
namespace Go.Proofs.Ytdbgjjckafeenaa
/-- The row, under a short name, for the claim. -/
theorem fnExactBestRepairs_holds : Rows.FnExactBestRepairsSaid := fnExactBestRepairs.proved
end Go.Proofs.Ytdbgjjckafeenaa
