/- Small lemmas for the walks of this claim. -/
import Derived.Test.YtdbgjjckafeenaaDoorProg
import Derived.WalkKit
import Derived.KernelRfl
import Derived.RowKit3
import Derived.Deep.QuietTactic
import Derived.BigQuiet
import Derived.WideLaws
import Derived.Lib.Hide
import Derived.Lib.SliceRun
import Derived.WalkLawsBesides
import Derived.Outline
import Derived.Deep.LoopGhost
import Derived.Deep.DeepCutAuto
import Derived.Deep.RegionHeld3
import Derived.Test.YtdbgjjckafeenaaDoorWMore
import Derived.Test.YtdbgjjckafeenaaDoorWTab
namespace Go.Proofs.YtdbgjjckafeenaaDoor.Base
open Go.RowKit Go.Proofs.YtdbgjjckafeenaaDoorW.PrintWords Go.Proofs.YtdbgjjckafeenaaDoorW.PrintLast Go.Proofs.YtdbgjjckafeenaaDoorW.PrintMore

theorem bcell {W w1 : World} (hb : Below W.heap.size W w1) : (∀ b o, b < W.heap.size → w1.cell? ⟨b, o, none⟩ = W.cell? ⟨b, o, none⟩) ∧ (∀ b o, b < W.heap.size → w1.frozen? ⟨b, o, none⟩ = W.frozen? ⟨b, o, none⟩) :=
  ⟨fun b o h => hb.cell (p := ⟨b, o, none⟩) h, fun b o h => hb.frozen (p := ⟨b, o, none⟩) h⟩
theorem ret_bool {a b : Bool} (h : a = b) : Ending.returned (.bool a) = .returned (.bool b) := by rw [h]
theorem ret_int {k : IntKind} {a b : Int} (h : a = b) : Ending.returned (.int k a) = .returned (.int k b) := by rw [h]

/-- 'max' and 'min' under a name, so that the walk doesn't part on them. -/
theorem max2_mx (k k' : IntKind) (x y : Int) : Builtin.max2 (.int k x) (.int k' y) = pure (.int k (mx x y)) := max2_int k k' x y
theorem min2_mn (k k' : IntKind) (x y : Int) : Builtin.min2 (.int k x) (.int k' y) = pure (.int k (mn x y)) := min2_int k k' x y

def inB (n low high : Int) : Bool := decide (low ≤ n) && decide (n ≤ high)
theorem inB_true {n a b : Int} : inB n a b = true ↔ a ≤ n ∧ n ≤ b := by unfold inB; simp
theorem inB_false {n a b : Int} : inB n a b = false ↔ ¬ (a ≤ n ∧ n ≤ b) := by rw [← inB_true]; simp
theorem wrap_id {x : Int} (h0 : -9223372036854775808 ≤ x) (h1 : x ≤ 9223372036854775807) : wrap64 x = x := by unfold wrap64; omega

theorem wrap_sm_ {x : Int} (h0 : 0 ≤ x) (h1 : x ≤ 1000000000) : wrap64 x = x := wrap_id (Int.le_trans (by decide) h0) (Int.le_trans h1 (by decide))

/-- Structs all of whose cells are plain values. -/
def flat {α : Type} (sz : Nat) (enc : α → List Value) (hl : ∀ x, (enc x).length = sz) (h1 : ∀ x u, u ∈ enc x → u.oneCell' = true) : Kd α where
  sz := sz
  E := []
  K := fun _ x cs => cs = enc x
  M := fun _ _ _ x cs => cs = enc x
  K_len := fun h => by rw [h]; exact hl _
  K_one := fun h u hu => by rw [h] at hu; exact h1 _ u hu
  K_below := fun _ h => h
  K_of_M := fun h => h
  M_mono := fun _ h => h
  M_bound := fun h => h
  M_move := fun _ h => h
  M_lower := fun _ h => h
theorem flat_at {α : Type} {sz : Nat} {enc : α → List Value} {hl : ∀ x, (enc x).length = sz} {h1 : ∀ x u, u ∈ enc x → u.oneCell' = true} {w : World} {A : Option Addr} {n : Nat} {xs : List α}
    (h : (flat sz enc hl h1).C w A n xs) (z : α) (k : Nat) (hk : k < n) :
    ∃ ad, A = some ad ∧ (∀ u, (enc (xs.getD k z))[0]? = some u → w.cell? (ad.add (k * sz)) = some u) ∧ ∀ j u, 0 < j → (enc (xs.getD k z))[j]? = some u → w.cell? ⟨(ad.add (k * sz)).block, (ad.add (k * sz)).off + j, none⟩ = some u := by
  obtain ⟨ad, c, e, _, hK, hc⟩ := Kd.C_get h z (k : Int) (by omega) (by omega)
  have hK : c = enc (xs.getD k z) := hK
  subst hK
  have hc : ∀ j u, (enc (xs.getD k z))[j]? = some u → w.cell? (ad.add (k * sz + j)) = some u := hc
  exact ⟨ad, e, fun u hu => hc 0 u hu, fun j u hj hu => by rw [← add_field _ _ j hj]; exact hc j u hu⟩
theorem moved {w w1 : World} (hb : Below w.heap.size w w1) {a : Addr} {v : Value} (h : w.cell? a = some v) : w1.cell? a = some v := (hb.cell (World.block_lt_of_cell? w a h)).trans h

/-- What has come up in a region, as bits. -/
def obits (n m : Nat) : Array Bool := ((List.range n).map (Nat.testBit m)).toArray
section
variable {P : Program} {ops : Array Oper} {Q : Exit → Act → World → Prop} {S : World → Prop} {ds : List Nat} {T : Bool × List (List Nat × List Nat)} {B : List Nat} {fuel : Nat} {a a' : Act} {w : World} {oi : Oper} {v : Value}
/-- One operation of a region that draws: it yields in every world. -/
theorem pu (hT : Aside0 (rtab .any ops = T)) (i n m m' : Nat) (N : Option Tmp) (hi : ops[i]? = some oi) (hN : oi.dst = N) (hc : anyT T (obits n m).toList (obits n m').toList i = true) (hQ : ∀ c a w, Q (.panic c) (a.put oi.dst v) w → Q (.panic c) a w) (hy : Yields P ops oi v a) (ha : a.put N v = a')
    (h : wpAnyLast P .any ops Q S ds fuel (obits n m') a' w) : wpAnyLast P .any ops Q S ds (fuel + 1) (obits n m) a w := pure_ (obits n m') hi hN (any_of hT.out hc) hQ hy ha h
/-- One that its guard passes over. -/
theorem po (hT : Aside0 (rtab .any ops = T)) (i n m m' : Nat) (N : Option Tmp) (hi : ops[i]? = some oi) (hN : oi.dst = N) (hc : anyT T (obits n m).toList (obits n m').toList i = true) (hQ : ∀ c a w, Q (.panic c) (a.put oi.dst undef) w → Q (.panic c) a w) (hw : Region.wanted oi (yielded ops a.tmps) = false) (ha : a.put N undef = a')
    (h : wpAnyLast P .any ops Q S ds fuel (obits n m') a' w) : wpAnyLast P .any ops Q S ds (fuel + 1) (obits n m) a w := pure_ (obits n m') hi hN (any_of hT.out hc) hQ (Or.inr ⟨hw, rfl⟩) ha h
/-- A load: it yields in every world that meets S. -/
theorem tk (hT : Aside0 (rtab .any ops = T)) (hB : Aside0 (waitsOk T.2 B = true)) (i n m m' : Nat) (N : Option Tmp) (hi : ops[i]? = some oi) (hN : oi.dst = N) (hc : takeW T B ds (obits n m).toList (obits n m').toList i = true) (hQ : ∀ c a w, Q (.panic c) (a.put oi.dst v) w → Q (.panic c) a w) (hy : YieldsIf P ops S oi v a) (hS : S w) (ha : a.put N v = a')
    (h : wpAnyLast P .any ops Q S ds fuel (obits n m') a' w) : wpAnyLast P .any ops Q S ds (fuel + 1) (obits n m) a w := take_ (obits n m') hi hN (take_ofW hT.out hB.out hc) hQ hy hS ha h
/-- A call that alone may come up. -/
theorem ca (hT : Aside0 (rtab .any ops = T)) (i n m m' : Nat) (N : Option Tmp) (hi : ops[i]? = some oi) (hN : oi.dst = N) (hc : (readyT T.2 (obits n m).toList == [i] && (obits n m).toList.set i true == (obits n m').toList) = true) (hd : i ∉ ds)
    (h : ∀ K : Act → World → Prop, Shut (∀ a' w', S w' → (S w' → wpAnyLast P .any ops Q S ds fuel (obits n m') a' w') → K a' w') → if Region.wanted oi (yielded ops a.tmps) = true then Oper.wp P oi a w K Q else K (a.put N undef) w) :
    wpAnyLast P .any ops Q S ds (fuel + 1) (obits n m) a w := one_ (obits n m') hi hN (one_of hT.out hc) hd h
/-- The last one: nothing is shown behind it. -/
theorem la (hT : Aside0 (rtab .any ops = T)) (i n m m' : Nat) (N : Option Tmp) (hi : ops[i]? = some oi) (hN : oi.dst = N) (hc : (readyT T.2 (obits n m).toList == [i] && (obits n m).toList.set i true == (obits n m').toList) = true) (hd : i ∈ ds)
    (h : ∀ K : Act → World → Prop, Shut (∀ a' w', wpAnyLast P .any ops Q S ds fuel (obits n m') a' w' → K a' w') → if Region.wanted oi (yielded ops a.tmps) = true then Oper.wp P oi a w K Q else K (a.put N undef) w) :
    wpAnyLast P .any ops Q S ds (fuel + 1) (obits n m) a w := last_ (obits n m') hi hN (one_of hT.out hc) hd h
end
end Go.Proofs.YtdbgjjckafeenaaDoor.Base
