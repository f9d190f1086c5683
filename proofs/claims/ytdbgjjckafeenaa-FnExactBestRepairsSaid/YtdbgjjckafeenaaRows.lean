/-
  No cell of these rows narrows 'for every input' (looked for: loops, veiled, ifaces, maps, wideKeys, modest, calm, conditions, laid).
  DERIVED. THE GIVEN ROWS OF THIS SEAT. 5 by the template 'for every input the law returns true; each argument reads behind the call as it read before'; 0 by the template 'total and deterministic' (their statements: YtdbgjjckafeenaaTotals.lean).
  GIVEN WITH THE SEED: the statements are not yours to turn. If you find one false, say at which input.
  Laid BY PROGRAM, IN A SANDBOX (cutbox-rows.mjs): the forced cells as the released guide's own fill.sh prints them over the translation 33daae45607171d2… (all of the seat's roots in one cut). By AI agents, Wed Nov 11 2026. No macro, syntax, notation, axiom, sorry.
-/
import Derived.Test.YtdbgjjckafeenaaChecked
import GoSem.Claim
import GoSem.ClaimJoined
import GoSem.ClaimMapViews
import Derived.JoinedTies
import Derived.KernelRfl
namespace Go.Proofs.Ytdbgjjckafeenaa
/- THE CELL 'sum', in the pinned program and in every row, IS THE sha256 OF THE DUMP (.gsa) THAT YtdbgjjckafeenaaProg.lean LOADS. Nothing in Lean hashes anything: it is a label: what it is worth is what the hold of that sum in a sandbox is worth. -/
noncomputable def Try.pinned : Pinned := { name := "ytdbgjjckafeenaa", sum := "33daae45607171d22f4509ac6be0e0808ded2c9b9dd56cd74e8d9fad94d666ed", checked := Try.checked }
namespace Rows
def none {H : Type} : Left H := { results := [], args := [] }

/-- 'laws.FnExactIsFloor': WHATEVER THE INPUT: true; the input reads as it did. -/
def fnExactIsFloorSpec : ChangeSpec := { name := "fnExactIsFloor", fn := fun _ => fun
  | [d1, d2, d3] => { results := [.lit (.bool true)], args := [d1, d2, d3] }
  | _ => none }
def fnExactIsFloorRow : OpenClaim := { program := "ytdbgjjckafeenaa", sum := "33daae45607171d22f4509ac6be0e0808ded2c9b9dd56cd74e8d9fad94d666ed", func := "loop.example/g00956/laws.FnExactIsFloor", spec := "fnExactIsFloor", apart := false }
def FnExactIsFloorSaid : Prop := fnExactIsFloorRow.holds Try.pinned (OpenSpec.ofChange fnExactIsFloorSpec)

/-- ITS FALSE NEIGHBOUR: 'it returns false'. Refute it at one input. -/
def fnExactIsFloorWrong : ChangeSpec := { name := "fnExactIsFloor", fn := fun _ => fun
  | [d1, d2, d3] => { results := [.lit (.bool false)], args := [d1, d2, d3] }
  | _ => none }
def FnExactIsFloorWrongFalsely : Prop := fnExactIsFloorRow.holds Try.pinned (OpenSpec.ofChange fnExactIsFloorWrong)

/-- 'laws.FnExactBoardsFor': WHATEVER THE INPUT: true; the input reads as it did. -/
def fnExactBoardsForSpec : ChangeSpec := { name := "fnExactBoardsFor", fn := fun _ => fun
  | [d1, d2, d3] => { results := [.lit (.bool true)], args := [d1, d2, d3] }
  | _ => none }
def fnExactBoardsForRow : OpenClaim := { program := "ytdbgjjckafeenaa", sum := "33daae45607171d22f4509ac6be0e0808ded2c9b9dd56cd74e8d9fad94d666ed", func := "loop.example/g00956/laws.FnExactBoardsFor", spec := "fnExactBoardsFor", apart := false }
def FnExactBoardsForSaid : Prop := fnExactBoardsForRow.holds Try.pinned (OpenSpec.ofChange fnExactBoardsForSpec)

/-- ITS FALSE NEIGHBOUR: 'it returns false'. Refute it at one input. -/
def fnExactBoardsForWrong : ChangeSpec := { name := "fnExactBoardsFor", fn := fun _ => fun
  | [d1, d2, d3] => { results := [.lit (.bool false)], args := [d1, d2, d3] }
  | _ => none }
def FnExactBoardsForWrongFalsely : Prop := fnExactBoardsForRow.holds Try.pinned (OpenSpec.ofChange fnExactBoardsForWrong)

/-- 'laws.FnExactWasteShare': WHATEVER THE INPUT: true; the input reads as it did. -/
def fnExactWasteShareSpec : ChangeSpec := { name := "fnExactWasteShare", fn := fun _ => fun
  | [d1, d2, d3] => { results := [.lit (.bool true)], args := [d1, d2, d3] }
  | _ => none }
def fnExactWasteShareRow : OpenClaim := { program := "ytdbgjjckafeenaa", sum := "33daae45607171d22f4509ac6be0e0808ded2c9b9dd56cd74e8d9fad94d666ed", func := "loop.example/g00956/laws.FnExactWasteShare", spec := "fnExactWasteShare", apart := false }
def FnExactWasteShareSaid : Prop := fnExactWasteShareRow.holds Try.pinned (OpenSpec.ofChange fnExactWasteShareSpec)

/-- ITS FALSE NEIGHBOUR: 'it returns false'. Refute it at one input. -/
def fnExactWasteShareWrong : ChangeSpec := { name := "fnExactWasteShare", fn := fun _ => fun
  | [d1, d2, d3] => { results := [.lit (.bool false)], args := [d1, d2, d3] }
  | _ => none }
def FnExactWasteShareWrongFalsely : Prop := fnExactWasteShareRow.holds Try.pinned (OpenSpec.ofChange fnExactWasteShareWrong)

/-- 'laws.FnExactBestMatches': WHATEVER THE INPUT: true; the input reads as it did. -/
def fnExactBestMatchesSpec : ChangeSpec := { name := "fnExactBestMatches", fn := fun _ => fun
  | [d1, d2, d3] => { results := [.lit (.bool true)], args := [d1, d2, d3] }
  | _ => none }
def fnExactBestMatchesRow : OpenClaim := { program := "ytdbgjjckafeenaa", sum := "33daae45607171d22f4509ac6be0e0808ded2c9b9dd56cd74e8d9fad94d666ed", func := "loop.example/g00956/laws.FnExactBestMatches", spec := "fnExactBestMatches", unfollowed := true, recurses := true, apart := false }
def FnExactBestMatchesSaid : Prop := fnExactBestMatchesRow.holds Try.pinned (OpenSpec.ofChange fnExactBestMatchesSpec)

/-- ITS FALSE NEIGHBOUR: 'it returns false'. Refute it at one input. -/
def fnExactBestMatchesWrong : ChangeSpec := { name := "fnExactBestMatches", fn := fun _ => fun
  | [d1, d2, d3] => { results := [.lit (.bool false)], args := [d1, d2, d3] }
  | _ => none }
def FnExactBestMatchesWrongFalsely : Prop := fnExactBestMatchesRow.holds Try.pinned (OpenSpec.ofChange fnExactBestMatchesWrong)

/-- 'laws.FnExactBestRepairs': WHATEVER THE INPUT: true; the input reads as it did. -/
def fnExactBestRepairsSpec : ChangeSpec := { name := "fnExactBestRepairs", fn := fun _ => fun
  | [d1, d2, d3, d4] => { results := [.lit (.bool true)], args := [d1, d2, d3, d4] }
  | _ => none }
def fnExactBestRepairsRow : OpenClaim := { program := "ytdbgjjckafeenaa", sum := "33daae45607171d22f4509ac6be0e0808ded2c9b9dd56cd74e8d9fad94d666ed", func := "loop.example/g00956/laws.FnExactBestRepairs", spec := "fnExactBestRepairs", recurses := true, apart := false }
def FnExactBestRepairsSaid : Prop := fnExactBestRepairsRow.holds Try.pinned (OpenSpec.ofChange fnExactBestRepairsSpec)

/-- ITS FALSE NEIGHBOUR: 'it returns false'. Refute it at one input. -/
def fnExactBestRepairsWrong : ChangeSpec := { name := "fnExactBestRepairs", fn := fun _ => fun
  | [d1, d2, d3, d4] => { results := [.lit (.bool false)], args := [d1, d2, d3, d4] }
  | _ => none }
def FnExactBestRepairsWrongFalsely : Prop := fnExactBestRepairsRow.holds Try.pinned (OpenSpec.ofChange fnExactBestRepairsWrong)

/- THE SECOND FORM. 'bulk': how many values and letters a reading holds, each counted each time it is reached (what is shared counts as often as it is met; a slice's spare places count too). A statement '..UptoSaid' is the law's where the arguments, and the package variables that the reading takes, are together of bulk at most 1048576: NARROWER than '..Said'. Prove '..Said' where nothing that the law and all that it calls make is longer than what came in: it says more and counts as full. Else prove '..UptoSaid'. A law counts once. -/
mutual
def uptoBulk {H : Type} : DataW H → Nat
  | .lit (.string bytes) => bytes.length + 1
  | .lit _ => 1
  | .nil => 1
  | .ptr d => uptoBulk d + 1
  | .slice elems spare => uptoBulkAll elems + uptoBulkAll spare + 1
  | .agg parts => uptoBulkAll parts + 1
  | .iface _ d => uptoBulk d + 1
  | .map entries => uptoBulkEntries entries + 1
  | .held _ => 1
def uptoBulkAll {H : Type} : List (DataW H) → Nat
  | [] => 0
  | d :: r => uptoBulk d + uptoBulkAll r
def uptoBulkEntries {H : Type} : List (Lit × DataW H) → Nat
  | [] => 0
  | x :: r => uptoBulkEntry x + uptoBulkEntries r
def uptoBulkEntry {H : Type} : Lit × DataW H → Nat
  | (.string bytes, d) => bytes.length + uptoBulk d + 1
  | (_, d) => uptoBulk d + 1
 end
def uptoSmall : (H : Type) → List (DataW H) → Bool := fun _ ds => decide (uptoBulkAll ds ≤ 1048576)
def OpenSpec.upto (s : _root_.Go.ChangeSpec) : _root_.Go.OpenSpec := { _root_.Go.OpenSpec.ofChange s with cond := some uptoSmall }

/-- 'laws.FnExactIsFloor', WHERE WHAT IT READS IS OF BULK AT MOST 1048576: true; the input reads as it did. -/
def fnExactIsFloorUptoRow : OpenClaim := { program := "ytdbgjjckafeenaa", sum := "33daae45607171d22f4509ac6be0e0808ded2c9b9dd56cd74e8d9fad94d666ed", func := "loop.example/g00956/laws.FnExactIsFloor", spec := "fnExactIsFloor", apart := false, narrowed := true }
def FnExactIsFloorUptoSaid : Prop := fnExactIsFloorUptoRow.holds Try.pinned (OpenSpec.upto fnExactIsFloorSpec)

/-- 'laws.FnExactBoardsFor', WHERE WHAT IT READS IS OF BULK AT MOST 1048576: true; the input reads as it did. -/
def fnExactBoardsForUptoRow : OpenClaim := { program := "ytdbgjjckafeenaa", sum := "33daae45607171d22f4509ac6be0e0808ded2c9b9dd56cd74e8d9fad94d666ed", func := "loop.example/g00956/laws.FnExactBoardsFor", spec := "fnExactBoardsFor", apart := false, narrowed := true }
def FnExactBoardsForUptoSaid : Prop := fnExactBoardsForUptoRow.holds Try.pinned (OpenSpec.upto fnExactBoardsForSpec)

/-- 'laws.FnExactWasteShare', WHERE WHAT IT READS IS OF BULK AT MOST 1048576: true; the input reads as it did. -/
def fnExactWasteShareUptoRow : OpenClaim := { program := "ytdbgjjckafeenaa", sum := "33daae45607171d22f4509ac6be0e0808ded2c9b9dd56cd74e8d9fad94d666ed", func := "loop.example/g00956/laws.FnExactWasteShare", spec := "fnExactWasteShare", apart := false, narrowed := true }
def FnExactWasteShareUptoSaid : Prop := fnExactWasteShareUptoRow.holds Try.pinned (OpenSpec.upto fnExactWasteShareSpec)

/-- 'laws.FnExactBestMatches', WHERE WHAT IT READS IS OF BULK AT MOST 1048576: true; the input reads as it did. -/
def fnExactBestMatchesUptoRow : OpenClaim := { program := "ytdbgjjckafeenaa", sum := "33daae45607171d22f4509ac6be0e0808ded2c9b9dd56cd74e8d9fad94d666ed", func := "loop.example/g00956/laws.FnExactBestMatches", spec := "fnExactBestMatches", unfollowed := true, recurses := true, apart := false, narrowed := true }
def FnExactBestMatchesUptoSaid : Prop := fnExactBestMatchesUptoRow.holds Try.pinned (OpenSpec.upto fnExactBestMatchesSpec)

/-- 'laws.FnExactBestRepairs', WHERE WHAT IT READS IS OF BULK AT MOST 1048576: true; the input reads as it did. -/
def fnExactBestRepairsUptoRow : OpenClaim := { program := "ytdbgjjckafeenaa", sum := "33daae45607171d22f4509ac6be0e0808ded2c9b9dd56cd74e8d9fad94d666ed", func := "loop.example/g00956/laws.FnExactBestRepairs", spec := "fnExactBestRepairs", recurses := true, apart := false, narrowed := true }
def FnExactBestRepairsUptoSaid : Prop := fnExactBestRepairsUptoRow.holds Try.pinned (OpenSpec.upto fnExactBestRepairsSpec)

end Rows
end Go.Proofs.Ytdbgjjckafeenaa
