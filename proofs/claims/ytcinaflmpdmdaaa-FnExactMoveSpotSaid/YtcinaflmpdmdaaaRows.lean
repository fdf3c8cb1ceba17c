/-
  No cell of these rows narrows 'for every input' (looked for: loops, veiled, ifaces, maps, wideKeys, modest, calm, conditions, laid).
  DERIVED. THE GIVEN ROWS OF THIS SEAT. 11 by the template 'for every input the law returns true; each argument reads behind the call as it read before'; 0 by the template 'total and deterministic' (their statements: YtcinaflmpdmdaaaTotals.lean).
  GIVEN WITH THE SEED: the statements are not yours to turn. If you find one false, say at which input.
  Laid BY PROGRAM, IN A SANDBOX (cutbox-rows.mjs): the forced cells as the released guide's own fill.sh prints them over the translation a27447629b96ce18… (all of the seat's roots in one cut). By AI agents, Wed Nov 11 2026. No macro, syntax, notation, axiom, sorry.
-/
import Derived.Test.YtcinaflmpdmdaaaChecked
import GoSem.Claim
import GoSem.ClaimJoined
import GoSem.ClaimMapViews
import Derived.JoinedTies
import Derived.KernelRfl
namespace Go.Proofs.Ytcinaflmpdmdaaa
/- THE CELL 'sum', in the pinned program and in every row, IS THE sha256 OF THE DUMP (.gsa) THAT YtcinaflmpdmdaaaProg.lean LOADS. Nothing in Lean hashes anything: it is a label: what it is worth is what the hold of that sum in a sandbox is worth. -/
noncomputable def Try.pinned : Pinned := { name := "ytcinaflmpdmdaaa", sum := "a27447629b96ce18b944fe6df02af455d3d5f9e6a66eff304bc5b9a994649975", checked := Try.checked }
namespace Rows
def none {H : Type} : Left H := { results := [], args := [] }

/-- 'laws.FnExactLayoutFault': WHATEVER THE INPUT: true; the input reads as it did. -/
def fnExactLayoutFaultSpec : ChangeSpec := { name := "fnExactLayoutFault", fn := fun _ => fun
  | [d] => { results := [.lit (.bool true)], args := [d] }
  | _ => none }
def fnExactLayoutFaultRow : OpenClaim := { program := "ytcinaflmpdmdaaa", sum := "a27447629b96ce18b944fe6df02af455d3d5f9e6a66eff304bc5b9a994649975", func := "loop.example/g00414/laws.FnExactLayoutFault", spec := "fnExactLayoutFault", apart := false }
def FnExactLayoutFaultSaid : Prop := fnExactLayoutFaultRow.holds Try.pinned (OpenSpec.ofChange fnExactLayoutFaultSpec)

/-- ITS FALSE NEIGHBOUR: 'it returns false'. Refute it at one input. -/
def fnExactLayoutFaultWrong : ChangeSpec := { name := "fnExactLayoutFault", fn := fun _ => fun
  | [d] => { results := [.lit (.bool false)], args := [d] }
  | _ => none }
def FnExactLayoutFaultWrongFalsely : Prop := fnExactLayoutFaultRow.holds Try.pinned (OpenSpec.ofChange fnExactLayoutFaultWrong)

/-- 'laws.FnExactWidthOf': WHATEVER THE INPUT: true; the input reads as it did. -/
def fnExactWidthOfSpec : ChangeSpec := { name := "fnExactWidthOf", fn := fun _ => fun
  | [d] => { results := [.lit (.bool true)], args := [d] }
  | _ => none }
def fnExactWidthOfRow : OpenClaim := { program := "ytcinaflmpdmdaaa", sum := "a27447629b96ce18b944fe6df02af455d3d5f9e6a66eff304bc5b9a994649975", func := "loop.example/g00414/laws.FnExactWidthOf", spec := "fnExactWidthOf", apart := false }
def FnExactWidthOfSaid : Prop := fnExactWidthOfRow.holds Try.pinned (OpenSpec.ofChange fnExactWidthOfSpec)

/-- ITS FALSE NEIGHBOUR: 'it returns false'. Refute it at one input. -/
def fnExactWidthOfWrong : ChangeSpec := { name := "fnExactWidthOf", fn := fun _ => fun
  | [d] => { results := [.lit (.bool false)], args := [d] }
  | _ => none }
def FnExactWidthOfWrongFalsely : Prop := fnExactWidthOfRow.holds Try.pinned (OpenSpec.ofChange fnExactWidthOfWrong)

/-- 'laws.FnExactRowCount': WHATEVER THE INPUT: true; the input reads as it did. -/
def fnExactRowCountSpec : ChangeSpec := { name := "fnExactRowCount", fn := fun _ => fun
  | [d1, d2] => { results := [.lit (.bool true)], args := [d1, d2] }
  | _ => none }
def fnExactRowCountRow : OpenClaim := { program := "ytcinaflmpdmdaaa", sum := "a27447629b96ce18b944fe6df02af455d3d5f9e6a66eff304bc5b9a994649975", func := "loop.example/g00414/laws.FnExactRowCount", spec := "fnExactRowCount", apart := false }
def FnExactRowCountSaid : Prop := fnExactRowCountRow.holds Try.pinned (OpenSpec.ofChange fnExactRowCountSpec)

/-- ITS FALSE NEIGHBOUR: 'it returns false'. Refute it at one input. -/
def fnExactRowCountWrong : ChangeSpec := { name := "fnExactRowCount", fn := fun _ => fun
  | [d1, d2] => { results := [.lit (.bool false)], args := [d1, d2] }
  | _ => none }
def FnExactRowCountWrongFalsely : Prop := fnExactRowCountRow.holds Try.pinned (OpenSpec.ofChange fnExactRowCountWrong)

/-- 'laws.FnExactCellsOf': WHATEVER THE INPUT: true; the input reads as it did. -/
def fnExactCellsOfSpec : ChangeSpec := { name := "fnExactCellsOf", fn := fun _ => fun
  | [d] => { results := [.lit (.bool true)], args := [d] }
  | _ => none }
def fnExactCellsOfRow : OpenClaim := { program := "ytcinaflmpdmdaaa", sum := "a27447629b96ce18b944fe6df02af455d3d5f9e6a66eff304bc5b9a994649975", func := "loop.example/g00414/laws.FnExactCellsOf", spec := "fnExactCellsOf", apart := false }
def FnExactCellsOfSaid : Prop := fnExactCellsOfRow.holds Try.pinned (OpenSpec.ofChange fnExactCellsOfSpec)

/-- ITS FALSE NEIGHBOUR: 'it returns false'. Refute it at one input. -/
def fnExactCellsOfWrong : ChangeSpec := { name := "fnExactCellsOf", fn := fun _ => fun
  | [d] => { results := [.lit (.bool false)], args := [d] }
  | _ => none }
def FnExactCellsOfWrongFalsely : Prop := fnExactCellsOfRow.holds Try.pinned (OpenSpec.ofChange fnExactCellsOfWrong)

/-- 'laws.FnCells': WHATEVER THE INPUT: true; the input reads as it did. -/
def fnCellsSpec : ChangeSpec := { name := "fnCells", fn := fun _ => fun
  | [d] => { results := [.lit (.bool true)], args := [d] }
  | _ => none }
def fnCellsRow : OpenClaim := { program := "ytcinaflmpdmdaaa", sum := "a27447629b96ce18b944fe6df02af455d3d5f9e6a66eff304bc5b9a994649975", func := "loop.example/g00414/laws.FnCells", spec := "fnCells", apart := false }
def FnCellsSaid : Prop := fnCellsRow.holds Try.pinned (OpenSpec.ofChange fnCellsSpec)

/-- ITS FALSE NEIGHBOUR: 'it returns false'. Refute it at one input. -/
def fnCellsWrong : ChangeSpec := { name := "fnCells", fn := fun _ => fun
  | [d] => { results := [.lit (.bool false)], args := [d] }
  | _ => none }
def FnCellsWrongFalsely : Prop := fnCellsRow.holds Try.pinned (OpenSpec.ofChange fnCellsWrong)

/-- 'laws.FnRows': WHATEVER THE INPUT: true; the input reads as it did. -/
def fnRowsSpec : ChangeSpec := { name := "fnRows", fn := fun _ => fun
  | [d] => { results := [.lit (.bool true)], args := [d] }
  | _ => none }
def fnRowsRow : OpenClaim := { program := "ytcinaflmpdmdaaa", sum := "a27447629b96ce18b944fe6df02af455d3d5f9e6a66eff304bc5b9a994649975", func := "loop.example/g00414/laws.FnRows", spec := "fnRows", apart := false }
def FnRowsSaid : Prop := fnRowsRow.holds Try.pinned (OpenSpec.ofChange fnRowsSpec)

/-- ITS FALSE NEIGHBOUR: 'it returns false'. Refute it at one input. -/
def fnRowsWrong : ChangeSpec := { name := "fnRows", fn := fun _ => fun
  | [d] => { results := [.lit (.bool false)], args := [d] }
  | _ => none }
def FnRowsWrongFalsely : Prop := fnRowsRow.holds Try.pinned (OpenSpec.ofChange fnRowsWrong)

/-- 'laws.FnExactSpotFault': WHATEVER THE INPUT: true; the input reads as it did. -/
def fnExactSpotFaultSpec : ChangeSpec := { name := "fnExactSpotFault", fn := fun _ => fun
  | [d1, d2, d3] => { results := [.lit (.bool true)], args := [d1, d2, d3] }
  | _ => none }
def fnExactSpotFaultRow : OpenClaim := { program := "ytcinaflmpdmdaaa", sum := "a27447629b96ce18b944fe6df02af455d3d5f9e6a66eff304bc5b9a994649975", func := "loop.example/g00414/laws.FnExactSpotFault", spec := "fnExactSpotFault", apart := false }
def FnExactSpotFaultSaid : Prop := fnExactSpotFaultRow.holds Try.pinned (OpenSpec.ofChange fnExactSpotFaultSpec)

/-- ITS FALSE NEIGHBOUR: 'it returns false'. Refute it at one input. -/
def fnExactSpotFaultWrong : ChangeSpec := { name := "fnExactSpotFault", fn := fun _ => fun
  | [d1, d2, d3] => { results := [.lit (.bool false)], args := [d1, d2, d3] }
  | _ => none }
def FnExactSpotFaultWrongFalsely : Prop := fnExactSpotFaultRow.holds Try.pinned (OpenSpec.ofChange fnExactSpotFaultWrong)

/-- 'laws.FnExactRowCells': WHATEVER THE INPUT: true; the input reads as it did. -/
def fnExactRowCellsSpec : ChangeSpec := { name := "fnExactRowCells", fn := fun _ => fun
  | [d1, d2, d3] => { results := [.lit (.bool true)], args := [d1, d2, d3] }
  | _ => none }
def fnExactRowCellsRow : OpenClaim := { program := "ytcinaflmpdmdaaa", sum := "a27447629b96ce18b944fe6df02af455d3d5f9e6a66eff304bc5b9a994649975", func := "loop.example/g00414/laws.FnExactRowCells", spec := "fnExactRowCells", apart := false }
def FnExactRowCellsSaid : Prop := fnExactRowCellsRow.holds Try.pinned (OpenSpec.ofChange fnExactRowCellsSpec)

/-- ITS FALSE NEIGHBOUR: 'it returns false'. Refute it at one input. -/
def fnExactRowCellsWrong : ChangeSpec := { name := "fnExactRowCells", fn := fun _ => fun
  | [d1, d2, d3] => { results := [.lit (.bool false)], args := [d1, d2, d3] }
  | _ => none }
def FnExactRowCellsWrongFalsely : Prop := fnExactRowCellsRow.holds Try.pinned (OpenSpec.ofChange fnExactRowCellsWrong)

/-- 'laws.FnExactLastTop': WHATEVER THE INPUT: true; the input reads as it did. -/
def fnExactLastTopSpec : ChangeSpec := { name := "fnExactLastTop", fn := fun _ => fun
  | [d1, d2, d3] => { results := [.lit (.bool true)], args := [d1, d2, d3] }
  | _ => none }
def fnExactLastTopRow : OpenClaim := { program := "ytcinaflmpdmdaaa", sum := "a27447629b96ce18b944fe6df02af455d3d5f9e6a66eff304bc5b9a994649975", func := "loop.example/g00414/laws.FnExactLastTop", spec := "fnExactLastTop", apart := false }
def FnExactLastTopSaid : Prop := fnExactLastTopRow.holds Try.pinned (OpenSpec.ofChange fnExactLastTopSpec)

/-- ITS FALSE NEIGHBOUR: 'it returns false'. Refute it at one input. -/
def fnExactLastTopWrong : ChangeSpec := { name := "fnExactLastTop", fn := fun _ => fun
  | [d1, d2, d3] => { results := [.lit (.bool false)], args := [d1, d2, d3] }
  | _ => none }
def FnExactLastTopWrongFalsely : Prop := fnExactLastTopRow.holds Try.pinned (OpenSpec.ofChange fnExactLastTopWrong)

/-- 'laws.FnExactMoveSpot': WHATEVER THE INPUT: true; the input reads as it did. -/
def fnExactMoveSpotSpec : ChangeSpec := { name := "fnExactMoveSpot", fn := fun _ => fun
  | [d1, d2, d3, d4] => { results := [.lit (.bool true)], args := [d1, d2, d3, d4] }
  | _ => none }
def fnExactMoveSpotRow : OpenClaim := { program := "ytcinaflmpdmdaaa", sum := "a27447629b96ce18b944fe6df02af455d3d5f9e6a66eff304bc5b9a994649975", func := "loop.example/g00414/laws.FnExactMoveSpot", spec := "fnExactMoveSpot", apart := false }
def FnExactMoveSpotSaid : Prop := fnExactMoveSpotRow.holds Try.pinned (OpenSpec.ofChange fnExactMoveSpotSpec)

/-- ITS FALSE NEIGHBOUR: 'it returns false'. Refute it at one input. -/
def fnExactMoveSpotWrong : ChangeSpec := { name := "fnExactMoveSpot", fn := fun _ => fun
  | [d1, d2, d3, d4] => { results := [.lit (.bool false)], args := [d1, d2, d3, d4] }
  | _ => none }
def FnExactMoveSpotWrongFalsely : Prop := fnExactMoveSpotRow.holds Try.pinned (OpenSpec.ofChange fnExactMoveSpotWrong)

/-- 'laws.FnExactGridFault': WHATEVER THE INPUT: true; the input reads as it did. -/
def fnExactGridFaultSpec : ChangeSpec := { name := "fnExactGridFault", fn := fun _ => fun
  | [d] => { results := [.lit (.bool true)], args := [d] }
  | _ => none }
def fnExactGridFaultRow : OpenClaim := { program := "ytcinaflmpdmdaaa", sum := "a27447629b96ce18b944fe6df02af455d3d5f9e6a66eff304bc5b9a994649975", func := "loop.example/g00414/laws.FnExactGridFault", spec := "fnExactGridFault", unfollowed := true, recurses := true, apart := false }
def FnExactGridFaultSaid : Prop := fnExactGridFaultRow.holds Try.pinned (OpenSpec.ofChange fnExactGridFaultSpec)

/-- ITS FALSE NEIGHBOUR: 'it returns false'. Refute it at one input. -/
def fnExactGridFaultWrong : ChangeSpec := { name := "fnExactGridFault", fn := fun _ => fun
  | [d] => { results := [.lit (.bool false)], args := [d] }
  | _ => none }
def FnExactGridFaultWrongFalsely : Prop := fnExactGridFaultRow.holds Try.pinned (OpenSpec.ofChange fnExactGridFaultWrong)

/- THE SECOND FORM. 'bulk': how many values and letters a reading holds, each counted each time it is reached (what is shared counts as often as it is met; a slice's spare places count too). A statement '..UptoSaid' is the law's where the arguments, and the package variables that the reading takes, are together of bulk at most 1048576: NARROWER than '..Said'. Prove '..Said' where nothing that the law and all that it calls make is longer than what came in: it says more and counts as full. Else prove '..UptoSaid'. A law counts once. -/
mutual
def uptoBulk {H : Type} : DataW H → Nat
  | .lit (.string bytes) => bytes.length + 1
  | .lit _ => 1
  | .nil => 1
  | .ptr d => uptoBulk d + 1
  | .slice elems spare => uptoBulkAll elems + uptoBulkAll spare + 1
  | .agg parts => uptoBulkAll parts + 1
  | .iface _ d => uptoBulk d + 1
  | .map entries => uptoBulkEntries entries + 1
  | .held _ => 1
def uptoBulkAll {H : Type} : List (DataW H) → Nat
  | [] => 0
  | d :: r => uptoBulk d + uptoBulkAll r
def uptoBulkEntries {H : Type} : List (Lit × DataW H) → Nat
  | [] => 0
  | x :: r => uptoBulkEntry x + uptoBulkEntries r
def uptoBulkEntry {H : Type} : Lit × DataW H → Nat
  | (.string bytes, d) => bytes.length + uptoBulk d + 1
  | (_, d) => uptoBulk d + 1
 end
def uptoSmall : (H : Type) → List (DataW H) → Bool := fun _ ds => decide (uptoBulkAll ds ≤ 1048576)
def OpenSpec.upto (s : _root_.Go.ChangeSpec) : _root_.Go.OpenSpec := { _root_.Go.OpenSpec.ofChange s with cond := some uptoSmall }

/-- 'laws.FnExactLayoutFault', WHERE WHAT IT READS IS OF BULK AT MOST 1048576: true; the input reads as it did. -/
def fnExactLayoutFaultUptoRow : OpenClaim := { program := "ytcinaflmpdmdaaa", sum := "a27447629b96ce18b944fe6df02af455d3d5f9e6a66eff304bc5b9a994649975", func := "loop.example/g00414/laws.FnExactLayoutFault", spec := "fnExactLayoutFault", apart := false, narrowed := true }
def FnExactLayoutFaultUptoSaid : Prop := fnExactLayoutFaultUptoRow.holds Try.pinned (OpenSpec.upto fnExactLayoutFaultSpec)

/-- 'laws.FnExactWidthOf', WHERE WHAT IT READS IS OF BULK AT MOST 1048576: true; the input reads as it did. -/
def fnExactWidthOfUptoRow : OpenClaim := { program := "ytcinaflmpdmdaaa", sum := "a27447629b96ce18b944fe6df02af455d3d5f9e6a66eff304bc5b9a994649975", func := "loop.example/g00414/laws.FnExactWidthOf", spec := "fnExactWidthOf", apart := false, narrowed := true }
def FnExactWidthOfUptoSaid : Prop := fnExactWidthOfUptoRow.holds Try.pinned (OpenSpec.upto fnExactWidthOfSpec)

/-- 'laws.FnExactRowCount', WHERE WHAT IT READS IS OF BULK AT MOST 1048576: true; the input reads as it did. -/
def fnExactRowCountUptoRow : OpenClaim := { program := "ytcinaflmpdmdaaa", sum := "a27447629b96ce18b944fe6df02af455d3d5f9e6a66eff304bc5b9a994649975", func := "loop.example/g00414/laws.FnExactRowCount", spec := "fnExactRowCount", apart := false, narrowed := true }
def FnExactRowCountUptoSaid : Prop := fnExactRowCountUptoRow.holds Try.pinned (OpenSpec.upto fnExactRowCountSpec)

/-- 'laws.FnExactCellsOf', WHERE WHAT IT READS IS OF BULK AT MOST 1048576: true; the input reads as it did. -/
def fnExactCellsOfUptoRow : OpenClaim := { program := "ytcinaflmpdmdaaa", sum := "a27447629b96ce18b944fe6df02af455d3d5f9e6a66eff304bc5b9a994649975", func := "loop.example/g00414/laws.FnExactCellsOf", spec := "fnExactCellsOf", apart := false, narrowed := true }
def FnExactCellsOfUptoSaid : Prop := fnExactCellsOfUptoRow.holds Try.pinned (OpenSpec.upto fnExactCellsOfSpec)

/-- 'laws.FnCells', WHERE WHAT IT READS IS OF BULK AT MOST 1048576: true; the input reads as it did. -/
def fnCellsUptoRow : OpenClaim := { program := "ytcinaflmpdmdaaa", sum := "a27447629b96ce18b944fe6df02af455d3d5f9e6a66eff304bc5b9a994649975", func := "loop.example/g00414/laws.FnCells", spec := "fnCells", apart := false, narrowed := true }
def FnCellsUptoSaid : Prop := fnCellsUptoRow.holds Try.pinned (OpenSpec.upto fnCellsSpec)

/-- 'laws.FnRows', WHERE WHAT IT READS IS OF BULK AT MOST 1048576: true; the input reads as it did. -/
def fnRowsUptoRow : OpenClaim := { program := "ytcinaflmpdmdaaa", sum := "a27447629b96ce18b944fe6df02af455d3d5f9e6a66eff304bc5b9a994649975", func := "loop.example/g00414/laws.FnRows", spec := "fnRows", apart := false, narrowed := true }
def FnRowsUptoSaid : Prop := fnRowsUptoRow.holds Try.pinned (OpenSpec.upto fnRowsSpec)

/-- 'laws.FnExactSpotFault', WHERE WHAT IT READS IS OF BULK AT MOST 1048576: true; the input reads as it did. -/
def fnExactSpotFaultUptoRow : OpenClaim := { program := "ytcinaflmpdmdaaa", sum := "a27447629b96ce18b944fe6df02af455d3d5f9e6a66eff304bc5b9a994649975", func := "loop.example/g00414/laws.FnExactSpotFault", spec := "fnExactSpotFault", apart := false, narrowed := true }
def FnExactSpotFaultUptoSaid : Prop := fnExactSpotFaultUptoRow.holds Try.pinned (OpenSpec.upto fnExactSpotFaultSpec)

/-- 'laws.FnExactRowCells', WHERE WHAT IT READS IS OF BULK AT MOST 1048576: true; the input reads as it did. -/
def fnExactRowCellsUptoRow : OpenClaim := { program := "ytcinaflmpdmdaaa", sum := "a27447629b96ce18b944fe6df02af455d3d5f9e6a66eff304bc5b9a994649975", func := "loop.example/g00414/laws.FnExactRowCells", spec := "fnExactRowCells", apart := false, narrowed := true }
def FnExactRowCellsUptoSaid : Prop := fnExactRowCellsUptoRow.holds Try.pinned (OpenSpec.upto fnExactRowCellsSpec)

/-- 'laws.FnExactLastTop', WHERE WHAT IT READS IS OF BULK AT MOST 1048576: true; the input reads as it did. -/
def fnExactLastTopUptoRow : OpenClaim := { program := "ytcinaflmpdmdaaa", sum := "a27447629b96ce18b944fe6df02af455d3d5f9e6a66eff304bc5b9a994649975", func := "loop.example/g00414/laws.FnExactLastTop", spec := "fnExactLastTop", apart := false, narrowed := true }
def FnExactLastTopUptoSaid : Prop := fnExactLastTopUptoRow.holds Try.pinned (OpenSpec.upto fnExactLastTopSpec)

/-- 'laws.FnExactMoveSpot', WHERE WHAT IT READS IS OF BULK AT MOST 1048576: true; the input reads as it did. -/
def fnExactMoveSpotUptoRow : OpenClaim := { program := "ytcinaflmpdmdaaa", sum := "a27447629b96ce18b944fe6df02af455d3d5f9e6a66eff304bc5b9a994649975", func := "loop.example/g00414/laws.FnExactMoveSpot", spec := "fnExactMoveSpot", apart := false, narrowed := true }
def FnExactMoveSpotUptoSaid : Prop := fnExactMoveSpotUptoRow.holds Try.pinned (OpenSpec.upto fnExactMoveSpotSpec)

/-- 'laws.FnExactGridFault', WHERE WHAT IT READS IS OF BULK AT MOST 1048576: true; the input reads as it did. -/
def fnExactGridFaultUptoRow : OpenClaim := { program := "ytcinaflmpdmdaaa", sum := "a27447629b96ce18b944fe6df02af455d3d5f9e6a66eff304bc5b9a994649975", func := "loop.example/g00414/laws.FnExactGridFault", spec := "fnExactGridFault", unfollowed := true, recurses := true, apart := false, narrowed := true }
def FnExactGridFaultUptoSaid : Prop := fnExactGridFaultUptoRow.holds Try.pinned (OpenSpec.upto fnExactGridFaultSpec)

end Rows
end Go.Proofs.Ytcinaflmpdmdaaa
