/-
  No cell of these rows narrows 'for every input' (looked for: loops, veiled, ifaces, maps, wideKeys, modest, calm, conditions, laid).
  DERIVED. THE GIVEN ROWS OF THIS SEAT. 11 by the template 'for every input the law returns true; each argument reads behind the call as it read before'; 0 by the template 'total and deterministic' (their statements: YtjnmhpldabbeiaaTotals.lean).
  GIVEN WITH THE SEED: the statements are not yours to turn. If you find one false, say at which input.
  Laid BY PROGRAM, IN A SANDBOX (cutbox-rows.mjs): the forced cells as the released guide's own fill.sh prints them over the translation 43c3c3d4c193685e… (all of the seat's roots in one cut). By AI agents, Wed Nov 11 2026. No macro, syntax, notation, axiom, sorry.
-/
import Derived.Test.YtjnmhpldabbeiaaChecked
import GoSem.Claim
import GoSem.ClaimJoined
import GoSem.ClaimMapViews
import Derived.JoinedTies
import Derived.KernelRfl
namespace Go.Proofs.Ytjnmhpldabbeiaa
/- THE CELL 'sum', in the pinned program and in every row, IS THE sha256 OF THE DUMP (.gsa) THAT YtjnmhpldabbeiaaProg.lean LOADS. Nothing in Lean hashes anything: it is a label: what it is worth is what the hold of that sum in a sandbox is worth. -/
noncomputable def Try.pinned : Pinned := { name := "ytjnmhpldabbeiaa", sum := "43c3c3d4c193685ea57fc02ff776a020e60c5dc261978c46f84eabe889dbf936", checked := Try.checked }
namespace Rows
def none {H : Type} : Left H := { results := [], args := [] }

/-- 'laws.FnExactSpansFault': WHATEVER THE INPUT: true; the input reads as it did. -/
def fnExactSpansFaultSpec : ChangeSpec := { name := "fnExactSpansFault", fn := fun _ => fun
  | [d] => { results := [.lit (.bool true)], args := [d] }
  | _ => none }
def fnExactSpansFaultRow : OpenClaim := { program := "ytjnmhpldabbeiaa", sum := "43c3c3d4c193685ea57fc02ff776a020e60c5dc261978c46f84eabe889dbf936", func := "loop.example/g00414/laws.FnExactSpansFault", spec := "fnExactSpansFault", apart := false }
def FnExactSpansFaultSaid : Prop := fnExactSpansFaultRow.holds Try.pinned (OpenSpec.ofChange fnExactSpansFaultSpec)

/-- ITS FALSE NEIGHBOUR: 'it returns false'. Refute it at one input. -/
def fnExactSpansFaultWrong : ChangeSpec := { name := "fnExactSpansFault", fn := fun _ => fun
  | [d] => { results := [.lit (.bool false)], args := [d] }
  | _ => none }
def FnExactSpansFaultWrongFalsely : Prop := fnExactSpansFaultRow.holds Try.pinned (OpenSpec.ofChange fnExactSpansFaultWrong)

/-- 'laws.FnExactCmdFault': WHATEVER THE INPUT: true; the input reads as it did. -/
def fnExactCmdFaultSpec : ChangeSpec := { name := "fnExactCmdFault", fn := fun _ => fun
  | [d] => { results := [.lit (.bool true)], args := [d] }
  | _ => none }
def fnExactCmdFaultRow : OpenClaim := { program := "ytjnmhpldabbeiaa", sum := "43c3c3d4c193685ea57fc02ff776a020e60c5dc261978c46f84eabe889dbf936", func := "loop.example/g00414/laws.FnExactCmdFault", spec := "fnExactCmdFault", apart := false }
def FnExactCmdFaultSaid : Prop := fnExactCmdFaultRow.holds Try.pinned (OpenSpec.ofChange fnExactCmdFaultSpec)

/-- ITS FALSE NEIGHBOUR: 'it returns false'. Refute it at one input. -/
def fnExactCmdFaultWrong : ChangeSpec := { name := "fnExactCmdFault", fn := fun _ => fun
  | [d] => { results := [.lit (.bool false)], args := [d] }
  | _ => none }
def FnExactCmdFaultWrongFalsely : Prop := fnExactCmdFaultRow.holds Try.pinned (OpenSpec.ofChange fnExactCmdFaultWrong)

/-- 'laws.FnExactNewState': WHATEVER THE INPUT: true; the input reads as it did. -/
def fnExactNewStateSpec : ChangeSpec := { name := "fnExactNewState", fn := fun _ => fun
  | [d1, d2] => { results := [.lit (.bool true)], args := [d1, d2] }
  | _ => none }
def fnExactNewStateRow : OpenClaim := { program := "ytjnmhpldabbeiaa", sum := "43c3c3d4c193685ea57fc02ff776a020e60c5dc261978c46f84eabe889dbf936", func := "loop.example/g00414/laws.FnExactNewState", spec := "fnExactNewState", apart := false }
def FnExactNewStateSaid : Prop := fnExactNewStateRow.holds Try.pinned (OpenSpec.ofChange fnExactNewStateSpec)

/-- ITS FALSE NEIGHBOUR: 'it returns false'. Refute it at one input. -/
def fnExactNewStateWrong : ChangeSpec := { name := "fnExactNewState", fn := fun _ => fun
  | [d1, d2] => { results := [.lit (.bool false)], args := [d1, d2] }
  | _ => none }
def FnExactNewStateWrongFalsely : Prop := fnExactNewStateRow.holds Try.pinned (OpenSpec.ofChange fnExactNewStateWrong)

/-- 'laws.FnExactMarkBytes': WHATEVER THE INPUT: true; the input reads as it did. -/
def fnExactMarkBytesSpec : ChangeSpec := { name := "fnExactMarkBytes", fn := fun _ => fun
  | [d1, d2] => { results := [.lit (.bool true)], args := [d1, d2] }
  | _ => none }
def fnExactMarkBytesRow : OpenClaim := { program := "ytjnmhpldabbeiaa", sum := "43c3c3d4c193685ea57fc02ff776a020e60c5dc261978c46f84eabe889dbf936", func := "loop.example/g00414/laws.FnExactMarkBytes", spec := "fnExactMarkBytes", unfollowed := true, recurses := true, apart := false }
def FnExactMarkBytesSaid : Prop := fnExactMarkBytesRow.holds Try.pinned (OpenSpec.ofChange fnExactMarkBytesSpec)

/-- ITS FALSE NEIGHBOUR: 'it returns false'. Refute it at one input. -/
def fnExactMarkBytesWrong : ChangeSpec := { name := "fnExactMarkBytes", fn := fun _ => fun
  | [d1, d2] => { results := [.lit (.bool false)], args := [d1, d2] }
  | _ => none }
def FnExactMarkBytesWrongFalsely : Prop := fnExactMarkBytesRow.holds Try.pinned (OpenSpec.ofChange fnExactMarkBytesWrong)

/-- 'laws.FnExactNewTable': WHATEVER THE INPUT: true; the input reads as it did. -/
def fnExactNewTableSpec : ChangeSpec := { name := "fnExactNewTable", fn := fun _ => fun
  | [d] => { results := [.lit (.bool true)], args := [d] }
  | _ => none }
def fnExactNewTableRow : OpenClaim := { program := "ytjnmhpldabbeiaa", sum := "43c3c3d4c193685ea57fc02ff776a020e60c5dc261978c46f84eabe889dbf936", func := "loop.example/g00414/laws.FnExactNewTable", spec := "fnExactNewTable", apart := false }
def FnExactNewTableSaid : Prop := fnExactNewTableRow.holds Try.pinned (OpenSpec.ofChange fnExactNewTableSpec)

/-- ITS FALSE NEIGHBOUR: 'it returns false'. Refute it at one input. -/
def fnExactNewTableWrong : ChangeSpec := { name := "fnExactNewTable", fn := fun _ => fun
  | [d] => { results := [.lit (.bool false)], args := [d] }
  | _ => none }
def FnExactNewTableWrongFalsely : Prop := fnExactNewTableRow.holds Try.pinned (OpenSpec.ofChange fnExactNewTableWrong)

/-- 'laws.FnExactProgFault': WHATEVER THE INPUT: true; the input reads as it did. -/
def fnExactProgFaultSpec : ChangeSpec := { name := "fnExactProgFault", fn := fun _ => fun
  | [d] => { results := [.lit (.bool true)], args := [d] }
  | _ => none }
def fnExactProgFaultRow : OpenClaim := { program := "ytjnmhpldabbeiaa", sum := "43c3c3d4c193685ea57fc02ff776a020e60c5dc261978c46f84eabe889dbf936", func := "loop.example/g00414/laws.FnExactProgFault", spec := "fnExactProgFault", apart := false }
def FnExactProgFaultSaid : Prop := fnExactProgFaultRow.holds Try.pinned (OpenSpec.ofChange fnExactProgFaultSpec)

/-- ITS FALSE NEIGHBOUR: 'it returns false'. Refute it at one input. -/
def fnExactProgFaultWrong : ChangeSpec := { name := "fnExactProgFault", fn := fun _ => fun
  | [d] => { results := [.lit (.bool false)], args := [d] }
  | _ => none }
def FnExactProgFaultWrongFalsely : Prop := fnExactProgFaultRow.holds Try.pinned (OpenSpec.ofChange fnExactProgFaultWrong)

/-- 'laws.FnExactSetFault': WHATEVER THE INPUT: true; the input reads as it did. -/
def fnExactSetFaultSpec : ChangeSpec := { name := "fnExactSetFault", fn := fun _ => fun
  | [d1, d2] => { results := [.lit (.bool true)], args := [d1, d2] }
  | _ => none }
def fnExactSetFaultRow : OpenClaim := { program := "ytjnmhpldabbeiaa", sum := "43c3c3d4c193685ea57fc02ff776a020e60c5dc261978c46f84eabe889dbf936", func := "loop.example/g00414/laws.FnExactSetFault", spec := "fnExactSetFault", apart := false }
def FnExactSetFaultSaid : Prop := fnExactSetFaultRow.holds Try.pinned (OpenSpec.ofChange fnExactSetFaultSpec)

/-- ITS FALSE NEIGHBOUR: 'it returns false'. Refute it at one input. -/
def fnExactSetFaultWrong : ChangeSpec := { name := "fnExactSetFault", fn := fun _ => fun
  | [d1, d2] => { results := [.lit (.bool false)], args := [d1, d2] }
  | _ => none }
def FnExactSetFaultWrongFalsely : Prop := fnExactSetFaultRow.holds Try.pinned (OpenSpec.ofChange fnExactSetFaultWrong)

/-- 'laws.FnExactCloseSet': WHATEVER THE INPUT: true; the input reads as it did. -/
def fnExactCloseSetSpec : ChangeSpec := { name := "fnExactCloseSet", fn := fun _ => fun
  | [d1, d2, d3, d4] => { results := [.lit (.bool true)], args := [d1, d2, d3, d4] }
  | _ => none }
def fnExactCloseSetRow : OpenClaim := { program := "ytjnmhpldabbeiaa", sum := "43c3c3d4c193685ea57fc02ff776a020e60c5dc261978c46f84eabe889dbf936", func := "loop.example/g00414/laws.FnExactCloseSet", spec := "fnExactCloseSet", recurses := true, apart := false }
def FnExactCloseSetSaid : Prop := fnExactCloseSetRow.holds Try.pinned (OpenSpec.ofChange fnExactCloseSetSpec)

/-- ITS FALSE NEIGHBOUR: 'it returns false'. Refute it at one input. -/
def fnExactCloseSetWrong : ChangeSpec := { name := "fnExactCloseSet", fn := fun _ => fun
  | [d1, d2, d3, d4] => { results := [.lit (.bool false)], args := [d1, d2, d3, d4] }
  | _ => none }
def FnExactCloseSetWrongFalsely : Prop := fnExactCloseSetRow.holds Try.pinned (OpenSpec.ofChange fnExactCloseSetWrong)

/-- 'laws.FnExactCompilePattern': WHATEVER THE INPUT: true; the input reads as it did. -/
def fnExactCompilePatternSpec : ChangeSpec := { name := "fnExactCompilePattern", fn := fun _ => fun
  | [d] => { results := [.lit (.bool true)], args := [d] }
  | _ => none }
def fnExactCompilePatternRow : OpenClaim := { program := "ytjnmhpldabbeiaa", sum := "43c3c3d4c193685ea57fc02ff776a020e60c5dc261978c46f84eabe889dbf936", func := "loop.example/g00414/laws.FnExactCompilePattern", spec := "fnExactCompilePattern", recurses := true, apart := false }
def FnExactCompilePatternSaid : Prop := fnExactCompilePatternRow.holds Try.pinned (OpenSpec.ofChange fnExactCompilePatternSpec)

/-- ITS FALSE NEIGHBOUR: 'it returns false'. Refute it at one input. -/
def fnExactCompilePatternWrong : ChangeSpec := { name := "fnExactCompilePattern", fn := fun _ => fun
  | [d] => { results := [.lit (.bool false)], args := [d] }
  | _ => none }
def FnExactCompilePatternWrongFalsely : Prop := fnExactCompilePatternRow.holds Try.pinned (OpenSpec.ofChange fnExactCompilePatternWrong)

/-- 'laws.FnExactTableFault': WHATEVER THE INPUT: true; the input reads as it did. -/
def fnExactTableFaultSpec : ChangeSpec := { name := "fnExactTableFault", fn := fun _ => fun
  | [d1, d2] => { results := [.lit (.bool true)], args := [d1, d2] }
  | _ => none }
def fnExactTableFaultRow : OpenClaim := { program := "ytjnmhpldabbeiaa", sum := "43c3c3d4c193685ea57fc02ff776a020e60c5dc261978c46f84eabe889dbf936", func := "loop.example/g00414/laws.FnExactTableFault", spec := "fnExactTableFault", unfollowed := true, recurses := true, apart := false }
def FnExactTableFaultSaid : Prop := fnExactTableFaultRow.holds Try.pinned (OpenSpec.ofChange fnExactTableFaultSpec)

/-- ITS FALSE NEIGHBOUR: 'it returns false'. Refute it at one input. -/
def fnExactTableFaultWrong : ChangeSpec := { name := "fnExactTableFault", fn := fun _ => fun
  | [d1, d2] => { results := [.lit (.bool false)], args := [d1, d2] }
  | _ => none }
def FnExactTableFaultWrongFalsely : Prop := fnExactTableFaultRow.holds Try.pinned (OpenSpec.ofChange fnExactTableFaultWrong)

/-- 'laws.FnLasts': WHATEVER THE INPUT: true; the input reads as it did. -/
def fnLastsSpec : ChangeSpec := { name := "fnLasts", fn := fun _ => fun
  | [d] => { results := [.lit (.bool true)], args := [d] }
  | _ => none }
def fnLastsRow : OpenClaim := { program := "ytjnmhpldabbeiaa", sum := "43c3c3d4c193685ea57fc02ff776a020e60c5dc261978c46f84eabe889dbf936", func := "loop.example/g00414/laws.FnLasts", spec := "fnLasts", apart := false }
def FnLastsSaid : Prop := fnLastsRow.holds Try.pinned (OpenSpec.ofChange fnLastsSpec)

/-- ITS FALSE NEIGHBOUR: 'it returns false'. Refute it at one input. -/
def fnLastsWrong : ChangeSpec := { name := "fnLasts", fn := fun _ => fun
  | [d] => { results := [.lit (.bool false)], args := [d] }
  | _ => none }
def FnLastsWrongFalsely : Prop := fnLastsRow.holds Try.pinned (OpenSpec.ofChange fnLastsWrong)

/- THE SECOND FORM. 'bulk': how many values and letters a reading holds, each counted each time it is reached (what is shared counts as often as it is met; a slice's spare places count too). A statement '..UptoSaid' is the law's where the arguments, and the package variables that the reading takes, are together of bulk at most 1048576: NARROWER than '..Said'. Prove '..Said' where nothing that the law and all that it calls make is longer than what came in: it says more and counts as full. Else prove '..UptoSaid'. A law counts once. -/
mutual
def uptoBulk {H : Type} : DataW H → Nat
  | .lit (.string bytes) => bytes.length + 1
  | .lit _ => 1
  | .nil => 1
  | .ptr d => uptoBulk d + 1
  | .slice elems spare => uptoBulkAll elems + uptoBulkAll spare + 1
  | .agg parts => uptoBulkAll parts + 1
  | .iface _ d => uptoBulk d + 1
  | .map entries => uptoBulkEntries entries + 1
  | .held _ => 1
def uptoBulkAll {H : Type} : List (DataW H) → Nat
  | [] => 0
  | d :: r => uptoBulk d + uptoBulkAll r
def uptoBulkEntries {H : Type} : List (Lit × DataW H) → Nat
  | [] => 0
  | x :: r => uptoBulkEntry x + uptoBulkEntries r
def uptoBulkEntry {H : Type} : Lit × DataW H → Nat
  | (.string bytes, d) => bytes.length + uptoBulk d + 1
  | (_, d) => uptoBulk d + 1
 end
def uptoSmall : (H : Type) → List (DataW H) → Bool := fun _ ds => decide (uptoBulkAll ds ≤ 1048576)
def OpenSpec.upto (s : _root_.Go.ChangeSpec) : _root_.Go.OpenSpec := { _root_.Go.OpenSpec.ofChange s with cond := some uptoSmall }

/-- 'laws.FnExactSpansFault', WHERE WHAT IT READS IS OF BULK AT MOST 1048576: true; the input reads as it did. -/
def fnExactSpansFaultUptoRow : OpenClaim := { program := "ytjnmhpldabbeiaa", sum := "43c3c3d4c193685ea57fc02ff776a020e60c5dc261978c46f84eabe889dbf936", func := "loop.example/g00414/laws.FnExactSpansFault", spec := "fnExactSpansFault", apart := false, narrowed := true }
def FnExactSpansFaultUptoSaid : Prop := fnExactSpansFaultUptoRow.holds Try.pinned (OpenSpec.upto fnExactSpansFaultSpec)

/-- 'laws.FnExactCmdFault', WHERE WHAT IT READS IS OF BULK AT MOST 1048576: true; the input reads as it did. -/
def fnExactCmdFaultUptoRow : OpenClaim := { program := "ytjnmhpldabbeiaa", sum := "43c3c3d4c193685ea57fc02ff776a020e60c5dc261978c46f84eabe889dbf936", func := "loop.example/g00414/laws.FnExactCmdFault", spec := "fnExactCmdFault", apart := false, narrowed := true }
def FnExactCmdFaultUptoSaid : Prop := fnExactCmdFaultUptoRow.holds Try.pinned (OpenSpec.upto fnExactCmdFaultSpec)

/-- 'laws.FnExactNewState', WHERE WHAT IT READS IS OF BULK AT MOST 1048576: true; the input reads as it did. -/
def fnExactNewStateUptoRow : OpenClaim := { program := "ytjnmhpldabbeiaa", sum := "43c3c3d4c193685ea57fc02ff776a020e60c5dc261978c46f84eabe889dbf936", func := "loop.example/g00414/laws.FnExactNewState", spec := "fnExactNewState", apart := false, narrowed := true }
def FnExactNewStateUptoSaid : Prop := fnExactNewStateUptoRow.holds Try.pinned (OpenSpec.upto fnExactNewStateSpec)

/-- 'laws.FnExactMarkBytes', WHERE WHAT IT READS IS OF BULK AT MOST 1048576: true; the input reads as it did. -/
def fnExactMarkBytesUptoRow : OpenClaim := { program := "ytjnmhpldabbeiaa", sum := "43c3c3d4c193685ea57fc02ff776a020e60c5dc261978c46f84eabe889dbf936", func := "loop.example/g00414/laws.FnExactMarkBytes", spec := "fnExactMarkBytes", unfollowed := true, recurses := true, apart := false, narrowed := true }
def FnExactMarkBytesUptoSaid : Prop := fnExactMarkBytesUptoRow.holds Try.pinned (OpenSpec.upto fnExactMarkBytesSpec)

/-- 'laws.FnExactNewTable', WHERE WHAT IT READS IS OF BULK AT MOST 1048576: true; the input reads as it did. -/
def fnExactNewTableUptoRow : OpenClaim := { program := "ytjnmhpldabbeiaa", sum := "43c3c3d4c193685ea57fc02ff776a020e60c5dc261978c46f84eabe889dbf936", func := "loop.example/g00414/laws.FnExactNewTable", spec := "fnExactNewTable", apart := false, narrowed := true }
def FnExactNewTableUptoSaid : Prop := fnExactNewTableUptoRow.holds Try.pinned (OpenSpec.upto fnExactNewTableSpec)

/-- 'laws.FnExactProgFault', WHERE WHAT IT READS IS OF BULK AT MOST 1048576: true; the input reads as it did. -/
def fnExactProgFaultUptoRow : OpenClaim := { program := "ytjnmhpldabbeiaa", sum := "43c3c3d4c193685ea57fc02ff776a020e60c5dc261978c46f84eabe889dbf936", func := "loop.example/g00414/laws.FnExactProgFault", spec := "fnExactProgFault", apart := false, narrowed := true }
def FnExactProgFaultUptoSaid : Prop := fnExactProgFaultUptoRow.holds Try.pinned (OpenSpec.upto fnExactProgFaultSpec)

/-- 'laws.FnExactSetFault', WHERE WHAT IT READS IS OF BULK AT MOST 1048576: true; the input reads as it did. -/
def fnExactSetFaultUptoRow : OpenClaim := { program := "ytjnmhpldabbeiaa", sum := "43c3c3d4c193685ea57fc02ff776a020e60c5dc261978c46f84eabe889dbf936", func := "loop.example/g00414/laws.FnExactSetFault", spec := "fnExactSetFault", apart := false, narrowed := true }
def FnExactSetFaultUptoSaid : Prop := fnExactSetFaultUptoRow.holds Try.pinned (OpenSpec.upto fnExactSetFaultSpec)

/-- 'laws.FnExactCloseSet', WHERE WHAT IT READS IS OF BULK AT MOST 1048576: true; the input reads as it did. -/
def fnExactCloseSetUptoRow : OpenClaim := { program := "ytjnmhpldabbeiaa", sum := "43c3c3d4c193685ea57fc02ff776a020e60c5dc261978c46f84eabe889dbf936", func := "loop.example/g00414/laws.FnExactCloseSet", spec := "fnExactCloseSet", recurses := true, apart := false, narrowed := true }
def FnExactCloseSetUptoSaid : Prop := fnExactCloseSetUptoRow.holds Try.pinned (OpenSpec.upto fnExactCloseSetSpec)

/-- 'laws.FnExactCompilePattern', WHERE WHAT IT READS IS OF BULK AT MOST 1048576: true; the input reads as it did. -/
def fnExactCompilePatternUptoRow : OpenClaim := { program := "ytjnmhpldabbeiaa", sum := "43c3c3d4c193685ea57fc02ff776a020e60c5dc261978c46f84eabe889dbf936", func := "loop.example/g00414/laws.FnExactCompilePattern", spec := "fnExactCompilePattern", recurses := true, apart := false, narrowed := true }
def FnExactCompilePatternUptoSaid : Prop := fnExactCompilePatternUptoRow.holds Try.pinned (OpenSpec.upto fnExactCompilePatternSpec)

/-- 'laws.FnExactTableFault', WHERE WHAT IT READS IS OF BULK AT MOST 1048576: true; the input reads as it did. -/
def fnExactTableFaultUptoRow : OpenClaim := { program := "ytjnmhpldabbeiaa", sum := "43c3c3d4c193685ea57fc02ff776a020e60c5dc261978c46f84eabe889dbf936", func := "loop.example/g00414/laws.FnExactTableFault", spec := "fnExactTableFault", unfollowed := true, recurses := true, apart := false, narrowed := true }
def FnExactTableFaultUptoSaid : Prop := fnExactTableFaultUptoRow.holds Try.pinned (OpenSpec.upto fnExactTableFaultSpec)

/-- 'laws.FnLasts', WHERE WHAT IT READS IS OF BULK AT MOST 1048576: true; the input reads as it did. -/
def fnLastsUptoRow : OpenClaim := { program := "ytjnmhpldabbeiaa", sum := "43c3c3d4c193685ea57fc02ff776a020e60c5dc261978c46f84eabe889dbf936", func := "loop.example/g00414/laws.FnLasts", spec := "fnLasts", apart := false, narrowed := true }
def FnLastsUptoSaid : Prop := fnLastsUptoRow.holds Try.pinned (OpenSpec.upto fnLastsSpec)

end Rows
end Go.Proofs.Ytjnmhpldabbeiaa
