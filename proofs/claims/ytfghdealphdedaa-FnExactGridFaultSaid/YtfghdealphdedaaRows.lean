/-
  No cell of these rows narrows 'for every input' (looked for: loops, veiled, ifaces, maps, wideKeys, modest, calm, conditions, laid).
  DERIVED. THE GIVEN ROWS OF THIS SEAT. 5 by the template 'for every input the law returns true; each argument reads behind the call as it read before'; 0 by the template 'total and deterministic' (their statements: YtfghdealphdedaaTotals.lean).
  GIVEN WITH THE SEED: the statements are not yours to turn. If you find one false, say at which input.
  Laid BY PROGRAM, IN A SANDBOX (cutbox-rows.mjs): the forced cells as the released guide's own fill.sh prints them over the translation 40ba5d1805d6acd1… (all of the seat's roots in one cut). By AI agents, Wed Nov 11 2026. No macro, syntax, notation, axiom, sorry.
-/
import Derived.Test.YtfghdealphdedaaChecked
import GoSem.Claim
import GoSem.ClaimJoined
import GoSem.ClaimMapViews
import Derived.JoinedTies
import Derived.KernelRfl
namespace Go.Proofs.Ytfghdealphdedaa
/- THE CELL 'sum', in the pinned program and in every row, IS THE sha256 OF THE DUMP (.gsa) THAT YtfghdealphdedaaProg.lean LOADS. Nothing in Lean hashes anything: it is a label: what it is worth is what the hold of that sum in a sandbox is worth. -/
noncomputable def Try.pinned : Pinned := { name := "ytfghdealphdedaa", sum := "40ba5d1805d6acd168ac7c48efcb72d83de9bdcc66eff2cb679c1f7411df9572", checked := Try.checked }
namespace Rows
def none {H : Type} : Left H := { results := [], args := [] }

/-- 'laws.FnExactLayoutFault': WHATEVER THE INPUT: true; the input reads as it did. -/
def fnExactLayoutFaultSpec : ChangeSpec := { name := "fnExactLayoutFault", fn := fun _ => fun
  | [d] => { results := [.lit (.bool true)], args := [d] }
  | _ => none }
def fnExactLayoutFaultRow : OpenClaim := { program := "ytfghdealphdedaa", sum := "40ba5d1805d6acd168ac7c48efcb72d83de9bdcc66eff2cb679c1f7411df9572", func := "loop.example/g00414/laws.FnExactLayoutFault", spec := "fnExactLayoutFault", apart := false }
def FnExactLayoutFaultSaid : Prop := fnExactLayoutFaultRow.holds Try.pinned (OpenSpec.ofChange fnExactLayoutFaultSpec)

/-- ITS FALSE NEIGHBOUR: 'it returns false'. Refute it at one input. -/
def fnExactLayoutFaultWrong : ChangeSpec := { name := "fnExactLayoutFault", fn := fun _ => fun
  | [d] => { results := [.lit (.bool false)], args := [d] }
  | _ => none }
def FnExactLayoutFaultWrongFalsely : Prop := fnExactLayoutFaultRow.holds Try.pinned (OpenSpec.ofChange fnExactLayoutFaultWrong)

/-- 'laws.FnExactSpansFault': WHATEVER THE INPUT: true; the input reads as it did. -/
def fnExactSpansFaultSpec : ChangeSpec := { name := "fnExactSpansFault", fn := fun _ => fun
  | [d] => { results := [.lit (.bool true)], args := [d] }
  | _ => none }
def fnExactSpansFaultRow : OpenClaim := { program := "ytfghdealphdedaa", sum := "40ba5d1805d6acd168ac7c48efcb72d83de9bdcc66eff2cb679c1f7411df9572", func := "loop.example/g00414/laws.FnExactSpansFault", spec := "fnExactSpansFault", apart := false }
def FnExactSpansFaultSaid : Prop := fnExactSpansFaultRow.holds Try.pinned (OpenSpec.ofChange fnExactSpansFaultSpec)

/-- ITS FALSE NEIGHBOUR: 'it returns false'. Refute it at one input. -/
def fnExactSpansFaultWrong : ChangeSpec := { name := "fnExactSpansFault", fn := fun _ => fun
  | [d] => { results := [.lit (.bool false)], args := [d] }
  | _ => none }
def FnExactSpansFaultWrongFalsely : Prop := fnExactSpansFaultRow.holds Try.pinned (OpenSpec.ofChange fnExactSpansFaultWrong)

/-- 'laws.FnExactCmdFault': WHATEVER THE INPUT: true; the input reads as it did. -/
def fnExactCmdFaultSpec : ChangeSpec := { name := "fnExactCmdFault", fn := fun _ => fun
  | [d] => { results := [.lit (.bool true)], args := [d] }
  | _ => none }
def fnExactCmdFaultRow : OpenClaim := { program := "ytfghdealphdedaa", sum := "40ba5d1805d6acd168ac7c48efcb72d83de9bdcc66eff2cb679c1f7411df9572", func := "loop.example/g00414/laws.FnExactCmdFault", spec := "fnExactCmdFault", apart := false }
def FnExactCmdFaultSaid : Prop := fnExactCmdFaultRow.holds Try.pinned (OpenSpec.ofChange fnExactCmdFaultSpec)

/-- ITS FALSE NEIGHBOUR: 'it returns false'. Refute it at one input. -/
def fnExactCmdFaultWrong : ChangeSpec := { name := "fnExactCmdFault", fn := fun _ => fun
  | [d] => { results := [.lit (.bool false)], args := [d] }
  | _ => none }
def FnExactCmdFaultWrongFalsely : Prop := fnExactCmdFaultRow.holds Try.pinned (OpenSpec.ofChange fnExactCmdFaultWrong)

/-- 'laws.FnExactNewState': WHATEVER THE INPUT: true; the input reads as it did. -/
def fnExactNewStateSpec : ChangeSpec := { name := "fnExactNewState", fn := fun _ => fun
  | [d1, d2] => { results := [.lit (.bool true)], args := [d1, d2] }
  | _ => none }
def fnExactNewStateRow : OpenClaim := { program := "ytfghdealphdedaa", sum := "40ba5d1805d6acd168ac7c48efcb72d83de9bdcc66eff2cb679c1f7411df9572", func := "loop.example/g00414/laws.FnExactNewState", spec := "fnExactNewState", apart := false }
def FnExactNewStateSaid : Prop := fnExactNewStateRow.holds Try.pinned (OpenSpec.ofChange fnExactNewStateSpec)

/-- ITS FALSE NEIGHBOUR: 'it returns false'. Refute it at one input. -/
def fnExactNewStateWrong : ChangeSpec := { name := "fnExactNewState", fn := fun _ => fun
  | [d1, d2] => { results := [.lit (.bool false)], args := [d1, d2] }
  | _ => none }
def FnExactNewStateWrongFalsely : Prop := fnExactNewStateRow.holds Try.pinned (OpenSpec.ofChange fnExactNewStateWrong)

/-- 'laws.FnExactGridFault': WHATEVER THE INPUT: true; the input reads as it did. -/
def fnExactGridFaultSpec : ChangeSpec := { name := "fnExactGridFault", fn := fun _ => fun
  | [d] => { results := [.lit (.bool true)], args := [d] }
  | _ => none }
def fnExactGridFaultRow : OpenClaim := { program := "ytfghdealphdedaa", sum := "40ba5d1805d6acd168ac7c48efcb72d83de9bdcc66eff2cb679c1f7411df9572", func := "loop.example/g00414/laws.FnExactGridFault", spec := "fnExactGridFault", unfollowed := true, recurses := true, apart := false }
def FnExactGridFaultSaid : Prop := fnExactGridFaultRow.holds Try.pinned (OpenSpec.ofChange fnExactGridFaultSpec)

/-- ITS FALSE NEIGHBOUR: 'it returns false'. Refute it at one input. -/
def fnExactGridFaultWrong : ChangeSpec := { name := "fnExactGridFault", fn := fun _ => fun
  | [d] => { results := [.lit (.bool false)], args := [d] }
  | _ => none }
def FnExactGridFaultWrongFalsely : Prop := fnExactGridFaultRow.holds Try.pinned (OpenSpec.ofChange fnExactGridFaultWrong)

/- THE SECOND FORM. 'bulk': how many values and letters a reading holds, each counted each time it is reached (what is shared counts as often as it is met; a slice's spare places count too). A statement '..UptoSaid' is the law's where the arguments, and the package variables that the reading takes, are together of bulk at most 1048576: NARROWER than '..Said'. Prove '..Said' where nothing that the law and all that it calls make is longer than what came in: it says more and counts as full. Else prove '..UptoSaid'. A law counts once. -/
mutual
def uptoBulk {H : Type} : DataW H → Nat
  | .lit (.string bytes) => bytes.length + 1
  | .lit _ => 1
  | .nil => 1
  | .ptr d => uptoBulk d + 1
  | .slice elems spare => uptoBulkAll elems + uptoBulkAll spare + 1
  | .agg parts => uptoBulkAll parts + 1
  | .iface _ d => uptoBulk d + 1
  | .map entries => uptoBulkEntries entries + 1
  | .held _ => 1
def uptoBulkAll {H : Type} : List (DataW H) → Nat
  | [] => 0
  | d :: r => uptoBulk d + uptoBulkAll r
def uptoBulkEntries {H : Type} : List (Lit × DataW H) → Nat
  | [] => 0
  | x :: r => uptoBulkEntry x + uptoBulkEntries r
def uptoBulkEntry {H : Type} : Lit × DataW H → Nat
  | (.string bytes, d) => bytes.length + uptoBulk d + 1
  | (_, d) => uptoBulk d + 1
 end
def uptoSmall : (H : Type) → List (DataW H) → Bool := fun _ ds => decide (uptoBulkAll ds ≤ 1048576)
def OpenSpec.upto (s : _root_.Go.ChangeSpec) : _root_.Go.OpenSpec := { _root_.Go.OpenSpec.ofChange s with cond := some uptoSmall }

/-- 'laws.FnExactLayoutFault', WHERE WHAT IT READS IS OF BULK AT MOST 1048576: true; the input reads as it did. -/
def fnExactLayoutFaultUptoRow : OpenClaim := { program := "ytfghdealphdedaa", sum := "40ba5d1805d6acd168ac7c48efcb72d83de9bdcc66eff2cb679c1f7411df9572", func := "loop.example/g00414/laws.FnExactLayoutFault", spec := "fnExactLayoutFault", apart := false, narrowed := true }
def FnExactLayoutFaultUptoSaid : Prop := fnExactLayoutFaultUptoRow.holds Try.pinned (OpenSpec.upto fnExactLayoutFaultSpec)

/-- 'laws.FnExactSpansFault', WHERE WHAT IT READS IS OF BULK AT MOST 1048576: true; the input reads as it did. -/
def fnExactSpansFaultUptoRow : OpenClaim := { program := "ytfghdealphdedaa", sum := "40ba5d1805d6acd168ac7c48efcb72d83de9bdcc66eff2cb679c1f7411df9572", func := "loop.example/g00414/laws.FnExactSpansFault", spec := "fnExactSpansFault", apart := false, narrowed := true }
def FnExactSpansFaultUptoSaid : Prop := fnExactSpansFaultUptoRow.holds Try.pinned (OpenSpec.upto fnExactSpansFaultSpec)

/-- 'laws.FnExactCmdFault', WHERE WHAT IT READS IS OF BULK AT MOST 1048576: true; the input reads as it did. -/
def fnExactCmdFaultUptoRow : OpenClaim := { program := "ytfghdealphdedaa", sum := "40ba5d1805d6acd168ac7c48efcb72d83de9bdcc66eff2cb679c1f7411df9572", func := "loop.example/g00414/laws.FnExactCmdFault", spec := "fnExactCmdFault", apart := false, narrowed := true }
def FnExactCmdFaultUptoSaid : Prop := fnExactCmdFaultUptoRow.holds Try.pinned (OpenSpec.upto fnExactCmdFaultSpec)

/-- 'laws.FnExactNewState', WHERE WHAT IT READS IS OF BULK AT MOST 1048576: true; the input reads as it did. -/
def fnExactNewStateUptoRow : OpenClaim := { program := "ytfghdealphdedaa", sum := "40ba5d1805d6acd168ac7c48efcb72d83de9bdcc66eff2cb679c1f7411df9572", func := "loop.example/g00414/laws.FnExactNewState", spec := "fnExactNewState", apart := false, narrowed := true }
def FnExactNewStateUptoSaid : Prop := fnExactNewStateUptoRow.holds Try.pinned (OpenSpec.upto fnExactNewStateSpec)

/-- 'laws.FnExactGridFault', WHERE WHAT IT READS IS OF BULK AT MOST 1048576: true; the input reads as it did. -/
def fnExactGridFaultUptoRow : OpenClaim := { program := "ytfghdealphdedaa", sum := "40ba5d1805d6acd168ac7c48efcb72d83de9bdcc66eff2cb679c1f7411df9572", func := "loop.example/g00414/laws.FnExactGridFault", spec := "fnExactGridFault", unfollowed := true, recurses := true, apart := false, narrowed := true }
def FnExactGridFaultUptoSaid : Prop := fnExactGridFaultUptoRow.holds Try.pinned (OpenSpec.upto fnExactGridFaultSpec)

end Rows
end Go.Proofs.Ytfghdealphdedaa
