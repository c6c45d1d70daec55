/-
  No cell of these rows narrows 'for every input' (looked for: loops, veiled, ifaces, maps, wideKeys, modest, calm, conditions, laid).
  DERIVED. THE GIVEN ROWS OF THIS SEAT. 6 by the template 'for every input the law returns true; each argument reads behind the call as it read before'; 0 by the template 'total and deterministic' (their statements: YtbhdjaccdaccbaaGreatTotals.lean).
  GIVEN WITH THE SEED: the statements are not yours to turn. If you find one false, say at which input.
  Laid BY PROGRAM, IN A SANDBOX (cutbox-rows.mjs): the forced cells as the released guide's own fill.sh prints them over the translation d085df2e64b8d14c… (all of the seat's roots in one cut). By AI agents, Wed Nov 11 2026. No macro, syntax, notation, axiom, sorry.
-/
import Derived.Test.YtbhdjaccdaccbaaGreatChecked
import GoSem.Claim
import GoSem.ClaimJoined
import GoSem.ClaimMapViews
import Derived.JoinedTies
import Derived.KernelRfl
namespace Go.Proofs.YtbhdjaccdaccbaaGreat
/- THE CELL 'sum', in the pinned program and in every row, IS THE sha256 OF THE DUMP (.gsa) THAT YtbhdjaccdaccbaaGreatProg.lean LOADS. Nothing in Lean hashes anything: it is a label: what it is worth is what the hold of that sum in a sandbox is worth. -/
noncomputable def Tryz.pinned : Pinned := { name := "ytbhdjaccdaccbaagreat", sum := "d085df2e64b8d14c2a7c9f3206d22a96b942b41533be7a1124573a407d02e549", checked := Tryz.checked }
namespace Rows
def none {H : Type} : Left H := { results := [], args := [] }

/-- 'laws.FnExactDiffOf': WHATEVER THE INPUT: true; the input reads as it did. -/
def fnExactDiffOfSpec : ChangeSpec := { name := "fnExactDiffOf", fn := fun _ => fun
  | [d1, d2, d3] => { results := [.lit (.bool true)], args := [d1, d2, d3] }
  | _ => none }
def fnExactDiffOfRow : OpenClaim := { program := "ytbhdjaccdaccbaagreat", sum := "d085df2e64b8d14c2a7c9f3206d22a96b942b41533be7a1124573a407d02e549", func := "loop.example/g00570/laws.FnExactDiffOf", spec := "fnExactDiffOf", unfollowed := true, recurses := true, apart := false }
def FnExactDiffOfSaid : Prop := fnExactDiffOfRow.holds Tryz.pinned (OpenSpec.ofChange fnExactDiffOfSpec)

/-- ITS FALSE NEIGHBOUR: 'it returns false'. Refute it at one input. -/
def fnExactDiffOfWrong : ChangeSpec := { name := "fnExactDiffOf", fn := fun _ => fun
  | [d1, d2, d3] => { results := [.lit (.bool false)], args := [d1, d2, d3] }
  | _ => none }
def FnExactDiffOfWrongFalsely : Prop := fnExactDiffOfRow.holds Tryz.pinned (OpenSpec.ofChange fnExactDiffOfWrong)

/-- 'laws.FnDiffFew': WHATEVER THE INPUT: true; the input reads as it did. -/
def fnDiffFewSpec : ChangeSpec := { name := "fnDiffFew", fn := fun _ => fun
  | [d] => { results := [.lit (.bool true)], args := [d] }
  | _ => none }
def fnDiffFewRow : OpenClaim := { program := "ytbhdjaccdaccbaagreat", sum := "d085df2e64b8d14c2a7c9f3206d22a96b942b41533be7a1124573a407d02e549", func := "loop.example/g00570/laws.FnDiffFew", spec := "fnDiffFew", unfollowed := true, recurses := true, apart := false }
def FnDiffFewSaid : Prop := fnDiffFewRow.holds Tryz.pinned (OpenSpec.ofChange fnDiffFewSpec)

/-- ITS FALSE NEIGHBOUR: 'it returns false'. Refute it at one input. -/
def fnDiffFewWrong : ChangeSpec := { name := "fnDiffFew", fn := fun _ => fun
  | [d] => { results := [.lit (.bool false)], args := [d] }
  | _ => none }
def FnDiffFewWrongFalsely : Prop := fnDiffFewRow.holds Tryz.pinned (OpenSpec.ofChange fnDiffFewWrong)

/-- 'laws.FnExactApplied': WHATEVER THE INPUT: true; the input reads as it did. -/
def fnExactAppliedSpec : ChangeSpec := { name := "fnExactApplied", fn := fun _ => fun
  | [d1, d2, d3] => { results := [.lit (.bool true)], args := [d1, d2, d3] }
  | _ => none }
def fnExactAppliedRow : OpenClaim := { program := "ytbhdjaccdaccbaagreat", sum := "d085df2e64b8d14c2a7c9f3206d22a96b942b41533be7a1124573a407d02e549", func := "loop.example/g00570/laws.FnExactApplied", spec := "fnExactApplied", unfollowed := true, recurses := true, apart := false }
def FnExactAppliedSaid : Prop := fnExactAppliedRow.holds Tryz.pinned (OpenSpec.ofChange fnExactAppliedSpec)

/-- ITS FALSE NEIGHBOUR: 'it returns false'. Refute it at one input. -/
def fnExactAppliedWrong : ChangeSpec := { name := "fnExactApplied", fn := fun _ => fun
  | [d1, d2, d3] => { results := [.lit (.bool false)], args := [d1, d2, d3] }
  | _ => none }
def FnExactAppliedWrongFalsely : Prop := fnExactAppliedRow.holds Tryz.pinned (OpenSpec.ofChange fnExactAppliedWrong)

/-- 'laws.FnApplied': WHATEVER THE INPUT: true; the input reads as it did. -/
def fnAppliedSpec : ChangeSpec := { name := "fnApplied", fn := fun _ => fun
  | [d] => { results := [.lit (.bool true)], args := [d] }
  | _ => none }
def fnAppliedRow : OpenClaim := { program := "ytbhdjaccdaccbaagreat", sum := "d085df2e64b8d14c2a7c9f3206d22a96b942b41533be7a1124573a407d02e549", func := "loop.example/g00570/laws.FnApplied", spec := "fnApplied", unfollowed := true, recurses := true, apart := false }
def FnAppliedSaid : Prop := fnAppliedRow.holds Tryz.pinned (OpenSpec.ofChange fnAppliedSpec)

/-- ITS FALSE NEIGHBOUR: 'it returns false'. Refute it at one input. -/
def fnAppliedWrong : ChangeSpec := { name := "fnApplied", fn := fun _ => fun
  | [d] => { results := [.lit (.bool false)], args := [d] }
  | _ => none }
def FnAppliedWrongFalsely : Prop := fnAppliedRow.holds Tryz.pinned (OpenSpec.ofChange fnAppliedWrong)

/-- 'laws.FnDiffs': WHATEVER THE INPUT: true; the input reads as it did. -/
def fnDiffsSpec : ChangeSpec := { name := "fnDiffs", fn := fun _ => fun
  | [d] => { results := [.lit (.bool true)], args := [d] }
  | _ => none }
def fnDiffsRow : OpenClaim := { program := "ytbhdjaccdaccbaagreat", sum := "d085df2e64b8d14c2a7c9f3206d22a96b942b41533be7a1124573a407d02e549", func := "loop.example/g00570/laws.FnDiffs", spec := "fnDiffs", unfollowed := true, recurses := true, apart := false }
def FnDiffsSaid : Prop := fnDiffsRow.holds Tryz.pinned (OpenSpec.ofChange fnDiffsSpec)

/-- ITS FALSE NEIGHBOUR: 'it returns false'. Refute it at one input. -/
def fnDiffsWrong : ChangeSpec := { name := "fnDiffs", fn := fun _ => fun
  | [d] => { results := [.lit (.bool false)], args := [d] }
  | _ => none }
def FnDiffsWrongFalsely : Prop := fnDiffsRow.holds Tryz.pinned (OpenSpec.ofChange fnDiffsWrong)

/-- 'laws.FnDiffsJoined': WHATEVER THE INPUT: true; the input reads as it did. -/
def fnDiffsJoinedSpec : ChangeSpec := { name := "fnDiffsJoined", fn := fun _ => fun
  | [d] => { results := [.lit (.bool true)], args := [d] }
  | _ => none }
def fnDiffsJoinedRow : OpenClaim := { program := "ytbhdjaccdaccbaagreat", sum := "d085df2e64b8d14c2a7c9f3206d22a96b942b41533be7a1124573a407d02e549", func := "loop.example/g00570/laws.FnDiffsJoined", spec := "fnDiffsJoined", unfollowed := true, recurses := true, apart := false }
def FnDiffsJoinedSaid : Prop := fnDiffsJoinedRow.holds Tryz.pinned (OpenSpec.ofChange fnDiffsJoinedSpec)

/-- ITS FALSE NEIGHBOUR: 'it returns false'. Refute it at one input. -/
def fnDiffsJoinedWrong : ChangeSpec := { name := "fnDiffsJoined", fn := fun _ => fun
  | [d] => { results := [.lit (.bool false)], args := [d] }
  | _ => none }
def FnDiffsJoinedWrongFalsely : Prop := fnDiffsJoinedRow.holds Tryz.pinned (OpenSpec.ofChange fnDiffsJoinedWrong)

/- THE SECOND FORM. 'bulk': how many values and letters a reading holds, each counted each time it is reached (what is shared counts as often as it is met; a slice's spare places count too). A statement '..UptoSaid' is the law's where the arguments, and the package variables that the reading takes, are together of bulk at most 1048576: NARROWER than '..Said'. Prove '..Said' where nothing that the law and all that it calls make is longer than what came in: it says more and counts as full. Else prove '..UptoSaid'. A law counts once. -/
mutual
def uptoBulk {H : Type} : DataW H → Nat
  | .lit (.string bytes) => bytes.length + 1
  | .lit _ => 1
  | .nil => 1
  | .ptr d => uptoBulk d + 1
  | .slice elems spare => uptoBulkAll elems + uptoBulkAll spare + 1
  | .agg parts => uptoBulkAll parts + 1
  | .iface _ d => uptoBulk d + 1
  | .map entries => uptoBulkEntries entries + 1
  | .held _ => 1
def uptoBulkAll {H : Type} : List (DataW H) → Nat
  | [] => 0
  | d :: r => uptoBulk d + uptoBulkAll r
def uptoBulkEntries {H : Type} : List (Lit × DataW H) → Nat
  | [] => 0
  | x :: r => uptoBulkEntry x + uptoBulkEntries r
def uptoBulkEntry {H : Type} : Lit × DataW H → Nat
  | (.string bytes, d) => bytes.length + uptoBulk d + 1
  | (_, d) => uptoBulk d + 1
 end
def uptoSmall : (H : Type) → List (DataW H) → Bool := fun _ ds => decide (uptoBulkAll ds ≤ 1048576)
def OpenSpec.upto (s : _root_.Go.ChangeSpec) : _root_.Go.OpenSpec := { _root_.Go.OpenSpec.ofChange s with cond := some uptoSmall }

/-- 'laws.FnExactDiffOf', WHERE WHAT IT READS IS OF BULK AT MOST 1048576: true; the input reads as it did. -/
def fnExactDiffOfUptoRow : OpenClaim := { program := "ytbhdjaccdaccbaagreat", sum := "d085df2e64b8d14c2a7c9f3206d22a96b942b41533be7a1124573a407d02e549", func := "loop.example/g00570/laws.FnExactDiffOf", spec := "fnExactDiffOf", unfollowed := true, recurses := true, apart := false, narrowed := true }
def FnExactDiffOfUptoSaid : Prop := fnExactDiffOfUptoRow.holds Tryz.pinned (OpenSpec.upto fnExactDiffOfSpec)

/-- 'laws.FnDiffFew', WHERE WHAT IT READS IS OF BULK AT MOST 1048576: true; the input reads as it did. -/
def fnDiffFewUptoRow : OpenClaim := { program := "ytbhdjaccdaccbaagreat", sum := "d085df2e64b8d14c2a7c9f3206d22a96b942b41533be7a1124573a407d02e549", func := "loop.example/g00570/laws.FnDiffFew", spec := "fnDiffFew", unfollowed := true, recurses := true, apart := false, narrowed := true }
def FnDiffFewUptoSaid : Prop := fnDiffFewUptoRow.holds Tryz.pinned (OpenSpec.upto fnDiffFewSpec)

/-- 'laws.FnExactApplied', WHERE WHAT IT READS IS OF BULK AT MOST 1048576: true; the input reads as it did. -/
def fnExactAppliedUptoRow : OpenClaim := { program := "ytbhdjaccdaccbaagreat", sum := "d085df2e64b8d14c2a7c9f3206d22a96b942b41533be7a1124573a407d02e549", func := "loop.example/g00570/laws.FnExactApplied", spec := "fnExactApplied", unfollowed := true, recurses := true, apart := false, narrowed := true }
def FnExactAppliedUptoSaid : Prop := fnExactAppliedUptoRow.holds Tryz.pinned (OpenSpec.upto fnExactAppliedSpec)

/-- 'laws.FnApplied', WHERE WHAT IT READS IS OF BULK AT MOST 1048576: true; the input reads as it did. -/
def fnAppliedUptoRow : OpenClaim := { program := "ytbhdjaccdaccbaagreat", sum := "d085df2e64b8d14c2a7c9f3206d22a96b942b41533be7a1124573a407d02e549", func := "loop.example/g00570/laws.FnApplied", spec := "fnApplied", unfollowed := true, recurses := true, apart := false, narrowed := true }
def FnAppliedUptoSaid : Prop := fnAppliedUptoRow.holds Tryz.pinned (OpenSpec.upto fnAppliedSpec)

/-- 'laws.FnDiffs', WHERE WHAT IT READS IS OF BULK AT MOST 1048576: true; the input reads as it did. -/
def fnDiffsUptoRow : OpenClaim := { program := "ytbhdjaccdaccbaagreat", sum := "d085df2e64b8d14c2a7c9f3206d22a96b942b41533be7a1124573a407d02e549", func := "loop.example/g00570/laws.FnDiffs", spec := "fnDiffs", unfollowed := true, recurses := true, apart := false, narrowed := true }
def FnDiffsUptoSaid : Prop := fnDiffsUptoRow.holds Tryz.pinned (OpenSpec.upto fnDiffsSpec)

/-- 'laws.FnDiffsJoined', WHERE WHAT IT READS IS OF BULK AT MOST 1048576: true; the input reads as it did. -/
def fnDiffsJoinedUptoRow : OpenClaim := { program := "ytbhdjaccdaccbaagreat", sum := "d085df2e64b8d14c2a7c9f3206d22a96b942b41533be7a1124573a407d02e549", func := "loop.example/g00570/laws.FnDiffsJoined", spec := "fnDiffsJoined", unfollowed := true, recurses := true, apart := false, narrowed := true }
def FnDiffsJoinedUptoSaid : Prop := fnDiffsJoinedUptoRow.holds Tryz.pinned (OpenSpec.upto fnDiffsJoinedSpec)

end Rows
end Go.Proofs.YtbhdjaccdaccbaaGreat
