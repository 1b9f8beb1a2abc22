/-
  No cell of these rows narrows 'for every input' (looked for: loops, veiled, ifaces, maps, wideKeys, modest, calm, conditions, laid).
  DERIVED. THE GIVEN ROWS OF THIS SEAT. 7 by the template 'for every input the law returns true; each argument reads behind the call as it read before'; 0 by the template 'total and deterministic' (their statements: YtpeahilkmlffkaaTotals.lean).
  GIVEN WITH THE SEED: the statements are not yours to turn. If you find one false, say at which input.
  Laid BY PROGRAM, IN A SANDBOX (cutbox-rows.mjs): the forced cells as the released guide's own fill.sh prints them over the translation a6b109634fa430d1… (all of the seat's roots in one cut). By AI agents, Wed Nov 11 2026. No macro, syntax, notation, axiom, sorry.
-/
import Derived.Test.YtpeahilkmlffkaaChecked
import GoSem.Claim
import GoSem.ClaimJoined
import GoSem.ClaimMapViews
import Derived.JoinedTies
import Derived.KernelRfl
namespace Go.Proofs.Ytpeahilkmlffkaa
/- THE CELL 'sum', in the pinned program and in every row, IS THE sha256 OF THE DUMP (.gsa) THAT YtpeahilkmlffkaaProg.lean LOADS. Nothing in Lean hashes anything: it is a label: what it is worth is what the hold of that sum in a sandbox is worth. -/
noncomputable def Try.pinned : Pinned := { name := "ytpeahilkmlffkaa", sum := "a6b109634fa430d1c3ed6b5b3ae2d52fbd747bd137fdfa8ac497881aecaac6a7", checked := Try.checked }
namespace Rows
def none {H : Type} : Left H := { results := [], args := [] }

/-- 'crossbarlaw12.ArqFramesSurviveHdlc': WHATEVER THE INPUT: true; the input reads as it did. -/
def arqFramesSurviveHdlcSpec : ChangeSpec := { name := "arqFramesSurviveHdlc", fn := fun _ => fun
  | [d] => { results := [.lit (.bool true)], args := [d] }
  | _ => none }
def arqFramesSurviveHdlcRow : OpenClaim := { program := "ytpeahilkmlffkaa", sum := "a6b109634fa430d1c3ed6b5b3ae2d52fbd747bd137fdfa8ac497881aecaac6a7", func := "crossbar/crossbarlaw12.ArqFramesSurviveHdlc", spec := "arqFramesSurviveHdlc", inPlace := ["internal/bytealg.IndexByte"], unfollowed := true, recurses := true, apart := false }
def ArqFramesSurviveHdlcSaid : Prop := arqFramesSurviveHdlcRow.holds Try.pinned (OpenSpec.ofChange arqFramesSurviveHdlcSpec)

/-- ITS FALSE NEIGHBOUR: 'it returns false'. Refute it at one input. -/
def arqFramesSurviveHdlcWrong : ChangeSpec := { name := "arqFramesSurviveHdlc", fn := fun _ => fun
  | [d] => { results := [.lit (.bool false)], args := [d] }
  | _ => none }
def ArqFramesSurviveHdlcWrongFalsely : Prop := arqFramesSurviveHdlcRow.holds Try.pinned (OpenSpec.ofChange arqFramesSurviveHdlcWrong)

/-- 'crossbarlaw12.ArqStepsMatchSpecification': WHATEVER THE INPUT: true; the input reads as it did. -/
def arqStepsMatchSpecificationSpec : ChangeSpec := { name := "arqStepsMatchSpecification", fn := fun _ => fun
  | [d1, d2, d3, d4] => { results := [.lit (.bool true)], args := [d1, d2, d3, d4] }
  | _ => none }
def arqStepsMatchSpecificationRow : OpenClaim := { program := "ytpeahilkmlffkaa", sum := "a6b109634fa430d1c3ed6b5b3ae2d52fbd747bd137fdfa8ac497881aecaac6a7", func := "crossbar/crossbarlaw12.ArqStepsMatchSpecification", spec := "arqStepsMatchSpecification", unfollowed := true, recurses := true, apart := false }
def ArqStepsMatchSpecificationSaid : Prop := arqStepsMatchSpecificationRow.holds Try.pinned (OpenSpec.ofChange arqStepsMatchSpecificationSpec)

/-- ITS FALSE NEIGHBOUR: 'it returns false'. Refute it at one input. -/
def arqStepsMatchSpecificationWrong : ChangeSpec := { name := "arqStepsMatchSpecification", fn := fun _ => fun
  | [d1, d2, d3, d4] => { results := [.lit (.bool false)], args := [d1, d2, d3, d4] }
  | _ => none }
def ArqStepsMatchSpecificationWrongFalsely : Prop := arqStepsMatchSpecificationRow.holds Try.pinned (OpenSpec.ofChange arqStepsMatchSpecificationWrong)

/-- 'crossbarlaw12.ArqDeliversInOrder': WHATEVER THE INPUT: true; the input reads as it did. -/
def arqDeliversInOrderSpec : ChangeSpec := { name := "arqDeliversInOrder", fn := fun _ => fun
  | [d] => { results := [.lit (.bool true)], args := [d] }
  | _ => none }
def arqDeliversInOrderRow : OpenClaim := { program := "ytpeahilkmlffkaa", sum := "a6b109634fa430d1c3ed6b5b3ae2d52fbd747bd137fdfa8ac497881aecaac6a7", func := "crossbar/crossbarlaw12.ArqDeliversInOrder", spec := "arqDeliversInOrder", unfollowed := true, recurses := true, apart := false }
def ArqDeliversInOrderSaid : Prop := arqDeliversInOrderRow.holds Try.pinned (OpenSpec.ofChange arqDeliversInOrderSpec)

/-- ITS FALSE NEIGHBOUR: 'it returns false'. Refute it at one input. -/
def arqDeliversInOrderWrong : ChangeSpec := { name := "arqDeliversInOrder", fn := fun _ => fun
  | [d] => { results := [.lit (.bool false)], args := [d] }
  | _ => none }
def ArqDeliversInOrderWrongFalsely : Prop := arqDeliversInOrderRow.holds Try.pinned (OpenSpec.ofChange arqDeliversInOrderWrong)

/-- 'crossbarlaw12.ArqDeliversAll': WHATEVER THE INPUT: true; the input reads as it did. -/
def arqDeliversAllSpec : ChangeSpec := { name := "arqDeliversAll", fn := fun _ => fun
  | [d] => { results := [.lit (.bool true)], args := [d] }
  | _ => none }
def arqDeliversAllRow : OpenClaim := { program := "ytpeahilkmlffkaa", sum := "a6b109634fa430d1c3ed6b5b3ae2d52fbd747bd137fdfa8ac497881aecaac6a7", func := "crossbar/crossbarlaw12.ArqDeliversAll", spec := "arqDeliversAll", unfollowed := true, recurses := true, apart := false }
def ArqDeliversAllSaid : Prop := arqDeliversAllRow.holds Try.pinned (OpenSpec.ofChange arqDeliversAllSpec)

/-- ITS FALSE NEIGHBOUR: 'it returns false'. Refute it at one input. -/
def arqDeliversAllWrong : ChangeSpec := { name := "arqDeliversAll", fn := fun _ => fun
  | [d] => { results := [.lit (.bool false)], args := [d] }
  | _ => none }
def ArqDeliversAllWrongFalsely : Prop := arqDeliversAllRow.holds Try.pinned (OpenSpec.ofChange arqDeliversAllWrong)

/-- 'crossbarlaw12.ArqPollRespectsWindow': WHATEVER THE INPUT: true; the input reads as it did. -/
def arqPollRespectsWindowSpec : ChangeSpec := { name := "arqPollRespectsWindow", fn := fun _ => fun
  | [d1, d2] => { results := [.lit (.bool true)], args := [d1, d2] }
  | _ => none }
def arqPollRespectsWindowRow : OpenClaim := { program := "ytpeahilkmlffkaa", sum := "a6b109634fa430d1c3ed6b5b3ae2d52fbd747bd137fdfa8ac497881aecaac6a7", func := "crossbar/crossbarlaw12.ArqPollRespectsWindow", spec := "arqPollRespectsWindow", unfollowed := true, recurses := true, apart := false }
def ArqPollRespectsWindowSaid : Prop := arqPollRespectsWindowRow.holds Try.pinned (OpenSpec.ofChange arqPollRespectsWindowSpec)

/-- ITS FALSE NEIGHBOUR: 'it returns false'. Refute it at one input. -/
def arqPollRespectsWindowWrong : ChangeSpec := { name := "arqPollRespectsWindow", fn := fun _ => fun
  | [d1, d2] => { results := [.lit (.bool false)], args := [d1, d2] }
  | _ => none }
def ArqPollRespectsWindowWrongFalsely : Prop := arqPollRespectsWindowRow.holds Try.pinned (OpenSpec.ofChange arqPollRespectsWindowWrong)

/-- 'crossbarlaw12.ArqDuplicatesAreDiscarded': WHATEVER THE INPUT: true; the input reads as it did. -/
def arqDuplicatesAreDiscardedSpec : ChangeSpec := { name := "arqDuplicatesAreDiscarded", fn := fun _ => fun
  | [d1, d2, d3, d4] => { results := [.lit (.bool true)], args := [d1, d2, d3, d4] }
  | _ => none }
def arqDuplicatesAreDiscardedRow : OpenClaim := { program := "ytpeahilkmlffkaa", sum := "a6b109634fa430d1c3ed6b5b3ae2d52fbd747bd137fdfa8ac497881aecaac6a7", func := "crossbar/crossbarlaw12.ArqDuplicatesAreDiscarded", spec := "arqDuplicatesAreDiscarded", unfollowed := true, recurses := true, apart := false }
def ArqDuplicatesAreDiscardedSaid : Prop := arqDuplicatesAreDiscardedRow.holds Try.pinned (OpenSpec.ofChange arqDuplicatesAreDiscardedSpec)

/-- ITS FALSE NEIGHBOUR: 'it returns false'. Refute it at one input. -/
def arqDuplicatesAreDiscardedWrong : ChangeSpec := { name := "arqDuplicatesAreDiscarded", fn := fun _ => fun
  | [d1, d2, d3, d4] => { results := [.lit (.bool false)], args := [d1, d2, d3, d4] }
  | _ => none }
def ArqDuplicatesAreDiscardedWrongFalsely : Prop := arqDuplicatesAreDiscardedRow.holds Try.pinned (OpenSpec.ofChange arqDuplicatesAreDiscardedWrong)

/-- 'crossbarlaw12.ArqEncodingIsUnique': WHATEVER THE INPUT: true; the input reads as it did. -/
def arqEncodingIsUniqueSpec : ChangeSpec := { name := "arqEncodingIsUnique", fn := fun _ => fun
  | [d] => { results := [.lit (.bool true)], args := [d] }
  | _ => none }
def arqEncodingIsUniqueRow : OpenClaim := { program := "ytpeahilkmlffkaa", sum := "a6b109634fa430d1c3ed6b5b3ae2d52fbd747bd137fdfa8ac497881aecaac6a7", func := "crossbar/crossbarlaw12.ArqEncodingIsUnique", spec := "arqEncodingIsUnique", unfollowed := true, recurses := true, apart := false }
def ArqEncodingIsUniqueSaid : Prop := arqEncodingIsUniqueRow.holds Try.pinned (OpenSpec.ofChange arqEncodingIsUniqueSpec)

/-- ITS FALSE NEIGHBOUR: 'it returns false'. Refute it at one input. -/
def arqEncodingIsUniqueWrong : ChangeSpec := { name := "arqEncodingIsUnique", fn := fun _ => fun
  | [d] => { results := [.lit (.bool false)], args := [d] }
  | _ => none }
def ArqEncodingIsUniqueWrongFalsely : Prop := arqEncodingIsUniqueRow.holds Try.pinned (OpenSpec.ofChange arqEncodingIsUniqueWrong)

/- THE SECOND FORM. 'bulk': how many values and letters a reading holds, each counted each time it is reached (what is shared counts as often as it is met; a slice's spare places count too). A statement '..UptoSaid' is the law's where the arguments, and the package variables that the reading takes, are together of bulk at most 1048576: NARROWER than '..Said'. Prove '..Said' where nothing that the law and all that it calls make is longer than what came in: it says more and counts as full. Else prove '..UptoSaid'. A law counts once. -/
mutual
def uptoBulk {H : Type} : DataW H → Nat
  | .lit (.string bytes) => bytes.length + 1
  | .lit _ => 1
  | .nil => 1
  | .ptr d => uptoBulk d + 1
  | .slice elems spare => uptoBulkAll elems + uptoBulkAll spare + 1
  | .agg parts => uptoBulkAll parts + 1
  | .iface _ d => uptoBulk d + 1
  | .map entries => uptoBulkEntries entries + 1
  | .held _ => 1
def uptoBulkAll {H : Type} : List (DataW H) → Nat
  | [] => 0
  | d :: r => uptoBulk d + uptoBulkAll r
def uptoBulkEntries {H : Type} : List (Lit × DataW H) → Nat
  | [] => 0
  | x :: r => uptoBulkEntry x + uptoBulkEntries r
def uptoBulkEntry {H : Type} : Lit × DataW H → Nat
  | (.string bytes, d) => bytes.length + uptoBulk d + 1
  | (_, d) => uptoBulk d + 1
 end
def uptoSmall : (H : Type) → List (DataW H) → Bool := fun _ ds => decide (uptoBulkAll ds ≤ 1048576)
def OpenSpec.upto (s : _root_.Go.ChangeSpec) : _root_.Go.OpenSpec := { _root_.Go.OpenSpec.ofChange s with cond := some uptoSmall }

/-- 'crossbarlaw12.ArqFramesSurviveHdlc', WHERE WHAT IT READS IS OF BULK AT MOST 1048576: true; the input reads as it did. -/
def arqFramesSurviveHdlcUptoRow : OpenClaim := { program := "ytpeahilkmlffkaa", sum := "a6b109634fa430d1c3ed6b5b3ae2d52fbd747bd137fdfa8ac497881aecaac6a7", func := "crossbar/crossbarlaw12.ArqFramesSurviveHdlc", spec := "arqFramesSurviveHdlc", inPlace := ["internal/bytealg.IndexByte"], unfollowed := true, recurses := true, apart := false, narrowed := true }
def ArqFramesSurviveHdlcUptoSaid : Prop := arqFramesSurviveHdlcUptoRow.holds Try.pinned (OpenSpec.upto arqFramesSurviveHdlcSpec)

/-- 'crossbarlaw12.ArqStepsMatchSpecification', WHERE WHAT IT READS IS OF BULK AT MOST 1048576: true; the input reads as it did. -/
def arqStepsMatchSpecificationUptoRow : OpenClaim := { program := "ytpeahilkmlffkaa", sum := "a6b109634fa430d1c3ed6b5b3ae2d52fbd747bd137fdfa8ac497881aecaac6a7", func := "crossbar/crossbarlaw12.ArqStepsMatchSpecification", spec := "arqStepsMatchSpecification", unfollowed := true, recurses := true, apart := false, narrowed := true }
def ArqStepsMatchSpecificationUptoSaid : Prop := arqStepsMatchSpecificationUptoRow.holds Try.pinned (OpenSpec.upto arqStepsMatchSpecificationSpec)

/-- 'crossbarlaw12.ArqDeliversInOrder', WHERE WHAT IT READS IS OF BULK AT MOST 1048576: true; the input reads as it did. -/
def arqDeliversInOrderUptoRow : OpenClaim := { program := "ytpeahilkmlffkaa", sum := "a6b109634fa430d1c3ed6b5b3ae2d52fbd747bd137fdfa8ac497881aecaac6a7", func := "crossbar/crossbarlaw12.ArqDeliversInOrder", spec := "arqDeliversInOrder", unfollowed := true, recurses := true, apart := false, narrowed := true }
def ArqDeliversInOrderUptoSaid : Prop := arqDeliversInOrderUptoRow.holds Try.pinned (OpenSpec.upto arqDeliversInOrderSpec)

/-- 'crossbarlaw12.ArqDeliversAll', WHERE WHAT IT READS IS OF BULK AT MOST 1048576: true; the input reads as it did. -/
def arqDeliversAllUptoRow : OpenClaim := { program := "ytpeahilkmlffkaa", sum := "a6b109634fa430d1c3ed6b5b3ae2d52fbd747bd137fdfa8ac497881aecaac6a7", func := "crossbar/crossbarlaw12.ArqDeliversAll", spec := "arqDeliversAll", unfollowed := true, recurses := true, apart := false, narrowed := true }
def ArqDeliversAllUptoSaid : Prop := arqDeliversAllUptoRow.holds Try.pinned (OpenSpec.upto arqDeliversAllSpec)

/-- 'crossbarlaw12.ArqPollRespectsWindow', WHERE WHAT IT READS IS OF BULK AT MOST 1048576: true; the input reads as it did. -/
def arqPollRespectsWindowUptoRow : OpenClaim := { program := "ytpeahilkmlffkaa", sum := "a6b109634fa430d1c3ed6b5b3ae2d52fbd747bd137fdfa8ac497881aecaac6a7", func := "crossbar/crossbarlaw12.ArqPollRespectsWindow", spec := "arqPollRespectsWindow", unfollowed := true, recurses := true, apart := false, narrowed := true }
def ArqPollRespectsWindowUptoSaid : Prop := arqPollRespectsWindowUptoRow.holds Try.pinned (OpenSpec.upto arqPollRespectsWindowSpec)

/-- 'crossbarlaw12.ArqDuplicatesAreDiscarded', WHERE WHAT IT READS IS OF BULK AT MOST 1048576: true; the input reads as it did. -/
def arqDuplicatesAreDiscardedUptoRow : OpenClaim := { program := "ytpeahilkmlffkaa", sum := "a6b109634fa430d1c3ed6b5b3ae2d52fbd747bd137fdfa8ac497881aecaac6a7", func := "crossbar/crossbarlaw12.ArqDuplicatesAreDiscarded", spec := "arqDuplicatesAreDiscarded", unfollowed := true, recurses := true, apart := false, narrowed := true }
def ArqDuplicatesAreDiscardedUptoSaid : Prop := arqDuplicatesAreDiscardedUptoRow.holds Try.pinned (OpenSpec.upto arqDuplicatesAreDiscardedSpec)

/-- 'crossbarlaw12.ArqEncodingIsUnique', WHERE WHAT IT READS IS OF BULK AT MOST 1048576: true; the input reads as it did. -/
def arqEncodingIsUniqueUptoRow : OpenClaim := { program := "ytpeahilkmlffkaa", sum := "a6b109634fa430d1c3ed6b5b3ae2d52fbd747bd137fdfa8ac497881aecaac6a7", func := "crossbar/crossbarlaw12.ArqEncodingIsUnique", spec := "arqEncodingIsUnique", unfollowed := true, recurses := true, apart := false, narrowed := true }
def ArqEncodingIsUniqueUptoSaid : Prop := arqEncodingIsUniqueUptoRow.holds Try.pinned (OpenSpec.upto arqEncodingIsUniqueSpec)

end Rows
end Go.Proofs.Ytpeahilkmlffkaa
