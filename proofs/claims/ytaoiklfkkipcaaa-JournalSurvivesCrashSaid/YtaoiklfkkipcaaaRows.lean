/-
  No cell of these rows narrows 'for every input' (looked for: loops, veiled, ifaces, maps, wideKeys, modest, calm, conditions, laid).
  DERIVED. THE GIVEN ROWS OF THIS SEAT. 8 by the template 'for every input the law returns true; each argument reads behind the call as it read before'; 0 by the template 'total and deterministic' (their statements: YtaoiklfkkipcaaaTotals.lean).
  GIVEN WITH THE SEED: the statements are not yours to turn. If you find one false, say at which input.
  Laid BY PROGRAM, IN A SANDBOX (cutbox-rows.mjs): the forced cells as the released guide's own fill.sh prints them over the translation 62458e68d48d98cc… (all of the seat's roots in one cut). By AI agents, Wed Nov 11 2026. No macro, syntax, notation, axiom, sorry.
-/
import Derived.Test.YtaoiklfkkipcaaaChecked
import GoSem.Claim
import GoSem.ClaimJoined
import GoSem.ClaimMapViews
import Derived.JoinedTies
import Derived.KernelRfl
namespace Go.Proofs.Ytaoiklfkkipcaaa
/- THE CELL 'sum', in the pinned program and in every row, IS THE sha256 OF THE DUMP (.gsa) THAT YtaoiklfkkipcaaaProg.lean LOADS. Nothing in Lean hashes anything: it is a label: what it is worth is what the hold of that sum in a sandbox is worth. -/
noncomputable def Try.pinned : Pinned := { name := "ytaoiklfkkipcaaa", sum := "62458e68d48d98ccaecfd8de372cce581589f7dc9189856910e666bb55db5c45", checked := Try.checked }
namespace Rows
def none {H : Type} : Left H := { results := [], args := [] }

/-- 'crossbarlaw29.JournalDetectsDamage': WHATEVER THE INPUT: true; the input reads as it did. -/
def journalDetectsDamageSpec : ChangeSpec := { name := "journalDetectsDamage", fn := fun _ => fun
  | [d1, d2, d3] => { results := [.lit (.bool true)], args := [d1, d2, d3] }
  | _ => none }
def journalDetectsDamageRow : OpenClaim := { program := "ytaoiklfkkipcaaa", sum := "62458e68d48d98ccaecfd8de372cce581589f7dc9189856910e666bb55db5c45", func := "crossbar/crossbarlaw29.JournalDetectsDamage", spec := "journalDetectsDamage", inPlace := ["internal/bytealg.IndexByte"], unfollowed := true, recurses := true, apart := false }
def JournalDetectsDamageSaid : Prop := journalDetectsDamageRow.holds Try.pinned (OpenSpec.ofChange journalDetectsDamageSpec)

/-- ITS FALSE NEIGHBOUR: 'it returns false'. Refute it at one input. -/
def journalDetectsDamageWrong : ChangeSpec := { name := "journalDetectsDamage", fn := fun _ => fun
  | [d1, d2, d3] => { results := [.lit (.bool false)], args := [d1, d2, d3] }
  | _ => none }
def JournalDetectsDamageWrongFalsely : Prop := journalDetectsDamageRow.holds Try.pinned (OpenSpec.ofChange journalDetectsDamageWrong)

/-- 'crossbarlaw29.JournalCodecSpec': WHATEVER THE INPUT: true; the input reads as it did. -/
def journalCodecSpecSpec : ChangeSpec := { name := "journalCodecSpec", fn := fun _ => fun
  | [d1, d2, d3] => { results := [.lit (.bool true)], args := [d1, d2, d3] }
  | _ => none }
def journalCodecSpecRow : OpenClaim := { program := "ytaoiklfkkipcaaa", sum := "62458e68d48d98ccaecfd8de372cce581589f7dc9189856910e666bb55db5c45", func := "crossbar/crossbarlaw29.JournalCodecSpec", spec := "journalCodecSpec", inPlace := ["internal/bytealg.IndexByte"], unfollowed := true, recurses := true, apart := false }
def JournalCodecSpecSaid : Prop := journalCodecSpecRow.holds Try.pinned (OpenSpec.ofChange journalCodecSpecSpec)

/-- ITS FALSE NEIGHBOUR: 'it returns false'. Refute it at one input. -/
def journalCodecSpecWrong : ChangeSpec := { name := "journalCodecSpec", fn := fun _ => fun
  | [d1, d2, d3] => { results := [.lit (.bool false)], args := [d1, d2, d3] }
  | _ => none }
def JournalCodecSpecWrongFalsely : Prop := journalCodecSpecRow.holds Try.pinned (OpenSpec.ofChange journalCodecSpecWrong)

/-- 'crossbarlaw29.JournalCodecRoundTrip': WHATEVER THE INPUT: true; the input reads as it did. -/
def journalCodecRoundTripSpec : ChangeSpec := { name := "journalCodecRoundTrip", fn := fun _ => fun
  | [d1, d2, d3] => { results := [.lit (.bool true)], args := [d1, d2, d3] }
  | _ => none }
def journalCodecRoundTripRow : OpenClaim := { program := "ytaoiklfkkipcaaa", sum := "62458e68d48d98ccaecfd8de372cce581589f7dc9189856910e666bb55db5c45", func := "crossbar/crossbarlaw29.JournalCodecRoundTrip", spec := "journalCodecRoundTrip", inPlace := ["internal/bytealg.IndexByte"], unfollowed := true, recurses := true, apart := false }
def JournalCodecRoundTripSaid : Prop := journalCodecRoundTripRow.holds Try.pinned (OpenSpec.ofChange journalCodecRoundTripSpec)

/-- ITS FALSE NEIGHBOUR: 'it returns false'. Refute it at one input. -/
def journalCodecRoundTripWrong : ChangeSpec := { name := "journalCodecRoundTrip", fn := fun _ => fun
  | [d1, d2, d3] => { results := [.lit (.bool false)], args := [d1, d2, d3] }
  | _ => none }
def JournalCodecRoundTripWrongFalsely : Prop := journalCodecRoundTripRow.holds Try.pinned (OpenSpec.ofChange journalCodecRoundTripWrong)

/-- 'crossbarlaw29.JournalAppendsOne': WHATEVER THE INPUT: true; the input reads as it did. -/
def journalAppendsOneSpec : ChangeSpec := { name := "journalAppendsOne", fn := fun _ => fun
  | [d1, d2] => { results := [.lit (.bool true)], args := [d1, d2] }
  | _ => none }
def journalAppendsOneRow : OpenClaim := { program := "ytaoiklfkkipcaaa", sum := "62458e68d48d98ccaecfd8de372cce581589f7dc9189856910e666bb55db5c45", func := "crossbar/crossbarlaw29.JournalAppendsOne", spec := "journalAppendsOne", inPlace := ["internal/bytealg.IndexByte"], unfollowed := true, recurses := true, apart := false }
def JournalAppendsOneSaid : Prop := journalAppendsOneRow.holds Try.pinned (OpenSpec.ofChange journalAppendsOneSpec)

/-- ITS FALSE NEIGHBOUR: 'it returns false'. Refute it at one input. -/
def journalAppendsOneWrong : ChangeSpec := { name := "journalAppendsOne", fn := fun _ => fun
  | [d1, d2] => { results := [.lit (.bool false)], args := [d1, d2] }
  | _ => none }
def JournalAppendsOneWrongFalsely : Prop := journalAppendsOneRow.holds Try.pinned (OpenSpec.ofChange journalAppendsOneWrong)

/-- 'crossbarlaw29.JournalDiskSpec': WHATEVER THE INPUT: true; the input reads as it did. -/
def journalDiskSpecSpec : ChangeSpec := { name := "journalDiskSpec", fn := fun _ => fun
  | [d1, d2, d3] => { results := [.lit (.bool true)], args := [d1, d2, d3] }
  | _ => none }
def journalDiskSpecRow : OpenClaim := { program := "ytaoiklfkkipcaaa", sum := "62458e68d48d98ccaecfd8de372cce581589f7dc9189856910e666bb55db5c45", func := "crossbar/crossbarlaw29.JournalDiskSpec", spec := "journalDiskSpec", inPlace := ["internal/bytealg.IndexByte"], unfollowed := true, recurses := true, apart := false }
def JournalDiskSpecSaid : Prop := journalDiskSpecRow.holds Try.pinned (OpenSpec.ofChange journalDiskSpecSpec)

/-- ITS FALSE NEIGHBOUR: 'it returns false'. Refute it at one input. -/
def journalDiskSpecWrong : ChangeSpec := { name := "journalDiskSpec", fn := fun _ => fun
  | [d1, d2, d3] => { results := [.lit (.bool false)], args := [d1, d2, d3] }
  | _ => none }
def JournalDiskSpecWrongFalsely : Prop := journalDiskSpecRow.holds Try.pinned (OpenSpec.ofChange journalDiskSpecWrong)

/-- 'crossbarlaw29.JournalSurvivesCrash': WHATEVER THE INPUT: true; the input reads as it did. -/
def journalSurvivesCrashSpec : ChangeSpec := { name := "journalSurvivesCrash", fn := fun _ => fun
  | [d1, d2, d3] => { results := [.lit (.bool true)], args := [d1, d2, d3] }
  | _ => none }
def journalSurvivesCrashRow : OpenClaim := { program := "ytaoiklfkkipcaaa", sum := "62458e68d48d98ccaecfd8de372cce581589f7dc9189856910e666bb55db5c45", func := "crossbar/crossbarlaw29.JournalSurvivesCrash", spec := "journalSurvivesCrash", inPlace := ["internal/bytealg.IndexByte"], unfollowed := true, recurses := true, apart := false }
def JournalSurvivesCrashSaid : Prop := journalSurvivesCrashRow.holds Try.pinned (OpenSpec.ofChange journalSurvivesCrashSpec)

/-- ITS FALSE NEIGHBOUR: 'it returns false'. Refute it at one input. -/
def journalSurvivesCrashWrong : ChangeSpec := { name := "journalSurvivesCrash", fn := fun _ => fun
  | [d1, d2, d3] => { results := [.lit (.bool false)], args := [d1, d2, d3] }
  | _ => none }
def JournalSurvivesCrashWrongFalsely : Prop := journalSurvivesCrashRow.holds Try.pinned (OpenSpec.ofChange journalSurvivesCrashWrong)

/-- 'crossbarlaw29.JournalCrashIdempotent': WHATEVER THE INPUT: true; the input reads as it did. -/
def journalCrashIdempotentSpec : ChangeSpec := { name := "journalCrashIdempotent", fn := fun _ => fun
  | [d1, d2, d3] => { results := [.lit (.bool true)], args := [d1, d2, d3] }
  | _ => none }
def journalCrashIdempotentRow : OpenClaim := { program := "ytaoiklfkkipcaaa", sum := "62458e68d48d98ccaecfd8de372cce581589f7dc9189856910e666bb55db5c45", func := "crossbar/crossbarlaw29.JournalCrashIdempotent", spec := "journalCrashIdempotent", inPlace := ["internal/bytealg.IndexByte"], unfollowed := true, recurses := true, apart := false }
def JournalCrashIdempotentSaid : Prop := journalCrashIdempotentRow.holds Try.pinned (OpenSpec.ofChange journalCrashIdempotentSpec)

/-- ITS FALSE NEIGHBOUR: 'it returns false'. Refute it at one input. -/
def journalCrashIdempotentWrong : ChangeSpec := { name := "journalCrashIdempotent", fn := fun _ => fun
  | [d1, d2, d3] => { results := [.lit (.bool false)], args := [d1, d2, d3] }
  | _ => none }
def JournalCrashIdempotentWrongFalsely : Prop := journalCrashIdempotentRow.holds Try.pinned (OpenSpec.ofChange journalCrashIdempotentWrong)

/-- 'crossbarlaw29.JournalPreservesTotals': WHATEVER THE INPUT: true; the input reads as it did. -/
def journalPreservesTotalsSpec : ChangeSpec := { name := "journalPreservesTotals", fn := fun _ => fun
  | [d1, d2, d3] => { results := [.lit (.bool true)], args := [d1, d2, d3] }
  | _ => none }
def journalPreservesTotalsRow : OpenClaim := { program := "ytaoiklfkkipcaaa", sum := "62458e68d48d98ccaecfd8de372cce581589f7dc9189856910e666bb55db5c45", func := "crossbar/crossbarlaw29.JournalPreservesTotals", spec := "journalPreservesTotals", inPlace := ["internal/bytealg.IndexByte"], unfollowed := true, recurses := true, apart := false }
def JournalPreservesTotalsSaid : Prop := journalPreservesTotalsRow.holds Try.pinned (OpenSpec.ofChange journalPreservesTotalsSpec)

/-- ITS FALSE NEIGHBOUR: 'it returns false'. Refute it at one input. -/
def journalPreservesTotalsWrong : ChangeSpec := { name := "journalPreservesTotals", fn := fun _ => fun
  | [d1, d2, d3] => { results := [.lit (.bool false)], args := [d1, d2, d3] }
  | _ => none }
def JournalPreservesTotalsWrongFalsely : Prop := journalPreservesTotalsRow.holds Try.pinned (OpenSpec.ofChange journalPreservesTotalsWrong)

/- THE SECOND FORM. 'bulk': how many values and letters a reading holds, each counted each time it is reached (what is shared counts as often as it is met; a slice's spare places count too). A statement '..UptoSaid' is the law's where the arguments, and the package variables that the reading takes, are together of bulk at most 1048576: NARROWER than '..Said'. Prove '..Said' where nothing that the law and all that it calls make is longer than what came in: it says more and counts as full. Else prove '..UptoSaid'. A law counts once. -/
mutual
def uptoBulk {H : Type} : DataW H → Nat
  | .lit (.string bytes) => bytes.length + 1
  | .lit _ => 1
  | .nil => 1
  | .ptr d => uptoBulk d + 1
  | .slice elems spare => uptoBulkAll elems + uptoBulkAll spare + 1
  | .agg parts => uptoBulkAll parts + 1
  | .iface _ d => uptoBulk d + 1
  | .map entries => uptoBulkEntries entries + 1
  | .held _ => 1
def uptoBulkAll {H : Type} : List (DataW H) → Nat
  | [] => 0
  | d :: r => uptoBulk d + uptoBulkAll r
def uptoBulkEntries {H : Type} : List (Lit × DataW H) → Nat
  | [] => 0
  | x :: r => uptoBulkEntry x + uptoBulkEntries r
def uptoBulkEntry {H : Type} : Lit × DataW H → Nat
  | (.string bytes, d) => bytes.length + uptoBulk d + 1
  | (_, d) => uptoBulk d + 1
 end
def uptoSmall : (H : Type) → List (DataW H) → Bool := fun _ ds => decide (uptoBulkAll ds ≤ 1048576)
def OpenSpec.upto (s : _root_.Go.ChangeSpec) : _root_.Go.OpenSpec := { _root_.Go.OpenSpec.ofChange s with cond := some uptoSmall }

/-- 'crossbarlaw29.JournalDetectsDamage', WHERE WHAT IT READS IS OF BULK AT MOST 1048576: true; the input reads as it did. -/
def journalDetectsDamageUptoRow : OpenClaim := { program := "ytaoiklfkkipcaaa", sum := "62458e68d48d98ccaecfd8de372cce581589f7dc9189856910e666bb55db5c45", func := "crossbar/crossbarlaw29.JournalDetectsDamage", spec := "journalDetectsDamage", inPlace := ["internal/bytealg.IndexByte"], unfollowed := true, recurses := true, apart := false, narrowed := true }
def JournalDetectsDamageUptoSaid : Prop := journalDetectsDamageUptoRow.holds Try.pinned (OpenSpec.upto journalDetectsDamageSpec)

/-- 'crossbarlaw29.JournalCodecSpec', WHERE WHAT IT READS IS OF BULK AT MOST 1048576: true; the input reads as it did. -/
def journalCodecSpecUptoRow : OpenClaim := { program := "ytaoiklfkkipcaaa", sum := "62458e68d48d98ccaecfd8de372cce581589f7dc9189856910e666bb55db5c45", func := "crossbar/crossbarlaw29.JournalCodecSpec", spec := "journalCodecSpec", inPlace := ["internal/bytealg.IndexByte"], unfollowed := true, recurses := true, apart := false, narrowed := true }
def JournalCodecSpecUptoSaid : Prop := journalCodecSpecUptoRow.holds Try.pinned (OpenSpec.upto journalCodecSpecSpec)

/-- 'crossbarlaw29.JournalCodecRoundTrip', WHERE WHAT IT READS IS OF BULK AT MOST 1048576: true; the input reads as it did. -/
def journalCodecRoundTripUptoRow : OpenClaim := { program := "ytaoiklfkkipcaaa", sum := "62458e68d48d98ccaecfd8de372cce581589f7dc9189856910e666bb55db5c45", func := "crossbar/crossbarlaw29.JournalCodecRoundTrip", spec := "journalCodecRoundTrip", inPlace := ["internal/bytealg.IndexByte"], unfollowed := true, recurses := true, apart := false, narrowed := true }
def JournalCodecRoundTripUptoSaid : Prop := journalCodecRoundTripUptoRow.holds Try.pinned (OpenSpec.upto journalCodecRoundTripSpec)

/-- 'crossbarlaw29.JournalAppendsOne', WHERE WHAT IT READS IS OF BULK AT MOST 1048576: true; the input reads as it did. -/
def journalAppendsOneUptoRow : OpenClaim := { program := "ytaoiklfkkipcaaa", sum := "62458e68d48d98ccaecfd8de372cce581589f7dc9189856910e666bb55db5c45", func := "crossbar/crossbarlaw29.JournalAppendsOne", spec := "journalAppendsOne", inPlace := ["internal/bytealg.IndexByte"], unfollowed := true, recurses := true, apart := false, narrowed := true }
def JournalAppendsOneUptoSaid : Prop := journalAppendsOneUptoRow.holds Try.pinned (OpenSpec.upto journalAppendsOneSpec)

/-- 'crossbarlaw29.JournalDiskSpec', WHERE WHAT IT READS IS OF BULK AT MOST 1048576: true; the input reads as it did. -/
def journalDiskSpecUptoRow : OpenClaim := { program := "ytaoiklfkkipcaaa", sum := "62458e68d48d98ccaecfd8de372cce581589f7dc9189856910e666bb55db5c45", func := "crossbar/crossbarlaw29.JournalDiskSpec", spec := "journalDiskSpec", inPlace := ["internal/bytealg.IndexByte"], unfollowed := true, recurses := true, apart := false, narrowed := true }
def JournalDiskSpecUptoSaid : Prop := journalDiskSpecUptoRow.holds Try.pinned (OpenSpec.upto journalDiskSpecSpec)

/-- 'crossbarlaw29.JournalSurvivesCrash', WHERE WHAT IT READS IS OF BULK AT MOST 1048576: true; the input reads as it did. -/
def journalSurvivesCrashUptoRow : OpenClaim := { program := "ytaoiklfkkipcaaa", sum := "62458e68d48d98ccaecfd8de372cce581589f7dc9189856910e666bb55db5c45", func := "crossbar/crossbarlaw29.JournalSurvivesCrash", spec := "journalSurvivesCrash", inPlace := ["internal/bytealg.IndexByte"], unfollowed := true, recurses := true, apart := false, narrowed := true }
def JournalSurvivesCrashUptoSaid : Prop := journalSurvivesCrashUptoRow.holds Try.pinned (OpenSpec.upto journalSurvivesCrashSpec)

/-- 'crossbarlaw29.JournalCrashIdempotent', WHERE WHAT IT READS IS OF BULK AT MOST 1048576: true; the input reads as it did. -/
def journalCrashIdempotentUptoRow : OpenClaim := { program := "ytaoiklfkkipcaaa", sum := "62458e68d48d98ccaecfd8de372cce581589f7dc9189856910e666bb55db5c45", func := "crossbar/crossbarlaw29.JournalCrashIdempotent", spec := "journalCrashIdempotent", inPlace := ["internal/bytealg.IndexByte"], unfollowed := true, recurses := true, apart := false, narrowed := true }
def JournalCrashIdempotentUptoSaid : Prop := journalCrashIdempotentUptoRow.holds Try.pinned (OpenSpec.upto journalCrashIdempotentSpec)

/-- 'crossbarlaw29.JournalPreservesTotals', WHERE WHAT IT READS IS OF BULK AT MOST 1048576: true; the input reads as it did. -/
def journalPreservesTotalsUptoRow : OpenClaim := { program := "ytaoiklfkkipcaaa", sum := "62458e68d48d98ccaecfd8de372cce581589f7dc9189856910e666bb55db5c45", func := "crossbar/crossbarlaw29.JournalPreservesTotals", spec := "journalPreservesTotals", inPlace := ["internal/bytealg.IndexByte"], unfollowed := true, recurses := true, apart := false, narrowed := true }
def JournalPreservesTotalsUptoSaid : Prop := journalPreservesTotalsUptoRow.holds Try.pinned (OpenSpec.upto journalPreservesTotalsSpec)

end Rows
end Go.Proofs.Ytaoiklfkkipcaaa
