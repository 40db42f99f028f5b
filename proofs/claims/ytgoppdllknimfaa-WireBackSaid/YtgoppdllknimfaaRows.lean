/-
  No cell of these rows narrows 'for every input' (looked for: loops, veiled, ifaces, maps, wideKeys, modest, calm, conditions, laid).
  DERIVED. THE GIVEN ROWS OF THIS SEAT. 11 by the template 'for every input the law returns true; each argument reads behind the call as it read before'; 0 by the template 'total and deterministic' (their statements: YtgoppdllknimfaaTotals.lean).
  GIVEN WITH THE SEED: the statements are not yours to turn. If you find one false, say at which input.
  Laid BY PROGRAM, IN A SANDBOX (cutbox-rows.mjs): the forced cells as the released guide's own fill.sh prints them over the translation 72dddf0fa1d4c7c5… (all of the seat's roots in one cut). By AI agents, Wed Nov 11 2026. No macro, syntax, notation, axiom, sorry.
-/
import Derived.Test.YtgoppdllknimfaaChecked
import GoSem.Claim
import GoSem.ClaimJoined
import GoSem.ClaimMapViews
import Derived.JoinedTies
import Derived.KernelRfl
namespace Go.Proofs.Ytgoppdllknimfaa
/- THE CELL 'sum', in the pinned program and in every row, IS THE sha256 OF THE DUMP (.gsa) THAT YtgoppdllknimfaaProg.lean LOADS. Nothing in Lean hashes anything: it is a label: what it is worth is what the hold of that sum in a sandbox is worth. -/
noncomputable def Try.pinned : Pinned := { name := "ytgoppdllknimfaa", sum := "72dddf0fa1d4c7c5582c39d223b0b5b00f622f7edf908d972242c508d9ff27e4", checked := Try.checked }
namespace Rows
def none {H : Type} : Left H := { results := [], args := [] }

/-- 'palaverlaw07.BallotCalls': WHATEVER THE INPUT: true; the input reads as it did. -/
def ballotCallsSpec : ChangeSpec := { name := "ballotCalls", fn := fun _ => fun
  | [d1, d2, d3, d4] => { results := [.lit (.bool true)], args := [d1, d2, d3, d4] }
  | _ => none }
def ballotCallsRow : OpenClaim := { program := "ytgoppdllknimfaa", sum := "72dddf0fa1d4c7c5582c39d223b0b5b00f622f7edf908d972242c508d9ff27e4", func := "palaver/palaverlaw07.BallotCalls", spec := "ballotCalls", apart := false }
def BallotCallsSaid : Prop := ballotCallsRow.holds Try.pinned (OpenSpec.ofChange ballotCallsSpec)

/-- ITS FALSE NEIGHBOUR: 'it returns false'. Refute it at one input. -/
def ballotCallsWrong : ChangeSpec := { name := "ballotCalls", fn := fun _ => fun
  | [d1, d2, d3, d4] => { results := [.lit (.bool false)], args := [d1, d2, d3, d4] }
  | _ => none }
def BallotCallsWrongFalsely : Prop := ballotCallsRow.holds Try.pinned (OpenSpec.ofChange ballotCallsWrong)

/-- 'palaverlaw07.BallotOrder': WHATEVER THE INPUT: true; the input reads as it did. -/
def ballotOrderSpec : ChangeSpec := { name := "ballotOrder", fn := fun _ => fun
  | [d1, d2, d3, d4] => { results := [.lit (.bool true)], args := [d1, d2, d3, d4] }
  | _ => none }
def ballotOrderRow : OpenClaim := { program := "ytgoppdllknimfaa", sum := "72dddf0fa1d4c7c5582c39d223b0b5b00f622f7edf908d972242c508d9ff27e4", func := "palaver/palaverlaw07.BallotOrder", spec := "ballotOrder", apart := false }
def BallotOrderSaid : Prop := ballotOrderRow.holds Try.pinned (OpenSpec.ofChange ballotOrderSpec)

/-- ITS FALSE NEIGHBOUR: 'it returns false'. Refute it at one input. -/
def ballotOrderWrong : ChangeSpec := { name := "ballotOrder", fn := fun _ => fun
  | [d1, d2, d3, d4] => { results := [.lit (.bool false)], args := [d1, d2, d3, d4] }
  | _ => none }
def BallotOrderWrongFalsely : Prop := ballotOrderRow.holds Try.pinned (OpenSpec.ofChange ballotOrderWrong)

/-- 'palaverlaw07.BallotTurns': WHATEVER THE INPUT: true; the input reads as it did. -/
def ballotTurnsSpec : ChangeSpec := { name := "ballotTurns", fn := fun _ => fun
  | [d1, d2, d3] => { results := [.lit (.bool true)], args := [d1, d2, d3] }
  | _ => none }
def ballotTurnsRow : OpenClaim := { program := "ytgoppdllknimfaa", sum := "72dddf0fa1d4c7c5582c39d223b0b5b00f622f7edf908d972242c508d9ff27e4", func := "palaver/palaverlaw07.BallotTurns", spec := "ballotTurns", apart := false }
def BallotTurnsSaid : Prop := ballotTurnsRow.holds Try.pinned (OpenSpec.ofChange ballotTurnsSpec)

/-- ITS FALSE NEIGHBOUR: 'it returns false'. Refute it at one input. -/
def ballotTurnsWrong : ChangeSpec := { name := "ballotTurns", fn := fun _ => fun
  | [d1, d2, d3] => { results := [.lit (.bool false)], args := [d1, d2, d3] }
  | _ => none }
def BallotTurnsWrongFalsely : Prop := ballotTurnsRow.holds Try.pinned (OpenSpec.ofChange ballotTurnsWrong)

/-- 'palaverlaw01.WireWrites': WHATEVER THE INPUT: true; the input reads as it did. -/
def wireWritesSpec : ChangeSpec := { name := "wireWrites", fn := fun _ => fun
  | [d1, d2, d3] => { results := [.lit (.bool true)], args := [d1, d2, d3] }
  | _ => none }
def wireWritesRow : OpenClaim := { program := "ytgoppdllknimfaa", sum := "72dddf0fa1d4c7c5582c39d223b0b5b00f622f7edf908d972242c508d9ff27e4", func := "palaver/palaverlaw01.WireWrites", spec := "wireWrites", apart := false }
def WireWritesSaid : Prop := wireWritesRow.holds Try.pinned (OpenSpec.ofChange wireWritesSpec)

/-- ITS FALSE NEIGHBOUR: 'it returns false'. Refute it at one input. -/
def wireWritesWrong : ChangeSpec := { name := "wireWrites", fn := fun _ => fun
  | [d1, d2, d3] => { results := [.lit (.bool false)], args := [d1, d2, d3] }
  | _ => none }
def WireWritesWrongFalsely : Prop := wireWritesRow.holds Try.pinned (OpenSpec.ofChange wireWritesWrong)

/-- 'palaverlaw01.WireOne': WHATEVER THE INPUT: true; the input reads as it did. -/
def wireOneSpec : ChangeSpec := { name := "wireOne", fn := fun _ => fun
  | [d1, d2, d3] => { results := [.lit (.bool true)], args := [d1, d2, d3] }
  | _ => none }
def wireOneRow : OpenClaim := { program := "ytgoppdllknimfaa", sum := "72dddf0fa1d4c7c5582c39d223b0b5b00f622f7edf908d972242c508d9ff27e4", func := "palaver/palaverlaw01.WireOne", spec := "wireOne", apart := false }
def WireOneSaid : Prop := wireOneRow.holds Try.pinned (OpenSpec.ofChange wireOneSpec)

/-- ITS FALSE NEIGHBOUR: 'it returns false'. Refute it at one input. -/
def wireOneWrong : ChangeSpec := { name := "wireOne", fn := fun _ => fun
  | [d1, d2, d3] => { results := [.lit (.bool false)], args := [d1, d2, d3] }
  | _ => none }
def WireOneWrongFalsely : Prop := wireOneRow.holds Try.pinned (OpenSpec.ofChange wireOneWrong)

/-- 'palaverlaw01.WireKnown': WHATEVER THE INPUT: true; the input reads as it did. -/
def wireKnownSpec : ChangeSpec := { name := "wireKnown", fn := fun _ => fun
  | [] => { results := [.lit (.bool true)], args := [] }
  | _ => none }
def wireKnownRow : OpenClaim := { program := "ytgoppdllknimfaa", sum := "72dddf0fa1d4c7c5582c39d223b0b5b00f622f7edf908d972242c508d9ff27e4", func := "palaver/palaverlaw01.WireKnown", spec := "wireKnown", apart := false }
def WireKnownSaid : Prop := wireKnownRow.holds Try.pinned (OpenSpec.ofChange wireKnownSpec)

/-- ITS FALSE NEIGHBOUR: 'it returns false'. Refute it at one input. -/
def wireKnownWrong : ChangeSpec := { name := "wireKnown", fn := fun _ => fun
  | [] => { results := [.lit (.bool false)], args := [] }
  | _ => none }
def WireKnownWrongFalsely : Prop := wireKnownRow.holds Try.pinned (OpenSpec.ofChange wireKnownWrong)

/-- 'palaverlaw01.WireBack': WHATEVER THE INPUT: true; the input reads as it did. -/
def wireBackSpec : ChangeSpec := { name := "wireBack", fn := fun _ => fun
  | [d1, d2] => { results := [.lit (.bool true)], args := [d1, d2] }
  | _ => none }
def wireBackRow : OpenClaim := { program := "ytgoppdllknimfaa", sum := "72dddf0fa1d4c7c5582c39d223b0b5b00f622f7edf908d972242c508d9ff27e4", func := "palaver/palaverlaw01.WireBack", spec := "wireBack", apart := false }
def WireBackSaid : Prop := wireBackRow.holds Try.pinned (OpenSpec.ofChange wireBackSpec)

/-- ITS FALSE NEIGHBOUR: 'it returns false'. Refute it at one input. -/
def wireBackWrong : ChangeSpec := { name := "wireBack", fn := fun _ => fun
  | [d1, d2] => { results := [.lit (.bool false)], args := [d1, d2] }
  | _ => none }
def WireBackWrongFalsely : Prop := wireBackRow.holds Try.pinned (OpenSpec.ofChange wireBackWrong)

/-- 'palaverlaw01.WireReads': WHATEVER THE INPUT: true; the input reads as it did. -/
def wireReadsSpec : ChangeSpec := { name := "wireReads", fn := fun _ => fun
  | [d1, d2] => { results := [.lit (.bool true)], args := [d1, d2] }
  | _ => none }
def wireReadsRow : OpenClaim := { program := "ytgoppdllknimfaa", sum := "72dddf0fa1d4c7c5582c39d223b0b5b00f622f7edf908d972242c508d9ff27e4", func := "palaver/palaverlaw01.WireReads", spec := "wireReads", apart := false }
def WireReadsSaid : Prop := wireReadsRow.holds Try.pinned (OpenSpec.ofChange wireReadsSpec)

/-- ITS FALSE NEIGHBOUR: 'it returns false'. Refute it at one input. -/
def wireReadsWrong : ChangeSpec := { name := "wireReads", fn := fun _ => fun
  | [d1, d2] => { results := [.lit (.bool false)], args := [d1, d2] }
  | _ => none }
def WireReadsWrongFalsely : Prop := wireReadsRow.holds Try.pinned (OpenSpec.ofChange wireReadsWrong)

/-- 'palaverlaw01.WireNil': WHATEVER THE INPUT: true; the input reads as it did. -/
def wireNilSpec : ChangeSpec := { name := "wireNil", fn := fun _ => fun
  | [d1, d2] => { results := [.lit (.bool true)], args := [d1, d2] }
  | _ => none }
def wireNilRow : OpenClaim := { program := "ytgoppdllknimfaa", sum := "72dddf0fa1d4c7c5582c39d223b0b5b00f622f7edf908d972242c508d9ff27e4", func := "palaver/palaverlaw01.WireNil", spec := "wireNil", apart := false }
def WireNilSaid : Prop := wireNilRow.holds Try.pinned (OpenSpec.ofChange wireNilSpec)

/-- ITS FALSE NEIGHBOUR: 'it returns false'. Refute it at one input. -/
def wireNilWrong : ChangeSpec := { name := "wireNil", fn := fun _ => fun
  | [d1, d2] => { results := [.lit (.bool false)], args := [d1, d2] }
  | _ => none }
def WireNilWrongFalsely : Prop := wireNilRow.holds Try.pinned (OpenSpec.ofChange wireNilWrong)

/-- 'palaverlaw07.BallotBytes': WHATEVER THE INPUT: true; the input reads as it did. -/
def ballotBytesSpec : ChangeSpec := { name := "ballotBytes", fn := fun _ => fun
  | [d1, d2, d3] => { results := [.lit (.bool true)], args := [d1, d2, d3] }
  | _ => none }
def ballotBytesRow : OpenClaim := { program := "ytgoppdllknimfaa", sum := "72dddf0fa1d4c7c5582c39d223b0b5b00f622f7edf908d972242c508d9ff27e4", func := "palaver/palaverlaw07.BallotBytes", spec := "ballotBytes", apart := false }
def BallotBytesSaid : Prop := ballotBytesRow.holds Try.pinned (OpenSpec.ofChange ballotBytesSpec)

/-- ITS FALSE NEIGHBOUR: 'it returns false'. Refute it at one input. -/
def ballotBytesWrong : ChangeSpec := { name := "ballotBytes", fn := fun _ => fun
  | [d1, d2, d3] => { results := [.lit (.bool false)], args := [d1, d2, d3] }
  | _ => none }
def BallotBytesWrongFalsely : Prop := ballotBytesRow.holds Try.pinned (OpenSpec.ofChange ballotBytesWrong)

/-- 'palaverlaw07.BallotBack': WHATEVER THE INPUT: true; the input reads as it did. -/
def ballotBackSpec : ChangeSpec := { name := "ballotBack", fn := fun _ => fun
  | [d] => { results := [.lit (.bool true)], args := [d] }
  | _ => none }
def ballotBackRow : OpenClaim := { program := "ytgoppdllknimfaa", sum := "72dddf0fa1d4c7c5582c39d223b0b5b00f622f7edf908d972242c508d9ff27e4", func := "palaver/palaverlaw07.BallotBack", spec := "ballotBack", apart := false }
def BallotBackSaid : Prop := ballotBackRow.holds Try.pinned (OpenSpec.ofChange ballotBackSpec)

/-- ITS FALSE NEIGHBOUR: 'it returns false'. Refute it at one input. -/
def ballotBackWrong : ChangeSpec := { name := "ballotBack", fn := fun _ => fun
  | [d] => { results := [.lit (.bool false)], args := [d] }
  | _ => none }
def BallotBackWrongFalsely : Prop := ballotBackRow.holds Try.pinned (OpenSpec.ofChange ballotBackWrong)

/- THE SECOND FORM. 'bulk': how many values and letters a reading holds, each counted each time it is reached (what is shared counts as often as it is met; a slice's spare places count too). A statement '..UptoSaid' is the law's where the arguments, and the package variables that the reading takes, are together of bulk at most 1048576: NARROWER than '..Said'. Prove '..Said' where nothing that the law and all that it calls make is longer than what came in: it says more and counts as full. Else prove '..UptoSaid'. A law counts once. -/
mutual
def uptoBulk {H : Type} : DataW H → Nat
  | .lit (.string bytes) => bytes.length + 1
  | .lit _ => 1
  | .nil => 1
  | .ptr d => uptoBulk d + 1
  | .slice elems spare => uptoBulkAll elems + uptoBulkAll spare + 1
  | .agg parts => uptoBulkAll parts + 1
  | .iface _ d => uptoBulk d + 1
  | .map entries => uptoBulkEntries entries + 1
  | .held _ => 1
def uptoBulkAll {H : Type} : List (DataW H) → Nat
  | [] => 0
  | d :: r => uptoBulk d + uptoBulkAll r
def uptoBulkEntries {H : Type} : List (Lit × DataW H) → Nat
  | [] => 0
  | x :: r => uptoBulkEntry x + uptoBulkEntries r
def uptoBulkEntry {H : Type} : Lit × DataW H → Nat
  | (.string bytes, d) => bytes.length + uptoBulk d + 1
  | (_, d) => uptoBulk d + 1
 end
def uptoSmall : (H : Type) → List (DataW H) → Bool := fun _ ds => decide (uptoBulkAll ds ≤ 1048576)
def OpenSpec.upto (s : _root_.Go.ChangeSpec) : _root_.Go.OpenSpec := { _root_.Go.OpenSpec.ofChange s with cond := some uptoSmall }

/-- 'palaverlaw07.BallotCalls', WHERE WHAT IT READS IS OF BULK AT MOST 1048576: true; the input reads as it did. -/
def ballotCallsUptoRow : OpenClaim := { program := "ytgoppdllknimfaa", sum := "72dddf0fa1d4c7c5582c39d223b0b5b00f622f7edf908d972242c508d9ff27e4", func := "palaver/palaverlaw07.BallotCalls", spec := "ballotCalls", apart := false, narrowed := true }
def BallotCallsUptoSaid : Prop := ballotCallsUptoRow.holds Try.pinned (OpenSpec.upto ballotCallsSpec)

/-- 'palaverlaw07.BallotOrder', WHERE WHAT IT READS IS OF BULK AT MOST 1048576: true; the input reads as it did. -/
def ballotOrderUptoRow : OpenClaim := { program := "ytgoppdllknimfaa", sum := "72dddf0fa1d4c7c5582c39d223b0b5b00f622f7edf908d972242c508d9ff27e4", func := "palaver/palaverlaw07.BallotOrder", spec := "ballotOrder", apart := false, narrowed := true }
def BallotOrderUptoSaid : Prop := ballotOrderUptoRow.holds Try.pinned (OpenSpec.upto ballotOrderSpec)

/-- 'palaverlaw07.BallotTurns', WHERE WHAT IT READS IS OF BULK AT MOST 1048576: true; the input reads as it did. -/
def ballotTurnsUptoRow : OpenClaim := { program := "ytgoppdllknimfaa", sum := "72dddf0fa1d4c7c5582c39d223b0b5b00f622f7edf908d972242c508d9ff27e4", func := "palaver/palaverlaw07.BallotTurns", spec := "ballotTurns", apart := false, narrowed := true }
def BallotTurnsUptoSaid : Prop := ballotTurnsUptoRow.holds Try.pinned (OpenSpec.upto ballotTurnsSpec)

/-- 'palaverlaw01.WireWrites', WHERE WHAT IT READS IS OF BULK AT MOST 1048576: true; the input reads as it did. -/
def wireWritesUptoRow : OpenClaim := { program := "ytgoppdllknimfaa", sum := "72dddf0fa1d4c7c5582c39d223b0b5b00f622f7edf908d972242c508d9ff27e4", func := "palaver/palaverlaw01.WireWrites", spec := "wireWrites", apart := false, narrowed := true }
def WireWritesUptoSaid : Prop := wireWritesUptoRow.holds Try.pinned (OpenSpec.upto wireWritesSpec)

/-- 'palaverlaw01.WireOne', WHERE WHAT IT READS IS OF BULK AT MOST 1048576: true; the input reads as it did. -/
def wireOneUptoRow : OpenClaim := { program := "ytgoppdllknimfaa", sum := "72dddf0fa1d4c7c5582c39d223b0b5b00f622f7edf908d972242c508d9ff27e4", func := "palaver/palaverlaw01.WireOne", spec := "wireOne", apart := false, narrowed := true }
def WireOneUptoSaid : Prop := wireOneUptoRow.holds Try.pinned (OpenSpec.upto wireOneSpec)

/-- 'palaverlaw01.WireKnown', WHERE WHAT IT READS IS OF BULK AT MOST 1048576: true; the input reads as it did. -/
def wireKnownUptoRow : OpenClaim := { program := "ytgoppdllknimfaa", sum := "72dddf0fa1d4c7c5582c39d223b0b5b00f622f7edf908d972242c508d9ff27e4", func := "palaver/palaverlaw01.WireKnown", spec := "wireKnown", apart := false, narrowed := true }
def WireKnownUptoSaid : Prop := wireKnownUptoRow.holds Try.pinned (OpenSpec.upto wireKnownSpec)

/-- 'palaverlaw01.WireBack', WHERE WHAT IT READS IS OF BULK AT MOST 1048576: true; the input reads as it did. -/
def wireBackUptoRow : OpenClaim := { program := "ytgoppdllknimfaa", sum := "72dddf0fa1d4c7c5582c39d223b0b5b00f622f7edf908d972242c508d9ff27e4", func := "palaver/palaverlaw01.WireBack", spec := "wireBack", apart := false, narrowed := true }
def WireBackUptoSaid : Prop := wireBackUptoRow.holds Try.pinned (OpenSpec.upto wireBackSpec)

/-- 'palaverlaw01.WireReads', WHERE WHAT IT READS IS OF BULK AT MOST 1048576: true; the input reads as it did. -/
def wireReadsUptoRow : OpenClaim := { program := "ytgoppdllknimfaa", sum := "72dddf0fa1d4c7c5582c39d223b0b5b00f622f7edf908d972242c508d9ff27e4", func := "palaver/palaverlaw01.WireReads", spec := "wireReads", apart := false, narrowed := true }
def WireReadsUptoSaid : Prop := wireReadsUptoRow.holds Try.pinned (OpenSpec.upto wireReadsSpec)

/-- 'palaverlaw01.WireNil', WHERE WHAT IT READS IS OF BULK AT MOST 1048576: true; the input reads as it did. -/
def wireNilUptoRow : OpenClaim := { program := "ytgoppdllknimfaa", sum := "72dddf0fa1d4c7c5582c39d223b0b5b00f622f7edf908d972242c508d9ff27e4", func := "palaver/palaverlaw01.WireNil", spec := "wireNil", apart := false, narrowed := true }
def WireNilUptoSaid : Prop := wireNilUptoRow.holds Try.pinned (OpenSpec.upto wireNilSpec)

/-- 'palaverlaw07.BallotBytes', WHERE WHAT IT READS IS OF BULK AT MOST 1048576: true; the input reads as it did. -/
def ballotBytesUptoRow : OpenClaim := { program := "ytgoppdllknimfaa", sum := "72dddf0fa1d4c7c5582c39d223b0b5b00f622f7edf908d972242c508d9ff27e4", func := "palaver/palaverlaw07.BallotBytes", spec := "ballotBytes", apart := false, narrowed := true }
def BallotBytesUptoSaid : Prop := ballotBytesUptoRow.holds Try.pinned (OpenSpec.upto ballotBytesSpec)

/-- 'palaverlaw07.BallotBack', WHERE WHAT IT READS IS OF BULK AT MOST 1048576: true; the input reads as it did. -/
def ballotBackUptoRow : OpenClaim := { program := "ytgoppdllknimfaa", sum := "72dddf0fa1d4c7c5582c39d223b0b5b00f622f7edf908d972242c508d9ff27e4", func := "palaver/palaverlaw07.BallotBack", spec := "ballotBack", apart := false, narrowed := true }
def BallotBackUptoSaid : Prop := ballotBackUptoRow.holds Try.pinned (OpenSpec.upto ballotBackSpec)

end Rows
end Go.Proofs.Ytgoppdllknimfaa
