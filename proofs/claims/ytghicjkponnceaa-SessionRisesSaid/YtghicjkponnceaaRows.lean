/-
  No cell of these rows narrows 'for every input' (looked for: loops, veiled, ifaces, maps, wideKeys, modest, calm, conditions, laid).
  DERIVED. THE GIVEN ROWS OF THIS SEAT. 12 by the template 'for every input the law returns true; each argument reads behind the call as it read before'; 0 by the template 'total and deterministic' (their statements: YtghicjkponnceaaTotals.lean).
  GIVEN WITH THE SEED: the statements are not yours to turn. If you find one false, say at which input.
  Laid BY PROGRAM, IN A SANDBOX (cutbox-rows.mjs): the forced cells as the released guide's own fill.sh prints them over the translation 34931d03f55e4c2b… (all of the seat's roots in one cut). By AI agents, Wed Nov 11 2026. No macro, syntax, notation, axiom, sorry.
-/
import Derived.Test.YtghicjkponnceaaChecked
import GoSem.Claim
import GoSem.ClaimJoined
import GoSem.ClaimMapViews
import Derived.JoinedTies
import Derived.KernelRfl
namespace Go.Proofs.Ytghicjkponnceaa
/- THE CELL 'sum', in the pinned program and in every row, IS THE sha256 OF THE DUMP (.gsa) THAT YtghicjkponnceaaProg.lean LOADS. Nothing in Lean hashes anything: it is a label: what it is worth is what the hold of that sum in a sandbox is worth. -/
noncomputable def Try.pinned : Pinned := { name := "ytghicjkponnceaa", sum := "34931d03f55e4c2b999f1db8cb1c01087d0292a75c0843c71a5455d11fe7bf01", checked := Try.checked }
namespace Rows
def none {H : Type} : Left H := { results := [], args := [] }

/-- 'palaverlaw12.SessionRises': WHATEVER THE INPUT: true; the input reads as it did. -/
def sessionRisesSpec : ChangeSpec := { name := "sessionRises", fn := fun _ => fun
  | [d1, d2, d3, d4] => { results := [.lit (.bool true)], args := [d1, d2, d3, d4] }
  | _ => none }
def sessionRisesRow : OpenClaim := { program := "ytghicjkponnceaa", sum := "34931d03f55e4c2b999f1db8cb1c01087d0292a75c0843c71a5455d11fe7bf01", func := "palaver/palaverlaw12.SessionRises", spec := "sessionRises", apart := false }
def SessionRisesSaid : Prop := sessionRisesRow.holds Try.pinned (OpenSpec.ofChange sessionRisesSpec)

/-- ITS FALSE NEIGHBOUR: 'it returns false'. Refute it at one input. -/
def sessionRisesWrong : ChangeSpec := { name := "sessionRises", fn := fun _ => fun
  | [d1, d2, d3, d4] => { results := [.lit (.bool false)], args := [d1, d2, d3, d4] }
  | _ => none }
def SessionRisesWrongFalsely : Prop := sessionRisesRow.holds Try.pinned (OpenSpec.ofChange sessionRisesWrong)

/-- 'palaverlaw08.MemberMeet': WHATEVER THE INPUT: true; the input reads as it did. -/
def memberMeetSpec : ChangeSpec := { name := "memberMeet", fn := fun _ => fun
  | [d1, d2, d3, d4] => { results := [.lit (.bool true)], args := [d1, d2, d3, d4] }
  | _ => none }
def memberMeetRow : OpenClaim := { program := "ytghicjkponnceaa", sum := "34931d03f55e4c2b999f1db8cb1c01087d0292a75c0843c71a5455d11fe7bf01", func := "palaver/palaverlaw08.MemberMeet", spec := "memberMeet", apart := false }
def MemberMeetSaid : Prop := memberMeetRow.holds Try.pinned (OpenSpec.ofChange memberMeetSpec)

/-- ITS FALSE NEIGHBOUR: 'it returns false'. Refute it at one input. -/
def memberMeetWrong : ChangeSpec := { name := "memberMeet", fn := fun _ => fun
  | [d1, d2, d3, d4] => { results := [.lit (.bool false)], args := [d1, d2, d3, d4] }
  | _ => none }
def MemberMeetWrongFalsely : Prop := memberMeetRow.holds Try.pinned (OpenSpec.ofChange memberMeetWrong)

/-- 'palaverlaw08.MemberSets': WHATEVER THE INPUT: true; the input reads as it did. -/
def memberSetsSpec : ChangeSpec := { name := "memberSets", fn := fun _ => fun
  | [d1, d2] => { results := [.lit (.bool true)], args := [d1, d2] }
  | _ => none }
def memberSetsRow : OpenClaim := { program := "ytghicjkponnceaa", sum := "34931d03f55e4c2b999f1db8cb1c01087d0292a75c0843c71a5455d11fe7bf01", func := "palaver/palaverlaw08.MemberSets", spec := "memberSets", apart := false }
def MemberSetsSaid : Prop := memberSetsRow.holds Try.pinned (OpenSpec.ofChange memberSetsSpec)

/-- ITS FALSE NEIGHBOUR: 'it returns false'. Refute it at one input. -/
def memberSetsWrong : ChangeSpec := { name := "memberSets", fn := fun _ => fun
  | [d1, d2] => { results := [.lit (.bool false)], args := [d1, d2] }
  | _ => none }
def MemberSetsWrongFalsely : Prop := memberSetsRow.holds Try.pinned (OpenSpec.ofChange memberSetsWrong)

/-- 'palaverlaw08.MemberTells': WHATEVER THE INPUT: true; the input reads as it did. -/
def memberTellsSpec : ChangeSpec := { name := "memberTells", fn := fun _ => fun
  | [d1, d2, d3, d4] => { results := [.lit (.bool true)], args := [d1, d2, d3, d4] }
  | _ => none }
def memberTellsRow : OpenClaim := { program := "ytghicjkponnceaa", sum := "34931d03f55e4c2b999f1db8cb1c01087d0292a75c0843c71a5455d11fe7bf01", func := "palaver/palaverlaw08.MemberTells", spec := "memberTells", unfollowed := true, recurses := true, apart := false }
def MemberTellsSaid : Prop := memberTellsRow.holds Try.pinned (OpenSpec.ofChange memberTellsSpec)

/-- ITS FALSE NEIGHBOUR: 'it returns false'. Refute it at one input. -/
def memberTellsWrong : ChangeSpec := { name := "memberTells", fn := fun _ => fun
  | [d1, d2, d3, d4] => { results := [.lit (.bool false)], args := [d1, d2, d3, d4] }
  | _ => none }
def MemberTellsWrongFalsely : Prop := memberTellsRow.holds Try.pinned (OpenSpec.ofChange memberTellsWrong)

/-- 'palaverlaw08.MemberAlgebra': WHATEVER THE INPUT: true; the input reads as it did. -/
def memberAlgebraSpec : ChangeSpec := { name := "memberAlgebra", fn := fun _ => fun
  | [d1, d2, d3] => { results := [.lit (.bool true)], args := [d1, d2, d3] }
  | _ => none }
def memberAlgebraRow : OpenClaim := { program := "ytghicjkponnceaa", sum := "34931d03f55e4c2b999f1db8cb1c01087d0292a75c0843c71a5455d11fe7bf01", func := "palaver/palaverlaw08.MemberAlgebra", spec := "memberAlgebra", unfollowed := true, recurses := true, apart := false }
def MemberAlgebraSaid : Prop := memberAlgebraRow.holds Try.pinned (OpenSpec.ofChange memberAlgebraSpec)

/-- ITS FALSE NEIGHBOUR: 'it returns false'. Refute it at one input. -/
def memberAlgebraWrong : ChangeSpec := { name := "memberAlgebra", fn := fun _ => fun
  | [d1, d2, d3] => { results := [.lit (.bool false)], args := [d1, d2, d3] }
  | _ => none }
def MemberAlgebraWrongFalsely : Prop := memberAlgebraRow.holds Try.pinned (OpenSpec.ofChange memberAlgebraWrong)

/-- 'palaverlaw12.SessionPlays': WHATEVER THE INPUT: true; the input reads as it did. -/
def sessionPlaysSpec : ChangeSpec := { name := "sessionPlays", fn := fun _ => fun
  | [d] => { results := [.lit (.bool true)], args := [d] }
  | _ => none }
def sessionPlaysRow : OpenClaim := { program := "ytghicjkponnceaa", sum := "34931d03f55e4c2b999f1db8cb1c01087d0292a75c0843c71a5455d11fe7bf01", func := "palaver/palaverlaw12.SessionPlays", spec := "sessionPlays", apart := false }
def SessionPlaysSaid : Prop := sessionPlaysRow.holds Try.pinned (OpenSpec.ofChange sessionPlaysSpec)

/-- ITS FALSE NEIGHBOUR: 'it returns false'. Refute it at one input. -/
def sessionPlaysWrong : ChangeSpec := { name := "sessionPlays", fn := fun _ => fun
  | [d] => { results := [.lit (.bool false)], args := [d] }
  | _ => none }
def SessionPlaysWrongFalsely : Prop := sessionPlaysRow.holds Try.pinned (OpenSpec.ofChange sessionPlaysWrong)

/-- 'palaverlaw15.ChainAhead': WHATEVER THE INPUT: true; the input reads as it did. -/
def chainAheadSpec : ChangeSpec := { name := "chainAhead", fn := fun _ => fun
  | [d1, d2, d3, d4] => { results := [.lit (.bool true)], args := [d1, d2, d3, d4] }
  | _ => none }
def chainAheadRow : OpenClaim := { program := "ytghicjkponnceaa", sum := "34931d03f55e4c2b999f1db8cb1c01087d0292a75c0843c71a5455d11fe7bf01", func := "palaver/palaverlaw15.ChainAhead", spec := "chainAhead", unfollowed := true, recurses := true, apart := false }
def ChainAheadSaid : Prop := chainAheadRow.holds Try.pinned (OpenSpec.ofChange chainAheadSpec)

/-- ITS FALSE NEIGHBOUR: 'it returns false'. Refute it at one input. -/
def chainAheadWrong : ChangeSpec := { name := "chainAhead", fn := fun _ => fun
  | [d1, d2, d3, d4] => { results := [.lit (.bool false)], args := [d1, d2, d3, d4] }
  | _ => none }
def ChainAheadWrongFalsely : Prop := chainAheadRow.holds Try.pinned (OpenSpec.ofChange chainAheadWrong)

/-- 'palaverlaw27.ClientPlays': WHATEVER THE INPUT: true; the input reads as it did. -/
def clientPlaysSpec : ChangeSpec := { name := "clientPlays", fn := fun _ => fun
  | [d1, d2, d3] => { results := [.lit (.bool true)], args := [d1, d2, d3] }
  | _ => none }
def clientPlaysRow : OpenClaim := { program := "ytghicjkponnceaa", sum := "34931d03f55e4c2b999f1db8cb1c01087d0292a75c0843c71a5455d11fe7bf01", func := "palaver/palaverlaw27.ClientPlays", spec := "clientPlays", unfollowed := true, recurses := true, apart := false }
def ClientPlaysSaid : Prop := clientPlaysRow.holds Try.pinned (OpenSpec.ofChange clientPlaysSpec)

/-- ITS FALSE NEIGHBOUR: 'it returns false'. Refute it at one input. -/
def clientPlaysWrong : ChangeSpec := { name := "clientPlays", fn := fun _ => fun
  | [d1, d2, d3] => { results := [.lit (.bool false)], args := [d1, d2, d3] }
  | _ => none }
def ClientPlaysWrongFalsely : Prop := clientPlaysRow.holds Try.pinned (OpenSpec.ofChange clientPlaysWrong)

/-- 'palaverlaw27.ClientNil': WHATEVER THE INPUT: true; the input reads as it did. -/
def clientNilSpec : ChangeSpec := { name := "clientNil", fn := fun _ => fun
  | [d] => { results := [.lit (.bool true)], args := [d] }
  | _ => none }
def clientNilRow : OpenClaim := { program := "ytghicjkponnceaa", sum := "34931d03f55e4c2b999f1db8cb1c01087d0292a75c0843c71a5455d11fe7bf01", func := "palaver/palaverlaw27.ClientNil", spec := "clientNil", unfollowed := true, recurses := true, apart := false }
def ClientNilSaid : Prop := clientNilRow.holds Try.pinned (OpenSpec.ofChange clientNilSpec)

/-- ITS FALSE NEIGHBOUR: 'it returns false'. Refute it at one input. -/
def clientNilWrong : ChangeSpec := { name := "clientNil", fn := fun _ => fun
  | [d] => { results := [.lit (.bool false)], args := [d] }
  | _ => none }
def ClientNilWrongFalsely : Prop := clientNilRow.holds Try.pinned (OpenSpec.ofChange clientNilWrong)

/-- 'palaverlaw27.ClientOnce': WHATEVER THE INPUT: true; the input reads as it did. -/
def clientOnceSpec : ChangeSpec := { name := "clientOnce", fn := fun _ => fun
  | [d1, d2, d3] => { results := [.lit (.bool true)], args := [d1, d2, d3] }
  | _ => none }
def clientOnceRow : OpenClaim := { program := "ytghicjkponnceaa", sum := "34931d03f55e4c2b999f1db8cb1c01087d0292a75c0843c71a5455d11fe7bf01", func := "palaver/palaverlaw27.ClientOnce", spec := "clientOnce", unfollowed := true, recurses := true, apart := false }
def ClientOnceSaid : Prop := clientOnceRow.holds Try.pinned (OpenSpec.ofChange clientOnceSpec)

/-- ITS FALSE NEIGHBOUR: 'it returns false'. Refute it at one input. -/
def clientOnceWrong : ChangeSpec := { name := "clientOnce", fn := fun _ => fun
  | [d1, d2, d3] => { results := [.lit (.bool false)], args := [d1, d2, d3] }
  | _ => none }
def ClientOnceWrongFalsely : Prop := clientOnceRow.holds Try.pinned (OpenSpec.ofChange clientOnceWrong)

/-- 'palaverlaw27.ClientRound': WHATEVER THE INPUT: true; the input reads as it did. -/
def clientRoundSpec : ChangeSpec := { name := "clientRound", fn := fun _ => fun
  | [d1, d2, d3] => { results := [.lit (.bool true)], args := [d1, d2, d3] }
  | _ => none }
def clientRoundRow : OpenClaim := { program := "ytghicjkponnceaa", sum := "34931d03f55e4c2b999f1db8cb1c01087d0292a75c0843c71a5455d11fe7bf01", func := "palaver/palaverlaw27.ClientRound", spec := "clientRound", unfollowed := true, recurses := true, apart := false }
def ClientRoundSaid : Prop := clientRoundRow.holds Try.pinned (OpenSpec.ofChange clientRoundSpec)

/-- ITS FALSE NEIGHBOUR: 'it returns false'. Refute it at one input. -/
def clientRoundWrong : ChangeSpec := { name := "clientRound", fn := fun _ => fun
  | [d1, d2, d3] => { results := [.lit (.bool false)], args := [d1, d2, d3] }
  | _ => none }
def ClientRoundWrongFalsely : Prop := clientRoundRow.holds Try.pinned (OpenSpec.ofChange clientRoundWrong)

/-- 'palaverlaw07.BallotCalls': WHATEVER THE INPUT: true; the input reads as it did. -/
def ballotCallsSpec : ChangeSpec := { name := "ballotCalls", fn := fun _ => fun
  | [d1, d2, d3, d4] => { results := [.lit (.bool true)], args := [d1, d2, d3, d4] }
  | _ => none }
def ballotCallsRow : OpenClaim := { program := "ytghicjkponnceaa", sum := "34931d03f55e4c2b999f1db8cb1c01087d0292a75c0843c71a5455d11fe7bf01", func := "palaver/palaverlaw07.BallotCalls", spec := "ballotCalls", apart := false }
def BallotCallsSaid : Prop := ballotCallsRow.holds Try.pinned (OpenSpec.ofChange ballotCallsSpec)

/-- ITS FALSE NEIGHBOUR: 'it returns false'. Refute it at one input. -/
def ballotCallsWrong : ChangeSpec := { name := "ballotCalls", fn := fun _ => fun
  | [d1, d2, d3, d4] => { results := [.lit (.bool false)], args := [d1, d2, d3, d4] }
  | _ => none }
def BallotCallsWrongFalsely : Prop := ballotCallsRow.holds Try.pinned (OpenSpec.ofChange ballotCallsWrong)

/- THE SECOND FORM. 'bulk': how many values and letters a reading holds, each counted each time it is reached (what is shared counts as often as it is met; a slice's spare places count too). A statement '..UptoSaid' is the law's where the arguments, and the package variables that the reading takes, are together of bulk at most 1048576: NARROWER than '..Said'. Prove '..Said' where nothing that the law and all that it calls make is longer than what came in: it says more and counts as full. Else prove '..UptoSaid'. A law counts once. -/
mutual
def uptoBulk {H : Type} : DataW H → Nat
  | .lit (.string bytes) => bytes.length + 1
  | .lit _ => 1
  | .nil => 1
  | .ptr d => uptoBulk d + 1
  | .slice elems spare => uptoBulkAll elems + uptoBulkAll spare + 1
  | .agg parts => uptoBulkAll parts + 1
  | .iface _ d => uptoBulk d + 1
  | .map entries => uptoBulkEntries entries + 1
  | .held _ => 1
def uptoBulkAll {H : Type} : List (DataW H) → Nat
  | [] => 0
  | d :: r => uptoBulk d + uptoBulkAll r
def uptoBulkEntries {H : Type} : List (Lit × DataW H) → Nat
  | [] => 0
  | x :: r => uptoBulkEntry x + uptoBulkEntries r
def uptoBulkEntry {H : Type} : Lit × DataW H → Nat
  | (.string bytes, d) => bytes.length + uptoBulk d + 1
  | (_, d) => uptoBulk d + 1
 end
def uptoSmall : (H : Type) → List (DataW H) → Bool := fun _ ds => decide (uptoBulkAll ds ≤ 1048576)
def OpenSpec.upto (s : _root_.Go.ChangeSpec) : _root_.Go.OpenSpec := { _root_.Go.OpenSpec.ofChange s with cond := some uptoSmall }

/-- 'palaverlaw12.SessionRises', WHERE WHAT IT READS IS OF BULK AT MOST 1048576: true; the input reads as it did. -/
def sessionRisesUptoRow : OpenClaim := { program := "ytghicjkponnceaa", sum := "34931d03f55e4c2b999f1db8cb1c01087d0292a75c0843c71a5455d11fe7bf01", func := "palaver/palaverlaw12.SessionRises", spec := "sessionRises", apart := false, narrowed := true }
def SessionRisesUptoSaid : Prop := sessionRisesUptoRow.holds Try.pinned (OpenSpec.upto sessionRisesSpec)

/-- 'palaverlaw08.MemberMeet', WHERE WHAT IT READS IS OF BULK AT MOST 1048576: true; the input reads as it did. -/
def memberMeetUptoRow : OpenClaim := { program := "ytghicjkponnceaa", sum := "34931d03f55e4c2b999f1db8cb1c01087d0292a75c0843c71a5455d11fe7bf01", func := "palaver/palaverlaw08.MemberMeet", spec := "memberMeet", apart := false, narrowed := true }
def MemberMeetUptoSaid : Prop := memberMeetUptoRow.holds Try.pinned (OpenSpec.upto memberMeetSpec)

/-- 'palaverlaw08.MemberSets', WHERE WHAT IT READS IS OF BULK AT MOST 1048576: true; the input reads as it did. -/
def memberSetsUptoRow : OpenClaim := { program := "ytghicjkponnceaa", sum := "34931d03f55e4c2b999f1db8cb1c01087d0292a75c0843c71a5455d11fe7bf01", func := "palaver/palaverlaw08.MemberSets", spec := "memberSets", apart := false, narrowed := true }
def MemberSetsUptoSaid : Prop := memberSetsUptoRow.holds Try.pinned (OpenSpec.upto memberSetsSpec)

/-- 'palaverlaw08.MemberTells', WHERE WHAT IT READS IS OF BULK AT MOST 1048576: true; the input reads as it did. -/
def memberTellsUptoRow : OpenClaim := { program := "ytghicjkponnceaa", sum := "34931d03f55e4c2b999f1db8cb1c01087d0292a75c0843c71a5455d11fe7bf01", func := "palaver/palaverlaw08.MemberTells", spec := "memberTells", unfollowed := true, recurses := true, apart := false, narrowed := true }
def MemberTellsUptoSaid : Prop := memberTellsUptoRow.holds Try.pinned (OpenSpec.upto memberTellsSpec)

/-- 'palaverlaw08.MemberAlgebra', WHERE WHAT IT READS IS OF BULK AT MOST 1048576: true; the input reads as it did. -/
def memberAlgebraUptoRow : OpenClaim := { program := "ytghicjkponnceaa", sum := "34931d03f55e4c2b999f1db8cb1c01087d0292a75c0843c71a5455d11fe7bf01", func := "palaver/palaverlaw08.MemberAlgebra", spec := "memberAlgebra", unfollowed := true, recurses := true, apart := false, narrowed := true }
def MemberAlgebraUptoSaid : Prop := memberAlgebraUptoRow.holds Try.pinned (OpenSpec.upto memberAlgebraSpec)

/-- 'palaverlaw12.SessionPlays', WHERE WHAT IT READS IS OF BULK AT MOST 1048576: true; the input reads as it did. -/
def sessionPlaysUptoRow : OpenClaim := { program := "ytghicjkponnceaa", sum := "34931d03f55e4c2b999f1db8cb1c01087d0292a75c0843c71a5455d11fe7bf01", func := "palaver/palaverlaw12.SessionPlays", spec := "sessionPlays", apart := false, narrowed := true }
def SessionPlaysUptoSaid : Prop := sessionPlaysUptoRow.holds Try.pinned (OpenSpec.upto sessionPlaysSpec)

/-- 'palaverlaw15.ChainAhead', WHERE WHAT IT READS IS OF BULK AT MOST 1048576: true; the input reads as it did. -/
def chainAheadUptoRow : OpenClaim := { program := "ytghicjkponnceaa", sum := "34931d03f55e4c2b999f1db8cb1c01087d0292a75c0843c71a5455d11fe7bf01", func := "palaver/palaverlaw15.ChainAhead", spec := "chainAhead", unfollowed := true, recurses := true, apart := false, narrowed := true }
def ChainAheadUptoSaid : Prop := chainAheadUptoRow.holds Try.pinned (OpenSpec.upto chainAheadSpec)

/-- 'palaverlaw27.ClientPlays', WHERE WHAT IT READS IS OF BULK AT MOST 1048576: true; the input reads as it did. -/
def clientPlaysUptoRow : OpenClaim := { program := "ytghicjkponnceaa", sum := "34931d03f55e4c2b999f1db8cb1c01087d0292a75c0843c71a5455d11fe7bf01", func := "palaver/palaverlaw27.ClientPlays", spec := "clientPlays", unfollowed := true, recurses := true, apart := false, narrowed := true }
def ClientPlaysUptoSaid : Prop := clientPlaysUptoRow.holds Try.pinned (OpenSpec.upto clientPlaysSpec)

/-- 'palaverlaw27.ClientNil', WHERE WHAT IT READS IS OF BULK AT MOST 1048576: true; the input reads as it did. -/
def clientNilUptoRow : OpenClaim := { program := "ytghicjkponnceaa", sum := "34931d03f55e4c2b999f1db8cb1c01087d0292a75c0843c71a5455d11fe7bf01", func := "palaver/palaverlaw27.ClientNil", spec := "clientNil", unfollowed := true, recurses := true, apart := false, narrowed := true }
def ClientNilUptoSaid : Prop := clientNilUptoRow.holds Try.pinned (OpenSpec.upto clientNilSpec)

/-- 'palaverlaw27.ClientOnce', WHERE WHAT IT READS IS OF BULK AT MOST 1048576: true; the input reads as it did. -/
def clientOnceUptoRow : OpenClaim := { program := "ytghicjkponnceaa", sum := "34931d03f55e4c2b999f1db8cb1c01087d0292a75c0843c71a5455d11fe7bf01", func := "palaver/palaverlaw27.ClientOnce", spec := "clientOnce", unfollowed := true, recurses := true, apart := false, narrowed := true }
def ClientOnceUptoSaid : Prop := clientOnceUptoRow.holds Try.pinned (OpenSpec.upto clientOnceSpec)

/-- 'palaverlaw27.ClientRound', WHERE WHAT IT READS IS OF BULK AT MOST 1048576: true; the input reads as it did. -/
def clientRoundUptoRow : OpenClaim := { program := "ytghicjkponnceaa", sum := "34931d03f55e4c2b999f1db8cb1c01087d0292a75c0843c71a5455d11fe7bf01", func := "palaver/palaverlaw27.ClientRound", spec := "clientRound", unfollowed := true, recurses := true, apart := false, narrowed := true }
def ClientRoundUptoSaid : Prop := clientRoundUptoRow.holds Try.pinned (OpenSpec.upto clientRoundSpec)

/-- 'palaverlaw07.BallotCalls', WHERE WHAT IT READS IS OF BULK AT MOST 1048576: true; the input reads as it did. -/
def ballotCallsUptoRow : OpenClaim := { program := "ytghicjkponnceaa", sum := "34931d03f55e4c2b999f1db8cb1c01087d0292a75c0843c71a5455d11fe7bf01", func := "palaver/palaverlaw07.BallotCalls", spec := "ballotCalls", apart := false, narrowed := true }
def BallotCallsUptoSaid : Prop := ballotCallsUptoRow.holds Try.pinned (OpenSpec.upto ballotCallsSpec)

end Rows
end Go.Proofs.Ytghicjkponnceaa
