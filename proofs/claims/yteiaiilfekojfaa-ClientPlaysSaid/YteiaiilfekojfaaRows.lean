/-
  No cell of these rows narrows 'for every input' (looked for: loops, veiled, ifaces, maps, wideKeys, modest, calm, conditions, laid).
  DERIVED. THE GIVEN ROWS OF THIS SEAT. 5 by the template 'for every input the law returns true; each argument reads behind the call as it read before'; 0 by the template 'total and deterministic' (their statements: YteiaiilfekojfaaTotals.lean).
  GIVEN WITH THE SEED: the statements are not yours to turn. If you find one false, say at which input.
  Laid BY PROGRAM, IN A SANDBOX (cutbox-rows.mjs): the forced cells as the released guide's own fill.sh prints them over the translation d59a5d50b2cbd479… (all of the seat's roots in one cut). By AI agents, Wed Nov 11 2026. No macro, syntax, notation, axiom, sorry.
-/
import Derived.Test.YteiaiilfekojfaaChecked
import GoSem.Claim
import GoSem.ClaimJoined
import GoSem.ClaimMapViews
import Derived.JoinedTies
import Derived.KernelRfl
namespace Go.Proofs.Yteiaiilfekojfaa
/- THE CELL 'sum', in the pinned program and in every row, IS THE sha256 OF THE DUMP (.gsa) THAT YteiaiilfekojfaaProg.lean LOADS. Nothing in Lean hashes anything: it is a label: what it is worth is what the hold of that sum in a sandbox is worth. -/
noncomputable def Try.pinned : Pinned := { name := "yteiaiilfekojfaa", sum := "d59a5d50b2cbd479b6513c09d530d3013528cb8c99e7516e0d3fbe23e28f7965", checked := Try.checked }
namespace Rows
def none {H : Type} : Left H := { results := [], args := [] }

/-- 'palaverlaw27.ClientPlays': WHATEVER THE INPUT: true; the input reads as it did. -/
def clientPlaysSpec : ChangeSpec := { name := "clientPlays", fn := fun _ => fun
  | [d1, d2, d3] => { results := [.lit (.bool true)], args := [d1, d2, d3] }
  | _ => none }
def clientPlaysRow : OpenClaim := { program := "yteiaiilfekojfaa", sum := "d59a5d50b2cbd479b6513c09d530d3013528cb8c99e7516e0d3fbe23e28f7965", func := "palaver/palaverlaw27.ClientPlays", spec := "clientPlays", unfollowed := true, recurses := true, apart := false }
def ClientPlaysSaid : Prop := clientPlaysRow.holds Try.pinned (OpenSpec.ofChange clientPlaysSpec)

/-- ITS FALSE NEIGHBOUR: 'it returns false'. Refute it at one input. -/
def clientPlaysWrong : ChangeSpec := { name := "clientPlays", fn := fun _ => fun
  | [d1, d2, d3] => { results := [.lit (.bool false)], args := [d1, d2, d3] }
  | _ => none }
def ClientPlaysWrongFalsely : Prop := clientPlaysRow.holds Try.pinned (OpenSpec.ofChange clientPlaysWrong)

/-- 'palaverlaw18.MsgLong': WHATEVER THE INPUT: true; the input reads as it did. -/
def msgLongSpec : ChangeSpec := { name := "msgLong", fn := fun _ => fun
  | [] => { results := [.lit (.bool true)], args := [] }
  | _ => none }
def msgLongRow : OpenClaim := { program := "yteiaiilfekojfaa", sum := "d59a5d50b2cbd479b6513c09d530d3013528cb8c99e7516e0d3fbe23e28f7965", func := "palaver/palaverlaw18.MsgLong", spec := "msgLong", unfollowed := true, recurses := true, apart := false }
def MsgLongSaid : Prop := msgLongRow.holds Try.pinned (OpenSpec.ofChange msgLongSpec)

/-- ITS FALSE NEIGHBOUR: 'it returns false'. Refute it at one input. -/
def msgLongWrong : ChangeSpec := { name := "msgLong", fn := fun _ => fun
  | [] => { results := [.lit (.bool false)], args := [] }
  | _ => none }
def MsgLongWrongFalsely : Prop := msgLongRow.holds Try.pinned (OpenSpec.ofChange msgLongWrong)

/-- 'palaverlaw18.MsgBack': WHATEVER THE INPUT: true; the input reads as it did. -/
def msgBackSpec : ChangeSpec := { name := "msgBack", fn := fun _ => fun
  | [d1, d2, d3] => { results := [.lit (.bool true)], args := [d1, d2, d3] }
  | _ => none }
def msgBackRow : OpenClaim := { program := "yteiaiilfekojfaa", sum := "d59a5d50b2cbd479b6513c09d530d3013528cb8c99e7516e0d3fbe23e28f7965", func := "palaver/palaverlaw18.MsgBack", spec := "msgBack", unfollowed := true, recurses := true, apart := false }
def MsgBackSaid : Prop := msgBackRow.holds Try.pinned (OpenSpec.ofChange msgBackSpec)

/-- ITS FALSE NEIGHBOUR: 'it returns false'. Refute it at one input. -/
def msgBackWrong : ChangeSpec := { name := "msgBack", fn := fun _ => fun
  | [d1, d2, d3] => { results := [.lit (.bool false)], args := [d1, d2, d3] }
  | _ => none }
def MsgBackWrongFalsely : Prop := msgBackRow.holds Try.pinned (OpenSpec.ofChange msgBackWrong)

/-- 'palaverlaw18.MsgBits': WHATEVER THE INPUT: true; the input reads as it did. -/
def msgBitsSpec : ChangeSpec := { name := "msgBits", fn := fun _ => fun
  | [d1, d2] => { results := [.lit (.bool true)], args := [d1, d2] }
  | _ => none }
def msgBitsRow : OpenClaim := { program := "yteiaiilfekojfaa", sum := "d59a5d50b2cbd479b6513c09d530d3013528cb8c99e7516e0d3fbe23e28f7965", func := "palaver/palaverlaw18.MsgBits", spec := "msgBits", unfollowed := true, recurses := true, apart := false }
def MsgBitsSaid : Prop := msgBitsRow.holds Try.pinned (OpenSpec.ofChange msgBitsSpec)

/-- ITS FALSE NEIGHBOUR: 'it returns false'. Refute it at one input. -/
def msgBitsWrong : ChangeSpec := { name := "msgBits", fn := fun _ => fun
  | [d1, d2] => { results := [.lit (.bool false)], args := [d1, d2] }
  | _ => none }
def MsgBitsWrongFalsely : Prop := msgBitsRow.holds Try.pinned (OpenSpec.ofChange msgBitsWrong)

/-- 'palaverlaw18.MsgOwn': WHATEVER THE INPUT: true; the input reads as it did. -/
def msgOwnSpec : ChangeSpec := { name := "msgOwn", fn := fun _ => fun
  | [d] => { results := [.lit (.bool true)], args := [d] }
  | _ => none }
def msgOwnRow : OpenClaim := { program := "yteiaiilfekojfaa", sum := "d59a5d50b2cbd479b6513c09d530d3013528cb8c99e7516e0d3fbe23e28f7965", func := "palaver/palaverlaw18.MsgOwn", spec := "msgOwn", unfollowed := true, recurses := true, apart := false }
def MsgOwnSaid : Prop := msgOwnRow.holds Try.pinned (OpenSpec.ofChange msgOwnSpec)

/-- ITS FALSE NEIGHBOUR: 'it returns false'. Refute it at one input. -/
def msgOwnWrong : ChangeSpec := { name := "msgOwn", fn := fun _ => fun
  | [d] => { results := [.lit (.bool false)], args := [d] }
  | _ => none }
def MsgOwnWrongFalsely : Prop := msgOwnRow.holds Try.pinned (OpenSpec.ofChange msgOwnWrong)

/- THE SECOND FORM. 'bulk': how many values and letters a reading holds, each counted each time it is reached (what is shared counts as often as it is met; a slice's spare places count too). A statement '..UptoSaid' is the law's where the arguments, and the package variables that the reading takes, are together of bulk at most 1048576: NARROWER than '..Said'. Prove '..Said' where nothing that the law and all that it calls make is longer than what came in: it says more and counts as full. Else prove '..UptoSaid'. A law counts once. -/
mutual
def uptoBulk {H : Type} : DataW H → Nat
  | .lit (.string bytes) => bytes.length + 1
  | .lit _ => 1
  | .nil => 1
  | .ptr d => uptoBulk d + 1
  | .slice elems spare => uptoBulkAll elems + uptoBulkAll spare + 1
  | .agg parts => uptoBulkAll parts + 1
  | .iface _ d => uptoBulk d + 1
  | .map entries => uptoBulkEntries entries + 1
  | .held _ => 1
def uptoBulkAll {H : Type} : List (DataW H) → Nat
  | [] => 0
  | d :: r => uptoBulk d + uptoBulkAll r
def uptoBulkEntries {H : Type} : List (Lit × DataW H) → Nat
  | [] => 0
  | x :: r => uptoBulkEntry x + uptoBulkEntries r
def uptoBulkEntry {H : Type} : Lit × DataW H → Nat
  | (.string bytes, d) => bytes.length + uptoBulk d + 1
  | (_, d) => uptoBulk d + 1
 end
def uptoSmall : (H : Type) → List (DataW H) → Bool := fun _ ds => decide (uptoBulkAll ds ≤ 1048576)
def OpenSpec.upto (s : _root_.Go.ChangeSpec) : _root_.Go.OpenSpec := { _root_.Go.OpenSpec.ofChange s with cond := some uptoSmall }

/-- 'palaverlaw27.ClientPlays', WHERE WHAT IT READS IS OF BULK AT MOST 1048576: true; the input reads as it did. -/
def clientPlaysUptoRow : OpenClaim := { program := "yteiaiilfekojfaa", sum := "d59a5d50b2cbd479b6513c09d530d3013528cb8c99e7516e0d3fbe23e28f7965", func := "palaver/palaverlaw27.ClientPlays", spec := "clientPlays", unfollowed := true, recurses := true, apart := false, narrowed := true }
def ClientPlaysUptoSaid : Prop := clientPlaysUptoRow.holds Try.pinned (OpenSpec.upto clientPlaysSpec)

/-- 'palaverlaw18.MsgLong', WHERE WHAT IT READS IS OF BULK AT MOST 1048576: true; the input reads as it did. -/
def msgLongUptoRow : OpenClaim := { program := "yteiaiilfekojfaa", sum := "d59a5d50b2cbd479b6513c09d530d3013528cb8c99e7516e0d3fbe23e28f7965", func := "palaver/palaverlaw18.MsgLong", spec := "msgLong", unfollowed := true, recurses := true, apart := false, narrowed := true }
def MsgLongUptoSaid : Prop := msgLongUptoRow.holds Try.pinned (OpenSpec.upto msgLongSpec)

/-- 'palaverlaw18.MsgBack', WHERE WHAT IT READS IS OF BULK AT MOST 1048576: true; the input reads as it did. -/
def msgBackUptoRow : OpenClaim := { program := "yteiaiilfekojfaa", sum := "d59a5d50b2cbd479b6513c09d530d3013528cb8c99e7516e0d3fbe23e28f7965", func := "palaver/palaverlaw18.MsgBack", spec := "msgBack", unfollowed := true, recurses := true, apart := false, narrowed := true }
def MsgBackUptoSaid : Prop := msgBackUptoRow.holds Try.pinned (OpenSpec.upto msgBackSpec)

/-- 'palaverlaw18.MsgBits', WHERE WHAT IT READS IS OF BULK AT MOST 1048576: true; the input reads as it did. -/
def msgBitsUptoRow : OpenClaim := { program := "yteiaiilfekojfaa", sum := "d59a5d50b2cbd479b6513c09d530d3013528cb8c99e7516e0d3fbe23e28f7965", func := "palaver/palaverlaw18.MsgBits", spec := "msgBits", unfollowed := true, recurses := true, apart := false, narrowed := true }
def MsgBitsUptoSaid : Prop := msgBitsUptoRow.holds Try.pinned (OpenSpec.upto msgBitsSpec)

/-- 'palaverlaw18.MsgOwn', WHERE WHAT IT READS IS OF BULK AT MOST 1048576: true; the input reads as it did. -/
def msgOwnUptoRow : OpenClaim := { program := "yteiaiilfekojfaa", sum := "d59a5d50b2cbd479b6513c09d530d3013528cb8c99e7516e0d3fbe23e28f7965", func := "palaver/palaverlaw18.MsgOwn", spec := "msgOwn", unfollowed := true, recurses := true, apart := false, narrowed := true }
def MsgOwnUptoSaid : Prop := msgOwnUptoRow.holds Try.pinned (OpenSpec.upto msgOwnSpec)

end Rows
end Go.Proofs.Yteiaiilfekojfaa
