/-
  No cell of these rows narrows 'for every input' (looked for: loops, veiled, ifaces, maps, wideKeys, modest, calm, conditions, laid).
  DERIVED. THE GIVEN ROWS OF THIS SEAT. 10 by the template 'for every input the law returns true; each argument reads behind the call as it read before'; 0 by the template 'total and deterministic' (their statements: YtgpdggojajjppaaTotals.lean).
  GIVEN WITH THE SEED: the statements are not yours to turn. If you find one false, say at which input.
  Laid BY PROGRAM, IN A SANDBOX (cutbox-rows.mjs): the forced cells as the released guide's own fill.sh prints them over the translation 514f4f643819b4d1… (all of the seat's roots in one cut). By AI agents, Wed Nov 11 2026. No macro, syntax, notation, axiom, sorry.
-/
import Derived.Test.YtgpdggojajjppaaChecked
import GoSem.Claim
import GoSem.ClaimJoined
import GoSem.ClaimMapViews
import Derived.JoinedTies
import Derived.KernelRfl
namespace Go.Proofs.Ytgpdggojajjppaa
/- THE CELL 'sum', in the pinned program and in every row, IS THE sha256 OF THE DUMP (.gsa) THAT YtgpdggojajjppaaProg.lean LOADS. Nothing in Lean hashes anything: it is a label: what it is worth is what the hold of that sum in a sandbox is worth. -/
noncomputable def Try.pinned : Pinned := { name := "ytgpdggojajjppaa", sum := "514f4f643819b4d19537e2f4a97ee8c4c247530e0f3a6d87d87ff811069f237b", checked := Try.checked }
namespace Rows
def none {H : Type} : Left H := { results := [], args := [] }

/-- 'palaverlaw27.ClientPlays': WHATEVER THE INPUT: true; the input reads as it did. -/
def clientPlaysSpec : ChangeSpec := { name := "clientPlays", fn := fun _ => fun
  | [d1, d2, d3] => { results := [.lit (.bool true)], args := [d1, d2, d3] }
  | _ => none }
def clientPlaysRow : OpenClaim := { program := "ytgpdggojajjppaa", sum := "514f4f643819b4d19537e2f4a97ee8c4c247530e0f3a6d87d87ff811069f237b", func := "palaver/palaverlaw27.ClientPlays", spec := "clientPlays", unfollowed := true, recurses := true, apart := false }
def ClientPlaysSaid : Prop := clientPlaysRow.holds Try.pinned (OpenSpec.ofChange clientPlaysSpec)

/-- ITS FALSE NEIGHBOUR: 'it returns false'. Refute it at one input. -/
def clientPlaysWrong : ChangeSpec := { name := "clientPlays", fn := fun _ => fun
  | [d1, d2, d3] => { results := [.lit (.bool false)], args := [d1, d2, d3] }
  | _ => none }
def ClientPlaysWrongFalsely : Prop := clientPlaysRow.holds Try.pinned (OpenSpec.ofChange clientPlaysWrong)

/-- 'palaverlaw27.ClientNil': WHATEVER THE INPUT: true; the input reads as it did. -/
def clientNilSpec : ChangeSpec := { name := "clientNil", fn := fun _ => fun
  | [d] => { results := [.lit (.bool true)], args := [d] }
  | _ => none }
def clientNilRow : OpenClaim := { program := "ytgpdggojajjppaa", sum := "514f4f643819b4d19537e2f4a97ee8c4c247530e0f3a6d87d87ff811069f237b", func := "palaver/palaverlaw27.ClientNil", spec := "clientNil", unfollowed := true, recurses := true, apart := false }
def ClientNilSaid : Prop := clientNilRow.holds Try.pinned (OpenSpec.ofChange clientNilSpec)

/-- ITS FALSE NEIGHBOUR: 'it returns false'. Refute it at one input. -/
def clientNilWrong : ChangeSpec := { name := "clientNil", fn := fun _ => fun
  | [d] => { results := [.lit (.bool false)], args := [d] }
  | _ => none }
def ClientNilWrongFalsely : Prop := clientNilRow.holds Try.pinned (OpenSpec.ofChange clientNilWrong)

/-- 'palaverlaw27.ClientOnce': WHATEVER THE INPUT: true; the input reads as it did. -/
def clientOnceSpec : ChangeSpec := { name := "clientOnce", fn := fun _ => fun
  | [d1, d2, d3] => { results := [.lit (.bool true)], args := [d1, d2, d3] }
  | _ => none }
def clientOnceRow : OpenClaim := { program := "ytgpdggojajjppaa", sum := "514f4f643819b4d19537e2f4a97ee8c4c247530e0f3a6d87d87ff811069f237b", func := "palaver/palaverlaw27.ClientOnce", spec := "clientOnce", unfollowed := true, recurses := true, apart := false }
def ClientOnceSaid : Prop := clientOnceRow.holds Try.pinned (OpenSpec.ofChange clientOnceSpec)

/-- ITS FALSE NEIGHBOUR: 'it returns false'. Refute it at one input. -/
def clientOnceWrong : ChangeSpec := { name := "clientOnce", fn := fun _ => fun
  | [d1, d2, d3] => { results := [.lit (.bool false)], args := [d1, d2, d3] }
  | _ => none }
def ClientOnceWrongFalsely : Prop := clientOnceRow.holds Try.pinned (OpenSpec.ofChange clientOnceWrong)

/-- 'palaverlaw27.ClientRound': WHATEVER THE INPUT: true; the input reads as it did. -/
def clientRoundSpec : ChangeSpec := { name := "clientRound", fn := fun _ => fun
  | [d1, d2, d3] => { results := [.lit (.bool true)], args := [d1, d2, d3] }
  | _ => none }
def clientRoundRow : OpenClaim := { program := "ytgpdggojajjppaa", sum := "514f4f643819b4d19537e2f4a97ee8c4c247530e0f3a6d87d87ff811069f237b", func := "palaver/palaverlaw27.ClientRound", spec := "clientRound", unfollowed := true, recurses := true, apart := false }
def ClientRoundSaid : Prop := clientRoundRow.holds Try.pinned (OpenSpec.ofChange clientRoundSpec)

/-- ITS FALSE NEIGHBOUR: 'it returns false'. Refute it at one input. -/
def clientRoundWrong : ChangeSpec := { name := "clientRound", fn := fun _ => fun
  | [d1, d2, d3] => { results := [.lit (.bool false)], args := [d1, d2, d3] }
  | _ => none }
def ClientRoundWrongFalsely : Prop := clientRoundRow.holds Try.pinned (OpenSpec.ofChange clientRoundWrong)

/-- 'palaverlaw21.BatchPlays': WHATEVER THE INPUT: true; the input reads as it did. -/
def batchPlaysSpec : ChangeSpec := { name := "batchPlays", fn := fun _ => fun
  | [d] => { results := [.lit (.bool true)], args := [d] }
  | _ => none }
def batchPlaysRow : OpenClaim := { program := "ytgpdggojajjppaa", sum := "514f4f643819b4d19537e2f4a97ee8c4c247530e0f3a6d87d87ff811069f237b", func := "palaver/palaverlaw21.BatchPlays", spec := "batchPlays", unfollowed := true, recurses := true, apart := false }
def BatchPlaysSaid : Prop := batchPlaysRow.holds Try.pinned (OpenSpec.ofChange batchPlaysSpec)

/-- ITS FALSE NEIGHBOUR: 'it returns false'. Refute it at one input. -/
def batchPlaysWrong : ChangeSpec := { name := "batchPlays", fn := fun _ => fun
  | [d] => { results := [.lit (.bool false)], args := [d] }
  | _ => none }
def BatchPlaysWrongFalsely : Prop := batchPlaysRow.holds Try.pinned (OpenSpec.ofChange batchPlaysWrong)

/-- 'palaverlaw21.BatchNil': WHATEVER THE INPUT: true; the input reads as it did. -/
def batchNilSpec : ChangeSpec := { name := "batchNil", fn := fun _ => fun
  | [d] => { results := [.lit (.bool true)], args := [d] }
  | _ => none }
def batchNilRow : OpenClaim := { program := "ytgpdggojajjppaa", sum := "514f4f643819b4d19537e2f4a97ee8c4c247530e0f3a6d87d87ff811069f237b", func := "palaver/palaverlaw21.BatchNil", spec := "batchNil", unfollowed := true, recurses := true, apart := false }
def BatchNilSaid : Prop := batchNilRow.holds Try.pinned (OpenSpec.ofChange batchNilSpec)

/-- ITS FALSE NEIGHBOUR: 'it returns false'. Refute it at one input. -/
def batchNilWrong : ChangeSpec := { name := "batchNil", fn := fun _ => fun
  | [d] => { results := [.lit (.bool false)], args := [d] }
  | _ => none }
def BatchNilWrongFalsely : Prop := batchNilRow.holds Try.pinned (OpenSpec.ofChange batchNilWrong)

/-- 'palaverlaw21.BatchOrder': WHATEVER THE INPUT: true; the input reads as it did. -/
def batchOrderSpec : ChangeSpec := { name := "batchOrder", fn := fun _ => fun
  | [d] => { results := [.lit (.bool true)], args := [d] }
  | _ => none }
def batchOrderRow : OpenClaim := { program := "ytgpdggojajjppaa", sum := "514f4f643819b4d19537e2f4a97ee8c4c247530e0f3a6d87d87ff811069f237b", func := "palaver/palaverlaw21.BatchOrder", spec := "batchOrder", unfollowed := true, recurses := true, apart := false }
def BatchOrderSaid : Prop := batchOrderRow.holds Try.pinned (OpenSpec.ofChange batchOrderSpec)

/-- ITS FALSE NEIGHBOUR: 'it returns false'. Refute it at one input. -/
def batchOrderWrong : ChangeSpec := { name := "batchOrder", fn := fun _ => fun
  | [d] => { results := [.lit (.bool false)], args := [d] }
  | _ => none }
def BatchOrderWrongFalsely : Prop := batchOrderRow.holds Try.pinned (OpenSpec.ofChange batchOrderWrong)

/-- 'palaverlaw21.BatchDone': WHATEVER THE INPUT: true; the input reads as it did. -/
def batchDoneSpec : ChangeSpec := { name := "batchDone", fn := fun _ => fun
  | [d1, d2, d3] => { results := [.lit (.bool true)], args := [d1, d2, d3] }
  | _ => none }
def batchDoneRow : OpenClaim := { program := "ytgpdggojajjppaa", sum := "514f4f643819b4d19537e2f4a97ee8c4c247530e0f3a6d87d87ff811069f237b", func := "palaver/palaverlaw21.BatchDone", spec := "batchDone", unfollowed := true, recurses := true, apart := false }
def BatchDoneSaid : Prop := batchDoneRow.holds Try.pinned (OpenSpec.ofChange batchDoneSpec)

/-- ITS FALSE NEIGHBOUR: 'it returns false'. Refute it at one input. -/
def batchDoneWrong : ChangeSpec := { name := "batchDone", fn := fun _ => fun
  | [d1, d2, d3] => { results := [.lit (.bool false)], args := [d1, d2, d3] }
  | _ => none }
def BatchDoneWrongFalsely : Prop := batchDoneRow.holds Try.pinned (OpenSpec.ofChange batchDoneWrong)

/-- 'palaverlaw18.MsgLong': WHATEVER THE INPUT: true; the input reads as it did. -/
def msgLongSpec : ChangeSpec := { name := "msgLong", fn := fun _ => fun
  | [] => { results := [.lit (.bool true)], args := [] }
  | _ => none }
def msgLongRow : OpenClaim := { program := "ytgpdggojajjppaa", sum := "514f4f643819b4d19537e2f4a97ee8c4c247530e0f3a6d87d87ff811069f237b", func := "palaver/palaverlaw18.MsgLong", spec := "msgLong", unfollowed := true, recurses := true, apart := false }
def MsgLongSaid : Prop := msgLongRow.holds Try.pinned (OpenSpec.ofChange msgLongSpec)

/-- ITS FALSE NEIGHBOUR: 'it returns false'. Refute it at one input. -/
def msgLongWrong : ChangeSpec := { name := "msgLong", fn := fun _ => fun
  | [] => { results := [.lit (.bool false)], args := [] }
  | _ => none }
def MsgLongWrongFalsely : Prop := msgLongRow.holds Try.pinned (OpenSpec.ofChange msgLongWrong)

/-- 'palaverlaw18.MsgBack': WHATEVER THE INPUT: true; the input reads as it did. -/
def msgBackSpec : ChangeSpec := { name := "msgBack", fn := fun _ => fun
  | [d1, d2, d3] => { results := [.lit (.bool true)], args := [d1, d2, d3] }
  | _ => none }
def msgBackRow : OpenClaim := { program := "ytgpdggojajjppaa", sum := "514f4f643819b4d19537e2f4a97ee8c4c247530e0f3a6d87d87ff811069f237b", func := "palaver/palaverlaw18.MsgBack", spec := "msgBack", unfollowed := true, recurses := true, apart := false }
def MsgBackSaid : Prop := msgBackRow.holds Try.pinned (OpenSpec.ofChange msgBackSpec)

/-- ITS FALSE NEIGHBOUR: 'it returns false'. Refute it at one input. -/
def msgBackWrong : ChangeSpec := { name := "msgBack", fn := fun _ => fun
  | [d1, d2, d3] => { results := [.lit (.bool false)], args := [d1, d2, d3] }
  | _ => none }
def MsgBackWrongFalsely : Prop := msgBackRow.holds Try.pinned (OpenSpec.ofChange msgBackWrong)

/- THE SECOND FORM. 'bulk': how many values and letters a reading holds, each counted each time it is reached (what is shared counts as often as it is met; a slice's spare places count too). A statement '..UptoSaid' is the law's where the arguments, and the package variables that the reading takes, are together of bulk at most 1048576: NARROWER than '..Said'. Prove '..Said' where nothing that the law and all that it calls make is longer than what came in: it says more and counts as full. Else prove '..UptoSaid'. A law counts once. -/
mutual
def uptoBulk {H : Type} : DataW H → Nat
  | .lit (.string bytes) => bytes.length + 1
  | .lit _ => 1
  | .nil => 1
  | .ptr d => uptoBulk d + 1
  | .slice elems spare => uptoBulkAll elems + uptoBulkAll spare + 1
  | .agg parts => uptoBulkAll parts + 1
  | .iface _ d => uptoBulk d + 1
  | .map entries => uptoBulkEntries entries + 1
  | .held _ => 1
def uptoBulkAll {H : Type} : List (DataW H) → Nat
  | [] => 0
  | d :: r => uptoBulk d + uptoBulkAll r
def uptoBulkEntries {H : Type} : List (Lit × DataW H) → Nat
  | [] => 0
  | x :: r => uptoBulkEntry x + uptoBulkEntries r
def uptoBulkEntry {H : Type} : Lit × DataW H → Nat
  | (.string bytes, d) => bytes.length + uptoBulk d + 1
  | (_, d) => uptoBulk d + 1
 end
def uptoSmall : (H : Type) → List (DataW H) → Bool := fun _ ds => decide (uptoBulkAll ds ≤ 1048576)
def OpenSpec.upto (s : _root_.Go.ChangeSpec) : _root_.Go.OpenSpec := { _root_.Go.OpenSpec.ofChange s with cond := some uptoSmall }

/-- 'palaverlaw27.ClientPlays', WHERE WHAT IT READS IS OF BULK AT MOST 1048576: true; the input reads as it did. -/
def clientPlaysUptoRow : OpenClaim := { program := "ytgpdggojajjppaa", sum := "514f4f643819b4d19537e2f4a97ee8c4c247530e0f3a6d87d87ff811069f237b", func := "palaver/palaverlaw27.ClientPlays", spec := "clientPlays", unfollowed := true, recurses := true, apart := false, narrowed := true }
def ClientPlaysUptoSaid : Prop := clientPlaysUptoRow.holds Try.pinned (OpenSpec.upto clientPlaysSpec)

/-- 'palaverlaw27.ClientNil', WHERE WHAT IT READS IS OF BULK AT MOST 1048576: true; the input reads as it did. -/
def clientNilUptoRow : OpenClaim := { program := "ytgpdggojajjppaa", sum := "514f4f643819b4d19537e2f4a97ee8c4c247530e0f3a6d87d87ff811069f237b", func := "palaver/palaverlaw27.ClientNil", spec := "clientNil", unfollowed := true, recurses := true, apart := false, narrowed := true }
def ClientNilUptoSaid : Prop := clientNilUptoRow.holds Try.pinned (OpenSpec.upto clientNilSpec)

/-- 'palaverlaw27.ClientOnce', WHERE WHAT IT READS IS OF BULK AT MOST 1048576: true; the input reads as it did. -/
def clientOnceUptoRow : OpenClaim := { program := "ytgpdggojajjppaa", sum := "514f4f643819b4d19537e2f4a97ee8c4c247530e0f3a6d87d87ff811069f237b", func := "palaver/palaverlaw27.ClientOnce", spec := "clientOnce", unfollowed := true, recurses := true, apart := false, narrowed := true }
def ClientOnceUptoSaid : Prop := clientOnceUptoRow.holds Try.pinned (OpenSpec.upto clientOnceSpec)

/-- 'palaverlaw27.ClientRound', WHERE WHAT IT READS IS OF BULK AT MOST 1048576: true; the input reads as it did. -/
def clientRoundUptoRow : OpenClaim := { program := "ytgpdggojajjppaa", sum := "514f4f643819b4d19537e2f4a97ee8c4c247530e0f3a6d87d87ff811069f237b", func := "palaver/palaverlaw27.ClientRound", spec := "clientRound", unfollowed := true, recurses := true, apart := false, narrowed := true }
def ClientRoundUptoSaid : Prop := clientRoundUptoRow.holds Try.pinned (OpenSpec.upto clientRoundSpec)

/-- 'palaverlaw21.BatchPlays', WHERE WHAT IT READS IS OF BULK AT MOST 1048576: true; the input reads as it did. -/
def batchPlaysUptoRow : OpenClaim := { program := "ytgpdggojajjppaa", sum := "514f4f643819b4d19537e2f4a97ee8c4c247530e0f3a6d87d87ff811069f237b", func := "palaver/palaverlaw21.BatchPlays", spec := "batchPlays", unfollowed := true, recurses := true, apart := false, narrowed := true }
def BatchPlaysUptoSaid : Prop := batchPlaysUptoRow.holds Try.pinned (OpenSpec.upto batchPlaysSpec)

/-- 'palaverlaw21.BatchNil', WHERE WHAT IT READS IS OF BULK AT MOST 1048576: true; the input reads as it did. -/
def batchNilUptoRow : OpenClaim := { program := "ytgpdggojajjppaa", sum := "514f4f643819b4d19537e2f4a97ee8c4c247530e0f3a6d87d87ff811069f237b", func := "palaver/palaverlaw21.BatchNil", spec := "batchNil", unfollowed := true, recurses := true, apart := false, narrowed := true }
def BatchNilUptoSaid : Prop := batchNilUptoRow.holds Try.pinned (OpenSpec.upto batchNilSpec)

/-- 'palaverlaw21.BatchOrder', WHERE WHAT IT READS IS OF BULK AT MOST 1048576: true; the input reads as it did. -/
def batchOrderUptoRow : OpenClaim := { program := "ytgpdggojajjppaa", sum := "514f4f643819b4d19537e2f4a97ee8c4c247530e0f3a6d87d87ff811069f237b", func := "palaver/palaverlaw21.BatchOrder", spec := "batchOrder", unfollowed := true, recurses := true, apart := false, narrowed := true }
def BatchOrderUptoSaid : Prop := batchOrderUptoRow.holds Try.pinned (OpenSpec.upto batchOrderSpec)

/-- 'palaverlaw21.BatchDone', WHERE WHAT IT READS IS OF BULK AT MOST 1048576: true; the input reads as it did. -/
def batchDoneUptoRow : OpenClaim := { program := "ytgpdggojajjppaa", sum := "514f4f643819b4d19537e2f4a97ee8c4c247530e0f3a6d87d87ff811069f237b", func := "palaver/palaverlaw21.BatchDone", spec := "batchDone", unfollowed := true, recurses := true, apart := false, narrowed := true }
def BatchDoneUptoSaid : Prop := batchDoneUptoRow.holds Try.pinned (OpenSpec.upto batchDoneSpec)

/-- 'palaverlaw18.MsgLong', WHERE WHAT IT READS IS OF BULK AT MOST 1048576: true; the input reads as it did. -/
def msgLongUptoRow : OpenClaim := { program := "ytgpdggojajjppaa", sum := "514f4f643819b4d19537e2f4a97ee8c4c247530e0f3a6d87d87ff811069f237b", func := "palaver/palaverlaw18.MsgLong", spec := "msgLong", unfollowed := true, recurses := true, apart := false, narrowed := true }
def MsgLongUptoSaid : Prop := msgLongUptoRow.holds Try.pinned (OpenSpec.upto msgLongSpec)

/-- 'palaverlaw18.MsgBack', WHERE WHAT IT READS IS OF BULK AT MOST 1048576: true; the input reads as it did. -/
def msgBackUptoRow : OpenClaim := { program := "ytgpdggojajjppaa", sum := "514f4f643819b4d19537e2f4a97ee8c4c247530e0f3a6d87d87ff811069f237b", func := "palaver/palaverlaw18.MsgBack", spec := "msgBack", unfollowed := true, recurses := true, apart := false, narrowed := true }
def MsgBackUptoSaid : Prop := msgBackUptoRow.holds Try.pinned (OpenSpec.upto msgBackSpec)

end Rows
end Go.Proofs.Ytgpdggojajjppaa
