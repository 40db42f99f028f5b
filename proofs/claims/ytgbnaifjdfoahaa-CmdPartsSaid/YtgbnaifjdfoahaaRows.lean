/-
  No cell of these rows narrows 'for every input' (looked for: loops, veiled, ifaces, maps, wideKeys, modest, calm, conditions, laid).
  DERIVED. THE GIVEN ROWS OF THIS SEAT. 12 by the template 'for every input the law returns true; each argument reads behind the call as it read before'; 0 by the template 'total and deterministic' (their statements: YtgbnaifjdfoahaaTotals.lean).
  GIVEN WITH THE SEED: the statements are not yours to turn. If you find one false, say at which input.
  Laid BY PROGRAM, IN A SANDBOX (cutbox-rows.mjs): the forced cells as the released guide's own fill.sh prints them over the translation fe1def3670063f9d… (all of the seat's roots in one cut). By AI agents, Wed Nov 11 2026. No macro, syntax, notation, axiom, sorry.
-/
import Derived.Test.YtgbnaifjdfoahaaChecked
import GoSem.Claim
import GoSem.ClaimJoined
import GoSem.ClaimMapViews
import Derived.JoinedTies
import Derived.KernelRfl
namespace Go.Proofs.Ytgbnaifjdfoahaa
/- THE CELL 'sum', in the pinned program and in every row, IS THE sha256 OF THE DUMP (.gsa) THAT YtgbnaifjdfoahaaProg.lean LOADS. Nothing in Lean hashes anything: it is a label: what it is worth is what the hold of that sum in a sandbox is worth. -/
noncomputable def Try.pinned : Pinned := { name := "ytgbnaifjdfoahaa", sum := "fe1def3670063f9dfc510110d9ed4f5fe8cc1e8b0359ea50a69ca3571cbf86df", checked := Try.checked }
namespace Rows
def none {H : Type} : Left H := { results := [], args := [] }

/-- 'palaverlaw12.SessionPlays': WHATEVER THE INPUT: true; the input reads as it did. -/
def sessionPlaysSpec : ChangeSpec := { name := "sessionPlays", fn := fun _ => fun
  | [d] => { results := [.lit (.bool true)], args := [d] }
  | _ => none }
def sessionPlaysRow : OpenClaim := { program := "ytgbnaifjdfoahaa", sum := "fe1def3670063f9dfc510110d9ed4f5fe8cc1e8b0359ea50a69ca3571cbf86df", func := "palaver/palaverlaw12.SessionPlays", spec := "sessionPlays", apart := false }
def SessionPlaysSaid : Prop := sessionPlaysRow.holds Try.pinned (OpenSpec.ofChange sessionPlaysSpec)

/-- ITS FALSE NEIGHBOUR: 'it returns false'. Refute it at one input. -/
def sessionPlaysWrong : ChangeSpec := { name := "sessionPlays", fn := fun _ => fun
  | [d] => { results := [.lit (.bool false)], args := [d] }
  | _ => none }
def SessionPlaysWrongFalsely : Prop := sessionPlaysRow.holds Try.pinned (OpenSpec.ofChange sessionPlaysWrong)

/-- 'palaverlaw12.SessionReads': WHATEVER THE INPUT: true; the input reads as it did. -/
def sessionReadsSpec : ChangeSpec := { name := "sessionReads", fn := fun _ => fun
  | [d] => { results := [.lit (.bool true)], args := [d] }
  | _ => none }
def sessionReadsRow : OpenClaim := { program := "ytgbnaifjdfoahaa", sum := "fe1def3670063f9dfc510110d9ed4f5fe8cc1e8b0359ea50a69ca3571cbf86df", func := "palaver/palaverlaw12.SessionReads", spec := "sessionReads", apart := false }
def SessionReadsSaid : Prop := sessionReadsRow.holds Try.pinned (OpenSpec.ofChange sessionReadsSpec)

/-- ITS FALSE NEIGHBOUR: 'it returns false'. Refute it at one input. -/
def sessionReadsWrong : ChangeSpec := { name := "sessionReads", fn := fun _ => fun
  | [d] => { results := [.lit (.bool false)], args := [d] }
  | _ => none }
def SessionReadsWrongFalsely : Prop := sessionReadsRow.holds Try.pinned (OpenSpec.ofChange sessionReadsWrong)

/-- 'palaverlaw12.SessionBack': WHATEVER THE INPUT: true; the input reads as it did. -/
def sessionBackSpec : ChangeSpec := { name := "sessionBack", fn := fun _ => fun
  | [d1, d2, d3] => { results := [.lit (.bool true)], args := [d1, d2, d3] }
  | _ => none }
def sessionBackRow : OpenClaim := { program := "ytgbnaifjdfoahaa", sum := "fe1def3670063f9dfc510110d9ed4f5fe8cc1e8b0359ea50a69ca3571cbf86df", func := "palaver/palaverlaw12.SessionBack", spec := "sessionBack", apart := false }
def SessionBackSaid : Prop := sessionBackRow.holds Try.pinned (OpenSpec.ofChange sessionBackSpec)

/-- ITS FALSE NEIGHBOUR: 'it returns false'. Refute it at one input. -/
def sessionBackWrong : ChangeSpec := { name := "sessionBack", fn := fun _ => fun
  | [d1, d2, d3] => { results := [.lit (.bool false)], args := [d1, d2, d3] }
  | _ => none }
def SessionBackWrongFalsely : Prop := sessionBackRow.holds Try.pinned (OpenSpec.ofChange sessionBackWrong)

/-- 'palaverlaw03.FramePuts': WHATEVER THE INPUT: true; the input reads as it did. -/
def framePutsSpec : ChangeSpec := { name := "framePuts", fn := fun _ => fun
  | [d1, d2] => { results := [.lit (.bool true)], args := [d1, d2] }
  | _ => none }
def framePutsRow : OpenClaim := { program := "ytgbnaifjdfoahaa", sum := "fe1def3670063f9dfc510110d9ed4f5fe8cc1e8b0359ea50a69ca3571cbf86df", func := "palaver/palaverlaw03.FramePuts", spec := "framePuts", apart := false }
def FramePutsSaid : Prop := framePutsRow.holds Try.pinned (OpenSpec.ofChange framePutsSpec)

/-- ITS FALSE NEIGHBOUR: 'it returns false'. Refute it at one input. -/
def framePutsWrong : ChangeSpec := { name := "framePuts", fn := fun _ => fun
  | [d1, d2] => { results := [.lit (.bool false)], args := [d1, d2] }
  | _ => none }
def FramePutsWrongFalsely : Prop := framePutsRow.holds Try.pinned (OpenSpec.ofChange framePutsWrong)

/-- 'palaverlaw03.FrameRows': WHATEVER THE INPUT: true; the input reads as it did. -/
def frameRowsSpec : ChangeSpec := { name := "frameRows", fn := fun _ => fun
  | [d1, d2, d3] => { results := [.lit (.bool true)], args := [d1, d2, d3] }
  | _ => none }
def frameRowsRow : OpenClaim := { program := "ytgbnaifjdfoahaa", sum := "fe1def3670063f9dfc510110d9ed4f5fe8cc1e8b0359ea50a69ca3571cbf86df", func := "palaver/palaverlaw03.FrameRows", spec := "frameRows", unfollowed := true, recurses := true, apart := false }
def FrameRowsSaid : Prop := frameRowsRow.holds Try.pinned (OpenSpec.ofChange frameRowsSpec)

/-- ITS FALSE NEIGHBOUR: 'it returns false'. Refute it at one input. -/
def frameRowsWrong : ChangeSpec := { name := "frameRows", fn := fun _ => fun
  | [d1, d2, d3] => { results := [.lit (.bool false)], args := [d1, d2, d3] }
  | _ => none }
def FrameRowsWrongFalsely : Prop := frameRowsRow.holds Try.pinned (OpenSpec.ofChange frameRowsWrong)

/-- 'palaverlaw03.FrameKnown': WHATEVER THE INPUT: true; the input reads as it did. -/
def frameKnownSpec : ChangeSpec := { name := "frameKnown", fn := fun _ => fun
  | [] => { results := [.lit (.bool true)], args := [] }
  | _ => none }
def frameKnownRow : OpenClaim := { program := "ytgbnaifjdfoahaa", sum := "fe1def3670063f9dfc510110d9ed4f5fe8cc1e8b0359ea50a69ca3571cbf86df", func := "palaver/palaverlaw03.FrameKnown", spec := "frameKnown", unfollowed := true, recurses := true, apart := false }
def FrameKnownSaid : Prop := frameKnownRow.holds Try.pinned (OpenSpec.ofChange frameKnownSpec)

/-- ITS FALSE NEIGHBOUR: 'it returns false'. Refute it at one input. -/
def frameKnownWrong : ChangeSpec := { name := "frameKnown", fn := fun _ => fun
  | [] => { results := [.lit (.bool false)], args := [] }
  | _ => none }
def FrameKnownWrongFalsely : Prop := frameKnownRow.holds Try.pinned (OpenSpec.ofChange frameKnownWrong)

/-- 'palaverlaw03.FrameTakes': WHATEVER THE INPUT: true; the input reads as it did. -/
def frameTakesSpec : ChangeSpec := { name := "frameTakes", fn := fun _ => fun
  | [d] => { results := [.lit (.bool true)], args := [d] }
  | _ => none }
def frameTakesRow : OpenClaim := { program := "ytgbnaifjdfoahaa", sum := "fe1def3670063f9dfc510110d9ed4f5fe8cc1e8b0359ea50a69ca3571cbf86df", func := "palaver/palaverlaw03.FrameTakes", spec := "frameTakes", unfollowed := true, recurses := true, apart := false }
def FrameTakesSaid : Prop := frameTakesRow.holds Try.pinned (OpenSpec.ofChange frameTakesSpec)

/-- ITS FALSE NEIGHBOUR: 'it returns false'. Refute it at one input. -/
def frameTakesWrong : ChangeSpec := { name := "frameTakes", fn := fun _ => fun
  | [d] => { results := [.lit (.bool false)], args := [d] }
  | _ => none }
def FrameTakesWrongFalsely : Prop := frameTakesRow.holds Try.pinned (OpenSpec.ofChange frameTakesWrong)

/-- 'palaverlaw03.FrameWalks': WHATEVER THE INPUT: true; the input reads as it did. -/
def frameWalksSpec : ChangeSpec := { name := "frameWalks", fn := fun _ => fun
  | [d1, d2] => { results := [.lit (.bool true)], args := [d1, d2] }
  | _ => none }
def frameWalksRow : OpenClaim := { program := "ytgbnaifjdfoahaa", sum := "fe1def3670063f9dfc510110d9ed4f5fe8cc1e8b0359ea50a69ca3571cbf86df", func := "palaver/palaverlaw03.FrameWalks", spec := "frameWalks", unfollowed := true, recurses := true, apart := false }
def FrameWalksSaid : Prop := frameWalksRow.holds Try.pinned (OpenSpec.ofChange frameWalksSpec)

/-- ITS FALSE NEIGHBOUR: 'it returns false'. Refute it at one input. -/
def frameWalksWrong : ChangeSpec := { name := "frameWalks", fn := fun _ => fun
  | [d1, d2] => { results := [.lit (.bool false)], args := [d1, d2] }
  | _ => none }
def FrameWalksWrongFalsely : Prop := frameWalksRow.holds Try.pinned (OpenSpec.ofChange frameWalksWrong)

/-- 'palaverlaw09.CmdTells': WHATEVER THE INPUT: true; the input reads as it did. -/
def cmdTellsSpec : ChangeSpec := { name := "cmdTells", fn := fun _ => fun
  | [d1, d2, d3] => { results := [.lit (.bool true)], args := [d1, d2, d3] }
  | _ => none }
def cmdTellsRow : OpenClaim := { program := "ytgbnaifjdfoahaa", sum := "fe1def3670063f9dfc510110d9ed4f5fe8cc1e8b0359ea50a69ca3571cbf86df", func := "palaver/palaverlaw09.CmdTells", spec := "cmdTells", unfollowed := true, recurses := true, apart := false }
def CmdTellsSaid : Prop := cmdTellsRow.holds Try.pinned (OpenSpec.ofChange cmdTellsSpec)

/-- ITS FALSE NEIGHBOUR: 'it returns false'. Refute it at one input. -/
def cmdTellsWrong : ChangeSpec := { name := "cmdTells", fn := fun _ => fun
  | [d1, d2, d3] => { results := [.lit (.bool false)], args := [d1, d2, d3] }
  | _ => none }
def CmdTellsWrongFalsely : Prop := cmdTellsRow.holds Try.pinned (OpenSpec.ofChange cmdTellsWrong)

/-- 'palaverlaw09.CmdBack': WHATEVER THE INPUT: true; the input reads as it did. -/
def cmdBackSpec : ChangeSpec := { name := "cmdBack", fn := fun _ => fun
  | [d1, d2, d3] => { results := [.lit (.bool true)], args := [d1, d2, d3] }
  | _ => none }
def cmdBackRow : OpenClaim := { program := "ytgbnaifjdfoahaa", sum := "fe1def3670063f9dfc510110d9ed4f5fe8cc1e8b0359ea50a69ca3571cbf86df", func := "palaver/palaverlaw09.CmdBack", spec := "cmdBack", unfollowed := true, recurses := true, apart := false }
def CmdBackSaid : Prop := cmdBackRow.holds Try.pinned (OpenSpec.ofChange cmdBackSpec)

/-- ITS FALSE NEIGHBOUR: 'it returns false'. Refute it at one input. -/
def cmdBackWrong : ChangeSpec := { name := "cmdBack", fn := fun _ => fun
  | [d1, d2, d3] => { results := [.lit (.bool false)], args := [d1, d2, d3] }
  | _ => none }
def CmdBackWrongFalsely : Prop := cmdBackRow.holds Try.pinned (OpenSpec.ofChange cmdBackWrong)

/-- 'palaverlaw09.CmdParts': WHATEVER THE INPUT: true; the input reads as it did. -/
def cmdPartsSpec : ChangeSpec := { name := "cmdParts", fn := fun _ => fun
  | [d] => { results := [.lit (.bool true)], args := [d] }
  | _ => none }
def cmdPartsRow : OpenClaim := { program := "ytgbnaifjdfoahaa", sum := "fe1def3670063f9dfc510110d9ed4f5fe8cc1e8b0359ea50a69ca3571cbf86df", func := "palaver/palaverlaw09.CmdParts", spec := "cmdParts", unfollowed := true, recurses := true, apart := false }
def CmdPartsSaid : Prop := cmdPartsRow.holds Try.pinned (OpenSpec.ofChange cmdPartsSpec)

/-- ITS FALSE NEIGHBOUR: 'it returns false'. Refute it at one input. -/
def cmdPartsWrong : ChangeSpec := { name := "cmdParts", fn := fun _ => fun
  | [d] => { results := [.lit (.bool false)], args := [d] }
  | _ => none }
def CmdPartsWrongFalsely : Prop := cmdPartsRow.holds Try.pinned (OpenSpec.ofChange cmdPartsWrong)

/-- 'palaverlaw09.CmdReads': WHATEVER THE INPUT: true; the input reads as it did. -/
def cmdReadsSpec : ChangeSpec := { name := "cmdReads", fn := fun _ => fun
  | [d] => { results := [.lit (.bool true)], args := [d] }
  | _ => none }
def cmdReadsRow : OpenClaim := { program := "ytgbnaifjdfoahaa", sum := "fe1def3670063f9dfc510110d9ed4f5fe8cc1e8b0359ea50a69ca3571cbf86df", func := "palaver/palaverlaw09.CmdReads", spec := "cmdReads", unfollowed := true, recurses := true, apart := false }
def CmdReadsSaid : Prop := cmdReadsRow.holds Try.pinned (OpenSpec.ofChange cmdReadsSpec)

/-- ITS FALSE NEIGHBOUR: 'it returns false'. Refute it at one input. -/
def cmdReadsWrong : ChangeSpec := { name := "cmdReads", fn := fun _ => fun
  | [d] => { results := [.lit (.bool false)], args := [d] }
  | _ => none }
def CmdReadsWrongFalsely : Prop := cmdReadsRow.holds Try.pinned (OpenSpec.ofChange cmdReadsWrong)

/- THE SECOND FORM. 'bulk': how many values and letters a reading holds, each counted each time it is reached (what is shared counts as often as it is met; a slice's spare places count too). A statement '..UptoSaid' is the law's where the arguments, and the package variables that the reading takes, are together of bulk at most 1048576: NARROWER than '..Said'. Prove '..Said' where nothing that the law and all that it calls make is longer than what came in: it says more and counts as full. Else prove '..UptoSaid'. A law counts once. -/
mutual
def uptoBulk {H : Type} : DataW H → Nat
  | .lit (.string bytes) => bytes.length + 1
  | .lit _ => 1
  | .nil => 1
  | .ptr d => uptoBulk d + 1
  | .slice elems spare => uptoBulkAll elems + uptoBulkAll spare + 1
  | .agg parts => uptoBulkAll parts + 1
  | .iface _ d => uptoBulk d + 1
  | .map entries => uptoBulkEntries entries + 1
  | .held _ => 1
def uptoBulkAll {H : Type} : List (DataW H) → Nat
  | [] => 0
  | d :: r => uptoBulk d + uptoBulkAll r
def uptoBulkEntries {H : Type} : List (Lit × DataW H) → Nat
  | [] => 0
  | x :: r => uptoBulkEntry x + uptoBulkEntries r
def uptoBulkEntry {H : Type} : Lit × DataW H → Nat
  | (.string bytes, d) => bytes.length + uptoBulk d + 1
  | (_, d) => uptoBulk d + 1
 end
def uptoSmall : (H : Type) → List (DataW H) → Bool := fun _ ds => decide (uptoBulkAll ds ≤ 1048576)
def OpenSpec.upto (s : _root_.Go.ChangeSpec) : _root_.Go.OpenSpec := { _root_.Go.OpenSpec.ofChange s with cond := some uptoSmall }

/-- 'palaverlaw12.SessionPlays', WHERE WHAT IT READS IS OF BULK AT MOST 1048576: true; the input reads as it did. -/
def sessionPlaysUptoRow : OpenClaim := { program := "ytgbnaifjdfoahaa", sum := "fe1def3670063f9dfc510110d9ed4f5fe8cc1e8b0359ea50a69ca3571cbf86df", func := "palaver/palaverlaw12.SessionPlays", spec := "sessionPlays", apart := false, narrowed := true }
def SessionPlaysUptoSaid : Prop := sessionPlaysUptoRow.holds Try.pinned (OpenSpec.upto sessionPlaysSpec)

/-- 'palaverlaw12.SessionReads', WHERE WHAT IT READS IS OF BULK AT MOST 1048576: true; the input reads as it did. -/
def sessionReadsUptoRow : OpenClaim := { program := "ytgbnaifjdfoahaa", sum := "fe1def3670063f9dfc510110d9ed4f5fe8cc1e8b0359ea50a69ca3571cbf86df", func := "palaver/palaverlaw12.SessionReads", spec := "sessionReads", apart := false, narrowed := true }
def SessionReadsUptoSaid : Prop := sessionReadsUptoRow.holds Try.pinned (OpenSpec.upto sessionReadsSpec)

/-- 'palaverlaw12.SessionBack', WHERE WHAT IT READS IS OF BULK AT MOST 1048576: true; the input reads as it did. -/
def sessionBackUptoRow : OpenClaim := { program := "ytgbnaifjdfoahaa", sum := "fe1def3670063f9dfc510110d9ed4f5fe8cc1e8b0359ea50a69ca3571cbf86df", func := "palaver/palaverlaw12.SessionBack", spec := "sessionBack", apart := false, narrowed := true }
def SessionBackUptoSaid : Prop := sessionBackUptoRow.holds Try.pinned (OpenSpec.upto sessionBackSpec)

/-- 'palaverlaw03.FramePuts', WHERE WHAT IT READS IS OF BULK AT MOST 1048576: true; the input reads as it did. -/
def framePutsUptoRow : OpenClaim := { program := "ytgbnaifjdfoahaa", sum := "fe1def3670063f9dfc510110d9ed4f5fe8cc1e8b0359ea50a69ca3571cbf86df", func := "palaver/palaverlaw03.FramePuts", spec := "framePuts", apart := false, narrowed := true }
def FramePutsUptoSaid : Prop := framePutsUptoRow.holds Try.pinned (OpenSpec.upto framePutsSpec)

/-- 'palaverlaw03.FrameRows', WHERE WHAT IT READS IS OF BULK AT MOST 1048576: true; the input reads as it did. -/
def frameRowsUptoRow : OpenClaim := { program := "ytgbnaifjdfoahaa", sum := "fe1def3670063f9dfc510110d9ed4f5fe8cc1e8b0359ea50a69ca3571cbf86df", func := "palaver/palaverlaw03.FrameRows", spec := "frameRows", unfollowed := true, recurses := true, apart := false, narrowed := true }
def FrameRowsUptoSaid : Prop := frameRowsUptoRow.holds Try.pinned (OpenSpec.upto frameRowsSpec)

/-- 'palaverlaw03.FrameKnown', WHERE WHAT IT READS IS OF BULK AT MOST 1048576: true; the input reads as it did. -/
def frameKnownUptoRow : OpenClaim := { program := "ytgbnaifjdfoahaa", sum := "fe1def3670063f9dfc510110d9ed4f5fe8cc1e8b0359ea50a69ca3571cbf86df", func := "palaver/palaverlaw03.FrameKnown", spec := "frameKnown", unfollowed := true, recurses := true, apart := false, narrowed := true }
def FrameKnownUptoSaid : Prop := frameKnownUptoRow.holds Try.pinned (OpenSpec.upto frameKnownSpec)

/-- 'palaverlaw03.FrameTakes', WHERE WHAT IT READS IS OF BULK AT MOST 1048576: true; the input reads as it did. -/
def frameTakesUptoRow : OpenClaim := { program := "ytgbnaifjdfoahaa", sum := "fe1def3670063f9dfc510110d9ed4f5fe8cc1e8b0359ea50a69ca3571cbf86df", func := "palaver/palaverlaw03.FrameTakes", spec := "frameTakes", unfollowed := true, recurses := true, apart := false, narrowed := true }
def FrameTakesUptoSaid : Prop := frameTakesUptoRow.holds Try.pinned (OpenSpec.upto frameTakesSpec)

/-- 'palaverlaw03.FrameWalks', WHERE WHAT IT READS IS OF BULK AT MOST 1048576: true; the input reads as it did. -/
def frameWalksUptoRow : OpenClaim := { program := "ytgbnaifjdfoahaa", sum := "fe1def3670063f9dfc510110d9ed4f5fe8cc1e8b0359ea50a69ca3571cbf86df", func := "palaver/palaverlaw03.FrameWalks", spec := "frameWalks", unfollowed := true, recurses := true, apart := false, narrowed := true }
def FrameWalksUptoSaid : Prop := frameWalksUptoRow.holds Try.pinned (OpenSpec.upto frameWalksSpec)

/-- 'palaverlaw09.CmdTells', WHERE WHAT IT READS IS OF BULK AT MOST 1048576: true; the input reads as it did. -/
def cmdTellsUptoRow : OpenClaim := { program := "ytgbnaifjdfoahaa", sum := "fe1def3670063f9dfc510110d9ed4f5fe8cc1e8b0359ea50a69ca3571cbf86df", func := "palaver/palaverlaw09.CmdTells", spec := "cmdTells", unfollowed := true, recurses := true, apart := false, narrowed := true }
def CmdTellsUptoSaid : Prop := cmdTellsUptoRow.holds Try.pinned (OpenSpec.upto cmdTellsSpec)

/-- 'palaverlaw09.CmdBack', WHERE WHAT IT READS IS OF BULK AT MOST 1048576: true; the input reads as it did. -/
def cmdBackUptoRow : OpenClaim := { program := "ytgbnaifjdfoahaa", sum := "fe1def3670063f9dfc510110d9ed4f5fe8cc1e8b0359ea50a69ca3571cbf86df", func := "palaver/palaverlaw09.CmdBack", spec := "cmdBack", unfollowed := true, recurses := true, apart := false, narrowed := true }
def CmdBackUptoSaid : Prop := cmdBackUptoRow.holds Try.pinned (OpenSpec.upto cmdBackSpec)

/-- 'palaverlaw09.CmdParts', WHERE WHAT IT READS IS OF BULK AT MOST 1048576: true; the input reads as it did. -/
def cmdPartsUptoRow : OpenClaim := { program := "ytgbnaifjdfoahaa", sum := "fe1def3670063f9dfc510110d9ed4f5fe8cc1e8b0359ea50a69ca3571cbf86df", func := "palaver/palaverlaw09.CmdParts", spec := "cmdParts", unfollowed := true, recurses := true, apart := false, narrowed := true }
def CmdPartsUptoSaid : Prop := cmdPartsUptoRow.holds Try.pinned (OpenSpec.upto cmdPartsSpec)

/-- 'palaverlaw09.CmdReads', WHERE WHAT IT READS IS OF BULK AT MOST 1048576: true; the input reads as it did. -/
def cmdReadsUptoRow : OpenClaim := { program := "ytgbnaifjdfoahaa", sum := "fe1def3670063f9dfc510110d9ed4f5fe8cc1e8b0359ea50a69ca3571cbf86df", func := "palaver/palaverlaw09.CmdReads", spec := "cmdReads", unfollowed := true, recurses := true, apart := false, narrowed := true }
def CmdReadsUptoSaid : Prop := cmdReadsUptoRow.holds Try.pinned (OpenSpec.upto cmdReadsSpec)

end Rows
end Go.Proofs.Ytgbnaifjdfoahaa
