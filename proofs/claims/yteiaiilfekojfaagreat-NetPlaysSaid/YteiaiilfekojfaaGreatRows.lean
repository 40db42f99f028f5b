/-
  No cell of these rows narrows 'for every input' (looked for: loops, veiled, ifaces, maps, wideKeys, modest, calm, conditions, laid).
  DERIVED. THE GIVEN ROWS OF THIS SEAT. 6 by the template 'for every input the law returns true; each argument reads behind the call as it read before'; 0 by the template 'total and deterministic' (their statements: YteiaiilfekojfaaGreatTotals.lean).
  GIVEN WITH THE SEED: the statements are not yours to turn. If you find one false, say at which input.
  Laid BY PROGRAM, IN A SANDBOX (cutbox-rows.mjs): the forced cells as the released guide's own fill.sh prints them over the translation acc5c1d8cd94a37c… (all of the seat's roots in one cut). By AI agents, Wed Nov 11 2026. No macro, syntax, notation, axiom, sorry.
-/
import Derived.Test.YteiaiilfekojfaaGreatChecked
import GoSem.Claim
import GoSem.ClaimJoined
import GoSem.ClaimMapViews
import Derived.JoinedTies
import Derived.KernelRfl
namespace Go.Proofs.YteiaiilfekojfaaGreat
/- THE CELL 'sum', in the pinned program and in every row, IS THE sha256 OF THE DUMP (.gsa) THAT YteiaiilfekojfaaGreatProg.lean LOADS. Nothing in Lean hashes anything: it is a label: what it is worth is what the hold of that sum in a sandbox is worth. -/
noncomputable def Tryz.pinned : Pinned := { name := "yteiaiilfekojfaagreat", sum := "acc5c1d8cd94a37c9d9d5b15926ad3c566ef4515e265003740aa2fcc44e40311", checked := Tryz.checked }
namespace Rows
def none {H : Type} : Left H := { results := [], args := [] }

/-- 'palaverlaw18.MsgPuts': WHATEVER THE INPUT: true; the input reads as it did. -/
def msgPutsSpec : ChangeSpec := { name := "msgPuts", fn := fun _ => fun
  | [d1, d2] => { results := [.lit (.bool true)], args := [d1, d2] }
  | _ => none }
def msgPutsRow : OpenClaim := { program := "yteiaiilfekojfaagreat", sum := "acc5c1d8cd94a37c9d9d5b15926ad3c566ef4515e265003740aa2fcc44e40311", func := "palaver/palaverlaw18.MsgPuts", spec := "msgPuts", unfollowed := true, recurses := true, plainKeys := false, apart := false }
def MsgPutsSaid : Prop := msgPutsRow.holds Tryz.pinned (OpenSpec.ofChange msgPutsSpec)

/-- ITS FALSE NEIGHBOUR: 'it returns false'. Refute it at one input. -/
def msgPutsWrong : ChangeSpec := { name := "msgPuts", fn := fun _ => fun
  | [d1, d2] => { results := [.lit (.bool false)], args := [d1, d2] }
  | _ => none }
def MsgPutsWrongFalsely : Prop := msgPutsRow.holds Tryz.pinned (OpenSpec.ofChange msgPutsWrong)

/-- 'palaverlaw18.MsgTakes': WHATEVER THE INPUT: true; the input reads as it did. -/
def msgTakesSpec : ChangeSpec := { name := "msgTakes", fn := fun _ => fun
  | [d] => { results := [.lit (.bool true)], args := [d] }
  | _ => none }
def msgTakesRow : OpenClaim := { program := "yteiaiilfekojfaagreat", sum := "acc5c1d8cd94a37c9d9d5b15926ad3c566ef4515e265003740aa2fcc44e40311", func := "palaver/palaverlaw18.MsgTakes", spec := "msgTakes", unfollowed := true, recurses := true, plainKeys := false, apart := false }
def MsgTakesSaid : Prop := msgTakesRow.holds Tryz.pinned (OpenSpec.ofChange msgTakesSpec)

/-- ITS FALSE NEIGHBOUR: 'it returns false'. Refute it at one input. -/
def msgTakesWrong : ChangeSpec := { name := "msgTakes", fn := fun _ => fun
  | [d] => { results := [.lit (.bool false)], args := [d] }
  | _ => none }
def MsgTakesWrongFalsely : Prop := msgTakesRow.holds Tryz.pinned (OpenSpec.ofChange msgTakesWrong)

/-- 'palaverlaw26.NetKeeps': WHATEVER THE INPUT: true; the input reads as it did. -/
def netKeepsSpec : ChangeSpec := { name := "netKeeps", fn := fun _ => fun
  | [d] => { results := [.lit (.bool true)], args := [d] }
  | _ => none }
def netKeepsRow : OpenClaim := { program := "yteiaiilfekojfaagreat", sum := "acc5c1d8cd94a37c9d9d5b15926ad3c566ef4515e265003740aa2fcc44e40311", func := "palaver/palaverlaw26.NetKeeps", spec := "netKeeps", unfollowed := true, recurses := true, plainKeys := false, apart := false }
def NetKeepsSaid : Prop := netKeepsRow.holds Tryz.pinned (OpenSpec.ofChange netKeepsSpec)

/-- ITS FALSE NEIGHBOUR: 'it returns false'. Refute it at one input. -/
def netKeepsWrong : ChangeSpec := { name := "netKeeps", fn := fun _ => fun
  | [d] => { results := [.lit (.bool false)], args := [d] }
  | _ => none }
def NetKeepsWrongFalsely : Prop := netKeepsRow.holds Tryz.pinned (OpenSpec.ofChange netKeepsWrong)

/-- 'palaverlaw26.NetOrder': WHATEVER THE INPUT: true; the input reads as it did. -/
def netOrderSpec : ChangeSpec := { name := "netOrder", fn := fun _ => fun
  | [d1, d2] => { results := [.lit (.bool true)], args := [d1, d2] }
  | _ => none }
def netOrderRow : OpenClaim := { program := "yteiaiilfekojfaagreat", sum := "acc5c1d8cd94a37c9d9d5b15926ad3c566ef4515e265003740aa2fcc44e40311", func := "palaver/palaverlaw26.NetOrder", spec := "netOrder", unfollowed := true, recurses := true, plainKeys := false, apart := false }
def NetOrderSaid : Prop := netOrderRow.holds Tryz.pinned (OpenSpec.ofChange netOrderSpec)

/-- ITS FALSE NEIGHBOUR: 'it returns false'. Refute it at one input. -/
def netOrderWrong : ChangeSpec := { name := "netOrder", fn := fun _ => fun
  | [d1, d2] => { results := [.lit (.bool false)], args := [d1, d2] }
  | _ => none }
def NetOrderWrongFalsely : Prop := netOrderRow.holds Tryz.pinned (OpenSpec.ofChange netOrderWrong)

/-- 'palaverlaw26.NetPlays': WHATEVER THE INPUT: true; the input reads as it did. -/
def netPlaysSpec : ChangeSpec := { name := "netPlays", fn := fun _ => fun
  | [d1, d2, d3] => { results := [.lit (.bool true)], args := [d1, d2, d3] }
  | _ => none }
def netPlaysRow : OpenClaim := { program := "yteiaiilfekojfaagreat", sum := "acc5c1d8cd94a37c9d9d5b15926ad3c566ef4515e265003740aa2fcc44e40311", func := "palaver/palaverlaw26.NetPlays", spec := "netPlays", unfollowed := true, recurses := true, plainKeys := false, apart := false }
def NetPlaysSaid : Prop := netPlaysRow.holds Tryz.pinned (OpenSpec.ofChange netPlaysSpec)

/-- ITS FALSE NEIGHBOUR: 'it returns false'. Refute it at one input. -/
def netPlaysWrong : ChangeSpec := { name := "netPlays", fn := fun _ => fun
  | [d1, d2, d3] => { results := [.lit (.bool false)], args := [d1, d2, d3] }
  | _ => none }
def NetPlaysWrongFalsely : Prop := netPlaysRow.holds Tryz.pinned (OpenSpec.ofChange netPlaysWrong)

/-- 'palaverlaw26.NetNil': WHATEVER THE INPUT: true; the input reads as it did. -/
def netNilSpec : ChangeSpec := { name := "netNil", fn := fun _ => fun
  | [d] => { results := [.lit (.bool true)], args := [d] }
  | _ => none }
def netNilRow : OpenClaim := { program := "yteiaiilfekojfaagreat", sum := "acc5c1d8cd94a37c9d9d5b15926ad3c566ef4515e265003740aa2fcc44e40311", func := "palaver/palaverlaw26.NetNil", spec := "netNil", unfollowed := true, recurses := true, plainKeys := false, apart := false }
def NetNilSaid : Prop := netNilRow.holds Tryz.pinned (OpenSpec.ofChange netNilSpec)

/-- ITS FALSE NEIGHBOUR: 'it returns false'. Refute it at one input. -/
def netNilWrong : ChangeSpec := { name := "netNil", fn := fun _ => fun
  | [d] => { results := [.lit (.bool false)], args := [d] }
  | _ => none }
def NetNilWrongFalsely : Prop := netNilRow.holds Tryz.pinned (OpenSpec.ofChange netNilWrong)

/- THE SECOND FORM. 'bulk': how many values and letters a reading holds, each counted each time it is reached (what is shared counts as often as it is met; a slice's spare places count too). A statement '..UptoSaid' is the law's where the arguments, and the package variables that the reading takes, are together of bulk at most 1048576: NARROWER than '..Said'. Prove '..Said' where nothing that the law and all that it calls make is longer than what came in: it says more and counts as full. Else prove '..UptoSaid'. A law counts once. -/
mutual
def uptoBulk {H : Type} : DataW H → Nat
  | .lit (.string bytes) => bytes.length + 1
  | .lit _ => 1
  | .nil => 1
  | .ptr d => uptoBulk d + 1
  | .slice elems spare => uptoBulkAll elems + uptoBulkAll spare + 1
  | .agg parts => uptoBulkAll parts + 1
  | .iface _ d => uptoBulk d + 1
  | .map entries => uptoBulkEntries entries + 1
  | .held _ => 1
def uptoBulkAll {H : Type} : List (DataW H) → Nat
  | [] => 0
  | d :: r => uptoBulk d + uptoBulkAll r
def uptoBulkEntries {H : Type} : List (Lit × DataW H) → Nat
  | [] => 0
  | x :: r => uptoBulkEntry x + uptoBulkEntries r
def uptoBulkEntry {H : Type} : Lit × DataW H → Nat
  | (.string bytes, d) => bytes.length + uptoBulk d + 1
  | (_, d) => uptoBulk d + 1
 end
def uptoSmall : (H : Type) → List (DataW H) → Bool := fun _ ds => decide (uptoBulkAll ds ≤ 1048576)
def OpenSpec.upto (s : _root_.Go.ChangeSpec) : _root_.Go.OpenSpec := { _root_.Go.OpenSpec.ofChange s with cond := some uptoSmall }

/-- 'palaverlaw18.MsgPuts', WHERE WHAT IT READS IS OF BULK AT MOST 1048576: true; the input reads as it did. -/
def msgPutsUptoRow : OpenClaim := { program := "yteiaiilfekojfaagreat", sum := "acc5c1d8cd94a37c9d9d5b15926ad3c566ef4515e265003740aa2fcc44e40311", func := "palaver/palaverlaw18.MsgPuts", spec := "msgPuts", unfollowed := true, recurses := true, plainKeys := false, apart := false, narrowed := true }
def MsgPutsUptoSaid : Prop := msgPutsUptoRow.holds Tryz.pinned (OpenSpec.upto msgPutsSpec)

/-- 'palaverlaw18.MsgTakes', WHERE WHAT IT READS IS OF BULK AT MOST 1048576: true; the input reads as it did. -/
def msgTakesUptoRow : OpenClaim := { program := "yteiaiilfekojfaagreat", sum := "acc5c1d8cd94a37c9d9d5b15926ad3c566ef4515e265003740aa2fcc44e40311", func := "palaver/palaverlaw18.MsgTakes", spec := "msgTakes", unfollowed := true, recurses := true, plainKeys := false, apart := false, narrowed := true }
def MsgTakesUptoSaid : Prop := msgTakesUptoRow.holds Tryz.pinned (OpenSpec.upto msgTakesSpec)

/-- 'palaverlaw26.NetKeeps', WHERE WHAT IT READS IS OF BULK AT MOST 1048576: true; the input reads as it did. -/
def netKeepsUptoRow : OpenClaim := { program := "yteiaiilfekojfaagreat", sum := "acc5c1d8cd94a37c9d9d5b15926ad3c566ef4515e265003740aa2fcc44e40311", func := "palaver/palaverlaw26.NetKeeps", spec := "netKeeps", unfollowed := true, recurses := true, plainKeys := false, apart := false, narrowed := true }
def NetKeepsUptoSaid : Prop := netKeepsUptoRow.holds Tryz.pinned (OpenSpec.upto netKeepsSpec)

/-- 'palaverlaw26.NetOrder', WHERE WHAT IT READS IS OF BULK AT MOST 1048576: true; the input reads as it did. -/
def netOrderUptoRow : OpenClaim := { program := "yteiaiilfekojfaagreat", sum := "acc5c1d8cd94a37c9d9d5b15926ad3c566ef4515e265003740aa2fcc44e40311", func := "palaver/palaverlaw26.NetOrder", spec := "netOrder", unfollowed := true, recurses := true, plainKeys := false, apart := false, narrowed := true }
def NetOrderUptoSaid : Prop := netOrderUptoRow.holds Tryz.pinned (OpenSpec.upto netOrderSpec)

/-- 'palaverlaw26.NetPlays', WHERE WHAT IT READS IS OF BULK AT MOST 1048576: true; the input reads as it did. -/
def netPlaysUptoRow : OpenClaim := { program := "yteiaiilfekojfaagreat", sum := "acc5c1d8cd94a37c9d9d5b15926ad3c566ef4515e265003740aa2fcc44e40311", func := "palaver/palaverlaw26.NetPlays", spec := "netPlays", unfollowed := true, recurses := true, plainKeys := false, apart := false, narrowed := true }
def NetPlaysUptoSaid : Prop := netPlaysUptoRow.holds Tryz.pinned (OpenSpec.upto netPlaysSpec)

/-- 'palaverlaw26.NetNil', WHERE WHAT IT READS IS OF BULK AT MOST 1048576: true; the input reads as it did. -/
def netNilUptoRow : OpenClaim := { program := "yteiaiilfekojfaagreat", sum := "acc5c1d8cd94a37c9d9d5b15926ad3c566ef4515e265003740aa2fcc44e40311", func := "palaver/palaverlaw26.NetNil", spec := "netNil", unfollowed := true, recurses := true, plainKeys := false, apart := false, narrowed := true }
def NetNilUptoSaid : Prop := netNilUptoRow.holds Tryz.pinned (OpenSpec.upto netNilSpec)

end Rows
end Go.Proofs.YteiaiilfekojfaaGreat
