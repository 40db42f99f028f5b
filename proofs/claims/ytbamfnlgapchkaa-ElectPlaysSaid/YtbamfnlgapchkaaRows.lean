/-
  No cell of these rows narrows 'for every input' (looked for: loops, veiled, ifaces, maps, wideKeys, modest, calm, conditions, laid).
  DERIVED. THE GIVEN ROWS OF THIS SEAT. 12 by the template 'for every input the law returns true; each argument reads behind the call as it read before'; 0 by the template 'total and deterministic' (their statements: YtbamfnlgapchkaaTotals.lean).
  GIVEN WITH THE SEED: the statements are not yours to turn. If you find one false, say at which input.
  Laid BY PROGRAM, IN A SANDBOX (cutbox-rows.mjs): the forced cells as the released guide's own fill.sh prints them over the translation e6179ed21749a519… (all of the seat's roots in one cut). By AI agents, Wed Nov 11 2026. No macro, syntax, notation, axiom, sorry.
-/
import Derived.Test.YtbamfnlgapchkaaChecked
import GoSem.Claim
import GoSem.ClaimJoined
import GoSem.ClaimMapViews
import Derived.JoinedTies
import Derived.KernelRfl
namespace Go.Proofs.Ytbamfnlgapchkaa
/- THE CELL 'sum', in the pinned program and in every row, IS THE sha256 OF THE DUMP (.gsa) THAT YtbamfnlgapchkaaProg.lean LOADS. Nothing in Lean hashes anything: it is a label: what it is worth is what the hold of that sum in a sandbox is worth. -/
noncomputable def Try.pinned : Pinned := { name := "ytbamfnlgapchkaa", sum := "e6179ed21749a519aaba1aef6d1a78b574f4633a3d449fd0dda61ac85e4548f9", checked := Try.checked }
namespace Rows
def none {H : Type} : Left H := { results := [], args := [] }

/-- 'palaverlaw15.ChainAhead': WHATEVER THE INPUT: true; the input reads as it did. -/
def chainAheadSpec : ChangeSpec := { name := "chainAhead", fn := fun _ => fun
  | [d1, d2, d3, d4] => { results := [.lit (.bool true)], args := [d1, d2, d3, d4] }
  | _ => none }
def chainAheadRow : OpenClaim := { program := "ytbamfnlgapchkaa", sum := "e6179ed21749a519aaba1aef6d1a78b574f4633a3d449fd0dda61ac85e4548f9", func := "palaver/palaverlaw15.ChainAhead", spec := "chainAhead", unfollowed := true, recurses := true, apart := false }
def ChainAheadSaid : Prop := chainAheadRow.holds Try.pinned (OpenSpec.ofChange chainAheadSpec)

/-- ITS FALSE NEIGHBOUR: 'it returns false'. Refute it at one input. -/
def chainAheadWrong : ChangeSpec := { name := "chainAhead", fn := fun _ => fun
  | [d1, d2, d3, d4] => { results := [.lit (.bool false)], args := [d1, d2, d3, d4] }
  | _ => none }
def ChainAheadWrongFalsely : Prop := chainAheadRow.holds Try.pinned (OpenSpec.ofChange chainAheadWrong)

/-- 'palaverlaw15.ChainOf': WHATEVER THE INPUT: true; the input reads as it did. -/
def chainOfSpec : ChangeSpec := { name := "chainOf", fn := fun _ => fun
  | [d1, d2, d3, d4, d5] => { results := [.lit (.bool true)], args := [d1, d2, d3, d4, d5] }
  | _ => none }
def chainOfRow : OpenClaim := { program := "ytbamfnlgapchkaa", sum := "e6179ed21749a519aaba1aef6d1a78b574f4633a3d449fd0dda61ac85e4548f9", func := "palaver/palaverlaw15.ChainOf", spec := "chainOf", unfollowed := true, recurses := true, apart := false }
def ChainOfSaid : Prop := chainOfRow.holds Try.pinned (OpenSpec.ofChange chainOfSpec)

/-- ITS FALSE NEIGHBOUR: 'it returns false'. Refute it at one input. -/
def chainOfWrong : ChangeSpec := { name := "chainOf", fn := fun _ => fun
  | [d1, d2, d3, d4, d5] => { results := [.lit (.bool false)], args := [d1, d2, d3, d4, d5] }
  | _ => none }
def ChainOfWrongFalsely : Prop := chainOfRow.holds Try.pinned (OpenSpec.ofChange chainOfWrong)

/-- 'palaverlaw15.ChainNil': WHATEVER THE INPUT: true; the input reads as it did. -/
def chainNilSpec : ChangeSpec := { name := "chainNil", fn := fun _ => fun
  | [d1, d2, d3] => { results := [.lit (.bool true)], args := [d1, d2, d3] }
  | _ => none }
def chainNilRow : OpenClaim := { program := "ytbamfnlgapchkaa", sum := "e6179ed21749a519aaba1aef6d1a78b574f4633a3d449fd0dda61ac85e4548f9", func := "palaver/palaverlaw15.ChainNil", spec := "chainNil", unfollowed := true, recurses := true, apart := false }
def ChainNilSaid : Prop := chainNilRow.holds Try.pinned (OpenSpec.ofChange chainNilSpec)

/-- ITS FALSE NEIGHBOUR: 'it returns false'. Refute it at one input. -/
def chainNilWrong : ChangeSpec := { name := "chainNil", fn := fun _ => fun
  | [d1, d2, d3] => { results := [.lit (.bool false)], args := [d1, d2, d3] }
  | _ => none }
def ChainNilWrongFalsely : Prop := chainNilRow.holds Try.pinned (OpenSpec.ofChange chainNilWrong)

/-- 'palaverlaw15.ChainPlays': WHATEVER THE INPUT: true; the input reads as it did. -/
def chainPlaysSpec : ChangeSpec := { name := "chainPlays", fn := fun _ => fun
  | [d1, d2, d3, d4] => { results := [.lit (.bool true)], args := [d1, d2, d3, d4] }
  | _ => none }
def chainPlaysRow : OpenClaim := { program := "ytbamfnlgapchkaa", sum := "e6179ed21749a519aaba1aef6d1a78b574f4633a3d449fd0dda61ac85e4548f9", func := "palaver/palaverlaw15.ChainPlays", spec := "chainPlays", unfollowed := true, recurses := true, apart := false }
def ChainPlaysSaid : Prop := chainPlaysRow.holds Try.pinned (OpenSpec.ofChange chainPlaysSpec)

/-- ITS FALSE NEIGHBOUR: 'it returns false'. Refute it at one input. -/
def chainPlaysWrong : ChangeSpec := { name := "chainPlays", fn := fun _ => fun
  | [d1, d2, d3, d4] => { results := [.lit (.bool false)], args := [d1, d2, d3, d4] }
  | _ => none }
def ChainPlaysWrongFalsely : Prop := chainPlaysRow.holds Try.pinned (OpenSpec.ofChange chainPlaysWrong)

/-- 'palaverlaw15.ChainTails': WHATEVER THE INPUT: true; the input reads as it did. -/
def chainTailsSpec : ChangeSpec := { name := "chainTails", fn := fun _ => fun
  | [d1, d2, d3] => { results := [.lit (.bool true)], args := [d1, d2, d3] }
  | _ => none }
def chainTailsRow : OpenClaim := { program := "ytbamfnlgapchkaa", sum := "e6179ed21749a519aaba1aef6d1a78b574f4633a3d449fd0dda61ac85e4548f9", func := "palaver/palaverlaw15.ChainTails", spec := "chainTails", unfollowed := true, recurses := true, apart := false }
def ChainTailsSaid : Prop := chainTailsRow.holds Try.pinned (OpenSpec.ofChange chainTailsSpec)

/-- ITS FALSE NEIGHBOUR: 'it returns false'. Refute it at one input. -/
def chainTailsWrong : ChangeSpec := { name := "chainTails", fn := fun _ => fun
  | [d1, d2, d3] => { results := [.lit (.bool false)], args := [d1, d2, d3] }
  | _ => none }
def ChainTailsWrongFalsely : Prop := chainTailsRow.holds Try.pinned (OpenSpec.ofChange chainTailsWrong)

/-- 'palaverlaw22.ThriftPlays': WHATEVER THE INPUT: true; the input reads as it did. -/
def thriftPlaysSpec : ChangeSpec := { name := "thriftPlays", fn := fun _ => fun
  | [d1, d2, d3] => { results := [.lit (.bool true)], args := [d1, d2, d3] }
  | _ => none }
def thriftPlaysRow : OpenClaim := { program := "ytbamfnlgapchkaa", sum := "e6179ed21749a519aaba1aef6d1a78b574f4633a3d449fd0dda61ac85e4548f9", func := "palaver/palaverlaw22.ThriftPlays", spec := "thriftPlays", unfollowed := true, recurses := true, apart := false }
def ThriftPlaysSaid : Prop := thriftPlaysRow.holds Try.pinned (OpenSpec.ofChange thriftPlaysSpec)

/-- ITS FALSE NEIGHBOUR: 'it returns false'. Refute it at one input. -/
def thriftPlaysWrong : ChangeSpec := { name := "thriftPlays", fn := fun _ => fun
  | [d1, d2, d3] => { results := [.lit (.bool false)], args := [d1, d2, d3] }
  | _ => none }
def ThriftPlaysWrongFalsely : Prop := thriftPlaysRow.holds Try.pinned (OpenSpec.ofChange thriftPlaysWrong)

/-- 'palaverlaw22.ThriftNil': WHATEVER THE INPUT: true; the input reads as it did. -/
def thriftNilSpec : ChangeSpec := { name := "thriftNil", fn := fun _ => fun
  | [d1, d2] => { results := [.lit (.bool true)], args := [d1, d2] }
  | _ => none }
def thriftNilRow : OpenClaim := { program := "ytbamfnlgapchkaa", sum := "e6179ed21749a519aaba1aef6d1a78b574f4633a3d449fd0dda61ac85e4548f9", func := "palaver/palaverlaw22.ThriftNil", spec := "thriftNil", unfollowed := true, recurses := true, apart := false }
def ThriftNilSaid : Prop := thriftNilRow.holds Try.pinned (OpenSpec.ofChange thriftNilSpec)

/-- ITS FALSE NEIGHBOUR: 'it returns false'. Refute it at one input. -/
def thriftNilWrong : ChangeSpec := { name := "thriftNil", fn := fun _ => fun
  | [d1, d2] => { results := [.lit (.bool false)], args := [d1, d2] }
  | _ => none }
def ThriftNilWrongFalsely : Prop := thriftNilRow.holds Try.pinned (OpenSpec.ofChange thriftNilWrong)

/-- 'palaverlaw22.ThriftLeast': WHATEVER THE INPUT: true; the input reads as it did. -/
def thriftLeastSpec : ChangeSpec := { name := "thriftLeast", fn := fun _ => fun
  | [d1, d2, d3] => { results := [.lit (.bool true)], args := [d1, d2, d3] }
  | _ => none }
def thriftLeastRow : OpenClaim := { program := "ytbamfnlgapchkaa", sum := "e6179ed21749a519aaba1aef6d1a78b574f4633a3d449fd0dda61ac85e4548f9", func := "palaver/palaverlaw22.ThriftLeast", spec := "thriftLeast", unfollowed := true, recurses := true, apart := false }
def ThriftLeastSaid : Prop := thriftLeastRow.holds Try.pinned (OpenSpec.ofChange thriftLeastSpec)

/-- ITS FALSE NEIGHBOUR: 'it returns false'. Refute it at one input. -/
def thriftLeastWrong : ChangeSpec := { name := "thriftLeast", fn := fun _ => fun
  | [d1, d2, d3] => { results := [.lit (.bool false)], args := [d1, d2, d3] }
  | _ => none }
def ThriftLeastWrongFalsely : Prop := thriftLeastRow.holds Try.pinned (OpenSpec.ofChange thriftLeastWrong)

/-- 'palaverlaw19.ElectBinds': WHATEVER THE INPUT: true; the input reads as it did. -/
def electBindsSpec : ChangeSpec := { name := "electBinds", fn := fun _ => fun
  | [d1, d2, d3, d4, d5] => { results := [.lit (.bool true)], args := [d1, d2, d3, d4, d5] }
  | _ => none }
def electBindsRow : OpenClaim := { program := "ytbamfnlgapchkaa", sum := "e6179ed21749a519aaba1aef6d1a78b574f4633a3d449fd0dda61ac85e4548f9", func := "palaver/palaverlaw19.ElectBinds", spec := "electBinds", unfollowed := true, recurses := true, apart := false }
def ElectBindsSaid : Prop := electBindsRow.holds Try.pinned (OpenSpec.ofChange electBindsSpec)

/-- ITS FALSE NEIGHBOUR: 'it returns false'. Refute it at one input. -/
def electBindsWrong : ChangeSpec := { name := "electBinds", fn := fun _ => fun
  | [d1, d2, d3, d4, d5] => { results := [.lit (.bool false)], args := [d1, d2, d3, d4, d5] }
  | _ => none }
def ElectBindsWrongFalsely : Prop := electBindsRow.holds Try.pinned (OpenSpec.ofChange electBindsWrong)

/-- 'palaverlaw19.ElectFree': WHATEVER THE INPUT: true; the input reads as it did. -/
def electFreeSpec : ChangeSpec := { name := "electFree", fn := fun _ => fun
  | [d1, d2] => { results := [.lit (.bool true)], args := [d1, d2] }
  | _ => none }
def electFreeRow : OpenClaim := { program := "ytbamfnlgapchkaa", sum := "e6179ed21749a519aaba1aef6d1a78b574f4633a3d449fd0dda61ac85e4548f9", func := "palaver/palaverlaw19.ElectFree", spec := "electFree", unfollowed := true, recurses := true, apart := false }
def ElectFreeSaid : Prop := electFreeRow.holds Try.pinned (OpenSpec.ofChange electFreeSpec)

/-- ITS FALSE NEIGHBOUR: 'it returns false'. Refute it at one input. -/
def electFreeWrong : ChangeSpec := { name := "electFree", fn := fun _ => fun
  | [d1, d2] => { results := [.lit (.bool false)], args := [d1, d2] }
  | _ => none }
def ElectFreeWrongFalsely : Prop := electFreeRow.holds Try.pinned (OpenSpec.ofChange electFreeWrong)

/-- 'palaverlaw19.ElectPlays': WHATEVER THE INPUT: true; the input reads as it did. -/
def electPlaysSpec : ChangeSpec := { name := "electPlays", fn := fun _ => fun
  | [d1, d2, d3, d4] => { results := [.lit (.bool true)], args := [d1, d2, d3, d4] }
  | _ => none }
def electPlaysRow : OpenClaim := { program := "ytbamfnlgapchkaa", sum := "e6179ed21749a519aaba1aef6d1a78b574f4633a3d449fd0dda61ac85e4548f9", func := "palaver/palaverlaw19.ElectPlays", spec := "electPlays", unfollowed := true, recurses := true, apart := false }
def ElectPlaysSaid : Prop := electPlaysRow.holds Try.pinned (OpenSpec.ofChange electPlaysSpec)

/-- ITS FALSE NEIGHBOUR: 'it returns false'. Refute it at one input. -/
def electPlaysWrong : ChangeSpec := { name := "electPlays", fn := fun _ => fun
  | [d1, d2, d3, d4] => { results := [.lit (.bool false)], args := [d1, d2, d3, d4] }
  | _ => none }
def ElectPlaysWrongFalsely : Prop := electPlaysRow.holds Try.pinned (OpenSpec.ofChange electPlaysWrong)

/-- 'palaverlaw19.ElectNil': WHATEVER THE INPUT: true; the input reads as it did. -/
def electNilSpec : ChangeSpec := { name := "electNil", fn := fun _ => fun
  | [d1, d2] => { results := [.lit (.bool true)], args := [d1, d2] }
  | _ => none }
def electNilRow : OpenClaim := { program := "ytbamfnlgapchkaa", sum := "e6179ed21749a519aaba1aef6d1a78b574f4633a3d449fd0dda61ac85e4548f9", func := "palaver/palaverlaw19.ElectNil", spec := "electNil", unfollowed := true, recurses := true, apart := false }
def ElectNilSaid : Prop := electNilRow.holds Try.pinned (OpenSpec.ofChange electNilSpec)

/-- ITS FALSE NEIGHBOUR: 'it returns false'. Refute it at one input. -/
def electNilWrong : ChangeSpec := { name := "electNil", fn := fun _ => fun
  | [d1, d2] => { results := [.lit (.bool false)], args := [d1, d2] }
  | _ => none }
def ElectNilWrongFalsely : Prop := electNilRow.holds Try.pinned (OpenSpec.ofChange electNilWrong)

/- THE SECOND FORM. 'bulk': how many values and letters a reading holds, each counted each time it is reached (what is shared counts as often as it is met; a slice's spare places count too). A statement '..UptoSaid' is the law's where the arguments, and the package variables that the reading takes, are together of bulk at most 1048576: NARROWER than '..Said'. Prove '..Said' where nothing that the law and all that it calls make is longer than what came in: it says more and counts as full. Else prove '..UptoSaid'. A law counts once. -/
mutual
def uptoBulk {H : Type} : DataW H → Nat
  | .lit (.string bytes) => bytes.length + 1
  | .lit _ => 1
  | .nil => 1
  | .ptr d => uptoBulk d + 1
  | .slice elems spare => uptoBulkAll elems + uptoBulkAll spare + 1
  | .agg parts => uptoBulkAll parts + 1
  | .iface _ d => uptoBulk d + 1
  | .map entries => uptoBulkEntries entries + 1
  | .held _ => 1
def uptoBulkAll {H : Type} : List (DataW H) → Nat
  | [] => 0
  | d :: r => uptoBulk d + uptoBulkAll r
def uptoBulkEntries {H : Type} : List (Lit × DataW H) → Nat
  | [] => 0
  | x :: r => uptoBulkEntry x + uptoBulkEntries r
def uptoBulkEntry {H : Type} : Lit × DataW H → Nat
  | (.string bytes, d) => bytes.length + uptoBulk d + 1
  | (_, d) => uptoBulk d + 1
 end
def uptoSmall : (H : Type) → List (DataW H) → Bool := fun _ ds => decide (uptoBulkAll ds ≤ 1048576)
def OpenSpec.upto (s : _root_.Go.ChangeSpec) : _root_.Go.OpenSpec := { _root_.Go.OpenSpec.ofChange s with cond := some uptoSmall }

/-- 'palaverlaw15.ChainAhead', WHERE WHAT IT READS IS OF BULK AT MOST 1048576: true; the input reads as it did. -/
def chainAheadUptoRow : OpenClaim := { program := "ytbamfnlgapchkaa", sum := "e6179ed21749a519aaba1aef6d1a78b574f4633a3d449fd0dda61ac85e4548f9", func := "palaver/palaverlaw15.ChainAhead", spec := "chainAhead", unfollowed := true, recurses := true, apart := false, narrowed := true }
def ChainAheadUptoSaid : Prop := chainAheadUptoRow.holds Try.pinned (OpenSpec.upto chainAheadSpec)

/-- 'palaverlaw15.ChainOf', WHERE WHAT IT READS IS OF BULK AT MOST 1048576: true; the input reads as it did. -/
def chainOfUptoRow : OpenClaim := { program := "ytbamfnlgapchkaa", sum := "e6179ed21749a519aaba1aef6d1a78b574f4633a3d449fd0dda61ac85e4548f9", func := "palaver/palaverlaw15.ChainOf", spec := "chainOf", unfollowed := true, recurses := true, apart := false, narrowed := true }
def ChainOfUptoSaid : Prop := chainOfUptoRow.holds Try.pinned (OpenSpec.upto chainOfSpec)

/-- 'palaverlaw15.ChainNil', WHERE WHAT IT READS IS OF BULK AT MOST 1048576: true; the input reads as it did. -/
def chainNilUptoRow : OpenClaim := { program := "ytbamfnlgapchkaa", sum := "e6179ed21749a519aaba1aef6d1a78b574f4633a3d449fd0dda61ac85e4548f9", func := "palaver/palaverlaw15.ChainNil", spec := "chainNil", unfollowed := true, recurses := true, apart := false, narrowed := true }
def ChainNilUptoSaid : Prop := chainNilUptoRow.holds Try.pinned (OpenSpec.upto chainNilSpec)

/-- 'palaverlaw15.ChainPlays', WHERE WHAT IT READS IS OF BULK AT MOST 1048576: true; the input reads as it did. -/
def chainPlaysUptoRow : OpenClaim := { program := "ytbamfnlgapchkaa", sum := "e6179ed21749a519aaba1aef6d1a78b574f4633a3d449fd0dda61ac85e4548f9", func := "palaver/palaverlaw15.ChainPlays", spec := "chainPlays", unfollowed := true, recurses := true, apart := false, narrowed := true }
def ChainPlaysUptoSaid : Prop := chainPlaysUptoRow.holds Try.pinned (OpenSpec.upto chainPlaysSpec)

/-- 'palaverlaw15.ChainTails', WHERE WHAT IT READS IS OF BULK AT MOST 1048576: true; the input reads as it did. -/
def chainTailsUptoRow : OpenClaim := { program := "ytbamfnlgapchkaa", sum := "e6179ed21749a519aaba1aef6d1a78b574f4633a3d449fd0dda61ac85e4548f9", func := "palaver/palaverlaw15.ChainTails", spec := "chainTails", unfollowed := true, recurses := true, apart := false, narrowed := true }
def ChainTailsUptoSaid : Prop := chainTailsUptoRow.holds Try.pinned (OpenSpec.upto chainTailsSpec)

/-- 'palaverlaw22.ThriftPlays', WHERE WHAT IT READS IS OF BULK AT MOST 1048576: true; the input reads as it did. -/
def thriftPlaysUptoRow : OpenClaim := { program := "ytbamfnlgapchkaa", sum := "e6179ed21749a519aaba1aef6d1a78b574f4633a3d449fd0dda61ac85e4548f9", func := "palaver/palaverlaw22.ThriftPlays", spec := "thriftPlays", unfollowed := true, recurses := true, apart := false, narrowed := true }
def ThriftPlaysUptoSaid : Prop := thriftPlaysUptoRow.holds Try.pinned (OpenSpec.upto thriftPlaysSpec)

/-- 'palaverlaw22.ThriftNil', WHERE WHAT IT READS IS OF BULK AT MOST 1048576: true; the input reads as it did. -/
def thriftNilUptoRow : OpenClaim := { program := "ytbamfnlgapchkaa", sum := "e6179ed21749a519aaba1aef6d1a78b574f4633a3d449fd0dda61ac85e4548f9", func := "palaver/palaverlaw22.ThriftNil", spec := "thriftNil", unfollowed := true, recurses := true, apart := false, narrowed := true }
def ThriftNilUptoSaid : Prop := thriftNilUptoRow.holds Try.pinned (OpenSpec.upto thriftNilSpec)

/-- 'palaverlaw22.ThriftLeast', WHERE WHAT IT READS IS OF BULK AT MOST 1048576: true; the input reads as it did. -/
def thriftLeastUptoRow : OpenClaim := { program := "ytbamfnlgapchkaa", sum := "e6179ed21749a519aaba1aef6d1a78b574f4633a3d449fd0dda61ac85e4548f9", func := "palaver/palaverlaw22.ThriftLeast", spec := "thriftLeast", unfollowed := true, recurses := true, apart := false, narrowed := true }
def ThriftLeastUptoSaid : Prop := thriftLeastUptoRow.holds Try.pinned (OpenSpec.upto thriftLeastSpec)

/-- 'palaverlaw19.ElectBinds', WHERE WHAT IT READS IS OF BULK AT MOST 1048576: true; the input reads as it did. -/
def electBindsUptoRow : OpenClaim := { program := "ytbamfnlgapchkaa", sum := "e6179ed21749a519aaba1aef6d1a78b574f4633a3d449fd0dda61ac85e4548f9", func := "palaver/palaverlaw19.ElectBinds", spec := "electBinds", unfollowed := true, recurses := true, apart := false, narrowed := true }
def ElectBindsUptoSaid : Prop := electBindsUptoRow.holds Try.pinned (OpenSpec.upto electBindsSpec)

/-- 'palaverlaw19.ElectFree', WHERE WHAT IT READS IS OF BULK AT MOST 1048576: true; the input reads as it did. -/
def electFreeUptoRow : OpenClaim := { program := "ytbamfnlgapchkaa", sum := "e6179ed21749a519aaba1aef6d1a78b574f4633a3d449fd0dda61ac85e4548f9", func := "palaver/palaverlaw19.ElectFree", spec := "electFree", unfollowed := true, recurses := true, apart := false, narrowed := true }
def ElectFreeUptoSaid : Prop := electFreeUptoRow.holds Try.pinned (OpenSpec.upto electFreeSpec)

/-- 'palaverlaw19.ElectPlays', WHERE WHAT IT READS IS OF BULK AT MOST 1048576: true; the input reads as it did. -/
def electPlaysUptoRow : OpenClaim := { program := "ytbamfnlgapchkaa", sum := "e6179ed21749a519aaba1aef6d1a78b574f4633a3d449fd0dda61ac85e4548f9", func := "palaver/palaverlaw19.ElectPlays", spec := "electPlays", unfollowed := true, recurses := true, apart := false, narrowed := true }
def ElectPlaysUptoSaid : Prop := electPlaysUptoRow.holds Try.pinned (OpenSpec.upto electPlaysSpec)

/-- 'palaverlaw19.ElectNil', WHERE WHAT IT READS IS OF BULK AT MOST 1048576: true; the input reads as it did. -/
def electNilUptoRow : OpenClaim := { program := "ytbamfnlgapchkaa", sum := "e6179ed21749a519aaba1aef6d1a78b574f4633a3d449fd0dda61ac85e4548f9", func := "palaver/palaverlaw19.ElectNil", spec := "electNil", unfollowed := true, recurses := true, apart := false, narrowed := true }
def ElectNilUptoSaid : Prop := electNilUptoRow.holds Try.pinned (OpenSpec.upto electNilSpec)

end Rows
end Go.Proofs.Ytbamfnlgapchkaa
