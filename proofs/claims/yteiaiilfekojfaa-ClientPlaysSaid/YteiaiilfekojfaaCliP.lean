/- Clients in plain Lean: what New, Invoke, Nudge, Hear and Waits answer. No program in sight but the types' numbers. No conditions. -/
import Derived.Test.YteiaiilfekojfaaCmdCheck
import Derived.Test.YteiaiilfekojfaaCmdTake
namespace Go.Proofs.Yteiaiilfekojfaa.Cli
open Go.RowKit Wire Cmd

structure Cl where
  id : Nat
  n : Nat
  node : Nat
  seq : Nat
  cmd : Cm
  waits : Bool
  deriving DecidableEq
def clC (x : Cl) : Array Value := #[.int .u8 (x.id : Int), .int .i64 (x.n : Int), .int .u8 (x.node : Int), .int .u32 (x.seq : Int), .int .u8 (x.cmd.client : Int), .int .u32 (x.cmd.seq : Int), .int .u8 (x.cmd.kind : Int), .string ⟨x.cmd.key.toArray⟩, .string ⟨x.cmd.old.toArray⟩, .string ⟨x.cmd.new.toArray⟩, .int .u8 (x.cmd.set : Int), .bool x.waits]
def ClAt (w : World) (g : Nat) (x : Cl) : Prop := Blk w g 81 (clC x)
def ClGo (w : World) (g : Nat) (x : Cl) (w' : World) : Prop := ClAt w' g x ∧ w.grownBy w' (some g)
structure Lt where
  src : Nat
  dst : Nat
  kind : Nat
  bn : Nat
  br : Nat
  base : Nat
  slot : Nat
  node : Nat
  value : List UInt8
  votes : Value
  items : Value
  cmd : Cm
  code : Nat
  text : List UInt8
def ltC (l : Lt) : Array Value := #[.int .u8 (l.src : Int), .int .u8 (l.dst : Int), .int .u8 (l.kind : Int), .int .u64 (l.bn : Int), .int .u8 (l.br : Int), .int .u64 (l.base : Int), .int .u64 (l.slot : Int), .int .u8 (l.node : Int), .string ⟨l.value.toArray⟩, l.votes, l.items,
  .int .u8 (l.cmd.client : Int), .int .u32 (l.cmd.seq : Int), .int .u8 (l.cmd.kind : Int), .string ⟨l.cmd.key.toArray⟩, .string ⟨l.cmd.old.toArray⟩, .string ⟨l.cmd.new.toArray⟩, .int .u8 (l.cmd.set : Int), .int .u8 (l.code : Int), .string ⟨l.text.toArray⟩]
def ltV (l : Lt) : Value := .agg (ltC l)
def lt0 : Lt := ⟨0, 0, 0, 0, 0, 0, 0, 0, [], .slice none 0 0, .slice none 0 0, cm0, 0, []⟩
def askL (x : Cl) : Lt := { lt0 with src := 16 + x.id, dst := x.node, kind := 1, cmd := x.cmd }
/-- A client as it may be. -/
structure Cl.Fits (x : Cl) : Prop where
  h1 : x.id < 4
  h2 : 1 ≤ x.n
  h3 : x.n ≤ 7
  h4 : x.node < x.n
  h5 : x.seq < 4294967296
  h6 : x.cmd.Fits
structure Lt.Fits (l : Lt) : Prop where
  h1 : l.src < 256
  h2 : l.dst < 256
  h3 : l.kind < 256
  h4 : l.node < 256
  h5 : l.cmd.Fits
  h6 : l.code < 256
  h7 : l.votes.oneCell' = true
  h8 : l.items.oneCell' = true
def cl0 (id n : Nat) : Cl := ⟨id, n, id % n, 0, cm0, false⟩
def stamp (x : Cl) (c : Cm) : Cm := { c with client := x.id, seq := x.seq + 1 }
def invokeC (x : Cl) (c : Cm) : Cl × Lt × Nat :=
  if x.waits then (x, lt0, 13)
  else if x.seq = 4294967295 then (x, lt0, 7)
  else if mayB (stamp x c) then ({ x with seq := x.seq + 1, cmd := stamp x c, waits := true }, askL { x with seq := x.seq + 1, cmd := stamp x c, waits := true }, 0)
  else (x, lt0, 2)
def nudgeC (x : Cl) : Cl × Lt × Nat :=
  if x.waits then ({ x with node := (x.node + 1) % x.n }, askL { x with node := (x.node + 1) % x.n }, 0) else (x, lt0, 13)
/-- Whether a letter is looked at. -/
def forB (x : Cl) (l : Lt) : Bool := x.waits && decide (l.dst = 16 + x.id) && decide (l.src < x.n) && (decide (l.cmd.client = x.cmd.client) && decide (l.cmd.seq = x.cmd.seq))
def hearC (x : Cl) (l : Lt) : Cl × Lt × Bool × (Nat × List UInt8) × Bool :=
  if forB x l = false then (x, lt0, false, (0, []), false)
  else if l.kind = 3 ∧ l.node < x.n then ({ x with node := l.node }, askL { x with node := l.node }, true, (0, []), false)
  else if l.kind = 2 ∧ l.code ≠ 3 then ({ x with cmd := cm0, waits := false }, lt0, false, (l.code, l.text), true)
  else (x, lt0, false, (0, []), false)
def waitsC (x : Cl) : Cm × Bool := if x.waits then (x.cmd, true) else (cm0, false)
theorem cm0_ok : cm0.Fits := ⟨by decide, by decide, by decide, by decide, by decide, by decide, by decide⟩
theorem cl0_fits {id n : Nat} (h1 : id < 4) (h2 : 1 ≤ n) (h3 : n ≤ 7) : (cl0 id n).Fits :=
  ⟨h1, h2, h3, Nat.mod_lt _ (by omega), (show 0 < 4294967296 by decide), cm0_ok⟩
end Go.Proofs.Yteiaiilfekojfaa.Cli
