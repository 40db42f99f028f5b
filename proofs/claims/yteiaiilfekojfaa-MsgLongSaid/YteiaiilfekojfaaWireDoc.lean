/- The document's reader of bytes, walked: none, Byte, End. Conditions: the arguments are of their types. -/
import Derived.Test.YteiaiilfekojfaaWireLaw
import Derived.Test.YteiaiilfekojfaaWireRef
import Derived.Test.YteiaiilfekojfaaKeep
import Derived.Deep.RegionHeld3
namespace Go.Proofs.Yteiaiilfekojfaa.Wire
open Go.RowKit

/-- The document's reader: what is left, and the error. -/
structure Dr where
  s : List UInt8
  e : Nat
def drC (r : Dr) : Array Value := #[.string ⟨r.s.toArray⟩, .int .i64 (r.e : Int)]
def drV (r : Dr) : Value := .agg (drC r)
def Dr.byte (r : Dr) : Nat × Dr :=
  if r.e ≠ 0 then (0, r) else match r.s with
  | [] => (0, ⟨[], 3⟩)
  | b :: l => (b.toNat, ⟨l, 0⟩)
def Dr.end_ (r : Dr) : Dr := if r.e = 0 ∧ 0 < r.s.length then ⟨[], 4⟩ else r
/-- What the document's reader is, where the program's is this one. -/
def Rd.doc (r : Rd) : Dr := if r.err = 0 then ⟨r.rest, 0⟩ else ⟨[], r.err⟩
theorem doc_byte (r : Rd) : (r.doc).byte = (r.byte.1, r.byte.2.doc) := by
  obtain ⟨e, l⟩ := r
  unfold Rd.doc
  by_cases h : e = 0
  · subst h
    match l with
    | [] => rfl
    | b :: l => rw [byte_cons]; rfl
  · rw [byte_failed _ h]
    simp only [if_neg h]
    unfold Dr.byte
    rw [if_pos h]
theorem doc_end (r : Rd) : (r.doc).end_ = r.end_.doc := by
  obtain ⟨e, l⟩ := r
  unfold Rd.doc Dr.end_ Rd.end_ Rd.fail
  by_cases h : e = 0
  · subst h
    by_cases h2 : 0 < l.length
    · simp [h2]
    · simp [h2]
  · by_cases h2 : 0 < l.length
    · simp [h, h2]
    · simp [h, h2]

def DocRet (w : World) (v : Value) (e : Ending) (w' : World) : Prop := e = .returned v ∧ Below w.heap.size w w'

end Go.Proofs.Yteiaiilfekojfaa.Wire
