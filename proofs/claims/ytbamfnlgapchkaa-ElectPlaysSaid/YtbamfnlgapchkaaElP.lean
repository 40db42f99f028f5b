/- A leader's round in plain Lean: votes, the best of them, the floor, who told. No program in sight. No conditions. -/
import Derived.Test.YtbamfnlgapchkaaBalChk
import Derived.Test.YtbamfnlgapchkaaMemRefPure
namespace Go.Proofs.Ytbamfnlgapchkaa.Ele
open Go.RowKit Bal Mem

/-- A vote. -/
structure Vt where
  slot : Nat
  n : Nat
  r : Nat
  val : List UInt8
  deriving DecidableEq
def Vt.b (v : Vt) : B := ⟨v.n, v.r⟩
def vtC (v : Vt) : Array Value := #[.int .u64 (v.slot : Int), .int .u64 (v.n : Int), .int .u8 (v.r : Int), .string ⟨v.val.toArray⟩]
def vtL (v : Vt) : List Value := (vtC v).toList
def vtV (v : Vt) : Value := .agg (vtC v)
def vt0 : Vt := ⟨0, 0, 0, []⟩
theorem vtL_len (v : Vt) : (vtL v).length = 4 := rfl
theorem vtL_one (v : Vt) : ∀ u ∈ vtL v, u.oneCell' = true := by
  intro u hu
  simp [vtL, vtC] at hu
  rcases hu with rfl | rfl | rfl | rfl <;> rfl
/-- The best vote of a slot, one vote more. -/
def bestF (acc : Option Vt) (v : Vt) (s : Nat) : Option Vt :=
  if v.slot = s then (match acc with | none => some v | some o => if ltB o.b v.b then some v else some o) else acc
def bestT (V : List Vt) (s : Nat) : Option Vt := V.foldl (fun a v => bestF a v s) none
def lastT (V : List Vt) : Nat := V.foldl (fun m v => max m v.slot) 0
theorem best_snoc (V : List Vt) (v : Vt) (s : Nat) : bestT (V ++ [v]) s = bestF (bestT V s) v s := by unfold bestT; rw [List.foldl_append]; rfl
theorem last_snoc (V : List Vt) (v : Vt) : lastT (V ++ [v]) = max (lastT V) v.slot := by unfold lastT; rw [List.foldl_append]; rfl
/-- A round as the program keeps it: its ballot, who told, the floor and who told it, the last slot, the best votes. -/
structure Ro where
  n : Nat
  r : Nat
  who : Nat
  floor : Nat
  by_ : Nat
  last : Nat
  F : Nat → Option Vt
def Ro.grow (q : Ro) (v : Vt) : Ro := { q with last := max q.last v.slot, F := fun s => bestF (q.F s) v s }
def Ro.new (n r : Nat) : Ro := ⟨n, r, 0, 0, 0, 0, fun _ => none⟩
/-- Add, ahead of the votes. -/
def Ro.tell (q : Ro) (node base : Nat) : Ro := { q with who := withN q.who (ofN [node]), floor := if q.floor < base then base else q.floor, by_ := if q.floor < base then node else q.by_ }
def addE (q : Ro) (node : Nat) : Nat := if 6 < node then 2 else if hasB q.who node then 13 else 0
def Ro.add (q : Ro) (node base : Nat) (V : List Vt) : Ro := if addE q node = 0 then V.foldl Ro.grow (q.tell node base) else q
def boundV (q : Ro) (s : Nat) : List UInt8 := ((q.F s).getD vt0).val
def boundB (q : Ro) (s : Nat) : Bool := (q.F s).isSome || decide (s < q.last)
def mayR (q : Ro) (s c : Nat) : Bool := decide (q.floor < s) && majorB c q.who
theorem grow_F (V : List Vt) : ∀ (q : Ro) (s : Nat), (V.foldl Ro.grow q).F s = V.foldl (fun a v => bestF a v s) (q.F s) := by
  induction V with
  | nil => intro q s; rfl
  | cons v V ih => intro q s; rw [List.foldl_cons, ih, List.foldl_cons]; rfl
theorem grow_last (V : List Vt) : ∀ q : Ro, (V.foldl Ro.grow q).last = V.foldl (fun m v => max m v.slot) q.last := by
  induction V with
  | nil => intro q; rfl
  | cons v V ih => intro q; rw [List.foldl_cons, ih, List.foldl_cons]; rfl
theorem grow_same (V : List Vt) : ∀ q : Ro, (V.foldl Ro.grow q).n = q.n ∧ (V.foldl Ro.grow q).r = q.r ∧ (V.foldl Ro.grow q).who = q.who ∧ (V.foldl Ro.grow q).floor = q.floor ∧ (V.foldl Ro.grow q).by_ = q.by_ := by
  induction V with
  | nil => intro q; exact ⟨rfl, rfl, rfl, rfl, rfl⟩
  | cons v V ih => intro q; rw [List.foldl_cons]; exact ih (q.grow v)
theorem grow_snoc (q : Ro) (V : List Vt) (v : Vt) : (V ++ [v]).foldl Ro.grow q = (V.foldl Ro.grow q).grow v := by rw [List.foldl_append]; rfl
end Go.Proofs.Ytbamfnlgapchkaa.Ele
