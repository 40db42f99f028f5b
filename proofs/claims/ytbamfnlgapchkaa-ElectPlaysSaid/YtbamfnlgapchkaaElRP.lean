/- What nodes told, in order, as the document keeps it, in plain Lean. No program in sight. No conditions. -/
import Derived.Test.YtbamfnlgapchkaaElOpen
import Derived.Test.YtbamfnlgapchkaaMemRefPure
import Derived.Test.YtbamfnlgapchkaaElBP
namespace Go.Proofs.Ytbamfnlgapchkaa.Ele
open Bal Mem

def nodesT (L : List Td) : List Nat := L.map (·.node)
def flatT (L : List Td) : List Vt := L.flatMap (·.V)
def flF (p : Nat × Nat) (x : Td) : Nat × Nat := if p.1 < x.base then (x.base, x.node) else p
def floorT (L : List Td) : Nat × Nat := L.foldl flF (0, 0)
theorem floor_snoc (L : List Td) (x : Td) : floorT (L ++ [x]) = flF (floorT L) x := by unfold floorT; rw [List.foldl_append]; rfl
theorem flat_snoc (L : List Td) (x : Td) : flatT (L ++ [x]) = flatT L ++ x.V := by unfold flatT; rw [List.flatMap_append]; simp
theorem flat_take_le (L : List Td) (i : Nat) : (flatT (L.take i)).length ≤ (flatT L).length := by
  conv => rhs; rw [← List.take_append_drop i L]
  unfold flatT
  rw [List.flatMap_append, List.length_append]
  omega
theorem best_more (V V2 : List Vt) (s : Nat) : bestT (V ++ V2) s = V2.foldl (fun a v => bestF a v s) (bestT V s) := by unfold bestT; rw [List.foldl_append]
theorem last_more (V V2 : List Vt) : lastT (V ++ V2) = V2.foldl (fun m v => max m v.slot) (lastT V) := by unfold lastT; rw [List.foldl_append]
theorem set_snoc (out : List Nat) (x : Nat) : withN (setN out) (ofN [x]) = setN (out ++ [x]) := by
  refine eq_of_bits _ _ (with_lt _ _) (set_lt _) fun i hi => ?_
  rw [test_with _ _ _ hi, set_test _ _ hi, set_test _ _ hi, mem_of _ _ hi]
  unfold hasL
  by_cases h1 : i ∈ out <;> by_cases h2 : i = x <;> simp [h1, h2]
/-- A round of which these nodes told. -/
def roOf (b : B) (L : List Td) : Ro := ⟨b.n, b.r, setN (nodesT L), (floorT L).1, (floorT L).2, lastT (flatT L), bestT (flatT L)⟩
theorem roOf_nil (b : B) : roOf b [] = Ro.new b.n b.r := by
  unfold roOf Ro.new
  congr 1
def addR (L : List Td) (node : Nat) : Nat := if 6 < node then 2 else if hasL (nodesT L) node then 13 else 0
theorem addE_of (b : B) (L : List Td) (node : Nat) : addE (roOf b L) node = addR L node := by
  unfold addE addR
  by_cases h : 6 < node
  · rw [if_pos h, if_pos h]
  · rw [if_neg h, if_neg h]
    have : hasB (roOf b L).who node = hasL (nodesT L) node := by
      show hasB (setN (nodesT L)) node = _
      rw [has_bit' _ _ (by omega), set_test _ _ (by omega)]
    rw [this]
def nextL (L : List Td) (x : Td) : List Td := if addR L x.node = 0 then L ++ [x] else L
theorem add_of (b : B) (L : List Td) (x : Td) : (roOf b L).add x.node x.base x.V = roOf b (nextL L x) := by
  unfold Ro.add nextL
  rw [addE_of]
  split
  · obtain ⟨s1, s2, s3, s4, s5⟩ := grow_same x.V ((roOf b L).tell x.node x.base)
    have hl := grow_last x.V ((roOf b L).tell x.node x.base)
    have hF := grow_F x.V ((roOf b L).tell x.node x.base)
    generalize x.V.foldl Ro.grow ((roOf b L).tell x.node x.base) = r at *
    obtain ⟨a1, a2, a3, a4, a5, a6, a7⟩ := r
    unfold roOf
    dsimp only at *
    rw [flat_snoc, floor_snoc, last_more]
    have e3 : a3 = setN (nodesT (L ++ [x])) := by
      rw [s3]
      show withN (setN (nodesT L)) (ofN [x.node]) = _
      rw [set_snoc]
      unfold nodesT
      rw [List.map_append]
      rfl
    have e4 : a4 = (flF (floorT L) x).1 := by
      rw [s4]
      show (if (floorT L).1 < x.base then x.base else (floorT L).1) = _
      unfold flF
      split <;> rfl
    have e5 : a5 = (flF (floorT L) x).2 := by
      rw [s5]
      show (if (floorT L).1 < x.base then x.node else (floorT L).2) = _
      unfold flF
      split <;> rfl
    have e7 : a7 = bestT (flatT L ++ x.V) := by
      funext s
      rw [hF, best_more]
      rfl
    rw [s1, s2, e3, e4, e5, hl, e7]
    rfl
  · rfl
theorem major_who (c : Nat) (l : List Nat) : majorL (listN c) l = majorB c (setN l) := by
  rw [← major_list]
  unfold majorL
  have e : pickL (listN c) l true = pickL (listN c) (listN (setN l)) true := by
    unfold pickL
    refine List.filter_congr fun i hi => ?_
    have hi7 := ((mem_list c i).1 hi).1
    rw [has_list _ _ hi7, set_test _ _ hi7]
  rw [e]
end Go.Proofs.Ytbamfnlgapchkaa.Ele
