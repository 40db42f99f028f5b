/- Package ballot, walked: Check and Turn, and the document's. Conditions: the arguments are of their types. -/
import Derived.Test.YteiaiilfekojfaaBallot
import Derived.IntWalk
namespace Go.Proofs.Yteiaiilfekojfaa.Bal
open Go.RowKit

def mayB (b : B) : Bool := (decide (b.n = 0) && decide (b.r = 0)) || (decide (0 < b.n) && decide (b.r ≤ 6))
def chkN (b : B) : Int := if mayB b then 0 else 2
/-- A node's turn above a ballot. -/
def turnN (b : B) (node : Nat) : B × Int :=
  if mayB b = false ∨ 6 < node then (⟨0, 0⟩, 2)
  else if 0 < b.n ∧ b.r < node then (⟨b.n, node⟩, 0)
  else if b.n = 18446744073709551615 then (⟨0, 0⟩, 7) else (⟨b.n + 1, node⟩, 0)

set_option linter.unusedSimpArgs false in
theorem check_any (b : B) (w : World) : Calls Try.prog 121 #[bV b] w fun e w' => e = .returned (.int .i64 (chkN b)) ∧ Al1 w w' := by
  obtain ⟨n, r⟩ := b
  unfold bV bC
  by_cases hr : 7 ≤ r
  · have e1 : chkN ⟨n, r⟩ = 2 := by unfold chkN mayB; have h1 : r ≠ 0 := (by omega); have h2 : ¬ r ≤ 6 := (by omega); simp [h1, h2]
    rw [e1]
    have g1 : (7 : Int) ≤ (r : Int) := by omega
    clear e1
    go_enter Try.func121, Try.ntmps121
    go_wp2
    go_ret
    exact ⟨rfl, _, rfl⟩
  have g1 : ¬ (7 : Int) ≤ (r : Int) := by omega
  by_cases hn : n = 0
  · subst hn
    by_cases h0 : r = 0
    · subst h0
      have e1 : chkN ⟨0, 0⟩ = 0 := by decide
      rw [e1]
      clear e1
      go_enter Try.func121, Try.ntmps121
      go_wp2
      go_ret
      exact ⟨rfl, _, rfl⟩
    · have e1 : chkN ⟨0, r⟩ = 2 := by unfold chkN mayB; simp [h0]
      rw [e1]
      clear e1
      have g0 : ((r : Int) == 0) = false := beq_eq_false_iff_ne.2 (by omega)
      go_enter Try.func121, Try.ntmps121
      go_wp2
      go_ret
      exact ⟨rfl, _, rfl⟩
  · have e1 : chkN ⟨n, r⟩ = 0 := by unfold chkN mayB; have h1 : 0 < n := (by omega); have h2 : r ≤ 6 := (by omega); simp [h1, h2]
    rw [e1]
    clear e1
    have g0 : ((n : Int) == 0) = false := beq_eq_false_iff_ne.2 (by omega)
    go_enter Try.func121, Try.ntmps121
    go_wp2
    go_ret
    exact ⟨rfl, _, rfl⟩

set_option linter.unusedSimpArgs false in
theorem chk_of (b : B) : (mayB b = true → chkN b = 0) ∧ (mayB b = false → chkN b = 2) := ⟨fun h => by unfold chkN; simp [h], fun h => by unfold chkN; simp [h]⟩
def TurnRet (w : World) (p : B × Int) (e : Ending) (w' : World) : Prop := e = .returned (.tuple #[bV p.1, .int .i64 p.2]) ∧ Below w.heap.size w w'
theorem below_all (w : World) (l : List Obj) (k : Nat) : Below w.heap.size w ((l.foldl World.alloc w).drewN k) := by
  have h : ∀ (l : List Obj) (v : World), w.heap.size ≤ v.heap.size → Below w.heap.size w v → Below w.heap.size w (l.foldl World.alloc v) := by
    intro l
    induction l with
    | nil => intro v _ h; exact h
    | cons o l ih => intro v hv h; exact ih (v.alloc o) (by simp; omega) (h.alloc hv o)
  exact below_drewN (h l w (Nat.le_refl _) (Below.refl _ w)) k
end Go.Proofs.Yteiaiilfekojfaa.Bal
