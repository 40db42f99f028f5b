/- Package ballot, walked: Check and Turn, and the document's. Conditions: the arguments are of their types. -/
import Derived.IntWalk
import Derived.Test.YteiaiilfekojfaaGreatQNetOrderBallot
namespace Go.Proofs.YteiaiilfekojfaaGreat.Bal
open Go.RowKit

def mayB (b : B) : Bool := (decide (b.n = 0) && decide (b.r = 0)) || (decide (0 < b.n) && decide (b.r ≤ 6))
def chkN (b : B) : Int := if mayB b then 0 else 2
set_option linter.unusedSimpArgs false in
theorem check_any (b : B) (w : World) : Calls Tryz.prog 180 #[bV b] w fun e w' => e = .returned (.int .i64 (chkN b)) ∧ Al1 w w' := by
  obtain ⟨n, r⟩ := b
  unfold bV bC
  by_cases hr : 7 ≤ r
  · have e1 : chkN ⟨n, r⟩ = 2 := by unfold chkN mayB; have h1 : r ≠ 0 := (by omega); have h2 : ¬ r ≤ 6 := (by omega); simp [h1, h2]
    rw [e1]
    have g1 : (7 : Int) ≤ (r : Int) := by omega
    clear e1
    go_enter Tryz.func180, Tryz.ntmps180
    go_wp2
    go_ret
    exact ⟨rfl, _, rfl⟩
  have g1 : ¬ (7 : Int) ≤ (r : Int) := by omega
  by_cases hn : n = 0
  · subst hn
    by_cases h0 : r = 0
    · subst h0
      have e1 : chkN ⟨0, 0⟩ = 0 := by decide
      rw [e1]
      clear e1
      go_enter Tryz.func180, Tryz.ntmps180
      go_wp2
      go_ret
      exact ⟨rfl, _, rfl⟩
    · have e1 : chkN ⟨0, r⟩ = 2 := by unfold chkN mayB; simp [h0]
      rw [e1]
      clear e1
      have g0 : ((r : Int) == 0) = false := beq_eq_false_iff_ne.2 (by omega)
      go_enter Tryz.func180, Tryz.ntmps180
      go_wp2
      go_ret
      exact ⟨rfl, _, rfl⟩
  · have e1 : chkN ⟨n, r⟩ = 0 := by unfold chkN mayB; have h1 : 0 < n := (by omega); have h2 : r ≤ 6 := (by omega); simp [h1, h2]
    rw [e1]
    clear e1
    have g0 : ((n : Int) == 0) = false := beq_eq_false_iff_ne.2 (by omega)
    go_enter Tryz.func180, Tryz.ntmps180
    go_wp2
    go_ret
    exact ⟨rfl, _, rfl⟩

set_option linter.unusedSimpArgs false in
theorem chk_of (b : B) : (mayB b = true → chkN b = 0) ∧ (mayB b = false → chkN b = 2) := ⟨fun h => by unfold chkN; simp [h], fun h => by unfold chkN; simp [h]⟩
end Go.Proofs.YteiaiilfekojfaaGreat.Bal
