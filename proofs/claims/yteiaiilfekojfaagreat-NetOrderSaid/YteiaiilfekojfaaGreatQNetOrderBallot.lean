/- Package ballot, walked: its order, Check, Below, Turn, and the document's. Conditions: the arguments are of their types. -/
import Derived.Test.YteiaiilfekojfaaGreatProg
import Derived.WalkKit
import Derived.Outline
import Derived.Lib.Hide
import Derived.LoopN
import Derived.Deep.RegionWith
import Derived.Deep.RegionHeld3
import Derived.Test.YteiaiilfekojfaaGreatQNetOrderBase
namespace Go.Proofs.YteiaiilfekojfaaGreat.Bal
open Go.RowKit

/-- A ballot. -/
structure B where
  n : Nat
  r : Nat
  deriving DecidableEq
def bC (b : B) : Array Value := #[.int .u64 (b.n : Int), .int .u8 (b.r : Int)]
def bV (b : B) : Value := .agg (bC b)
def cmpN (a b : Nat) : Int := if a < b then -1 else if b < a then 1 else 0
def ordN (a b : B) : Int := if cmpN a.n b.n ≠ 0 then cmpN a.n b.n else cmpN a.r b.r

theorem nan8 (n : Int) (w : World) : Calls Tryz.prog 107 #[.int .u8 n] w fun e w' => e = .returned (.bool false) ∧ w = w' := by
  go_enter Tryz.func107, Tryz.ntmps107
  go_wp2
  go_ret
  exact ⟨by simp, rfl⟩
theorem cmp8 (a b : Nat) (w : World) : Calls Tryz.prog 71 #[.int .u8 (a : Int), .int .u8 (b : Int)] w fun e w' => e = .returned (.int .i64 (cmpN a b)) ∧ w = w' := by
  rcases Nat.lt_trichotomy a b with h | h | h
  · have e1 : cmpN a b = -1 := by unfold cmpN; rw [if_pos h]
    rw [e1]
    clear e1
    have h1 : (a : Int) < (b : Int) := by omega
    go_enter Tryz.func71, Tryz.ntmps71
    go_wp2_with (go_at_call 107; refine (nan8 _ _).mono ?_; rintro e w' ⟨rfl, rfl⟩)
    go_ret
    exact ⟨rfl, rfl⟩
  · have e1 : cmpN a b = 0 := by unfold cmpN; rw [if_neg (by omega), if_neg (by omega)]
    rw [e1]
    clear e1
    subst h
    go_enter Tryz.func71, Tryz.ntmps71
    go_wp2_with (go_at_call 107; refine (nan8 _ _).mono ?_; rintro e w' ⟨rfl, rfl⟩)
    go_ret
    exact ⟨rfl, rfl⟩
  · have e1 : cmpN a b = 1 := by unfold cmpN; rw [if_neg (by omega), if_pos h]
    rw [e1]
    clear e1
    have h1 : ¬ (a : Int) < (b : Int) := by omega
    have h2 : (b : Int) < (a : Int) := by omega
    go_enter Tryz.func71, Tryz.ntmps71
    go_wp2_with (go_at_call 107; refine (nan8 _ _).mono ?_; rintro e w' ⟨rfl, rfl⟩)
    go_ret
    exact ⟨rfl, rfl⟩

theorem or2 (g : Nat) (x y : Int) (w : World) (c0 : w.cell? ⟨g, 0, none⟩ = some (.int .i64 x)) (c1 : w.cell? ⟨g, 1, none⟩ = some (.int .i64 y)) :
    Calls Tryz.prog 70 #[.slice (some ⟨g, 0, none⟩) 2 2] w fun e w' => e = .returned (.int .i64 (if x ≠ 0 then x else y)) ∧ w = w' := by
  by_cases hx : x = 0
  · subst hx
    rw [if_neg (by simp)]
    by_cases hy : y = 0
    · subst hy
      go_enter Tryz.func70, Tryz.ntmps70
      go_wp2
      refine wp_loop_rounds 3 ?_
      rw [rounds_succ]; go_wp2
      rw [rounds_succ]; go_wp2
      rw [rounds_succ]; go_wp2
      go_ret
      exact ⟨rfl, rfl⟩
    · have hy2 : (y == 0) = false := beq_eq_false_iff_ne.2 hy
      go_enter Tryz.func70, Tryz.ntmps70
      go_wp2
      refine wp_loop_rounds 2 ?_
      rw [rounds_succ]; go_wp2
      rw [rounds_succ]; go_wp2
      go_ret
      exact ⟨rfl, rfl⟩
  · rw [if_pos hx]
    have hx2 : (x == 0) = false := beq_eq_false_iff_ne.2 hx
    go_enter Tryz.func70, Tryz.ntmps70
    go_wp2
    refine wp_loop_rounds 1 ?_
    rw [rounds_succ]; go_wp2
    go_ret
    exact ⟨rfl, rfl⟩

def ltB (a b : B) : Bool := decide (a.n < b.n) || (decide (a.n = b.n) && decide (a.r < b.r))
theorem ordN_lt (a b : B) : ltB a b = decide (ordN a b < 0) := by
  unfold ltB ordN cmpN
  rcases Nat.lt_trichotomy a.n b.n with h | h | h
  · simp [h]
  · rcases Nat.lt_trichotomy a.r b.r with k | k | k
    · simp [h, k]
    · simp [h, k]
    · have k2 : ¬ a.r < b.r := by omega
      simp [h, k, k2]
  · have h2 : ¬ a.n < b.n := by omega
    have h3 : a.n ≠ b.n := by omega
    simp [h, h2, h3]
/-- Some blocks are new, and nothing else. -/
def Al1 (w w' : World) : Prop := ∃ o1, w.alloc o1 = w'
def Al2 (w w' : World) : Prop := ∃ o1 o2, (w.alloc o1).alloc o2 = w'
def Al3 (w w' : World) : Prop := ∃ o1 o2 o3, (((w.alloc o1).alloc o2).alloc o3).drew = w'
def Al5 (w w' : World) : Prop := ∃ o1 o2 o3 o4 o5, (((((w.alloc o1).alloc o2).alloc o3).alloc o4).alloc o5).drew = w'
theorem below_1 (w : World) (o : Obj) : Below w.heap.size w (w.alloc o) := (Below.refl _ w).alloc (Nat.le_refl _) o
theorem below_2 (w : World) (o p : Obj) : Below w.heap.size w ((w.alloc o).alloc p) := ((Below.refl _ w).alloc (Nat.le_refl _) o).alloc (by simp) p
theorem Al1.below {w w' : World} (h : Al1 w w') : Below w.heap.size w w' := by obtain ⟨a, rfl⟩ := h; exact below_1 w a
theorem Al2.below {w w' : World} (h : Al2 w w') : Below w.heap.size w w' := by obtain ⟨a, b, rfl⟩ := h; exact below_2 w a b
theorem Al5.below {w w' : World} (h : Al5 w w') : Below w.heap.size w w' := by
  obtain ⟨a, b, c, d, e, rfl⟩ := h
  exact (((below_2 w a b).alloc (by simp <;> omega) c).alloc (by simp <;> omega) d).alloc (by simp <;> omega) e |>.drew
theorem cells_3 (w : World) (o p : Obj) (x y : Value) (t : TypeId) : ((((w.alloc o).alloc p).alloc (.cells #[x, y] t)).drew).cell? ⟨w.heap.size + 1 + 1, 0, none⟩ = some x ∧ ((((w.alloc o).alloc p).alloc (.cells #[x, y] t)).drew).cell? ⟨w.heap.size + 1 + 1, 1, none⟩ = some y := by
  have h := Blk.new ((w.alloc o).alloc p) t #[x, y]
  have e : ((w.alloc o).alloc p).heap.size = w.heap.size + 1 + 1 := by simp
  rw [e] at h
  exact ⟨h.cell 0, h.cell 1⟩

end Go.Proofs.YteiaiilfekojfaaGreat.Bal
