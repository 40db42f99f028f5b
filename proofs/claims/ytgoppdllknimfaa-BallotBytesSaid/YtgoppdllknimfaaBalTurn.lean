/- Package ballot, walked: Check and Turn, and the document's. Conditions: the arguments are of their types. -/
import Derived.Test.YtgoppdllknimfaaBallot
import Derived.IntWalk
namespace Go.Proofs.Ytgoppdllknimfaa.Bal
open Go.RowKit

def mayB (b : B) : Bool := (decide (b.n = 0) && decide (b.r = 0)) || (decide (0 < b.n) && decide (b.r ≤ 6))
def chkN (b : B) : Int := if mayB b then 0 else 2
/-- A node's turn above a ballot. -/
def turnN (b : B) (node : Nat) : B × Int :=
  if mayB b = false ∨ 6 < node then (⟨0, 0⟩, 2)
  else if 0 < b.n ∧ b.r < node then (⟨b.n, node⟩, 0)
  else if b.n = 18446744073709551615 then (⟨0, 0⟩, 7) else (⟨b.n + 1, node⟩, 0)

set_option linter.unusedSimpArgs false in
theorem check_any (b : B) (w : World) : Calls Try.prog 18 #[bV b] w fun e w' => e = .returned (.int .i64 (chkN b)) ∧ Al1 w w' := by
  obtain ⟨n, r⟩ := b
  unfold bV bC
  by_cases hr : 7 ≤ r
  · have e1 : chkN ⟨n, r⟩ = 2 := by unfold chkN mayB; have h1 : r ≠ 0 := (by omega); have h2 : ¬ r ≤ 6 := (by omega); simp [h1, h2]
    rw [e1]
    have g1 : (7 : Int) ≤ (r : Int) := by omega
    clear e1
    go_enter Try.func18, Try.ntmps18
    go_wp2
    go_ret
    exact ⟨rfl, _, rfl⟩
  have g1 : ¬ (7 : Int) ≤ (r : Int) := by omega
  by_cases hn : n = 0
  · subst hn
    by_cases h0 : r = 0
    · subst h0
      have e1 : chkN ⟨0, 0⟩ = 0 := by decide
      rw [e1]
      clear e1
      go_enter Try.func18, Try.ntmps18
      go_wp2
      go_ret
      exact ⟨rfl, _, rfl⟩
    · have e1 : chkN ⟨0, r⟩ = 2 := by unfold chkN mayB; simp [h0]
      rw [e1]
      clear e1
      have g0 : ((r : Int) == 0) = false := beq_eq_false_iff_ne.2 (by omega)
      go_enter Try.func18, Try.ntmps18
      go_wp2
      go_ret
      exact ⟨rfl, _, rfl⟩
  · have e1 : chkN ⟨n, r⟩ = 0 := by unfold chkN mayB; have h1 : 0 < n := (by omega); have h2 : r ≤ 6 := (by omega); simp [h1, h2]
    rw [e1]
    clear e1
    have g0 : ((n : Int) == 0) = false := beq_eq_false_iff_ne.2 (by omega)
    go_enter Try.func18, Try.ntmps18
    go_wp2
    go_ret
    exact ⟨rfl, _, rfl⟩

set_option linter.unusedSimpArgs false in
theorem may_any (b : B) (w : World) : Calls Try.prog 17 #[bV b] w fun e w' => e = .returned (.bool (mayB b)) ∧ Al1 w w' := by
  obtain ⟨n, r⟩ := b
  unfold bV bC
  by_cases hn : n = 0
  · subst hn
    by_cases h0 : r = 0
    · subst h0
      go_enter Try.func17, Try.ntmps17
      go_wp2
      go_ret
      exact ⟨rfl, _, rfl⟩
    · have e1 : mayB ⟨0, r⟩ = false := by unfold mayB; simp [h0]
      rw [e1]
      clear e1
      have g0 : ((r : Int) == 0) = false := beq_eq_false_iff_ne.2 (by omega)
      go_enter Try.func17, Try.ntmps17
      go_wp2
      go_ret
      exact ⟨rfl, _, rfl⟩
  · have g0 : ((n : Int) == 0) = false := beq_eq_false_iff_ne.2 (by omega)
    have g2 : (0 : Int) < (n : Int) := by omega
    have g3 : decide (0 < n) = true := decide_eq_true (by omega)
    by_cases h6 : r ≤ 6
    · have e1 : mayB ⟨n, r⟩ = true := by unfold mayB; simp [hn, h6]; omega
      rw [e1]
      clear e1
      have g1 : (r : Int) ≤ 6 := by omega
      go_enter Try.func17, Try.ntmps17
      go_wp2
      go_ret
      exact ⟨rfl, _, rfl⟩
    · have e1 : mayB ⟨n, r⟩ = false := by unfold mayB; simp [hn, h6]
      rw [e1]
      clear e1
      have g1 : ¬ (r : Int) ≤ 6 := by omega
      go_enter Try.func17, Try.ntmps17
      go_wp2
      go_ret
      exact ⟨rfl, _, rfl⟩
theorem of_any (n r : Nat) (w : World) : Calls Try.prog 23 #[.int .u64 (n : Int), .int .u8 (r : Int)] w fun e w' => e = .returned (bV ⟨n, r⟩) ∧ Al1 w w' := by
  unfold bV bC
  go_enter Try.func23, Try.ntmps23
  go_wp2
  refine bodyPost_ret (v := .agg #[.int .u64 (n : Int), .int .u8 (r : Int)]) (by simp [results, Try.results23, go_sem]) rfl ⟨rfl, _, rfl⟩

set_option linter.unusedSimpArgs false in
theorem chk_of (b : B) : (mayB b = true → chkN b = 0) ∧ (mayB b = false → chkN b = 2) := ⟨fun h => by unfold chkN; simp [h], fun h => by unfold chkN; simp [h]⟩
def TurnRet (w : World) (p : B × Int) (e : Ending) (w' : World) : Prop := e = .returned (.tuple #[bV p.1, .int .i64 p.2]) ∧ Below w.heap.size w w'
theorem below_all (w : World) (l : List Obj) (k : Nat) : Below w.heap.size w ((l.foldl World.alloc w).drewN k) := by
  have h : ∀ (l : List Obj) (v : World), w.heap.size ≤ v.heap.size → Below w.heap.size w v → Below w.heap.size w (l.foldl World.alloc v) := by
    intro l
    induction l with
    | nil => intro v _ h; exact h
    | cons o l ih => intro v hv h; exact ih (v.alloc o) (by simp; omega) (h.alloc hv o)
  exact below_drewN (h l w (Nat.le_refl _) (Below.refl _ w)) k
set_option maxHeartbeats 2000000 in
set_option linter.unusedSimpArgs false in
theorem turn_any (b : B) (node : Nat) (hb : b.n < 18446744073709551616) (w : World) : Calls Try.prog 15 #[bV b, .int .u8 (node : Int)] w fun e w' => TurnRet w (turnN b node) e w' := by
  have hc := chk_of b
  by_cases hm : mayB b = false
  · have e1 : turnN b node = (⟨0, 0⟩, 2) := by unfold turnN; simp [hm]
    rw [e1]
    have hk := hc.2 hm
    clear hc e1 hm
    have K := Lib.hid hk
    clear hk
    obtain ⟨n, r⟩ := b
    unfold TurnRet
    go_enter Try.func15, Try.ntmps15
    unfold bV bC at *
    go_wp2_with fail
    refine (check_any ⟨n, r⟩ _).mono ?_; rintro e w' ⟨rfl, o1, rfl⟩; rw [K.out]
    go_wp2
    refine bodyPost_ret (v := .tuple #[bV ⟨0, 0⟩, .int .i64 2]) (by simp [results, Try.results15, go_sem, bV, bC]) rfl ⟨rfl, below_all w [_, _, _] 0⟩
  have hk := hc.1 (by simpa using hm)
  clear hc
  by_cases h6 : 6 < node
  · have e1 : turnN b node = (⟨0, 0⟩, 2) := by unfold turnN; simp [h6]
    rw [e1]
    have g1 : (7 : Int) ≤ (node : Int) := by omega
    clear e1 hm
    have K := Lib.hid hk
    clear hk
    obtain ⟨n, r⟩ := b
    unfold TurnRet
    go_enter Try.func15, Try.ntmps15
    unfold bV bC at *
    go_wp2_with fail
    refine (check_any ⟨n, r⟩ _).mono ?_; rintro e w' ⟨rfl, o1, rfl⟩; rw [K.out]
    go_wp2
    refine bodyPost_ret (v := .tuple #[bV ⟨0, 0⟩, .int .i64 2]) (by simp [results, Try.results15, go_sem, bV, bC]) rfl ⟨rfl, below_all w [_, _, _] 0⟩
  have g1 : ¬ (7 : Int) ≤ (node : Int) := by omega
  by_cases hn : b.n = 0
  · have e1 : turnN b node = (⟨1, node⟩, 0) := by unfold turnN; simp [hm, h6, hn]
    rw [e1]
    clear e1
    have K := Lib.hid hk
    clear hk hm
    obtain ⟨n, r⟩ := b
    obtain rfl : n = 0 := hn
    unfold TurnRet
    go_enter Try.func15, Try.ntmps15
    unfold bV bC at *
    go_wp2_with fail
    refine (check_any ⟨0, r⟩ _).mono ?_; rintro e w' ⟨rfl, o1, rfl⟩; rw [K.out]
    go_wp2
    refine bodyPost_ret (v := .tuple #[bV ⟨1, node⟩, .int .i64 0]) (by simp [results, Try.results15, go_sem, bV, bC]) rfl ⟨rfl, below_all w [_, _, _, _] 0⟩
  have g2 : (0 : Int) < (b.n : Int) := by omega
  by_cases hr : b.r < node
  · have e1 : turnN b node = (⟨b.n, node⟩, 0) := by unfold turnN; have h0 : 0 < b.n := (by omega); simp [hm, h6, h0, hr]
    have L : ltB b ⟨b.n, node⟩ = true := by unfold ltB; simp [hr]
    rw [e1]
    clear e1
    have K := Lib.hid hk
    have LL := Lib.hid L
    clear hk hm L
    obtain ⟨n, r⟩ := b
    unfold TurnRet
    dsimp only at *
    go_enter Try.func15, Try.ntmps15
    unfold bV bC at *
    go_wp2_with fail
    refine (check_any ⟨n, r⟩ _).mono ?_; rintro e w' ⟨rfl, o1, rfl⟩; rw [K.out]
    go_wp2_with fail
    refine (below_any ⟨n, r⟩ ⟨n, node⟩ _).mono ?_; rintro e w' ⟨rfl, p1, p2, p3, p4, p5, rfl⟩; rw [LL.out]
    go_wp2
    refine bodyPost_ret (v := .tuple #[bV ⟨n, node⟩, .int .i64 0]) (by simp [results, Try.results15, go_sem, bV, bC]) rfl ⟨rfl, below_all w [_, _, _, _, _, _, _, _, _] 1⟩
  have L : ltB b ⟨b.n, node⟩ = false := by unfold ltB; simp; omega
  by_cases hf : b.n = 18446744073709551615
  · have e1 : turnN b node = (⟨0, 0⟩, 7) := by unfold turnN; simp [hm, h6, hr, hf]
    rw [e1]
    clear e1
    have K := Lib.hid hk
    have LL := Lib.hid L
    clear hk hm L
    obtain ⟨n, r⟩ := b
    obtain rfl : n = 18446744073709551615 := hf
    unfold TurnRet
    dsimp only at *
    go_enter Try.func15, Try.ntmps15
    unfold bV bC at *
    go_wp2_with fail
    refine (check_any ⟨18446744073709551615, r⟩ _).mono ?_; rintro e w' ⟨rfl, o1, rfl⟩; rw [K.out]
    go_wp2_with fail
    refine (below_any ⟨18446744073709551615, r⟩ ⟨18446744073709551615, node⟩ _).mono ?_; rintro e w' ⟨rfl, p1, p2, p3, p4, p5, rfl⟩; rw [LL.out]
    go_wp2
    refine bodyPost_ret (v := .tuple #[bV ⟨0, 0⟩, .int .i64 7]) (by simp [results, Try.results15, go_sem, bV, bC]) rfl ⟨rfl, below_all w [_, _, _, _, _, _, _, _, _] 1⟩
  · have e1 : turnN b node = (⟨b.n + 1, node⟩, 0) := by unfold turnN; simp [hm, h6, hr, hf]
    rw [e1]
    clear e1
    have K := Lib.hid hk
    have LL := Lib.hid L
    clear hk hm L
    obtain ⟨n, r⟩ := b
    dsimp only at *
    have g3 : ((n : Int) == 18446744073709551615) = false := beq_eq_false_iff_ne.2 (by omega)
    have g4 : IntKind.u64.wrap ((n : Int) + 1) = ((n + 1 : Nat) : Int) := by rw [IntWalk.u64_in _ (by omega)]; omega
    unfold TurnRet
    go_enter Try.func15, Try.ntmps15
    unfold bV bC at *
    go_wp2_with fail
    refine (check_any ⟨n, r⟩ _).mono ?_; rintro e w' ⟨rfl, o1, rfl⟩; rw [K.out]
    go_wp2_with fail
    refine (below_any ⟨n, r⟩ ⟨n, node⟩ _).mono ?_; rintro e w' ⟨rfl, p1, p2, p3, p4, p5, rfl⟩; rw [LL.out]
    go_wp2
    refine bodyPost_ret (v := .tuple #[bV ⟨n + 1, node⟩, .int .i64 0]) (by simp [results, Try.results15, go_sem, bV, bC]) rfl ⟨rfl, below_all w [_, _, _, _, _, _, _, _, _] 1⟩
set_option maxHeartbeats 2000000 in
set_option linter.unusedSimpArgs false in
theorem refTurn_any (b : B) (node : Nat) (hb : b.n < 18446744073709551616) (w : World) : Calls Try.prog 16 #[bV b, .int .u8 (node : Int)] w fun e w' => TurnRet w (turnN b node) e w' := by
  have hc : (mayB b = true → mayB b = true) ∧ (mayB b = false → mayB b = false) := ⟨id, id⟩
  by_cases hm : mayB b = false
  · have e1 : turnN b node = (⟨0, 0⟩, 2) := by unfold turnN; simp [hm]
    rw [e1]
    have hk := hc.2 hm
    clear hc e1 hm
    have K := Lib.hid hk
    clear hk
    obtain ⟨n, r⟩ := b
    unfold TurnRet
    go_enter Try.func16, Try.ntmps16
    unfold bV bC at *
    go_wp2_with fail
    refine (may_any ⟨n, r⟩ _).mono ?_; rintro e w' ⟨rfl, o1, rfl⟩; rw [K.out]
    go_wp2
    refine bodyPost_ret (v := .tuple #[bV ⟨0, 0⟩, .int .i64 2]) (by simp [results, Try.results16, go_sem, bV, bC]) rfl ⟨rfl, below_all w [_, _, _] 0⟩
  have hk := hc.1 (by simpa using hm)
  clear hc
  by_cases h6 : 6 < node
  · have e1 : turnN b node = (⟨0, 0⟩, 2) := by unfold turnN; simp [h6]
    rw [e1]
    have g1 : (6 : Int) < (node : Int) := by omega
    clear e1 hm
    have K := Lib.hid hk
    clear hk
    obtain ⟨n, r⟩ := b
    unfold TurnRet
    go_enter Try.func16, Try.ntmps16
    unfold bV bC at *
    go_wp2_with fail
    refine (may_any ⟨n, r⟩ _).mono ?_; rintro e w' ⟨rfl, o1, rfl⟩; rw [K.out]
    go_wp2
    refine bodyPost_ret (v := .tuple #[bV ⟨0, 0⟩, .int .i64 2]) (by simp [results, Try.results16, go_sem, bV, bC]) rfl ⟨rfl, below_all w [_, _, _] 0⟩
  have g1 : ¬ (6 : Int) < (node : Int) := by omega
  by_cases hn : b.n = 0
  · have e1 : turnN b node = (⟨1, node⟩, 0) := by unfold turnN; simp [hm, h6, hn]
    rw [e1]
    clear e1
    have K := Lib.hid hk
    clear hk hm
    obtain ⟨n, r⟩ := b
    obtain rfl : n = 0 := hn
    unfold TurnRet
    go_enter Try.func16, Try.ntmps16
    unfold bV bC at *
    go_wp2_with fail
    refine (may_any ⟨0, r⟩ _).mono ?_; rintro e w' ⟨rfl, o1, rfl⟩; rw [K.out]
    go_wp2
    refine bodyPost_ret (v := .tuple #[bV ⟨1, node⟩, .int .i64 0]) (by simp [results, Try.results16, go_sem, bV, bC]) rfl ⟨rfl, below_all w [_, _, _] 0⟩
  have g2 : (0 : Int) < (b.n : Int) := by omega
  by_cases hr : b.r < node
  · have g5 : (b.r : Int) < (node : Int) := by omega
    have e1 : turnN b node = (⟨b.n, node⟩, 0) := by unfold turnN; have h0 : 0 < b.n := (by omega); simp [hm, h6, h0, hr]
    have L : ltB b ⟨b.n, node⟩ = true := by unfold ltB; simp [hr]
    rw [e1]
    clear e1
    have K := Lib.hid hk
    have LL := Lib.hid L
    clear hk hm L
    obtain ⟨n, r⟩ := b
    unfold TurnRet
    dsimp only at *
    go_enter Try.func16, Try.ntmps16
    unfold bV bC at *
    go_wp2_with fail
    refine (may_any ⟨n, r⟩ _).mono ?_; rintro e w' ⟨rfl, o1, rfl⟩; rw [K.out]
    go_wp2
    refine bodyPost_ret (v := .tuple #[bV ⟨n, node⟩, .int .i64 0]) (by simp [results, Try.results16, go_sem, bV, bC]) rfl ⟨rfl, below_all w [_, _, _] 0⟩
  have g5 : ¬ (b.r : Int) < (node : Int) := by omega
  have L : ltB b ⟨b.n, node⟩ = false := by unfold ltB; simp; omega
  by_cases hf : b.n = 18446744073709551615
  · have e1 : turnN b node = (⟨0, 0⟩, 7) := by unfold turnN; simp [hm, h6, hr, hf]
    rw [e1]
    clear e1
    have K := Lib.hid hk
    have LL := Lib.hid L
    clear hk hm L
    obtain ⟨n, r⟩ := b
    obtain rfl : n = 18446744073709551615 := hf
    unfold TurnRet
    dsimp only at *
    go_enter Try.func16, Try.ntmps16
    unfold bV bC at *
    go_wp2_with fail
    refine (may_any ⟨18446744073709551615, r⟩ _).mono ?_; rintro e w' ⟨rfl, o1, rfl⟩; rw [K.out]
    go_wp2
    refine bodyPost_ret (v := .tuple #[bV ⟨0, 0⟩, .int .i64 7]) (by simp [results, Try.results16, go_sem, bV, bC]) rfl ⟨rfl, below_all w [_, _, _] 0⟩
  · have e1 : turnN b node = (⟨b.n + 1, node⟩, 0) := by unfold turnN; simp [hm, h6, hr, hf]
    rw [e1]
    clear e1
    have K := Lib.hid hk
    have LL := Lib.hid L
    clear hk hm L
    obtain ⟨n, r⟩ := b
    dsimp only at *
    have g3 : ((n : Int) == 18446744073709551615) = false := beq_eq_false_iff_ne.2 (by omega)
    have g4 : IntKind.u64.wrap ((n : Int) + 1) = ((n + 1 : Nat) : Int) := by rw [IntWalk.u64_in _ (by omega)]; omega
    unfold TurnRet
    go_enter Try.func16, Try.ntmps16
    unfold bV bC at *
    go_wp2_with fail
    refine (may_any ⟨n, r⟩ _).mono ?_; rintro e w' ⟨rfl, o1, rfl⟩; rw [K.out]
    go_wp2
    refine bodyPost_ret (v := .tuple #[bV ⟨n + 1, node⟩, .int .i64 0]) (by simp [results, Try.results16, go_sem, bV, bC]) rfl ⟨rfl, below_all w [_, _, _] 0⟩
end Go.Proofs.Ytgoppdllknimfaa.Bal
