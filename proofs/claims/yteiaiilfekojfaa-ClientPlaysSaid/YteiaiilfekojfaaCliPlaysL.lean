/- The law ClientPlays walked. Conditions: what the types say. -/
import Derived.Test.YteiaiilfekojfaaCliT
import Derived.Test.YteiaiilfekojfaaCliSx
import Derived.Test.YteiaiilfekojfaaCliGreat
import Derived.Test.YteiaiilfekojfaaCliNudge
import Derived.Test.YteiaiilfekojfaaCliInv
import Derived.Test.YteiaiilfekojfaaCliHear
import Derived.Test.YteiaiilfekojfaaCliWakes
import Derived.Test.YteiaiilfekojfaaCliRI
import Derived.Test.YteiaiilfekojfaaCliRP
set_option linter.unusedVariables false
set_option linter.unusedSimpArgs false
namespace Go.Proofs.Yteiaiilfekojfaa.Cli
open Go.RowKit Sx Wire Cmd DrawInv
theorem ex_pnil {P : Program} {ρ : Operand → Value} {o : Oper} {w : World} {vs : Vs} {T U e : TypeId} {x y : Operand} {a : Option Addr} (E : Env vs ρ) (ho : o.op = .binOp .eql T x y U) (hT : P.underlying T = some (.pointer e)) (hx : opv vs x = some (.pointer a)) (hy : opv vs y = some (.pointer none)) {t : Bool} (ht : a.isNone = t) : (execOp ρ o).run P w = .ok (.value (.bool t)) w := by
  subst ht
  unfold execOp; rw [ho]
  simp only [E.ev hx, E.ev hy]
  have h : (Op.equal T (.pointer a) (.pointer none)).run P w = .ok a.isNone w := by
    unfold Op.equal
    rw [show Op.maxDepth = 9999 + 1 from rfl]
    unfold Op.equalIn
    cases a <;> simp [run_underlying hT]
  simp only [eqGuard, Sem.run_bind, Sem.run_pure, Result.andThen_ok, ite_self, binOp, h]
theorem callOwnC {w0 : World} {L : List Ft} {P : Program} {f : Nat} {args : Array Value} {e : TypeId} {sz m : Nat} {xs : List Value} (vf : Value → Value) (hc : ∀ w, Hp w0 L w → Calls P f args w fun E w' => ∃ v', E = .returned (vf v') ∧ w'.ownsRow w.heap.size e sz v' m xs ∧ Below w.heap.size w w') :
    ∀ w, Hp w0 L w → Calls P f args w fun E w' => ∃ s : Value, E = .returned (vf s) ∧ OwnIn w0 [] s ∧ Hp w0 (rowX [] w0.heap.size e sz s m xs :: L) w' := fun w H => (hc w H).mono fun E w' ⟨v', he, hown, hb⟩ =>
  ⟨v', he, fun g hg => .inr (Nat.le_trans H.os.size (own_lt hown g hg).1), H.add hb _ (rowX_loc _ _ _ _ _ _ _) (fun g hg => ⟨(own_lt hown g (by simpa [rowX] using hg)).2, (own_lt hown g (by simpa [rowX] using hg)).1⟩) (own_base hown H.os.size)⟩
theorem call_new {w0 : World} {L : List Ft} (id n : Nat) (hi : id < 4) (h1 : 1 ≤ n) (h7 : n ≤ 7) : ∀ w, Hp w0 L w → Calls Try.prog 10 #[.int .u8 (id : Int), .int .i64 (n : Int)] w fun E w' => ∃ g : Nat, E = .returned (.tuple #[.pointer (some ⟨g, 0, none⟩), .int .i64 0]) ∧ w0.heap.size ≤ g ∧ Hp w0 (cell g 81 (clC (cl0 id n)).toList :: L) w' := fun w H => (new_any id n hi h1 h7 w).mono fun E w' ⟨he, hw⟩ => by
  subst hw
  refine ⟨w.heap.size, he, H.os.size, H.add ((Below.refl _ w).alloc (Nat.le_refl _) _) _ (cell_loc _ _ _) (fun g hg => ?_) (by show Blk _ _ _ _; exact Blk.new w _ _)⟩
  obtain rfl := List.mem_singleton.1 hg
  exact ⟨by rw [World.alloc, Array.size_push]; omega, Nat.le_refl _⟩
theorem inv_turn {g : Nat} {x x2 : Cl} {c : Cm} {l2 : Lt} {e2 : Nat} (hf : x.Fits) (hc : c.Fits) (h : invokeC x c = (x2, l2, e2)) (w : World) (hg : ClAt w g x) : Calls Try.prog 13 #[.pointer (some ⟨g, 0, none⟩), cmV c] w fun e w' => e = .returned (.tuple #[ltV l2, .int .i64 (e2 : Int)]) ∧ Blk w' g 81 (clC x2) ∧ w.grownBy w' (some g) := (invoke_any g x hf c hc w hg).mono fun _ _ q => by rw [h] at q; exact ⟨q.1, q.2.1, q.2.2⟩
theorem nud_turn {g : Nat} {x x2 : Cl} {l2 : Lt} {e2 : Nat} (hf : x.Fits) (h : nudgeC x = (x2, l2, e2)) (w : World) (hg : ClAt w g x) : Calls Try.prog 15 #[.pointer (some ⟨g, 0, none⟩)] w fun e w' => e = .returned (.tuple #[ltV l2, .int .i64 (e2 : Int)]) ∧ Blk w' g 81 (clC x2) ∧ w.grownBy w' (some g) := (nudge_any g x hf w hg).mono fun _ _ q => by rw [h] at q; exact ⟨q.1, q.2.1, q.2.2⟩
theorem hear_turn {g : Nat} {x x2 : Cl} {l l2 : Lt} {i2 k2 : Bool} {c2 : Nat} {t2 : List UInt8} (hf : x.Fits) (hl : l.Fits) (h : hearC x l = (x2, l2, i2, (c2, t2), k2)) (w : World) (hg : ClAt w g x) : Calls Try.prog 17 #[.pointer (some ⟨g, 0, none⟩), ltV l] w fun e w' => e = .returned (.tuple #[ltV l2, .bool i2, .agg #[.int .u8 (c2 : Int), .string ⟨t2.toArray⟩], .bool k2]) ∧ Blk w' g 81 (clC x2) ∧ w.grownBy w' (some g) := (hear_any g x hf l hl w hg).mono fun _ _ q => by rw [h] at q; exact ⟨q.1, q.2.1, q.2.2⟩
theorem inv_fits {x : Cl} {c : Cm} (hf : x.Fits) (hc : c.Fits) : (invokeC x c).1.Fits := by
  unfold invokeC
  split
  · exact hf
  split
  · exact hf
  split
  · rename_i h1 h2 h3
    have h5 := hf.h5
    exact ⟨hf.h1, hf.h2, hf.h3, hf.h4, (show x.seq + 1 < 4294967296 by omega), ⟨(show x.id < 256 by have := hf.h1; omega), (show x.seq + 1 < 4294967296 by omega), hc.h3, hc.h4, hc.h5, hc.h6, hc.h7⟩⟩
  · exact hf
theorem nud_fits {x : Cl} (hf : x.Fits) : (nudgeC x).1.Fits := by
  unfold nudgeC
  split
  · exact ⟨hf.h1, hf.h2, hf.h3, Nat.mod_lt _ (by have := hf.h2; show 0 < x.n; omega), hf.h5, hf.h6⟩
  · exact hf
theorem hear_fits {x : Cl} {l : Lt} (hf : x.Fits) : (hearC x l).1.Fits := by
  unfold hearC
  split
  · exact hf
  split
  · rename_i h1 h2
    exact ⟨hf.h1, hf.h2, hf.h3, h2.2, hf.h5, hf.h6⟩
  split
  · exact ⟨hf.h1, hf.h2, hf.h3, hf.h4, hf.h5, cm0_ok⟩
  · exact hf
theorem hear_shape (r : Rc) (l : Lt) : (hearR r l).1.L = r.L ∧ (hearR r l).2.1.votes = .slice none 0 0 ∧ (hearR r l).2.1.items = .slice none 0 0 := by
  unfold hearR
  split
  · exact ⟨rfl, rfl, rfl⟩
  split
  · exact ⟨rfl, rfl, rfl⟩
  split
  · exact ⟨rfl, rfl, rfl⟩
  · exact ⟨rfl, rfl, rfl⟩
theorem waits_p {g : Nat} {x : Cl} {c : Cm} {b : Bool} (h : waitsC x = (c, b)) (w : World) (hg : ClAt w g x) : Calls Try.prog 19 #[.pointer (some ⟨g, 0, none⟩)] w fun e w' => e = .returned (.tuple #[cmV c, .bool b]) ∧ Below w.heap.size w w' := (waits_any g x w hg).mono fun _ _ q => by rw [h] at q; exact q
theorem mayI_nat {id : Nat} {nn : Int} (h : mayI id nn = true) : ∃ n : Nat, nn = (n : Int) ∧ id < 4 ∧ 1 ≤ n ∧ n ≤ 7 := by
  unfold mayI at h
  simp only [Bool.and_eq_true, decide_eq_true_eq] at h
  exact ⟨nn.toNat, by omega, by omega, by omega, by omega⟩
theorem mayI_not {id : Nat} {nn : Int} (h : mayI id nn = false) : 4 ≤ id ∨ nn < 1 ∨ 7 < nn := by
  unfold mayI at h
  by_cases h1 : 4 ≤ id
  · exact .inl h1
  by_cases h2 : nn < 1
  · exact .inr (.inl h2)
  by_cases h3 : 7 < nn
  · exact .inr (.inr h3)
  · rw [decide_eq_true (by omega : id < 4), decide_eq_true (by omega : 0 < nn), decide_eq_true (by omega : nn < 8)] at h
    cases h

theorem eq_cmm (c : Cm) (w : World) : (Op.equal 36 (cmV c) (cmV c)).run Try.prog w = .ok true w := by
  obtain ⟨a, b, k, s, t, u, z⟩ := c
  have h := eq_cm 9998 w (a : Int) (b : Int) (k : Int) (z : Int) ⟨s.toArray⟩ ⟨t.toArray⟩ ⟨u.toArray⟩
  simp only [beq_self_eq_true, Bool.true_and, Bool.and_true] at h
  exact h
theorem eq_rym (c : Nat) (t : List UInt8) (w : World) : (Op.equal 43 (.agg #[.int .u8 (c : Int), .string ⟨t.toArray⟩]) (.agg #[.int .u8 (c : Int), .string ⟨t.toArray⟩])).run Try.prog w = .ok true w := by
  have h := eq_ry 9998 w (c : Int) ⟨t.toArray⟩
  simp only [beq_self_eq_true, Bool.true_and, Bool.and_true] at h
  exact h

set_option maxRecDepth 100000 in
set_option maxHeartbeats 4000000 in
theorem plays_any (id : Nat) (nn : Int) (l : List Ac) (A : Option Addr) (c : Nat) (w : World) (hA : Rows w A 28 acC l) (hQ : ∀ x ∈ l, x.Fits) (hl : l.length ≤ 9223372036854775807) : Calls Try.prog 3 #[.int .u8 (id : Int), .int .i64 (nn), .slice A l.length c] w fun e w' => e = .returned (.bool true) ∧ Below w.heap.size w w' := by
  have hnone := ownC_none w
  refine sx_enter (n := 174) [.int .u8 (id : Int), .int .i64 (nn), .slice A l.length c] Try.func3 rfl rfl rfl (Hp.start w) ?_
  refine SxC.seq ?_
  refine SxC.region ?_
  refine SxL.val (v := .bool false) trivial rfl rfl (fun ρ w E H => ex_assign E rfl rfl) ?_
  refine SxL.nil ?_
  refine SxN.then_ ?_
  refine SxC.seq ?_
  refine SxC.seq ?_
  refine SxC.region ?_
  refine SxL.val (v := .slice A l.length c) trivial rfl rfl (fun ρ w E H => ex_move E rfl rfl) ?_
  refine SxL.call (σ := Bool) (fun b => .bool b) (fun b => b = false → l.length ≤ 200) (fun _ => _) trivial rfl rfl (fun ρ w E => ex_call E en_palaver_palaverlaw27_Great rfl rfl) (fun w H => (cgreat_any l l.length rfl hQ hl A c w (hA.below (H.toBelow trivial))).mono fun _ _ ⟨h1, h2⟩ => by cases h1 with | small h => exact ⟨false, rfl, fun _ => h, H.below h2⟩ | great => exact ⟨true, rfl, (fun h => by cases h), H.below h2⟩) fun c28 hlim => ?_
  refine SxL.nil ?_
  refine SxN.then_ ?_
  cases c28
  · refine SxC.condF rfl ?_
    refine SxC.skip ?_
    refine SxN.then_ ?_
    refine SxC.seq ?_
    obtain ⟨mi, hmi⟩ : ∃ b, mayI id nn = b := ⟨_, rfl⟩
    cases mi
    · refine SxC.region ?_
      refine SxL.val (v := .int .u8 (id : Int)) trivial rfl rfl (fun ρ w E H => ex_move E rfl rfl) ?_
      refine SxL.val (v := .int .i64 (nn)) trivial rfl rfl (fun ρ w E H => ex_move E rfl rfl) ?_
      refine SxL.callB (v := .tuple #[.pointer none, .int .i64 2]) trivial rfl rfl (fun ρ w E => ex_call E en_palaver_client_New rfl rfl) (fun w H => (new_bad id nn (mayI_not hmi) w).mono fun _ _ h => ⟨h.1, h.2 ▸ Below.refl _ _⟩) ?_
      refine SxL.val (v := .tuple #[.pointer none, .int .i64 2]) trivial rfl rfl (fun ρ w E H => ex_move E rfl rfl) ?_
      refine SxL.val (v := .pointer none) trivial rfl rfl (fun ρ w E H => ex_extract E rfl rfl rfl) ?_
      refine SxL.val (v := .int .i64 2) trivial rfl rfl (fun ρ w E H => ex_extract E rfl rfl rfl) ?_
      refine SxL.val (v := .pointer none) trivial rfl rfl (fun ρ w E H => ex_assign E rfl rfl) ?_
      refine SxL.val (v := .int .i64 2) trivial rfl rfl (fun ρ w E H => ex_assign E rfl rfl) ?_
      refine SxL.nil ?_
      refine SxN.then_ ?_
      refine SxC.seq ?_
      refine SxC.seq ?_
      refine SxC.region ?_
      refine SxL.val (v := .int .u8 (id : Int)) trivial rfl rfl (fun ρ w E H => ex_move E rfl rfl) ?_
      refine SxL.val (v := .int .i64 (nn)) trivial rfl rfl (fun ρ w E H => ex_move E rfl rfl) ?_
      refine SxL.callB (v := .bool false) trivial rfl rfl (fun ρ w E => ex_call E en_palaver_palaverref27_May rfl rfl) (fun w H => (rmay_any id nn w).mono fun _ _ h => ⟨by rw [h.1, hmi], h.2 ▸ Below.refl _ _⟩) ?_
      refine SxL.val (v := .bool true) trivial rfl rfl (fun ρ w E H => ex_not (t := false) E rfl rfl) ?_
      refine SxL.nil ?_
      refine SxN.then_ ?_
      refine SxC.condT rfl ?_
      refine SxC.seq ?_
      refine SxC.region ?_
      refine SxL.val (v := .pointer none) trivial rfl rfl (fun ρ w E H => ex_move E rfl rfl) ?_
      refine SxL.val (v := .bool true) trivial rfl rfl (fun ρ w E H => ex_pnil E rfl Try.underlying25 rfl rfl rfl) ?_
      refine SxL.val (v := .bool true) trivial rfl rfl (fun ρ w E H => ex_move E rfl rfl) ?_
      refine SxL.val (v := .int .i64 2) ⟨_, _, rfl, rfl, rfl⟩ rfl rfl (fun ρ w E H => ex_move E rfl rfl) ?_
      refine SxL.val (v := .bool true) ⟨_, _, rfl, rfl, rfl⟩ rfl rfl (fun ρ w E H => ex_cmp E rfl rfl rfl rfl (by decide)) ?_
      refine SxL.val (v := .bool true) trivial rfl rfl (fun ρ w E H => ex_pick E rfl (t := true) rfl rfl) ?_
      refine SxL.val (v := .bool true) trivial rfl rfl (fun ρ w E H => ex_move E rfl rfl) ?_
      refine SxL.callB (v := .bool true) ⟨_, _, rfl, rfl, rfl⟩ rfl rfl (fun ρ w E => ex_call E en_palaver_palaverlaw27_wakes rfl rfl) (fun w H => wakes_any w) ?_
      refine SxL.val (v := .bool true) trivial rfl rfl (fun ρ w E H => ex_pick E rfl (t := true) rfl rfl) ?_
      refine SxL.val (v := .bool true) trivial rfl rfl (fun ρ w E H => ex_assign E rfl rfl) ?_
      refine SxL.nil ?_
      refine SxN.then_ ?_
      refine SxC.ret ?_
      refine SxX.thenR ?_
      refine SxX.done (.bool true) (fun a w K H => res1 K rfl rfl) (fun w H => ?_)
      exact ⟨rfl, H.toBelow trivial⟩
    · obtain ⟨n, rfl, hi4, hn1, hn7⟩ := mayI_nat hmi
      refine SxC.region ?_
      refine SxL.val (v := .int .u8 (id : Int)) trivial rfl rfl (fun ρ w E H => ex_move E rfl rfl) ?_
      refine SxL.val (v := .int .i64 (n : Int)) trivial rfl rfl (fun ρ w E H => ex_move E rfl rfl) ?_
      refine SxL.call (σ := Nat) (fun g => .tuple #[.pointer (some ⟨g, 0, none⟩), .int .i64 0]) (fun g => w.heap.size ≤ g) (fun g => _) trivial rfl rfl (fun ρ w E => ex_call E en_palaver_client_New rfl rfl) (call_new id n hi4 hn1 hn7) fun gc hgc => ?_
      refine SxL.val (v := .tuple #[.pointer (some ⟨gc, 0, none⟩), .int .i64 0]) trivial rfl rfl (fun ρ w E H => ex_move E rfl rfl) ?_
      refine SxL.val (v := .pointer (some ⟨gc, 0, none⟩)) trivial rfl rfl (fun ρ w E H => ex_extract E rfl rfl rfl) ?_
      refine SxL.val (v := .int .i64 0) trivial rfl rfl (fun ρ w E H => ex_extract E rfl rfl rfl) ?_
      refine SxL.val (v := .pointer (some ⟨gc, 0, none⟩)) trivial rfl rfl (fun ρ w E H => ex_assign E rfl rfl) ?_
      refine SxL.val (v := .int .i64 0) trivial rfl rfl (fun ρ w E H => ex_assign E rfl rfl) ?_
      refine SxL.nil ?_
      refine SxN.then_ ?_
      refine SxC.seq ?_
      refine SxC.seq ?_
      refine SxC.region ?_
      refine SxL.val (v := .int .u8 (id : Int)) trivial rfl rfl (fun ρ w E H => ex_move E rfl rfl) ?_
      refine SxL.val (v := .int .i64 (n : Int)) trivial rfl rfl (fun ρ w E H => ex_move E rfl rfl) ?_
      refine SxL.callB (v := .bool true) trivial rfl rfl (fun ρ w E => ex_call E en_palaver_palaverref27_May rfl rfl) (fun w H => (rmay_any id n w).mono fun _ _ h => ⟨by rw [h.1, hmi], h.2 ▸ Below.refl _ _⟩) ?_
      refine SxL.val (v := .bool false) trivial rfl rfl (fun ρ w E H => ex_not (t := true) E rfl rfl) ?_
      refine SxL.nil ?_
      refine SxN.then_ ?_
      refine SxC.condF rfl ?_
      refine SxC.skip ?_
      refine SxN.then_ ?_
      refine SxC.seq ?_
      refine SxC.seq ?_
      refine SxC.region ?_
      refine SxL.val (v := .int .i64 0) trivial rfl rfl (fun ρ w E H => ex_move E rfl rfl) ?_
      refine SxL.val (v := .bool false) trivial rfl rfl (fun ρ w E H => ex_cmp E rfl rfl rfl rfl (by decide)) ?_
      refine SxL.val (v := .bool false) trivial rfl rfl (fun ρ w E H => ex_move E rfl rfl) ?_
      refine SxL.val (v := .pointer (some ⟨gc, 0, none⟩)) ⟨_, _, rfl, rfl, rfl⟩ rfl rfl (fun ρ w E H => ex_move E rfl rfl) ?_
      refine SxL.val (v := .bool false) ⟨_, _, rfl, rfl, rfl⟩ rfl rfl (fun ρ w E H => ex_pnil E rfl Try.underlying25 rfl rfl rfl) ?_
      refine SxL.val (v := .bool false) trivial rfl rfl (fun ρ w E H => ex_pick E rfl (t := false) rfl rfl) ?_
      refine SxL.nil ?_
      refine SxN.then_ ?_
      refine SxC.condF rfl ?_
      refine SxC.skip ?_
      refine SxN.then_ ?_
      refine SxC.seq ?_
      refine SxC.region ?_
      refine SxL.val (v := .int .u8 (id : Int)) trivial rfl rfl (fun ρ w E H => ex_move E rfl rfl) ?_
      refine SxL.val (v := .int .i64 (n : Int)) trivial rfl rfl (fun ρ w E H => ex_move E rfl rfl) ?_
      refine SxL.callB (v := .agg #[.int .u8 (id : Int), .int .i64 (n : Int), .slice none 0 0, .bool false, .int .u8 ((id % n : Nat) : Int)]) trivial rfl rfl (fun ρ w E => ex_call E en_palaver_palaverref27_New rfl rfl) (fun w H => rnew_any id n hi4 hn1 hn7 w) ?_
      refine SxL.new (cs := [.int .u8 0, .int .i64 0, .slice none 0 0, .bool false, .int .u8 0]) trivial rfl rfl (fun ρ w E H => ex_alloc rfl zr_palaver_palaverref27_Client rfl) fun g1 hg1 => ?_
      refine SxL.storeX (i := 0) [.int .u8 (id : Int), .int .i64 (n : Int), .slice none 0 0, .bool false, .int .u8 ((id % n : Nat) : Int)] trivial rfl rfl rfl rfl rfl sz_palaver_palaverref27_Client rfl rfl rfl (putL_all _ _ rfl) ?_
      refine SxL.nil ?_
      refine SxN.then_ ?_
      refine SxC.seq ?_
      refine SxC.seq ?_
      refine SxC.region ?_
      refine SxL.val (v := .int .i64 0) trivial rfl rfl (fun ρ w E H => ex_assign E rfl rfl) ?_
      refine SxL.nil ?_
      refine SxN.then_ ?_
      refine SxC.block ?_
      refine SxC.hp (fun W H => H.nilRowC 36 7) ?_
      refine SxC.loop4 (fun (i : Nat) (x : Cl) (r : Rc) (V : Value) => [(2, .slice A l.length c), (7, .pointer (some ⟨gc, 0, none⟩)), (9, .pointer (some ⟨g1, 0, none⟩)), (10, .int .i64 (i : Int))]) (fun (i : Nat) (x : Cl) (r : Rc) (V : Value) => [rowX [] w.heap.size 36 7 V r.L.length (r.L.flatMap cmL), cell gc 81 [.int .u8 (x.id : Int), .int .i64 (x.n : Int), .int .u8 (x.node : Int), .int .u32 (x.seq : Int), .int .u8 (x.cmd.client : Int), .int .u32 (x.cmd.seq : Int), .int .u8 (x.cmd.kind : Int), .string ⟨x.cmd.key.toArray⟩, .string ⟨x.cmd.old.toArray⟩, .string ⟨x.cmd.new.toArray⟩, .int .u8 (x.cmd.set : Int), .bool (x.waits)], cell g1 32 [.int .u8 (r.id : Int), .int .i64 (r.n : Int), V, .bool (r.waits), .int .u8 (r.dst : Int)]]) (fun (gk : Nat) (i : Nat) (x : Cl) (r : Rc) (V : Value) => i + gk = l.length ∧ Rel x r ∧ x.Fits ∧ r.L.length ≤ i ∧ OwnIn w [] V) l.length 0 (cl0 id n) (Rc.new id n) (.slice none 0 0) ⟨by omega, rel_new id n, cl0_fits hi4 hn1 hn7, Nat.le_refl 0, ownC_none w⟩ ⟨rfl, rfl, rfl, rfl, trivial⟩ [0, 2, 1] rfl (by decide) ⟨.inl rfl, .inl rfl, .inl rfl, trivial⟩ fun gk i x r V hF => ?_
      obtain ⟨hkg, hrel, hxf, hrl, hV⟩ := hF
      refine SxC.seq ?_
      refine SxC.seq ?_
      refine SxC.region ?_
      refine SxL.val (v := .int .i64 (i : Int)) trivial rfl rfl (fun ρ w E H => ex_move E rfl rfl) ?_
      refine SxL.val (v := .slice A l.length c) trivial rfl rfl (fun ρ w E H => ex_move E rfl rfl) ?_
      refine SxL.val (v := .int .i64 (l.length : Int)) trivial rfl rfl (fun ρ w E H => ex_lenS E rfl Try.underlying22 rfl) ?_
      refine SxL.valB trivial rfl rfl (fun ρ w E H => ex_cmp E rfl rfl rfl rfl rfl) fun c61 hc61 => ?_
      refine SxL.nil ?_
      refine SxN.then_ ?_
      cases c61
      · refine SxC.condF rfl ?_
        refine SxC.exit ?_
        refine SxX.thenE ?_
        refine SxX.thenE ?_
        refine SxX.blockE ?_
        refine SxN.then_ ?_
        refine SxC.seq ?_
        refine SxC.region ?_
        refine SxL.callB (v := .bool true) trivial rfl rfl (fun ρ w E => ex_call E en_palaver_palaverlaw27_wakes rfl rfl) (fun w H => wakes_any w) ?_
        refine SxL.val (v := .bool true) trivial rfl rfl (fun ρ w E H => ex_assign E rfl rfl) ?_
        refine SxL.nil ?_
        refine SxN.then_ ?_
        refine SxC.ret ?_
        refine SxX.done (.bool true) (fun a w K H => res1 K rfl rfl) (fun w H => ?_)
        exact ⟨rfl, H.toBelow ⟨hV.fresh, (fun g hg => by rw [List.mem_singleton.1 hg]; exact hgc), (fun g hg => by rw [List.mem_singleton.1 hg]; exact hg1), trivial⟩⟩
      · refine SxC.condT rfl ?_
        refine SxC.skip ?_
        refine SxN.then_ ?_
        refine SxC.seq ?_
        refine SxC.block ?_
        refine SxC.seq ?_
        have hkl : i < l.length := by have h := hc61; simp [cmpB] at h; omega
        obtain ⟨a, hx⟩ : ∃ a, l[i]? = some a := ⟨_, List.getElem?_eq_getElem hkl⟩
        have haf := hQ a (List.mem_of_getElem? hx)
        obtain ⟨ad, rfl, -, -⟩ := hA.row hx
        obtain ⟨d, ⟨xa, xb, xk, xs, xt, xu, xz⟩, ls, ld, lk, lbn, lbr, lba, lsl, lno, lv, lvo, lit, ⟨lca, lcb, lck, lcs, lct, lcu, lcz⟩, lco, lte⟩ := a
        obtain ⟨q1, hcf, hlf, q4, q5, -, -⟩ := haf
        obtain ⟨vA, vn, vc, hvo, -⟩ := q4
        obtain ⟨iA, in_, ic, hio, -⟩ := q5
        dsimp only at q1 hcf hlf hvo hio
        subst hvo hio
        obtain ⟨rid, rn, rL, rw_, rdst⟩ := r
        have hid : rid < 4 := by have h1 := hrel.id; have h2 := hxf.h1; dsimp only at h1; omega
        have hd7 : rdst < 7 := by have h1 := hrel.node; have h2 := hxf.h4; have h3 := hxf.h3; dsimp only at h1; omega
        have hl200 := hlim rfl
        dsimp only at hrl
        have hr9 : rL.length ≤ 900 := by omega
        obtain ⟨⟨qa, qb, qk, qs, qt, qu, qz⟩, hq⟩ : ∃ c, lastR rL = c := ⟨_, rfl⟩
        refine SxC.with (fun W H => own_is_slice (H.get (i := 0) rfl)) ?_
        rintro ⟨AV, kV, rfl⟩
        refine SxC.region ?_
        refine SxL.val (v := .slice (some ad) l.length c) trivial rfl rfl (fun ρ w E H => ex_move E rfl rfl) ?_
        refine SxL.val (v := .int .i64 (i : Int)) trivial rfl rfl (fun ρ w E H => ex_move E rfl rfl) ?_
        refine SxL.val (v := .pointer (some (ad.add (i * 28)))) trivial rfl rfl (fun ρ w E H => ex_index (i := i) E rfl Try.underlying22 sz_palaver_palaverlaw27_Act rfl rfl hkl) ?_
        refine SxL.val (v := .agg #[.int .u8 (d : Int), .int .u8 (xa : Int), .int .u32 (xb : Int), .int .u8 (xk : Int), .string ⟨xs.toArray⟩, .string ⟨xt.toArray⟩, .string ⟨xu.toArray⟩, .int .u8 (xz : Int), .int .u8 (ls : Int), .int .u8 (ld : Int), .int .u8 (lk : Int), .int .u64 (lbn : Int), .int .u8 (lbr : Int), .int .u64 (lba : Int), .int .u64 (lsl : Int), .int .u8 (lno : Int), .string ⟨lv.toArray⟩, .slice vA vn vc, .slice iA in_ ic, .int .u8 (lca : Int), .int .u32 (lcb : Int), .int .u8 (lck : Int), .string ⟨lcs.toArray⟩, .string ⟨lct.toArray⟩, .string ⟨lcu.toArray⟩, .int .u8 (lcz : Int), .int .u8 (lco : Int), .string ⟨lte.toArray⟩]) trivial rfl rfl (fun ρ w E H => ex_loadX (cs := [.int .u8 (d : Int), .int .u8 (xa : Int), .int .u32 (xb : Int), .int .u8 (xk : Int), .string ⟨xs.toArray⟩, .string ⟨xt.toArray⟩, .string ⟨xu.toArray⟩, .int .u8 (xz : Int), .int .u8 (ls : Int), .int .u8 (ld : Int), .int .u8 (lk : Int), .int .u64 (lbn : Int), .int .u8 (lbr : Int), .int .u64 (lba : Int), .int .u64 (lsl : Int), .int .u8 (lno : Int), .string ⟨lv.toArray⟩, .slice vA vn vc, .slice iA in_ ic, .int .u8 (lca : Int), .int .u32 (lcb : Int), .int .u8 (lck : Int), .string ⟨lcs.toArray⟩, .string ⟨lct.toArray⟩, .string ⟨lcu.toArray⟩, .int .u8 (lcz : Int), .int .u8 (lco : Int), .string ⟨lte.toArray⟩]) E ((hA.below (H.toBelow ⟨hV.fresh, (fun g hg => by rw [List.mem_singleton.1 hg]; exact hgc), (fun g hg => by rw [List.mem_singleton.1 hg]; exact hg1), trivial⟩)).rowA hx) rfl rfl Try.underlying49 rfl sz_palaver_palaverlaw27_Act) ?_
        refine SxL.new (cs := [.int .u8 0, .int .u8 0, .int .u32 0, .int .u8 0, .string ⟨[].toArray⟩, .string ⟨[].toArray⟩, .string ⟨[].toArray⟩, .int .u8 0, .int .u8 0, .int .u8 0, .int .u8 0, .int .u64 0, .int .u8 0, .int .u64 0, .int .u64 0, .int .u8 0, .string ⟨[].toArray⟩, .slice none 0 0, .slice none 0 0, .int .u8 0, .int .u32 0, .int .u8 0, .string ⟨[].toArray⟩, .string ⟨[].toArray⟩, .string ⟨[].toArray⟩, .int .u8 0, .int .u8 0, .string ⟨[].toArray⟩]) trivial rfl rfl (fun ρ w E H => ex_alloc rfl zr_palaver_palaverlaw27_Act rfl) fun g2 hg2 => ?_
        refine SxL.storeX (i := 0) [.int .u8 (d : Int), .int .u8 (xa : Int), .int .u32 (xb : Int), .int .u8 (xk : Int), .string ⟨xs.toArray⟩, .string ⟨xt.toArray⟩, .string ⟨xu.toArray⟩, .int .u8 (xz : Int), .int .u8 (ls : Int), .int .u8 (ld : Int), .int .u8 (lk : Int), .int .u64 (lbn : Int), .int .u8 (lbr : Int), .int .u64 (lba : Int), .int .u64 (lsl : Int), .int .u8 (lno : Int), .string ⟨lv.toArray⟩, .slice vA vn vc, .slice iA in_ ic, .int .u8 (lca : Int), .int .u32 (lcb : Int), .int .u8 (lck : Int), .string ⟨lcs.toArray⟩, .string ⟨lct.toArray⟩, .string ⟨lcu.toArray⟩, .int .u8 (lcz : Int), .int .u8 (lco : Int), .string ⟨lte.toArray⟩] trivial rfl rfl rfl rfl rfl sz_palaver_palaverlaw27_Act rfl rfl rfl (putL_all _ _ rfl) ?_
        refine SxL.nil ?_
        refine SxN.then_ ?_
        refine SxC.seq ?_
        refine SxC.region ?_
        refine SxL.new (cs := [.int .u8 0, .int .u8 0, .int .u8 0, .int .u64 0, .int .u8 0, .int .u64 0, .int .u64 0, .int .u8 0, .string ⟨[].toArray⟩, .slice none 0 0, .slice none 0 0, .int .u8 0, .int .u32 0, .int .u8 0, .string ⟨[].toArray⟩, .string ⟨[].toArray⟩, .string ⟨[].toArray⟩, .int .u8 0, .int .u8 0, .string ⟨[].toArray⟩]) trivial rfl rfl (fun ρ w E H => ex_alloc rfl zr_palaver_api_Letter rfl) fun g3 hg3 => ?_
        refine SxL.new (cs := [.int .u8 0, .int .u8 0, .int .u8 0, .int .u64 0, .int .u8 0, .int .u64 0, .int .u64 0, .int .u8 0, .string ⟨[].toArray⟩, .slice none 0 0, .slice none 0 0, .int .u8 0, .int .u32 0, .int .u8 0, .string ⟨[].toArray⟩, .string ⟨[].toArray⟩, .string ⟨[].toArray⟩, .int .u8 0, .int .u8 0, .string ⟨[].toArray⟩]) trivial rfl rfl (fun ρ w E H => ex_alloc rfl zr_palaver_api_Letter rfl) fun g4 hg4 => ?_
        refine SxL.nil ?_
        refine SxN.then_ ?_
        refine SxC.seq ?_
        refine SxC.region ?_
        refine SxL.val (v := .int .i64 0) trivial rfl rfl (fun ρ w E H => ex_assign E rfl rfl) ?_
        refine SxL.val (v := .int .i64 0) trivial rfl rfl (fun ρ w E H => ex_assign E rfl rfl) ?_
        refine SxL.nil ?_
        refine SxN.then_ ?_
        refine SxC.seq ?_
        refine SxC.seq ?_
        cases rw_
        · refine SxC.region ?_
          refine SxL.val (v := .pointer (some ⟨g2, 0, none⟩)) trivial rfl rfl (fun ρ w E H => ex_field E rfl fa_palaver_palaverlaw27_Act_0 rfl rfl) ?_
          refine SxL.val (v := .int .u8 (d : Int)) trivial rfl rfl (fun ρ w E H => ex_load1 E (H.get (i := 2) rfl) rfl rfl Try.underlying5 rfl rfl) ?_
          refine SxL.nil ?_
          refine SxN.then_ ?_
          refine SxC.block ?_
          refine SxC.seq ?_
          refine SxC.region ?_
          refine SxL.valB trivial rfl rfl (fun ρ w E H => ex_cmp E rfl rfl rfl rfl rfl) fun c106 hc106 => ?_
          refine SxL.val (v := .bool c106) trivial rfl rfl (fun ρ w E H => ex_assign E rfl rfl) ?_
          refine SxL.nil ?_
          refine SxN.then_ ?_
          cases c106
          · refine SxC.condF rfl ?_
            refine SxC.seq ?_
            refine SxC.region ?_
            refine SxL.valB trivial rfl rfl (fun ρ w E H => ex_cmp E rfl rfl rfl rfl rfl) fun c123 hc123 => ?_
            refine SxL.val (v := .bool c123) trivial rfl rfl (fun ρ w E H => ex_assign E rfl rfl) ?_
            refine SxL.nil ?_
            refine SxN.then_ ?_
            cases c123
            · refine SxC.condF rfl ?_
              refine SxC.seq ?_
              have hhr := hear_rel hrel (⟨ls, ld, lk, lbn, lbr, lba, lsl, lno, lv, .slice vA vn vc, .slice iA in_ ic, ⟨lca, lcb, lck, lcs, lct, lcu, lcz⟩, lco, lte⟩ : Lt)
              have hxf2 := hear_fits (l := (⟨ls, ld, lk, lbn, lbr, lba, lsl, lno, lv, .slice vA vn vc, .slice iA in_ ic, ⟨lca, lcb, lck, lcs, lct, lcu, lcz⟩, lco, lte⟩ : Lt)) hxf
              obtain ⟨x2, hx2⟩ : ∃ y, (hearC x (⟨ls, ld, lk, lbn, lbr, lba, lsl, lno, lv, .slice vA vn vc, .slice iA in_ ic, ⟨lca, lcb, lck, lcs, lct, lcu, lcz⟩, lco, lte⟩ : Lt)).1 = y := ⟨_, rfl⟩
              rw [hx2] at hhr hxf2
              have hsh := hear_shape (⟨rid, rn, rL, false, rdst⟩ : Rc) (⟨ls, ld, lk, lbn, lbr, lba, lsl, lno, lv, .slice vA vn vc, .slice iA in_ ic, ⟨lca, lcb, lck, lcs, lct, lcu, lcz⟩, lco, lte⟩ : Lt)
              obtain ⟨⟨⟨hI, hN, hL, hw, hd⟩, ⟨ts, td, tk, tbn, tbr, tba, tsl, tno, tv, tvo, tit, ⟨tca, tcb, tck, tcs, tct, tcu, tcz⟩, tco, tte⟩, is2, ⟨c2, t2⟩, tk2⟩, hh⟩ : ∃ t, hearR (⟨rid, rn, rL, false, rdst⟩ : Rc) (⟨ls, ld, lk, lbn, lbr, lba, lsl, lno, lv, .slice vA vn vc, .slice iA in_ ic, ⟨lca, lcb, lck, lcs, lct, lcu, lcz⟩, lco, lte⟩ : Lt) = t := ⟨_, rfl⟩
              rw [hh] at hhr hsh
              dsimp only at hhr hsh
              obtain ⟨e1, e2, e3⟩ := hsh
              subst e2 e3
              subst hL
              obtain ⟨hi1, hi2⟩ := hhr
              have hhc : hearC x (⟨ls, ld, lk, lbn, lbr, lba, lsl, lno, lv, .slice vA vn vc, .slice iA in_ ic, ⟨lca, lcb, lck, lcs, lct, lcu, lcz⟩, lco, lte⟩ : Lt) = (x2, ⟨ts, td, tk, tbn, tbr, tba, tsl, tno, tv, .slice none 0 0, .slice none 0 0, ⟨tca, tcb, tck, tcs, tct, tcu, tcz⟩, tco, tte⟩, is2, (c2, t2), tk2) := Prod.ext hx2 hi1
              refine SxC.region ?_
              refine SxL.val (v := .pointer (some ⟨gc, 0, none⟩)) trivial rfl rfl (fun ρ w E H => ex_move E rfl rfl) ?_
              refine SxL.val (v := .pointer (some ⟨g2, 8, none⟩)) trivial rfl rfl (fun ρ w E H => ex_field E rfl fa_palaver_palaverlaw27_Act_2 rfl rfl) ?_
              refine SxL.val (v := .agg #[.int .u8 (ls : Int), .int .u8 (ld : Int), .int .u8 (lk : Int), .int .u64 (lbn : Int), .int .u8 (lbr : Int), .int .u64 (lba : Int), .int .u64 (lsl : Int), .int .u8 (lno : Int), .string ⟨lv.toArray⟩, .slice vA vn vc, .slice iA in_ ic, .int .u8 (lca : Int), .int .u32 (lcb : Int), .int .u8 (lck : Int), .string ⟨lcs.toArray⟩, .string ⟨lct.toArray⟩, .string ⟨lcu.toArray⟩, .int .u8 (lcz : Int), .int .u8 (lco : Int), .string ⟨lte.toArray⟩]) trivial rfl rfl (fun ρ w E H => ex_load (part := [.int .u8 (ls : Int), .int .u8 (ld : Int), .int .u8 (lk : Int), .int .u64 (lbn : Int), .int .u8 (lbr : Int), .int .u64 (lba : Int), .int .u64 (lsl : Int), .int .u8 (lno : Int), .string ⟨lv.toArray⟩, .slice vA vn vc, .slice iA in_ ic, .int .u8 (lca : Int), .int .u32 (lcb : Int), .int .u8 (lck : Int), .string ⟨lcs.toArray⟩, .string ⟨lct.toArray⟩, .string ⟨lcu.toArray⟩, .int .u8 (lcz : Int), .int .u8 (lco : Int), .string ⟨lte.toArray⟩]) E (H.get (i := 2) rfl) rfl rfl Try.underlying47 rfl sz_palaver_api_Letter rfl rfl) ?_
              refine SxL.call (σ := Unit) (fun _ => .tuple #[.agg #[.int .u8 (ts : Int), .int .u8 (td : Int), .int .u8 (tk : Int), .int .u64 (tbn : Int), .int .u8 (tbr : Int), .int .u64 (tba : Int), .int .u64 (tsl : Int), .int .u8 (tno : Int), .string ⟨tv.toArray⟩, .slice none 0 0, .slice none 0 0, .int .u8 (tca : Int), .int .u32 (tcb : Int), .int .u8 (tck : Int), .string ⟨tcs.toArray⟩, .string ⟨tct.toArray⟩, .string ⟨tcu.toArray⟩, .int .u8 (tcz : Int), .int .u8 (tco : Int), .string ⟨tte.toArray⟩], .bool is2, .agg #[.int .u8 (c2 : Int), .string ⟨t2.toArray⟩], .bool tk2]) (fun _ => True) (fun _ => _) trivial rfl rfl (fun ρ w E => ex_call E en_palaver_client_Client_Hear rfl rfl) (callTurn (i := 4) (cell gc 81 [.int .u8 (x2.id : Int), .int .i64 (x2.n : Int), .int .u8 (x2.node : Int), .int .u32 (x2.seq : Int), .int .u8 (x2.cmd.client : Int), .int .u32 (x2.cmd.seq : Int), .int .u8 (x2.cmd.kind : Int), .string ⟨x2.cmd.key.toArray⟩, .string ⟨x2.cmd.old.toArray⟩, .string ⟨x2.cmd.new.toArray⟩, .int .u8 (x2.cmd.set : Int), .bool (x2.waits)]) rfl (cell_loc _ _ _) rfl (fun w H => (hear_turn hxf hlf hhc w (H.get (i := 4) rfl)).mono fun _ _ h => turn_rd h)) fun _ _ => ?_
              refine SxL.val (v := .tuple #[.agg #[.int .u8 (ts : Int), .int .u8 (td : Int), .int .u8 (tk : Int), .int .u64 (tbn : Int), .int .u8 (tbr : Int), .int .u64 (tba : Int), .int .u64 (tsl : Int), .int .u8 (tno : Int), .string ⟨tv.toArray⟩, .slice none 0 0, .slice none 0 0, .int .u8 (tca : Int), .int .u32 (tcb : Int), .int .u8 (tck : Int), .string ⟨tcs.toArray⟩, .string ⟨tct.toArray⟩, .string ⟨tcu.toArray⟩, .int .u8 (tcz : Int), .int .u8 (tco : Int), .string ⟨tte.toArray⟩], .bool is2, .agg #[.int .u8 (c2 : Int), .string ⟨t2.toArray⟩], .bool tk2]) trivial rfl rfl (fun ρ w E H => ex_move E rfl rfl) ?_
              refine SxL.val (v := .agg #[.int .u8 (ts : Int), .int .u8 (td : Int), .int .u8 (tk : Int), .int .u64 (tbn : Int), .int .u8 (tbr : Int), .int .u64 (tba : Int), .int .u64 (tsl : Int), .int .u8 (tno : Int), .string ⟨tv.toArray⟩, .slice none 0 0, .slice none 0 0, .int .u8 (tca : Int), .int .u32 (tcb : Int), .int .u8 (tck : Int), .string ⟨tcs.toArray⟩, .string ⟨tct.toArray⟩, .string ⟨tcu.toArray⟩, .int .u8 (tcz : Int), .int .u8 (tco : Int), .string ⟨tte.toArray⟩]) trivial rfl rfl (fun ρ w E H => ex_extract E rfl rfl rfl) ?_
              refine SxL.val (v := .bool is2) trivial rfl rfl (fun ρ w E H => ex_extract E rfl rfl rfl) ?_
              refine SxL.val (v := .agg #[.int .u8 (c2 : Int), .string ⟨t2.toArray⟩]) trivial rfl rfl (fun ρ w E H => ex_extract E rfl rfl rfl) ?_
              refine SxL.val (v := .bool tk2) trivial rfl rfl (fun ρ w E H => ex_extract E rfl rfl rfl) ?_
              refine SxL.new (cs := [.int .u8 0, .int .u8 0, .int .u8 0, .int .u64 0, .int .u8 0, .int .u64 0, .int .u64 0, .int .u8 0, .string ⟨[].toArray⟩, .slice none 0 0, .slice none 0 0, .int .u8 0, .int .u32 0, .int .u8 0, .string ⟨[].toArray⟩, .string ⟨[].toArray⟩, .string ⟨[].toArray⟩, .int .u8 0, .int .u8 0, .string ⟨[].toArray⟩]) trivial rfl rfl (fun ρ w E H => ex_alloc rfl zr_palaver_api_Letter rfl) fun g5 hg5 => ?_
              refine SxL.new (cs := [.int .u8 0, .string ⟨[].toArray⟩]) trivial rfl rfl (fun ρ w E H => ex_alloc rfl zr_palaver_api_Reply rfl) fun g6 hg6 => ?_
              refine SxL.storeX (i := 1) [.int .u8 (ts : Int), .int .u8 (td : Int), .int .u8 (tk : Int), .int .u64 (tbn : Int), .int .u8 (tbr : Int), .int .u64 (tba : Int), .int .u64 (tsl : Int), .int .u8 (tno : Int), .string ⟨tv.toArray⟩, .slice none 0 0, .slice none 0 0, .int .u8 (tca : Int), .int .u32 (tcb : Int), .int .u8 (tck : Int), .string ⟨tcs.toArray⟩, .string ⟨tct.toArray⟩, .string ⟨tcu.toArray⟩, .int .u8 (tcz : Int), .int .u8 (tco : Int), .string ⟨tte.toArray⟩] trivial rfl rfl rfl rfl rfl sz_palaver_api_Letter rfl rfl rfl (putL_all _ _ rfl) ?_
              refine SxL.val (v := .bool is2) trivial rfl rfl (fun ρ w E H => ex_assign E rfl rfl) ?_
              refine SxL.storeX (i := 0) [.int .u8 (c2 : Int), .string ⟨t2.toArray⟩] trivial rfl rfl rfl rfl rfl sz_palaver_api_Reply rfl rfl rfl (putL_all _ _ rfl) ?_
              refine SxL.val (v := .bool tk2) trivial rfl rfl (fun ρ w E H => ex_assign E rfl rfl) ?_
              refine SxL.nil ?_
              refine SxN.then_ ?_
              refine SxC.seq ?_
              refine SxC.region ?_
              refine SxL.val (v := .agg #[.int .u8 (rid : Int), .int .i64 (rn : Int), .slice AV rL.length kV, .bool false, .int .u8 (rdst : Int)]) trivial rfl rfl (fun ρ w E H => ex_load (part := [.int .u8 (rid : Int), .int .i64 (rn : Int), .slice AV rL.length kV, .bool false, .int .u8 (rdst : Int)]) E (H.get (i := 7) rfl) rfl rfl Try.underlying32 rfl sz_palaver_palaverref27_Client rfl rfl) ?_
              refine SxL.val (v := .pointer (some ⟨g2, 8, none⟩)) trivial rfl rfl (fun ρ w E H => ex_field E rfl fa_palaver_palaverlaw27_Act_2 rfl rfl) ?_
              refine SxL.val (v := .agg #[.int .u8 (ls : Int), .int .u8 (ld : Int), .int .u8 (lk : Int), .int .u64 (lbn : Int), .int .u8 (lbr : Int), .int .u64 (lba : Int), .int .u64 (lsl : Int), .int .u8 (lno : Int), .string ⟨lv.toArray⟩, .slice vA vn vc, .slice iA in_ ic, .int .u8 (lca : Int), .int .u32 (lcb : Int), .int .u8 (lck : Int), .string ⟨lcs.toArray⟩, .string ⟨lct.toArray⟩, .string ⟨lcu.toArray⟩, .int .u8 (lcz : Int), .int .u8 (lco : Int), .string ⟨lte.toArray⟩]) trivial rfl rfl (fun ρ w E H => ex_load (part := [.int .u8 (ls : Int), .int .u8 (ld : Int), .int .u8 (lk : Int), .int .u64 (lbn : Int), .int .u8 (lbr : Int), .int .u64 (lba : Int), .int .u64 (lsl : Int), .int .u8 (lno : Int), .string ⟨lv.toArray⟩, .slice vA vn vc, .slice iA in_ ic, .int .u8 (lca : Int), .int .u32 (lcb : Int), .int .u8 (lck : Int), .string ⟨lcs.toArray⟩, .string ⟨lct.toArray⟩, .string ⟨lcu.toArray⟩, .int .u8 (lcz : Int), .int .u8 (lco : Int), .string ⟨lte.toArray⟩]) E (H.get (i := 4) rfl) rfl rfl Try.underlying47 rfl sz_palaver_api_Letter rfl rfl) ?_
              refine SxL.callB (v := .tuple #[.agg #[.int .u8 (hI : Int), .int .i64 (hN : Int), .slice AV rL.length kV, .bool hw, .int .u8 (hd : Int)], .agg #[.int .u8 (ts : Int), .int .u8 (td : Int), .int .u8 (tk : Int), .int .u64 (tbn : Int), .int .u8 (tbr : Int), .int .u64 (tba : Int), .int .u64 (tsl : Int), .int .u8 (tno : Int), .string ⟨tv.toArray⟩, .slice none 0 0, .slice none 0 0, .int .u8 (tca : Int), .int .u32 (tcb : Int), .int .u8 (tck : Int), .string ⟨tcs.toArray⟩, .string ⟨tct.toArray⟩, .string ⟨tcu.toArray⟩, .int .u8 (tcz : Int), .int .u8 (tco : Int), .string ⟨tte.toArray⟩], .bool is2, .agg #[.int .u8 (c2 : Int), .string ⟨t2.toArray⟩], .bool tk2]) trivial rfl rfl (fun ρ w E => ex_call E en_palaver_palaverref27_Client_Hear rfl rfl) (fun w H => (rhear_lit rid rn rdst rL false ls ld lk lbn lbr lba lsl lno lca lcb lck lcz lco lv lcs lct lcu lte (.slice vA vn vc) (.slice iA in_ ic) AV kV w hid hr9 (ownC_read (H.get (i := 5) rfl)) hlf.h1 hlf.h4).mono fun _ _ h => ⟨by rw [h.1, hh]; rfl, h.2⟩) ?_
              refine SxL.val (v := .tuple #[.agg #[.int .u8 (hI : Int), .int .i64 (hN : Int), .slice AV rL.length kV, .bool hw, .int .u8 (hd : Int)], .agg #[.int .u8 (ts : Int), .int .u8 (td : Int), .int .u8 (tk : Int), .int .u64 (tbn : Int), .int .u8 (tbr : Int), .int .u64 (tba : Int), .int .u64 (tsl : Int), .int .u8 (tno : Int), .string ⟨tv.toArray⟩, .slice none 0 0, .slice none 0 0, .int .u8 (tca : Int), .int .u32 (tcb : Int), .int .u8 (tck : Int), .string ⟨tcs.toArray⟩, .string ⟨tct.toArray⟩, .string ⟨tcu.toArray⟩, .int .u8 (tcz : Int), .int .u8 (tco : Int), .string ⟨tte.toArray⟩], .bool is2, .agg #[.int .u8 (c2 : Int), .string ⟨t2.toArray⟩], .bool tk2]) trivial rfl rfl (fun ρ w E H => ex_move E rfl rfl) ?_
              refine SxL.val (v := .agg #[.int .u8 (hI : Int), .int .i64 (hN : Int), .slice AV rL.length kV, .bool hw, .int .u8 (hd : Int)]) trivial rfl rfl (fun ρ w E H => ex_extract E rfl rfl rfl) ?_
              refine SxL.val (v := .agg #[.int .u8 (ts : Int), .int .u8 (td : Int), .int .u8 (tk : Int), .int .u64 (tbn : Int), .int .u8 (tbr : Int), .int .u64 (tba : Int), .int .u64 (tsl : Int), .int .u8 (tno : Int), .string ⟨tv.toArray⟩, .slice none 0 0, .slice none 0 0, .int .u8 (tca : Int), .int .u32 (tcb : Int), .int .u8 (tck : Int), .string ⟨tcs.toArray⟩, .string ⟨tct.toArray⟩, .string ⟨tcu.toArray⟩, .int .u8 (tcz : Int), .int .u8 (tco : Int), .string ⟨tte.toArray⟩]) trivial rfl rfl (fun ρ w E H => ex_extract E rfl rfl rfl) ?_
              refine SxL.val (v := .bool is2) trivial rfl rfl (fun ρ w E H => ex_extract E rfl rfl rfl) ?_
              refine SxL.val (v := .agg #[.int .u8 (c2 : Int), .string ⟨t2.toArray⟩]) trivial rfl rfl (fun ρ w E H => ex_extract E rfl rfl rfl) ?_
              refine SxL.val (v := .bool tk2) trivial rfl rfl (fun ρ w E H => ex_extract E rfl rfl rfl) ?_
              refine SxL.new (cs := [.int .u8 0, .int .i64 0, .slice none 0 0, .bool false, .int .u8 0]) trivial rfl rfl (fun ρ w E H => ex_alloc rfl zr_palaver_palaverref27_Client rfl) fun g7 hg7 => ?_
              refine SxL.new (cs := [.int .u8 0, .int .u8 0, .int .u8 0, .int .u64 0, .int .u8 0, .int .u64 0, .int .u64 0, .int .u8 0, .string ⟨[].toArray⟩, .slice none 0 0, .slice none 0 0, .int .u8 0, .int .u32 0, .int .u8 0, .string ⟨[].toArray⟩, .string ⟨[].toArray⟩, .string ⟨[].toArray⟩, .int .u8 0, .int .u8 0, .string ⟨[].toArray⟩]) trivial rfl rfl (fun ρ w E H => ex_alloc rfl zr_palaver_api_Letter rfl) fun g8 hg8 => ?_
              refine SxL.new (cs := [.int .u8 0, .string ⟨[].toArray⟩]) trivial rfl rfl (fun ρ w E H => ex_alloc rfl zr_palaver_api_Reply rfl) fun g9 hg9 => ?_
              refine SxL.storeX (i := 2) [.int .u8 (hI : Int), .int .i64 (hN : Int), .slice AV rL.length kV, .bool hw, .int .u8 (hd : Int)] trivial rfl rfl rfl rfl rfl sz_palaver_palaverref27_Client rfl rfl rfl (putL_all _ _ rfl) ?_
              refine SxL.storeX (i := 1) [.int .u8 (ts : Int), .int .u8 (td : Int), .int .u8 (tk : Int), .int .u64 (tbn : Int), .int .u8 (tbr : Int), .int .u64 (tba : Int), .int .u64 (tsl : Int), .int .u8 (tno : Int), .string ⟨tv.toArray⟩, .slice none 0 0, .slice none 0 0, .int .u8 (tca : Int), .int .u32 (tcb : Int), .int .u8 (tck : Int), .string ⟨tcs.toArray⟩, .string ⟨tct.toArray⟩, .string ⟨tcu.toArray⟩, .int .u8 (tcz : Int), .int .u8 (tco : Int), .string ⟨tte.toArray⟩] trivial rfl rfl rfl rfl rfl sz_palaver_api_Letter rfl rfl rfl (putL_all _ _ rfl) ?_
              refine SxL.val (v := .bool is2) trivial rfl rfl (fun ρ w E H => ex_assign E rfl rfl) ?_
              refine SxL.storeX (i := 0) [.int .u8 (c2 : Int), .string ⟨t2.toArray⟩] trivial rfl rfl rfl rfl rfl sz_palaver_api_Reply rfl rfl rfl (putL_all _ _ rfl) ?_
              refine SxL.val (v := .bool tk2) trivial rfl rfl (fun ρ w E H => ex_assign E rfl rfl) ?_
              refine SxL.nil ?_
              refine SxN.then_ ?_
              refine SxC.seq ?_
              refine SxC.region ?_
              refine SxL.val (v := .agg #[.int .u8 (hI : Int), .int .i64 (hN : Int), .slice AV rL.length kV, .bool hw, .int .u8 (hd : Int)]) trivial rfl rfl (fun ρ w E H => ex_load (part := [.int .u8 (hI : Int), .int .i64 (hN : Int), .slice AV rL.length kV, .bool hw, .int .u8 (hd : Int)]) E (H.get (i := 2) rfl) rfl rfl Try.underlying32 rfl sz_palaver_palaverref27_Client rfl rfl) ?_
              refine SxL.storeX (i := 10) [.int .u8 (hI : Int), .int .i64 (hN : Int), .slice AV rL.length kV, .bool hw, .int .u8 (hd : Int)] trivial rfl rfl rfl rfl rfl sz_palaver_palaverref27_Client rfl rfl rfl (putL_all _ _ rfl) ?_
              refine SxL.nil ?_
              refine SxN.then_ ?_
              refine SxC.seq ?_
              refine SxC.drawnK [] [0, 1, 2, 3, 4, 7, 8, 9, 10] (by kernel_rfl) rfl ⟨(fun g hg => by rw [List.mem_singleton.1 hg]; exact .inr hg9), (fun g hg => by rw [List.mem_singleton.1 hg]; exact .inr hg8), (fun g hg => by rw [List.mem_singleton.1 hg]; exact .inr hg7), (fun g hg => by rw [List.mem_singleton.1 hg]; exact .inr hg6), (fun g hg => by rw [List.mem_singleton.1 hg]; exact .inr hg5), (fun g hg => by rw [List.mem_singleton.1 hg]; exact .inr hg4), (fun g hg => by rw [List.mem_singleton.1 hg]; exact .inr hg3), (fun g hg => by rw [List.mem_singleton.1 hg]; exact .inr hg2), (fun g hg => .inr (hV.fresh g hg)), (fun g hg => by rw [List.mem_singleton.1 hg]; exact .inr hgc), (fun g hg => by rw [List.mem_singleton.1 hg]; exact .inr hg1), trivial⟩ ?_
              refine SxA.take (i := 0) (v := .agg #[.int .u8 (ts : Int), .int .u8 (td : Int), .int .u8 (tk : Int), .int .u64 (tbn : Int), .int .u8 (tbr : Int), .int .u64 (tba : Int), .int .u64 (tsl : Int), .int .u8 (tno : Int), .string ⟨tv.toArray⟩, .slice none 0 0, .slice none 0 0, .int .u8 (tca : Int), .int .u32 (tcb : Int), .int .u8 (tck : Int), .string ⟨tcs.toArray⟩, .string ⟨tct.toArray⟩, .string ⟨tcu.toArray⟩, .int .u8 (tcz : Int), .int .u8 (tco : Int), .string ⟨tte.toArray⟩]) rfl (by kernel_rfl) (by kernel_rfl) (by kernel_rfl) rfl rfl (fun _ _ _ h => h) trivial (fun ρ w E H => ex_load (part := [.int .u8 (ts : Int), .int .u8 (td : Int), .int .u8 (tk : Int), .int .u64 (tbn : Int), .int .u8 (tbr : Int), .int .u64 (tba : Int), .int .u64 (tsl : Int), .int .u8 (tno : Int), .string ⟨tv.toArray⟩, .slice none 0 0, .slice none 0 0, .int .u8 (tca : Int), .int .u32 (tcb : Int), .int .u8 (tck : Int), .string ⟨tcs.toArray⟩, .string ⟨tct.toArray⟩, .string ⟨tcu.toArray⟩, .int .u8 (tcz : Int), .int .u8 (tco : Int), .string ⟨tte.toArray⟩]) E (H.get (i := 4) rfl) rfl rfl Try.underlying47 rfl sz_palaver_api_Letter rfl rfl) ?_
              refine SxA.take (i := 1) (v := .agg #[.int .u8 (ts : Int), .int .u8 (td : Int), .int .u8 (tk : Int), .int .u64 (tbn : Int), .int .u8 (tbr : Int), .int .u64 (tba : Int), .int .u64 (tsl : Int), .int .u8 (tno : Int), .string ⟨tv.toArray⟩, .slice none 0 0, .slice none 0 0, .int .u8 (tca : Int), .int .u32 (tcb : Int), .int .u8 (tck : Int), .string ⟨tcs.toArray⟩, .string ⟨tct.toArray⟩, .string ⟨tcu.toArray⟩, .int .u8 (tcz : Int), .int .u8 (tco : Int), .string ⟨tte.toArray⟩]) rfl (by kernel_rfl) (by kernel_rfl) (by kernel_rfl) rfl rfl (fun _ _ _ h => h) trivial (fun ρ w E H => ex_load (part := [.int .u8 (ts : Int), .int .u8 (td : Int), .int .u8 (tk : Int), .int .u64 (tbn : Int), .int .u8 (tbr : Int), .int .u64 (tba : Int), .int .u64 (tsl : Int), .int .u8 (tno : Int), .string ⟨tv.toArray⟩, .slice none 0 0, .slice none 0 0, .int .u8 (tca : Int), .int .u32 (tcb : Int), .int .u8 (tck : Int), .string ⟨tcs.toArray⟩, .string ⟨tct.toArray⟩, .string ⟨tcu.toArray⟩, .int .u8 (tcz : Int), .int .u8 (tco : Int), .string ⟨tte.toArray⟩]) E (H.get (i := 1) rfl) rfl rfl Try.underlying47 rfl sz_palaver_api_Letter rfl rfl) ?_
              refine SxA.ready [2] (by kernel_rfl) (by simp) ⟨?_, trivial⟩
              refine SxO.storeX (j := 6) [.int .u8 (ts : Int), .int .u8 (td : Int), .int .u8 (tk : Int), .int .u64 (tbn : Int), .int .u8 (tbr : Int), .int .u64 (tba : Int), .int .u64 (tsl : Int), .int .u8 (tno : Int), .string ⟨tv.toArray⟩, .slice none 0 0, .slice none 0 0, .int .u8 (tca : Int), .int .u32 (tcb : Int), .int .u8 (tck : Int), .string ⟨tcs.toArray⟩, .string ⟨tct.toArray⟩, .string ⟨tcu.toArray⟩, .int .u8 (tcz : Int), .int .u8 (tco : Int), .string ⟨tte.toArray⟩] rfl trivial rfl rfl rfl rfl rfl sz_palaver_api_Letter rfl rfl rfl (putL_all _ _ rfl) (fun w H => H.ks [] [0, 1, 2, 3, 4, 7, 8, 9, 10] rfl ⟨(fun g hg => by rw [List.mem_singleton.1 hg]; exact .inr hg9), (fun g hg => by rw [List.mem_singleton.1 hg]; exact .inr hg8), (fun g hg => by rw [List.mem_singleton.1 hg]; exact .inr hg7), (fun g hg => by rw [List.mem_singleton.1 hg]; exact .inr hg6), (fun g hg => by rw [List.mem_singleton.1 hg]; exact .inr hg5), (fun g hg => by rw [List.mem_singleton.1 hg]; exact .inr hg4), (fun g hg => by rw [List.mem_singleton.1 hg]; exact .inr hg3), (fun g hg => by rw [List.mem_singleton.1 hg]; exact .inr hg2), (fun g hg => .inr (hV.fresh g hg)), (fun g hg => by rw [List.mem_singleton.1 hg]; exact .inr hgc), (fun g hg => by rw [List.mem_singleton.1 hg]; exact .inr hg1), trivial⟩) ?_
              refine SxA.ready [3] (by kernel_rfl) (by simp) ⟨?_, trivial⟩
              refine SxO.storeX (j := 5) [.int .u8 (ts : Int), .int .u8 (td : Int), .int .u8 (tk : Int), .int .u64 (tbn : Int), .int .u8 (tbr : Int), .int .u64 (tba : Int), .int .u64 (tsl : Int), .int .u8 (tno : Int), .string ⟨tv.toArray⟩, .slice none 0 0, .slice none 0 0, .int .u8 (tca : Int), .int .u32 (tcb : Int), .int .u8 (tck : Int), .string ⟨tcs.toArray⟩, .string ⟨tct.toArray⟩, .string ⟨tcu.toArray⟩, .int .u8 (tcz : Int), .int .u8 (tco : Int), .string ⟨tte.toArray⟩] rfl trivial rfl rfl rfl rfl rfl sz_palaver_api_Letter rfl rfl rfl (putL_all _ _ rfl) (fun w H => H.ks [] [0, 1, 2, 3, 4, 7, 8, 9, 10] rfl ⟨(fun g hg => by rw [List.mem_singleton.1 hg]; exact .inr hg9), (fun g hg => by rw [List.mem_singleton.1 hg]; exact .inr hg8), (fun g hg => by rw [List.mem_singleton.1 hg]; exact .inr hg7), (fun g hg => by rw [List.mem_singleton.1 hg]; exact .inr hg6), (fun g hg => by rw [List.mem_singleton.1 hg]; exact .inr hg5), (fun g hg => by rw [List.mem_singleton.1 hg]; exact .inr hg4), (fun g hg => by rw [List.mem_singleton.1 hg]; exact .inr hg3), (fun g hg => by rw [List.mem_singleton.1 hg]; exact .inr hg2), (fun g hg => .inr (hV.fresh g hg)), (fun g hg => by rw [List.mem_singleton.1 hg]; exact .inr hgc), (fun g hg => by rw [List.mem_singleton.1 hg]; exact .inr hg1), trivial⟩) ?_
              refine SxA.done (by kernel_rfl) ?_
              refine SxN.then_ ?_
              refine SxC.seq ?_
              refine SxC.region ?_
              refine SxL.val (v := .bool is2) trivial rfl rfl (fun ρ w E H => ex_move E rfl rfl) ?_
              refine SxL.val (v := .bool is2) trivial rfl rfl (fun ρ w E H => ex_move E rfl rfl) ?_
              refine SxL.val (v := .bool false) trivial rfl rfl (fun ρ w E H => ex_bneq E rfl Try.underlying4 rfl rfl (by simp)) ?_
              refine SxL.val (v := .bool false) trivial rfl rfl (fun ρ w E H => ex_move E rfl rfl) ?_
              refine SxL.val (v := .agg #[.int .u8 (c2 : Int), .string ⟨t2.toArray⟩]) ⟨_, _, rfl, rfl, rfl⟩ rfl rfl (fun ρ w E H => ex_load (part := [.int .u8 (c2 : Int), .string ⟨t2.toArray⟩]) E (H.get (i := 3) rfl) rfl rfl Try.underlying43 rfl sz_palaver_api_Reply rfl rfl) ?_
              refine SxL.val (v := .agg #[.int .u8 (c2 : Int), .string ⟨t2.toArray⟩]) ⟨_, _, rfl, rfl, rfl⟩ rfl rfl (fun ρ w E H => ex_load (part := [.int .u8 (c2 : Int), .string ⟨t2.toArray⟩]) E (H.get (i := 0) rfl) rfl rfl Try.underlying43 rfl sz_palaver_api_Reply rfl rfl) ?_
              refine SxL.val (v := .bool false) ⟨_, _, rfl, rfl, rfl⟩ rfl rfl (fun ρ w E H => ex_aneq E rfl (by kernel_rfl) rfl rfl (fun w => by rw [Bool.not_false]; exact eq_rym c2 t2 w)) ?_
              refine SxL.val (v := .bool false) trivial rfl rfl (fun ρ w E H => ex_pick E rfl (t := false) rfl rfl) ?_
              refine SxL.val (v := .bool false) trivial rfl rfl (fun ρ w E H => ex_move E rfl rfl) ?_
              refine SxL.val (v := .bool tk2) ⟨_, _, rfl, rfl, rfl⟩ rfl rfl (fun ρ w E H => ex_move E rfl rfl) ?_
              refine SxL.val (v := .bool tk2) ⟨_, _, rfl, rfl, rfl⟩ rfl rfl (fun ρ w E H => ex_move E rfl rfl) ?_
              refine SxL.val (v := .bool false) ⟨_, _, rfl, rfl, rfl⟩ rfl rfl (fun ρ w E H => ex_bneq E rfl Try.underlying4 rfl rfl (by simp)) ?_
              refine SxL.val (v := .bool false) trivial rfl rfl (fun ρ w E H => ex_pick E rfl (t := false) rfl rfl) ?_
              refine SxL.nil ?_
              refine SxN.then_ ?_
              refine SxC.condF rfl ?_
              refine SxC.skip ?_
              refine SxN.block ?_
              refine SxN.then_ ?_
              refine SxC.seq ?_
              cases hw
              · have hwt : x2.waits = false := hi2.waits
                have hww : waitsC x2 = (cm0, false) := by unfold waitsC; rw [hwt, if_neg (by decide)]
                refine SxC.region ?_
                refine SxL.val (v := .pointer (some ⟨gc, 0, none⟩)) trivial rfl rfl (fun ρ w E H => ex_move E rfl rfl) ?_
                refine SxL.callB (v := .tuple #[.agg #[.int .u8 0, .int .u32 0, .int .u8 0, .string ⟨[].toArray⟩, .string ⟨[].toArray⟩, .string ⟨[].toArray⟩, .int .u8 0], .bool false]) trivial rfl rfl (fun ρ w E => ex_call E en_palaver_client_Client_Waits rfl rfl) (fun w H => waits_p hww w (H.get (i := 9) rfl)) ?_
                refine SxL.val (v := .tuple #[.agg #[.int .u8 0, .int .u32 0, .int .u8 0, .string ⟨[].toArray⟩, .string ⟨[].toArray⟩, .string ⟨[].toArray⟩, .int .u8 0], .bool false]) trivial rfl rfl (fun ρ w E H => ex_move E rfl rfl) ?_
                refine SxL.val (v := .agg #[.int .u8 0, .int .u32 0, .int .u8 0, .string ⟨[].toArray⟩, .string ⟨[].toArray⟩, .string ⟨[].toArray⟩, .int .u8 0]) trivial rfl rfl (fun ρ w E H => ex_extract E rfl rfl rfl) ?_
                refine SxL.val (v := .bool false) trivial rfl rfl (fun ρ w E H => ex_extract E rfl rfl rfl) ?_
                refine SxL.new (cs := [.int .u8 0, .int .u32 0, .int .u8 0, .string ⟨[].toArray⟩, .string ⟨[].toArray⟩, .string ⟨[].toArray⟩, .int .u8 0]) trivial rfl rfl (fun ρ w E H => ex_alloc rfl zr_palaver_api_Cmd rfl) fun g10 hg10 => ?_
                refine SxL.storeX (i := 0) [.int .u8 0, .int .u32 0, .int .u8 0, .string ⟨[].toArray⟩, .string ⟨[].toArray⟩, .string ⟨[].toArray⟩, .int .u8 0] trivial rfl rfl rfl rfl rfl sz_palaver_api_Cmd rfl rfl rfl (putL_all _ _ rfl) ?_
                refine SxL.val (v := .bool false) trivial rfl rfl (fun ρ w E H => ex_assign E rfl rfl) ?_
                refine SxL.nil ?_
                refine SxN.then_ ?_
                refine SxC.seq ?_
                refine SxC.drawnK [] [0, 1, 2, 3, 4, 5, 6, 7, 8, 9, 10, 11] (by kernel_rfl) rfl ⟨(fun g hg => by rw [List.mem_singleton.1 hg]; exact .inr hg10), (fun g hg => by rw [List.mem_singleton.1 hg]; exact .inr hg9), (fun g hg => by rw [List.mem_singleton.1 hg]; exact .inr hg8), (fun g hg => by rw [List.mem_singleton.1 hg]; exact .inr hg7), (fun g hg => by rw [List.mem_singleton.1 hg]; exact .inr hg6), (fun g hg => by rw [List.mem_singleton.1 hg]; exact .inr hg5), (fun g hg => by rw [List.mem_singleton.1 hg]; exact .inr hg4), (fun g hg => by rw [List.mem_singleton.1 hg]; exact .inr hg3), (fun g hg => by rw [List.mem_singleton.1 hg]; exact .inr hg2), (fun g hg => .inr (hV.fresh g hg)), (fun g hg => by rw [List.mem_singleton.1 hg]; exact .inr hgc), (fun g hg => by rw [List.mem_singleton.1 hg]; exact .inr hg1), trivial⟩ ?_
                refine SxA.take (i := 0) (v := .int .i64 0) rfl (by kernel_rfl) (by kernel_rfl) (by kernel_rfl) rfl rfl (fun _ _ _ h => h) trivial (fun ρ w E H => ex_move E rfl rfl) ?_
                refine SxA.take (i := 1) (v := .int .i64 0) rfl (by kernel_rfl) (by kernel_rfl) (by kernel_rfl) rfl rfl (fun _ _ _ h => h) trivial (fun ρ w E H => ex_move E rfl rfl) ?_
                refine SxA.take (i := 2) (v := .bool false) rfl (by kernel_rfl) (by kernel_rfl) (by kernel_rfl) rfl rfl (fun _ _ _ h => h) trivial (fun ρ w E H => ex_cmp E rfl rfl rfl rfl (by decide)) ?_
                refine SxA.take (i := 3) (v := .bool false) rfl (by kernel_rfl) (by kernel_rfl) (by kernel_rfl) rfl rfl (fun _ _ _ h => h) trivial (fun ρ w E H => ex_move E rfl rfl) ?_
                refine SxA.take (i := 4) (v := .agg #[.int .u8 (ts : Int), .int .u8 (td : Int), .int .u8 (tk : Int), .int .u64 (tbn : Int), .int .u8 (tbr : Int), .int .u64 (tba : Int), .int .u64 (tsl : Int), .int .u8 (tno : Int), .string ⟨tv.toArray⟩, .slice none 0 0, .slice none 0 0, .int .u8 (tca : Int), .int .u32 (tcb : Int), .int .u8 (tck : Int), .string ⟨tcs.toArray⟩, .string ⟨tct.toArray⟩, .string ⟨tcu.toArray⟩, .int .u8 (tcz : Int), .int .u8 (tco : Int), .string ⟨tte.toArray⟩]) rfl (by kernel_rfl) (by kernel_rfl) (by kernel_rfl) rfl rfl (fun _ _ _ h => h) ⟨_, _, rfl, rfl, rfl⟩ (fun ρ w E H => ex_load (part := [.int .u8 (ts : Int), .int .u8 (td : Int), .int .u8 (tk : Int), .int .u64 (tbn : Int), .int .u8 (tbr : Int), .int .u64 (tba : Int), .int .u64 (tsl : Int), .int .u8 (tno : Int), .string ⟨tv.toArray⟩, .slice none 0 0, .slice none 0 0, .int .u8 (tca : Int), .int .u32 (tcb : Int), .int .u8 (tck : Int), .string ⟨tcs.toArray⟩, .string ⟨tct.toArray⟩, .string ⟨tcu.toArray⟩, .int .u8 (tcz : Int), .int .u8 (tco : Int), .string ⟨tte.toArray⟩]) E (H.get (i := 7) rfl) rfl rfl Try.underlying47 rfl sz_palaver_api_Letter rfl rfl) ?_
                refine SxA.take (i := 5) (v := .agg #[.int .u8 (ts : Int), .int .u8 (td : Int), .int .u8 (tk : Int), .int .u64 (tbn : Int), .int .u8 (tbr : Int), .int .u64 (tba : Int), .int .u64 (tsl : Int), .int .u8 (tno : Int), .string ⟨tv.toArray⟩, .slice none 0 0, .slice none 0 0, .int .u8 (tca : Int), .int .u32 (tcb : Int), .int .u8 (tck : Int), .string ⟨tcs.toArray⟩, .string ⟨tct.toArray⟩, .string ⟨tcu.toArray⟩, .int .u8 (tcz : Int), .int .u8 (tco : Int), .string ⟨tte.toArray⟩]) rfl (by kernel_rfl) (by kernel_rfl) (by kernel_rfl) rfl rfl (fun _ _ _ h => h) ⟨_, _, rfl, rfl, rfl⟩ (fun ρ w E H => ex_load (part := [.int .u8 (ts : Int), .int .u8 (td : Int), .int .u8 (tk : Int), .int .u64 (tbn : Int), .int .u8 (tbr : Int), .int .u64 (tba : Int), .int .u64 (tsl : Int), .int .u8 (tno : Int), .string ⟨tv.toArray⟩, .slice none 0 0, .slice none 0 0, .int .u8 (tca : Int), .int .u32 (tcb : Int), .int .u8 (tck : Int), .string ⟨tcs.toArray⟩, .string ⟨tct.toArray⟩, .string ⟨tcu.toArray⟩, .int .u8 (tcz : Int), .int .u8 (tco : Int), .string ⟨tte.toArray⟩]) E (H.get (i := 6) rfl) rfl rfl Try.underlying47 rfl sz_palaver_api_Letter rfl rfl) ?_
                refine SxA.ready [6] (by kernel_rfl) (by simp) ⟨?_, trivial⟩
                refine SxO.callB (v := .bool true) rfl ⟨_, _, rfl, rfl, rfl⟩ rfl rfl (fun ρ w E => ex_call E en_palaver_palaverlaw27_same rfl rfl) (fun w H => lsame_any ts td tk tbn tbr tba tsl tno tca tcb tck tcz tco tv tcs tct tcu tte w) (fun w H => H.ks [] [0, 1, 2, 3, 4, 5, 6, 7, 8, 9, 10, 11] rfl ⟨(fun g hg => by rw [List.mem_singleton.1 hg]; exact .inr hg10), (fun g hg => by rw [List.mem_singleton.1 hg]; exact .inr hg9), (fun g hg => by rw [List.mem_singleton.1 hg]; exact .inr hg8), (fun g hg => by rw [List.mem_singleton.1 hg]; exact .inr hg7), (fun g hg => by rw [List.mem_singleton.1 hg]; exact .inr hg6), (fun g hg => by rw [List.mem_singleton.1 hg]; exact .inr hg5), (fun g hg => by rw [List.mem_singleton.1 hg]; exact .inr hg4), (fun g hg => by rw [List.mem_singleton.1 hg]; exact .inr hg3), (fun g hg => by rw [List.mem_singleton.1 hg]; exact .inr hg2), (fun g hg => .inr (hV.fresh g hg)), (fun g hg => by rw [List.mem_singleton.1 hg]; exact .inr hgc), (fun g hg => by rw [List.mem_singleton.1 hg]; exact .inr hg1), trivial⟩) ?_
                refine SxA.take (i := 7) (v := .bool false) rfl (by kernel_rfl) (by kernel_rfl) (by kernel_rfl) rfl rfl (fun _ _ _ h => h) ⟨_, _, rfl, rfl, rfl⟩ (fun ρ w E H => ex_not (t := true) E rfl rfl) ?_
                refine SxA.take (i := 8) (v := .bool false) rfl (by kernel_rfl) (by kernel_rfl) (by kernel_rfl) rfl rfl (fun _ _ _ h => h) trivial (fun ρ w E H => ex_pick E rfl (t := false) rfl rfl) ?_
                refine SxA.take (i := 9) (v := .bool false) rfl (by kernel_rfl) (by kernel_rfl) (by kernel_rfl) rfl rfl (fun _ _ _ h => h) trivial (fun ρ w E H => ex_move E rfl rfl) ?_
                refine SxA.take (i := 10) (v := .bool false) rfl (by kernel_rfl) (by kernel_rfl) (by kernel_rfl) rfl rfl (fun _ _ _ h => h) ⟨_, _, rfl, rfl, rfl⟩ (fun ρ w E H => ex_move E rfl rfl) ?_
                refine SxA.take (i := 11) (v := .pointer (some ⟨g1, 3, none⟩)) rfl (by kernel_rfl) (by kernel_rfl) (by kernel_rfl) rfl rfl (fun _ _ _ h => h) ⟨_, _, rfl, rfl, rfl⟩ (fun ρ w E H => ex_field E rfl fa_palaver_palaverref27_Client_3 rfl rfl) ?_
                refine SxA.take (i := 12) (v := .bool false) rfl (by kernel_rfl) (by kernel_rfl) (by kernel_rfl) rfl rfl (fun _ _ _ h => h) ⟨_, _, rfl, rfl, rfl⟩ (fun ρ w E H => ex_load1 E (H.get (i := 11) rfl) rfl rfl Try.underlying4 rfl rfl) ?_
                refine SxA.take (i := 13) (v := .bool false) rfl (by kernel_rfl) (by kernel_rfl) (by kernel_rfl) rfl rfl (fun _ _ _ h => h) ⟨_, _, rfl, rfl, rfl⟩ (fun ρ w E H => ex_bneq E rfl Try.underlying4 rfl rfl (by simp)) ?_
                refine SxA.take (i := 14) (v := .bool false) rfl (by kernel_rfl) (by kernel_rfl) (by kernel_rfl) rfl rfl (fun _ _ _ h => h) trivial (fun ρ w E H => ex_pick E rfl (t := false) rfl rfl) ?_
                refine SxA.take (i := 15) (v := .bool false) rfl (by kernel_rfl) (by kernel_rfl) (by kernel_rfl) rfl rfl (fun _ _ _ h => h) trivial (fun ρ w E H => ex_move E rfl rfl) ?_
                refine SxA.take (i := 16) (v := .bool false) rfl (by kernel_rfl) (by kernel_rfl) (by kernel_rfl) rfl rfl (fun _ _ _ h => h) ⟨_, _, rfl, rfl, rfl⟩ (fun ρ w E H => ex_move E rfl rfl) ?_
                refine SxA.take (i := 17) (v := .bool false) rfl (by kernel_rfl) (by kernel_rfl) (by kernel_rfl) rfl rfl (fun _ _ _ h => h) ⟨_, _, rfl, rfl, rfl⟩ (fun ρ w E H => ex_move E rfl rfl) ?_
                refine SxA.takeOff (i := 18) rfl (by kernel_rfl) (by kernel_rfl) (by kernel_rfl) rfl rfl (fun _ _ _ h => h) ⟨_, _, _, rfl, rfl, rfl, nofun⟩ ?_
                refine SxA.takeOff (i := 19) rfl (by kernel_rfl) (by kernel_rfl) (by kernel_rfl) rfl rfl (fun _ _ _ h => h) ⟨_, _, _, rfl, rfl, rfl, nofun⟩ ?_
                refine SxA.takeOff (i := 20) rfl (by kernel_rfl) (by kernel_rfl) (by kernel_rfl) rfl rfl (fun _ _ _ h => h) ⟨_, _, _, rfl, rfl, rfl, nofun⟩ ?_
                refine SxA.takeOff (i := 21) rfl (by kernel_rfl) (by kernel_rfl) (by kernel_rfl) rfl rfl (fun _ _ _ h => h) ⟨_, _, _, rfl, rfl, rfl, nofun⟩ ?_
                refine SxA.take (i := 22) (v := .bool false) rfl (by kernel_rfl) (by kernel_rfl) (by kernel_rfl) rfl rfl (fun _ _ _ h => h) ⟨_, _, rfl, rfl, rfl⟩ (fun ρ w E H => ex_pick E rfl (t := false) rfl rfl) ?_
                refine SxA.take (i := 23) (v := .bool false) rfl (by kernel_rfl) (by kernel_rfl) (by kernel_rfl) rfl rfl (fun _ _ _ h => h) trivial (fun ρ w E H => ex_pick E rfl (t := false) rfl rfl) ?_
                refine SxA.take (i := 24) (v := .bool false) rfl (by kernel_rfl) (by kernel_rfl) (by kernel_rfl) rfl rfl (fun _ _ _ h => h) trivial (fun ρ w E H => ex_move E rfl rfl) ?_
                refine SxA.take (i := 25) (v := .bool false) rfl (by kernel_rfl) (by kernel_rfl) (by kernel_rfl) rfl rfl (fun _ _ _ h => h) ⟨_, _, rfl, rfl, rfl⟩ (fun ρ w E H => ex_move E rfl rfl) ?_
                refine SxA.take (i := 26) (v := .bool true) rfl (by kernel_rfl) (by kernel_rfl) (by kernel_rfl) rfl rfl (fun _ _ _ h => h) ⟨_, _, rfl, rfl, rfl⟩ (fun ρ w E H => ex_not (t := false) E rfl rfl) ?_
                refine SxA.take (i := 27) (v := .bool true) rfl (by kernel_rfl) (by kernel_rfl) (by kernel_rfl) rfl rfl (fun _ _ _ h => h) ⟨_, _, rfl, rfl, rfl⟩ (fun ρ w E H => ex_move E rfl rfl) ?_
                refine SxA.take (i := 28) (v := .agg #[.int .u8 0, .int .u32 0, .int .u8 0, .string ⟨[].toArray⟩, .string ⟨[].toArray⟩, .string ⟨[].toArray⟩, .int .u8 0]) rfl (by kernel_rfl) (by kernel_rfl) (by kernel_rfl) rfl rfl (fun _ _ _ h => h) ⟨_, _, rfl, rfl, rfl⟩ (fun ρ w E H => ex_load (part := [.int .u8 0, .int .u32 0, .int .u8 0, .string ⟨[].toArray⟩, .string ⟨[].toArray⟩, .string ⟨[].toArray⟩, .int .u8 0]) E (H.get (i := 0) rfl) rfl rfl Try.underlying36 rfl sz_palaver_api_Cmd rfl rfl) ?_
                refine SxA.take (i := 29) (v := .agg #[.int .u8 0, .int .u32 0, .int .u8 0, .string ⟨[].toArray⟩, .string ⟨[].toArray⟩, .string ⟨[].toArray⟩, .int .u8 0]) rfl (by kernel_rfl) (by kernel_rfl) (by kernel_rfl) rfl rfl (fun _ _ _ h => h) ⟨_, _, rfl, rfl, rfl⟩ (fun ρ w E H => ex_build (cs := [.int .u8 0, .int .u32 0, .int .u8 0, .string ⟨[].toArray⟩, .string ⟨[].toArray⟩, .string ⟨[].toArray⟩, .int .u8 0]) E rfl rfl (by kernel_rfl)) ?_
                refine SxA.take (i := 30) (v := .bool false) rfl (by kernel_rfl) (by kernel_rfl) (by kernel_rfl) rfl rfl (fun _ _ _ h => h) ⟨_, _, rfl, rfl, rfl⟩ (fun ρ w E H => ex_aneq E rfl (by kernel_rfl) rfl rfl (fun w => by rw [Bool.not_false]; exact eq_cmm cm0 w)) ?_
                refine SxA.take (i := 31) (v := .bool false) rfl (by kernel_rfl) (by kernel_rfl) (by kernel_rfl) rfl rfl (fun _ _ _ h => h) ⟨_, _, rfl, rfl, rfl⟩ (fun ρ w E H => ex_pick E rfl (t := true) rfl rfl) ?_
                refine SxA.take (i := 32) (v := .bool false) rfl (by kernel_rfl) (by kernel_rfl) (by kernel_rfl) rfl rfl (fun _ _ _ h => h) trivial (fun ρ w E H => ex_pick E rfl (t := false) rfl rfl) ?_
                refine SxA.done (by kernel_rfl) ?_
                refine SxN.then_ ?_
                refine SxC.condF rfl ?_
                refine SxC.skip ?_
                refine SxN.block ?_
                refine SxN.then_ ?_
                refine SxC.region ?_
                refine SxL.val (v := .int .i64 (i : Int)) trivial rfl rfl (fun ρ w E H => ex_move E rfl rfl) ?_
                refine SxL.val (v := .int .i64 ((i + 1 : Nat) : Int)) trivial rfl rfl (fun ρ w E H => ex_add E rfl rfl rfl (by rw [IntKind.wrap_i64]; omega)) ?_
                refine SxL.val (v := .int .i64 ((i + 1 : Nat) : Int)) trivial rfl rfl (fun ρ w E H => ex_assign E rfl rfl) ?_
                refine SxL.nil ?_
                refine SxN.back (gk - 1) (i + 1, x2, (⟨hI, hN, rL, false, hd⟩ : Rc), (.slice AV rL.length kV)) (by omega) ⟨by omega, hi2, hxf2, (by dsimp only; omega), hV⟩ ⟨rfl, rfl, rfl, rfl, trivial⟩ [9, 10, 11] rfl (by decide) ⟨.inr (fun g hg => by rw [List.mem_singleton.1 hg]; exact hg10), .inr (fun g hg => by rw [List.mem_singleton.1 hg]; exact hg9), .inr (fun g hg => by rw [List.mem_singleton.1 hg]; exact hg8), .inr (fun g hg => by rw [List.mem_singleton.1 hg]; exact hg7), .inr (fun g hg => by rw [List.mem_singleton.1 hg]; exact hg6), .inr (fun g hg => by rw [List.mem_singleton.1 hg]; exact hg5), .inr (fun g hg => by rw [List.mem_singleton.1 hg]; exact hg4), .inr (fun g hg => by rw [List.mem_singleton.1 hg]; exact hg3), .inr (fun g hg => by rw [List.mem_singleton.1 hg]; exact hg2), .inl rfl, .inl rfl, .inl rfl, trivial⟩
              · have hwt : x2.waits = true := hi2.waits
                have hww : waitsC x2 = (⟨qa, qb, qk, qs, qt, qu, qz⟩, true) := by unfold waitsC; rw [hwt, if_pos rfl, hi2.cmd hwt]; exact congrArg (fun c => (c, true)) hq
                refine SxC.region ?_
                refine SxL.val (v := .pointer (some ⟨gc, 0, none⟩)) trivial rfl rfl (fun ρ w E H => ex_move E rfl rfl) ?_
                refine SxL.callB (v := .tuple #[.agg #[.int .u8 (qa : Int), .int .u32 (qb : Int), .int .u8 (qk : Int), .string ⟨qs.toArray⟩, .string ⟨qt.toArray⟩, .string ⟨qu.toArray⟩, .int .u8 (qz : Int)], .bool true]) trivial rfl rfl (fun ρ w E => ex_call E en_palaver_client_Client_Waits rfl rfl) (fun w H => waits_p hww w (H.get (i := 9) rfl)) ?_
                refine SxL.val (v := .tuple #[.agg #[.int .u8 (qa : Int), .int .u32 (qb : Int), .int .u8 (qk : Int), .string ⟨qs.toArray⟩, .string ⟨qt.toArray⟩, .string ⟨qu.toArray⟩, .int .u8 (qz : Int)], .bool true]) trivial rfl rfl (fun ρ w E H => ex_move E rfl rfl) ?_
                refine SxL.val (v := .agg #[.int .u8 (qa : Int), .int .u32 (qb : Int), .int .u8 (qk : Int), .string ⟨qs.toArray⟩, .string ⟨qt.toArray⟩, .string ⟨qu.toArray⟩, .int .u8 (qz : Int)]) trivial rfl rfl (fun ρ w E H => ex_extract E rfl rfl rfl) ?_
                refine SxL.val (v := .bool true) trivial rfl rfl (fun ρ w E H => ex_extract E rfl rfl rfl) ?_
                refine SxL.new (cs := [.int .u8 0, .int .u32 0, .int .u8 0, .string ⟨[].toArray⟩, .string ⟨[].toArray⟩, .string ⟨[].toArray⟩, .int .u8 0]) trivial rfl rfl (fun ρ w E H => ex_alloc rfl zr_palaver_api_Cmd rfl) fun g11 hg11 => ?_
                refine SxL.storeX (i := 0) [.int .u8 (qa : Int), .int .u32 (qb : Int), .int .u8 (qk : Int), .string ⟨qs.toArray⟩, .string ⟨qt.toArray⟩, .string ⟨qu.toArray⟩, .int .u8 (qz : Int)] trivial rfl rfl rfl rfl rfl sz_palaver_api_Cmd rfl rfl rfl (putL_all _ _ rfl) ?_
                refine SxL.val (v := .bool true) trivial rfl rfl (fun ρ w E H => ex_assign E rfl rfl) ?_
                refine SxL.nil ?_
                refine SxN.then_ ?_
                refine SxC.seq ?_
                refine SxC.drawnK [] [0, 1, 2, 3, 4, 5, 6, 7, 8, 9, 10, 11] (by kernel_rfl) rfl ⟨(fun g hg => by rw [List.mem_singleton.1 hg]; exact .inr hg11), (fun g hg => by rw [List.mem_singleton.1 hg]; exact .inr hg9), (fun g hg => by rw [List.mem_singleton.1 hg]; exact .inr hg8), (fun g hg => by rw [List.mem_singleton.1 hg]; exact .inr hg7), (fun g hg => by rw [List.mem_singleton.1 hg]; exact .inr hg6), (fun g hg => by rw [List.mem_singleton.1 hg]; exact .inr hg5), (fun g hg => by rw [List.mem_singleton.1 hg]; exact .inr hg4), (fun g hg => by rw [List.mem_singleton.1 hg]; exact .inr hg3), (fun g hg => by rw [List.mem_singleton.1 hg]; exact .inr hg2), (fun g hg => .inr (hV.fresh g hg)), (fun g hg => by rw [List.mem_singleton.1 hg]; exact .inr hgc), (fun g hg => by rw [List.mem_singleton.1 hg]; exact .inr hg1), trivial⟩ ?_
                refine SxA.take (i := 0) (v := .int .i64 0) rfl (by kernel_rfl) (by kernel_rfl) (by kernel_rfl) rfl rfl (fun _ _ _ h => h) trivial (fun ρ w E H => ex_move E rfl rfl) ?_
                refine SxA.take (i := 1) (v := .int .i64 0) rfl (by kernel_rfl) (by kernel_rfl) (by kernel_rfl) rfl rfl (fun _ _ _ h => h) trivial (fun ρ w E H => ex_move E rfl rfl) ?_
                refine SxA.take (i := 2) (v := .bool false) rfl (by kernel_rfl) (by kernel_rfl) (by kernel_rfl) rfl rfl (fun _ _ _ h => h) trivial (fun ρ w E H => ex_cmp E rfl rfl rfl rfl (by decide)) ?_
                refine SxA.take (i := 3) (v := .bool false) rfl (by kernel_rfl) (by kernel_rfl) (by kernel_rfl) rfl rfl (fun _ _ _ h => h) trivial (fun ρ w E H => ex_move E rfl rfl) ?_
                refine SxA.take (i := 4) (v := .agg #[.int .u8 (ts : Int), .int .u8 (td : Int), .int .u8 (tk : Int), .int .u64 (tbn : Int), .int .u8 (tbr : Int), .int .u64 (tba : Int), .int .u64 (tsl : Int), .int .u8 (tno : Int), .string ⟨tv.toArray⟩, .slice none 0 0, .slice none 0 0, .int .u8 (tca : Int), .int .u32 (tcb : Int), .int .u8 (tck : Int), .string ⟨tcs.toArray⟩, .string ⟨tct.toArray⟩, .string ⟨tcu.toArray⟩, .int .u8 (tcz : Int), .int .u8 (tco : Int), .string ⟨tte.toArray⟩]) rfl (by kernel_rfl) (by kernel_rfl) (by kernel_rfl) rfl rfl (fun _ _ _ h => h) ⟨_, _, rfl, rfl, rfl⟩ (fun ρ w E H => ex_load (part := [.int .u8 (ts : Int), .int .u8 (td : Int), .int .u8 (tk : Int), .int .u64 (tbn : Int), .int .u8 (tbr : Int), .int .u64 (tba : Int), .int .u64 (tsl : Int), .int .u8 (tno : Int), .string ⟨tv.toArray⟩, .slice none 0 0, .slice none 0 0, .int .u8 (tca : Int), .int .u32 (tcb : Int), .int .u8 (tck : Int), .string ⟨tcs.toArray⟩, .string ⟨tct.toArray⟩, .string ⟨tcu.toArray⟩, .int .u8 (tcz : Int), .int .u8 (tco : Int), .string ⟨tte.toArray⟩]) E (H.get (i := 7) rfl) rfl rfl Try.underlying47 rfl sz_palaver_api_Letter rfl rfl) ?_
                refine SxA.take (i := 5) (v := .agg #[.int .u8 (ts : Int), .int .u8 (td : Int), .int .u8 (tk : Int), .int .u64 (tbn : Int), .int .u8 (tbr : Int), .int .u64 (tba : Int), .int .u64 (tsl : Int), .int .u8 (tno : Int), .string ⟨tv.toArray⟩, .slice none 0 0, .slice none 0 0, .int .u8 (tca : Int), .int .u32 (tcb : Int), .int .u8 (tck : Int), .string ⟨tcs.toArray⟩, .string ⟨tct.toArray⟩, .string ⟨tcu.toArray⟩, .int .u8 (tcz : Int), .int .u8 (tco : Int), .string ⟨tte.toArray⟩]) rfl (by kernel_rfl) (by kernel_rfl) (by kernel_rfl) rfl rfl (fun _ _ _ h => h) ⟨_, _, rfl, rfl, rfl⟩ (fun ρ w E H => ex_load (part := [.int .u8 (ts : Int), .int .u8 (td : Int), .int .u8 (tk : Int), .int .u64 (tbn : Int), .int .u8 (tbr : Int), .int .u64 (tba : Int), .int .u64 (tsl : Int), .int .u8 (tno : Int), .string ⟨tv.toArray⟩, .slice none 0 0, .slice none 0 0, .int .u8 (tca : Int), .int .u32 (tcb : Int), .int .u8 (tck : Int), .string ⟨tcs.toArray⟩, .string ⟨tct.toArray⟩, .string ⟨tcu.toArray⟩, .int .u8 (tcz : Int), .int .u8 (tco : Int), .string ⟨tte.toArray⟩]) E (H.get (i := 6) rfl) rfl rfl Try.underlying47 rfl sz_palaver_api_Letter rfl rfl) ?_
                refine SxA.ready [6] (by kernel_rfl) (by simp) ⟨?_, trivial⟩
                refine SxO.callB (v := .bool true) rfl ⟨_, _, rfl, rfl, rfl⟩ rfl rfl (fun ρ w E => ex_call E en_palaver_palaverlaw27_same rfl rfl) (fun w H => lsame_any ts td tk tbn tbr tba tsl tno tca tcb tck tcz tco tv tcs tct tcu tte w) (fun w H => H.ks [] [0, 1, 2, 3, 4, 5, 6, 7, 8, 9, 10, 11] rfl ⟨(fun g hg => by rw [List.mem_singleton.1 hg]; exact .inr hg11), (fun g hg => by rw [List.mem_singleton.1 hg]; exact .inr hg9), (fun g hg => by rw [List.mem_singleton.1 hg]; exact .inr hg8), (fun g hg => by rw [List.mem_singleton.1 hg]; exact .inr hg7), (fun g hg => by rw [List.mem_singleton.1 hg]; exact .inr hg6), (fun g hg => by rw [List.mem_singleton.1 hg]; exact .inr hg5), (fun g hg => by rw [List.mem_singleton.1 hg]; exact .inr hg4), (fun g hg => by rw [List.mem_singleton.1 hg]; exact .inr hg3), (fun g hg => by rw [List.mem_singleton.1 hg]; exact .inr hg2), (fun g hg => .inr (hV.fresh g hg)), (fun g hg => by rw [List.mem_singleton.1 hg]; exact .inr hgc), (fun g hg => by rw [List.mem_singleton.1 hg]; exact .inr hg1), trivial⟩) ?_
                refine SxA.take (i := 7) (v := .bool false) rfl (by kernel_rfl) (by kernel_rfl) (by kernel_rfl) rfl rfl (fun _ _ _ h => h) ⟨_, _, rfl, rfl, rfl⟩ (fun ρ w E H => ex_not (t := true) E rfl rfl) ?_
                refine SxA.take (i := 8) (v := .bool false) rfl (by kernel_rfl) (by kernel_rfl) (by kernel_rfl) rfl rfl (fun _ _ _ h => h) trivial (fun ρ w E H => ex_pick E rfl (t := false) rfl rfl) ?_
                refine SxA.take (i := 9) (v := .bool false) rfl (by kernel_rfl) (by kernel_rfl) (by kernel_rfl) rfl rfl (fun _ _ _ h => h) trivial (fun ρ w E H => ex_move E rfl rfl) ?_
                refine SxA.take (i := 10) (v := .bool true) rfl (by kernel_rfl) (by kernel_rfl) (by kernel_rfl) rfl rfl (fun _ _ _ h => h) ⟨_, _, rfl, rfl, rfl⟩ (fun ρ w E H => ex_move E rfl rfl) ?_
                refine SxA.take (i := 11) (v := .pointer (some ⟨g1, 3, none⟩)) rfl (by kernel_rfl) (by kernel_rfl) (by kernel_rfl) rfl rfl (fun _ _ _ h => h) ⟨_, _, rfl, rfl, rfl⟩ (fun ρ w E H => ex_field E rfl fa_palaver_palaverref27_Client_3 rfl rfl) ?_
                refine SxA.take (i := 12) (v := .bool true) rfl (by kernel_rfl) (by kernel_rfl) (by kernel_rfl) rfl rfl (fun _ _ _ h => h) ⟨_, _, rfl, rfl, rfl⟩ (fun ρ w E H => ex_load1 E (H.get (i := 11) rfl) rfl rfl Try.underlying4 rfl rfl) ?_
                refine SxA.take (i := 13) (v := .bool false) rfl (by kernel_rfl) (by kernel_rfl) (by kernel_rfl) rfl rfl (fun _ _ _ h => h) ⟨_, _, rfl, rfl, rfl⟩ (fun ρ w E H => ex_bneq E rfl Try.underlying4 rfl rfl (by simp)) ?_
                refine SxA.take (i := 14) (v := .bool false) rfl (by kernel_rfl) (by kernel_rfl) (by kernel_rfl) rfl rfl (fun _ _ _ h => h) trivial (fun ρ w E H => ex_pick E rfl (t := false) rfl rfl) ?_
                refine SxA.take (i := 15) (v := .bool false) rfl (by kernel_rfl) (by kernel_rfl) (by kernel_rfl) rfl rfl (fun _ _ _ h => h) trivial (fun ρ w E H => ex_move E rfl rfl) ?_
                refine SxA.take (i := 16) (v := .bool true) rfl (by kernel_rfl) (by kernel_rfl) (by kernel_rfl) rfl rfl (fun _ _ _ h => h) ⟨_, _, rfl, rfl, rfl⟩ (fun ρ w E H => ex_move E rfl rfl) ?_
                refine SxA.take (i := 17) (v := .bool true) rfl (by kernel_rfl) (by kernel_rfl) (by kernel_rfl) rfl rfl (fun _ _ _ h => h) ⟨_, _, rfl, rfl, rfl⟩ (fun ρ w E H => ex_move E rfl rfl) ?_
                refine SxA.take (i := 18) (v := .agg #[.int .u8 (qa : Int), .int .u32 (qb : Int), .int .u8 (qk : Int), .string ⟨qs.toArray⟩, .string ⟨qt.toArray⟩, .string ⟨qu.toArray⟩, .int .u8 (qz : Int)]) rfl (by kernel_rfl) (by kernel_rfl) (by kernel_rfl) rfl rfl (fun _ _ _ h => h) ⟨_, _, rfl, rfl, rfl⟩ (fun ρ w E H => ex_load (part := [.int .u8 (qa : Int), .int .u32 (qb : Int), .int .u8 (qk : Int), .string ⟨qs.toArray⟩, .string ⟨qt.toArray⟩, .string ⟨qu.toArray⟩, .int .u8 (qz : Int)]) E (H.get (i := 0) rfl) rfl rfl Try.underlying36 rfl sz_palaver_api_Cmd rfl rfl) ?_
                refine SxA.take (i := 19) (v := .agg #[.int .u8 (hI : Int), .int .i64 (hN : Int), .slice AV rL.length kV, .bool true, .int .u8 (hd : Int)]) rfl (by kernel_rfl) (by kernel_rfl) (by kernel_rfl) rfl rfl (fun _ _ _ h => h) ⟨_, _, rfl, rfl, rfl⟩ (fun ρ w E H => ex_load (part := [.int .u8 (hI : Int), .int .i64 (hN : Int), .slice AV rL.length kV, .bool true, .int .u8 (hd : Int)]) E (H.get (i := 11) rfl) rfl rfl Try.underlying32 rfl sz_palaver_palaverref27_Client rfl rfl) ?_
                refine SxA.ready [20] (by kernel_rfl) (by simp) ⟨?_, trivial⟩
                refine SxO.callB (v := .agg #[.int .u8 (qa : Int), .int .u32 (qb : Int), .int .u8 (qk : Int), .string ⟨qs.toArray⟩, .string ⟨qt.toArray⟩, .string ⟨qu.toArray⟩, .int .u8 (qz : Int)]) rfl ⟨_, _, rfl, rfl, rfl⟩ rfl rfl (fun ρ w E => ex_call E en_palaver_palaverref27_Client_Last rfl rfl) (fun w H => (rlast_any (⟨hI, hN, rL, true, hd⟩ : Rc) (rL.length) rfl (by (try dsimp only); (try rw [List.length_append, List.length_singleton]); omega) AV kV w (ownC_read (H.get (i := 9) rfl))).mono fun _ _ h => ⟨by rw [h.1]; exact congrArg (fun c => Ending.returned (cmV c)) hq, h.2⟩) (fun w H => H.ks [] [0, 1, 2, 3, 4, 5, 6, 7, 8, 9, 10, 11] rfl ⟨(fun g hg => by rw [List.mem_singleton.1 hg]; exact .inr hg11), (fun g hg => by rw [List.mem_singleton.1 hg]; exact .inr hg9), (fun g hg => by rw [List.mem_singleton.1 hg]; exact .inr hg8), (fun g hg => by rw [List.mem_singleton.1 hg]; exact .inr hg7), (fun g hg => by rw [List.mem_singleton.1 hg]; exact .inr hg6), (fun g hg => by rw [List.mem_singleton.1 hg]; exact .inr hg5), (fun g hg => by rw [List.mem_singleton.1 hg]; exact .inr hg4), (fun g hg => by rw [List.mem_singleton.1 hg]; exact .inr hg3), (fun g hg => by rw [List.mem_singleton.1 hg]; exact .inr hg2), (fun g hg => .inr (hV.fresh g hg)), (fun g hg => by rw [List.mem_singleton.1 hg]; exact .inr hgc), (fun g hg => by rw [List.mem_singleton.1 hg]; exact .inr hg1), trivial⟩) ?_
                refine SxA.take (i := 21) (v := .bool false) rfl (by kernel_rfl) (by kernel_rfl) (by kernel_rfl) rfl rfl (fun _ _ _ h => h) ⟨_, _, rfl, rfl, rfl⟩ (fun ρ w E H => ex_aneq E rfl (by kernel_rfl) rfl rfl (fun w => by rw [Bool.not_false]; exact eq_cmm (⟨qa, qb, qk, qs, qt, qu, qz⟩ : Cm) w)) ?_
                refine SxA.take (i := 22) (v := .bool false) rfl (by kernel_rfl) (by kernel_rfl) (by kernel_rfl) rfl rfl (fun _ _ _ h => h) ⟨_, _, rfl, rfl, rfl⟩ (fun ρ w E H => ex_pick E rfl (t := true) rfl rfl) ?_
                refine SxA.take (i := 23) (v := .bool false) rfl (by kernel_rfl) (by kernel_rfl) (by kernel_rfl) rfl rfl (fun _ _ _ h => h) trivial (fun ρ w E H => ex_pick E rfl (t := false) rfl rfl) ?_
                refine SxA.take (i := 24) (v := .bool false) rfl (by kernel_rfl) (by kernel_rfl) (by kernel_rfl) rfl rfl (fun _ _ _ h => h) trivial (fun ρ w E H => ex_move E rfl rfl) ?_
                refine SxA.take (i := 25) (v := .bool true) rfl (by kernel_rfl) (by kernel_rfl) (by kernel_rfl) rfl rfl (fun _ _ _ h => h) ⟨_, _, rfl, rfl, rfl⟩ (fun ρ w E H => ex_move E rfl rfl) ?_
                refine SxA.take (i := 26) (v := .bool false) rfl (by kernel_rfl) (by kernel_rfl) (by kernel_rfl) rfl rfl (fun _ _ _ h => h) ⟨_, _, rfl, rfl, rfl⟩ (fun ρ w E H => ex_not (t := true) E rfl rfl) ?_
                refine SxA.take (i := 27) (v := .bool false) rfl (by kernel_rfl) (by kernel_rfl) (by kernel_rfl) rfl rfl (fun _ _ _ h => h) ⟨_, _, rfl, rfl, rfl⟩ (fun ρ w E H => ex_move E rfl rfl) ?_
                refine SxA.takeOff (i := 28) rfl (by kernel_rfl) (by kernel_rfl) (by kernel_rfl) rfl rfl (fun _ _ _ h => h) ⟨_, _, _, rfl, rfl, rfl, nofun⟩ ?_
                refine SxA.takeOff (i := 29) rfl (by kernel_rfl) (by kernel_rfl) (by kernel_rfl) rfl rfl (fun _ _ _ h => h) ⟨_, _, _, rfl, rfl, rfl, nofun⟩ ?_
                refine SxA.takeOff (i := 30) rfl (by kernel_rfl) (by kernel_rfl) (by kernel_rfl) rfl rfl (fun _ _ _ h => h) ⟨_, _, _, rfl, rfl, rfl, nofun⟩ ?_
                refine SxA.take (i := 31) (v := .bool false) rfl (by kernel_rfl) (by kernel_rfl) (by kernel_rfl) rfl rfl (fun _ _ _ h => h) ⟨_, _, rfl, rfl, rfl⟩ (fun ρ w E H => ex_pick E rfl (t := false) rfl rfl) ?_
                refine SxA.take (i := 32) (v := .bool false) rfl (by kernel_rfl) (by kernel_rfl) (by kernel_rfl) rfl rfl (fun _ _ _ h => h) trivial (fun ρ w E H => ex_pick E rfl (t := false) rfl rfl) ?_
                refine SxA.done (by kernel_rfl) ?_
                refine SxN.then_ ?_
                refine SxC.condF rfl ?_
                refine SxC.skip ?_
                refine SxN.block ?_
                refine SxN.then_ ?_
                refine SxC.region ?_
                refine SxL.val (v := .int .i64 (i : Int)) trivial rfl rfl (fun ρ w E H => ex_move E rfl rfl) ?_
                refine SxL.val (v := .int .i64 ((i + 1 : Nat) : Int)) trivial rfl rfl (fun ρ w E H => ex_add E rfl rfl rfl (by rw [IntKind.wrap_i64]; omega)) ?_
                refine SxL.val (v := .int .i64 ((i + 1 : Nat) : Int)) trivial rfl rfl (fun ρ w E H => ex_assign E rfl rfl) ?_
                refine SxL.nil ?_
                refine SxN.back (gk - 1) (i + 1, x2, (⟨hI, hN, rL, true, hd⟩ : Rc), (.slice AV rL.length kV)) (by omega) ⟨by omega, hi2, hxf2, (by dsimp only; omega), hV⟩ ⟨rfl, rfl, rfl, rfl, trivial⟩ [9, 10, 11] rfl (by decide) ⟨.inr (fun g hg => by rw [List.mem_singleton.1 hg]; exact hg11), .inr (fun g hg => by rw [List.mem_singleton.1 hg]; exact hg9), .inr (fun g hg => by rw [List.mem_singleton.1 hg]; exact hg8), .inr (fun g hg => by rw [List.mem_singleton.1 hg]; exact hg7), .inr (fun g hg => by rw [List.mem_singleton.1 hg]; exact hg6), .inr (fun g hg => by rw [List.mem_singleton.1 hg]; exact hg5), .inr (fun g hg => by rw [List.mem_singleton.1 hg]; exact hg4), .inr (fun g hg => by rw [List.mem_singleton.1 hg]; exact hg3), .inr (fun g hg => by rw [List.mem_singleton.1 hg]; exact hg2), .inl rfl, .inl rfl, .inl rfl, trivial⟩
            · refine SxC.condT rfl ?_
              refine SxC.seq ?_
              have hnr := nud_rel hrel hxf.h4
              have hxf2 := nud_fits hxf
              obtain ⟨x2, hx2⟩ : ∃ y, (nudgeC x).1 = y := ⟨_, rfl⟩
              rw [hx2] at hnr hxf2
              have hN : nudR (⟨rid, rn, rL, false, rdst⟩ : Rc) = ((⟨rid, rn, rL, false, rdst⟩ : Rc), lt0, 13) := rfl
              have hN2 := hN
              rw [hN] at hnr
              obtain ⟨hi1, hi2⟩ := hnr
              have hnud : nudgeC x = (x2, lt0, 13) := Prod.ext hx2 hi1
              refine SxC.region ?_
              refine SxL.val (v := .pointer (some ⟨gc, 0, none⟩)) trivial rfl rfl (fun ρ w E H => ex_move E rfl rfl) ?_
              refine SxL.call (σ := Unit) (fun _ => .tuple #[.agg #[.int .u8 0, .int .u8 0, .int .u8 0, .int .u64 0, .int .u8 0, .int .u64 0, .int .u64 0, .int .u8 0, .string ⟨[].toArray⟩, .slice none 0 0, .slice none 0 0, .int .u8 0, .int .u32 0, .int .u8 0, .string ⟨[].toArray⟩, .string ⟨[].toArray⟩, .string ⟨[].toArray⟩, .int .u8 0, .int .u8 0, .string ⟨[].toArray⟩], .int .i64 13]) (fun _ => True) (fun _ => _) trivial rfl rfl (fun ρ w E => ex_call E en_palaver_client_Client_Nudge rfl rfl) (callTurn (i := 4) (cell gc 81 [.int .u8 (x2.id : Int), .int .i64 (x2.n : Int), .int .u8 (x2.node : Int), .int .u32 (x2.seq : Int), .int .u8 (x2.cmd.client : Int), .int .u32 (x2.cmd.seq : Int), .int .u8 (x2.cmd.kind : Int), .string ⟨x2.cmd.key.toArray⟩, .string ⟨x2.cmd.old.toArray⟩, .string ⟨x2.cmd.new.toArray⟩, .int .u8 (x2.cmd.set : Int), .bool (x2.waits)]) rfl (cell_loc _ _ _) rfl (fun w H => (nud_turn hxf hnud w (H.get (i := 4) rfl)).mono fun _ _ h => turn_rd h)) fun _ _ => ?_
              refine SxL.val (v := .tuple #[.agg #[.int .u8 0, .int .u8 0, .int .u8 0, .int .u64 0, .int .u8 0, .int .u64 0, .int .u64 0, .int .u8 0, .string ⟨[].toArray⟩, .slice none 0 0, .slice none 0 0, .int .u8 0, .int .u32 0, .int .u8 0, .string ⟨[].toArray⟩, .string ⟨[].toArray⟩, .string ⟨[].toArray⟩, .int .u8 0, .int .u8 0, .string ⟨[].toArray⟩], .int .i64 13]) trivial rfl rfl (fun ρ w E H => ex_move E rfl rfl) ?_
              refine SxL.val (v := .agg #[.int .u8 0, .int .u8 0, .int .u8 0, .int .u64 0, .int .u8 0, .int .u64 0, .int .u64 0, .int .u8 0, .string ⟨[].toArray⟩, .slice none 0 0, .slice none 0 0, .int .u8 0, .int .u32 0, .int .u8 0, .string ⟨[].toArray⟩, .string ⟨[].toArray⟩, .string ⟨[].toArray⟩, .int .u8 0, .int .u8 0, .string ⟨[].toArray⟩]) trivial rfl rfl (fun ρ w E H => ex_extract E rfl rfl rfl) ?_
              refine SxL.val (v := .int .i64 13) trivial rfl rfl (fun ρ w E H => ex_extract E rfl rfl rfl) ?_
              refine SxL.storeX (i := 1) [.int .u8 0, .int .u8 0, .int .u8 0, .int .u64 0, .int .u8 0, .int .u64 0, .int .u64 0, .int .u8 0, .string ⟨[].toArray⟩, .slice none 0 0, .slice none 0 0, .int .u8 0, .int .u32 0, .int .u8 0, .string ⟨[].toArray⟩, .string ⟨[].toArray⟩, .string ⟨[].toArray⟩, .int .u8 0, .int .u8 0, .string ⟨[].toArray⟩] trivial rfl rfl rfl rfl rfl sz_palaver_api_Letter rfl rfl rfl (putL_all _ _ rfl) ?_
              refine SxL.val (v := .int .i64 13) trivial rfl rfl (fun ρ w E H => ex_assign E rfl rfl) ?_
              refine SxL.nil ?_
              refine SxN.then_ ?_
              refine SxC.region ?_
              refine SxL.val (v := .agg #[.int .u8 (rid : Int), .int .i64 (rn : Int), .slice AV rL.length kV, .bool false, .int .u8 (rdst : Int)]) trivial rfl rfl (fun ρ w E H => ex_load (part := [.int .u8 (rid : Int), .int .i64 (rn : Int), .slice AV rL.length kV, .bool false, .int .u8 (rdst : Int)]) E (H.get (i := 5) rfl) rfl rfl Try.underlying32 rfl sz_palaver_palaverref27_Client rfl rfl) ?_
              refine SxL.callB (v := .tuple #[.agg #[.int .u8 (rid : Int), .int .i64 (rn : Int), .slice AV rL.length kV, .bool false, .int .u8 (rdst : Int)], .agg #[.int .u8 0, .int .u8 0, .int .u8 0, .int .u64 0, .int .u8 0, .int .u64 0, .int .u64 0, .int .u8 0, .string ⟨[].toArray⟩, .slice none 0 0, .slice none 0 0, .int .u8 0, .int .u32 0, .int .u8 0, .string ⟨[].toArray⟩, .string ⟨[].toArray⟩, .string ⟨[].toArray⟩, .int .u8 0, .int .u8 0, .string ⟨[].toArray⟩], .int .i64 13]) trivial rfl rfl (fun ρ w E => ex_call E en_palaver_palaverref27_Client_Nudge rfl rfl) (fun w H => (rnudge_any (⟨rid, rn, rL, false, rdst⟩ : Rc) hid hd7 rL.length rfl (by omega) AV kV w (ownC_read (H.get (i := 3) rfl))).mono fun _ _ h => ⟨by rw [h.1, hN2]; rfl, h.2⟩) ?_
              refine SxL.val (v := .tuple #[.agg #[.int .u8 (rid : Int), .int .i64 (rn : Int), .slice AV rL.length kV, .bool false, .int .u8 (rdst : Int)], .agg #[.int .u8 0, .int .u8 0, .int .u8 0, .int .u64 0, .int .u8 0, .int .u64 0, .int .u64 0, .int .u8 0, .string ⟨[].toArray⟩, .slice none 0 0, .slice none 0 0, .int .u8 0, .int .u32 0, .int .u8 0, .string ⟨[].toArray⟩, .string ⟨[].toArray⟩, .string ⟨[].toArray⟩, .int .u8 0, .int .u8 0, .string ⟨[].toArray⟩], .int .i64 13]) trivial rfl rfl (fun ρ w E H => ex_move E rfl rfl) ?_
              refine SxL.val (v := .agg #[.int .u8 (rid : Int), .int .i64 (rn : Int), .slice AV rL.length kV, .bool false, .int .u8 (rdst : Int)]) trivial rfl rfl (fun ρ w E H => ex_extract E rfl rfl rfl) ?_
              refine SxL.val (v := .agg #[.int .u8 0, .int .u8 0, .int .u8 0, .int .u64 0, .int .u8 0, .int .u64 0, .int .u64 0, .int .u8 0, .string ⟨[].toArray⟩, .slice none 0 0, .slice none 0 0, .int .u8 0, .int .u32 0, .int .u8 0, .string ⟨[].toArray⟩, .string ⟨[].toArray⟩, .string ⟨[].toArray⟩, .int .u8 0, .int .u8 0, .string ⟨[].toArray⟩]) trivial rfl rfl (fun ρ w E H => ex_extract E rfl rfl rfl) ?_
              refine SxL.val (v := .int .i64 13) trivial rfl rfl (fun ρ w E H => ex_extract E rfl rfl rfl) ?_
              refine SxL.storeX (i := 5) [.int .u8 (rid : Int), .int .i64 (rn : Int), .slice AV rL.length kV, .bool false, .int .u8 (rdst : Int)] trivial rfl rfl rfl rfl rfl sz_palaver_palaverref27_Client rfl rfl rfl (putL_all _ _ rfl) ?_
              refine SxL.storeX (i := 0) [.int .u8 0, .int .u8 0, .int .u8 0, .int .u64 0, .int .u8 0, .int .u64 0, .int .u64 0, .int .u8 0, .string ⟨[].toArray⟩, .slice none 0 0, .slice none 0 0, .int .u8 0, .int .u32 0, .int .u8 0, .string ⟨[].toArray⟩, .string ⟨[].toArray⟩, .string ⟨[].toArray⟩, .int .u8 0, .int .u8 0, .string ⟨[].toArray⟩] trivial rfl rfl rfl rfl rfl sz_palaver_api_Letter rfl rfl rfl (putL_all _ _ rfl) ?_
              refine SxL.val (v := .int .i64 13) trivial rfl rfl (fun ρ w E H => ex_assign E rfl rfl) ?_
              refine SxL.nil ?_
              refine SxN.block ?_
              refine SxN.then_ ?_
              refine SxC.seq ?_
              have hwt : x2.waits = false := hi2.waits
              have hww : waitsC x2 = (cm0, false) := by unfold waitsC; rw [hwt, if_neg (by decide)]
              refine SxC.region ?_
              refine SxL.val (v := .pointer (some ⟨gc, 0, none⟩)) trivial rfl rfl (fun ρ w E H => ex_move E rfl rfl) ?_
              refine SxL.callB (v := .tuple #[.agg #[.int .u8 0, .int .u32 0, .int .u8 0, .string ⟨[].toArray⟩, .string ⟨[].toArray⟩, .string ⟨[].toArray⟩, .int .u8 0], .bool false]) trivial rfl rfl (fun ρ w E => ex_call E en_palaver_client_Client_Waits rfl rfl) (fun w H => waits_p hww w (H.get (i := 4) rfl)) ?_
              refine SxL.val (v := .tuple #[.agg #[.int .u8 0, .int .u32 0, .int .u8 0, .string ⟨[].toArray⟩, .string ⟨[].toArray⟩, .string ⟨[].toArray⟩, .int .u8 0], .bool false]) trivial rfl rfl (fun ρ w E H => ex_move E rfl rfl) ?_
              refine SxL.val (v := .agg #[.int .u8 0, .int .u32 0, .int .u8 0, .string ⟨[].toArray⟩, .string ⟨[].toArray⟩, .string ⟨[].toArray⟩, .int .u8 0]) trivial rfl rfl (fun ρ w E H => ex_extract E rfl rfl rfl) ?_
              refine SxL.val (v := .bool false) trivial rfl rfl (fun ρ w E H => ex_extract E rfl rfl rfl) ?_
              refine SxL.new (cs := [.int .u8 0, .int .u32 0, .int .u8 0, .string ⟨[].toArray⟩, .string ⟨[].toArray⟩, .string ⟨[].toArray⟩, .int .u8 0]) trivial rfl rfl (fun ρ w E H => ex_alloc rfl zr_palaver_api_Cmd rfl) fun g12 hg12 => ?_
              refine SxL.storeX (i := 0) [.int .u8 0, .int .u32 0, .int .u8 0, .string ⟨[].toArray⟩, .string ⟨[].toArray⟩, .string ⟨[].toArray⟩, .int .u8 0] trivial rfl rfl rfl rfl rfl sz_palaver_api_Cmd rfl rfl rfl (putL_all _ _ rfl) ?_
              refine SxL.val (v := .bool false) trivial rfl rfl (fun ρ w E H => ex_assign E rfl rfl) ?_
              refine SxL.nil ?_
              refine SxN.then_ ?_
              refine SxC.seq ?_
              refine SxC.drawnK [] [0, 1, 2, 3, 4, 5, 6] (by kernel_rfl) rfl ⟨(fun g hg => by rw [List.mem_singleton.1 hg]; exact .inr hg12), (fun g hg => by rw [List.mem_singleton.1 hg]; exact .inr hg4), (fun g hg => by rw [List.mem_singleton.1 hg]; exact .inr hg3), (fun g hg => by rw [List.mem_singleton.1 hg]; exact .inr hg2), (fun g hg => .inr (hV.fresh g hg)), (fun g hg => by rw [List.mem_singleton.1 hg]; exact .inr hgc), (fun g hg => by rw [List.mem_singleton.1 hg]; exact .inr hg1), trivial⟩ ?_
              refine SxA.take (i := 0) (v := .int .i64 13) rfl (by kernel_rfl) (by kernel_rfl) (by kernel_rfl) rfl rfl (fun _ _ _ h => h) trivial (fun ρ w E H => ex_move E rfl rfl) ?_
              refine SxA.take (i := 1) (v := .int .i64 13) rfl (by kernel_rfl) (by kernel_rfl) (by kernel_rfl) rfl rfl (fun _ _ _ h => h) trivial (fun ρ w E H => ex_move E rfl rfl) ?_
              refine SxA.take (i := 2) (v := .bool false) rfl (by kernel_rfl) (by kernel_rfl) (by kernel_rfl) rfl rfl (fun _ _ _ h => h) trivial (fun ρ w E H => ex_cmp E rfl rfl rfl rfl (by decide)) ?_
              refine SxA.take (i := 3) (v := .bool false) rfl (by kernel_rfl) (by kernel_rfl) (by kernel_rfl) rfl rfl (fun _ _ _ h => h) trivial (fun ρ w E H => ex_move E rfl rfl) ?_
              refine SxA.take (i := 4) (v := .agg #[.int .u8 0, .int .u8 0, .int .u8 0, .int .u64 0, .int .u8 0, .int .u64 0, .int .u64 0, .int .u8 0, .string ⟨[].toArray⟩, .slice none 0 0, .slice none 0 0, .int .u8 0, .int .u32 0, .int .u8 0, .string ⟨[].toArray⟩, .string ⟨[].toArray⟩, .string ⟨[].toArray⟩, .int .u8 0, .int .u8 0, .string ⟨[].toArray⟩]) rfl (by kernel_rfl) (by kernel_rfl) (by kernel_rfl) rfl rfl (fun _ _ _ h => h) ⟨_, _, rfl, rfl, rfl⟩ (fun ρ w E H => ex_load (part := [.int .u8 0, .int .u8 0, .int .u8 0, .int .u64 0, .int .u8 0, .int .u64 0, .int .u64 0, .int .u8 0, .string ⟨[].toArray⟩, .slice none 0 0, .slice none 0 0, .int .u8 0, .int .u32 0, .int .u8 0, .string ⟨[].toArray⟩, .string ⟨[].toArray⟩, .string ⟨[].toArray⟩, .int .u8 0, .int .u8 0, .string ⟨[].toArray⟩]) E (H.get (i := 2) rfl) rfl rfl Try.underlying47 rfl sz_palaver_api_Letter rfl rfl) ?_
              refine SxA.take (i := 5) (v := .agg #[.int .u8 0, .int .u8 0, .int .u8 0, .int .u64 0, .int .u8 0, .int .u64 0, .int .u64 0, .int .u8 0, .string ⟨[].toArray⟩, .slice none 0 0, .slice none 0 0, .int .u8 0, .int .u32 0, .int .u8 0, .string ⟨[].toArray⟩, .string ⟨[].toArray⟩, .string ⟨[].toArray⟩, .int .u8 0, .int .u8 0, .string ⟨[].toArray⟩]) rfl (by kernel_rfl) (by kernel_rfl) (by kernel_rfl) rfl rfl (fun _ _ _ h => h) ⟨_, _, rfl, rfl, rfl⟩ (fun ρ w E H => ex_load (part := [.int .u8 0, .int .u8 0, .int .u8 0, .int .u64 0, .int .u8 0, .int .u64 0, .int .u64 0, .int .u8 0, .string ⟨[].toArray⟩, .slice none 0 0, .slice none 0 0, .int .u8 0, .int .u32 0, .int .u8 0, .string ⟨[].toArray⟩, .string ⟨[].toArray⟩, .string ⟨[].toArray⟩, .int .u8 0, .int .u8 0, .string ⟨[].toArray⟩]) E (H.get (i := 1) rfl) rfl rfl Try.underlying47 rfl sz_palaver_api_Letter rfl rfl) ?_
              refine SxA.ready [6] (by kernel_rfl) (by simp) ⟨?_, trivial⟩
              refine SxO.callB (v := .bool true) rfl ⟨_, _, rfl, rfl, rfl⟩ rfl rfl (fun ρ w E => ex_call E en_palaver_palaverlaw27_same rfl rfl) (fun w H => lsame_any 0 0 0 0 0 0 0 0 0 0 0 0 0 [] [] [] [] [] w) (fun w H => H.ks [] [0, 1, 2, 3, 4, 5, 6] rfl ⟨(fun g hg => by rw [List.mem_singleton.1 hg]; exact .inr hg12), (fun g hg => by rw [List.mem_singleton.1 hg]; exact .inr hg4), (fun g hg => by rw [List.mem_singleton.1 hg]; exact .inr hg3), (fun g hg => by rw [List.mem_singleton.1 hg]; exact .inr hg2), (fun g hg => .inr (hV.fresh g hg)), (fun g hg => by rw [List.mem_singleton.1 hg]; exact .inr hgc), (fun g hg => by rw [List.mem_singleton.1 hg]; exact .inr hg1), trivial⟩) ?_
              refine SxA.take (i := 7) (v := .bool false) rfl (by kernel_rfl) (by kernel_rfl) (by kernel_rfl) rfl rfl (fun _ _ _ h => h) ⟨_, _, rfl, rfl, rfl⟩ (fun ρ w E H => ex_not (t := true) E rfl rfl) ?_
              refine SxA.take (i := 8) (v := .bool false) rfl (by kernel_rfl) (by kernel_rfl) (by kernel_rfl) rfl rfl (fun _ _ _ h => h) trivial (fun ρ w E H => ex_pick E rfl (t := false) rfl rfl) ?_
              refine SxA.take (i := 9) (v := .bool false) rfl (by kernel_rfl) (by kernel_rfl) (by kernel_rfl) rfl rfl (fun _ _ _ h => h) trivial (fun ρ w E H => ex_move E rfl rfl) ?_
              refine SxA.take (i := 10) (v := .bool false) rfl (by kernel_rfl) (by kernel_rfl) (by kernel_rfl) rfl rfl (fun _ _ _ h => h) ⟨_, _, rfl, rfl, rfl⟩ (fun ρ w E H => ex_move E rfl rfl) ?_
              refine SxA.take (i := 11) (v := .pointer (some ⟨g1, 3, none⟩)) rfl (by kernel_rfl) (by kernel_rfl) (by kernel_rfl) rfl rfl (fun _ _ _ h => h) ⟨_, _, rfl, rfl, rfl⟩ (fun ρ w E H => ex_field E rfl fa_palaver_palaverref27_Client_3 rfl rfl) ?_
              refine SxA.take (i := 12) (v := .bool false) rfl (by kernel_rfl) (by kernel_rfl) (by kernel_rfl) rfl rfl (fun _ _ _ h => h) ⟨_, _, rfl, rfl, rfl⟩ (fun ρ w E H => ex_load1 E (H.get (i := 6) rfl) rfl rfl Try.underlying4 rfl rfl) ?_
              refine SxA.take (i := 13) (v := .bool false) rfl (by kernel_rfl) (by kernel_rfl) (by kernel_rfl) rfl rfl (fun _ _ _ h => h) ⟨_, _, rfl, rfl, rfl⟩ (fun ρ w E H => ex_bneq E rfl Try.underlying4 rfl rfl (by simp)) ?_
              refine SxA.take (i := 14) (v := .bool false) rfl (by kernel_rfl) (by kernel_rfl) (by kernel_rfl) rfl rfl (fun _ _ _ h => h) trivial (fun ρ w E H => ex_pick E rfl (t := false) rfl rfl) ?_
              refine SxA.take (i := 15) (v := .bool false) rfl (by kernel_rfl) (by kernel_rfl) (by kernel_rfl) rfl rfl (fun _ _ _ h => h) trivial (fun ρ w E H => ex_move E rfl rfl) ?_
              refine SxA.take (i := 16) (v := .bool false) rfl (by kernel_rfl) (by kernel_rfl) (by kernel_rfl) rfl rfl (fun _ _ _ h => h) ⟨_, _, rfl, rfl, rfl⟩ (fun ρ w E H => ex_move E rfl rfl) ?_
              refine SxA.take (i := 17) (v := .bool false) rfl (by kernel_rfl) (by kernel_rfl) (by kernel_rfl) rfl rfl (fun _ _ _ h => h) ⟨_, _, rfl, rfl, rfl⟩ (fun ρ w E H => ex_move E rfl rfl) ?_
              refine SxA.takeOff (i := 18) rfl (by kernel_rfl) (by kernel_rfl) (by kernel_rfl) rfl rfl (fun _ _ _ h => h) ⟨_, _, _, rfl, rfl, rfl, nofun⟩ ?_
              refine SxA.takeOff (i := 19) rfl (by kernel_rfl) (by kernel_rfl) (by kernel_rfl) rfl rfl (fun _ _ _ h => h) ⟨_, _, _, rfl, rfl, rfl, nofun⟩ ?_
              refine SxA.takeOff (i := 20) rfl (by kernel_rfl) (by kernel_rfl) (by kernel_rfl) rfl rfl (fun _ _ _ h => h) ⟨_, _, _, rfl, rfl, rfl, nofun⟩ ?_
              refine SxA.takeOff (i := 21) rfl (by kernel_rfl) (by kernel_rfl) (by kernel_rfl) rfl rfl (fun _ _ _ h => h) ⟨_, _, _, rfl, rfl, rfl, nofun⟩ ?_
              refine SxA.take (i := 22) (v := .bool false) rfl (by kernel_rfl) (by kernel_rfl) (by kernel_rfl) rfl rfl (fun _ _ _ h => h) ⟨_, _, rfl, rfl, rfl⟩ (fun ρ w E H => ex_pick E rfl (t := false) rfl rfl) ?_
              refine SxA.take (i := 23) (v := .bool false) rfl (by kernel_rfl) (by kernel_rfl) (by kernel_rfl) rfl rfl (fun _ _ _ h => h) trivial (fun ρ w E H => ex_pick E rfl (t := false) rfl rfl) ?_
              refine SxA.take (i := 24) (v := .bool false) rfl (by kernel_rfl) (by kernel_rfl) (by kernel_rfl) rfl rfl (fun _ _ _ h => h) trivial (fun ρ w E H => ex_move E rfl rfl) ?_
              refine SxA.take (i := 25) (v := .bool false) rfl (by kernel_rfl) (by kernel_rfl) (by kernel_rfl) rfl rfl (fun _ _ _ h => h) ⟨_, _, rfl, rfl, rfl⟩ (fun ρ w E H => ex_move E rfl rfl) ?_
              refine SxA.take (i := 26) (v := .bool true) rfl (by kernel_rfl) (by kernel_rfl) (by kernel_rfl) rfl rfl (fun _ _ _ h => h) ⟨_, _, rfl, rfl, rfl⟩ (fun ρ w E H => ex_not (t := false) E rfl rfl) ?_
              refine SxA.take (i := 27) (v := .bool true) rfl (by kernel_rfl) (by kernel_rfl) (by kernel_rfl) rfl rfl (fun _ _ _ h => h) ⟨_, _, rfl, rfl, rfl⟩ (fun ρ w E H => ex_move E rfl rfl) ?_
              refine SxA.take (i := 28) (v := .agg #[.int .u8 0, .int .u32 0, .int .u8 0, .string ⟨[].toArray⟩, .string ⟨[].toArray⟩, .string ⟨[].toArray⟩, .int .u8 0]) rfl (by kernel_rfl) (by kernel_rfl) (by kernel_rfl) rfl rfl (fun _ _ _ h => h) ⟨_, _, rfl, rfl, rfl⟩ (fun ρ w E H => ex_load (part := [.int .u8 0, .int .u32 0, .int .u8 0, .string ⟨[].toArray⟩, .string ⟨[].toArray⟩, .string ⟨[].toArray⟩, .int .u8 0]) E (H.get (i := 0) rfl) rfl rfl Try.underlying36 rfl sz_palaver_api_Cmd rfl rfl) ?_
              refine SxA.take (i := 29) (v := .agg #[.int .u8 0, .int .u32 0, .int .u8 0, .string ⟨[].toArray⟩, .string ⟨[].toArray⟩, .string ⟨[].toArray⟩, .int .u8 0]) rfl (by kernel_rfl) (by kernel_rfl) (by kernel_rfl) rfl rfl (fun _ _ _ h => h) ⟨_, _, rfl, rfl, rfl⟩ (fun ρ w E H => ex_build (cs := [.int .u8 0, .int .u32 0, .int .u8 0, .string ⟨[].toArray⟩, .string ⟨[].toArray⟩, .string ⟨[].toArray⟩, .int .u8 0]) E rfl rfl (by kernel_rfl)) ?_
              refine SxA.take (i := 30) (v := .bool false) rfl (by kernel_rfl) (by kernel_rfl) (by kernel_rfl) rfl rfl (fun _ _ _ h => h) ⟨_, _, rfl, rfl, rfl⟩ (fun ρ w E H => ex_aneq E rfl (by kernel_rfl) rfl rfl (fun w => by rw [Bool.not_false]; exact eq_cmm cm0 w)) ?_
              refine SxA.take (i := 31) (v := .bool false) rfl (by kernel_rfl) (by kernel_rfl) (by kernel_rfl) rfl rfl (fun _ _ _ h => h) ⟨_, _, rfl, rfl, rfl⟩ (fun ρ w E H => ex_pick E rfl (t := true) rfl rfl) ?_
              refine SxA.take (i := 32) (v := .bool false) rfl (by kernel_rfl) (by kernel_rfl) (by kernel_rfl) rfl rfl (fun _ _ _ h => h) trivial (fun ρ w E H => ex_pick E rfl (t := false) rfl rfl) ?_
              refine SxA.done (by kernel_rfl) ?_
              refine SxN.then_ ?_
              refine SxC.condF rfl ?_
              refine SxC.skip ?_
              refine SxN.block ?_
              refine SxN.then_ ?_
              refine SxC.region ?_
              refine SxL.val (v := .int .i64 (i : Int)) trivial rfl rfl (fun ρ w E H => ex_move E rfl rfl) ?_
              refine SxL.val (v := .int .i64 ((i + 1 : Nat) : Int)) trivial rfl rfl (fun ρ w E H => ex_add E rfl rfl rfl (by rw [IntKind.wrap_i64]; omega)) ?_
              refine SxL.val (v := .int .i64 ((i + 1 : Nat) : Int)) trivial rfl rfl (fun ρ w E H => ex_assign E rfl rfl) ?_
              refine SxL.nil ?_
              refine SxN.back (gk - 1) (i + 1, x2, (⟨rid, rn, rL, false, rdst⟩ : Rc), (.slice AV rL.length kV)) (by omega) ⟨by omega, hi2, hxf2, (by dsimp only; omega), hV⟩ ⟨rfl, rfl, rfl, rfl, trivial⟩ [4, 5, 6] rfl (by decide) ⟨.inr (fun g hg => by rw [List.mem_singleton.1 hg]; exact hg12), .inr (fun g hg => by rw [List.mem_singleton.1 hg]; exact hg4), .inr (fun g hg => by rw [List.mem_singleton.1 hg]; exact hg3), .inr (fun g hg => by rw [List.mem_singleton.1 hg]; exact hg2), .inl rfl, .inl rfl, .inl rfl, trivial⟩
          · refine SxC.condT rfl ?_
            refine SxC.seq ?_
            have hir := inv_rel hrel (by dsimp only; omega) ⟨xa, xb, xk, xs, xt, xu, xz⟩
            have hxf2 := inv_fits hxf hcf
            obtain ⟨x2, hx2⟩ : ∃ y, (invokeC x ⟨xa, xb, xk, xs, xt, xu, xz⟩).1 = y := ⟨_, rfl⟩
            rw [hx2] at hir hxf2
            obtain ⟨mb, hmb⟩ : ∃ b, mayB ⟨rid, rL.length + 1, xk, xs, xt, xu, xz⟩ = b := ⟨_, rfl⟩
            cases mb
            · have hI : invR (⟨rid, rn, rL, false, rdst⟩ : Rc) ⟨xa, xb, xk, xs, xt, xu, xz⟩ = ((⟨rid, rn, rL, false, rdst⟩ : Rc), lt0, 2) := by
                unfold invR stampR; dsimp only; rw [hmb]
                rfl
              rw [hI] at hir
              obtain ⟨hi1, hi2⟩ := hir
              have hinv : invokeC x ⟨xa, xb, xk, xs, xt, xu, xz⟩ = (x2, lt0, 2) := Prod.ext hx2 hi1
              refine SxC.region ?_
              refine SxL.val (v := .pointer (some ⟨gc, 0, none⟩)) trivial rfl rfl (fun ρ w E H => ex_move E rfl rfl) ?_
              refine SxL.val (v := .pointer (some ⟨g2, 1, none⟩)) trivial rfl rfl (fun ρ w E H => ex_field E rfl fa_palaver_palaverlaw27_Act_1 rfl rfl) ?_
              refine SxL.val (v := .agg #[.int .u8 (xa : Int), .int .u32 (xb : Int), .int .u8 (xk : Int), .string ⟨xs.toArray⟩, .string ⟨xt.toArray⟩, .string ⟨xu.toArray⟩, .int .u8 (xz : Int)]) trivial rfl rfl (fun ρ w E H => ex_load (part := [.int .u8 (xa : Int), .int .u32 (xb : Int), .int .u8 (xk : Int), .string ⟨xs.toArray⟩, .string ⟨xt.toArray⟩, .string ⟨xu.toArray⟩, .int .u8 (xz : Int)]) E (H.get (i := 2) rfl) rfl rfl Try.underlying36 rfl sz_palaver_api_Cmd rfl rfl) ?_
              refine SxL.call (σ := Unit) (fun _ => .tuple #[.agg #[.int .u8 0, .int .u8 0, .int .u8 0, .int .u64 0, .int .u8 0, .int .u64 0, .int .u64 0, .int .u8 0, .string ⟨[].toArray⟩, .slice none 0 0, .slice none 0 0, .int .u8 0, .int .u32 0, .int .u8 0, .string ⟨[].toArray⟩, .string ⟨[].toArray⟩, .string ⟨[].toArray⟩, .int .u8 0, .int .u8 0, .string ⟨[].toArray⟩], .int .i64 2]) (fun _ => True) (fun _ => _) trivial rfl rfl (fun ρ w E => ex_call E en_palaver_client_Client_Invoke rfl rfl) (callTurn (i := 4) (cell gc 81 [.int .u8 (x2.id : Int), .int .i64 (x2.n : Int), .int .u8 (x2.node : Int), .int .u32 (x2.seq : Int), .int .u8 (x2.cmd.client : Int), .int .u32 (x2.cmd.seq : Int), .int .u8 (x2.cmd.kind : Int), .string ⟨x2.cmd.key.toArray⟩, .string ⟨x2.cmd.old.toArray⟩, .string ⟨x2.cmd.new.toArray⟩, .int .u8 (x2.cmd.set : Int), .bool (x2.waits)]) rfl (cell_loc _ _ _) rfl (fun w H => (inv_turn hxf hcf hinv w (H.get (i := 4) rfl)).mono fun _ _ h => turn_rd h)) fun _ _ => ?_
              refine SxL.val (v := .tuple #[.agg #[.int .u8 0, .int .u8 0, .int .u8 0, .int .u64 0, .int .u8 0, .int .u64 0, .int .u64 0, .int .u8 0, .string ⟨[].toArray⟩, .slice none 0 0, .slice none 0 0, .int .u8 0, .int .u32 0, .int .u8 0, .string ⟨[].toArray⟩, .string ⟨[].toArray⟩, .string ⟨[].toArray⟩, .int .u8 0, .int .u8 0, .string ⟨[].toArray⟩], .int .i64 2]) trivial rfl rfl (fun ρ w E H => ex_move E rfl rfl) ?_
              refine SxL.val (v := .agg #[.int .u8 0, .int .u8 0, .int .u8 0, .int .u64 0, .int .u8 0, .int .u64 0, .int .u64 0, .int .u8 0, .string ⟨[].toArray⟩, .slice none 0 0, .slice none 0 0, .int .u8 0, .int .u32 0, .int .u8 0, .string ⟨[].toArray⟩, .string ⟨[].toArray⟩, .string ⟨[].toArray⟩, .int .u8 0, .int .u8 0, .string ⟨[].toArray⟩]) trivial rfl rfl (fun ρ w E H => ex_extract E rfl rfl rfl) ?_
              refine SxL.val (v := .int .i64 2) trivial rfl rfl (fun ρ w E H => ex_extract E rfl rfl rfl) ?_
              refine SxL.storeX (i := 1) [.int .u8 0, .int .u8 0, .int .u8 0, .int .u64 0, .int .u8 0, .int .u64 0, .int .u64 0, .int .u8 0, .string ⟨[].toArray⟩, .slice none 0 0, .slice none 0 0, .int .u8 0, .int .u32 0, .int .u8 0, .string ⟨[].toArray⟩, .string ⟨[].toArray⟩, .string ⟨[].toArray⟩, .int .u8 0, .int .u8 0, .string ⟨[].toArray⟩] trivial rfl rfl rfl rfl rfl sz_palaver_api_Letter rfl rfl rfl (putL_all _ _ rfl) ?_
              refine SxL.val (v := .int .i64 2) trivial rfl rfl (fun ρ w E H => ex_assign E rfl rfl) ?_
              refine SxL.nil ?_
              refine SxN.then_ ?_
              refine SxC.region ?_
              refine SxL.val (v := .agg #[.int .u8 (rid : Int), .int .i64 (rn : Int), .slice AV rL.length kV, .bool false, .int .u8 (rdst : Int)]) trivial rfl rfl (fun ρ w E H => ex_load (part := [.int .u8 (rid : Int), .int .i64 (rn : Int), .slice AV rL.length kV, .bool false, .int .u8 (rdst : Int)]) E (H.get (i := 5) rfl) rfl rfl Try.underlying32 rfl sz_palaver_palaverref27_Client rfl rfl) ?_
              refine SxL.val (v := .pointer (some ⟨g2, 1, none⟩)) trivial rfl rfl (fun ρ w E H => ex_field E rfl fa_palaver_palaverlaw27_Act_1 rfl rfl) ?_
              refine SxL.val (v := .agg #[.int .u8 (xa : Int), .int .u32 (xb : Int), .int .u8 (xk : Int), .string ⟨xs.toArray⟩, .string ⟨xt.toArray⟩, .string ⟨xu.toArray⟩, .int .u8 (xz : Int)]) trivial rfl rfl (fun ρ w E H => ex_load (part := [.int .u8 (xa : Int), .int .u32 (xb : Int), .int .u8 (xk : Int), .string ⟨xs.toArray⟩, .string ⟨xt.toArray⟩, .string ⟨xu.toArray⟩, .int .u8 (xz : Int)]) E (H.get (i := 2) rfl) rfl rfl Try.underlying36 rfl sz_palaver_api_Cmd rfl rfl) ?_
              refine SxL.callB (v := .tuple #[.agg #[.int .u8 (rid : Int), .int .i64 (rn : Int), .slice AV rL.length kV, .bool false, .int .u8 (rdst : Int)], .agg #[.int .u8 0, .int .u8 0, .int .u8 0, .int .u64 0, .int .u8 0, .int .u64 0, .int .u64 0, .int .u8 0, .string ⟨[].toArray⟩, .slice none 0 0, .slice none 0 0, .int .u8 0, .int .u32 0, .int .u8 0, .string ⟨[].toArray⟩, .string ⟨[].toArray⟩, .string ⟨[].toArray⟩, .int .u8 0, .int .u8 0, .string ⟨[].toArray⟩], .int .i64 2]) trivial rfl rfl (fun ρ w E => ex_call E en_palaver_palaverref27_Client_Invoke rfl rfl) (fun w H => rinv_2 rid rn rdst rL xa xb xk xz xs xt xu AV kV w hid hr9 (ownC_read (H.get (i := 3) rfl)) hmb) ?_
              refine SxL.val (v := .tuple #[.agg #[.int .u8 (rid : Int), .int .i64 (rn : Int), .slice AV rL.length kV, .bool false, .int .u8 (rdst : Int)], .agg #[.int .u8 0, .int .u8 0, .int .u8 0, .int .u64 0, .int .u8 0, .int .u64 0, .int .u64 0, .int .u8 0, .string ⟨[].toArray⟩, .slice none 0 0, .slice none 0 0, .int .u8 0, .int .u32 0, .int .u8 0, .string ⟨[].toArray⟩, .string ⟨[].toArray⟩, .string ⟨[].toArray⟩, .int .u8 0, .int .u8 0, .string ⟨[].toArray⟩], .int .i64 2]) trivial rfl rfl (fun ρ w E H => ex_move E rfl rfl) ?_
              refine SxL.val (v := .agg #[.int .u8 (rid : Int), .int .i64 (rn : Int), .slice AV rL.length kV, .bool false, .int .u8 (rdst : Int)]) trivial rfl rfl (fun ρ w E H => ex_extract E rfl rfl rfl) ?_
              refine SxL.val (v := .agg #[.int .u8 0, .int .u8 0, .int .u8 0, .int .u64 0, .int .u8 0, .int .u64 0, .int .u64 0, .int .u8 0, .string ⟨[].toArray⟩, .slice none 0 0, .slice none 0 0, .int .u8 0, .int .u32 0, .int .u8 0, .string ⟨[].toArray⟩, .string ⟨[].toArray⟩, .string ⟨[].toArray⟩, .int .u8 0, .int .u8 0, .string ⟨[].toArray⟩]) trivial rfl rfl (fun ρ w E H => ex_extract E rfl rfl rfl) ?_
              refine SxL.val (v := .int .i64 2) trivial rfl rfl (fun ρ w E H => ex_extract E rfl rfl rfl) ?_
              refine SxL.storeX (i := 5) [.int .u8 (rid : Int), .int .i64 (rn : Int), .slice AV rL.length kV, .bool false, .int .u8 (rdst : Int)] trivial rfl rfl rfl rfl rfl sz_palaver_palaverref27_Client rfl rfl rfl (putL_all _ _ rfl) ?_
              refine SxL.storeX (i := 0) [.int .u8 0, .int .u8 0, .int .u8 0, .int .u64 0, .int .u8 0, .int .u64 0, .int .u64 0, .int .u8 0, .string ⟨[].toArray⟩, .slice none 0 0, .slice none 0 0, .int .u8 0, .int .u32 0, .int .u8 0, .string ⟨[].toArray⟩, .string ⟨[].toArray⟩, .string ⟨[].toArray⟩, .int .u8 0, .int .u8 0, .string ⟨[].toArray⟩] trivial rfl rfl rfl rfl rfl sz_palaver_api_Letter rfl rfl rfl (putL_all _ _ rfl) ?_
              refine SxL.val (v := .int .i64 2) trivial rfl rfl (fun ρ w E H => ex_assign E rfl rfl) ?_
              refine SxL.nil ?_
              refine SxN.block ?_
              refine SxN.then_ ?_
              refine SxC.seq ?_
              have hwt : x2.waits = false := hi2.waits
              have hww : waitsC x2 = (cm0, false) := by unfold waitsC; rw [hwt, if_neg (by decide)]
              refine SxC.region ?_
              refine SxL.val (v := .pointer (some ⟨gc, 0, none⟩)) trivial rfl rfl (fun ρ w E H => ex_move E rfl rfl) ?_
              refine SxL.callB (v := .tuple #[.agg #[.int .u8 0, .int .u32 0, .int .u8 0, .string ⟨[].toArray⟩, .string ⟨[].toArray⟩, .string ⟨[].toArray⟩, .int .u8 0], .bool false]) trivial rfl rfl (fun ρ w E => ex_call E en_palaver_client_Client_Waits rfl rfl) (fun w H => waits_p hww w (H.get (i := 4) rfl)) ?_
              refine SxL.val (v := .tuple #[.agg #[.int .u8 0, .int .u32 0, .int .u8 0, .string ⟨[].toArray⟩, .string ⟨[].toArray⟩, .string ⟨[].toArray⟩, .int .u8 0], .bool false]) trivial rfl rfl (fun ρ w E H => ex_move E rfl rfl) ?_
              refine SxL.val (v := .agg #[.int .u8 0, .int .u32 0, .int .u8 0, .string ⟨[].toArray⟩, .string ⟨[].toArray⟩, .string ⟨[].toArray⟩, .int .u8 0]) trivial rfl rfl (fun ρ w E H => ex_extract E rfl rfl rfl) ?_
              refine SxL.val (v := .bool false) trivial rfl rfl (fun ρ w E H => ex_extract E rfl rfl rfl) ?_
              refine SxL.new (cs := [.int .u8 0, .int .u32 0, .int .u8 0, .string ⟨[].toArray⟩, .string ⟨[].toArray⟩, .string ⟨[].toArray⟩, .int .u8 0]) trivial rfl rfl (fun ρ w E H => ex_alloc rfl zr_palaver_api_Cmd rfl) fun g13 hg13 => ?_
              refine SxL.storeX (i := 0) [.int .u8 0, .int .u32 0, .int .u8 0, .string ⟨[].toArray⟩, .string ⟨[].toArray⟩, .string ⟨[].toArray⟩, .int .u8 0] trivial rfl rfl rfl rfl rfl sz_palaver_api_Cmd rfl rfl rfl (putL_all _ _ rfl) ?_
              refine SxL.val (v := .bool false) trivial rfl rfl (fun ρ w E H => ex_assign E rfl rfl) ?_
              refine SxL.nil ?_
              refine SxN.then_ ?_
              refine SxC.seq ?_
              refine SxC.drawnK [] [0, 1, 2, 3, 4, 5, 6] (by kernel_rfl) rfl ⟨(fun g hg => by rw [List.mem_singleton.1 hg]; exact .inr hg13), (fun g hg => by rw [List.mem_singleton.1 hg]; exact .inr hg4), (fun g hg => by rw [List.mem_singleton.1 hg]; exact .inr hg3), (fun g hg => by rw [List.mem_singleton.1 hg]; exact .inr hg2), (fun g hg => .inr (hV.fresh g hg)), (fun g hg => by rw [List.mem_singleton.1 hg]; exact .inr hgc), (fun g hg => by rw [List.mem_singleton.1 hg]; exact .inr hg1), trivial⟩ ?_
              refine SxA.take (i := 0) (v := .int .i64 2) rfl (by kernel_rfl) (by kernel_rfl) (by kernel_rfl) rfl rfl (fun _ _ _ h => h) trivial (fun ρ w E H => ex_move E rfl rfl) ?_
              refine SxA.take (i := 1) (v := .int .i64 2) rfl (by kernel_rfl) (by kernel_rfl) (by kernel_rfl) rfl rfl (fun _ _ _ h => h) trivial (fun ρ w E H => ex_move E rfl rfl) ?_
              refine SxA.take (i := 2) (v := .bool false) rfl (by kernel_rfl) (by kernel_rfl) (by kernel_rfl) rfl rfl (fun _ _ _ h => h) trivial (fun ρ w E H => ex_cmp E rfl rfl rfl rfl (by decide)) ?_
              refine SxA.take (i := 3) (v := .bool false) rfl (by kernel_rfl) (by kernel_rfl) (by kernel_rfl) rfl rfl (fun _ _ _ h => h) trivial (fun ρ w E H => ex_move E rfl rfl) ?_
              refine SxA.take (i := 4) (v := .agg #[.int .u8 0, .int .u8 0, .int .u8 0, .int .u64 0, .int .u8 0, .int .u64 0, .int .u64 0, .int .u8 0, .string ⟨[].toArray⟩, .slice none 0 0, .slice none 0 0, .int .u8 0, .int .u32 0, .int .u8 0, .string ⟨[].toArray⟩, .string ⟨[].toArray⟩, .string ⟨[].toArray⟩, .int .u8 0, .int .u8 0, .string ⟨[].toArray⟩]) rfl (by kernel_rfl) (by kernel_rfl) (by kernel_rfl) rfl rfl (fun _ _ _ h => h) ⟨_, _, rfl, rfl, rfl⟩ (fun ρ w E H => ex_load (part := [.int .u8 0, .int .u8 0, .int .u8 0, .int .u64 0, .int .u8 0, .int .u64 0, .int .u64 0, .int .u8 0, .string ⟨[].toArray⟩, .slice none 0 0, .slice none 0 0, .int .u8 0, .int .u32 0, .int .u8 0, .string ⟨[].toArray⟩, .string ⟨[].toArray⟩, .string ⟨[].toArray⟩, .int .u8 0, .int .u8 0, .string ⟨[].toArray⟩]) E (H.get (i := 2) rfl) rfl rfl Try.underlying47 rfl sz_palaver_api_Letter rfl rfl) ?_
              refine SxA.take (i := 5) (v := .agg #[.int .u8 0, .int .u8 0, .int .u8 0, .int .u64 0, .int .u8 0, .int .u64 0, .int .u64 0, .int .u8 0, .string ⟨[].toArray⟩, .slice none 0 0, .slice none 0 0, .int .u8 0, .int .u32 0, .int .u8 0, .string ⟨[].toArray⟩, .string ⟨[].toArray⟩, .string ⟨[].toArray⟩, .int .u8 0, .int .u8 0, .string ⟨[].toArray⟩]) rfl (by kernel_rfl) (by kernel_rfl) (by kernel_rfl) rfl rfl (fun _ _ _ h => h) ⟨_, _, rfl, rfl, rfl⟩ (fun ρ w E H => ex_load (part := [.int .u8 0, .int .u8 0, .int .u8 0, .int .u64 0, .int .u8 0, .int .u64 0, .int .u64 0, .int .u8 0, .string ⟨[].toArray⟩, .slice none 0 0, .slice none 0 0, .int .u8 0, .int .u32 0, .int .u8 0, .string ⟨[].toArray⟩, .string ⟨[].toArray⟩, .string ⟨[].toArray⟩, .int .u8 0, .int .u8 0, .string ⟨[].toArray⟩]) E (H.get (i := 1) rfl) rfl rfl Try.underlying47 rfl sz_palaver_api_Letter rfl rfl) ?_
              refine SxA.ready [6] (by kernel_rfl) (by simp) ⟨?_, trivial⟩
              refine SxO.callB (v := .bool true) rfl ⟨_, _, rfl, rfl, rfl⟩ rfl rfl (fun ρ w E => ex_call E en_palaver_palaverlaw27_same rfl rfl) (fun w H => lsame_any 0 0 0 0 0 0 0 0 0 0 0 0 0 [] [] [] [] [] w) (fun w H => H.ks [] [0, 1, 2, 3, 4, 5, 6] rfl ⟨(fun g hg => by rw [List.mem_singleton.1 hg]; exact .inr hg13), (fun g hg => by rw [List.mem_singleton.1 hg]; exact .inr hg4), (fun g hg => by rw [List.mem_singleton.1 hg]; exact .inr hg3), (fun g hg => by rw [List.mem_singleton.1 hg]; exact .inr hg2), (fun g hg => .inr (hV.fresh g hg)), (fun g hg => by rw [List.mem_singleton.1 hg]; exact .inr hgc), (fun g hg => by rw [List.mem_singleton.1 hg]; exact .inr hg1), trivial⟩) ?_
              refine SxA.take (i := 7) (v := .bool false) rfl (by kernel_rfl) (by kernel_rfl) (by kernel_rfl) rfl rfl (fun _ _ _ h => h) ⟨_, _, rfl, rfl, rfl⟩ (fun ρ w E H => ex_not (t := true) E rfl rfl) ?_
              refine SxA.take (i := 8) (v := .bool false) rfl (by kernel_rfl) (by kernel_rfl) (by kernel_rfl) rfl rfl (fun _ _ _ h => h) trivial (fun ρ w E H => ex_pick E rfl (t := false) rfl rfl) ?_
              refine SxA.take (i := 9) (v := .bool false) rfl (by kernel_rfl) (by kernel_rfl) (by kernel_rfl) rfl rfl (fun _ _ _ h => h) trivial (fun ρ w E H => ex_move E rfl rfl) ?_
              refine SxA.take (i := 10) (v := .bool false) rfl (by kernel_rfl) (by kernel_rfl) (by kernel_rfl) rfl rfl (fun _ _ _ h => h) ⟨_, _, rfl, rfl, rfl⟩ (fun ρ w E H => ex_move E rfl rfl) ?_
              refine SxA.take (i := 11) (v := .pointer (some ⟨g1, 3, none⟩)) rfl (by kernel_rfl) (by kernel_rfl) (by kernel_rfl) rfl rfl (fun _ _ _ h => h) ⟨_, _, rfl, rfl, rfl⟩ (fun ρ w E H => ex_field E rfl fa_palaver_palaverref27_Client_3 rfl rfl) ?_
              refine SxA.take (i := 12) (v := .bool false) rfl (by kernel_rfl) (by kernel_rfl) (by kernel_rfl) rfl rfl (fun _ _ _ h => h) ⟨_, _, rfl, rfl, rfl⟩ (fun ρ w E H => ex_load1 E (H.get (i := 6) rfl) rfl rfl Try.underlying4 rfl rfl) ?_
              refine SxA.take (i := 13) (v := .bool false) rfl (by kernel_rfl) (by kernel_rfl) (by kernel_rfl) rfl rfl (fun _ _ _ h => h) ⟨_, _, rfl, rfl, rfl⟩ (fun ρ w E H => ex_bneq E rfl Try.underlying4 rfl rfl (by simp)) ?_
              refine SxA.take (i := 14) (v := .bool false) rfl (by kernel_rfl) (by kernel_rfl) (by kernel_rfl) rfl rfl (fun _ _ _ h => h) trivial (fun ρ w E H => ex_pick E rfl (t := false) rfl rfl) ?_
              refine SxA.take (i := 15) (v := .bool false) rfl (by kernel_rfl) (by kernel_rfl) (by kernel_rfl) rfl rfl (fun _ _ _ h => h) trivial (fun ρ w E H => ex_move E rfl rfl) ?_
              refine SxA.take (i := 16) (v := .bool false) rfl (by kernel_rfl) (by kernel_rfl) (by kernel_rfl) rfl rfl (fun _ _ _ h => h) ⟨_, _, rfl, rfl, rfl⟩ (fun ρ w E H => ex_move E rfl rfl) ?_
              refine SxA.take (i := 17) (v := .bool false) rfl (by kernel_rfl) (by kernel_rfl) (by kernel_rfl) rfl rfl (fun _ _ _ h => h) ⟨_, _, rfl, rfl, rfl⟩ (fun ρ w E H => ex_move E rfl rfl) ?_
              refine SxA.takeOff (i := 18) rfl (by kernel_rfl) (by kernel_rfl) (by kernel_rfl) rfl rfl (fun _ _ _ h => h) ⟨_, _, _, rfl, rfl, rfl, nofun⟩ ?_
              refine SxA.takeOff (i := 19) rfl (by kernel_rfl) (by kernel_rfl) (by kernel_rfl) rfl rfl (fun _ _ _ h => h) ⟨_, _, _, rfl, rfl, rfl, nofun⟩ ?_
              refine SxA.takeOff (i := 20) rfl (by kernel_rfl) (by kernel_rfl) (by kernel_rfl) rfl rfl (fun _ _ _ h => h) ⟨_, _, _, rfl, rfl, rfl, nofun⟩ ?_
              refine SxA.takeOff (i := 21) rfl (by kernel_rfl) (by kernel_rfl) (by kernel_rfl) rfl rfl (fun _ _ _ h => h) ⟨_, _, _, rfl, rfl, rfl, nofun⟩ ?_
              refine SxA.take (i := 22) (v := .bool false) rfl (by kernel_rfl) (by kernel_rfl) (by kernel_rfl) rfl rfl (fun _ _ _ h => h) ⟨_, _, rfl, rfl, rfl⟩ (fun ρ w E H => ex_pick E rfl (t := false) rfl rfl) ?_
              refine SxA.take (i := 23) (v := .bool false) rfl (by kernel_rfl) (by kernel_rfl) (by kernel_rfl) rfl rfl (fun _ _ _ h => h) trivial (fun ρ w E H => ex_pick E rfl (t := false) rfl rfl) ?_
              refine SxA.take (i := 24) (v := .bool false) rfl (by kernel_rfl) (by kernel_rfl) (by kernel_rfl) rfl rfl (fun _ _ _ h => h) trivial (fun ρ w E H => ex_move E rfl rfl) ?_
              refine SxA.take (i := 25) (v := .bool false) rfl (by kernel_rfl) (by kernel_rfl) (by kernel_rfl) rfl rfl (fun _ _ _ h => h) ⟨_, _, rfl, rfl, rfl⟩ (fun ρ w E H => ex_move E rfl rfl) ?_
              refine SxA.take (i := 26) (v := .bool true) rfl (by kernel_rfl) (by kernel_rfl) (by kernel_rfl) rfl rfl (fun _ _ _ h => h) ⟨_, _, rfl, rfl, rfl⟩ (fun ρ w E H => ex_not (t := false) E rfl rfl) ?_
              refine SxA.take (i := 27) (v := .bool true) rfl (by kernel_rfl) (by kernel_rfl) (by kernel_rfl) rfl rfl (fun _ _ _ h => h) ⟨_, _, rfl, rfl, rfl⟩ (fun ρ w E H => ex_move E rfl rfl) ?_
              refine SxA.take (i := 28) (v := .agg #[.int .u8 0, .int .u32 0, .int .u8 0, .string ⟨[].toArray⟩, .string ⟨[].toArray⟩, .string ⟨[].toArray⟩, .int .u8 0]) rfl (by kernel_rfl) (by kernel_rfl) (by kernel_rfl) rfl rfl (fun _ _ _ h => h) ⟨_, _, rfl, rfl, rfl⟩ (fun ρ w E H => ex_load (part := [.int .u8 0, .int .u32 0, .int .u8 0, .string ⟨[].toArray⟩, .string ⟨[].toArray⟩, .string ⟨[].toArray⟩, .int .u8 0]) E (H.get (i := 0) rfl) rfl rfl Try.underlying36 rfl sz_palaver_api_Cmd rfl rfl) ?_
              refine SxA.take (i := 29) (v := .agg #[.int .u8 0, .int .u32 0, .int .u8 0, .string ⟨[].toArray⟩, .string ⟨[].toArray⟩, .string ⟨[].toArray⟩, .int .u8 0]) rfl (by kernel_rfl) (by kernel_rfl) (by kernel_rfl) rfl rfl (fun _ _ _ h => h) ⟨_, _, rfl, rfl, rfl⟩ (fun ρ w E H => ex_build (cs := [.int .u8 0, .int .u32 0, .int .u8 0, .string ⟨[].toArray⟩, .string ⟨[].toArray⟩, .string ⟨[].toArray⟩, .int .u8 0]) E rfl rfl (by kernel_rfl)) ?_
              refine SxA.take (i := 30) (v := .bool false) rfl (by kernel_rfl) (by kernel_rfl) (by kernel_rfl) rfl rfl (fun _ _ _ h => h) ⟨_, _, rfl, rfl, rfl⟩ (fun ρ w E H => ex_aneq E rfl (by kernel_rfl) rfl rfl (fun w => by rw [Bool.not_false]; exact eq_cmm cm0 w)) ?_
              refine SxA.take (i := 31) (v := .bool false) rfl (by kernel_rfl) (by kernel_rfl) (by kernel_rfl) rfl rfl (fun _ _ _ h => h) ⟨_, _, rfl, rfl, rfl⟩ (fun ρ w E H => ex_pick E rfl (t := true) rfl rfl) ?_
              refine SxA.take (i := 32) (v := .bool false) rfl (by kernel_rfl) (by kernel_rfl) (by kernel_rfl) rfl rfl (fun _ _ _ h => h) trivial (fun ρ w E H => ex_pick E rfl (t := false) rfl rfl) ?_
              refine SxA.done (by kernel_rfl) ?_
              refine SxN.then_ ?_
              refine SxC.condF rfl ?_
              refine SxC.skip ?_
              refine SxN.block ?_
              refine SxN.then_ ?_
              refine SxC.region ?_
              refine SxL.val (v := .int .i64 (i : Int)) trivial rfl rfl (fun ρ w E H => ex_move E rfl rfl) ?_
              refine SxL.val (v := .int .i64 ((i + 1 : Nat) : Int)) trivial rfl rfl (fun ρ w E H => ex_add E rfl rfl rfl (by rw [IntKind.wrap_i64]; omega)) ?_
              refine SxL.val (v := .int .i64 ((i + 1 : Nat) : Int)) trivial rfl rfl (fun ρ w E H => ex_assign E rfl rfl) ?_
              refine SxL.nil ?_
              refine SxN.back (gk - 1) (i + 1, x2, (⟨rid, rn, rL, false, rdst⟩ : Rc), .slice AV rL.length kV) (by omega) ⟨by omega, hi2, hxf2, (by dsimp only; omega), hV⟩ ⟨rfl, rfl, rfl, rfl, trivial⟩ [4, 5, 6] rfl (by decide) ⟨.inr (fun g hg => by rw [List.mem_singleton.1 hg]; exact hg13), .inr (fun g hg => by rw [List.mem_singleton.1 hg]; exact hg4), .inr (fun g hg => by rw [List.mem_singleton.1 hg]; exact hg3), .inr (fun g hg => by rw [List.mem_singleton.1 hg]; exact hg2), .inl rfl, .inl rfl, .inl rfl, trivial⟩
            · have hI : invR (⟨rid, rn, rL, false, rdst⟩ : Rc) ⟨xa, xb, xk, xs, xt, xu, xz⟩ = ((⟨rid, rn, (rL ++ [(⟨rid, rL.length + 1, xk, xs, xt, xu, xz⟩ : Cm)]), true, rdst⟩ : Rc), askR (⟨rid, rn, (rL ++ [(⟨rid, rL.length + 1, xk, xs, xt, xu, xz⟩ : Cm)]), true, rdst⟩ : Rc), 0) := by
                unfold invR stampR; dsimp only; rw [hmb]
                rfl
              rw [ask_snoc] at hI
              rw [hI] at hir
              obtain ⟨hi1, hi2⟩ := hir
              have hinv : invokeC x ⟨xa, xb, xk, xs, xt, xu, xz⟩ = (x2, ⟨16 + rid, rdst, 1, 0, 0, 0, 0, 0, [], .slice none 0 0, .slice none 0 0, (⟨rid, rL.length + 1, xk, xs, xt, xu, xz⟩ : Cm), 0, []⟩, 0) := Prod.ext hx2 hi1
              refine SxC.region ?_
              refine SxL.val (v := .pointer (some ⟨gc, 0, none⟩)) trivial rfl rfl (fun ρ w E H => ex_move E rfl rfl) ?_
              refine SxL.val (v := .pointer (some ⟨g2, 1, none⟩)) trivial rfl rfl (fun ρ w E H => ex_field E rfl fa_palaver_palaverlaw27_Act_1 rfl rfl) ?_
              refine SxL.val (v := .agg #[.int .u8 (xa : Int), .int .u32 (xb : Int), .int .u8 (xk : Int), .string ⟨xs.toArray⟩, .string ⟨xt.toArray⟩, .string ⟨xu.toArray⟩, .int .u8 (xz : Int)]) trivial rfl rfl (fun ρ w E H => ex_load (part := [.int .u8 (xa : Int), .int .u32 (xb : Int), .int .u8 (xk : Int), .string ⟨xs.toArray⟩, .string ⟨xt.toArray⟩, .string ⟨xu.toArray⟩, .int .u8 (xz : Int)]) E (H.get (i := 2) rfl) rfl rfl Try.underlying36 rfl sz_palaver_api_Cmd rfl rfl) ?_
              refine SxL.call (σ := Unit) (fun _ => .tuple #[.agg #[.int .u8 ((16 + rid : Nat) : Int), .int .u8 (rdst : Int), .int .u8 1, .int .u64 0, .int .u8 0, .int .u64 0, .int .u64 0, .int .u8 0, .string ⟨[].toArray⟩, .slice none 0 0, .slice none 0 0, .int .u8 (rid : Int), .int .u32 ((rL.length + 1 : Nat) : Int), .int .u8 (xk : Int), .string ⟨xs.toArray⟩, .string ⟨xt.toArray⟩, .string ⟨xu.toArray⟩, .int .u8 (xz : Int), .int .u8 0, .string ⟨[].toArray⟩], .int .i64 0]) (fun _ => True) (fun _ => _) trivial rfl rfl (fun ρ w E => ex_call E en_palaver_client_Client_Invoke rfl rfl) (callTurn (i := 4) (cell gc 81 [.int .u8 (x2.id : Int), .int .i64 (x2.n : Int), .int .u8 (x2.node : Int), .int .u32 (x2.seq : Int), .int .u8 (x2.cmd.client : Int), .int .u32 (x2.cmd.seq : Int), .int .u8 (x2.cmd.kind : Int), .string ⟨x2.cmd.key.toArray⟩, .string ⟨x2.cmd.old.toArray⟩, .string ⟨x2.cmd.new.toArray⟩, .int .u8 (x2.cmd.set : Int), .bool (x2.waits)]) rfl (cell_loc _ _ _) rfl (fun w H => (inv_turn hxf hcf hinv w (H.get (i := 4) rfl)).mono fun _ _ h => turn_rd h)) fun _ _ => ?_
              refine SxL.val (v := .tuple #[.agg #[.int .u8 ((16 + rid : Nat) : Int), .int .u8 (rdst : Int), .int .u8 1, .int .u64 0, .int .u8 0, .int .u64 0, .int .u64 0, .int .u8 0, .string ⟨[].toArray⟩, .slice none 0 0, .slice none 0 0, .int .u8 (rid : Int), .int .u32 ((rL.length + 1 : Nat) : Int), .int .u8 (xk : Int), .string ⟨xs.toArray⟩, .string ⟨xt.toArray⟩, .string ⟨xu.toArray⟩, .int .u8 (xz : Int), .int .u8 0, .string ⟨[].toArray⟩], .int .i64 0]) trivial rfl rfl (fun ρ w E H => ex_move E rfl rfl) ?_
              refine SxL.val (v := .agg #[.int .u8 ((16 + rid : Nat) : Int), .int .u8 (rdst : Int), .int .u8 1, .int .u64 0, .int .u8 0, .int .u64 0, .int .u64 0, .int .u8 0, .string ⟨[].toArray⟩, .slice none 0 0, .slice none 0 0, .int .u8 (rid : Int), .int .u32 ((rL.length + 1 : Nat) : Int), .int .u8 (xk : Int), .string ⟨xs.toArray⟩, .string ⟨xt.toArray⟩, .string ⟨xu.toArray⟩, .int .u8 (xz : Int), .int .u8 0, .string ⟨[].toArray⟩]) trivial rfl rfl (fun ρ w E H => ex_extract E rfl rfl rfl) ?_
              refine SxL.val (v := .int .i64 0) trivial rfl rfl (fun ρ w E H => ex_extract E rfl rfl rfl) ?_
              refine SxL.storeX (i := 1) [.int .u8 ((16 + rid : Nat) : Int), .int .u8 (rdst : Int), .int .u8 1, .int .u64 0, .int .u8 0, .int .u64 0, .int .u64 0, .int .u8 0, .string ⟨[].toArray⟩, .slice none 0 0, .slice none 0 0, .int .u8 (rid : Int), .int .u32 ((rL.length + 1 : Nat) : Int), .int .u8 (xk : Int), .string ⟨xs.toArray⟩, .string ⟨xt.toArray⟩, .string ⟨xu.toArray⟩, .int .u8 (xz : Int), .int .u8 0, .string ⟨[].toArray⟩] trivial rfl rfl rfl rfl rfl sz_palaver_api_Letter rfl rfl rfl (putL_all _ _ rfl) ?_
              refine SxL.val (v := .int .i64 0) trivial rfl rfl (fun ρ w E H => ex_assign E rfl rfl) ?_
              refine SxL.nil ?_
              refine SxN.then_ ?_
              refine SxC.region ?_
              refine SxL.val (v := .agg #[.int .u8 (rid : Int), .int .i64 (rn : Int), .slice AV rL.length kV, .bool false, .int .u8 (rdst : Int)]) trivial rfl rfl (fun ρ w E H => ex_load (part := [.int .u8 (rid : Int), .int .i64 (rn : Int), .slice AV rL.length kV, .bool false, .int .u8 (rdst : Int)]) E (H.get (i := 5) rfl) rfl rfl Try.underlying32 rfl sz_palaver_palaverref27_Client rfl rfl) ?_
              refine SxL.val (v := .pointer (some ⟨g2, 1, none⟩)) trivial rfl rfl (fun ρ w E H => ex_field E rfl fa_palaver_palaverlaw27_Act_1 rfl rfl) ?_
              refine SxL.val (v := .agg #[.int .u8 (xa : Int), .int .u32 (xb : Int), .int .u8 (xk : Int), .string ⟨xs.toArray⟩, .string ⟨xt.toArray⟩, .string ⟨xu.toArray⟩, .int .u8 (xz : Int)]) trivial rfl rfl (fun ρ w E H => ex_load (part := [.int .u8 (xa : Int), .int .u32 (xb : Int), .int .u8 (xk : Int), .string ⟨xs.toArray⟩, .string ⟨xt.toArray⟩, .string ⟨xu.toArray⟩, .int .u8 (xz : Int)]) E (H.get (i := 2) rfl) rfl rfl Try.underlying36 rfl sz_palaver_api_Cmd rfl rfl) ?_
              refine SxL.call (σ := Value) (fun V => .tuple #[.agg #[.int .u8 (rid : Int), .int .i64 (rn : Int), V, .bool true, .int .u8 (rdst : Int)], .agg #[.int .u8 ((16 + rid : Nat) : Int), .int .u8 (rdst : Int), .int .u8 1, .int .u64 0, .int .u8 0, .int .u64 0, .int .u64 0, .int .u8 0, .string ⟨[].toArray⟩, .slice none 0 0, .slice none 0 0, .int .u8 (rid : Int), .int .u32 ((rL.length + 1 : Nat) : Int), .int .u8 (xk : Int), .string ⟨xs.toArray⟩, .string ⟨xt.toArray⟩, .string ⟨xu.toArray⟩, .int .u8 (xz : Int), .int .u8 0, .string ⟨[].toArray⟩], .int .i64 0]) (fun V => OwnIn w [] V) (fun V => _) trivial rfl rfl (fun ρ w E => ex_call E en_palaver_palaverref27_Client_Invoke rfl rfl) (callOwnC (fun V => .tuple #[.agg #[.int .u8 (rid : Int), .int .i64 (rn : Int), V, .bool true, .int .u8 (rdst : Int)], .agg #[.int .u8 ((16 + rid : Nat) : Int), .int .u8 (rdst : Int), .int .u8 1, .int .u64 0, .int .u8 0, .int .u64 0, .int .u64 0, .int .u8 0, .string ⟨[].toArray⟩, .slice none 0 0, .slice none 0 0, .int .u8 (rid : Int), .int .u32 ((rL.length + 1 : Nat) : Int), .int .u8 (xk : Int), .string ⟨xs.toArray⟩, .string ⟨xt.toArray⟩, .string ⟨xu.toArray⟩, .int .u8 (xz : Int), .int .u8 0, .string ⟨[].toArray⟩], .int .i64 0]) (fun w H => rinv_ok rid rn rdst rL xa xb xk xz xs xt xu AV kV w hid hr9 (ownC_read (H.get (i := 3) rfl)) hmb)) fun V2 hV2 => ?_
              refine SxL.with (fun W H => own_is_slice (H.get (i := 0) rfl)) ?_
              rintro ⟨A2, k2, rfl⟩
              refine SxL.val (v := .tuple #[.agg #[.int .u8 (rid : Int), .int .i64 (rn : Int), .slice A2 ((rL ++ [(⟨rid, rL.length + 1, xk, xs, xt, xu, xz⟩ : Cm)]).length) k2, .bool true, .int .u8 (rdst : Int)], .agg #[.int .u8 ((16 + rid : Nat) : Int), .int .u8 (rdst : Int), .int .u8 1, .int .u64 0, .int .u8 0, .int .u64 0, .int .u64 0, .int .u8 0, .string ⟨[].toArray⟩, .slice none 0 0, .slice none 0 0, .int .u8 (rid : Int), .int .u32 ((rL.length + 1 : Nat) : Int), .int .u8 (xk : Int), .string ⟨xs.toArray⟩, .string ⟨xt.toArray⟩, .string ⟨xu.toArray⟩, .int .u8 (xz : Int), .int .u8 0, .string ⟨[].toArray⟩], .int .i64 0]) trivial rfl rfl (fun ρ w E H => ex_move E rfl rfl) ?_
              refine SxL.val (v := .agg #[.int .u8 (rid : Int), .int .i64 (rn : Int), .slice A2 ((rL ++ [(⟨rid, rL.length + 1, xk, xs, xt, xu, xz⟩ : Cm)]).length) k2, .bool true, .int .u8 (rdst : Int)]) trivial rfl rfl (fun ρ w E H => ex_extract E rfl rfl rfl) ?_
              refine SxL.val (v := .agg #[.int .u8 ((16 + rid : Nat) : Int), .int .u8 (rdst : Int), .int .u8 1, .int .u64 0, .int .u8 0, .int .u64 0, .int .u64 0, .int .u8 0, .string ⟨[].toArray⟩, .slice none 0 0, .slice none 0 0, .int .u8 (rid : Int), .int .u32 ((rL.length + 1 : Nat) : Int), .int .u8 (xk : Int), .string ⟨xs.toArray⟩, .string ⟨xt.toArray⟩, .string ⟨xu.toArray⟩, .int .u8 (xz : Int), .int .u8 0, .string ⟨[].toArray⟩]) trivial rfl rfl (fun ρ w E H => ex_extract E rfl rfl rfl) ?_
              refine SxL.val (v := .int .i64 0) trivial rfl rfl (fun ρ w E H => ex_extract E rfl rfl rfl) ?_
              refine SxL.storeX (i := 6) [.int .u8 (rid : Int), .int .i64 (rn : Int), .slice A2 ((rL ++ [(⟨rid, rL.length + 1, xk, xs, xt, xu, xz⟩ : Cm)]).length) k2, .bool true, .int .u8 (rdst : Int)] trivial rfl rfl rfl rfl rfl sz_palaver_palaverref27_Client rfl rfl rfl (putL_all _ _ rfl) ?_
              refine SxL.storeX (i := 1) [.int .u8 ((16 + rid : Nat) : Int), .int .u8 (rdst : Int), .int .u8 1, .int .u64 0, .int .u8 0, .int .u64 0, .int .u64 0, .int .u8 0, .string ⟨[].toArray⟩, .slice none 0 0, .slice none 0 0, .int .u8 (rid : Int), .int .u32 ((rL.length + 1 : Nat) : Int), .int .u8 (xk : Int), .string ⟨xs.toArray⟩, .string ⟨xt.toArray⟩, .string ⟨xu.toArray⟩, .int .u8 (xz : Int), .int .u8 0, .string ⟨[].toArray⟩] trivial rfl rfl rfl rfl rfl sz_palaver_api_Letter rfl rfl rfl (putL_all _ _ rfl) ?_
              refine SxL.val (v := .int .i64 0) trivial rfl rfl (fun ρ w E H => ex_assign E rfl rfl) ?_
              refine SxL.nil ?_
              refine SxN.block ?_
              refine SxN.then_ ?_
              refine SxC.seq ?_
              have hwt : x2.waits = true := hi2.waits
              have hww : waitsC x2 = (⟨rid, (rL.length + 1 : Nat), xk, xs, xt, xu, xz⟩, true) := by unfold waitsC; rw [hwt, if_pos rfl, hi2.cmd hwt]; exact congrArg (fun c => (c, true)) (last_snoc _ _)
              refine SxC.region ?_
              refine SxL.val (v := .pointer (some ⟨gc, 0, none⟩)) trivial rfl rfl (fun ρ w E H => ex_move E rfl rfl) ?_
              refine SxL.callB (v := .tuple #[.agg #[.int .u8 (rid : Int), .int .u32 ((rL.length + 1 : Nat) : Int), .int .u8 (xk : Int), .string ⟨xs.toArray⟩, .string ⟨xt.toArray⟩, .string ⟨xu.toArray⟩, .int .u8 (xz : Int)], .bool true]) trivial rfl rfl (fun ρ w E => ex_call E en_palaver_client_Client_Waits rfl rfl) (fun w H => waits_p hww w (H.get (i := 5) rfl)) ?_
              refine SxL.val (v := .tuple #[.agg #[.int .u8 (rid : Int), .int .u32 ((rL.length + 1 : Nat) : Int), .int .u8 (xk : Int), .string ⟨xs.toArray⟩, .string ⟨xt.toArray⟩, .string ⟨xu.toArray⟩, .int .u8 (xz : Int)], .bool true]) trivial rfl rfl (fun ρ w E H => ex_move E rfl rfl) ?_
              refine SxL.val (v := .agg #[.int .u8 (rid : Int), .int .u32 ((rL.length + 1 : Nat) : Int), .int .u8 (xk : Int), .string ⟨xs.toArray⟩, .string ⟨xt.toArray⟩, .string ⟨xu.toArray⟩, .int .u8 (xz : Int)]) trivial rfl rfl (fun ρ w E H => ex_extract E rfl rfl rfl) ?_
              refine SxL.val (v := .bool true) trivial rfl rfl (fun ρ w E H => ex_extract E rfl rfl rfl) ?_
              refine SxL.new (cs := [.int .u8 0, .int .u32 0, .int .u8 0, .string ⟨[].toArray⟩, .string ⟨[].toArray⟩, .string ⟨[].toArray⟩, .int .u8 0]) trivial rfl rfl (fun ρ w E H => ex_alloc rfl zr_palaver_api_Cmd rfl) fun g14 hg14 => ?_
              refine SxL.storeX (i := 0) [.int .u8 (rid : Int), .int .u32 ((rL.length + 1 : Nat) : Int), .int .u8 (xk : Int), .string ⟨xs.toArray⟩, .string ⟨xt.toArray⟩, .string ⟨xu.toArray⟩, .int .u8 (xz : Int)] trivial rfl rfl rfl rfl rfl sz_palaver_api_Cmd rfl rfl rfl (putL_all _ _ rfl) ?_
              refine SxL.val (v := .bool true) trivial rfl rfl (fun ρ w E H => ex_assign E rfl rfl) ?_
              refine SxL.nil ?_
              refine SxN.then_ ?_
              refine SxC.seq ?_
              refine SxC.drawnK [] [0, 1, 2, 3, 4, 5, 6, 7] (by kernel_rfl) rfl ⟨(fun g hg => by rw [List.mem_singleton.1 hg]; exact .inr hg14), (fun g hg => .inr (hV2.fresh g hg)), (fun g hg => by rw [List.mem_singleton.1 hg]; exact .inr hg4), (fun g hg => by rw [List.mem_singleton.1 hg]; exact .inr hg3), (fun g hg => by rw [List.mem_singleton.1 hg]; exact .inr hg2), (fun g hg => .inr (hV.fresh g hg)), (fun g hg => by rw [List.mem_singleton.1 hg]; exact .inr hgc), (fun g hg => by rw [List.mem_singleton.1 hg]; exact .inr hg1), trivial⟩ ?_
              refine SxA.take (i := 0) (v := .int .i64 0) rfl (by kernel_rfl) (by kernel_rfl) (by kernel_rfl) rfl rfl (fun _ _ _ h => h) trivial (fun ρ w E H => ex_move E rfl rfl) ?_
              refine SxA.take (i := 1) (v := .int .i64 0) rfl (by kernel_rfl) (by kernel_rfl) (by kernel_rfl) rfl rfl (fun _ _ _ h => h) trivial (fun ρ w E H => ex_move E rfl rfl) ?_
              refine SxA.take (i := 2) (v := .bool false) rfl (by kernel_rfl) (by kernel_rfl) (by kernel_rfl) rfl rfl (fun _ _ _ h => h) trivial (fun ρ w E H => ex_cmp E rfl rfl rfl rfl (by decide)) ?_
              refine SxA.take (i := 3) (v := .bool false) rfl (by kernel_rfl) (by kernel_rfl) (by kernel_rfl) rfl rfl (fun _ _ _ h => h) trivial (fun ρ w E H => ex_move E rfl rfl) ?_
              refine SxA.take (i := 4) (v := .agg #[.int .u8 ((16 + rid : Nat) : Int), .int .u8 (rdst : Int), .int .u8 1, .int .u64 0, .int .u8 0, .int .u64 0, .int .u64 0, .int .u8 0, .string ⟨[].toArray⟩, .slice none 0 0, .slice none 0 0, .int .u8 (rid : Int), .int .u32 ((rL.length + 1 : Nat) : Int), .int .u8 (xk : Int), .string ⟨xs.toArray⟩, .string ⟨xt.toArray⟩, .string ⟨xu.toArray⟩, .int .u8 (xz : Int), .int .u8 0, .string ⟨[].toArray⟩]) rfl (by kernel_rfl) (by kernel_rfl) (by kernel_rfl) rfl rfl (fun _ _ _ h => h) ⟨_, _, rfl, rfl, rfl⟩ (fun ρ w E H => ex_load (part := [.int .u8 ((16 + rid : Nat) : Int), .int .u8 (rdst : Int), .int .u8 1, .int .u64 0, .int .u8 0, .int .u64 0, .int .u64 0, .int .u8 0, .string ⟨[].toArray⟩, .slice none 0 0, .slice none 0 0, .int .u8 (rid : Int), .int .u32 ((rL.length + 1 : Nat) : Int), .int .u8 (xk : Int), .string ⟨xs.toArray⟩, .string ⟨xt.toArray⟩, .string ⟨xu.toArray⟩, .int .u8 (xz : Int), .int .u8 0, .string ⟨[].toArray⟩]) E (H.get (i := 3) rfl) rfl rfl Try.underlying47 rfl sz_palaver_api_Letter rfl rfl) ?_
              refine SxA.take (i := 5) (v := .agg #[.int .u8 ((16 + rid : Nat) : Int), .int .u8 (rdst : Int), .int .u8 1, .int .u64 0, .int .u8 0, .int .u64 0, .int .u64 0, .int .u8 0, .string ⟨[].toArray⟩, .slice none 0 0, .slice none 0 0, .int .u8 (rid : Int), .int .u32 ((rL.length + 1 : Nat) : Int), .int .u8 (xk : Int), .string ⟨xs.toArray⟩, .string ⟨xt.toArray⟩, .string ⟨xu.toArray⟩, .int .u8 (xz : Int), .int .u8 0, .string ⟨[].toArray⟩]) rfl (by kernel_rfl) (by kernel_rfl) (by kernel_rfl) rfl rfl (fun _ _ _ h => h) ⟨_, _, rfl, rfl, rfl⟩ (fun ρ w E H => ex_load (part := [.int .u8 ((16 + rid : Nat) : Int), .int .u8 (rdst : Int), .int .u8 1, .int .u64 0, .int .u8 0, .int .u64 0, .int .u64 0, .int .u8 0, .string ⟨[].toArray⟩, .slice none 0 0, .slice none 0 0, .int .u8 (rid : Int), .int .u32 ((rL.length + 1 : Nat) : Int), .int .u8 (xk : Int), .string ⟨xs.toArray⟩, .string ⟨xt.toArray⟩, .string ⟨xu.toArray⟩, .int .u8 (xz : Int), .int .u8 0, .string ⟨[].toArray⟩]) E (H.get (i := 2) rfl) rfl rfl Try.underlying47 rfl sz_palaver_api_Letter rfl rfl) ?_
              refine SxA.ready [6] (by kernel_rfl) (by simp) ⟨?_, trivial⟩
              refine SxO.callB (v := .bool true) rfl ⟨_, _, rfl, rfl, rfl⟩ rfl rfl (fun ρ w E => ex_call E en_palaver_palaverlaw27_same rfl rfl) (fun w H => lsame_any (16 + rid : Nat) rdst 1 0 0 0 0 0 rid (rL.length + 1 : Nat) xk xz 0 [] xs xt xu [] w) (fun w H => H.ks [] [0, 1, 2, 3, 4, 5, 6, 7] rfl ⟨(fun g hg => by rw [List.mem_singleton.1 hg]; exact .inr hg14), (fun g hg => .inr (hV2.fresh g hg)), (fun g hg => by rw [List.mem_singleton.1 hg]; exact .inr hg4), (fun g hg => by rw [List.mem_singleton.1 hg]; exact .inr hg3), (fun g hg => by rw [List.mem_singleton.1 hg]; exact .inr hg2), (fun g hg => .inr (hV.fresh g hg)), (fun g hg => by rw [List.mem_singleton.1 hg]; exact .inr hgc), (fun g hg => by rw [List.mem_singleton.1 hg]; exact .inr hg1), trivial⟩) ?_
              refine SxA.take (i := 7) (v := .bool false) rfl (by kernel_rfl) (by kernel_rfl) (by kernel_rfl) rfl rfl (fun _ _ _ h => h) ⟨_, _, rfl, rfl, rfl⟩ (fun ρ w E H => ex_not (t := true) E rfl rfl) ?_
              refine SxA.take (i := 8) (v := .bool false) rfl (by kernel_rfl) (by kernel_rfl) (by kernel_rfl) rfl rfl (fun _ _ _ h => h) trivial (fun ρ w E H => ex_pick E rfl (t := false) rfl rfl) ?_
              refine SxA.take (i := 9) (v := .bool false) rfl (by kernel_rfl) (by kernel_rfl) (by kernel_rfl) rfl rfl (fun _ _ _ h => h) trivial (fun ρ w E H => ex_move E rfl rfl) ?_
              refine SxA.take (i := 10) (v := .bool true) rfl (by kernel_rfl) (by kernel_rfl) (by kernel_rfl) rfl rfl (fun _ _ _ h => h) ⟨_, _, rfl, rfl, rfl⟩ (fun ρ w E H => ex_move E rfl rfl) ?_
              refine SxA.take (i := 11) (v := .pointer (some ⟨g1, 3, none⟩)) rfl (by kernel_rfl) (by kernel_rfl) (by kernel_rfl) rfl rfl (fun _ _ _ h => h) ⟨_, _, rfl, rfl, rfl⟩ (fun ρ w E H => ex_field E rfl fa_palaver_palaverref27_Client_3 rfl rfl) ?_
              refine SxA.take (i := 12) (v := .bool true) rfl (by kernel_rfl) (by kernel_rfl) (by kernel_rfl) rfl rfl (fun _ _ _ h => h) ⟨_, _, rfl, rfl, rfl⟩ (fun ρ w E H => ex_load1 E (H.get (i := 7) rfl) rfl rfl Try.underlying4 rfl rfl) ?_
              refine SxA.take (i := 13) (v := .bool false) rfl (by kernel_rfl) (by kernel_rfl) (by kernel_rfl) rfl rfl (fun _ _ _ h => h) ⟨_, _, rfl, rfl, rfl⟩ (fun ρ w E H => ex_bneq E rfl Try.underlying4 rfl rfl (by simp)) ?_
              refine SxA.take (i := 14) (v := .bool false) rfl (by kernel_rfl) (by kernel_rfl) (by kernel_rfl) rfl rfl (fun _ _ _ h => h) trivial (fun ρ w E H => ex_pick E rfl (t := false) rfl rfl) ?_
              refine SxA.take (i := 15) (v := .bool false) rfl (by kernel_rfl) (by kernel_rfl) (by kernel_rfl) rfl rfl (fun _ _ _ h => h) trivial (fun ρ w E H => ex_move E rfl rfl) ?_
              refine SxA.take (i := 16) (v := .bool true) rfl (by kernel_rfl) (by kernel_rfl) (by kernel_rfl) rfl rfl (fun _ _ _ h => h) ⟨_, _, rfl, rfl, rfl⟩ (fun ρ w E H => ex_move E rfl rfl) ?_
              refine SxA.take (i := 17) (v := .bool true) rfl (by kernel_rfl) (by kernel_rfl) (by kernel_rfl) rfl rfl (fun _ _ _ h => h) ⟨_, _, rfl, rfl, rfl⟩ (fun ρ w E H => ex_move E rfl rfl) ?_
              refine SxA.take (i := 18) (v := .agg #[.int .u8 (rid : Int), .int .u32 ((rL.length + 1 : Nat) : Int), .int .u8 (xk : Int), .string ⟨xs.toArray⟩, .string ⟨xt.toArray⟩, .string ⟨xu.toArray⟩, .int .u8 (xz : Int)]) rfl (by kernel_rfl) (by kernel_rfl) (by kernel_rfl) rfl rfl (fun _ _ _ h => h) ⟨_, _, rfl, rfl, rfl⟩ (fun ρ w E H => ex_load (part := [.int .u8 (rid : Int), .int .u32 ((rL.length + 1 : Nat) : Int), .int .u8 (xk : Int), .string ⟨xs.toArray⟩, .string ⟨xt.toArray⟩, .string ⟨xu.toArray⟩, .int .u8 (xz : Int)]) E (H.get (i := 0) rfl) rfl rfl Try.underlying36 rfl sz_palaver_api_Cmd rfl rfl) ?_
              refine SxA.take (i := 19) (v := .agg #[.int .u8 (rid : Int), .int .i64 (rn : Int), .slice A2 ((rL ++ [(⟨rid, rL.length + 1, xk, xs, xt, xu, xz⟩ : Cm)]).length) k2, .bool true, .int .u8 (rdst : Int)]) rfl (by kernel_rfl) (by kernel_rfl) (by kernel_rfl) rfl rfl (fun _ _ _ h => h) ⟨_, _, rfl, rfl, rfl⟩ (fun ρ w E H => ex_load (part := [.int .u8 (rid : Int), .int .i64 (rn : Int), .slice A2 ((rL ++ [(⟨rid, rL.length + 1, xk, xs, xt, xu, xz⟩ : Cm)]).length) k2, .bool true, .int .u8 (rdst : Int)]) E (H.get (i := 7) rfl) rfl rfl Try.underlying32 rfl sz_palaver_palaverref27_Client rfl rfl) ?_
              refine SxA.ready [20] (by kernel_rfl) (by simp) ⟨?_, trivial⟩
              refine SxO.callB (v := .agg #[.int .u8 (rid : Int), .int .u32 ((rL.length + 1 : Nat) : Int), .int .u8 (xk : Int), .string ⟨xs.toArray⟩, .string ⟨xt.toArray⟩, .string ⟨xu.toArray⟩, .int .u8 (xz : Int)]) rfl ⟨_, _, rfl, rfl, rfl⟩ rfl rfl (fun ρ w E => ex_call E en_palaver_palaverref27_Client_Last rfl rfl) (fun w H => (rlast_any (⟨rid, rn, (rL ++ [(⟨rid, rL.length + 1, xk, xs, xt, xu, xz⟩ : Cm)]), true, rdst⟩ : Rc) ((rL ++ [(⟨rid, rL.length + 1, xk, xs, xt, xu, xz⟩ : Cm)]).length) rfl (by (try dsimp only); (try rw [List.length_append, List.length_singleton]); omega) A2 k2 w (ownC_read (H.get (i := 1) rfl))).mono fun _ _ h => ⟨by rw [h.1]; exact congrArg (fun c => Ending.returned (cmV c)) (last_snoc _ _), h.2⟩) (fun w H => H.ks [] [0, 1, 2, 3, 4, 5, 6, 7] rfl ⟨(fun g hg => by rw [List.mem_singleton.1 hg]; exact .inr hg14), (fun g hg => .inr (hV2.fresh g hg)), (fun g hg => by rw [List.mem_singleton.1 hg]; exact .inr hg4), (fun g hg => by rw [List.mem_singleton.1 hg]; exact .inr hg3), (fun g hg => by rw [List.mem_singleton.1 hg]; exact .inr hg2), (fun g hg => .inr (hV.fresh g hg)), (fun g hg => by rw [List.mem_singleton.1 hg]; exact .inr hgc), (fun g hg => by rw [List.mem_singleton.1 hg]; exact .inr hg1), trivial⟩) ?_
              refine SxA.take (i := 21) (v := .bool false) rfl (by kernel_rfl) (by kernel_rfl) (by kernel_rfl) rfl rfl (fun _ _ _ h => h) ⟨_, _, rfl, rfl, rfl⟩ (fun ρ w E H => ex_aneq E rfl (by kernel_rfl) rfl rfl (fun w => by rw [Bool.not_false]; exact eq_cmm (⟨rid, (rL.length + 1 : Nat), xk, xs, xt, xu, xz⟩ : Cm) w)) ?_
              refine SxA.take (i := 22) (v := .bool false) rfl (by kernel_rfl) (by kernel_rfl) (by kernel_rfl) rfl rfl (fun _ _ _ h => h) ⟨_, _, rfl, rfl, rfl⟩ (fun ρ w E H => ex_pick E rfl (t := true) rfl rfl) ?_
              refine SxA.take (i := 23) (v := .bool false) rfl (by kernel_rfl) (by kernel_rfl) (by kernel_rfl) rfl rfl (fun _ _ _ h => h) trivial (fun ρ w E H => ex_pick E rfl (t := false) rfl rfl) ?_
              refine SxA.take (i := 24) (v := .bool false) rfl (by kernel_rfl) (by kernel_rfl) (by kernel_rfl) rfl rfl (fun _ _ _ h => h) trivial (fun ρ w E H => ex_move E rfl rfl) ?_
              refine SxA.take (i := 25) (v := .bool true) rfl (by kernel_rfl) (by kernel_rfl) (by kernel_rfl) rfl rfl (fun _ _ _ h => h) ⟨_, _, rfl, rfl, rfl⟩ (fun ρ w E H => ex_move E rfl rfl) ?_
              refine SxA.take (i := 26) (v := .bool false) rfl (by kernel_rfl) (by kernel_rfl) (by kernel_rfl) rfl rfl (fun _ _ _ h => h) ⟨_, _, rfl, rfl, rfl⟩ (fun ρ w E H => ex_not (t := true) E rfl rfl) ?_
              refine SxA.take (i := 27) (v := .bool false) rfl (by kernel_rfl) (by kernel_rfl) (by kernel_rfl) rfl rfl (fun _ _ _ h => h) ⟨_, _, rfl, rfl, rfl⟩ (fun ρ w E H => ex_move E rfl rfl) ?_
              refine SxA.takeOff (i := 28) rfl (by kernel_rfl) (by kernel_rfl) (by kernel_rfl) rfl rfl (fun _ _ _ h => h) ⟨_, _, _, rfl, rfl, rfl, nofun⟩ ?_
              refine SxA.takeOff (i := 29) rfl (by kernel_rfl) (by kernel_rfl) (by kernel_rfl) rfl rfl (fun _ _ _ h => h) ⟨_, _, _, rfl, rfl, rfl, nofun⟩ ?_
              refine SxA.takeOff (i := 30) rfl (by kernel_rfl) (by kernel_rfl) (by kernel_rfl) rfl rfl (fun _ _ _ h => h) ⟨_, _, _, rfl, rfl, rfl, nofun⟩ ?_
              refine SxA.take (i := 31) (v := .bool false) rfl (by kernel_rfl) (by kernel_rfl) (by kernel_rfl) rfl rfl (fun _ _ _ h => h) ⟨_, _, rfl, rfl, rfl⟩ (fun ρ w E H => ex_pick E rfl (t := false) rfl rfl) ?_
              refine SxA.take (i := 32) (v := .bool false) rfl (by kernel_rfl) (by kernel_rfl) (by kernel_rfl) rfl rfl (fun _ _ _ h => h) trivial (fun ρ w E H => ex_pick E rfl (t := false) rfl rfl) ?_
              refine SxA.done (by kernel_rfl) ?_
              refine SxN.then_ ?_
              refine SxC.condF rfl ?_
              refine SxC.skip ?_
              refine SxN.block ?_
              refine SxN.then_ ?_
              refine SxC.region ?_
              refine SxL.val (v := .int .i64 (i : Int)) trivial rfl rfl (fun ρ w E H => ex_move E rfl rfl) ?_
              refine SxL.val (v := .int .i64 ((i + 1 : Nat) : Int)) trivial rfl rfl (fun ρ w E H => ex_add E rfl rfl rfl (by rw [IntKind.wrap_i64]; omega)) ?_
              refine SxL.val (v := .int .i64 ((i + 1 : Nat) : Int)) trivial rfl rfl (fun ρ w E H => ex_assign E rfl rfl) ?_
              refine SxL.nil ?_
              refine SxN.back (gk - 1) (i + 1, x2, (⟨rid, rn, (rL ++ [(⟨rid, rL.length + 1, xk, xs, xt, xu, xz⟩ : Cm)]), true, rdst⟩ : Rc), (.slice A2 ((rL ++ [(⟨rid, rL.length + 1, xk, xs, xt, xu, xz⟩ : Cm)]).length) k2)) (by omega) ⟨by omega, hi2, hxf2, (by dsimp only; rw [List.length_append, List.length_singleton]; omega), hV2⟩ ⟨rfl, rfl, rfl, rfl, trivial⟩ [1, 6, 7] rfl (by decide) ⟨.inr (fun g hg => by rw [List.mem_singleton.1 hg]; exact hg14), .inl rfl, .inr (fun g hg => by rw [List.mem_singleton.1 hg]; exact hg4), .inr (fun g hg => by rw [List.mem_singleton.1 hg]; exact hg3), .inr (fun g hg => by rw [List.mem_singleton.1 hg]; exact hg2), .inr (hV.fresh), .inl rfl, .inl rfl, trivial⟩
        · refine SxC.region ?_
          refine SxL.val (v := .pointer (some ⟨g2, 0, none⟩)) trivial rfl rfl (fun ρ w E H => ex_field E rfl fa_palaver_palaverlaw27_Act_0 rfl rfl) ?_
          refine SxL.val (v := .int .u8 (d : Int)) trivial rfl rfl (fun ρ w E H => ex_load1 E (H.get (i := 2) rfl) rfl rfl Try.underlying5 rfl rfl) ?_
          refine SxL.nil ?_
          refine SxN.then_ ?_
          refine SxC.block ?_
          refine SxC.seq ?_
          refine SxC.region ?_
          refine SxL.valB trivial rfl rfl (fun ρ w E H => ex_cmp E rfl rfl rfl rfl rfl) fun c106 hc106 => ?_
          refine SxL.val (v := .bool c106) trivial rfl rfl (fun ρ w E H => ex_assign E rfl rfl) ?_
          refine SxL.nil ?_
          refine SxN.then_ ?_
          cases c106
          · refine SxC.condF rfl ?_
            refine SxC.seq ?_
            refine SxC.region ?_
            refine SxL.valB trivial rfl rfl (fun ρ w E H => ex_cmp E rfl rfl rfl rfl rfl) fun c123 hc123 => ?_
            refine SxL.val (v := .bool c123) trivial rfl rfl (fun ρ w E H => ex_assign E rfl rfl) ?_
            refine SxL.nil ?_
            refine SxN.then_ ?_
            cases c123
            · refine SxC.condF rfl ?_
              refine SxC.seq ?_
              have hhr := hear_rel hrel (⟨ls, ld, lk, lbn, lbr, lba, lsl, lno, lv, .slice vA vn vc, .slice iA in_ ic, ⟨lca, lcb, lck, lcs, lct, lcu, lcz⟩, lco, lte⟩ : Lt)
              have hxf2 := hear_fits (l := (⟨ls, ld, lk, lbn, lbr, lba, lsl, lno, lv, .slice vA vn vc, .slice iA in_ ic, ⟨lca, lcb, lck, lcs, lct, lcu, lcz⟩, lco, lte⟩ : Lt)) hxf
              obtain ⟨x2, hx2⟩ : ∃ y, (hearC x (⟨ls, ld, lk, lbn, lbr, lba, lsl, lno, lv, .slice vA vn vc, .slice iA in_ ic, ⟨lca, lcb, lck, lcs, lct, lcu, lcz⟩, lco, lte⟩ : Lt)).1 = y := ⟨_, rfl⟩
              rw [hx2] at hhr hxf2
              have hsh := hear_shape (⟨rid, rn, rL, true, rdst⟩ : Rc) (⟨ls, ld, lk, lbn, lbr, lba, lsl, lno, lv, .slice vA vn vc, .slice iA in_ ic, ⟨lca, lcb, lck, lcs, lct, lcu, lcz⟩, lco, lte⟩ : Lt)
              obtain ⟨⟨⟨hI, hN, hL, hw, hd⟩, ⟨ts, td, tk, tbn, tbr, tba, tsl, tno, tv, tvo, tit, ⟨tca, tcb, tck, tcs, tct, tcu, tcz⟩, tco, tte⟩, is2, ⟨c2, t2⟩, tk2⟩, hh⟩ : ∃ t, hearR (⟨rid, rn, rL, true, rdst⟩ : Rc) (⟨ls, ld, lk, lbn, lbr, lba, lsl, lno, lv, .slice vA vn vc, .slice iA in_ ic, ⟨lca, lcb, lck, lcs, lct, lcu, lcz⟩, lco, lte⟩ : Lt) = t := ⟨_, rfl⟩
              rw [hh] at hhr hsh
              dsimp only at hhr hsh
              obtain ⟨e1, e2, e3⟩ := hsh
              subst e2 e3
              subst hL
              obtain ⟨hi1, hi2⟩ := hhr
              have hhc : hearC x (⟨ls, ld, lk, lbn, lbr, lba, lsl, lno, lv, .slice vA vn vc, .slice iA in_ ic, ⟨lca, lcb, lck, lcs, lct, lcu, lcz⟩, lco, lte⟩ : Lt) = (x2, ⟨ts, td, tk, tbn, tbr, tba, tsl, tno, tv, .slice none 0 0, .slice none 0 0, ⟨tca, tcb, tck, tcs, tct, tcu, tcz⟩, tco, tte⟩, is2, (c2, t2), tk2) := Prod.ext hx2 hi1
              refine SxC.region ?_
              refine SxL.val (v := .pointer (some ⟨gc, 0, none⟩)) trivial rfl rfl (fun ρ w E H => ex_move E rfl rfl) ?_
              refine SxL.val (v := .pointer (some ⟨g2, 8, none⟩)) trivial rfl rfl (fun ρ w E H => ex_field E rfl fa_palaver_palaverlaw27_Act_2 rfl rfl) ?_
              refine SxL.val (v := .agg #[.int .u8 (ls : Int), .int .u8 (ld : Int), .int .u8 (lk : Int), .int .u64 (lbn : Int), .int .u8 (lbr : Int), .int .u64 (lba : Int), .int .u64 (lsl : Int), .int .u8 (lno : Int), .string ⟨lv.toArray⟩, .slice vA vn vc, .slice iA in_ ic, .int .u8 (lca : Int), .int .u32 (lcb : Int), .int .u8 (lck : Int), .string ⟨lcs.toArray⟩, .string ⟨lct.toArray⟩, .string ⟨lcu.toArray⟩, .int .u8 (lcz : Int), .int .u8 (lco : Int), .string ⟨lte.toArray⟩]) trivial rfl rfl (fun ρ w E H => ex_load (part := [.int .u8 (ls : Int), .int .u8 (ld : Int), .int .u8 (lk : Int), .int .u64 (lbn : Int), .int .u8 (lbr : Int), .int .u64 (lba : Int), .int .u64 (lsl : Int), .int .u8 (lno : Int), .string ⟨lv.toArray⟩, .slice vA vn vc, .slice iA in_ ic, .int .u8 (lca : Int), .int .u32 (lcb : Int), .int .u8 (lck : Int), .string ⟨lcs.toArray⟩, .string ⟨lct.toArray⟩, .string ⟨lcu.toArray⟩, .int .u8 (lcz : Int), .int .u8 (lco : Int), .string ⟨lte.toArray⟩]) E (H.get (i := 2) rfl) rfl rfl Try.underlying47 rfl sz_palaver_api_Letter rfl rfl) ?_
              refine SxL.call (σ := Unit) (fun _ => .tuple #[.agg #[.int .u8 (ts : Int), .int .u8 (td : Int), .int .u8 (tk : Int), .int .u64 (tbn : Int), .int .u8 (tbr : Int), .int .u64 (tba : Int), .int .u64 (tsl : Int), .int .u8 (tno : Int), .string ⟨tv.toArray⟩, .slice none 0 0, .slice none 0 0, .int .u8 (tca : Int), .int .u32 (tcb : Int), .int .u8 (tck : Int), .string ⟨tcs.toArray⟩, .string ⟨tct.toArray⟩, .string ⟨tcu.toArray⟩, .int .u8 (tcz : Int), .int .u8 (tco : Int), .string ⟨tte.toArray⟩], .bool is2, .agg #[.int .u8 (c2 : Int), .string ⟨t2.toArray⟩], .bool tk2]) (fun _ => True) (fun _ => _) trivial rfl rfl (fun ρ w E => ex_call E en_palaver_client_Client_Hear rfl rfl) (callTurn (i := 4) (cell gc 81 [.int .u8 (x2.id : Int), .int .i64 (x2.n : Int), .int .u8 (x2.node : Int), .int .u32 (x2.seq : Int), .int .u8 (x2.cmd.client : Int), .int .u32 (x2.cmd.seq : Int), .int .u8 (x2.cmd.kind : Int), .string ⟨x2.cmd.key.toArray⟩, .string ⟨x2.cmd.old.toArray⟩, .string ⟨x2.cmd.new.toArray⟩, .int .u8 (x2.cmd.set : Int), .bool (x2.waits)]) rfl (cell_loc _ _ _) rfl (fun w H => (hear_turn hxf hlf hhc w (H.get (i := 4) rfl)).mono fun _ _ h => turn_rd h)) fun _ _ => ?_
              refine SxL.val (v := .tuple #[.agg #[.int .u8 (ts : Int), .int .u8 (td : Int), .int .u8 (tk : Int), .int .u64 (tbn : Int), .int .u8 (tbr : Int), .int .u64 (tba : Int), .int .u64 (tsl : Int), .int .u8 (tno : Int), .string ⟨tv.toArray⟩, .slice none 0 0, .slice none 0 0, .int .u8 (tca : Int), .int .u32 (tcb : Int), .int .u8 (tck : Int), .string ⟨tcs.toArray⟩, .string ⟨tct.toArray⟩, .string ⟨tcu.toArray⟩, .int .u8 (tcz : Int), .int .u8 (tco : Int), .string ⟨tte.toArray⟩], .bool is2, .agg #[.int .u8 (c2 : Int), .string ⟨t2.toArray⟩], .bool tk2]) trivial rfl rfl (fun ρ w E H => ex_move E rfl rfl) ?_
              refine SxL.val (v := .agg #[.int .u8 (ts : Int), .int .u8 (td : Int), .int .u8 (tk : Int), .int .u64 (tbn : Int), .int .u8 (tbr : Int), .int .u64 (tba : Int), .int .u64 (tsl : Int), .int .u8 (tno : Int), .string ⟨tv.toArray⟩, .slice none 0 0, .slice none 0 0, .int .u8 (tca : Int), .int .u32 (tcb : Int), .int .u8 (tck : Int), .string ⟨tcs.toArray⟩, .string ⟨tct.toArray⟩, .string ⟨tcu.toArray⟩, .int .u8 (tcz : Int), .int .u8 (tco : Int), .string ⟨tte.toArray⟩]) trivial rfl rfl (fun ρ w E H => ex_extract E rfl rfl rfl) ?_
              refine SxL.val (v := .bool is2) trivial rfl rfl (fun ρ w E H => ex_extract E rfl rfl rfl) ?_
              refine SxL.val (v := .agg #[.int .u8 (c2 : Int), .string ⟨t2.toArray⟩]) trivial rfl rfl (fun ρ w E H => ex_extract E rfl rfl rfl) ?_
              refine SxL.val (v := .bool tk2) trivial rfl rfl (fun ρ w E H => ex_extract E rfl rfl rfl) ?_
              refine SxL.new (cs := [.int .u8 0, .int .u8 0, .int .u8 0, .int .u64 0, .int .u8 0, .int .u64 0, .int .u64 0, .int .u8 0, .string ⟨[].toArray⟩, .slice none 0 0, .slice none 0 0, .int .u8 0, .int .u32 0, .int .u8 0, .string ⟨[].toArray⟩, .string ⟨[].toArray⟩, .string ⟨[].toArray⟩, .int .u8 0, .int .u8 0, .string ⟨[].toArray⟩]) trivial rfl rfl (fun ρ w E H => ex_alloc rfl zr_palaver_api_Letter rfl) fun g15 hg15 => ?_
              refine SxL.new (cs := [.int .u8 0, .string ⟨[].toArray⟩]) trivial rfl rfl (fun ρ w E H => ex_alloc rfl zr_palaver_api_Reply rfl) fun g16 hg16 => ?_
              refine SxL.storeX (i := 1) [.int .u8 (ts : Int), .int .u8 (td : Int), .int .u8 (tk : Int), .int .u64 (tbn : Int), .int .u8 (tbr : Int), .int .u64 (tba : Int), .int .u64 (tsl : Int), .int .u8 (tno : Int), .string ⟨tv.toArray⟩, .slice none 0 0, .slice none 0 0, .int .u8 (tca : Int), .int .u32 (tcb : Int), .int .u8 (tck : Int), .string ⟨tcs.toArray⟩, .string ⟨tct.toArray⟩, .string ⟨tcu.toArray⟩, .int .u8 (tcz : Int), .int .u8 (tco : Int), .string ⟨tte.toArray⟩] trivial rfl rfl rfl rfl rfl sz_palaver_api_Letter rfl rfl rfl (putL_all _ _ rfl) ?_
              refine SxL.val (v := .bool is2) trivial rfl rfl (fun ρ w E H => ex_assign E rfl rfl) ?_
              refine SxL.storeX (i := 0) [.int .u8 (c2 : Int), .string ⟨t2.toArray⟩] trivial rfl rfl rfl rfl rfl sz_palaver_api_Reply rfl rfl rfl (putL_all _ _ rfl) ?_
              refine SxL.val (v := .bool tk2) trivial rfl rfl (fun ρ w E H => ex_assign E rfl rfl) ?_
              refine SxL.nil ?_
              refine SxN.then_ ?_
              refine SxC.seq ?_
              refine SxC.region ?_
              refine SxL.val (v := .agg #[.int .u8 (rid : Int), .int .i64 (rn : Int), .slice AV rL.length kV, .bool true, .int .u8 (rdst : Int)]) trivial rfl rfl (fun ρ w E H => ex_load (part := [.int .u8 (rid : Int), .int .i64 (rn : Int), .slice AV rL.length kV, .bool true, .int .u8 (rdst : Int)]) E (H.get (i := 7) rfl) rfl rfl Try.underlying32 rfl sz_palaver_palaverref27_Client rfl rfl) ?_
              refine SxL.val (v := .pointer (some ⟨g2, 8, none⟩)) trivial rfl rfl (fun ρ w E H => ex_field E rfl fa_palaver_palaverlaw27_Act_2 rfl rfl) ?_
              refine SxL.val (v := .agg #[.int .u8 (ls : Int), .int .u8 (ld : Int), .int .u8 (lk : Int), .int .u64 (lbn : Int), .int .u8 (lbr : Int), .int .u64 (lba : Int), .int .u64 (lsl : Int), .int .u8 (lno : Int), .string ⟨lv.toArray⟩, .slice vA vn vc, .slice iA in_ ic, .int .u8 (lca : Int), .int .u32 (lcb : Int), .int .u8 (lck : Int), .string ⟨lcs.toArray⟩, .string ⟨lct.toArray⟩, .string ⟨lcu.toArray⟩, .int .u8 (lcz : Int), .int .u8 (lco : Int), .string ⟨lte.toArray⟩]) trivial rfl rfl (fun ρ w E H => ex_load (part := [.int .u8 (ls : Int), .int .u8 (ld : Int), .int .u8 (lk : Int), .int .u64 (lbn : Int), .int .u8 (lbr : Int), .int .u64 (lba : Int), .int .u64 (lsl : Int), .int .u8 (lno : Int), .string ⟨lv.toArray⟩, .slice vA vn vc, .slice iA in_ ic, .int .u8 (lca : Int), .int .u32 (lcb : Int), .int .u8 (lck : Int), .string ⟨lcs.toArray⟩, .string ⟨lct.toArray⟩, .string ⟨lcu.toArray⟩, .int .u8 (lcz : Int), .int .u8 (lco : Int), .string ⟨lte.toArray⟩]) E (H.get (i := 4) rfl) rfl rfl Try.underlying47 rfl sz_palaver_api_Letter rfl rfl) ?_
              refine SxL.callB (v := .tuple #[.agg #[.int .u8 (hI : Int), .int .i64 (hN : Int), .slice AV rL.length kV, .bool hw, .int .u8 (hd : Int)], .agg #[.int .u8 (ts : Int), .int .u8 (td : Int), .int .u8 (tk : Int), .int .u64 (tbn : Int), .int .u8 (tbr : Int), .int .u64 (tba : Int), .int .u64 (tsl : Int), .int .u8 (tno : Int), .string ⟨tv.toArray⟩, .slice none 0 0, .slice none 0 0, .int .u8 (tca : Int), .int .u32 (tcb : Int), .int .u8 (tck : Int), .string ⟨tcs.toArray⟩, .string ⟨tct.toArray⟩, .string ⟨tcu.toArray⟩, .int .u8 (tcz : Int), .int .u8 (tco : Int), .string ⟨tte.toArray⟩], .bool is2, .agg #[.int .u8 (c2 : Int), .string ⟨t2.toArray⟩], .bool tk2]) trivial rfl rfl (fun ρ w E => ex_call E en_palaver_palaverref27_Client_Hear rfl rfl) (fun w H => (rhear_lit rid rn rdst rL true ls ld lk lbn lbr lba lsl lno lca lcb lck lcz lco lv lcs lct lcu lte (.slice vA vn vc) (.slice iA in_ ic) AV kV w hid hr9 (ownC_read (H.get (i := 5) rfl)) hlf.h1 hlf.h4).mono fun _ _ h => ⟨by rw [h.1, hh]; rfl, h.2⟩) ?_
              refine SxL.val (v := .tuple #[.agg #[.int .u8 (hI : Int), .int .i64 (hN : Int), .slice AV rL.length kV, .bool hw, .int .u8 (hd : Int)], .agg #[.int .u8 (ts : Int), .int .u8 (td : Int), .int .u8 (tk : Int), .int .u64 (tbn : Int), .int .u8 (tbr : Int), .int .u64 (tba : Int), .int .u64 (tsl : Int), .int .u8 (tno : Int), .string ⟨tv.toArray⟩, .slice none 0 0, .slice none 0 0, .int .u8 (tca : Int), .int .u32 (tcb : Int), .int .u8 (tck : Int), .string ⟨tcs.toArray⟩, .string ⟨tct.toArray⟩, .string ⟨tcu.toArray⟩, .int .u8 (tcz : Int), .int .u8 (tco : Int), .string ⟨tte.toArray⟩], .bool is2, .agg #[.int .u8 (c2 : Int), .string ⟨t2.toArray⟩], .bool tk2]) trivial rfl rfl (fun ρ w E H => ex_move E rfl rfl) ?_
              refine SxL.val (v := .agg #[.int .u8 (hI : Int), .int .i64 (hN : Int), .slice AV rL.length kV, .bool hw, .int .u8 (hd : Int)]) trivial rfl rfl (fun ρ w E H => ex_extract E rfl rfl rfl) ?_
              refine SxL.val (v := .agg #[.int .u8 (ts : Int), .int .u8 (td : Int), .int .u8 (tk : Int), .int .u64 (tbn : Int), .int .u8 (tbr : Int), .int .u64 (tba : Int), .int .u64 (tsl : Int), .int .u8 (tno : Int), .string ⟨tv.toArray⟩, .slice none 0 0, .slice none 0 0, .int .u8 (tca : Int), .int .u32 (tcb : Int), .int .u8 (tck : Int), .string ⟨tcs.toArray⟩, .string ⟨tct.toArray⟩, .string ⟨tcu.toArray⟩, .int .u8 (tcz : Int), .int .u8 (tco : Int), .string ⟨tte.toArray⟩]) trivial rfl rfl (fun ρ w E H => ex_extract E rfl rfl rfl) ?_
              refine SxL.val (v := .bool is2) trivial rfl rfl (fun ρ w E H => ex_extract E rfl rfl rfl) ?_
              refine SxL.val (v := .agg #[.int .u8 (c2 : Int), .string ⟨t2.toArray⟩]) trivial rfl rfl (fun ρ w E H => ex_extract E rfl rfl rfl) ?_
              refine SxL.val (v := .bool tk2) trivial rfl rfl (fun ρ w E H => ex_extract E rfl rfl rfl) ?_
              refine SxL.new (cs := [.int .u8 0, .int .i64 0, .slice none 0 0, .bool false, .int .u8 0]) trivial rfl rfl (fun ρ w E H => ex_alloc rfl zr_palaver_palaverref27_Client rfl) fun g17 hg17 => ?_
              refine SxL.new (cs := [.int .u8 0, .int .u8 0, .int .u8 0, .int .u64 0, .int .u8 0, .int .u64 0, .int .u64 0, .int .u8 0, .string ⟨[].toArray⟩, .slice none 0 0, .slice none 0 0, .int .u8 0, .int .u32 0, .int .u8 0, .string ⟨[].toArray⟩, .string ⟨[].toArray⟩, .string ⟨[].toArray⟩, .int .u8 0, .int .u8 0, .string ⟨[].toArray⟩]) trivial rfl rfl (fun ρ w E H => ex_alloc rfl zr_palaver_api_Letter rfl) fun g18 hg18 => ?_
              refine SxL.new (cs := [.int .u8 0, .string ⟨[].toArray⟩]) trivial rfl rfl (fun ρ w E H => ex_alloc rfl zr_palaver_api_Reply rfl) fun g19 hg19 => ?_
              refine SxL.storeX (i := 2) [.int .u8 (hI : Int), .int .i64 (hN : Int), .slice AV rL.length kV, .bool hw, .int .u8 (hd : Int)] trivial rfl rfl rfl rfl rfl sz_palaver_palaverref27_Client rfl rfl rfl (putL_all _ _ rfl) ?_
              refine SxL.storeX (i := 1) [.int .u8 (ts : Int), .int .u8 (td : Int), .int .u8 (tk : Int), .int .u64 (tbn : Int), .int .u8 (tbr : Int), .int .u64 (tba : Int), .int .u64 (tsl : Int), .int .u8 (tno : Int), .string ⟨tv.toArray⟩, .slice none 0 0, .slice none 0 0, .int .u8 (tca : Int), .int .u32 (tcb : Int), .int .u8 (tck : Int), .string ⟨tcs.toArray⟩, .string ⟨tct.toArray⟩, .string ⟨tcu.toArray⟩, .int .u8 (tcz : Int), .int .u8 (tco : Int), .string ⟨tte.toArray⟩] trivial rfl rfl rfl rfl rfl sz_palaver_api_Letter rfl rfl rfl (putL_all _ _ rfl) ?_
              refine SxL.val (v := .bool is2) trivial rfl rfl (fun ρ w E H => ex_assign E rfl rfl) ?_
              refine SxL.storeX (i := 0) [.int .u8 (c2 : Int), .string ⟨t2.toArray⟩] trivial rfl rfl rfl rfl rfl sz_palaver_api_Reply rfl rfl rfl (putL_all _ _ rfl) ?_
              refine SxL.val (v := .bool tk2) trivial rfl rfl (fun ρ w E H => ex_assign E rfl rfl) ?_
              refine SxL.nil ?_
              refine SxN.then_ ?_
              refine SxC.seq ?_
              refine SxC.region ?_
              refine SxL.val (v := .agg #[.int .u8 (hI : Int), .int .i64 (hN : Int), .slice AV rL.length kV, .bool hw, .int .u8 (hd : Int)]) trivial rfl rfl (fun ρ w E H => ex_load (part := [.int .u8 (hI : Int), .int .i64 (hN : Int), .slice AV rL.length kV, .bool hw, .int .u8 (hd : Int)]) E (H.get (i := 2) rfl) rfl rfl Try.underlying32 rfl sz_palaver_palaverref27_Client rfl rfl) ?_
              refine SxL.storeX (i := 10) [.int .u8 (hI : Int), .int .i64 (hN : Int), .slice AV rL.length kV, .bool hw, .int .u8 (hd : Int)] trivial rfl rfl rfl rfl rfl sz_palaver_palaverref27_Client rfl rfl rfl (putL_all _ _ rfl) ?_
              refine SxL.nil ?_
              refine SxN.then_ ?_
              refine SxC.seq ?_
              refine SxC.drawnK [] [0, 1, 2, 3, 4, 7, 8, 9, 10] (by kernel_rfl) rfl ⟨(fun g hg => by rw [List.mem_singleton.1 hg]; exact .inr hg19), (fun g hg => by rw [List.mem_singleton.1 hg]; exact .inr hg18), (fun g hg => by rw [List.mem_singleton.1 hg]; exact .inr hg17), (fun g hg => by rw [List.mem_singleton.1 hg]; exact .inr hg16), (fun g hg => by rw [List.mem_singleton.1 hg]; exact .inr hg15), (fun g hg => by rw [List.mem_singleton.1 hg]; exact .inr hg4), (fun g hg => by rw [List.mem_singleton.1 hg]; exact .inr hg3), (fun g hg => by rw [List.mem_singleton.1 hg]; exact .inr hg2), (fun g hg => .inr (hV.fresh g hg)), (fun g hg => by rw [List.mem_singleton.1 hg]; exact .inr hgc), (fun g hg => by rw [List.mem_singleton.1 hg]; exact .inr hg1), trivial⟩ ?_
              refine SxA.take (i := 0) (v := .agg #[.int .u8 (ts : Int), .int .u8 (td : Int), .int .u8 (tk : Int), .int .u64 (tbn : Int), .int .u8 (tbr : Int), .int .u64 (tba : Int), .int .u64 (tsl : Int), .int .u8 (tno : Int), .string ⟨tv.toArray⟩, .slice none 0 0, .slice none 0 0, .int .u8 (tca : Int), .int .u32 (tcb : Int), .int .u8 (tck : Int), .string ⟨tcs.toArray⟩, .string ⟨tct.toArray⟩, .string ⟨tcu.toArray⟩, .int .u8 (tcz : Int), .int .u8 (tco : Int), .string ⟨tte.toArray⟩]) rfl (by kernel_rfl) (by kernel_rfl) (by kernel_rfl) rfl rfl (fun _ _ _ h => h) trivial (fun ρ w E H => ex_load (part := [.int .u8 (ts : Int), .int .u8 (td : Int), .int .u8 (tk : Int), .int .u64 (tbn : Int), .int .u8 (tbr : Int), .int .u64 (tba : Int), .int .u64 (tsl : Int), .int .u8 (tno : Int), .string ⟨tv.toArray⟩, .slice none 0 0, .slice none 0 0, .int .u8 (tca : Int), .int .u32 (tcb : Int), .int .u8 (tck : Int), .string ⟨tcs.toArray⟩, .string ⟨tct.toArray⟩, .string ⟨tcu.toArray⟩, .int .u8 (tcz : Int), .int .u8 (tco : Int), .string ⟨tte.toArray⟩]) E (H.get (i := 4) rfl) rfl rfl Try.underlying47 rfl sz_palaver_api_Letter rfl rfl) ?_
              refine SxA.take (i := 1) (v := .agg #[.int .u8 (ts : Int), .int .u8 (td : Int), .int .u8 (tk : Int), .int .u64 (tbn : Int), .int .u8 (tbr : Int), .int .u64 (tba : Int), .int .u64 (tsl : Int), .int .u8 (tno : Int), .string ⟨tv.toArray⟩, .slice none 0 0, .slice none 0 0, .int .u8 (tca : Int), .int .u32 (tcb : Int), .int .u8 (tck : Int), .string ⟨tcs.toArray⟩, .string ⟨tct.toArray⟩, .string ⟨tcu.toArray⟩, .int .u8 (tcz : Int), .int .u8 (tco : Int), .string ⟨tte.toArray⟩]) rfl (by kernel_rfl) (by kernel_rfl) (by kernel_rfl) rfl rfl (fun _ _ _ h => h) trivial (fun ρ w E H => ex_load (part := [.int .u8 (ts : Int), .int .u8 (td : Int), .int .u8 (tk : Int), .int .u64 (tbn : Int), .int .u8 (tbr : Int), .int .u64 (tba : Int), .int .u64 (tsl : Int), .int .u8 (tno : Int), .string ⟨tv.toArray⟩, .slice none 0 0, .slice none 0 0, .int .u8 (tca : Int), .int .u32 (tcb : Int), .int .u8 (tck : Int), .string ⟨tcs.toArray⟩, .string ⟨tct.toArray⟩, .string ⟨tcu.toArray⟩, .int .u8 (tcz : Int), .int .u8 (tco : Int), .string ⟨tte.toArray⟩]) E (H.get (i := 1) rfl) rfl rfl Try.underlying47 rfl sz_palaver_api_Letter rfl rfl) ?_
              refine SxA.ready [2] (by kernel_rfl) (by simp) ⟨?_, trivial⟩
              refine SxO.storeX (j := 6) [.int .u8 (ts : Int), .int .u8 (td : Int), .int .u8 (tk : Int), .int .u64 (tbn : Int), .int .u8 (tbr : Int), .int .u64 (tba : Int), .int .u64 (tsl : Int), .int .u8 (tno : Int), .string ⟨tv.toArray⟩, .slice none 0 0, .slice none 0 0, .int .u8 (tca : Int), .int .u32 (tcb : Int), .int .u8 (tck : Int), .string ⟨tcs.toArray⟩, .string ⟨tct.toArray⟩, .string ⟨tcu.toArray⟩, .int .u8 (tcz : Int), .int .u8 (tco : Int), .string ⟨tte.toArray⟩] rfl trivial rfl rfl rfl rfl rfl sz_palaver_api_Letter rfl rfl rfl (putL_all _ _ rfl) (fun w H => H.ks [] [0, 1, 2, 3, 4, 7, 8, 9, 10] rfl ⟨(fun g hg => by rw [List.mem_singleton.1 hg]; exact .inr hg19), (fun g hg => by rw [List.mem_singleton.1 hg]; exact .inr hg18), (fun g hg => by rw [List.mem_singleton.1 hg]; exact .inr hg17), (fun g hg => by rw [List.mem_singleton.1 hg]; exact .inr hg16), (fun g hg => by rw [List.mem_singleton.1 hg]; exact .inr hg15), (fun g hg => by rw [List.mem_singleton.1 hg]; exact .inr hg4), (fun g hg => by rw [List.mem_singleton.1 hg]; exact .inr hg3), (fun g hg => by rw [List.mem_singleton.1 hg]; exact .inr hg2), (fun g hg => .inr (hV.fresh g hg)), (fun g hg => by rw [List.mem_singleton.1 hg]; exact .inr hgc), (fun g hg => by rw [List.mem_singleton.1 hg]; exact .inr hg1), trivial⟩) ?_
              refine SxA.ready [3] (by kernel_rfl) (by simp) ⟨?_, trivial⟩
              refine SxO.storeX (j := 5) [.int .u8 (ts : Int), .int .u8 (td : Int), .int .u8 (tk : Int), .int .u64 (tbn : Int), .int .u8 (tbr : Int), .int .u64 (tba : Int), .int .u64 (tsl : Int), .int .u8 (tno : Int), .string ⟨tv.toArray⟩, .slice none 0 0, .slice none 0 0, .int .u8 (tca : Int), .int .u32 (tcb : Int), .int .u8 (tck : Int), .string ⟨tcs.toArray⟩, .string ⟨tct.toArray⟩, .string ⟨tcu.toArray⟩, .int .u8 (tcz : Int), .int .u8 (tco : Int), .string ⟨tte.toArray⟩] rfl trivial rfl rfl rfl rfl rfl sz_palaver_api_Letter rfl rfl rfl (putL_all _ _ rfl) (fun w H => H.ks [] [0, 1, 2, 3, 4, 7, 8, 9, 10] rfl ⟨(fun g hg => by rw [List.mem_singleton.1 hg]; exact .inr hg19), (fun g hg => by rw [List.mem_singleton.1 hg]; exact .inr hg18), (fun g hg => by rw [List.mem_singleton.1 hg]; exact .inr hg17), (fun g hg => by rw [List.mem_singleton.1 hg]; exact .inr hg16), (fun g hg => by rw [List.mem_singleton.1 hg]; exact .inr hg15), (fun g hg => by rw [List.mem_singleton.1 hg]; exact .inr hg4), (fun g hg => by rw [List.mem_singleton.1 hg]; exact .inr hg3), (fun g hg => by rw [List.mem_singleton.1 hg]; exact .inr hg2), (fun g hg => .inr (hV.fresh g hg)), (fun g hg => by rw [List.mem_singleton.1 hg]; exact .inr hgc), (fun g hg => by rw [List.mem_singleton.1 hg]; exact .inr hg1), trivial⟩) ?_
              refine SxA.done (by kernel_rfl) ?_
              refine SxN.then_ ?_
              refine SxC.seq ?_
              refine SxC.region ?_
              refine SxL.val (v := .bool is2) trivial rfl rfl (fun ρ w E H => ex_move E rfl rfl) ?_
              refine SxL.val (v := .bool is2) trivial rfl rfl (fun ρ w E H => ex_move E rfl rfl) ?_
              refine SxL.val (v := .bool false) trivial rfl rfl (fun ρ w E H => ex_bneq E rfl Try.underlying4 rfl rfl (by simp)) ?_
              refine SxL.val (v := .bool false) trivial rfl rfl (fun ρ w E H => ex_move E rfl rfl) ?_
              refine SxL.val (v := .agg #[.int .u8 (c2 : Int), .string ⟨t2.toArray⟩]) ⟨_, _, rfl, rfl, rfl⟩ rfl rfl (fun ρ w E H => ex_load (part := [.int .u8 (c2 : Int), .string ⟨t2.toArray⟩]) E (H.get (i := 3) rfl) rfl rfl Try.underlying43 rfl sz_palaver_api_Reply rfl rfl) ?_
              refine SxL.val (v := .agg #[.int .u8 (c2 : Int), .string ⟨t2.toArray⟩]) ⟨_, _, rfl, rfl, rfl⟩ rfl rfl (fun ρ w E H => ex_load (part := [.int .u8 (c2 : Int), .string ⟨t2.toArray⟩]) E (H.get (i := 0) rfl) rfl rfl Try.underlying43 rfl sz_palaver_api_Reply rfl rfl) ?_
              refine SxL.val (v := .bool false) ⟨_, _, rfl, rfl, rfl⟩ rfl rfl (fun ρ w E H => ex_aneq E rfl (by kernel_rfl) rfl rfl (fun w => by rw [Bool.not_false]; exact eq_rym c2 t2 w)) ?_
              refine SxL.val (v := .bool false) trivial rfl rfl (fun ρ w E H => ex_pick E rfl (t := false) rfl rfl) ?_
              refine SxL.val (v := .bool false) trivial rfl rfl (fun ρ w E H => ex_move E rfl rfl) ?_
              refine SxL.val (v := .bool tk2) ⟨_, _, rfl, rfl, rfl⟩ rfl rfl (fun ρ w E H => ex_move E rfl rfl) ?_
              refine SxL.val (v := .bool tk2) ⟨_, _, rfl, rfl, rfl⟩ rfl rfl (fun ρ w E H => ex_move E rfl rfl) ?_
              refine SxL.val (v := .bool false) ⟨_, _, rfl, rfl, rfl⟩ rfl rfl (fun ρ w E H => ex_bneq E rfl Try.underlying4 rfl rfl (by simp)) ?_
              refine SxL.val (v := .bool false) trivial rfl rfl (fun ρ w E H => ex_pick E rfl (t := false) rfl rfl) ?_
              refine SxL.nil ?_
              refine SxN.then_ ?_
              refine SxC.condF rfl ?_
              refine SxC.skip ?_
              refine SxN.block ?_
              refine SxN.then_ ?_
              refine SxC.seq ?_
              cases hw
              · have hwt : x2.waits = false := hi2.waits
                have hww : waitsC x2 = (cm0, false) := by unfold waitsC; rw [hwt, if_neg (by decide)]
                refine SxC.region ?_
                refine SxL.val (v := .pointer (some ⟨gc, 0, none⟩)) trivial rfl rfl (fun ρ w E H => ex_move E rfl rfl) ?_
                refine SxL.callB (v := .tuple #[.agg #[.int .u8 0, .int .u32 0, .int .u8 0, .string ⟨[].toArray⟩, .string ⟨[].toArray⟩, .string ⟨[].toArray⟩, .int .u8 0], .bool false]) trivial rfl rfl (fun ρ w E => ex_call E en_palaver_client_Client_Waits rfl rfl) (fun w H => waits_p hww w (H.get (i := 9) rfl)) ?_
                refine SxL.val (v := .tuple #[.agg #[.int .u8 0, .int .u32 0, .int .u8 0, .string ⟨[].toArray⟩, .string ⟨[].toArray⟩, .string ⟨[].toArray⟩, .int .u8 0], .bool false]) trivial rfl rfl (fun ρ w E H => ex_move E rfl rfl) ?_
                refine SxL.val (v := .agg #[.int .u8 0, .int .u32 0, .int .u8 0, .string ⟨[].toArray⟩, .string ⟨[].toArray⟩, .string ⟨[].toArray⟩, .int .u8 0]) trivial rfl rfl (fun ρ w E H => ex_extract E rfl rfl rfl) ?_
                refine SxL.val (v := .bool false) trivial rfl rfl (fun ρ w E H => ex_extract E rfl rfl rfl) ?_
                refine SxL.new (cs := [.int .u8 0, .int .u32 0, .int .u8 0, .string ⟨[].toArray⟩, .string ⟨[].toArray⟩, .string ⟨[].toArray⟩, .int .u8 0]) trivial rfl rfl (fun ρ w E H => ex_alloc rfl zr_palaver_api_Cmd rfl) fun g20 hg20 => ?_
                refine SxL.storeX (i := 0) [.int .u8 0, .int .u32 0, .int .u8 0, .string ⟨[].toArray⟩, .string ⟨[].toArray⟩, .string ⟨[].toArray⟩, .int .u8 0] trivial rfl rfl rfl rfl rfl sz_palaver_api_Cmd rfl rfl rfl (putL_all _ _ rfl) ?_
                refine SxL.val (v := .bool false) trivial rfl rfl (fun ρ w E H => ex_assign E rfl rfl) ?_
                refine SxL.nil ?_
                refine SxN.then_ ?_
                refine SxC.seq ?_
                refine SxC.drawnK [] [0, 1, 2, 3, 4, 5, 6, 7, 8, 9, 10, 11] (by kernel_rfl) rfl ⟨(fun g hg => by rw [List.mem_singleton.1 hg]; exact .inr hg20), (fun g hg => by rw [List.mem_singleton.1 hg]; exact .inr hg19), (fun g hg => by rw [List.mem_singleton.1 hg]; exact .inr hg18), (fun g hg => by rw [List.mem_singleton.1 hg]; exact .inr hg17), (fun g hg => by rw [List.mem_singleton.1 hg]; exact .inr hg16), (fun g hg => by rw [List.mem_singleton.1 hg]; exact .inr hg15), (fun g hg => by rw [List.mem_singleton.1 hg]; exact .inr hg4), (fun g hg => by rw [List.mem_singleton.1 hg]; exact .inr hg3), (fun g hg => by rw [List.mem_singleton.1 hg]; exact .inr hg2), (fun g hg => .inr (hV.fresh g hg)), (fun g hg => by rw [List.mem_singleton.1 hg]; exact .inr hgc), (fun g hg => by rw [List.mem_singleton.1 hg]; exact .inr hg1), trivial⟩ ?_
                refine SxA.take (i := 0) (v := .int .i64 0) rfl (by kernel_rfl) (by kernel_rfl) (by kernel_rfl) rfl rfl (fun _ _ _ h => h) trivial (fun ρ w E H => ex_move E rfl rfl) ?_
                refine SxA.take (i := 1) (v := .int .i64 0) rfl (by kernel_rfl) (by kernel_rfl) (by kernel_rfl) rfl rfl (fun _ _ _ h => h) trivial (fun ρ w E H => ex_move E rfl rfl) ?_
                refine SxA.take (i := 2) (v := .bool false) rfl (by kernel_rfl) (by kernel_rfl) (by kernel_rfl) rfl rfl (fun _ _ _ h => h) trivial (fun ρ w E H => ex_cmp E rfl rfl rfl rfl (by decide)) ?_
                refine SxA.take (i := 3) (v := .bool false) rfl (by kernel_rfl) (by kernel_rfl) (by kernel_rfl) rfl rfl (fun _ _ _ h => h) trivial (fun ρ w E H => ex_move E rfl rfl) ?_
                refine SxA.take (i := 4) (v := .agg #[.int .u8 (ts : Int), .int .u8 (td : Int), .int .u8 (tk : Int), .int .u64 (tbn : Int), .int .u8 (tbr : Int), .int .u64 (tba : Int), .int .u64 (tsl : Int), .int .u8 (tno : Int), .string ⟨tv.toArray⟩, .slice none 0 0, .slice none 0 0, .int .u8 (tca : Int), .int .u32 (tcb : Int), .int .u8 (tck : Int), .string ⟨tcs.toArray⟩, .string ⟨tct.toArray⟩, .string ⟨tcu.toArray⟩, .int .u8 (tcz : Int), .int .u8 (tco : Int), .string ⟨tte.toArray⟩]) rfl (by kernel_rfl) (by kernel_rfl) (by kernel_rfl) rfl rfl (fun _ _ _ h => h) ⟨_, _, rfl, rfl, rfl⟩ (fun ρ w E H => ex_load (part := [.int .u8 (ts : Int), .int .u8 (td : Int), .int .u8 (tk : Int), .int .u64 (tbn : Int), .int .u8 (tbr : Int), .int .u64 (tba : Int), .int .u64 (tsl : Int), .int .u8 (tno : Int), .string ⟨tv.toArray⟩, .slice none 0 0, .slice none 0 0, .int .u8 (tca : Int), .int .u32 (tcb : Int), .int .u8 (tck : Int), .string ⟨tcs.toArray⟩, .string ⟨tct.toArray⟩, .string ⟨tcu.toArray⟩, .int .u8 (tcz : Int), .int .u8 (tco : Int), .string ⟨tte.toArray⟩]) E (H.get (i := 7) rfl) rfl rfl Try.underlying47 rfl sz_palaver_api_Letter rfl rfl) ?_
                refine SxA.take (i := 5) (v := .agg #[.int .u8 (ts : Int), .int .u8 (td : Int), .int .u8 (tk : Int), .int .u64 (tbn : Int), .int .u8 (tbr : Int), .int .u64 (tba : Int), .int .u64 (tsl : Int), .int .u8 (tno : Int), .string ⟨tv.toArray⟩, .slice none 0 0, .slice none 0 0, .int .u8 (tca : Int), .int .u32 (tcb : Int), .int .u8 (tck : Int), .string ⟨tcs.toArray⟩, .string ⟨tct.toArray⟩, .string ⟨tcu.toArray⟩, .int .u8 (tcz : Int), .int .u8 (tco : Int), .string ⟨tte.toArray⟩]) rfl (by kernel_rfl) (by kernel_rfl) (by kernel_rfl) rfl rfl (fun _ _ _ h => h) ⟨_, _, rfl, rfl, rfl⟩ (fun ρ w E H => ex_load (part := [.int .u8 (ts : Int), .int .u8 (td : Int), .int .u8 (tk : Int), .int .u64 (tbn : Int), .int .u8 (tbr : Int), .int .u64 (tba : Int), .int .u64 (tsl : Int), .int .u8 (tno : Int), .string ⟨tv.toArray⟩, .slice none 0 0, .slice none 0 0, .int .u8 (tca : Int), .int .u32 (tcb : Int), .int .u8 (tck : Int), .string ⟨tcs.toArray⟩, .string ⟨tct.toArray⟩, .string ⟨tcu.toArray⟩, .int .u8 (tcz : Int), .int .u8 (tco : Int), .string ⟨tte.toArray⟩]) E (H.get (i := 6) rfl) rfl rfl Try.underlying47 rfl sz_palaver_api_Letter rfl rfl) ?_
                refine SxA.ready [6] (by kernel_rfl) (by simp) ⟨?_, trivial⟩
                refine SxO.callB (v := .bool true) rfl ⟨_, _, rfl, rfl, rfl⟩ rfl rfl (fun ρ w E => ex_call E en_palaver_palaverlaw27_same rfl rfl) (fun w H => lsame_any ts td tk tbn tbr tba tsl tno tca tcb tck tcz tco tv tcs tct tcu tte w) (fun w H => H.ks [] [0, 1, 2, 3, 4, 5, 6, 7, 8, 9, 10, 11] rfl ⟨(fun g hg => by rw [List.mem_singleton.1 hg]; exact .inr hg20), (fun g hg => by rw [List.mem_singleton.1 hg]; exact .inr hg19), (fun g hg => by rw [List.mem_singleton.1 hg]; exact .inr hg18), (fun g hg => by rw [List.mem_singleton.1 hg]; exact .inr hg17), (fun g hg => by rw [List.mem_singleton.1 hg]; exact .inr hg16), (fun g hg => by rw [List.mem_singleton.1 hg]; exact .inr hg15), (fun g hg => by rw [List.mem_singleton.1 hg]; exact .inr hg4), (fun g hg => by rw [List.mem_singleton.1 hg]; exact .inr hg3), (fun g hg => by rw [List.mem_singleton.1 hg]; exact .inr hg2), (fun g hg => .inr (hV.fresh g hg)), (fun g hg => by rw [List.mem_singleton.1 hg]; exact .inr hgc), (fun g hg => by rw [List.mem_singleton.1 hg]; exact .inr hg1), trivial⟩) ?_
                refine SxA.take (i := 7) (v := .bool false) rfl (by kernel_rfl) (by kernel_rfl) (by kernel_rfl) rfl rfl (fun _ _ _ h => h) ⟨_, _, rfl, rfl, rfl⟩ (fun ρ w E H => ex_not (t := true) E rfl rfl) ?_
                refine SxA.take (i := 8) (v := .bool false) rfl (by kernel_rfl) (by kernel_rfl) (by kernel_rfl) rfl rfl (fun _ _ _ h => h) trivial (fun ρ w E H => ex_pick E rfl (t := false) rfl rfl) ?_
                refine SxA.take (i := 9) (v := .bool false) rfl (by kernel_rfl) (by kernel_rfl) (by kernel_rfl) rfl rfl (fun _ _ _ h => h) trivial (fun ρ w E H => ex_move E rfl rfl) ?_
                refine SxA.take (i := 10) (v := .bool false) rfl (by kernel_rfl) (by kernel_rfl) (by kernel_rfl) rfl rfl (fun _ _ _ h => h) ⟨_, _, rfl, rfl, rfl⟩ (fun ρ w E H => ex_move E rfl rfl) ?_
                refine SxA.take (i := 11) (v := .pointer (some ⟨g1, 3, none⟩)) rfl (by kernel_rfl) (by kernel_rfl) (by kernel_rfl) rfl rfl (fun _ _ _ h => h) ⟨_, _, rfl, rfl, rfl⟩ (fun ρ w E H => ex_field E rfl fa_palaver_palaverref27_Client_3 rfl rfl) ?_
                refine SxA.take (i := 12) (v := .bool false) rfl (by kernel_rfl) (by kernel_rfl) (by kernel_rfl) rfl rfl (fun _ _ _ h => h) ⟨_, _, rfl, rfl, rfl⟩ (fun ρ w E H => ex_load1 E (H.get (i := 11) rfl) rfl rfl Try.underlying4 rfl rfl) ?_
                refine SxA.take (i := 13) (v := .bool false) rfl (by kernel_rfl) (by kernel_rfl) (by kernel_rfl) rfl rfl (fun _ _ _ h => h) ⟨_, _, rfl, rfl, rfl⟩ (fun ρ w E H => ex_bneq E rfl Try.underlying4 rfl rfl (by simp)) ?_
                refine SxA.take (i := 14) (v := .bool false) rfl (by kernel_rfl) (by kernel_rfl) (by kernel_rfl) rfl rfl (fun _ _ _ h => h) trivial (fun ρ w E H => ex_pick E rfl (t := false) rfl rfl) ?_
                refine SxA.take (i := 15) (v := .bool false) rfl (by kernel_rfl) (by kernel_rfl) (by kernel_rfl) rfl rfl (fun _ _ _ h => h) trivial (fun ρ w E H => ex_move E rfl rfl) ?_
                refine SxA.take (i := 16) (v := .bool false) rfl (by kernel_rfl) (by kernel_rfl) (by kernel_rfl) rfl rfl (fun _ _ _ h => h) ⟨_, _, rfl, rfl, rfl⟩ (fun ρ w E H => ex_move E rfl rfl) ?_
                refine SxA.take (i := 17) (v := .bool false) rfl (by kernel_rfl) (by kernel_rfl) (by kernel_rfl) rfl rfl (fun _ _ _ h => h) ⟨_, _, rfl, rfl, rfl⟩ (fun ρ w E H => ex_move E rfl rfl) ?_
                refine SxA.takeOff (i := 18) rfl (by kernel_rfl) (by kernel_rfl) (by kernel_rfl) rfl rfl (fun _ _ _ h => h) ⟨_, _, _, rfl, rfl, rfl, nofun⟩ ?_
                refine SxA.takeOff (i := 19) rfl (by kernel_rfl) (by kernel_rfl) (by kernel_rfl) rfl rfl (fun _ _ _ h => h) ⟨_, _, _, rfl, rfl, rfl, nofun⟩ ?_
                refine SxA.takeOff (i := 20) rfl (by kernel_rfl) (by kernel_rfl) (by kernel_rfl) rfl rfl (fun _ _ _ h => h) ⟨_, _, _, rfl, rfl, rfl, nofun⟩ ?_
                refine SxA.takeOff (i := 21) rfl (by kernel_rfl) (by kernel_rfl) (by kernel_rfl) rfl rfl (fun _ _ _ h => h) ⟨_, _, _, rfl, rfl, rfl, nofun⟩ ?_
                refine SxA.take (i := 22) (v := .bool false) rfl (by kernel_rfl) (by kernel_rfl) (by kernel_rfl) rfl rfl (fun _ _ _ h => h) ⟨_, _, rfl, rfl, rfl⟩ (fun ρ w E H => ex_pick E rfl (t := false) rfl rfl) ?_
                refine SxA.take (i := 23) (v := .bool false) rfl (by kernel_rfl) (by kernel_rfl) (by kernel_rfl) rfl rfl (fun _ _ _ h => h) trivial (fun ρ w E H => ex_pick E rfl (t := false) rfl rfl) ?_
                refine SxA.take (i := 24) (v := .bool false) rfl (by kernel_rfl) (by kernel_rfl) (by kernel_rfl) rfl rfl (fun _ _ _ h => h) trivial (fun ρ w E H => ex_move E rfl rfl) ?_
                refine SxA.take (i := 25) (v := .bool false) rfl (by kernel_rfl) (by kernel_rfl) (by kernel_rfl) rfl rfl (fun _ _ _ h => h) ⟨_, _, rfl, rfl, rfl⟩ (fun ρ w E H => ex_move E rfl rfl) ?_
                refine SxA.take (i := 26) (v := .bool true) rfl (by kernel_rfl) (by kernel_rfl) (by kernel_rfl) rfl rfl (fun _ _ _ h => h) ⟨_, _, rfl, rfl, rfl⟩ (fun ρ w E H => ex_not (t := false) E rfl rfl) ?_
                refine SxA.take (i := 27) (v := .bool true) rfl (by kernel_rfl) (by kernel_rfl) (by kernel_rfl) rfl rfl (fun _ _ _ h => h) ⟨_, _, rfl, rfl, rfl⟩ (fun ρ w E H => ex_move E rfl rfl) ?_
                refine SxA.take (i := 28) (v := .agg #[.int .u8 0, .int .u32 0, .int .u8 0, .string ⟨[].toArray⟩, .string ⟨[].toArray⟩, .string ⟨[].toArray⟩, .int .u8 0]) rfl (by kernel_rfl) (by kernel_rfl) (by kernel_rfl) rfl rfl (fun _ _ _ h => h) ⟨_, _, rfl, rfl, rfl⟩ (fun ρ w E H => ex_load (part := [.int .u8 0, .int .u32 0, .int .u8 0, .string ⟨[].toArray⟩, .string ⟨[].toArray⟩, .string ⟨[].toArray⟩, .int .u8 0]) E (H.get (i := 0) rfl) rfl rfl Try.underlying36 rfl sz_palaver_api_Cmd rfl rfl) ?_
                refine SxA.take (i := 29) (v := .agg #[.int .u8 0, .int .u32 0, .int .u8 0, .string ⟨[].toArray⟩, .string ⟨[].toArray⟩, .string ⟨[].toArray⟩, .int .u8 0]) rfl (by kernel_rfl) (by kernel_rfl) (by kernel_rfl) rfl rfl (fun _ _ _ h => h) ⟨_, _, rfl, rfl, rfl⟩ (fun ρ w E H => ex_build (cs := [.int .u8 0, .int .u32 0, .int .u8 0, .string ⟨[].toArray⟩, .string ⟨[].toArray⟩, .string ⟨[].toArray⟩, .int .u8 0]) E rfl rfl (by kernel_rfl)) ?_
                refine SxA.take (i := 30) (v := .bool false) rfl (by kernel_rfl) (by kernel_rfl) (by kernel_rfl) rfl rfl (fun _ _ _ h => h) ⟨_, _, rfl, rfl, rfl⟩ (fun ρ w E H => ex_aneq E rfl (by kernel_rfl) rfl rfl (fun w => by rw [Bool.not_false]; exact eq_cmm cm0 w)) ?_
                refine SxA.take (i := 31) (v := .bool false) rfl (by kernel_rfl) (by kernel_rfl) (by kernel_rfl) rfl rfl (fun _ _ _ h => h) ⟨_, _, rfl, rfl, rfl⟩ (fun ρ w E H => ex_pick E rfl (t := true) rfl rfl) ?_
                refine SxA.take (i := 32) (v := .bool false) rfl (by kernel_rfl) (by kernel_rfl) (by kernel_rfl) rfl rfl (fun _ _ _ h => h) trivial (fun ρ w E H => ex_pick E rfl (t := false) rfl rfl) ?_
                refine SxA.done (by kernel_rfl) ?_
                refine SxN.then_ ?_
                refine SxC.condF rfl ?_
                refine SxC.skip ?_
                refine SxN.block ?_
                refine SxN.then_ ?_
                refine SxC.region ?_
                refine SxL.val (v := .int .i64 (i : Int)) trivial rfl rfl (fun ρ w E H => ex_move E rfl rfl) ?_
                refine SxL.val (v := .int .i64 ((i + 1 : Nat) : Int)) trivial rfl rfl (fun ρ w E H => ex_add E rfl rfl rfl (by rw [IntKind.wrap_i64]; omega)) ?_
                refine SxL.val (v := .int .i64 ((i + 1 : Nat) : Int)) trivial rfl rfl (fun ρ w E H => ex_assign E rfl rfl) ?_
                refine SxL.nil ?_
                refine SxN.back (gk - 1) (i + 1, x2, (⟨hI, hN, rL, false, hd⟩ : Rc), (.slice AV rL.length kV)) (by omega) ⟨by omega, hi2, hxf2, (by dsimp only; omega), hV⟩ ⟨rfl, rfl, rfl, rfl, trivial⟩ [9, 10, 11] rfl (by decide) ⟨.inr (fun g hg => by rw [List.mem_singleton.1 hg]; exact hg20), .inr (fun g hg => by rw [List.mem_singleton.1 hg]; exact hg19), .inr (fun g hg => by rw [List.mem_singleton.1 hg]; exact hg18), .inr (fun g hg => by rw [List.mem_singleton.1 hg]; exact hg17), .inr (fun g hg => by rw [List.mem_singleton.1 hg]; exact hg16), .inr (fun g hg => by rw [List.mem_singleton.1 hg]; exact hg15), .inr (fun g hg => by rw [List.mem_singleton.1 hg]; exact hg4), .inr (fun g hg => by rw [List.mem_singleton.1 hg]; exact hg3), .inr (fun g hg => by rw [List.mem_singleton.1 hg]; exact hg2), .inl rfl, .inl rfl, .inl rfl, trivial⟩
              · have hwt : x2.waits = true := hi2.waits
                have hww : waitsC x2 = (⟨qa, qb, qk, qs, qt, qu, qz⟩, true) := by unfold waitsC; rw [hwt, if_pos rfl, hi2.cmd hwt]; exact congrArg (fun c => (c, true)) hq
                refine SxC.region ?_
                refine SxL.val (v := .pointer (some ⟨gc, 0, none⟩)) trivial rfl rfl (fun ρ w E H => ex_move E rfl rfl) ?_
                refine SxL.callB (v := .tuple #[.agg #[.int .u8 (qa : Int), .int .u32 (qb : Int), .int .u8 (qk : Int), .string ⟨qs.toArray⟩, .string ⟨qt.toArray⟩, .string ⟨qu.toArray⟩, .int .u8 (qz : Int)], .bool true]) trivial rfl rfl (fun ρ w E => ex_call E en_palaver_client_Client_Waits rfl rfl) (fun w H => waits_p hww w (H.get (i := 9) rfl)) ?_
                refine SxL.val (v := .tuple #[.agg #[.int .u8 (qa : Int), .int .u32 (qb : Int), .int .u8 (qk : Int), .string ⟨qs.toArray⟩, .string ⟨qt.toArray⟩, .string ⟨qu.toArray⟩, .int .u8 (qz : Int)], .bool true]) trivial rfl rfl (fun ρ w E H => ex_move E rfl rfl) ?_
                refine SxL.val (v := .agg #[.int .u8 (qa : Int), .int .u32 (qb : Int), .int .u8 (qk : Int), .string ⟨qs.toArray⟩, .string ⟨qt.toArray⟩, .string ⟨qu.toArray⟩, .int .u8 (qz : Int)]) trivial rfl rfl (fun ρ w E H => ex_extract E rfl rfl rfl) ?_
                refine SxL.val (v := .bool true) trivial rfl rfl (fun ρ w E H => ex_extract E rfl rfl rfl) ?_
                refine SxL.new (cs := [.int .u8 0, .int .u32 0, .int .u8 0, .string ⟨[].toArray⟩, .string ⟨[].toArray⟩, .string ⟨[].toArray⟩, .int .u8 0]) trivial rfl rfl (fun ρ w E H => ex_alloc rfl zr_palaver_api_Cmd rfl) fun g21 hg21 => ?_
                refine SxL.storeX (i := 0) [.int .u8 (qa : Int), .int .u32 (qb : Int), .int .u8 (qk : Int), .string ⟨qs.toArray⟩, .string ⟨qt.toArray⟩, .string ⟨qu.toArray⟩, .int .u8 (qz : Int)] trivial rfl rfl rfl rfl rfl sz_palaver_api_Cmd rfl rfl rfl (putL_all _ _ rfl) ?_
                refine SxL.val (v := .bool true) trivial rfl rfl (fun ρ w E H => ex_assign E rfl rfl) ?_
                refine SxL.nil ?_
                refine SxN.then_ ?_
                refine SxC.seq ?_
                refine SxC.drawnK [] [0, 1, 2, 3, 4, 5, 6, 7, 8, 9, 10, 11] (by kernel_rfl) rfl ⟨(fun g hg => by rw [List.mem_singleton.1 hg]; exact .inr hg21), (fun g hg => by rw [List.mem_singleton.1 hg]; exact .inr hg19), (fun g hg => by rw [List.mem_singleton.1 hg]; exact .inr hg18), (fun g hg => by rw [List.mem_singleton.1 hg]; exact .inr hg17), (fun g hg => by rw [List.mem_singleton.1 hg]; exact .inr hg16), (fun g hg => by rw [List.mem_singleton.1 hg]; exact .inr hg15), (fun g hg => by rw [List.mem_singleton.1 hg]; exact .inr hg4), (fun g hg => by rw [List.mem_singleton.1 hg]; exact .inr hg3), (fun g hg => by rw [List.mem_singleton.1 hg]; exact .inr hg2), (fun g hg => .inr (hV.fresh g hg)), (fun g hg => by rw [List.mem_singleton.1 hg]; exact .inr hgc), (fun g hg => by rw [List.mem_singleton.1 hg]; exact .inr hg1), trivial⟩ ?_
                refine SxA.take (i := 0) (v := .int .i64 0) rfl (by kernel_rfl) (by kernel_rfl) (by kernel_rfl) rfl rfl (fun _ _ _ h => h) trivial (fun ρ w E H => ex_move E rfl rfl) ?_
                refine SxA.take (i := 1) (v := .int .i64 0) rfl (by kernel_rfl) (by kernel_rfl) (by kernel_rfl) rfl rfl (fun _ _ _ h => h) trivial (fun ρ w E H => ex_move E rfl rfl) ?_
                refine SxA.take (i := 2) (v := .bool false) rfl (by kernel_rfl) (by kernel_rfl) (by kernel_rfl) rfl rfl (fun _ _ _ h => h) trivial (fun ρ w E H => ex_cmp E rfl rfl rfl rfl (by decide)) ?_
                refine SxA.take (i := 3) (v := .bool false) rfl (by kernel_rfl) (by kernel_rfl) (by kernel_rfl) rfl rfl (fun _ _ _ h => h) trivial (fun ρ w E H => ex_move E rfl rfl) ?_
                refine SxA.take (i := 4) (v := .agg #[.int .u8 (ts : Int), .int .u8 (td : Int), .int .u8 (tk : Int), .int .u64 (tbn : Int), .int .u8 (tbr : Int), .int .u64 (tba : Int), .int .u64 (tsl : Int), .int .u8 (tno : Int), .string ⟨tv.toArray⟩, .slice none 0 0, .slice none 0 0, .int .u8 (tca : Int), .int .u32 (tcb : Int), .int .u8 (tck : Int), .string ⟨tcs.toArray⟩, .string ⟨tct.toArray⟩, .string ⟨tcu.toArray⟩, .int .u8 (tcz : Int), .int .u8 (tco : Int), .string ⟨tte.toArray⟩]) rfl (by kernel_rfl) (by kernel_rfl) (by kernel_rfl) rfl rfl (fun _ _ _ h => h) ⟨_, _, rfl, rfl, rfl⟩ (fun ρ w E H => ex_load (part := [.int .u8 (ts : Int), .int .u8 (td : Int), .int .u8 (tk : Int), .int .u64 (tbn : Int), .int .u8 (tbr : Int), .int .u64 (tba : Int), .int .u64 (tsl : Int), .int .u8 (tno : Int), .string ⟨tv.toArray⟩, .slice none 0 0, .slice none 0 0, .int .u8 (tca : Int), .int .u32 (tcb : Int), .int .u8 (tck : Int), .string ⟨tcs.toArray⟩, .string ⟨tct.toArray⟩, .string ⟨tcu.toArray⟩, .int .u8 (tcz : Int), .int .u8 (tco : Int), .string ⟨tte.toArray⟩]) E (H.get (i := 7) rfl) rfl rfl Try.underlying47 rfl sz_palaver_api_Letter rfl rfl) ?_
                refine SxA.take (i := 5) (v := .agg #[.int .u8 (ts : Int), .int .u8 (td : Int), .int .u8 (tk : Int), .int .u64 (tbn : Int), .int .u8 (tbr : Int), .int .u64 (tba : Int), .int .u64 (tsl : Int), .int .u8 (tno : Int), .string ⟨tv.toArray⟩, .slice none 0 0, .slice none 0 0, .int .u8 (tca : Int), .int .u32 (tcb : Int), .int .u8 (tck : Int), .string ⟨tcs.toArray⟩, .string ⟨tct.toArray⟩, .string ⟨tcu.toArray⟩, .int .u8 (tcz : Int), .int .u8 (tco : Int), .string ⟨tte.toArray⟩]) rfl (by kernel_rfl) (by kernel_rfl) (by kernel_rfl) rfl rfl (fun _ _ _ h => h) ⟨_, _, rfl, rfl, rfl⟩ (fun ρ w E H => ex_load (part := [.int .u8 (ts : Int), .int .u8 (td : Int), .int .u8 (tk : Int), .int .u64 (tbn : Int), .int .u8 (tbr : Int), .int .u64 (tba : Int), .int .u64 (tsl : Int), .int .u8 (tno : Int), .string ⟨tv.toArray⟩, .slice none 0 0, .slice none 0 0, .int .u8 (tca : Int), .int .u32 (tcb : Int), .int .u8 (tck : Int), .string ⟨tcs.toArray⟩, .string ⟨tct.toArray⟩, .string ⟨tcu.toArray⟩, .int .u8 (tcz : Int), .int .u8 (tco : Int), .string ⟨tte.toArray⟩]) E (H.get (i := 6) rfl) rfl rfl Try.underlying47 rfl sz_palaver_api_Letter rfl rfl) ?_
                refine SxA.ready [6] (by kernel_rfl) (by simp) ⟨?_, trivial⟩
                refine SxO.callB (v := .bool true) rfl ⟨_, _, rfl, rfl, rfl⟩ rfl rfl (fun ρ w E => ex_call E en_palaver_palaverlaw27_same rfl rfl) (fun w H => lsame_any ts td tk tbn tbr tba tsl tno tca tcb tck tcz tco tv tcs tct tcu tte w) (fun w H => H.ks [] [0, 1, 2, 3, 4, 5, 6, 7, 8, 9, 10, 11] rfl ⟨(fun g hg => by rw [List.mem_singleton.1 hg]; exact .inr hg21), (fun g hg => by rw [List.mem_singleton.1 hg]; exact .inr hg19), (fun g hg => by rw [List.mem_singleton.1 hg]; exact .inr hg18), (fun g hg => by rw [List.mem_singleton.1 hg]; exact .inr hg17), (fun g hg => by rw [List.mem_singleton.1 hg]; exact .inr hg16), (fun g hg => by rw [List.mem_singleton.1 hg]; exact .inr hg15), (fun g hg => by rw [List.mem_singleton.1 hg]; exact .inr hg4), (fun g hg => by rw [List.mem_singleton.1 hg]; exact .inr hg3), (fun g hg => by rw [List.mem_singleton.1 hg]; exact .inr hg2), (fun g hg => .inr (hV.fresh g hg)), (fun g hg => by rw [List.mem_singleton.1 hg]; exact .inr hgc), (fun g hg => by rw [List.mem_singleton.1 hg]; exact .inr hg1), trivial⟩) ?_
                refine SxA.take (i := 7) (v := .bool false) rfl (by kernel_rfl) (by kernel_rfl) (by kernel_rfl) rfl rfl (fun _ _ _ h => h) ⟨_, _, rfl, rfl, rfl⟩ (fun ρ w E H => ex_not (t := true) E rfl rfl) ?_
                refine SxA.take (i := 8) (v := .bool false) rfl (by kernel_rfl) (by kernel_rfl) (by kernel_rfl) rfl rfl (fun _ _ _ h => h) trivial (fun ρ w E H => ex_pick E rfl (t := false) rfl rfl) ?_
                refine SxA.take (i := 9) (v := .bool false) rfl (by kernel_rfl) (by kernel_rfl) (by kernel_rfl) rfl rfl (fun _ _ _ h => h) trivial (fun ρ w E H => ex_move E rfl rfl) ?_
                refine SxA.take (i := 10) (v := .bool true) rfl (by kernel_rfl) (by kernel_rfl) (by kernel_rfl) rfl rfl (fun _ _ _ h => h) ⟨_, _, rfl, rfl, rfl⟩ (fun ρ w E H => ex_move E rfl rfl) ?_
                refine SxA.take (i := 11) (v := .pointer (some ⟨g1, 3, none⟩)) rfl (by kernel_rfl) (by kernel_rfl) (by kernel_rfl) rfl rfl (fun _ _ _ h => h) ⟨_, _, rfl, rfl, rfl⟩ (fun ρ w E H => ex_field E rfl fa_palaver_palaverref27_Client_3 rfl rfl) ?_
                refine SxA.take (i := 12) (v := .bool true) rfl (by kernel_rfl) (by kernel_rfl) (by kernel_rfl) rfl rfl (fun _ _ _ h => h) ⟨_, _, rfl, rfl, rfl⟩ (fun ρ w E H => ex_load1 E (H.get (i := 11) rfl) rfl rfl Try.underlying4 rfl rfl) ?_
                refine SxA.take (i := 13) (v := .bool false) rfl (by kernel_rfl) (by kernel_rfl) (by kernel_rfl) rfl rfl (fun _ _ _ h => h) ⟨_, _, rfl, rfl, rfl⟩ (fun ρ w E H => ex_bneq E rfl Try.underlying4 rfl rfl (by simp)) ?_
                refine SxA.take (i := 14) (v := .bool false) rfl (by kernel_rfl) (by kernel_rfl) (by kernel_rfl) rfl rfl (fun _ _ _ h => h) trivial (fun ρ w E H => ex_pick E rfl (t := false) rfl rfl) ?_
                refine SxA.take (i := 15) (v := .bool false) rfl (by kernel_rfl) (by kernel_rfl) (by kernel_rfl) rfl rfl (fun _ _ _ h => h) trivial (fun ρ w E H => ex_move E rfl rfl) ?_
                refine SxA.take (i := 16) (v := .bool true) rfl (by kernel_rfl) (by kernel_rfl) (by kernel_rfl) rfl rfl (fun _ _ _ h => h) ⟨_, _, rfl, rfl, rfl⟩ (fun ρ w E H => ex_move E rfl rfl) ?_
                refine SxA.take (i := 17) (v := .bool true) rfl (by kernel_rfl) (by kernel_rfl) (by kernel_rfl) rfl rfl (fun _ _ _ h => h) ⟨_, _, rfl, rfl, rfl⟩ (fun ρ w E H => ex_move E rfl rfl) ?_
                refine SxA.take (i := 18) (v := .agg #[.int .u8 (qa : Int), .int .u32 (qb : Int), .int .u8 (qk : Int), .string ⟨qs.toArray⟩, .string ⟨qt.toArray⟩, .string ⟨qu.toArray⟩, .int .u8 (qz : Int)]) rfl (by kernel_rfl) (by kernel_rfl) (by kernel_rfl) rfl rfl (fun _ _ _ h => h) ⟨_, _, rfl, rfl, rfl⟩ (fun ρ w E H => ex_load (part := [.int .u8 (qa : Int), .int .u32 (qb : Int), .int .u8 (qk : Int), .string ⟨qs.toArray⟩, .string ⟨qt.toArray⟩, .string ⟨qu.toArray⟩, .int .u8 (qz : Int)]) E (H.get (i := 0) rfl) rfl rfl Try.underlying36 rfl sz_palaver_api_Cmd rfl rfl) ?_
                refine SxA.take (i := 19) (v := .agg #[.int .u8 (hI : Int), .int .i64 (hN : Int), .slice AV rL.length kV, .bool true, .int .u8 (hd : Int)]) rfl (by kernel_rfl) (by kernel_rfl) (by kernel_rfl) rfl rfl (fun _ _ _ h => h) ⟨_, _, rfl, rfl, rfl⟩ (fun ρ w E H => ex_load (part := [.int .u8 (hI : Int), .int .i64 (hN : Int), .slice AV rL.length kV, .bool true, .int .u8 (hd : Int)]) E (H.get (i := 11) rfl) rfl rfl Try.underlying32 rfl sz_palaver_palaverref27_Client rfl rfl) ?_
                refine SxA.ready [20] (by kernel_rfl) (by simp) ⟨?_, trivial⟩
                refine SxO.callB (v := .agg #[.int .u8 (qa : Int), .int .u32 (qb : Int), .int .u8 (qk : Int), .string ⟨qs.toArray⟩, .string ⟨qt.toArray⟩, .string ⟨qu.toArray⟩, .int .u8 (qz : Int)]) rfl ⟨_, _, rfl, rfl, rfl⟩ rfl rfl (fun ρ w E => ex_call E en_palaver_palaverref27_Client_Last rfl rfl) (fun w H => (rlast_any (⟨hI, hN, rL, true, hd⟩ : Rc) (rL.length) rfl (by (try dsimp only); (try rw [List.length_append, List.length_singleton]); omega) AV kV w (ownC_read (H.get (i := 9) rfl))).mono fun _ _ h => ⟨by rw [h.1]; exact congrArg (fun c => Ending.returned (cmV c)) hq, h.2⟩) (fun w H => H.ks [] [0, 1, 2, 3, 4, 5, 6, 7, 8, 9, 10, 11] rfl ⟨(fun g hg => by rw [List.mem_singleton.1 hg]; exact .inr hg21), (fun g hg => by rw [List.mem_singleton.1 hg]; exact .inr hg19), (fun g hg => by rw [List.mem_singleton.1 hg]; exact .inr hg18), (fun g hg => by rw [List.mem_singleton.1 hg]; exact .inr hg17), (fun g hg => by rw [List.mem_singleton.1 hg]; exact .inr hg16), (fun g hg => by rw [List.mem_singleton.1 hg]; exact .inr hg15), (fun g hg => by rw [List.mem_singleton.1 hg]; exact .inr hg4), (fun g hg => by rw [List.mem_singleton.1 hg]; exact .inr hg3), (fun g hg => by rw [List.mem_singleton.1 hg]; exact .inr hg2), (fun g hg => .inr (hV.fresh g hg)), (fun g hg => by rw [List.mem_singleton.1 hg]; exact .inr hgc), (fun g hg => by rw [List.mem_singleton.1 hg]; exact .inr hg1), trivial⟩) ?_
                refine SxA.take (i := 21) (v := .bool false) rfl (by kernel_rfl) (by kernel_rfl) (by kernel_rfl) rfl rfl (fun _ _ _ h => h) ⟨_, _, rfl, rfl, rfl⟩ (fun ρ w E H => ex_aneq E rfl (by kernel_rfl) rfl rfl (fun w => by rw [Bool.not_false]; exact eq_cmm (⟨qa, qb, qk, qs, qt, qu, qz⟩ : Cm) w)) ?_
                refine SxA.take (i := 22) (v := .bool false) rfl (by kernel_rfl) (by kernel_rfl) (by kernel_rfl) rfl rfl (fun _ _ _ h => h) ⟨_, _, rfl, rfl, rfl⟩ (fun ρ w E H => ex_pick E rfl (t := true) rfl rfl) ?_
                refine SxA.take (i := 23) (v := .bool false) rfl (by kernel_rfl) (by kernel_rfl) (by kernel_rfl) rfl rfl (fun _ _ _ h => h) trivial (fun ρ w E H => ex_pick E rfl (t := false) rfl rfl) ?_
                refine SxA.take (i := 24) (v := .bool false) rfl (by kernel_rfl) (by kernel_rfl) (by kernel_rfl) rfl rfl (fun _ _ _ h => h) trivial (fun ρ w E H => ex_move E rfl rfl) ?_
                refine SxA.take (i := 25) (v := .bool true) rfl (by kernel_rfl) (by kernel_rfl) (by kernel_rfl) rfl rfl (fun _ _ _ h => h) ⟨_, _, rfl, rfl, rfl⟩ (fun ρ w E H => ex_move E rfl rfl) ?_
                refine SxA.take (i := 26) (v := .bool false) rfl (by kernel_rfl) (by kernel_rfl) (by kernel_rfl) rfl rfl (fun _ _ _ h => h) ⟨_, _, rfl, rfl, rfl⟩ (fun ρ w E H => ex_not (t := true) E rfl rfl) ?_
                refine SxA.take (i := 27) (v := .bool false) rfl (by kernel_rfl) (by kernel_rfl) (by kernel_rfl) rfl rfl (fun _ _ _ h => h) ⟨_, _, rfl, rfl, rfl⟩ (fun ρ w E H => ex_move E rfl rfl) ?_
                refine SxA.takeOff (i := 28) rfl (by kernel_rfl) (by kernel_rfl) (by kernel_rfl) rfl rfl (fun _ _ _ h => h) ⟨_, _, _, rfl, rfl, rfl, nofun⟩ ?_
                refine SxA.takeOff (i := 29) rfl (by kernel_rfl) (by kernel_rfl) (by kernel_rfl) rfl rfl (fun _ _ _ h => h) ⟨_, _, _, rfl, rfl, rfl, nofun⟩ ?_
                refine SxA.takeOff (i := 30) rfl (by kernel_rfl) (by kernel_rfl) (by kernel_rfl) rfl rfl (fun _ _ _ h => h) ⟨_, _, _, rfl, rfl, rfl, nofun⟩ ?_
                refine SxA.take (i := 31) (v := .bool false) rfl (by kernel_rfl) (by kernel_rfl) (by kernel_rfl) rfl rfl (fun _ _ _ h => h) ⟨_, _, rfl, rfl, rfl⟩ (fun ρ w E H => ex_pick E rfl (t := false) rfl rfl) ?_
                refine SxA.take (i := 32) (v := .bool false) rfl (by kernel_rfl) (by kernel_rfl) (by kernel_rfl) rfl rfl (fun _ _ _ h => h) trivial (fun ρ w E H => ex_pick E rfl (t := false) rfl rfl) ?_
                refine SxA.done (by kernel_rfl) ?_
                refine SxN.then_ ?_
                refine SxC.condF rfl ?_
                refine SxC.skip ?_
                refine SxN.block ?_
                refine SxN.then_ ?_
                refine SxC.region ?_
                refine SxL.val (v := .int .i64 (i : Int)) trivial rfl rfl (fun ρ w E H => ex_move E rfl rfl) ?_
                refine SxL.val (v := .int .i64 ((i + 1 : Nat) : Int)) trivial rfl rfl (fun ρ w E H => ex_add E rfl rfl rfl (by rw [IntKind.wrap_i64]; omega)) ?_
                refine SxL.val (v := .int .i64 ((i + 1 : Nat) : Int)) trivial rfl rfl (fun ρ w E H => ex_assign E rfl rfl) ?_
                refine SxL.nil ?_
                refine SxN.back (gk - 1) (i + 1, x2, (⟨hI, hN, rL, true, hd⟩ : Rc), (.slice AV rL.length kV)) (by omega) ⟨by omega, hi2, hxf2, (by dsimp only; omega), hV⟩ ⟨rfl, rfl, rfl, rfl, trivial⟩ [9, 10, 11] rfl (by decide) ⟨.inr (fun g hg => by rw [List.mem_singleton.1 hg]; exact hg21), .inr (fun g hg => by rw [List.mem_singleton.1 hg]; exact hg19), .inr (fun g hg => by rw [List.mem_singleton.1 hg]; exact hg18), .inr (fun g hg => by rw [List.mem_singleton.1 hg]; exact hg17), .inr (fun g hg => by rw [List.mem_singleton.1 hg]; exact hg16), .inr (fun g hg => by rw [List.mem_singleton.1 hg]; exact hg15), .inr (fun g hg => by rw [List.mem_singleton.1 hg]; exact hg4), .inr (fun g hg => by rw [List.mem_singleton.1 hg]; exact hg3), .inr (fun g hg => by rw [List.mem_singleton.1 hg]; exact hg2), .inl rfl, .inl rfl, .inl rfl, trivial⟩
            · refine SxC.condT rfl ?_
              refine SxC.seq ?_
              have hnr := nud_rel hrel hxf.h4
              have hxf2 := nud_fits hxf
              obtain ⟨x2, hx2⟩ : ∃ y, (nudgeC x).1 = y := ⟨_, rfl⟩
              rw [hx2] at hnr hxf2
              obtain ⟨td, htd⟩ : ∃ t, turnR (⟨rid, rn, rL, true, rdst⟩ : Rc) = t := ⟨_, rfl⟩
              have hN : nudR (⟨rid, rn, rL, true, rdst⟩ : Rc) = ((⟨rid, rn, rL, true, td⟩ : Rc), ⟨16 + rid, td, 1, 0, 0, 0, 0, 0, [], .slice none 0 0, .slice none 0 0, ⟨qa, qb, qk, qs, qt, qu, qz⟩, 0, []⟩, 0) := by unfold nudR; dsimp only; rw [htd, if_pos rfl, ask_last hq]
              have hN2 := hN
              rw [hN] at hnr
              obtain ⟨hi1, hi2⟩ := hnr
              have hnud : nudgeC x = (x2, ⟨16 + rid, td, 1, 0, 0, 0, 0, 0, [], .slice none 0 0, .slice none 0 0, ⟨qa, qb, qk, qs, qt, qu, qz⟩, 0, []⟩, 0) := Prod.ext hx2 hi1
              refine SxC.region ?_
              refine SxL.val (v := .pointer (some ⟨gc, 0, none⟩)) trivial rfl rfl (fun ρ w E H => ex_move E rfl rfl) ?_
              refine SxL.call (σ := Unit) (fun _ => .tuple #[.agg #[.int .u8 ((16 + rid : Nat) : Int), .int .u8 (td : Int), .int .u8 1, .int .u64 0, .int .u8 0, .int .u64 0, .int .u64 0, .int .u8 0, .string ⟨[].toArray⟩, .slice none 0 0, .slice none 0 0, .int .u8 (qa : Int), .int .u32 (qb : Int), .int .u8 (qk : Int), .string ⟨qs.toArray⟩, .string ⟨qt.toArray⟩, .string ⟨qu.toArray⟩, .int .u8 (qz : Int), .int .u8 0, .string ⟨[].toArray⟩], .int .i64 0]) (fun _ => True) (fun _ => _) trivial rfl rfl (fun ρ w E => ex_call E en_palaver_client_Client_Nudge rfl rfl) (callTurn (i := 4) (cell gc 81 [.int .u8 (x2.id : Int), .int .i64 (x2.n : Int), .int .u8 (x2.node : Int), .int .u32 (x2.seq : Int), .int .u8 (x2.cmd.client : Int), .int .u32 (x2.cmd.seq : Int), .int .u8 (x2.cmd.kind : Int), .string ⟨x2.cmd.key.toArray⟩, .string ⟨x2.cmd.old.toArray⟩, .string ⟨x2.cmd.new.toArray⟩, .int .u8 (x2.cmd.set : Int), .bool (x2.waits)]) rfl (cell_loc _ _ _) rfl (fun w H => (nud_turn hxf hnud w (H.get (i := 4) rfl)).mono fun _ _ h => turn_rd h)) fun _ _ => ?_
              refine SxL.val (v := .tuple #[.agg #[.int .u8 ((16 + rid : Nat) : Int), .int .u8 (td : Int), .int .u8 1, .int .u64 0, .int .u8 0, .int .u64 0, .int .u64 0, .int .u8 0, .string ⟨[].toArray⟩, .slice none 0 0, .slice none 0 0, .int .u8 (qa : Int), .int .u32 (qb : Int), .int .u8 (qk : Int), .string ⟨qs.toArray⟩, .string ⟨qt.toArray⟩, .string ⟨qu.toArray⟩, .int .u8 (qz : Int), .int .u8 0, .string ⟨[].toArray⟩], .int .i64 0]) trivial rfl rfl (fun ρ w E H => ex_move E rfl rfl) ?_
              refine SxL.val (v := .agg #[.int .u8 ((16 + rid : Nat) : Int), .int .u8 (td : Int), .int .u8 1, .int .u64 0, .int .u8 0, .int .u64 0, .int .u64 0, .int .u8 0, .string ⟨[].toArray⟩, .slice none 0 0, .slice none 0 0, .int .u8 (qa : Int), .int .u32 (qb : Int), .int .u8 (qk : Int), .string ⟨qs.toArray⟩, .string ⟨qt.toArray⟩, .string ⟨qu.toArray⟩, .int .u8 (qz : Int), .int .u8 0, .string ⟨[].toArray⟩]) trivial rfl rfl (fun ρ w E H => ex_extract E rfl rfl rfl) ?_
              refine SxL.val (v := .int .i64 0) trivial rfl rfl (fun ρ w E H => ex_extract E rfl rfl rfl) ?_
              refine SxL.storeX (i := 1) [.int .u8 ((16 + rid : Nat) : Int), .int .u8 (td : Int), .int .u8 1, .int .u64 0, .int .u8 0, .int .u64 0, .int .u64 0, .int .u8 0, .string ⟨[].toArray⟩, .slice none 0 0, .slice none 0 0, .int .u8 (qa : Int), .int .u32 (qb : Int), .int .u8 (qk : Int), .string ⟨qs.toArray⟩, .string ⟨qt.toArray⟩, .string ⟨qu.toArray⟩, .int .u8 (qz : Int), .int .u8 0, .string ⟨[].toArray⟩] trivial rfl rfl rfl rfl rfl sz_palaver_api_Letter rfl rfl rfl (putL_all _ _ rfl) ?_
              refine SxL.val (v := .int .i64 0) trivial rfl rfl (fun ρ w E H => ex_assign E rfl rfl) ?_
              refine SxL.nil ?_
              refine SxN.then_ ?_
              refine SxC.region ?_
              refine SxL.val (v := .agg #[.int .u8 (rid : Int), .int .i64 (rn : Int), .slice AV rL.length kV, .bool true, .int .u8 (rdst : Int)]) trivial rfl rfl (fun ρ w E H => ex_load (part := [.int .u8 (rid : Int), .int .i64 (rn : Int), .slice AV rL.length kV, .bool true, .int .u8 (rdst : Int)]) E (H.get (i := 5) rfl) rfl rfl Try.underlying32 rfl sz_palaver_palaverref27_Client rfl rfl) ?_
              refine SxL.callB (v := .tuple #[.agg #[.int .u8 (rid : Int), .int .i64 (rn : Int), .slice AV rL.length kV, .bool true, .int .u8 (td : Int)], .agg #[.int .u8 ((16 + rid : Nat) : Int), .int .u8 (td : Int), .int .u8 1, .int .u64 0, .int .u8 0, .int .u64 0, .int .u64 0, .int .u8 0, .string ⟨[].toArray⟩, .slice none 0 0, .slice none 0 0, .int .u8 (qa : Int), .int .u32 (qb : Int), .int .u8 (qk : Int), .string ⟨qs.toArray⟩, .string ⟨qt.toArray⟩, .string ⟨qu.toArray⟩, .int .u8 (qz : Int), .int .u8 0, .string ⟨[].toArray⟩], .int .i64 0]) trivial rfl rfl (fun ρ w E => ex_call E en_palaver_palaverref27_Client_Nudge rfl rfl) (fun w H => (rnudge_any (⟨rid, rn, rL, true, rdst⟩ : Rc) hid hd7 rL.length rfl (by omega) AV kV w (ownC_read (H.get (i := 3) rfl))).mono fun _ _ h => ⟨by rw [h.1, hN2]; rfl, h.2⟩) ?_
              refine SxL.val (v := .tuple #[.agg #[.int .u8 (rid : Int), .int .i64 (rn : Int), .slice AV rL.length kV, .bool true, .int .u8 (td : Int)], .agg #[.int .u8 ((16 + rid : Nat) : Int), .int .u8 (td : Int), .int .u8 1, .int .u64 0, .int .u8 0, .int .u64 0, .int .u64 0, .int .u8 0, .string ⟨[].toArray⟩, .slice none 0 0, .slice none 0 0, .int .u8 (qa : Int), .int .u32 (qb : Int), .int .u8 (qk : Int), .string ⟨qs.toArray⟩, .string ⟨qt.toArray⟩, .string ⟨qu.toArray⟩, .int .u8 (qz : Int), .int .u8 0, .string ⟨[].toArray⟩], .int .i64 0]) trivial rfl rfl (fun ρ w E H => ex_move E rfl rfl) ?_
              refine SxL.val (v := .agg #[.int .u8 (rid : Int), .int .i64 (rn : Int), .slice AV rL.length kV, .bool true, .int .u8 (td : Int)]) trivial rfl rfl (fun ρ w E H => ex_extract E rfl rfl rfl) ?_
              refine SxL.val (v := .agg #[.int .u8 ((16 + rid : Nat) : Int), .int .u8 (td : Int), .int .u8 1, .int .u64 0, .int .u8 0, .int .u64 0, .int .u64 0, .int .u8 0, .string ⟨[].toArray⟩, .slice none 0 0, .slice none 0 0, .int .u8 (qa : Int), .int .u32 (qb : Int), .int .u8 (qk : Int), .string ⟨qs.toArray⟩, .string ⟨qt.toArray⟩, .string ⟨qu.toArray⟩, .int .u8 (qz : Int), .int .u8 0, .string ⟨[].toArray⟩]) trivial rfl rfl (fun ρ w E H => ex_extract E rfl rfl rfl) ?_
              refine SxL.val (v := .int .i64 0) trivial rfl rfl (fun ρ w E H => ex_extract E rfl rfl rfl) ?_
              refine SxL.storeX (i := 5) [.int .u8 (rid : Int), .int .i64 (rn : Int), .slice AV rL.length kV, .bool true, .int .u8 (td : Int)] trivial rfl rfl rfl rfl rfl sz_palaver_palaverref27_Client rfl rfl rfl (putL_all _ _ rfl) ?_
              refine SxL.storeX (i := 0) [.int .u8 ((16 + rid : Nat) : Int), .int .u8 (td : Int), .int .u8 1, .int .u64 0, .int .u8 0, .int .u64 0, .int .u64 0, .int .u8 0, .string ⟨[].toArray⟩, .slice none 0 0, .slice none 0 0, .int .u8 (qa : Int), .int .u32 (qb : Int), .int .u8 (qk : Int), .string ⟨qs.toArray⟩, .string ⟨qt.toArray⟩, .string ⟨qu.toArray⟩, .int .u8 (qz : Int), .int .u8 0, .string ⟨[].toArray⟩] trivial rfl rfl rfl rfl rfl sz_palaver_api_Letter rfl rfl rfl (putL_all _ _ rfl) ?_
              refine SxL.val (v := .int .i64 0) trivial rfl rfl (fun ρ w E H => ex_assign E rfl rfl) ?_
              refine SxL.nil ?_
              refine SxN.block ?_
              refine SxN.then_ ?_
              refine SxC.seq ?_
              have hwt : x2.waits = true := hi2.waits
              have hww : waitsC x2 = (⟨qa, qb, qk, qs, qt, qu, qz⟩, true) := by unfold waitsC; rw [hwt, if_pos rfl, hi2.cmd hwt]; exact congrArg (fun c => (c, true)) hq
              refine SxC.region ?_
              refine SxL.val (v := .pointer (some ⟨gc, 0, none⟩)) trivial rfl rfl (fun ρ w E H => ex_move E rfl rfl) ?_
              refine SxL.callB (v := .tuple #[.agg #[.int .u8 (qa : Int), .int .u32 (qb : Int), .int .u8 (qk : Int), .string ⟨qs.toArray⟩, .string ⟨qt.toArray⟩, .string ⟨qu.toArray⟩, .int .u8 (qz : Int)], .bool true]) trivial rfl rfl (fun ρ w E => ex_call E en_palaver_client_Client_Waits rfl rfl) (fun w H => waits_p hww w (H.get (i := 4) rfl)) ?_
              refine SxL.val (v := .tuple #[.agg #[.int .u8 (qa : Int), .int .u32 (qb : Int), .int .u8 (qk : Int), .string ⟨qs.toArray⟩, .string ⟨qt.toArray⟩, .string ⟨qu.toArray⟩, .int .u8 (qz : Int)], .bool true]) trivial rfl rfl (fun ρ w E H => ex_move E rfl rfl) ?_
              refine SxL.val (v := .agg #[.int .u8 (qa : Int), .int .u32 (qb : Int), .int .u8 (qk : Int), .string ⟨qs.toArray⟩, .string ⟨qt.toArray⟩, .string ⟨qu.toArray⟩, .int .u8 (qz : Int)]) trivial rfl rfl (fun ρ w E H => ex_extract E rfl rfl rfl) ?_
              refine SxL.val (v := .bool true) trivial rfl rfl (fun ρ w E H => ex_extract E rfl rfl rfl) ?_
              refine SxL.new (cs := [.int .u8 0, .int .u32 0, .int .u8 0, .string ⟨[].toArray⟩, .string ⟨[].toArray⟩, .string ⟨[].toArray⟩, .int .u8 0]) trivial rfl rfl (fun ρ w E H => ex_alloc rfl zr_palaver_api_Cmd rfl) fun g22 hg22 => ?_
              refine SxL.storeX (i := 0) [.int .u8 (qa : Int), .int .u32 (qb : Int), .int .u8 (qk : Int), .string ⟨qs.toArray⟩, .string ⟨qt.toArray⟩, .string ⟨qu.toArray⟩, .int .u8 (qz : Int)] trivial rfl rfl rfl rfl rfl sz_palaver_api_Cmd rfl rfl rfl (putL_all _ _ rfl) ?_
              refine SxL.val (v := .bool true) trivial rfl rfl (fun ρ w E H => ex_assign E rfl rfl) ?_
              refine SxL.nil ?_
              refine SxN.then_ ?_
              refine SxC.seq ?_
              refine SxC.drawnK [] [0, 1, 2, 3, 4, 5, 6] (by kernel_rfl) rfl ⟨(fun g hg => by rw [List.mem_singleton.1 hg]; exact .inr hg22), (fun g hg => by rw [List.mem_singleton.1 hg]; exact .inr hg4), (fun g hg => by rw [List.mem_singleton.1 hg]; exact .inr hg3), (fun g hg => by rw [List.mem_singleton.1 hg]; exact .inr hg2), (fun g hg => .inr (hV.fresh g hg)), (fun g hg => by rw [List.mem_singleton.1 hg]; exact .inr hgc), (fun g hg => by rw [List.mem_singleton.1 hg]; exact .inr hg1), trivial⟩ ?_
              refine SxA.take (i := 0) (v := .int .i64 0) rfl (by kernel_rfl) (by kernel_rfl) (by kernel_rfl) rfl rfl (fun _ _ _ h => h) trivial (fun ρ w E H => ex_move E rfl rfl) ?_
              refine SxA.take (i := 1) (v := .int .i64 0) rfl (by kernel_rfl) (by kernel_rfl) (by kernel_rfl) rfl rfl (fun _ _ _ h => h) trivial (fun ρ w E H => ex_move E rfl rfl) ?_
              refine SxA.take (i := 2) (v := .bool false) rfl (by kernel_rfl) (by kernel_rfl) (by kernel_rfl) rfl rfl (fun _ _ _ h => h) trivial (fun ρ w E H => ex_cmp E rfl rfl rfl rfl (by decide)) ?_
              refine SxA.take (i := 3) (v := .bool false) rfl (by kernel_rfl) (by kernel_rfl) (by kernel_rfl) rfl rfl (fun _ _ _ h => h) trivial (fun ρ w E H => ex_move E rfl rfl) ?_
              refine SxA.take (i := 4) (v := .agg #[.int .u8 ((16 + rid : Nat) : Int), .int .u8 (td : Int), .int .u8 1, .int .u64 0, .int .u8 0, .int .u64 0, .int .u64 0, .int .u8 0, .string ⟨[].toArray⟩, .slice none 0 0, .slice none 0 0, .int .u8 (qa : Int), .int .u32 (qb : Int), .int .u8 (qk : Int), .string ⟨qs.toArray⟩, .string ⟨qt.toArray⟩, .string ⟨qu.toArray⟩, .int .u8 (qz : Int), .int .u8 0, .string ⟨[].toArray⟩]) rfl (by kernel_rfl) (by kernel_rfl) (by kernel_rfl) rfl rfl (fun _ _ _ h => h) ⟨_, _, rfl, rfl, rfl⟩ (fun ρ w E H => ex_load (part := [.int .u8 ((16 + rid : Nat) : Int), .int .u8 (td : Int), .int .u8 1, .int .u64 0, .int .u8 0, .int .u64 0, .int .u64 0, .int .u8 0, .string ⟨[].toArray⟩, .slice none 0 0, .slice none 0 0, .int .u8 (qa : Int), .int .u32 (qb : Int), .int .u8 (qk : Int), .string ⟨qs.toArray⟩, .string ⟨qt.toArray⟩, .string ⟨qu.toArray⟩, .int .u8 (qz : Int), .int .u8 0, .string ⟨[].toArray⟩]) E (H.get (i := 2) rfl) rfl rfl Try.underlying47 rfl sz_palaver_api_Letter rfl rfl) ?_
              refine SxA.take (i := 5) (v := .agg #[.int .u8 ((16 + rid : Nat) : Int), .int .u8 (td : Int), .int .u8 1, .int .u64 0, .int .u8 0, .int .u64 0, .int .u64 0, .int .u8 0, .string ⟨[].toArray⟩, .slice none 0 0, .slice none 0 0, .int .u8 (qa : Int), .int .u32 (qb : Int), .int .u8 (qk : Int), .string ⟨qs.toArray⟩, .string ⟨qt.toArray⟩, .string ⟨qu.toArray⟩, .int .u8 (qz : Int), .int .u8 0, .string ⟨[].toArray⟩]) rfl (by kernel_rfl) (by kernel_rfl) (by kernel_rfl) rfl rfl (fun _ _ _ h => h) ⟨_, _, rfl, rfl, rfl⟩ (fun ρ w E H => ex_load (part := [.int .u8 ((16 + rid : Nat) : Int), .int .u8 (td : Int), .int .u8 1, .int .u64 0, .int .u8 0, .int .u64 0, .int .u64 0, .int .u8 0, .string ⟨[].toArray⟩, .slice none 0 0, .slice none 0 0, .int .u8 (qa : Int), .int .u32 (qb : Int), .int .u8 (qk : Int), .string ⟨qs.toArray⟩, .string ⟨qt.toArray⟩, .string ⟨qu.toArray⟩, .int .u8 (qz : Int), .int .u8 0, .string ⟨[].toArray⟩]) E (H.get (i := 1) rfl) rfl rfl Try.underlying47 rfl sz_palaver_api_Letter rfl rfl) ?_
              refine SxA.ready [6] (by kernel_rfl) (by simp) ⟨?_, trivial⟩
              refine SxO.callB (v := .bool true) rfl ⟨_, _, rfl, rfl, rfl⟩ rfl rfl (fun ρ w E => ex_call E en_palaver_palaverlaw27_same rfl rfl) (fun w H => lsame_any (16 + rid : Nat) td 1 0 0 0 0 0 qa qb qk qz 0 [] qs qt qu [] w) (fun w H => H.ks [] [0, 1, 2, 3, 4, 5, 6] rfl ⟨(fun g hg => by rw [List.mem_singleton.1 hg]; exact .inr hg22), (fun g hg => by rw [List.mem_singleton.1 hg]; exact .inr hg4), (fun g hg => by rw [List.mem_singleton.1 hg]; exact .inr hg3), (fun g hg => by rw [List.mem_singleton.1 hg]; exact .inr hg2), (fun g hg => .inr (hV.fresh g hg)), (fun g hg => by rw [List.mem_singleton.1 hg]; exact .inr hgc), (fun g hg => by rw [List.mem_singleton.1 hg]; exact .inr hg1), trivial⟩) ?_
              refine SxA.take (i := 7) (v := .bool false) rfl (by kernel_rfl) (by kernel_rfl) (by kernel_rfl) rfl rfl (fun _ _ _ h => h) ⟨_, _, rfl, rfl, rfl⟩ (fun ρ w E H => ex_not (t := true) E rfl rfl) ?_
              refine SxA.take (i := 8) (v := .bool false) rfl (by kernel_rfl) (by kernel_rfl) (by kernel_rfl) rfl rfl (fun _ _ _ h => h) trivial (fun ρ w E H => ex_pick E rfl (t := false) rfl rfl) ?_
              refine SxA.take (i := 9) (v := .bool false) rfl (by kernel_rfl) (by kernel_rfl) (by kernel_rfl) rfl rfl (fun _ _ _ h => h) trivial (fun ρ w E H => ex_move E rfl rfl) ?_
              refine SxA.take (i := 10) (v := .bool true) rfl (by kernel_rfl) (by kernel_rfl) (by kernel_rfl) rfl rfl (fun _ _ _ h => h) ⟨_, _, rfl, rfl, rfl⟩ (fun ρ w E H => ex_move E rfl rfl) ?_
              refine SxA.take (i := 11) (v := .pointer (some ⟨g1, 3, none⟩)) rfl (by kernel_rfl) (by kernel_rfl) (by kernel_rfl) rfl rfl (fun _ _ _ h => h) ⟨_, _, rfl, rfl, rfl⟩ (fun ρ w E H => ex_field E rfl fa_palaver_palaverref27_Client_3 rfl rfl) ?_
              refine SxA.take (i := 12) (v := .bool true) rfl (by kernel_rfl) (by kernel_rfl) (by kernel_rfl) rfl rfl (fun _ _ _ h => h) ⟨_, _, rfl, rfl, rfl⟩ (fun ρ w E H => ex_load1 E (H.get (i := 6) rfl) rfl rfl Try.underlying4 rfl rfl) ?_
              refine SxA.take (i := 13) (v := .bool false) rfl (by kernel_rfl) (by kernel_rfl) (by kernel_rfl) rfl rfl (fun _ _ _ h => h) ⟨_, _, rfl, rfl, rfl⟩ (fun ρ w E H => ex_bneq E rfl Try.underlying4 rfl rfl (by simp)) ?_
              refine SxA.take (i := 14) (v := .bool false) rfl (by kernel_rfl) (by kernel_rfl) (by kernel_rfl) rfl rfl (fun _ _ _ h => h) trivial (fun ρ w E H => ex_pick E rfl (t := false) rfl rfl) ?_
              refine SxA.take (i := 15) (v := .bool false) rfl (by kernel_rfl) (by kernel_rfl) (by kernel_rfl) rfl rfl (fun _ _ _ h => h) trivial (fun ρ w E H => ex_move E rfl rfl) ?_
              refine SxA.take (i := 16) (v := .bool true) rfl (by kernel_rfl) (by kernel_rfl) (by kernel_rfl) rfl rfl (fun _ _ _ h => h) ⟨_, _, rfl, rfl, rfl⟩ (fun ρ w E H => ex_move E rfl rfl) ?_
              refine SxA.take (i := 17) (v := .bool true) rfl (by kernel_rfl) (by kernel_rfl) (by kernel_rfl) rfl rfl (fun _ _ _ h => h) ⟨_, _, rfl, rfl, rfl⟩ (fun ρ w E H => ex_move E rfl rfl) ?_
              refine SxA.take (i := 18) (v := .agg #[.int .u8 (qa : Int), .int .u32 (qb : Int), .int .u8 (qk : Int), .string ⟨qs.toArray⟩, .string ⟨qt.toArray⟩, .string ⟨qu.toArray⟩, .int .u8 (qz : Int)]) rfl (by kernel_rfl) (by kernel_rfl) (by kernel_rfl) rfl rfl (fun _ _ _ h => h) ⟨_, _, rfl, rfl, rfl⟩ (fun ρ w E H => ex_load (part := [.int .u8 (qa : Int), .int .u32 (qb : Int), .int .u8 (qk : Int), .string ⟨qs.toArray⟩, .string ⟨qt.toArray⟩, .string ⟨qu.toArray⟩, .int .u8 (qz : Int)]) E (H.get (i := 0) rfl) rfl rfl Try.underlying36 rfl sz_palaver_api_Cmd rfl rfl) ?_
              refine SxA.take (i := 19) (v := .agg #[.int .u8 (rid : Int), .int .i64 (rn : Int), .slice AV rL.length kV, .bool true, .int .u8 (td : Int)]) rfl (by kernel_rfl) (by kernel_rfl) (by kernel_rfl) rfl rfl (fun _ _ _ h => h) ⟨_, _, rfl, rfl, rfl⟩ (fun ρ w E H => ex_load (part := [.int .u8 (rid : Int), .int .i64 (rn : Int), .slice AV rL.length kV, .bool true, .int .u8 (td : Int)]) E (H.get (i := 6) rfl) rfl rfl Try.underlying32 rfl sz_palaver_palaverref27_Client rfl rfl) ?_
              refine SxA.ready [20] (by kernel_rfl) (by simp) ⟨?_, trivial⟩
              refine SxO.callB (v := .agg #[.int .u8 (qa : Int), .int .u32 (qb : Int), .int .u8 (qk : Int), .string ⟨qs.toArray⟩, .string ⟨qt.toArray⟩, .string ⟨qu.toArray⟩, .int .u8 (qz : Int)]) rfl ⟨_, _, rfl, rfl, rfl⟩ rfl rfl (fun ρ w E => ex_call E en_palaver_palaverref27_Client_Last rfl rfl) (fun w H => (rlast_any (⟨rid, rn, rL, true, td⟩ : Rc) (rL.length) rfl (by (try dsimp only); (try rw [List.length_append, List.length_singleton]); omega) AV kV w (ownC_read (H.get (i := 4) rfl))).mono fun _ _ h => ⟨by rw [h.1]; exact congrArg (fun c => Ending.returned (cmV c)) hq, h.2⟩) (fun w H => H.ks [] [0, 1, 2, 3, 4, 5, 6] rfl ⟨(fun g hg => by rw [List.mem_singleton.1 hg]; exact .inr hg22), (fun g hg => by rw [List.mem_singleton.1 hg]; exact .inr hg4), (fun g hg => by rw [List.mem_singleton.1 hg]; exact .inr hg3), (fun g hg => by rw [List.mem_singleton.1 hg]; exact .inr hg2), (fun g hg => .inr (hV.fresh g hg)), (fun g hg => by rw [List.mem_singleton.1 hg]; exact .inr hgc), (fun g hg => by rw [List.mem_singleton.1 hg]; exact .inr hg1), trivial⟩) ?_
              refine SxA.take (i := 21) (v := .bool false) rfl (by kernel_rfl) (by kernel_rfl) (by kernel_rfl) rfl rfl (fun _ _ _ h => h) ⟨_, _, rfl, rfl, rfl⟩ (fun ρ w E H => ex_aneq E rfl (by kernel_rfl) rfl rfl (fun w => by rw [Bool.not_false]; exact eq_cmm (⟨qa, qb, qk, qs, qt, qu, qz⟩ : Cm) w)) ?_
              refine SxA.take (i := 22) (v := .bool false) rfl (by kernel_rfl) (by kernel_rfl) (by kernel_rfl) rfl rfl (fun _ _ _ h => h) ⟨_, _, rfl, rfl, rfl⟩ (fun ρ w E H => ex_pick E rfl (t := true) rfl rfl) ?_
              refine SxA.take (i := 23) (v := .bool false) rfl (by kernel_rfl) (by kernel_rfl) (by kernel_rfl) rfl rfl (fun _ _ _ h => h) trivial (fun ρ w E H => ex_pick E rfl (t := false) rfl rfl) ?_
              refine SxA.take (i := 24) (v := .bool false) rfl (by kernel_rfl) (by kernel_rfl) (by kernel_rfl) rfl rfl (fun _ _ _ h => h) trivial (fun ρ w E H => ex_move E rfl rfl) ?_
              refine SxA.take (i := 25) (v := .bool true) rfl (by kernel_rfl) (by kernel_rfl) (by kernel_rfl) rfl rfl (fun _ _ _ h => h) ⟨_, _, rfl, rfl, rfl⟩ (fun ρ w E H => ex_move E rfl rfl) ?_
              refine SxA.take (i := 26) (v := .bool false) rfl (by kernel_rfl) (by kernel_rfl) (by kernel_rfl) rfl rfl (fun _ _ _ h => h) ⟨_, _, rfl, rfl, rfl⟩ (fun ρ w E H => ex_not (t := true) E rfl rfl) ?_
              refine SxA.take (i := 27) (v := .bool false) rfl (by kernel_rfl) (by kernel_rfl) (by kernel_rfl) rfl rfl (fun _ _ _ h => h) ⟨_, _, rfl, rfl, rfl⟩ (fun ρ w E H => ex_move E rfl rfl) ?_
              refine SxA.takeOff (i := 28) rfl (by kernel_rfl) (by kernel_rfl) (by kernel_rfl) rfl rfl (fun _ _ _ h => h) ⟨_, _, _, rfl, rfl, rfl, nofun⟩ ?_
              refine SxA.takeOff (i := 29) rfl (by kernel_rfl) (by kernel_rfl) (by kernel_rfl) rfl rfl (fun _ _ _ h => h) ⟨_, _, _, rfl, rfl, rfl, nofun⟩ ?_
              refine SxA.takeOff (i := 30) rfl (by kernel_rfl) (by kernel_rfl) (by kernel_rfl) rfl rfl (fun _ _ _ h => h) ⟨_, _, _, rfl, rfl, rfl, nofun⟩ ?_
              refine SxA.take (i := 31) (v := .bool false) rfl (by kernel_rfl) (by kernel_rfl) (by kernel_rfl) rfl rfl (fun _ _ _ h => h) ⟨_, _, rfl, rfl, rfl⟩ (fun ρ w E H => ex_pick E rfl (t := false) rfl rfl) ?_
              refine SxA.take (i := 32) (v := .bool false) rfl (by kernel_rfl) (by kernel_rfl) (by kernel_rfl) rfl rfl (fun _ _ _ h => h) trivial (fun ρ w E H => ex_pick E rfl (t := false) rfl rfl) ?_
              refine SxA.done (by kernel_rfl) ?_
              refine SxN.then_ ?_
              refine SxC.condF rfl ?_
              refine SxC.skip ?_
              refine SxN.block ?_
              refine SxN.then_ ?_
              refine SxC.region ?_
              refine SxL.val (v := .int .i64 (i : Int)) trivial rfl rfl (fun ρ w E H => ex_move E rfl rfl) ?_
              refine SxL.val (v := .int .i64 ((i + 1 : Nat) : Int)) trivial rfl rfl (fun ρ w E H => ex_add E rfl rfl rfl (by rw [IntKind.wrap_i64]; omega)) ?_
              refine SxL.val (v := .int .i64 ((i + 1 : Nat) : Int)) trivial rfl rfl (fun ρ w E H => ex_assign E rfl rfl) ?_
              refine SxL.nil ?_
              refine SxN.back (gk - 1) (i + 1, x2, (⟨rid, rn, rL, true, td⟩ : Rc), (.slice AV rL.length kV)) (by omega) ⟨by omega, hi2, hxf2, (by dsimp only; omega), hV⟩ ⟨rfl, rfl, rfl, rfl, trivial⟩ [4, 5, 6] rfl (by decide) ⟨.inr (fun g hg => by rw [List.mem_singleton.1 hg]; exact hg22), .inr (fun g hg => by rw [List.mem_singleton.1 hg]; exact hg4), .inr (fun g hg => by rw [List.mem_singleton.1 hg]; exact hg3), .inr (fun g hg => by rw [List.mem_singleton.1 hg]; exact hg2), .inl rfl, .inl rfl, .inl rfl, trivial⟩
          · refine SxC.condT rfl ?_
            refine SxC.seq ?_
            have hir := inv_rel hrel (by dsimp only; omega) ⟨xa, xb, xk, xs, xt, xu, xz⟩
            have hxf2 := inv_fits hxf hcf
            obtain ⟨x2, hx2⟩ : ∃ y, (invokeC x ⟨xa, xb, xk, xs, xt, xu, xz⟩).1 = y := ⟨_, rfl⟩
            rw [hx2] at hir hxf2
            have hI : invR (⟨rid, rn, rL, true, rdst⟩ : Rc) ⟨xa, xb, xk, xs, xt, xu, xz⟩ = ((⟨rid, rn, rL, true, rdst⟩ : Rc), lt0, 13) := by
              unfold invR stampR; dsimp only
              rfl
            rw [hI] at hir
            obtain ⟨hi1, hi2⟩ := hir
            have hinv : invokeC x ⟨xa, xb, xk, xs, xt, xu, xz⟩ = (x2, lt0, 13) := Prod.ext hx2 hi1
            refine SxC.region ?_
            refine SxL.val (v := .pointer (some ⟨gc, 0, none⟩)) trivial rfl rfl (fun ρ w E H => ex_move E rfl rfl) ?_
            refine SxL.val (v := .pointer (some ⟨g2, 1, none⟩)) trivial rfl rfl (fun ρ w E H => ex_field E rfl fa_palaver_palaverlaw27_Act_1 rfl rfl) ?_
            refine SxL.val (v := .agg #[.int .u8 (xa : Int), .int .u32 (xb : Int), .int .u8 (xk : Int), .string ⟨xs.toArray⟩, .string ⟨xt.toArray⟩, .string ⟨xu.toArray⟩, .int .u8 (xz : Int)]) trivial rfl rfl (fun ρ w E H => ex_load (part := [.int .u8 (xa : Int), .int .u32 (xb : Int), .int .u8 (xk : Int), .string ⟨xs.toArray⟩, .string ⟨xt.toArray⟩, .string ⟨xu.toArray⟩, .int .u8 (xz : Int)]) E (H.get (i := 2) rfl) rfl rfl Try.underlying36 rfl sz_palaver_api_Cmd rfl rfl) ?_
            refine SxL.call (σ := Unit) (fun _ => .tuple #[.agg #[.int .u8 0, .int .u8 0, .int .u8 0, .int .u64 0, .int .u8 0, .int .u64 0, .int .u64 0, .int .u8 0, .string ⟨[].toArray⟩, .slice none 0 0, .slice none 0 0, .int .u8 0, .int .u32 0, .int .u8 0, .string ⟨[].toArray⟩, .string ⟨[].toArray⟩, .string ⟨[].toArray⟩, .int .u8 0, .int .u8 0, .string ⟨[].toArray⟩], .int .i64 13]) (fun _ => True) (fun _ => _) trivial rfl rfl (fun ρ w E => ex_call E en_palaver_client_Client_Invoke rfl rfl) (callTurn (i := 4) (cell gc 81 [.int .u8 (x2.id : Int), .int .i64 (x2.n : Int), .int .u8 (x2.node : Int), .int .u32 (x2.seq : Int), .int .u8 (x2.cmd.client : Int), .int .u32 (x2.cmd.seq : Int), .int .u8 (x2.cmd.kind : Int), .string ⟨x2.cmd.key.toArray⟩, .string ⟨x2.cmd.old.toArray⟩, .string ⟨x2.cmd.new.toArray⟩, .int .u8 (x2.cmd.set : Int), .bool (x2.waits)]) rfl (cell_loc _ _ _) rfl (fun w H => (inv_turn hxf hcf hinv w (H.get (i := 4) rfl)).mono fun _ _ h => turn_rd h)) fun _ _ => ?_
            refine SxL.val (v := .tuple #[.agg #[.int .u8 0, .int .u8 0, .int .u8 0, .int .u64 0, .int .u8 0, .int .u64 0, .int .u64 0, .int .u8 0, .string ⟨[].toArray⟩, .slice none 0 0, .slice none 0 0, .int .u8 0, .int .u32 0, .int .u8 0, .string ⟨[].toArray⟩, .string ⟨[].toArray⟩, .string ⟨[].toArray⟩, .int .u8 0, .int .u8 0, .string ⟨[].toArray⟩], .int .i64 13]) trivial rfl rfl (fun ρ w E H => ex_move E rfl rfl) ?_
            refine SxL.val (v := .agg #[.int .u8 0, .int .u8 0, .int .u8 0, .int .u64 0, .int .u8 0, .int .u64 0, .int .u64 0, .int .u8 0, .string ⟨[].toArray⟩, .slice none 0 0, .slice none 0 0, .int .u8 0, .int .u32 0, .int .u8 0, .string ⟨[].toArray⟩, .string ⟨[].toArray⟩, .string ⟨[].toArray⟩, .int .u8 0, .int .u8 0, .string ⟨[].toArray⟩]) trivial rfl rfl (fun ρ w E H => ex_extract E rfl rfl rfl) ?_
            refine SxL.val (v := .int .i64 13) trivial rfl rfl (fun ρ w E H => ex_extract E rfl rfl rfl) ?_
            refine SxL.storeX (i := 1) [.int .u8 0, .int .u8 0, .int .u8 0, .int .u64 0, .int .u8 0, .int .u64 0, .int .u64 0, .int .u8 0, .string ⟨[].toArray⟩, .slice none 0 0, .slice none 0 0, .int .u8 0, .int .u32 0, .int .u8 0, .string ⟨[].toArray⟩, .string ⟨[].toArray⟩, .string ⟨[].toArray⟩, .int .u8 0, .int .u8 0, .string ⟨[].toArray⟩] trivial rfl rfl rfl rfl rfl sz_palaver_api_Letter rfl rfl rfl (putL_all _ _ rfl) ?_
            refine SxL.val (v := .int .i64 13) trivial rfl rfl (fun ρ w E H => ex_assign E rfl rfl) ?_
            refine SxL.nil ?_
            refine SxN.then_ ?_
            refine SxC.region ?_
            refine SxL.val (v := .agg #[.int .u8 (rid : Int), .int .i64 (rn : Int), .slice AV rL.length kV, .bool true, .int .u8 (rdst : Int)]) trivial rfl rfl (fun ρ w E H => ex_load (part := [.int .u8 (rid : Int), .int .i64 (rn : Int), .slice AV rL.length kV, .bool true, .int .u8 (rdst : Int)]) E (H.get (i := 5) rfl) rfl rfl Try.underlying32 rfl sz_palaver_palaverref27_Client rfl rfl) ?_
            refine SxL.val (v := .pointer (some ⟨g2, 1, none⟩)) trivial rfl rfl (fun ρ w E H => ex_field E rfl fa_palaver_palaverlaw27_Act_1 rfl rfl) ?_
            refine SxL.val (v := .agg #[.int .u8 (xa : Int), .int .u32 (xb : Int), .int .u8 (xk : Int), .string ⟨xs.toArray⟩, .string ⟨xt.toArray⟩, .string ⟨xu.toArray⟩, .int .u8 (xz : Int)]) trivial rfl rfl (fun ρ w E H => ex_load (part := [.int .u8 (xa : Int), .int .u32 (xb : Int), .int .u8 (xk : Int), .string ⟨xs.toArray⟩, .string ⟨xt.toArray⟩, .string ⟨xu.toArray⟩, .int .u8 (xz : Int)]) E (H.get (i := 2) rfl) rfl rfl Try.underlying36 rfl sz_palaver_api_Cmd rfl rfl) ?_
            refine SxL.callB (v := .tuple #[.agg #[.int .u8 (rid : Int), .int .i64 (rn : Int), .slice AV rL.length kV, .bool true, .int .u8 (rdst : Int)], .agg #[.int .u8 0, .int .u8 0, .int .u8 0, .int .u64 0, .int .u8 0, .int .u64 0, .int .u64 0, .int .u8 0, .string ⟨[].toArray⟩, .slice none 0 0, .slice none 0 0, .int .u8 0, .int .u32 0, .int .u8 0, .string ⟨[].toArray⟩, .string ⟨[].toArray⟩, .string ⟨[].toArray⟩, .int .u8 0, .int .u8 0, .string ⟨[].toArray⟩], .int .i64 13]) trivial rfl rfl (fun ρ w E => ex_call E en_palaver_palaverref27_Client_Invoke rfl rfl) (fun w H => rinv_13 rid rn rdst rL xa xb xk xz xs xt xu AV kV w hid hr9 (ownC_read (H.get (i := 3) rfl))) ?_
            refine SxL.val (v := .tuple #[.agg #[.int .u8 (rid : Int), .int .i64 (rn : Int), .slice AV rL.length kV, .bool true, .int .u8 (rdst : Int)], .agg #[.int .u8 0, .int .u8 0, .int .u8 0, .int .u64 0, .int .u8 0, .int .u64 0, .int .u64 0, .int .u8 0, .string ⟨[].toArray⟩, .slice none 0 0, .slice none 0 0, .int .u8 0, .int .u32 0, .int .u8 0, .string ⟨[].toArray⟩, .string ⟨[].toArray⟩, .string ⟨[].toArray⟩, .int .u8 0, .int .u8 0, .string ⟨[].toArray⟩], .int .i64 13]) trivial rfl rfl (fun ρ w E H => ex_move E rfl rfl) ?_
            refine SxL.val (v := .agg #[.int .u8 (rid : Int), .int .i64 (rn : Int), .slice AV rL.length kV, .bool true, .int .u8 (rdst : Int)]) trivial rfl rfl (fun ρ w E H => ex_extract E rfl rfl rfl) ?_
            refine SxL.val (v := .agg #[.int .u8 0, .int .u8 0, .int .u8 0, .int .u64 0, .int .u8 0, .int .u64 0, .int .u64 0, .int .u8 0, .string ⟨[].toArray⟩, .slice none 0 0, .slice none 0 0, .int .u8 0, .int .u32 0, .int .u8 0, .string ⟨[].toArray⟩, .string ⟨[].toArray⟩, .string ⟨[].toArray⟩, .int .u8 0, .int .u8 0, .string ⟨[].toArray⟩]) trivial rfl rfl (fun ρ w E H => ex_extract E rfl rfl rfl) ?_
            refine SxL.val (v := .int .i64 13) trivial rfl rfl (fun ρ w E H => ex_extract E rfl rfl rfl) ?_
            refine SxL.storeX (i := 5) [.int .u8 (rid : Int), .int .i64 (rn : Int), .slice AV rL.length kV, .bool true, .int .u8 (rdst : Int)] trivial rfl rfl rfl rfl rfl sz_palaver_palaverref27_Client rfl rfl rfl (putL_all _ _ rfl) ?_
            refine SxL.storeX (i := 0) [.int .u8 0, .int .u8 0, .int .u8 0, .int .u64 0, .int .u8 0, .int .u64 0, .int .u64 0, .int .u8 0, .string ⟨[].toArray⟩, .slice none 0 0, .slice none 0 0, .int .u8 0, .int .u32 0, .int .u8 0, .string ⟨[].toArray⟩, .string ⟨[].toArray⟩, .string ⟨[].toArray⟩, .int .u8 0, .int .u8 0, .string ⟨[].toArray⟩] trivial rfl rfl rfl rfl rfl sz_palaver_api_Letter rfl rfl rfl (putL_all _ _ rfl) ?_
            refine SxL.val (v := .int .i64 13) trivial rfl rfl (fun ρ w E H => ex_assign E rfl rfl) ?_
            refine SxL.nil ?_
            refine SxN.block ?_
            refine SxN.then_ ?_
            refine SxC.seq ?_
            have hwt : x2.waits = true := hi2.waits
            have hww : waitsC x2 = (⟨qa, qb, qk, qs, qt, qu, qz⟩, true) := by unfold waitsC; rw [hwt, if_pos rfl, hi2.cmd hwt]; exact congrArg (fun c => (c, true)) hq
            refine SxC.region ?_
            refine SxL.val (v := .pointer (some ⟨gc, 0, none⟩)) trivial rfl rfl (fun ρ w E H => ex_move E rfl rfl) ?_
            refine SxL.callB (v := .tuple #[.agg #[.int .u8 (qa : Int), .int .u32 (qb : Int), .int .u8 (qk : Int), .string ⟨qs.toArray⟩, .string ⟨qt.toArray⟩, .string ⟨qu.toArray⟩, .int .u8 (qz : Int)], .bool true]) trivial rfl rfl (fun ρ w E => ex_call E en_palaver_client_Client_Waits rfl rfl) (fun w H => waits_p hww w (H.get (i := 4) rfl)) ?_
            refine SxL.val (v := .tuple #[.agg #[.int .u8 (qa : Int), .int .u32 (qb : Int), .int .u8 (qk : Int), .string ⟨qs.toArray⟩, .string ⟨qt.toArray⟩, .string ⟨qu.toArray⟩, .int .u8 (qz : Int)], .bool true]) trivial rfl rfl (fun ρ w E H => ex_move E rfl rfl) ?_
            refine SxL.val (v := .agg #[.int .u8 (qa : Int), .int .u32 (qb : Int), .int .u8 (qk : Int), .string ⟨qs.toArray⟩, .string ⟨qt.toArray⟩, .string ⟨qu.toArray⟩, .int .u8 (qz : Int)]) trivial rfl rfl (fun ρ w E H => ex_extract E rfl rfl rfl) ?_
            refine SxL.val (v := .bool true) trivial rfl rfl (fun ρ w E H => ex_extract E rfl rfl rfl) ?_
            refine SxL.new (cs := [.int .u8 0, .int .u32 0, .int .u8 0, .string ⟨[].toArray⟩, .string ⟨[].toArray⟩, .string ⟨[].toArray⟩, .int .u8 0]) trivial rfl rfl (fun ρ w E H => ex_alloc rfl zr_palaver_api_Cmd rfl) fun g23 hg23 => ?_
            refine SxL.storeX (i := 0) [.int .u8 (qa : Int), .int .u32 (qb : Int), .int .u8 (qk : Int), .string ⟨qs.toArray⟩, .string ⟨qt.toArray⟩, .string ⟨qu.toArray⟩, .int .u8 (qz : Int)] trivial rfl rfl rfl rfl rfl sz_palaver_api_Cmd rfl rfl rfl (putL_all _ _ rfl) ?_
            refine SxL.val (v := .bool true) trivial rfl rfl (fun ρ w E H => ex_assign E rfl rfl) ?_
            refine SxL.nil ?_
            refine SxN.then_ ?_
            refine SxC.seq ?_
            refine SxC.drawnK [] [0, 1, 2, 3, 4, 5, 6] (by kernel_rfl) rfl ⟨(fun g hg => by rw [List.mem_singleton.1 hg]; exact .inr hg23), (fun g hg => by rw [List.mem_singleton.1 hg]; exact .inr hg4), (fun g hg => by rw [List.mem_singleton.1 hg]; exact .inr hg3), (fun g hg => by rw [List.mem_singleton.1 hg]; exact .inr hg2), (fun g hg => .inr (hV.fresh g hg)), (fun g hg => by rw [List.mem_singleton.1 hg]; exact .inr hgc), (fun g hg => by rw [List.mem_singleton.1 hg]; exact .inr hg1), trivial⟩ ?_
            refine SxA.take (i := 0) (v := .int .i64 13) rfl (by kernel_rfl) (by kernel_rfl) (by kernel_rfl) rfl rfl (fun _ _ _ h => h) trivial (fun ρ w E H => ex_move E rfl rfl) ?_
            refine SxA.take (i := 1) (v := .int .i64 13) rfl (by kernel_rfl) (by kernel_rfl) (by kernel_rfl) rfl rfl (fun _ _ _ h => h) trivial (fun ρ w E H => ex_move E rfl rfl) ?_
            refine SxA.take (i := 2) (v := .bool false) rfl (by kernel_rfl) (by kernel_rfl) (by kernel_rfl) rfl rfl (fun _ _ _ h => h) trivial (fun ρ w E H => ex_cmp E rfl rfl rfl rfl (by decide)) ?_
            refine SxA.take (i := 3) (v := .bool false) rfl (by kernel_rfl) (by kernel_rfl) (by kernel_rfl) rfl rfl (fun _ _ _ h => h) trivial (fun ρ w E H => ex_move E rfl rfl) ?_
            refine SxA.take (i := 4) (v := .agg #[.int .u8 0, .int .u8 0, .int .u8 0, .int .u64 0, .int .u8 0, .int .u64 0, .int .u64 0, .int .u8 0, .string ⟨[].toArray⟩, .slice none 0 0, .slice none 0 0, .int .u8 0, .int .u32 0, .int .u8 0, .string ⟨[].toArray⟩, .string ⟨[].toArray⟩, .string ⟨[].toArray⟩, .int .u8 0, .int .u8 0, .string ⟨[].toArray⟩]) rfl (by kernel_rfl) (by kernel_rfl) (by kernel_rfl) rfl rfl (fun _ _ _ h => h) ⟨_, _, rfl, rfl, rfl⟩ (fun ρ w E H => ex_load (part := [.int .u8 0, .int .u8 0, .int .u8 0, .int .u64 0, .int .u8 0, .int .u64 0, .int .u64 0, .int .u8 0, .string ⟨[].toArray⟩, .slice none 0 0, .slice none 0 0, .int .u8 0, .int .u32 0, .int .u8 0, .string ⟨[].toArray⟩, .string ⟨[].toArray⟩, .string ⟨[].toArray⟩, .int .u8 0, .int .u8 0, .string ⟨[].toArray⟩]) E (H.get (i := 2) rfl) rfl rfl Try.underlying47 rfl sz_palaver_api_Letter rfl rfl) ?_
            refine SxA.take (i := 5) (v := .agg #[.int .u8 0, .int .u8 0, .int .u8 0, .int .u64 0, .int .u8 0, .int .u64 0, .int .u64 0, .int .u8 0, .string ⟨[].toArray⟩, .slice none 0 0, .slice none 0 0, .int .u8 0, .int .u32 0, .int .u8 0, .string ⟨[].toArray⟩, .string ⟨[].toArray⟩, .string ⟨[].toArray⟩, .int .u8 0, .int .u8 0, .string ⟨[].toArray⟩]) rfl (by kernel_rfl) (by kernel_rfl) (by kernel_rfl) rfl rfl (fun _ _ _ h => h) ⟨_, _, rfl, rfl, rfl⟩ (fun ρ w E H => ex_load (part := [.int .u8 0, .int .u8 0, .int .u8 0, .int .u64 0, .int .u8 0, .int .u64 0, .int .u64 0, .int .u8 0, .string ⟨[].toArray⟩, .slice none 0 0, .slice none 0 0, .int .u8 0, .int .u32 0, .int .u8 0, .string ⟨[].toArray⟩, .string ⟨[].toArray⟩, .string ⟨[].toArray⟩, .int .u8 0, .int .u8 0, .string ⟨[].toArray⟩]) E (H.get (i := 1) rfl) rfl rfl Try.underlying47 rfl sz_palaver_api_Letter rfl rfl) ?_
            refine SxA.ready [6] (by kernel_rfl) (by simp) ⟨?_, trivial⟩
            refine SxO.callB (v := .bool true) rfl ⟨_, _, rfl, rfl, rfl⟩ rfl rfl (fun ρ w E => ex_call E en_palaver_palaverlaw27_same rfl rfl) (fun w H => lsame_any 0 0 0 0 0 0 0 0 0 0 0 0 0 [] [] [] [] [] w) (fun w H => H.ks [] [0, 1, 2, 3, 4, 5, 6] rfl ⟨(fun g hg => by rw [List.mem_singleton.1 hg]; exact .inr hg23), (fun g hg => by rw [List.mem_singleton.1 hg]; exact .inr hg4), (fun g hg => by rw [List.mem_singleton.1 hg]; exact .inr hg3), (fun g hg => by rw [List.mem_singleton.1 hg]; exact .inr hg2), (fun g hg => .inr (hV.fresh g hg)), (fun g hg => by rw [List.mem_singleton.1 hg]; exact .inr hgc), (fun g hg => by rw [List.mem_singleton.1 hg]; exact .inr hg1), trivial⟩) ?_
            refine SxA.take (i := 7) (v := .bool false) rfl (by kernel_rfl) (by kernel_rfl) (by kernel_rfl) rfl rfl (fun _ _ _ h => h) ⟨_, _, rfl, rfl, rfl⟩ (fun ρ w E H => ex_not (t := true) E rfl rfl) ?_
            refine SxA.take (i := 8) (v := .bool false) rfl (by kernel_rfl) (by kernel_rfl) (by kernel_rfl) rfl rfl (fun _ _ _ h => h) trivial (fun ρ w E H => ex_pick E rfl (t := false) rfl rfl) ?_
            refine SxA.take (i := 9) (v := .bool false) rfl (by kernel_rfl) (by kernel_rfl) (by kernel_rfl) rfl rfl (fun _ _ _ h => h) trivial (fun ρ w E H => ex_move E rfl rfl) ?_
            refine SxA.take (i := 10) (v := .bool true) rfl (by kernel_rfl) (by kernel_rfl) (by kernel_rfl) rfl rfl (fun _ _ _ h => h) ⟨_, _, rfl, rfl, rfl⟩ (fun ρ w E H => ex_move E rfl rfl) ?_
            refine SxA.take (i := 11) (v := .pointer (some ⟨g1, 3, none⟩)) rfl (by kernel_rfl) (by kernel_rfl) (by kernel_rfl) rfl rfl (fun _ _ _ h => h) ⟨_, _, rfl, rfl, rfl⟩ (fun ρ w E H => ex_field E rfl fa_palaver_palaverref27_Client_3 rfl rfl) ?_
            refine SxA.take (i := 12) (v := .bool true) rfl (by kernel_rfl) (by kernel_rfl) (by kernel_rfl) rfl rfl (fun _ _ _ h => h) ⟨_, _, rfl, rfl, rfl⟩ (fun ρ w E H => ex_load1 E (H.get (i := 6) rfl) rfl rfl Try.underlying4 rfl rfl) ?_
            refine SxA.take (i := 13) (v := .bool false) rfl (by kernel_rfl) (by kernel_rfl) (by kernel_rfl) rfl rfl (fun _ _ _ h => h) ⟨_, _, rfl, rfl, rfl⟩ (fun ρ w E H => ex_bneq E rfl Try.underlying4 rfl rfl (by simp)) ?_
            refine SxA.take (i := 14) (v := .bool false) rfl (by kernel_rfl) (by kernel_rfl) (by kernel_rfl) rfl rfl (fun _ _ _ h => h) trivial (fun ρ w E H => ex_pick E rfl (t := false) rfl rfl) ?_
            refine SxA.take (i := 15) (v := .bool false) rfl (by kernel_rfl) (by kernel_rfl) (by kernel_rfl) rfl rfl (fun _ _ _ h => h) trivial (fun ρ w E H => ex_move E rfl rfl) ?_
            refine SxA.take (i := 16) (v := .bool true) rfl (by kernel_rfl) (by kernel_rfl) (by kernel_rfl) rfl rfl (fun _ _ _ h => h) ⟨_, _, rfl, rfl, rfl⟩ (fun ρ w E H => ex_move E rfl rfl) ?_
            refine SxA.take (i := 17) (v := .bool true) rfl (by kernel_rfl) (by kernel_rfl) (by kernel_rfl) rfl rfl (fun _ _ _ h => h) ⟨_, _, rfl, rfl, rfl⟩ (fun ρ w E H => ex_move E rfl rfl) ?_
            refine SxA.take (i := 18) (v := .agg #[.int .u8 (qa : Int), .int .u32 (qb : Int), .int .u8 (qk : Int), .string ⟨qs.toArray⟩, .string ⟨qt.toArray⟩, .string ⟨qu.toArray⟩, .int .u8 (qz : Int)]) rfl (by kernel_rfl) (by kernel_rfl) (by kernel_rfl) rfl rfl (fun _ _ _ h => h) ⟨_, _, rfl, rfl, rfl⟩ (fun ρ w E H => ex_load (part := [.int .u8 (qa : Int), .int .u32 (qb : Int), .int .u8 (qk : Int), .string ⟨qs.toArray⟩, .string ⟨qt.toArray⟩, .string ⟨qu.toArray⟩, .int .u8 (qz : Int)]) E (H.get (i := 0) rfl) rfl rfl Try.underlying36 rfl sz_palaver_api_Cmd rfl rfl) ?_
            refine SxA.take (i := 19) (v := .agg #[.int .u8 (rid : Int), .int .i64 (rn : Int), .slice AV rL.length kV, .bool true, .int .u8 (rdst : Int)]) rfl (by kernel_rfl) (by kernel_rfl) (by kernel_rfl) rfl rfl (fun _ _ _ h => h) ⟨_, _, rfl, rfl, rfl⟩ (fun ρ w E H => ex_load (part := [.int .u8 (rid : Int), .int .i64 (rn : Int), .slice AV rL.length kV, .bool true, .int .u8 (rdst : Int)]) E (H.get (i := 6) rfl) rfl rfl Try.underlying32 rfl sz_palaver_palaverref27_Client rfl rfl) ?_
            refine SxA.ready [20] (by kernel_rfl) (by simp) ⟨?_, trivial⟩
            refine SxO.callB (v := .agg #[.int .u8 (qa : Int), .int .u32 (qb : Int), .int .u8 (qk : Int), .string ⟨qs.toArray⟩, .string ⟨qt.toArray⟩, .string ⟨qu.toArray⟩, .int .u8 (qz : Int)]) rfl ⟨_, _, rfl, rfl, rfl⟩ rfl rfl (fun ρ w E => ex_call E en_palaver_palaverref27_Client_Last rfl rfl) (fun w H => (rlast_any (⟨rid, rn, rL, true, rdst⟩ : Rc) (rL.length) rfl (by (try dsimp only); (try rw [List.length_append, List.length_singleton]); omega) AV kV w (ownC_read (H.get (i := 4) rfl))).mono fun _ _ h => ⟨by rw [h.1]; exact congrArg (fun c => Ending.returned (cmV c)) hq, h.2⟩) (fun w H => H.ks [] [0, 1, 2, 3, 4, 5, 6] rfl ⟨(fun g hg => by rw [List.mem_singleton.1 hg]; exact .inr hg23), (fun g hg => by rw [List.mem_singleton.1 hg]; exact .inr hg4), (fun g hg => by rw [List.mem_singleton.1 hg]; exact .inr hg3), (fun g hg => by rw [List.mem_singleton.1 hg]; exact .inr hg2), (fun g hg => .inr (hV.fresh g hg)), (fun g hg => by rw [List.mem_singleton.1 hg]; exact .inr hgc), (fun g hg => by rw [List.mem_singleton.1 hg]; exact .inr hg1), trivial⟩) ?_
            refine SxA.take (i := 21) (v := .bool false) rfl (by kernel_rfl) (by kernel_rfl) (by kernel_rfl) rfl rfl (fun _ _ _ h => h) ⟨_, _, rfl, rfl, rfl⟩ (fun ρ w E H => ex_aneq E rfl (by kernel_rfl) rfl rfl (fun w => by rw [Bool.not_false]; exact eq_cmm (⟨qa, qb, qk, qs, qt, qu, qz⟩ : Cm) w)) ?_
            refine SxA.take (i := 22) (v := .bool false) rfl (by kernel_rfl) (by kernel_rfl) (by kernel_rfl) rfl rfl (fun _ _ _ h => h) ⟨_, _, rfl, rfl, rfl⟩ (fun ρ w E H => ex_pick E rfl (t := true) rfl rfl) ?_
            refine SxA.take (i := 23) (v := .bool false) rfl (by kernel_rfl) (by kernel_rfl) (by kernel_rfl) rfl rfl (fun _ _ _ h => h) trivial (fun ρ w E H => ex_pick E rfl (t := false) rfl rfl) ?_
            refine SxA.take (i := 24) (v := .bool false) rfl (by kernel_rfl) (by kernel_rfl) (by kernel_rfl) rfl rfl (fun _ _ _ h => h) trivial (fun ρ w E H => ex_move E rfl rfl) ?_
            refine SxA.take (i := 25) (v := .bool true) rfl (by kernel_rfl) (by kernel_rfl) (by kernel_rfl) rfl rfl (fun _ _ _ h => h) ⟨_, _, rfl, rfl, rfl⟩ (fun ρ w E H => ex_move E rfl rfl) ?_
            refine SxA.take (i := 26) (v := .bool false) rfl (by kernel_rfl) (by kernel_rfl) (by kernel_rfl) rfl rfl (fun _ _ _ h => h) ⟨_, _, rfl, rfl, rfl⟩ (fun ρ w E H => ex_not (t := true) E rfl rfl) ?_
            refine SxA.take (i := 27) (v := .bool false) rfl (by kernel_rfl) (by kernel_rfl) (by kernel_rfl) rfl rfl (fun _ _ _ h => h) ⟨_, _, rfl, rfl, rfl⟩ (fun ρ w E H => ex_move E rfl rfl) ?_
            refine SxA.takeOff (i := 28) rfl (by kernel_rfl) (by kernel_rfl) (by kernel_rfl) rfl rfl (fun _ _ _ h => h) ⟨_, _, _, rfl, rfl, rfl, nofun⟩ ?_
            refine SxA.takeOff (i := 29) rfl (by kernel_rfl) (by kernel_rfl) (by kernel_rfl) rfl rfl (fun _ _ _ h => h) ⟨_, _, _, rfl, rfl, rfl, nofun⟩ ?_
            refine SxA.takeOff (i := 30) rfl (by kernel_rfl) (by kernel_rfl) (by kernel_rfl) rfl rfl (fun _ _ _ h => h) ⟨_, _, _, rfl, rfl, rfl, nofun⟩ ?_
            refine SxA.take (i := 31) (v := .bool false) rfl (by kernel_rfl) (by kernel_rfl) (by kernel_rfl) rfl rfl (fun _ _ _ h => h) ⟨_, _, rfl, rfl, rfl⟩ (fun ρ w E H => ex_pick E rfl (t := false) rfl rfl) ?_
            refine SxA.take (i := 32) (v := .bool false) rfl (by kernel_rfl) (by kernel_rfl) (by kernel_rfl) rfl rfl (fun _ _ _ h => h) trivial (fun ρ w E H => ex_pick E rfl (t := false) rfl rfl) ?_
            refine SxA.done (by kernel_rfl) ?_
            refine SxN.then_ ?_
            refine SxC.condF rfl ?_
            refine SxC.skip ?_
            refine SxN.block ?_
            refine SxN.then_ ?_
            refine SxC.region ?_
            refine SxL.val (v := .int .i64 (i : Int)) trivial rfl rfl (fun ρ w E H => ex_move E rfl rfl) ?_
            refine SxL.val (v := .int .i64 ((i + 1 : Nat) : Int)) trivial rfl rfl (fun ρ w E H => ex_add E rfl rfl rfl (by rw [IntKind.wrap_i64]; omega)) ?_
            refine SxL.val (v := .int .i64 ((i + 1 : Nat) : Int)) trivial rfl rfl (fun ρ w E H => ex_assign E rfl rfl) ?_
            refine SxL.nil ?_
            refine SxN.back (gk - 1) (i + 1, x2, (⟨rid, rn, rL, true, rdst⟩ : Rc), .slice AV rL.length kV) (by omega) ⟨by omega, hi2, hxf2, (by dsimp only; omega), hV⟩ ⟨rfl, rfl, rfl, rfl, trivial⟩ [4, 5, 6] rfl (by decide) ⟨.inr (fun g hg => by rw [List.mem_singleton.1 hg]; exact hg23), .inr (fun g hg => by rw [List.mem_singleton.1 hg]; exact hg4), .inr (fun g hg => by rw [List.mem_singleton.1 hg]; exact hg3), .inr (fun g hg => by rw [List.mem_singleton.1 hg]; exact hg2), .inl rfl, .inl rfl, .inl rfl, trivial⟩
  · refine SxC.condT rfl ?_
    refine SxC.seq ?_
    refine SxC.region ?_
    refine SxL.callB (v := .bool true) trivial rfl rfl (fun ρ w E => ex_call E en_palaver_palaverlaw27_wakes rfl rfl) (fun w H => wakes_any w) ?_
    refine SxL.val (v := .bool true) trivial rfl rfl (fun ρ w E H => ex_assign E rfl rfl) ?_
    refine SxL.nil ?_
    refine SxN.then_ ?_
    refine SxC.ret ?_
    refine SxX.thenR ?_
    refine SxX.done (.bool true) (fun a w K H => res1 K rfl rfl) (fun w H => ?_)
    exact ⟨rfl, H.toBelow trivial⟩
end Go.Proofs.Yteiaiilfekojfaa.Cli
