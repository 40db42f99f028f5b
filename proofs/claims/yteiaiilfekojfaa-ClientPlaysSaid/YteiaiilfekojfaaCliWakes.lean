/- The closed run of the laws about clients. No conditions. -/
import Derived.Test.YteiaiilfekojfaaCliHear
namespace Go.Proofs.Yteiaiilfekojfaa.Cli
open Go.RowKit Wire Cmd

theorem get_any (w : World) : Calls Try.prog 29 #[] w fun e w' => e = .returned (.agg #[.int .u8 0, .int .u32 0, .int .u8 1, .string ⟨#[107]⟩, .string ⟨#[]⟩, .string ⟨#[]⟩, .int .u8 0]) ∧ Below w.heap.size w w' := by
  have kn := Blk.new w 36 #[.int .u8 0, .int .u32 0, .int .u8 1, .string ⟨#[107]⟩, .string ⟨#[]⟩, .string ⟨#[]⟩, .int .u8 0]
  have HLD := Lib.hid (blk_loadVar (P := Try.prog) (ty := 36) kn Try.underlying36 rfl size_cmd)
  have bn := Lib.hid (show Below w.heap.size w (w.alloc (.cells #[.int .u8 0, .int .u32 0, .int .u8 1, .string ⟨#[107]⟩, .string ⟨#[]⟩, .string ⟨#[]⟩, .int .u8 0] 36)) from (Below.refl _ w).alloc (Nat.le_refl _) _)
  clear kn
  go_enter Try.func29, Try.ntmps29
  go_wp2_with fail
  exact bodyPost_ret (v := .agg #[.int .u8 0, .int .u32 0, .int .u8 1, .string ⟨#[107]⟩, .string ⟨#[]⟩, .string ⟨#[]⟩, .int .u8 0]) (by simp [results, Try.results29, asAddr, HLD.out]) rfl ⟨rfl, bn.out⟩
theorem name_any (w : World) : Calls Try.prog 30 #[] w fun e w' => e = .returned (.agg #[.int .u8 1, .int .u32 1, .int .u8 0, .string ⟨#[]⟩, .string ⟨#[]⟩, .string ⟨#[]⟩, .int .u8 0]) ∧ Below w.heap.size w w' := by
  have kn := Blk.new w 36 #[.int .u8 1, .int .u32 1, .int .u8 0, .string ⟨#[]⟩, .string ⟨#[]⟩, .string ⟨#[]⟩, .int .u8 0]
  have HLD := Lib.hid (blk_loadVar (P := Try.prog) (ty := 36) kn Try.underlying36 rfl size_cmd)
  have bn := Lib.hid (show Below w.heap.size w (w.alloc (.cells #[.int .u8 1, .int .u32 1, .int .u8 0, .string ⟨#[]⟩, .string ⟨#[]⟩, .string ⟨#[]⟩, .int .u8 0] 36)) from (Below.refl _ w).alloc (Nat.le_refl _) _)
  clear kn
  go_enter Try.func30, Try.ntmps30
  go_wp2_with fail
  exact bodyPost_ret (v := .agg #[.int .u8 1, .int .u32 1, .int .u8 0, .string ⟨#[]⟩, .string ⟨#[]⟩, .string ⟨#[]⟩, .int .u8 0]) (by simp [results, Try.results30, asAddr, HLD.out]) rfl ⟨rfl, bn.out⟩
theorem cm1_fits : Cm.Fits ⟨1, 1, 1, [107], [], [], 0⟩ := ⟨by decide, by decide, by decide, by decide, by decide, by decide, by decide⟩
theorem fits1 (n : Nat) (h : n < 3) (wt : Bool) : Cl.Fits ⟨1, 3, n, 1, ⟨1, 1, 1, [107], [], [], 0⟩, wt⟩ := ⟨(show 1 < 4 by omega), (show 1 ≤ 3 by omega), (show 3 ≤ 7 by omega), h, (show 1 < 4294967296 by omega), cm1_fits⟩
set_option maxRecDepth 100000 in
theorem step_inv (g : Nat) (W : World) (h : ClAt W g (cl0 1 3)) : Calls Try.prog 13 #[.pointer (some ⟨g, 0, none⟩), .agg #[.int .u8 0, .int .u32 0, .int .u8 1, .string ⟨#[107]⟩, .string ⟨#[]⟩, .string ⟨#[]⟩, .int .u8 0]] W fun e w' => e = .returned (.tuple #[.agg #[.int .u8 17, .int .u8 1, .int .u8 1, .int .u64 0, .int .u8 0, .int .u64 0, .int .u64 0, .int .u8 0, .string ⟨#[]⟩, .slice none 0 0, .slice none 0 0, .int .u8 1, .int .u32 1, .int .u8 1, .string ⟨#[107]⟩, .string ⟨#[]⟩, .string ⟨#[]⟩, .int .u8 0, .int .u8 0, .string ⟨#[]⟩], .int .i64 0]) ∧ ClGo W g (⟨1, 3, 1, 1, ⟨1, 1, 1, [107], [], [], 0⟩, true⟩ : Cl) w' := by
  have q := invoke_any g (cl0 1 3) (cl0_fits (by decide) (by decide) (by decide)) (⟨0, 0, 1, [107], [], [], 0⟩ : Cm) ⟨by decide, by decide, by decide, by decide, by decide, by decide, by decide⟩ W h
  have e : invokeC (cl0 1 3) (⟨0, 0, 1, [107], [], [], 0⟩ : Cm) = ((⟨1, 3, 1, 1, ⟨1, 1, 1, [107], [], [], 0⟩, true⟩ : Cl), askL (⟨1, 3, 1, 1, ⟨1, 1, 1, [107], [], [], 0⟩, true⟩ : Cl), 0) := by rfl
  rw [e] at q
  exact q
set_option maxRecDepth 100000 in
theorem step_inv2 (g : Nat) (W : World) (h : ClAt W g (⟨1, 3, 1, 1, ⟨1, 1, 1, [107], [], [], 0⟩, true⟩ : Cl)) : Calls Try.prog 13 #[.pointer (some ⟨g, 0, none⟩), .agg #[.int .u8 0, .int .u32 0, .int .u8 1, .string ⟨#[107]⟩, .string ⟨#[]⟩, .string ⟨#[]⟩, .int .u8 0]] W fun e w' => e = .returned (.tuple #[.agg #[.int .u8 0, .int .u8 0, .int .u8 0, .int .u64 0, .int .u8 0, .int .u64 0, .int .u64 0, .int .u8 0, .string ⟨#[]⟩, .slice none 0 0, .slice none 0 0, .int .u8 0, .int .u32 0, .int .u8 0, .string ⟨#[]⟩, .string ⟨#[]⟩, .string ⟨#[]⟩, .int .u8 0, .int .u8 0, .string ⟨#[]⟩], .int .i64 13]) ∧ ClGo W g (⟨1, 3, 1, 1, ⟨1, 1, 1, [107], [], [], 0⟩, true⟩ : Cl) w' := by
  have q := invoke_any g (⟨1, 3, 1, 1, ⟨1, 1, 1, [107], [], [], 0⟩, true⟩ : Cl) (fits1 1 (by decide) true) (⟨0, 0, 1, [107], [], [], 0⟩ : Cm) ⟨by decide, by decide, by decide, by decide, by decide, by decide, by decide⟩ W h
  have e : invokeC (⟨1, 3, 1, 1, ⟨1, 1, 1, [107], [], [], 0⟩, true⟩ : Cl) (⟨0, 0, 1, [107], [], [], 0⟩ : Cm) = ((⟨1, 3, 1, 1, ⟨1, 1, 1, [107], [], [], 0⟩, true⟩ : Cl), lt0, 13) := by rfl
  rw [e] at q
  exact q
set_option maxRecDepth 100000 in
theorem step_nud (g : Nat) (W : World) (h : ClAt W g (⟨1, 3, 1, 1, ⟨1, 1, 1, [107], [], [], 0⟩, true⟩ : Cl)) : Calls Try.prog 15 #[.pointer (some ⟨g, 0, none⟩)] W fun e w' => e = .returned (.tuple #[.agg #[.int .u8 17, .int .u8 2, .int .u8 1, .int .u64 0, .int .u8 0, .int .u64 0, .int .u64 0, .int .u8 0, .string ⟨#[]⟩, .slice none 0 0, .slice none 0 0, .int .u8 1, .int .u32 1, .int .u8 1, .string ⟨#[107]⟩, .string ⟨#[]⟩, .string ⟨#[]⟩, .int .u8 0, .int .u8 0, .string ⟨#[]⟩], .int .i64 0]) ∧ ClGo W g (⟨1, 3, 2, 1, ⟨1, 1, 1, [107], [], [], 0⟩, true⟩ : Cl) w' := by
  have q := nudge_any g (⟨1, 3, 1, 1, ⟨1, 1, 1, [107], [], [], 0⟩, true⟩ : Cl) (fits1 1 (by decide) true) W h
  have e : nudgeC (⟨1, 3, 1, 1, ⟨1, 1, 1, [107], [], [], 0⟩, true⟩ : Cl) = ((⟨1, 3, 2, 1, ⟨1, 1, 1, [107], [], [], 0⟩, true⟩ : Cl), askL (⟨1, 3, 2, 1, ⟨1, 1, 1, [107], [], [], 0⟩, true⟩ : Cl), 0) := by rfl
  rw [e] at q
  exact q
set_option maxRecDepth 100000 in
theorem step_hear (g : Nat) (W : World) (h : ClAt W g (⟨1, 3, 2, 1, ⟨1, 1, 1, [107], [], [], 0⟩, true⟩ : Cl)) : Calls Try.prog 17 #[.pointer (some ⟨g, 0, none⟩), .agg #[.int .u8 2, .int .u8 17, .int .u8 3, .int .u64 0, .int .u8 0, .int .u64 0, .int .u64 0, .int .u8 0, .string ⟨#[]⟩, .slice none 0 0, .slice none 0 0, .int .u8 1, .int .u32 1, .int .u8 0, .string ⟨#[]⟩, .string ⟨#[]⟩, .string ⟨#[]⟩, .int .u8 0, .int .u8 0, .string ⟨#[]⟩]] W fun e w' => e = .returned (.tuple #[.agg #[.int .u8 17, .int .u8 0, .int .u8 1, .int .u64 0, .int .u8 0, .int .u64 0, .int .u64 0, .int .u8 0, .string ⟨#[]⟩, .slice none 0 0, .slice none 0 0, .int .u8 1, .int .u32 1, .int .u8 1, .string ⟨#[107]⟩, .string ⟨#[]⟩, .string ⟨#[]⟩, .int .u8 0, .int .u8 0, .string ⟨#[]⟩], .bool true, .agg #[.int .u8 0, .string ⟨#[]⟩], .bool false]) ∧ ClGo W g (⟨1, 3, 0, 1, ⟨1, 1, 1, [107], [], [], 0⟩, true⟩ : Cl) w' := by
  have q := hear_any g (⟨1, 3, 2, 1, ⟨1, 1, 1, [107], [], [], 0⟩, true⟩ : Cl) (fits1 2 (by decide) true) (⟨2, 17, 3, 0, 0, 0, 0, 0, [], .slice none 0 0, .slice none 0 0, ⟨1, 1, 0, [], [], [], 0⟩, 0, []⟩ : Lt) ⟨by decide, by decide, by decide, by decide, ⟨by decide, by decide, by decide, by decide, by decide, by decide, by decide⟩, by decide, rfl, rfl⟩ W h
  have e : hearC (⟨1, 3, 2, 1, ⟨1, 1, 1, [107], [], [], 0⟩, true⟩ : Cl) (⟨2, 17, 3, 0, 0, 0, 0, 0, [], .slice none 0 0, .slice none 0 0, ⟨1, 1, 0, [], [], [], 0⟩, 0, []⟩ : Lt) = ((⟨1, 3, 0, 1, ⟨1, 1, 1, [107], [], [], 0⟩, true⟩ : Cl), askL (⟨1, 3, 0, 1, ⟨1, 1, 1, [107], [], [], 0⟩, true⟩ : Cl), true, (0, []), false) := by rfl
  rw [e] at q
  exact q
set_option maxRecDepth 100000 in
theorem step_hear2 (g : Nat) (W : World) (h : ClAt W g (⟨1, 3, 0, 1, ⟨1, 1, 1, [107], [], [], 0⟩, true⟩ : Cl)) : Calls Try.prog 17 #[.pointer (some ⟨g, 0, none⟩), .agg #[.int .u8 0, .int .u8 17, .int .u8 2, .int .u64 0, .int .u8 0, .int .u64 0, .int .u64 0, .int .u8 0, .string ⟨#[]⟩, .slice none 0 0, .slice none 0 0, .int .u8 1, .int .u32 1, .int .u8 0, .string ⟨#[]⟩, .string ⟨#[]⟩, .string ⟨#[]⟩, .int .u8 0, .int .u8 0, .string ⟨#[120]⟩]] W fun e w' => e = .returned (.tuple #[.agg #[.int .u8 0, .int .u8 0, .int .u8 0, .int .u64 0, .int .u8 0, .int .u64 0, .int .u64 0, .int .u8 0, .string ⟨#[]⟩, .slice none 0 0, .slice none 0 0, .int .u8 0, .int .u32 0, .int .u8 0, .string ⟨#[]⟩, .string ⟨#[]⟩, .string ⟨#[]⟩, .int .u8 0, .int .u8 0, .string ⟨#[]⟩], .bool false, .agg #[.int .u8 0, .string ⟨#[120]⟩], .bool true]) ∧ ClGo W g (⟨1, 3, 0, 1, cm0, false⟩ : Cl) w' := by
  have q := hear_any g (⟨1, 3, 0, 1, ⟨1, 1, 1, [107], [], [], 0⟩, true⟩ : Cl) (fits1 0 (by decide) true) (⟨0, 17, 2, 0, 0, 0, 0, 0, [], .slice none 0 0, .slice none 0 0, ⟨1, 1, 0, [], [], [], 0⟩, 0, [120]⟩ : Lt) ⟨by decide, by decide, by decide, by decide, ⟨by decide, by decide, by decide, by decide, by decide, by decide, by decide⟩, by decide, rfl, rfl⟩ W h
  have e : hearC (⟨1, 3, 0, 1, ⟨1, 1, 1, [107], [], [], 0⟩, true⟩ : Cl) (⟨0, 17, 2, 0, 0, 0, 0, 0, [], .slice none 0 0, .slice none 0 0, ⟨1, 1, 0, [], [], [], 0⟩, 0, [120]⟩ : Lt) = ((⟨1, 3, 0, 1, cm0, false⟩ : Cl), lt0, false, (0, [120]), true) := by rfl
  rw [e] at q
  exact q
theorem step_waits (g : Nat) (W : World) (h : ClAt W g (⟨1, 3, 0, 1, cm0, false⟩ : Cl)) : Calls Try.prog 19 #[.pointer (some ⟨g, 0, none⟩)] W fun e w' => e = .returned (.tuple #[.agg #[.int .u8 0, .int .u32 0, .int .u8 0, .string ⟨#[]⟩, .string ⟨#[]⟩, .string ⟨#[]⟩, .int .u8 0], .bool false]) ∧ Below W.heap.size W w' := waits_any g (⟨1, 3, 0, 1, cm0, false⟩ : Cl) W h
theorem step_new (W : World) : Calls Try.prog 10 #[.int .u8 1, .int .i64 3] W fun e w' => e = .returned (.tuple #[.pointer (some ⟨W.heap.size, 0, none⟩), .int .i64 0]) ∧ W.alloc (.cells (clC (cl0 1 3)) 81) = w' := new_any 1 3 (by decide) (by decide) (by decide) W
set_option linter.unusedSimpArgs false in
set_option maxRecDepth 100000 in
set_option maxHeartbeats 8000000 in
theorem wakes_any (w : World) : Calls Try.prog 9 #[] w fun e w' => e = .returned (.bool true) ∧ Below w.heap.size w w' := by
  go_enter Try.func9, Try.ntmps9
  go_wp2_with fail
  refine (step_new w).mono ?_; rintro e w1 ⟨rfl, rfl⟩
  have hc : ClAt (w.alloc (.cells (clC (cl0 1 3)) 81)) w.heap.size (cl0 1 3) := Blk.new w 81 (clC (cl0 1 3))
  have bw : Below w.heap.size w (w.alloc (.cells (clC (cl0 1 3)) 81)) := (Below.refl _ w).alloc (Nat.le_refl _) _
  obtain ⟨g, hg⟩ : ∃ g, g = w.heap.size := ⟨_, rfl⟩
  have hwg : w.heap.size ≤ g := by omega
  rw [← hg] at hc ⊢
  generalize w.alloc (.cells (clC (cl0 1 3)) 81) = w1 at *
  clear hg
  go_wp2_with fail
  refine (get_any _).mono ?_; rintro e w2 ⟨rfl, B2⟩
  have hc := Blk.below hc B2 (Blk.lt hc)
  have bw := bw.trans (B2.mono bw.size)
  clear B2
  go_wp2_with fail
  refine (step_inv g _ hc).mono ?_; rintro e w3 ⟨rfl, hc, G3⟩
  have bw := bw.grown G3 bw.size (fun k hk => by cases hk; exact hwg)
  clear G3
  have hgl := Blk.lt hc
  have hww := bw.size
  have kn := Blk.new w3 47 #[.int .u8 0, .int .u8 0, .int .u8 0, .int .u64 0, .int .u8 0, .int .u64 0, .int .u64 0, .int .u8 0, .string ⟨#[]⟩, .slice none 0 0, .slice none 0 0, .int .u8 0, .int .u32 0, .int .u8 0, .string ⟨#[]⟩, .string ⟨#[]⟩, .string ⟨#[]⟩, .int .u8 0, .int .u8 0, .string ⟨#[]⟩]
  obtain ⟨wAa, hst, hcA, bwA, ba⟩ : ∃ wAa, (Instr.storeAt 47 (.pointer (some ⟨w3.heap.size, 0, none⟩)) (.agg #[.int .u8 17, .int .u8 1, .int .u8 1, .int .u64 0, .int .u8 0, .int .u64 0, .int .u64 0, .int .u8 0, .string ⟨#[]⟩, .slice none 0 0, .slice none 0 0, .int .u8 1, .int .u32 1, .int .u8 1, .string ⟨#[107]⟩, .string ⟨#[]⟩, .string ⟨#[]⟩, .int .u8 0, .int .u8 0, .string ⟨#[]⟩])).run Try.prog (w3.alloc (.cells #[.int .u8 0, .int .u8 0, .int .u8 0, .int .u64 0, .int .u8 0, .int .u64 0, .int .u64 0, .int .u8 0, .string ⟨#[]⟩, .slice none 0 0, .slice none 0 0, .int .u8 0, .int .u32 0, .int .u8 0, .string ⟨#[]⟩, .string ⟨#[]⟩, .string ⟨#[]⟩, .int .u8 0, .int .u8 0, .string ⟨#[]⟩] 47)) = .ok () wAa ∧ ClAt wAa g (⟨1, 3, 1, 1, ⟨1, 1, 1, [107], [], [], 0⟩, true⟩ : Cl) ∧ Below w.heap.size w wAa ∧ Blk wAa w3.heap.size 47 #[.int .u8 17, .int .u8 1, .int .u8 1, .int .u64 0, .int .u8 0, .int .u64 0, .int .u64 0, .int .u8 0, .string ⟨#[]⟩, .slice none 0 0, .slice none 0 0, .int .u8 1, .int .u32 1, .int .u8 1, .string ⟨#[107]⟩, .string ⟨#[]⟩, .string ⟨#[]⟩, .int .u8 0, .int .u8 0, .string ⟨#[]⟩] :=
    ⟨_, blk_store kn rfl size_lt rfl, Blk.setRowFar (Blk.alloc hc _) (by omega), below_setRow (bw.alloc bw.size _) (by omega), kn.setRow⟩
  have na : w3.heap.size ≠ g := by omega
  clear kn hc bw hgl hww 
  have hc := hcA
  have bw := bwA
  clear hcA bwA 
  go_wp2_with (refine wpList_store (by rfl) (.tmp 3) (.tmp 33) (by rfl) (by rfl) (by rfl) hst ?_)
  clear hst
  refine (get_any _).mono ?_; rintro e w4 ⟨rfl, B4⟩
  have hc := Blk.below hc B4 (Blk.lt hc)
  have bw := bw.trans (B4.mono bw.size)
  have ba := ba.below B4 ba.lt
  clear B4
  go_wp2_with fail
  refine (step_inv2 g _ hc).mono ?_; rintro e w5 ⟨rfl, hc, G5⟩
  have ba := ba.grown G5 (fun he => na (Option.some.inj he))
  have bw := bw.grown G5 bw.size (fun k hk => by cases hk; exact hwg)
  clear G5
  have hgl := Blk.lt hc
  have hww := bw.size
  have la := ba.lt
  have kn := Blk.new w5 47 #[.int .u8 0, .int .u8 0, .int .u8 0, .int .u64 0, .int .u8 0, .int .u64 0, .int .u64 0, .int .u8 0, .string ⟨#[]⟩, .slice none 0 0, .slice none 0 0, .int .u8 0, .int .u32 0, .int .u8 0, .string ⟨#[]⟩, .string ⟨#[]⟩, .string ⟨#[]⟩, .int .u8 0, .int .u8 0, .string ⟨#[]⟩]
  obtain ⟨wAb, hst, hcA, bwA, bb, ca⟩ : ∃ wAb, (Instr.storeAt 47 (.pointer (some ⟨w5.heap.size, 0, none⟩)) (.agg #[.int .u8 0, .int .u8 0, .int .u8 0, .int .u64 0, .int .u8 0, .int .u64 0, .int .u64 0, .int .u8 0, .string ⟨#[]⟩, .slice none 0 0, .slice none 0 0, .int .u8 0, .int .u32 0, .int .u8 0, .string ⟨#[]⟩, .string ⟨#[]⟩, .string ⟨#[]⟩, .int .u8 0, .int .u8 0, .string ⟨#[]⟩])).run Try.prog (w5.alloc (.cells #[.int .u8 0, .int .u8 0, .int .u8 0, .int .u64 0, .int .u8 0, .int .u64 0, .int .u64 0, .int .u8 0, .string ⟨#[]⟩, .slice none 0 0, .slice none 0 0, .int .u8 0, .int .u32 0, .int .u8 0, .string ⟨#[]⟩, .string ⟨#[]⟩, .string ⟨#[]⟩, .int .u8 0, .int .u8 0, .string ⟨#[]⟩] 47)) = .ok () wAb ∧ ClAt wAb g (⟨1, 3, 1, 1, ⟨1, 1, 1, [107], [], [], 0⟩, true⟩ : Cl) ∧ Below w.heap.size w wAb ∧ Blk wAb w5.heap.size 47 #[.int .u8 0, .int .u8 0, .int .u8 0, .int .u64 0, .int .u8 0, .int .u64 0, .int .u64 0, .int .u8 0, .string ⟨#[]⟩, .slice none 0 0, .slice none 0 0, .int .u8 0, .int .u32 0, .int .u8 0, .string ⟨#[]⟩, .string ⟨#[]⟩, .string ⟨#[]⟩, .int .u8 0, .int .u8 0, .string ⟨#[]⟩] ∧ Blk wAb w3.heap.size 47 #[.int .u8 17, .int .u8 1, .int .u8 1, .int .u64 0, .int .u8 0, .int .u64 0, .int .u64 0, .int .u8 0, .string ⟨#[]⟩, .slice none 0 0, .slice none 0 0, .int .u8 1, .int .u32 1, .int .u8 1, .string ⟨#[107]⟩, .string ⟨#[]⟩, .string ⟨#[]⟩, .int .u8 0, .int .u8 0, .string ⟨#[]⟩] :=
    ⟨_, blk_store kn rfl size_lt rfl, Blk.setRowFar (Blk.alloc hc _) (by omega), below_setRow (bw.alloc bw.size _) (by omega), kn.setRow, (ba.alloc _).setRowFar (by omega)⟩
  have nb : w5.heap.size ≠ g := by omega
  clear kn hc bw hgl hww ba la
  have hc := hcA
  have bw := bwA
  have ba := ca
  clear hcA bwA ca
  go_wp2_with (refine wpList_store (by rfl) (.tmp 5) (.tmp 39) (by rfl) (by rfl) (by rfl) hst ?_)
  clear hst
  clear bb nb
  refine (step_nud g _ hc).mono ?_; rintro e w6 ⟨rfl, hc, G6⟩
  have ba := ba.grown G6 (fun he => na (Option.some.inj he))
  have bw := bw.grown G6 bw.size (fun k hk => by cases hk; exact hwg)
  clear G6
  have hgl := Blk.lt hc
  have hww := bw.size
  have la := ba.lt
  have kn := Blk.new w6 47 #[.int .u8 0, .int .u8 0, .int .u8 0, .int .u64 0, .int .u8 0, .int .u64 0, .int .u64 0, .int .u8 0, .string ⟨#[]⟩, .slice none 0 0, .slice none 0 0, .int .u8 0, .int .u32 0, .int .u8 0, .string ⟨#[]⟩, .string ⟨#[]⟩, .string ⟨#[]⟩, .int .u8 0, .int .u8 0, .string ⟨#[]⟩]
  obtain ⟨wAc, hst, hcA, bwA, bc, ca⟩ : ∃ wAc, (Instr.storeAt 47 (.pointer (some ⟨w6.heap.size, 0, none⟩)) (.agg #[.int .u8 17, .int .u8 2, .int .u8 1, .int .u64 0, .int .u8 0, .int .u64 0, .int .u64 0, .int .u8 0, .string ⟨#[]⟩, .slice none 0 0, .slice none 0 0, .int .u8 1, .int .u32 1, .int .u8 1, .string ⟨#[107]⟩, .string ⟨#[]⟩, .string ⟨#[]⟩, .int .u8 0, .int .u8 0, .string ⟨#[]⟩])).run Try.prog (w6.alloc (.cells #[.int .u8 0, .int .u8 0, .int .u8 0, .int .u64 0, .int .u8 0, .int .u64 0, .int .u64 0, .int .u8 0, .string ⟨#[]⟩, .slice none 0 0, .slice none 0 0, .int .u8 0, .int .u32 0, .int .u8 0, .string ⟨#[]⟩, .string ⟨#[]⟩, .string ⟨#[]⟩, .int .u8 0, .int .u8 0, .string ⟨#[]⟩] 47)) = .ok () wAc ∧ ClAt wAc g (⟨1, 3, 2, 1, ⟨1, 1, 1, [107], [], [], 0⟩, true⟩ : Cl) ∧ Below w.heap.size w wAc ∧ Blk wAc w6.heap.size 47 #[.int .u8 17, .int .u8 2, .int .u8 1, .int .u64 0, .int .u8 0, .int .u64 0, .int .u64 0, .int .u8 0, .string ⟨#[]⟩, .slice none 0 0, .slice none 0 0, .int .u8 1, .int .u32 1, .int .u8 1, .string ⟨#[107]⟩, .string ⟨#[]⟩, .string ⟨#[]⟩, .int .u8 0, .int .u8 0, .string ⟨#[]⟩] ∧ Blk wAc w3.heap.size 47 #[.int .u8 17, .int .u8 1, .int .u8 1, .int .u64 0, .int .u8 0, .int .u64 0, .int .u64 0, .int .u8 0, .string ⟨#[]⟩, .slice none 0 0, .slice none 0 0, .int .u8 1, .int .u32 1, .int .u8 1, .string ⟨#[107]⟩, .string ⟨#[]⟩, .string ⟨#[]⟩, .int .u8 0, .int .u8 0, .string ⟨#[]⟩] :=
    ⟨_, blk_store kn rfl size_lt rfl, Blk.setRowFar (Blk.alloc hc _) (by omega), below_setRow (bw.alloc bw.size _) (by omega), kn.setRow, (ba.alloc _).setRowFar (by omega)⟩
  have nc : w6.heap.size ≠ g := by omega
  clear kn hc bw hgl hww ba la
  have hc := hcA
  have bw := bwA
  have ba := ca
  clear hcA bwA ca
  go_wp2_with (refine wpList_store (by rfl) (.tmp 7) (.tmp 44) (by rfl) (by rfl) (by rfl) hst ?_)
  clear hst
  refine (name_any _).mono ?_; rintro e w7 ⟨rfl, B7⟩
  have hc := Blk.below hc B7 (Blk.lt hc)
  have bw := bw.trans (B7.mono bw.size)
  have ba := ba.below B7 ba.lt
  have bc := bc.below B7 bc.lt
  clear B7
  go_wp2_with fail
  refine (step_hear g _ hc).mono ?_; rintro e w8 ⟨rfl, hc, G8⟩
  have ba := ba.grown G8 (fun he => na (Option.some.inj he))
  have bc := bc.grown G8 (fun he => nc (Option.some.inj he))
  have bw := bw.grown G8 bw.size (fun k hk => by cases hk; exact hwg)
  clear G8
  have hgl := Blk.lt hc
  have hww := bw.size
  have la := ba.lt
  have lc := bc.lt
  have kl := (Blk.new w8 47 #[.int .u8 0, .int .u8 0, .int .u8 0, .int .u64 0, .int .u8 0, .int .u64 0, .int .u64 0, .int .u8 0, .string ⟨#[]⟩, .slice none 0 0, .slice none 0 0, .int .u8 0, .int .u32 0, .int .u8 0, .string ⟨#[]⟩, .string ⟨#[]⟩, .string ⟨#[]⟩, .int .u8 0, .int .u8 0, .string ⟨#[]⟩]).alloc (.cells #[.int .u8 0, .string ⟨#[]⟩] 43)
  have kr := Blk.new (w8.alloc (.cells #[.int .u8 0, .int .u8 0, .int .u8 0, .int .u64 0, .int .u8 0, .int .u64 0, .int .u64 0, .int .u8 0, .string ⟨#[]⟩, .slice none 0 0, .slice none 0 0, .int .u8 0, .int .u32 0, .int .u8 0, .string ⟨#[]⟩, .string ⟨#[]⟩, .string ⟨#[]⟩, .int .u8 0, .int .u8 0, .string ⟨#[]⟩] 47)) 43 #[.int .u8 0, .string ⟨#[]⟩]
  have es : (w8.alloc (.cells #[.int .u8 0, .int .u8 0, .int .u8 0, .int .u64 0, .int .u8 0, .int .u64 0, .int .u64 0, .int .u8 0, .string ⟨#[]⟩, .slice none 0 0, .slice none 0 0, .int .u8 0, .int .u32 0, .int .u8 0, .string ⟨#[]⟩, .string ⟨#[]⟩, .string ⟨#[]⟩, .int .u8 0, .int .u8 0, .string ⟨#[]⟩] 47)).heap.size = w8.heap.size + 1 := by simp
  rw [es] at kr
  obtain ⟨wAd, hstA, wBd, hstB, hcA, bwA, bd, be, ca, cc⟩ : ∃ wA, (Instr.storeAt 47 (.pointer (some ⟨w8.heap.size, 0, none⟩)) (.agg #[.int .u8 17, .int .u8 0, .int .u8 1, .int .u64 0, .int .u8 0, .int .u64 0, .int .u64 0, .int .u8 0, .string ⟨#[]⟩, .slice none 0 0, .slice none 0 0, .int .u8 1, .int .u32 1, .int .u8 1, .string ⟨#[107]⟩, .string ⟨#[]⟩, .string ⟨#[]⟩, .int .u8 0, .int .u8 0, .string ⟨#[]⟩])).run Try.prog ((w8.alloc (.cells #[.int .u8 0, .int .u8 0, .int .u8 0, .int .u64 0, .int .u8 0, .int .u64 0, .int .u64 0, .int .u8 0, .string ⟨#[]⟩, .slice none 0 0, .slice none 0 0, .int .u8 0, .int .u32 0, .int .u8 0, .string ⟨#[]⟩, .string ⟨#[]⟩, .string ⟨#[]⟩, .int .u8 0, .int .u8 0, .string ⟨#[]⟩] 47)).alloc (.cells #[.int .u8 0, .string ⟨#[]⟩] 43)) = .ok () wA ∧ ∃ wBd, (Instr.storeAt 43 (.pointer (some ⟨w8.heap.size + 1, 0, none⟩)) (.agg #[.int .u8 0, .string ⟨#[]⟩])).run Try.prog wA = .ok () wBd ∧ ClAt wBd g (⟨1, 3, 0, 1, ⟨1, 1, 1, [107], [], [], 0⟩, true⟩ : Cl) ∧ Below w.heap.size w wBd ∧ Blk wBd (w8.heap.size) 47 #[.int .u8 17, .int .u8 0, .int .u8 1, .int .u64 0, .int .u8 0, .int .u64 0, .int .u64 0, .int .u8 0, .string ⟨#[]⟩, .slice none 0 0, .slice none 0 0, .int .u8 1, .int .u32 1, .int .u8 1, .string ⟨#[107]⟩, .string ⟨#[]⟩, .string ⟨#[]⟩, .int .u8 0, .int .u8 0, .string ⟨#[]⟩] ∧ Blk wBd (w8.heap.size + 1) 43 #[.int .u8 0, .string ⟨#[]⟩] ∧ Blk wBd (w3.heap.size) 47 #[.int .u8 17, .int .u8 1, .int .u8 1, .int .u64 0, .int .u8 0, .int .u64 0, .int .u64 0, .int .u8 0, .string ⟨#[]⟩, .slice none 0 0, .slice none 0 0, .int .u8 1, .int .u32 1, .int .u8 1, .string ⟨#[107]⟩, .string ⟨#[]⟩, .string ⟨#[]⟩, .int .u8 0, .int .u8 0, .string ⟨#[]⟩] ∧ Blk wBd (w6.heap.size) 47 #[.int .u8 17, .int .u8 2, .int .u8 1, .int .u64 0, .int .u8 0, .int .u64 0, .int .u64 0, .int .u8 0, .string ⟨#[]⟩, .slice none 0 0, .slice none 0 0, .int .u8 1, .int .u32 1, .int .u8 1, .string ⟨#[107]⟩, .string ⟨#[]⟩, .string ⟨#[]⟩, .int .u8 0, .int .u8 0, .string ⟨#[]⟩] :=
    ⟨_, blk_store kl rfl size_lt rfl, _, blk_store (kr.setRowFar (by omega)) rfl size_reply rfl, Blk.setRowFar (Blk.setRowFar (Blk.alloc (Blk.alloc hc _) _) (by omega)) (by omega), below_setRow (below_setRow ((bw.alloc bw.size _).alloc (by rw [es]; omega) _) (by omega)) (by omega), kl.setRow.setRowFar (by omega), (kr.setRowFar (by omega)).setRow, (((ba.alloc _).alloc _).setRowFar (by omega)).setRowFar (by omega), (((bc.alloc _).alloc _).setRowFar (by omega)).setRowFar (by omega)⟩
  have nd : w8.heap.size ≠ g := by omega
  have ne : w8.heap.size + 1 ≠ g := by omega
  clear kl kr es hc bw hgl hww ba la bc lc
  have hc := hcA
  have bw := bwA
  have ba := ca
  have bc := cc
  clear hcA bwA ca cc
  go_wp2_with (first | refine wpList_store (by rfl) (.tmp 9) (.tmp 52) (by rfl) (by rfl) (by rfl) hstA ?_ | refine wpList_store (by rfl) (.tmp 11) (.tmp 54) (by rfl) (by rfl) (by rfl) hstB ?_)
  clear hstA hstB
  clear be ne
  refine (name_any _).mono ?_; rintro e w9 ⟨rfl, B9⟩
  have hc := Blk.below hc B9 (Blk.lt hc)
  have bw := bw.trans (B9.mono bw.size)
  have ba := ba.below B9 ba.lt
  have bc := bc.below B9 bc.lt
  have bd := bd.below B9 bd.lt
  clear B9
  go_wp2_with fail
  refine (step_hear2 g _ hc).mono ?_; rintro e w10 ⟨rfl, hc, G10⟩
  have ba := ba.grown G10 (fun he => na (Option.some.inj he))
  have bc := bc.grown G10 (fun he => nc (Option.some.inj he))
  have bd := bd.grown G10 (fun he => nd (Option.some.inj he))
  have bw := bw.grown G10 bw.size (fun k hk => by cases hk; exact hwg)
  clear G10
  have hgl := Blk.lt hc
  have hww := bw.size
  have la := ba.lt
  have lc := bc.lt
  have ld := bd.lt
  have kl := (Blk.new w10 47 #[.int .u8 0, .int .u8 0, .int .u8 0, .int .u64 0, .int .u8 0, .int .u64 0, .int .u64 0, .int .u8 0, .string ⟨#[]⟩, .slice none 0 0, .slice none 0 0, .int .u8 0, .int .u32 0, .int .u8 0, .string ⟨#[]⟩, .string ⟨#[]⟩, .string ⟨#[]⟩, .int .u8 0, .int .u8 0, .string ⟨#[]⟩]).alloc (.cells #[.int .u8 0, .string ⟨#[]⟩] 43)
  have kr := Blk.new (w10.alloc (.cells #[.int .u8 0, .int .u8 0, .int .u8 0, .int .u64 0, .int .u8 0, .int .u64 0, .int .u64 0, .int .u8 0, .string ⟨#[]⟩, .slice none 0 0, .slice none 0 0, .int .u8 0, .int .u32 0, .int .u8 0, .string ⟨#[]⟩, .string ⟨#[]⟩, .string ⟨#[]⟩, .int .u8 0, .int .u8 0, .string ⟨#[]⟩] 47)) 43 #[.int .u8 0, .string ⟨#[]⟩]
  have es : (w10.alloc (.cells #[.int .u8 0, .int .u8 0, .int .u8 0, .int .u64 0, .int .u8 0, .int .u64 0, .int .u64 0, .int .u8 0, .string ⟨#[]⟩, .slice none 0 0, .slice none 0 0, .int .u8 0, .int .u32 0, .int .u8 0, .string ⟨#[]⟩, .string ⟨#[]⟩, .string ⟨#[]⟩, .int .u8 0, .int .u8 0, .string ⟨#[]⟩] 47)).heap.size = w10.heap.size + 1 := by simp
  rw [es] at kr
  obtain ⟨wAf, hstA, wBf, hstB, hcA, bwA, bf, bh, ca, cc, cd⟩ : ∃ wA, (Instr.storeAt 47 (.pointer (some ⟨w10.heap.size, 0, none⟩)) (.agg #[.int .u8 0, .int .u8 0, .int .u8 0, .int .u64 0, .int .u8 0, .int .u64 0, .int .u64 0, .int .u8 0, .string ⟨#[]⟩, .slice none 0 0, .slice none 0 0, .int .u8 0, .int .u32 0, .int .u8 0, .string ⟨#[]⟩, .string ⟨#[]⟩, .string ⟨#[]⟩, .int .u8 0, .int .u8 0, .string ⟨#[]⟩])).run Try.prog ((w10.alloc (.cells #[.int .u8 0, .int .u8 0, .int .u8 0, .int .u64 0, .int .u8 0, .int .u64 0, .int .u64 0, .int .u8 0, .string ⟨#[]⟩, .slice none 0 0, .slice none 0 0, .int .u8 0, .int .u32 0, .int .u8 0, .string ⟨#[]⟩, .string ⟨#[]⟩, .string ⟨#[]⟩, .int .u8 0, .int .u8 0, .string ⟨#[]⟩] 47)).alloc (.cells #[.int .u8 0, .string ⟨#[]⟩] 43)) = .ok () wA ∧ ∃ wBf, (Instr.storeAt 43 (.pointer (some ⟨w10.heap.size + 1, 0, none⟩)) (.agg #[.int .u8 0, .string ⟨#[120]⟩])).run Try.prog wA = .ok () wBf ∧ ClAt wBf g (⟨1, 3, 0, 1, cm0, false⟩ : Cl) ∧ Below w.heap.size w wBf ∧ Blk wBf (w10.heap.size) 47 #[.int .u8 0, .int .u8 0, .int .u8 0, .int .u64 0, .int .u8 0, .int .u64 0, .int .u64 0, .int .u8 0, .string ⟨#[]⟩, .slice none 0 0, .slice none 0 0, .int .u8 0, .int .u32 0, .int .u8 0, .string ⟨#[]⟩, .string ⟨#[]⟩, .string ⟨#[]⟩, .int .u8 0, .int .u8 0, .string ⟨#[]⟩] ∧ Blk wBf (w10.heap.size + 1) 43 #[.int .u8 0, .string ⟨#[120]⟩] ∧ Blk wBf (w3.heap.size) 47 #[.int .u8 17, .int .u8 1, .int .u8 1, .int .u64 0, .int .u8 0, .int .u64 0, .int .u64 0, .int .u8 0, .string ⟨#[]⟩, .slice none 0 0, .slice none 0 0, .int .u8 1, .int .u32 1, .int .u8 1, .string ⟨#[107]⟩, .string ⟨#[]⟩, .string ⟨#[]⟩, .int .u8 0, .int .u8 0, .string ⟨#[]⟩] ∧ Blk wBf (w6.heap.size) 47 #[.int .u8 17, .int .u8 2, .int .u8 1, .int .u64 0, .int .u8 0, .int .u64 0, .int .u64 0, .int .u8 0, .string ⟨#[]⟩, .slice none 0 0, .slice none 0 0, .int .u8 1, .int .u32 1, .int .u8 1, .string ⟨#[107]⟩, .string ⟨#[]⟩, .string ⟨#[]⟩, .int .u8 0, .int .u8 0, .string ⟨#[]⟩] ∧ Blk wBf (w8.heap.size) 47 #[.int .u8 17, .int .u8 0, .int .u8 1, .int .u64 0, .int .u8 0, .int .u64 0, .int .u64 0, .int .u8 0, .string ⟨#[]⟩, .slice none 0 0, .slice none 0 0, .int .u8 1, .int .u32 1, .int .u8 1, .string ⟨#[107]⟩, .string ⟨#[]⟩, .string ⟨#[]⟩, .int .u8 0, .int .u8 0, .string ⟨#[]⟩] :=
    ⟨_, blk_store kl rfl size_lt rfl, _, blk_store (kr.setRowFar (by omega)) rfl size_reply rfl, Blk.setRowFar (Blk.setRowFar (Blk.alloc (Blk.alloc hc _) _) (by omega)) (by omega), below_setRow (below_setRow ((bw.alloc bw.size _).alloc (by rw [es]; omega) _) (by omega)) (by omega), kl.setRow.setRowFar (by omega), (kr.setRowFar (by omega)).setRow, (((ba.alloc _).alloc _).setRowFar (by omega)).setRowFar (by omega), (((bc.alloc _).alloc _).setRowFar (by omega)).setRowFar (by omega), (((bd.alloc _).alloc _).setRowFar (by omega)).setRowFar (by omega)⟩
  have nf : w10.heap.size ≠ g := by omega
  have nh : w10.heap.size + 1 ≠ g := by omega
  clear kl kr es hc bw hgl hww ba la bc lc bd ld
  have hc := hcA
  have bw := bwA
  have ba := ca
  have bc := cc
  have bd := cd
  clear hcA bwA ca cc cd
  go_wp2_with (first | refine wpList_store (by rfl) (.tmp 13) (.tmp 63) (by rfl) (by rfl) (by rfl) hstA ?_ | refine wpList_store (by rfl) (.tmp 15) (.tmp 65) (by rfl) (by rfl) (by rfl) hstB ?_)
  clear hstA hstB
  clear bf nf
  refine (step_waits g _ hc).mono ?_; rintro e w11 ⟨rfl, B11⟩
  have hc := Blk.below hc B11 (Blk.lt hc)
  have bw := bw.trans (B11.mono bw.size)
  have ba := ba.below B11 ba.lt
  have bc := bc.below B11 bc.lt
  have bd := bd.below B11 bd.lt
  have bh := bh.below B11 bh.lt
  clear B11
  have hW := Lib.hid bw
  have va1 := (ba.alloc (.cells #[.int .u8 0, .int .u32 0, .int .u8 0, .string ⟨#[]⟩, .string ⟨#[]⟩, .string ⟨#[]⟩, .int .u8 0] 36)).cell 1
  have va0 := (ba.alloc (.cells #[.int .u8 0, .int .u32 0, .int .u8 0, .string ⟨#[]⟩, .string ⟨#[]⟩, .string ⟨#[]⟩, .int .u8 0] 36)).cell 0
  have va11 := (ba.alloc (.cells #[.int .u8 0, .int .u32 0, .int .u8 0, .string ⟨#[]⟩, .string ⟨#[]⟩, .string ⟨#[]⟩, .int .u8 0] 36)).cell 11
  have va12 := (ba.alloc (.cells #[.int .u8 0, .int .u32 0, .int .u8 0, .string ⟨#[]⟩, .string ⟨#[]⟩, .string ⟨#[]⟩, .int .u8 0] 36)).cell 12
  have va13 := (ba.alloc (.cells #[.int .u8 0, .int .u32 0, .int .u8 0, .string ⟨#[]⟩, .string ⟨#[]⟩, .string ⟨#[]⟩, .int .u8 0] 36)).cell 13
  have va14 := (ba.alloc (.cells #[.int .u8 0, .int .u32 0, .int .u8 0, .string ⟨#[]⟩, .string ⟨#[]⟩, .string ⟨#[]⟩, .int .u8 0] 36)).cell 14
  have va15 := (ba.alloc (.cells #[.int .u8 0, .int .u32 0, .int .u8 0, .string ⟨#[]⟩, .string ⟨#[]⟩, .string ⟨#[]⟩, .int .u8 0] 36)).cell 15
  have va16 := (ba.alloc (.cells #[.int .u8 0, .int .u32 0, .int .u8 0, .string ⟨#[]⟩, .string ⟨#[]⟩, .string ⟨#[]⟩, .int .u8 0] 36)).cell 16
  have va17 := (ba.alloc (.cells #[.int .u8 0, .int .u32 0, .int .u8 0, .string ⟨#[]⟩, .string ⟨#[]⟩, .string ⟨#[]⟩, .int .u8 0] 36)).cell 17
  have vc1 := (bc.alloc (.cells #[.int .u8 0, .int .u32 0, .int .u8 0, .string ⟨#[]⟩, .string ⟨#[]⟩, .string ⟨#[]⟩, .int .u8 0] 36)).cell 1
  have vd1 := (bd.alloc (.cells #[.int .u8 0, .int .u32 0, .int .u8 0, .string ⟨#[]⟩, .string ⟨#[]⟩, .string ⟨#[]⟩, .int .u8 0] 36)).cell 1
  have vh1 := (bh.alloc (.cells #[.int .u8 0, .int .u32 0, .int .u8 0, .string ⟨#[]⟩, .string ⟨#[]⟩, .string ⟨#[]⟩, .int .u8 0] 36)).cell 1
  have bz := bw.alloc bw.size (.cells #[.int .u8 0, .int .u32 0, .int .u8 0, .string ⟨#[]⟩, .string ⟨#[]⟩, .string ⟨#[]⟩, .int .u8 0] 36)
  clear bw ba bc bd bh hc hW
  go_wp2_with fail
  go_ret
  exact ⟨rfl, bz⟩
end Go.Proofs.Yteiaiilfekojfaa.Cli
