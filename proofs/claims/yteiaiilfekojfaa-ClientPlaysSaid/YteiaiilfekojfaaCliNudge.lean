/- Package client, walked: Nudge. Conditions: the client is as it may be. -/
import Derived.Test.YteiaiilfekojfaaCliW
namespace Go.Proofs.Yteiaiilfekojfaa.Cli
open Go.RowKit Wire Cmd

set_option maxRecDepth 100000 in
theorem nudge_nil (w : World) : Calls Try.prog 15 #[.pointer none] w fun e w' => e = .returned (.tuple #[ltV lt0, .int .i64 1]) ∧ Below w.heap.size w w' := by
  have kn := Blk.new w 47 #[.int .u8 0, .int .u8 0, .int .u8 0, .int .u64 0, .int .u8 0, .int .u64 0, .int .u64 0, .int .u8 0, .string ⟨#[]⟩, .slice none 0 0, .slice none 0 0, .int .u8 0, .int .u32 0, .int .u8 0, .string ⟨#[]⟩, .string ⟨#[]⟩, .string ⟨#[]⟩, .int .u8 0, .int .u8 0, .string ⟨#[]⟩]
  have hst := blk_store (P := Try.prog) (ty := 47) (cells := #[.int .u8 0, .int .u8 0, .int .u8 0, .int .u64 0, .int .u8 0, .int .u64 0, .int .u64 0, .int .u8 0, .string ⟨#[]⟩, .slice none 0 0, .slice none 0 0, .int .u8 0, .int .u32 0, .int .u8 0, .string ⟨#[]⟩, .string ⟨#[]⟩, .string ⟨#[]⟩, .int .u8 0, .int .u8 0, .string ⟨#[]⟩]) kn rfl size_lt rfl
  have HLD := Lib.hid (blk_loadVar (P := Try.prog) (ty := 47) (kn.setRow (cells := #[.int .u8 0, .int .u8 0, .int .u8 0, .int .u64 0, .int .u8 0, .int .u64 0, .int .u64 0, .int .u8 0, .string ⟨#[]⟩, .slice none 0 0, .slice none 0 0, .int .u8 0, .int .u32 0, .int .u8 0, .string ⟨#[]⟩, .string ⟨#[]⟩, .string ⟨#[]⟩, .int .u8 0, .int .u8 0, .string ⟨#[]⟩])) Try.underlying47 rfl size_lt)
  have bn := Lib.hid (below_setRow (cells := #[.int .u8 0, .int .u8 0, .int .u8 0, .int .u64 0, .int .u8 0, .int .u64 0, .int .u64 0, .int .u8 0, .string ⟨#[]⟩, .slice none 0 0, .slice none 0 0, .int .u8 0, .int .u32 0, .int .u8 0, .string ⟨#[]⟩, .string ⟨#[]⟩, .string ⟨#[]⟩, .int .u8 0, .int .u8 0, .string ⟨#[]⟩]) (show Below w.heap.size w (w.alloc (.cells #[.int .u8 0, .int .u8 0, .int .u8 0, .int .u64 0, .int .u8 0, .int .u64 0, .int .u64 0, .int .u8 0, .string ⟨#[]⟩, .slice none 0 0, .slice none 0 0, .int .u8 0, .int .u32 0, .int .u8 0, .string ⟨#[]⟩, .string ⟨#[]⟩, .string ⟨#[]⟩, .int .u8 0, .int .u8 0, .string ⟨#[]⟩] 47)) from (Below.refl _ w).alloc (Nat.le_refl _) _) (Nat.le_refl _))
  clear kn
  go_enter Try.func15, Try.ntmps15
  go_wp2_with (refine wpList_store (by rfl) (.tmp 2) (.tmp 6) (by rfl) (by rfl) (by rfl) hst ?_)
  exact bodyPost_ret (v := .tuple #[.agg #[.int .u8 0, .int .u8 0, .int .u8 0, .int .u64 0, .int .u8 0, .int .u64 0, .int .u64 0, .int .u8 0, .string ⟨#[]⟩, .slice none 0 0, .slice none 0 0, .int .u8 0, .int .u32 0, .int .u8 0, .string ⟨#[]⟩, .string ⟨#[]⟩, .string ⟨#[]⟩, .int .u8 0, .int .u8 0, .string ⟨#[]⟩], .int .i64 1]) (by simp [results, Try.results15, asAddr, HLD.out]) rfl ⟨rfl, bn.out⟩
set_option linter.unusedSimpArgs false in
set_option maxRecDepth 100000 in
set_option maxHeartbeats 4000000 in
theorem nudge_any (g : Nat) (x : Cl) (hf : x.Fits) (w : World) (h : ClAt w g x) : Calls Try.prog 15 #[.pointer (some ⟨g, 0, none⟩)] w fun e w' => e = .returned (.tuple #[ltV (nudgeC x).2.1, .int .i64 ((nudgeC x).2.2 : Int)]) ∧ ClGo w g (nudgeC x).1 w' := by
  obtain ⟨h1, h2, h3, h4, h5, h6⟩ := hf
  have hlt := Blk.lt h
  have HA := Lib.hid (fun (y : Cl) (hy : y.id < 4) W (hW : ClAt W g y) => ask_any g y hy W hW)
  obtain ⟨id, n, node, seq, ⟨xa, xb, xk, xs, xt, xu, xz⟩, wt⟩ := x
  unfold ClAt clC at h
  dsimp only at h h1 h2 h3 h4 h5 h6
  have kn := Blk.new w 47 #[.int .u8 0, .int .u8 0, .int .u8 0, .int .u64 0, .int .u8 0, .int .u64 0, .int .u64 0, .int .u8 0, .string ⟨#[]⟩, .slice none 0 0, .slice none 0 0, .int .u8 0, .int .u32 0, .int .u8 0, .string ⟨#[]⟩, .string ⟨#[]⟩, .string ⟨#[]⟩, .int .u8 0, .int .u8 0, .string ⟨#[]⟩]
  have hn := h.alloc (.cells #[.int .u8 0, .int .u8 0, .int .u8 0, .int .u64 0, .int .u8 0, .int .u64 0, .int .u64 0, .int .u8 0, .string ⟨#[]⟩, .slice none 0 0, .slice none 0 0, .int .u8 0, .int .u32 0, .int .u8 0, .string ⟨#[]⟩, .string ⟨#[]⟩, .string ⟨#[]⟩, .int .u8 0, .int .u8 0, .string ⟨#[]⟩] 47)
  have bn : w.grownBy (w.alloc (.cells #[.int .u8 0, .int .u8 0, .int .u8 0, .int .u64 0, .int .u8 0, .int .u64 0, .int .u64 0, .int .u8 0, .string ⟨#[]⟩, .slice none 0 0, .slice none 0 0, .int .u8 0, .int .u32 0, .int .u8 0, .string ⟨#[]⟩, .string ⟨#[]⟩, .string ⟨#[]⟩, .int .u8 0, .int .u8 0, .string ⟨#[]⟩] 47)) (some g) := only_alloc (World.grownBy.refl w _) _
  cases wt
  · unfold nudgeC ClGo ClAt clC ltV ltC lt0 cm0
    simp only [Bool.false_eq_true, if_false]
    have hst := blk_store (P := Try.prog) (ty := 47) (cells := #[.int .u8 0, .int .u8 0, .int .u8 0, .int .u64 0, .int .u8 0, .int .u64 0, .int .u64 0, .int .u8 0, .string ⟨#[]⟩, .slice none 0 0, .slice none 0 0, .int .u8 0, .int .u32 0, .int .u8 0, .string ⟨#[]⟩, .string ⟨#[]⟩, .string ⟨#[]⟩, .int .u8 0, .int .u8 0, .string ⟨#[]⟩]) kn rfl size_lt rfl
    have HLD := Lib.hid (blk_loadVar (P := Try.prog) (ty := 47) (kn.setRow (cells := #[.int .u8 0, .int .u8 0, .int .u8 0, .int .u64 0, .int .u8 0, .int .u64 0, .int .u64 0, .int .u8 0, .string ⟨#[]⟩, .slice none 0 0, .slice none 0 0, .int .u8 0, .int .u32 0, .int .u8 0, .string ⟨#[]⟩, .string ⟨#[]⟩, .string ⟨#[]⟩, .int .u8 0, .int .u8 0, .string ⟨#[]⟩])) Try.underlying47 rfl size_lt)
    have k11 := hn.cell 11
    have HN := Lib.hid (hn.setRowFar (cells := #[.int .u8 0, .int .u8 0, .int .u8 0, .int .u64 0, .int .u8 0, .int .u64 0, .int .u64 0, .int .u8 0, .string ⟨#[]⟩, .slice none 0 0, .slice none 0 0, .int .u8 0, .int .u32 0, .int .u8 0, .string ⟨#[]⟩, .string ⟨#[]⟩, .string ⟨#[]⟩, .int .u8 0, .int .u8 0, .string ⟨#[]⟩]) (Nat.ne_of_lt hlt))
    have BN := Lib.hid (grown_setRow (cells := #[.int .u8 0, .int .u8 0, .int .u8 0, .int .u64 0, .int .u8 0, .int .u64 0, .int .u64 0, .int .u8 0, .string ⟨#[]⟩, .slice none 0 0, .slice none 0 0, .int .u8 0, .int .u32 0, .int .u8 0, .string ⟨#[]⟩, .string ⟨#[]⟩, .string ⟨#[]⟩, .int .u8 0, .int .u8 0, .string ⟨#[]⟩]) bn (.inl (Nat.le_refl _)))
    clear kn hn bn HA
    go_enter Try.func15, Try.ntmps15
    go_wp2_with (refine wpList_store (by rfl) (.tmp 2) (.tmp 12) (by rfl) (by rfl) (by rfl) hst ?_)
    exact bodyPost_ret (v := .tuple #[.agg #[.int .u8 0, .int .u8 0, .int .u8 0, .int .u64 0, .int .u8 0, .int .u64 0, .int .u64 0, .int .u8 0, .string ⟨#[]⟩, .slice none 0 0, .slice none 0 0, .int .u8 0, .int .u32 0, .int .u8 0, .string ⟨#[]⟩, .string ⟨#[]⟩, .string ⟨#[]⟩, .int .u8 0, .int .u8 0, .string ⟨#[]⟩], .int .i64 13]) (by simp [results, Try.results15, asAddr, HLD.out]) rfl ⟨rfl, HN.out, BN.out⟩
  have hm1 : Int.tmod ((node : Int) + 1) (n : Int) = (((node + 1) % n : Nat) : Int) := by rw [Int.tmod_eq_emod_of_nonneg (by omega)]; simp
  have hml := Nat.mod_lt (node + 1) (show 0 < n by omega)
  have hnc : (nudgeC ⟨id, n, node, seq, ⟨xa, xb, xk, xs, xt, xu, xz⟩, true⟩) = (⟨id, n, (node + 1) % n, seq, ⟨xa, xb, xk, xs, xt, xu, xz⟩, true⟩, askL ⟨id, n, (node + 1) % n, seq, ⟨xa, xb, xk, xs, xt, xu, xz⟩, true⟩, 0) := rfl
  rw [hnc]
  clear hnc
  generalize (node + 1) % n = m at *
  have hwr : IntKind.u8.wrap (m : Int) = (m : Int) := by rw [IntKind.wrap_u8]; omega
  have hw1 : IntKind.i64.wrap ((node : Int) + 1) = (node : Int) + 1 := by rw [IntKind.wrap_i64]; omega
  have hw2 : IntKind.i64.wrap (m : Int) = (m : Int) := by rw [IntKind.wrap_i64]; omega
  have hw3 : IntKind.i64.wrap (node : Int) = (node : Int) := by rw [IntKind.wrap_i64]; omega
  have hne : ¬ n = 0 := by omega
  have hk11 : (w.alloc (.cells #[.int .u8 0, .int .u8 0, .int .u8 0, .int .u64 0, .int .u8 0, .int .u64 0, .int .u64 0, .int .u8 0, .string ⟨#[]⟩, .slice none 0 0, .slice none 0 0, .int .u8 0, .int .u32 0, .int .u8 0, .string ⟨#[]⟩, .string ⟨#[]⟩, .string ⟨#[]⟩, .int .u8 0, .int .u8 0, .string ⟨#[]⟩] 47)).cell? ⟨g, 11, none⟩ = some (.bool true) := hn.cell 11
  go_enter Try.func15, Try.ntmps15
  go_upto_region 5 with fail
  have hnd := hn.drew
  have knd := kn.drew
  have bnd := only_drew bn
  obtain ⟨gn, hgn⟩ : ∃ gn, gn = w.heap.size := ⟨_, rfl⟩
  have hgw : w.heap.size ≤ gn := Nat.le_of_eq hgn.symm
  rw [← hgn] at knd hlt ⊢
  generalize w.alloc (.cells #[.int .u8 0, .int .u8 0, .int .u8 0, .int .u64 0, .int .u8 0, .int .u64 0, .int .u64 0, .int .u8 0, .string ⟨#[]⟩, .slice none 0 0, .slice none 0 0, .int .u8 0, .int .u32 0, .int .u8 0, .string ⟨#[]⟩, .string ⟨#[]⟩, .string ⟨#[]⟩, .int .u8 0, .int .u8 0, .string ⟨#[]⟩] 47) = w1 at *
  clear hgn kn hn bn hk11
  have k1 : w1.drew.cell? ⟨g, 1, none⟩ = some (.int .i64 (n : Int)) := hnd.cell 1
  have k2 : w1.drew.cell? ⟨g, 2, none⟩ = some (.int .u8 (node : Int)) := hnd.cell 2
  have f2 := hnd.frozen 2
  have hst : (Instr.storeAt 5 (.pointer (some ⟨g, 2, none⟩)) (.int .u8 (m : Int))).run Try.prog w1.drew = .ok () (w1.drew.setCell ⟨g, 2, none⟩ (.int .u8 (m : Int))) := by go_simp
  have hy := hnd.set_ 2 (.int .u8 (m : Int))
  simp only [List.setIfInBounds_toArray, List.set_cons_zero, List.set_cons_succ] at hy
  have ky := knd.far (p := ⟨g, 2, none⟩) (Nat.ne_of_gt hlt) (.int .u8 (m : Int))
  have by_ := only_setCell bnd (p := ⟨g, 2, none⟩) (.inl rfl) (.int .u8 (m : Int))
  refine wp_region_held_drew (S := fun W : World => W.cell? ⟨g, 1, none⟩ = some (.int .i64 (n : Int))) (by kernel_rfl) (k1) (fun hHeld => ?_)
  refine take1 (i := 0) (d := 13) (v := ?_) rfl (by kernel_rfl) (by kernel_rfl) (by kernel_rfl) rfl (fun _ _ _ h => h) (Or.inl ⟨by rfl, ?_⟩) (by assumption) ?_
  rotate_left
  · (intro w hSw; (try dsimp only at hSw); go_simp); with_reducible rfl
  simp only [List.set_cons_zero, List.set_cons_succ]
  refine take1 (i := 1) (d := 14) (v := ?_) rfl (by kernel_rfl) (by kernel_rfl) (by kernel_rfl) rfl (fun _ _ _ h => h) (Or.inl ⟨by rfl, ?_⟩) (by assumption) ?_
  rotate_left
  · (intro w hSw; (try dsimp only at hSw); go_simp); with_reducible rfl
  simp only [List.set_cons_zero, List.set_cons_succ]
  refine take1 (i := 2) (d := 15) (v := ?_) rfl (by kernel_rfl) (by kernel_rfl) (by kernel_rfl) rfl (fun _ _ _ h => h) (Or.inl ⟨by rfl, ?_⟩) (by assumption) ?_
  rotate_left
  · (intro w hSw; (try dsimp only at hSw); go_simp); with_reducible rfl
  simp only [List.set_cons_zero, List.set_cons_succ]
  refine take1 (i := 3) (d := 16) (v := ?_) rfl (by kernel_rfl) (by kernel_rfl) (by kernel_rfl) rfl (fun _ _ _ h => h) (Or.inl ⟨by rfl, ?_⟩) (by assumption) ?_
  rotate_left
  · (intro w hSw; (try dsimp only at hSw); go_simp); with_reducible rfl
  simp only [List.set_cons_zero, List.set_cons_succ]
  refine take1 (i := 7) (d := 20) (v := ?_) rfl (by kernel_rfl) (by kernel_rfl) (by kernel_rfl) rfl (fun _ _ _ h => h) (Or.inl ⟨by rfl, ?_⟩) (by assumption) ?_
  rotate_left
  · (intro w hSw; (try dsimp only at hSw); go_simp); with_reducible rfl
  simp only [List.set_cons_zero, List.set_cons_succ]
  refine take1 (i := 8) (d := 21) (v := ?_) rfl (by kernel_rfl) (by kernel_rfl) (by kernel_rfl) rfl (fun _ _ _ h => h) (Or.inl ⟨by rfl, ?_⟩) (by assumption) ?_
  rotate_left
  · (intro w hSw; (try dsimp only at hSw); go_simp); with_reducible rfl
  simp only [List.set_cons_zero, List.set_cons_succ]
  refine take1 (i := 9) (d := 22) (v := ?_) rfl (by kernel_rfl) (by kernel_rfl) (by kernel_rfl) rfl (fun _ _ _ h => h) (Or.inl ⟨by rfl, ?_⟩) (by assumption) ?_
  rotate_left
  · (intro w hSw; (try dsimp only at hSw); go_simp); with_reducible rfl
  simp only [List.set_cons_zero, List.set_cons_succ]
  refine take1 (i := 10) (d := 23) (v := ?_) rfl (by kernel_rfl) (by kernel_rfl) (by kernel_rfl) rfl (fun _ _ _ h => h) (Or.inl ⟨by rfl, ?_⟩) (by assumption) ?_
  rotate_left
  · (intro w hSw; (try dsimp only at hSw); go_simp); with_reducible rfl
  simp only [List.set_cons_zero, List.set_cons_succ]
  refine wpAnyH_ready (rs := [4]) (by kernel_rfl) (by simp) (AllReadyH.cons rfl (fun Kreg hKreg => ?_) AllReadyH.nil)
  go_simp
  skip
  go_wp2_with fail
  refine hKreg.out _ _ (by first | exact k1 | exact hy.cell 1) (fun hHeld => ?_)
  clear hKreg Kreg
  try simp only [Act.put, List.setIfInBounds_toArray, List.set_cons_zero, List.set_cons_succ]
  refine take1 (i := 5) (d := 18) (v := ?_) rfl (by kernel_rfl) (by kernel_rfl) (by kernel_rfl) rfl (fun _ _ _ h => h) (Or.inl ⟨by rfl, ?_⟩) (by assumption) ?_
  rotate_left
  · (intro w hSw; (try dsimp only at hSw); go_simp); with_reducible rfl
  simp only [List.set_cons_zero, List.set_cons_succ]
  refine take1 (i := 6) (d := 19) (v := ?_) rfl (by kernel_rfl) (by kernel_rfl) (by kernel_rfl) rfl (fun _ _ _ h => h) (Or.inl ⟨by rfl, ?_⟩) (by assumption) ?_
  rotate_left
  · (intro w hSw; (try dsimp only at hSw); go_simp); with_reducible rfl
  simp only [List.set_cons_zero, List.set_cons_succ]
  refine take1 (i := 11) (d := 24) (v := ?_) rfl (by kernel_rfl) (by kernel_rfl) (by kernel_rfl) rfl (fun _ _ _ h => h) (Or.inl ⟨by rfl, ?_⟩) (by assumption) ?_
  rotate_left
  · (intro w hSw; (try dsimp only at hSw); go_simp); with_reducible rfl
  simp only [List.set_cons_zero, List.set_cons_succ]
  refine take1 (i := 12) (d := 25) (v := ?_) rfl (by kernel_rfl) (by kernel_rfl) (by kernel_rfl) rfl (fun _ _ _ h => h) (Or.inl ⟨by rfl, ?_⟩) (by assumption) ?_
  rotate_left
  · (intro w hSw; (try dsimp only at hSw); go_simp); with_reducible rfl
  simp only [List.set_cons_zero, List.set_cons_succ]
  refine take1 (i := 13) (d := 26) (v := ?_) rfl (by kernel_rfl) (by kernel_rfl) (by kernel_rfl) rfl (fun _ _ _ h => h) (Or.inl ⟨by rfl, ?_⟩) (by assumption) ?_
  rotate_left
  · (intro w hSw; (try dsimp only at hSw); go_simp); with_reducible rfl
  simp only [List.set_cons_zero, List.set_cons_succ]
  refine take1 (i := 14) (d := 27) (v := ?_) rfl (by kernel_rfl) (by kernel_rfl) (by kernel_rfl) rfl (fun _ _ _ h => h) (Or.inl ⟨by rfl, ?_⟩) (by assumption) ?_
  rotate_left
  · (intro w hSw; (try dsimp only at hSw); go_simp); with_reducible rfl
  simp only [List.set_cons_zero, List.set_cons_succ]
  refine wpAnyH_ready (rs := [15]) (by kernel_rfl) (by simp) (AllReadyH.cons rfl (fun Kreg hKreg => ?_) AllReadyH.nil)
  refine step_store (by rfl) (.tmp 27) (.tmp 25) (by rfl) (by rfl) (by rfl) hst ?_
  refine hKreg.out _ _ (by first | exact k1 | exact hy.cell 1) (fun hHeld => ?_)
  clear hKreg Kreg
  try simp only [Act.put, List.setIfInBounds_toArray, List.set_cons_zero, List.set_cons_succ]
  refine wpAnyH_done (by kernel_rfl) ?_ _
  clear hst k1 k2 f2 hnd knd bnd
  go_wp2_with fail
  refine (HA.out ⟨id, n, m, seq, ⟨xa, xb, xk, xs, xt, xu, xz⟩, true⟩ h1 _ hy).mono ?_; rintro e w3 ⟨rfl, B3⟩
  unfold ltV ltC askL lt0 cm0
  dsimp only
  have hy3 := hy.below B3 hy.lt
  have ky3 := ky.below B3 ky.lt
  have by3 := grown_step by_ (only_of_below B3 (some g))
  have hst := blk_store (P := Try.prog) (ty := 47) (cells := #[.int .u8 (16 + (id : Int)), .int .u8 (m : Int), .int .u8 1, .int .u64 0, .int .u8 0, .int .u64 0, .int .u64 0, .int .u8 0, .string ⟨#[]⟩, .slice none 0 0, .slice none 0 0, .int .u8 (xa : Int), .int .u32 (xb : Int), .int .u8 (xk : Int), .string ⟨xs.toArray⟩, .string ⟨xt.toArray⟩, .string ⟨xu.toArray⟩, .int .u8 (xz : Int), .int .u8 0, .string ⟨#[]⟩]) ky3 rfl size_lt rfl
  have hld := blk_loadVar (P := Try.prog) (ty := 47) (ky3.setRow (cells := #[.int .u8 (16 + (id : Int)), .int .u8 (m : Int), .int .u8 1, .int .u64 0, .int .u8 0, .int .u64 0, .int .u64 0, .int .u8 0, .string ⟨#[]⟩, .slice none 0 0, .slice none 0 0, .int .u8 (xa : Int), .int .u32 (xb : Int), .int .u8 (xk : Int), .string ⟨xs.toArray⟩, .string ⟨xt.toArray⟩, .string ⟨xu.toArray⟩, .int .u8 (xz : Int), .int .u8 0, .string ⟨#[]⟩])) Try.underlying47 rfl size_lt
  have hy4 := hy3.setRowFar (cells := #[.int .u8 (16 + (id : Int)), .int .u8 (m : Int), .int .u8 1, .int .u64 0, .int .u8 0, .int .u64 0, .int .u64 0, .int .u8 0, .string ⟨#[]⟩, .slice none 0 0, .slice none 0 0, .int .u8 (xa : Int), .int .u32 (xb : Int), .int .u8 (xk : Int), .string ⟨xs.toArray⟩, .string ⟨xt.toArray⟩, .string ⟨xu.toArray⟩, .int .u8 (xz : Int), .int .u8 0, .string ⟨#[]⟩]) (Nat.ne_of_lt hlt)
  have by4 := grown_setRow (cells := #[.int .u8 (16 + (id : Int)), .int .u8 (m : Int), .int .u8 1, .int .u64 0, .int .u8 0, .int .u64 0, .int .u64 0, .int .u8 0, .string ⟨#[]⟩, .slice none 0 0, .slice none 0 0, .int .u8 (xa : Int), .int .u32 (xb : Int), .int .u8 (xk : Int), .string ⟨xs.toArray⟩, .string ⟨xt.toArray⟩, .string ⟨xu.toArray⟩, .int .u8 (xz : Int), .int .u8 0, .string ⟨#[]⟩]) by3 (.inl hgw)
  have HLD := Lib.hid hld
  have HY4 := Lib.hid hy4
  have BY4 := Lib.hid by4
  clear hld hy4 by4 hy ky by_ B3 hy3 ky3 by3
  go_wp2_with (refine wpList_store (by rfl) (.tmp 2) (.tmp 29) (by rfl) (by rfl) (by rfl) hst ?_)
  exact bodyPost_ret (v := .tuple #[.agg #[.int .u8 (16 + (id : Int)), .int .u8 (m : Int), .int .u8 1, .int .u64 0, .int .u8 0, .int .u64 0, .int .u64 0, .int .u8 0, .string ⟨#[]⟩, .slice none 0 0, .slice none 0 0, .int .u8 (xa : Int), .int .u32 (xb : Int), .int .u8 (xk : Int), .string ⟨xs.toArray⟩, .string ⟨xt.toArray⟩, .string ⟨xu.toArray⟩, .int .u8 (xz : Int), .int .u8 0, .string ⟨#[]⟩], .int .i64 0]) (by simp [results, Try.results15, asAddr, HLD.out]) rfl ⟨rfl, HY4.out, BY4.out⟩
end Go.Proofs.Yteiaiilfekojfaa.Cli
