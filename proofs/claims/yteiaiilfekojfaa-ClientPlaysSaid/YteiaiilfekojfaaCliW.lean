/- Package client, walked: ask, Waits, Nudge, New. Conditions: the client is as it may be. -/
import Derived.Test.YteiaiilfekojfaaCliP
import Derived.Test.YteiaiilfekojfaaRow
import Derived.Test.YteiaiilfekojfaaKeep
import Derived.Deep.RegionHeldLaw
import Derived.Deep.DeepCutAuto
namespace Go.Proofs.Yteiaiilfekojfaa.Cli
open Go.RowKit Wire Cmd

theorem size_lt : (Try.prog.info? 47).map (·.size) = some 20 := by kernel_rfl
theorem size_cmd : (Try.prog.info? 36).map (·.size) = some 7 := by kernel_rfl
set_option linter.unusedSimpArgs false in
set_option maxRecDepth 100000 in
set_option maxHeartbeats 4000000 in
theorem ask_any (g : Nat) (x : Cl) (h1 : x.id < 4) (w : World) (h : ClAt w g x) : Calls Try.prog 32 #[.pointer (some ⟨g, 0, none⟩)] w fun e w' => e = .returned (ltV (askL x)) ∧ Below w.heap.size w w' := by
  obtain ⟨id, n, node, seq, ⟨xa, xb, xk, xs, xt, xu, xz⟩, wt⟩ := x
  unfold ClAt clC at h
  dsimp only at h h1
  unfold ltV ltC askL lt0 cm0
  dsimp only
  have hlt := h.lt
  have hwr : IntKind.u8.wrap (16 + (id : Int)) = 16 + (id : Int) := by rw [IntKind.wrap_u8]; omega
  have kn := Blk.new w 47 #[.int .u8 0, .int .u8 0, .int .u8 0, .int .u64 0, .int .u8 0, .int .u64 0, .int .u64 0, .int .u8 0, .string ⟨#[]⟩, .slice none 0 0, .slice none 0 0, .int .u8 0, .int .u32 0, .int .u8 0, .string ⟨#[]⟩, .string ⟨#[]⟩, .string ⟨#[]⟩, .int .u8 0, .int .u8 0, .string ⟨#[]⟩]
  have bn : Below w.heap.size w (w.alloc (.cells #[.int .u8 0, .int .u8 0, .int .u8 0, .int .u64 0, .int .u8 0, .int .u64 0, .int .u64 0, .int .u8 0, .string ⟨#[]⟩, .slice none 0 0, .slice none 0 0, .int .u8 0, .int .u32 0, .int .u8 0, .string ⟨#[]⟩, .string ⟨#[]⟩, .string ⟨#[]⟩, .int .u8 0, .int .u8 0, .string ⟨#[]⟩] 47)) := (Below.refl _ w).alloc (Nat.le_refl _) _
  have hn := h.alloc (.cells #[.int .u8 0, .int .u8 0, .int .u8 0, .int .u64 0, .int .u8 0, .int .u64 0, .int .u64 0, .int .u8 0, .string ⟨#[]⟩, .slice none 0 0, .slice none 0 0, .int .u8 0, .int .u32 0, .int .u8 0, .string ⟨#[]⟩, .string ⟨#[]⟩, .string ⟨#[]⟩, .int .u8 0, .int .u8 0, .string ⟨#[]⟩] 47)
  go_enter Try.func32, Try.ntmps32
  go_upto_region 1 with fail
  have hnd := hn.drew
  have knd := kn.drew
  obtain ⟨gn, hgn⟩ : ∃ gn, gn = w.heap.size := ⟨_, rfl⟩
  have hgw : w.heap.size ≤ gn := Nat.le_of_eq hgn.symm
  rw [← hgn] at knd hlt ⊢
  generalize w.alloc (.cells #[.int .u8 0, .int .u8 0, .int .u8 0, .int .u64 0, .int .u8 0, .int .u64 0, .int .u64 0, .int .u8 0, .string ⟨#[]⟩, .slice none 0 0, .slice none 0 0, .int .u8 0, .int .u32 0, .int .u8 0, .string ⟨#[]⟩, .string ⟨#[]⟩, .string ⟨#[]⟩, .int .u8 0, .int .u8 0, .string ⟨#[]⟩] 47) = w1 at *
  clear hgn kn hn
  have k0 : w1.drew.cell? ⟨g, 0, none⟩ = some (.int .u8 (id : Int)) := hnd.cell 0
  have k2 : w1.drew.cell? ⟨g, 2, none⟩ = some (.int .u8 (node : Int)) := hnd.cell 2
  have k4 : w1.drew.cell? ⟨g, 4, none⟩ = some (.int .u8 (xa : Int)) := hnd.cell 4
  have k5 : w1.drew.cell? ⟨g, 5, none⟩ = some (.int .u32 (xb : Int)) := hnd.cell 5
  have k6 : w1.drew.cell? ⟨g, 6, none⟩ = some (.int .u8 (xk : Int)) := hnd.cell 6
  have k7 : w1.drew.cell? ⟨g, 7, none⟩ = some (.string ⟨xs.toArray⟩) := hnd.cell 7
  have k8 : w1.drew.cell? ⟨g, 8, none⟩ = some (.string ⟨xt.toArray⟩) := hnd.cell 8
  have k9 : w1.drew.cell? ⟨g, 9, none⟩ = some (.string ⟨xu.toArray⟩) := hnd.cell 9
  have k10 : w1.drew.cell? ⟨g, 10, none⟩ = some (.int .u8 (xz : Int)) := hnd.cell 10
  have hst := blk_store (P := Try.prog) (ty := 47) (cells := #[.int .u8 (16 + (id : Int)), .int .u8 (node : Int), .int .u8 1, .int .u64 0, .int .u8 0, .int .u64 0, .int .u64 0, .int .u8 0, .string ⟨#[]⟩, .slice none 0 0, .slice none 0 0, .int .u8 (xa : Int), .int .u32 (xb : Int), .int .u8 (xk : Int), .string ⟨xs.toArray⟩, .string ⟨xt.toArray⟩, .string ⟨xu.toArray⟩, .int .u8 (xz : Int), .int .u8 0, .string ⟨#[]⟩]) knd rfl size_lt rfl
  have kz := knd.setRow (cells := #[.int .u8 (16 + (id : Int)), .int .u8 (node : Int), .int .u8 1, .int .u64 0, .int .u8 0, .int .u64 0, .int .u64 0, .int .u8 0, .string ⟨#[]⟩, .slice none 0 0, .slice none 0 0, .int .u8 (xa : Int), .int .u32 (xb : Int), .int .u8 (xk : Int), .string ⟨xs.toArray⟩, .string ⟨xt.toArray⟩, .string ⟨xu.toArray⟩, .int .u8 (xz : Int), .int .u8 0, .string ⟨#[]⟩])
  have hld := blk_loadVar (P := Try.prog) (ty := 47) kz Try.underlying47 rfl size_lt
  have hz := hnd.setRowFar (cells := #[.int .u8 (16 + (id : Int)), .int .u8 (node : Int), .int .u8 1, .int .u64 0, .int .u8 0, .int .u64 0, .int .u64 0, .int .u8 0, .string ⟨#[]⟩, .slice none 0 0, .slice none 0 0, .int .u8 (xa : Int), .int .u32 (xb : Int), .int .u8 (xk : Int), .string ⟨xs.toArray⟩, .string ⟨xt.toArray⟩, .string ⟨xu.toArray⟩, .int .u8 (xz : Int), .int .u8 0, .string ⟨#[]⟩]) (Nat.ne_of_lt hlt)
  have bz := below_setRow (cells := #[.int .u8 (16 + (id : Int)), .int .u8 (node : Int), .int .u8 1, .int .u64 0, .int .u8 0, .int .u64 0, .int .u64 0, .int .u8 0, .string ⟨#[]⟩, .slice none 0 0, .slice none 0 0, .int .u8 (xa : Int), .int .u32 (xb : Int), .int .u8 (xk : Int), .string ⟨xs.toArray⟩, .string ⟨xt.toArray⟩, .string ⟨xu.toArray⟩, .int .u8 (xz : Int), .int .u8 0, .string ⟨#[]⟩]) bn.drew hgw
  have HLD := Lib.hid hld
  have HBZ := Lib.hid bz
  clear hld bz bn kz
  refine wp_region_held_drew (S := fun W : World => W.cell? ⟨g, 0, none⟩ = some (.int .u8 (id : Int)) ∧ W.cell? ⟨g, 2, none⟩ = some (.int .u8 (node : Int)) ∧ W.cell? ⟨g, 4, none⟩ = some (.int .u8 (xa : Int)) ∧ W.cell? ⟨g, 5, none⟩ = some (.int .u32 (xb : Int)) ∧ W.cell? ⟨g, 6, none⟩ = some (.int .u8 (xk : Int)) ∧ W.cell? ⟨g, 7, none⟩ = some (.string ⟨xs.toArray⟩) ∧ W.cell? ⟨g, 8, none⟩ = some (.string ⟨xt.toArray⟩) ∧ W.cell? ⟨g, 9, none⟩ = some (.string ⟨xu.toArray⟩) ∧ W.cell? ⟨g, 10, none⟩ = some (.int .u8 (xz : Int))) (by kernel_rfl) (⟨k0, k2, k4, k5, k6, k7, k8, k9, k10⟩) (fun hHeld => ?_)
  refine take1 (i := 0) (d := 3) (v := ?_) rfl (by kernel_rfl) (by kernel_rfl) (by kernel_rfl) rfl (fun _ _ _ h => h) (Or.inl ⟨by rfl, ?_⟩) (by assumption) ?_
  rotate_left
  · (intro w hSw; (try dsimp only at hSw); go_simp); with_reducible rfl
  simp only [List.set_cons_zero, List.set_cons_succ]
  refine take1 (i := 1) (d := 4) (v := ?_) rfl (by kernel_rfl) (by kernel_rfl) (by kernel_rfl) rfl (fun _ _ _ h => h) (Or.inl ⟨by rfl, ?_⟩) (by assumption) ?_
  rotate_left
  · (intro w hSw; (try dsimp only at hSw); go_simp); with_reducible rfl
  simp only [List.set_cons_zero, List.set_cons_succ]
  refine take1 (i := 2) (d := 5) (v := ?_) rfl (by kernel_rfl) (by kernel_rfl) (by kernel_rfl) rfl (fun _ _ _ h => h) (Or.inl ⟨by rfl, ?_⟩) (by assumption) ?_
  rotate_left
  · (intro w hSw; (try dsimp only at hSw); go_simp); with_reducible rfl
  simp only [List.set_cons_zero, List.set_cons_succ]
  refine take1 (i := 3) (d := 6) (v := ?_) rfl (by kernel_rfl) (by kernel_rfl) (by kernel_rfl) rfl (fun _ _ _ h => h) (Or.inl ⟨by rfl, ?_⟩) (by assumption) ?_
  rotate_left
  · (intro w hSw; (try dsimp only at hSw); go_simp); with_reducible rfl
  simp only [List.set_cons_zero, List.set_cons_succ]
  refine take1 (i := 4) (d := 7) (v := ?_) rfl (by kernel_rfl) (by kernel_rfl) (by kernel_rfl) rfl (fun _ _ _ h => h) (Or.inl ⟨by rfl, ?_⟩) (by assumption) ?_
  rotate_left
  · (intro w hSw; (try dsimp only at hSw); go_simp); with_reducible rfl
  simp only [List.set_cons_zero, List.set_cons_succ]
  refine take1 (i := 5) (d := 8) (v := ?_) rfl (by kernel_rfl) (by kernel_rfl) (by kernel_rfl) rfl (fun _ _ _ h => h) (Or.inl ⟨by rfl, ?_⟩) (by assumption) ?_
  rotate_left
  · (intro w hSw; (try dsimp only at hSw); go_simp); with_reducible rfl
  simp only [List.set_cons_zero, List.set_cons_succ]
  refine take1 (i := 6) (d := 9) (v := ?_) rfl (by kernel_rfl) (by kernel_rfl) (by kernel_rfl) rfl (fun _ _ _ h => h) (Or.inl ⟨by rfl, ?_⟩) (by assumption) ?_
  rotate_left
  · (intro w hSw; (try dsimp only at hSw); go_simp); with_reducible rfl
  simp only [List.set_cons_zero, List.set_cons_succ]
  refine take1 (i := 7) (d := 10) (v := ?_) rfl (by kernel_rfl) (by kernel_rfl) (by kernel_rfl) rfl (fun _ _ _ h => h) (Or.inl ⟨by rfl, ?_⟩) (by assumption) ?_
  rotate_left
  · (intro w hSw; (try dsimp only at hSw); go_simp); with_reducible rfl
  simp only [List.set_cons_zero, List.set_cons_succ]
  refine take1 (i := 8) (d := 11) (v := ?_) rfl (by kernel_rfl) (by kernel_rfl) (by kernel_rfl) rfl (fun _ _ _ h => h) (Or.inl ⟨by rfl, ?_⟩) (by assumption) ?_
  rotate_left
  · (intro w hSw; (try dsimp only at hSw); go_simp); with_reducible rfl
  simp only [List.set_cons_zero, List.set_cons_succ]
  refine take1 (i := 9) (d := 12) (v := ?_) rfl (by kernel_rfl) (by kernel_rfl) (by kernel_rfl) rfl (fun _ _ _ h => h) (Or.inl ⟨by rfl, ?_⟩) (by assumption) ?_
  rotate_left
  · (intro w hSw; (try dsimp only at hSw); go_simp); with_reducible rfl
  simp only [List.set_cons_zero, List.set_cons_succ]
  refine take1 (i := 10) (d := 13) (v := ?_) rfl (by kernel_rfl) (by kernel_rfl) (by kernel_rfl) rfl (fun _ _ _ h => h) (Or.inl ⟨by rfl, ?_⟩) (by assumption) ?_
  rotate_left
  · (intro w hSw; (try dsimp only at hSw); go_simp); with_reducible rfl
  simp only [List.set_cons_zero, List.set_cons_succ]
  refine take1 (i := 11) (d := 14) (v := ?_) rfl (by kernel_rfl) (by kernel_rfl) (by kernel_rfl) rfl (fun _ _ _ h => h) (Or.inl ⟨by rfl, ?_⟩) (by assumption) ?_
  rotate_left
  · (intro w hSw; (try dsimp only at hSw); go_simp); with_reducible rfl
  simp only [List.set_cons_zero, List.set_cons_succ]
  refine take1 (i := 12) (d := 15) (v := ?_) rfl (by kernel_rfl) (by kernel_rfl) (by kernel_rfl) rfl (fun _ _ _ h => h) (Or.inl ⟨by rfl, ?_⟩) (by assumption) ?_
  rotate_left
  · (intro w hSw; (try dsimp only at hSw); go_simp); with_reducible rfl
  simp only [List.set_cons_zero, List.set_cons_succ]
  refine take1 (i := 13) (d := 16) (v := ?_) rfl (by kernel_rfl) (by kernel_rfl) (by kernel_rfl) rfl (fun _ _ _ h => h) (Or.inl ⟨by rfl, ?_⟩) (by assumption) ?_
  rotate_left
  · (intro w hSw; (try dsimp only at hSw); go_simp); with_reducible rfl
  simp only [List.set_cons_zero, List.set_cons_succ]
  refine take1 (i := 14) (d := 17) (v := ?_) rfl (by kernel_rfl) (by kernel_rfl) (by kernel_rfl) rfl (fun _ _ _ h => h) (Or.inl ⟨by rfl, ?_⟩) (by assumption) ?_
  rotate_left
  · (intro w hSw; (try dsimp only at hSw); go_simp); with_reducible rfl
  simp only [List.set_cons_zero, List.set_cons_succ]
  refine wpAnyH_ready (rs := [15]) (by kernel_rfl) (by simp) (AllReadyH.cons rfl (fun Kreg hKreg => ?_) AllReadyH.nil)
  refine step_store (by rfl) (.tmp 2) (.tmp 17) (by rfl) (by rfl) (by rfl) hst ?_
  refine hKreg.out _ _ (⟨hz.cell 0, hz.cell 2, hz.cell 4, hz.cell 5, hz.cell 6, hz.cell 7, hz.cell 8, hz.cell 9, hz.cell 10⟩) (fun hHeld => ?_)
  clear hKreg Kreg
  try simp only [Act.put, List.setIfInBounds_toArray, List.set_cons_zero, List.set_cons_succ]
  refine wpAnyH_done (by kernel_rfl) ?_ _
  clear hst hz
  go_wp2_with fail
  refine bodyPost_ret (v := .agg #[.int .u8 (16 + (id : Int)), .int .u8 (node : Int), .int .u8 1, .int .u64 0, .int .u8 0, .int .u64 0, .int .u64 0, .int .u8 0, .string ⟨#[]⟩, .slice none 0 0, .slice none 0 0, .int .u8 (xa : Int), .int .u32 (xb : Int), .int .u8 (xk : Int), .string ⟨xs.toArray⟩, .string ⟨xt.toArray⟩, .string ⟨xu.toArray⟩, .int .u8 (xz : Int), .int .u8 0, .string ⟨#[]⟩]) (by simp [results, Try.results32, asAddr, HLD.out]) rfl ⟨rfl, HBZ.out⟩
theorem waits_nil (w : World) : Calls Try.prog 19 #[.pointer none] w fun e w' => e = .returned (.tuple #[cmV cm0, .bool false]) ∧ Below w.heap.size w w' := by
  have kn := Blk.new w 36 #[.int .u8 0, .int .u32 0, .int .u8 0, .string ⟨#[]⟩, .string ⟨#[]⟩, .string ⟨#[]⟩, .int .u8 0]
  have HLD := Lib.hid (blk_loadVar (P := Try.prog) (ty := 36) kn Try.underlying36 rfl size_cmd)
  have bn := Lib.hid (show Below w.heap.size w (w.alloc (.cells #[.int .u8 0, .int .u32 0, .int .u8 0, .string ⟨#[]⟩, .string ⟨#[]⟩, .string ⟨#[]⟩, .int .u8 0] 36)) from (Below.refl _ w).alloc (Nat.le_refl _) _)
  clear kn
  go_enter Try.func19, Try.ntmps19
  go_wp2_with fail
  exact bodyPost_ret (v := .tuple #[.agg #[.int .u8 0, .int .u32 0, .int .u8 0, .string ⟨#[]⟩, .string ⟨#[]⟩, .string ⟨#[]⟩, .int .u8 0], .bool false]) (by simp [results, Try.results19, asAddr, HLD.out]) rfl ⟨rfl, bn.out⟩
set_option linter.unusedSimpArgs false in
theorem waits_any (g : Nat) (x : Cl) (w : World) (h : ClAt w g x) : Calls Try.prog 19 #[.pointer (some ⟨g, 0, none⟩)] w fun e w' => e = .returned (.tuple #[cmV (waitsC x).1, .bool (waitsC x).2]) ∧ Below w.heap.size w w' := by
  obtain ⟨id, n, node, seq, ⟨xa, xb, xk, xs, xt, xu, xz⟩, wt⟩ := x
  unfold ClAt clC at h
  dsimp only at h
  have hn := h.alloc (.cells #[.int .u8 0, .int .u32 0, .int .u8 0, .string ⟨#[]⟩, .string ⟨#[]⟩, .string ⟨#[]⟩, .int .u8 0] 36)
  have k4 : (w.alloc (.cells #[.int .u8 0, .int .u32 0, .int .u8 0, .string ⟨#[]⟩, .string ⟨#[]⟩, .string ⟨#[]⟩, .int .u8 0] 36)).cell? ⟨g, 4, none⟩ = some (.int .u8 (xa : Int)) := hn.cell 4
  have k5 : (w.alloc (.cells #[.int .u8 0, .int .u32 0, .int .u8 0, .string ⟨#[]⟩, .string ⟨#[]⟩, .string ⟨#[]⟩, .int .u8 0] 36)).cell? ⟨g, 5, none⟩ = some (.int .u32 (xb : Int)) := hn.cell 5
  have k6 : (w.alloc (.cells #[.int .u8 0, .int .u32 0, .int .u8 0, .string ⟨#[]⟩, .string ⟨#[]⟩, .string ⟨#[]⟩, .int .u8 0] 36)).cell? ⟨g, 6, none⟩ = some (.int .u8 (xk : Int)) := hn.cell 6
  have k7 : (w.alloc (.cells #[.int .u8 0, .int .u32 0, .int .u8 0, .string ⟨#[]⟩, .string ⟨#[]⟩, .string ⟨#[]⟩, .int .u8 0] 36)).cell? ⟨g, 7, none⟩ = some (.string ⟨xs.toArray⟩) := hn.cell 7
  have k8 : (w.alloc (.cells #[.int .u8 0, .int .u32 0, .int .u8 0, .string ⟨#[]⟩, .string ⟨#[]⟩, .string ⟨#[]⟩, .int .u8 0] 36)).cell? ⟨g, 8, none⟩ = some (.string ⟨xt.toArray⟩) := hn.cell 8
  have k9 : (w.alloc (.cells #[.int .u8 0, .int .u32 0, .int .u8 0, .string ⟨#[]⟩, .string ⟨#[]⟩, .string ⟨#[]⟩, .int .u8 0] 36)).cell? ⟨g, 9, none⟩ = some (.string ⟨xu.toArray⟩) := hn.cell 9
  have k10 : (w.alloc (.cells #[.int .u8 0, .int .u32 0, .int .u8 0, .string ⟨#[]⟩, .string ⟨#[]⟩, .string ⟨#[]⟩, .int .u8 0] 36)).cell? ⟨g, 10, none⟩ = some (.int .u8 (xz : Int)) := hn.cell 10
  have k11 : (w.alloc (.cells #[.int .u8 0, .int .u32 0, .int .u8 0, .string ⟨#[]⟩, .string ⟨#[]⟩, .string ⟨#[]⟩, .int .u8 0] 36)).cell? ⟨g, 11, none⟩ = some (.bool wt) := hn.cell 11
  clear hn
  cases wt
  · unfold waitsC cmV cmC cm0
    simp only [Bool.false_eq_true, if_false]
    have kn := Blk.new w 36 #[.int .u8 0, .int .u32 0, .int .u8 0, .string ⟨#[]⟩, .string ⟨#[]⟩, .string ⟨#[]⟩, .int .u8 0]
    have HLD := Lib.hid (blk_loadVar (P := Try.prog) (ty := 36) kn Try.underlying36 rfl size_cmd)
    have bn := Lib.hid (show Below w.heap.size w (w.alloc (.cells #[.int .u8 0, .int .u32 0, .int .u8 0, .string ⟨#[]⟩, .string ⟨#[]⟩, .string ⟨#[]⟩, .int .u8 0] 36)) from (Below.refl _ w).alloc (Nat.le_refl _) _)
    clear kn
    go_enter Try.func19, Try.ntmps19
    go_wp2_with fail
    exact bodyPost_ret (v := .tuple #[.agg #[.int .u8 0, .int .u32 0, .int .u8 0, .string ⟨#[]⟩, .string ⟨#[]⟩, .string ⟨#[]⟩, .int .u8 0], .bool false]) (by simp [results, Try.results19, asAddr, HLD.out]) rfl ⟨rfl, bn.out⟩
  · unfold waitsC cmV cmC
    rw [if_pos rfl]
    dsimp only
    have kn := Blk.new w 36 #[.int .u8 (xa : Int), .int .u32 (xb : Int), .int .u8 (xk : Int), .string ⟨xs.toArray⟩, .string ⟨xt.toArray⟩, .string ⟨xu.toArray⟩, .int .u8 (xz : Int)]
    have HLD := Lib.hid (blk_loadVar (P := Try.prog) (ty := 36) kn Try.underlying36 rfl size_cmd)
    have bn := Lib.hid (show Below w.heap.size w (w.alloc (.cells #[.int .u8 (xa : Int), .int .u32 (xb : Int), .int .u8 (xk : Int), .string ⟨xs.toArray⟩, .string ⟨xt.toArray⟩, .string ⟨xu.toArray⟩, .int .u8 (xz : Int)] 36)) from (Below.refl _ w).alloc (Nat.le_refl _) _)
    clear kn
    go_enter Try.func19, Try.ntmps19
    go_wp2_with fail
    exact bodyPost_ret (v := .tuple #[.agg #[.int .u8 (xa : Int), .int .u32 (xb : Int), .int .u8 (xk : Int), .string ⟨xs.toArray⟩, .string ⟨xt.toArray⟩, .string ⟨xu.toArray⟩, .int .u8 (xz : Int)], .bool true]) (by simp [results, Try.results19, asAddr, HLD.out]) rfl ⟨rfl, bn.out⟩
theorem size_name : (Try.prog.info? 86).map (·.size) = some 2 := by kernel_rfl
theorem nameOf_any (c : Cm) (w : World) : Calls Try.prog 35 #[cmV c] w fun e w' => e = .returned (.agg #[.int .u8 (c.client : Int), .int .u32 (c.seq : Int)]) ∧ Below w.heap.size w w' := by
  obtain ⟨xa, xb, xk, xs, xt, xu, xz⟩ := c
  unfold cmV cmC
  dsimp only
  have kn := Blk.new (w.alloc (.cells #[.int .u8 (xa : Int), .int .u32 (xb : Int), .int .u8 (xk : Int), .string ⟨xs.toArray⟩, .string ⟨xt.toArray⟩, .string ⟨xu.toArray⟩, .int .u8 (xz : Int)] 36)) 86 #[.int .u8 (xa : Int), .int .u32 (xb : Int)]
  have HLD := Lib.hid (blk_loadVar (P := Try.prog) (ty := 86) kn Try.underlying86 rfl size_name)
  have bn := Lib.hid (show Below w.heap.size w ((w.alloc (.cells #[.int .u8 (xa : Int), .int .u32 (xb : Int), .int .u8 (xk : Int), .string ⟨xs.toArray⟩, .string ⟨xt.toArray⟩, .string ⟨xu.toArray⟩, .int .u8 (xz : Int)] 36)).alloc (.cells #[.int .u8 (xa : Int), .int .u32 (xb : Int)] 86)) from ((Below.refl _ w).alloc (Nat.le_refl _) _).alloc (by simp) _)
  clear kn
  go_enter Try.func35, Try.ntmps35
  go_wp2_with fail
  have hld := HLD.out
  have es : (w.alloc (.cells #[.int .u8 (xa : Int), .int .u32 (xb : Int), .int .u8 (xk : Int), .string ⟨xs.toArray⟩, .string ⟨xt.toArray⟩, .string ⟨xu.toArray⟩, .int .u8 (xz : Int)] 36)).heap.size = w.heap.size + 1 := by simp
  rw [es] at hld
  exact bodyPost_ret (v := .agg #[.int .u8 (xa : Int), .int .u32 (xb : Int)]) (by simp [results, Try.results35, asAddr, hld]) rfl ⟨rfl, bn.out⟩
/-- What New answers, and where the client lies. -/
theorem new_any (id n : Nat) (hi : id < 4) (h1 : 1 ≤ n) (h7 : n ≤ 7) (w : World) : Calls Try.prog 10 #[.int .u8 (id : Int), .int .i64 (n : Int)] w fun e w' => e = .returned (.tuple #[.pointer (some ⟨w.heap.size, 0, none⟩), .int .i64 0]) ∧ w.alloc (.cells (clC (cl0 id n)) 81) = w' := by
  unfold clC cl0 cm0
  dsimp only
  have hm1 : Int.tmod (id : Int) (n : Int) = ((id % n : Nat) : Int) := by rw [Int.tmod_eq_emod_of_nonneg (by omega)]; simp
  have hml := Nat.mod_lt id (show 0 < n by omega)
  have hwr : IntKind.u8.wrap ((id % n : Nat) : Int) = ((id % n : Nat) : Int) := by rw [IntKind.wrap_u8]; omega
  have hn0 : ((n : Int) == 0) = false := beq_eq_false_iff_ne.2 (by omega)
  generalize id % n = m at *
  go_enter Try.func10, Try.ntmps10
  go_wp2_with fail
  go_ret2
  exact ⟨rfl, rfl⟩
theorem new_bad (id : Nat) (n : Int) (hb : 4 ≤ id ∨ n < 1 ∨ 7 < n) (w : World) : Calls Try.prog 10 #[.int .u8 (id : Int), .int .i64 n] w fun e w' => e = .returned (.tuple #[.pointer none, .int .i64 2]) ∧ w = w' := by
  by_cases h1 : 4 ≤ (id : Int)
  · clear hb
    go_enter Try.func10, Try.ntmps10
    go_wp2_with fail
    go_ret2
    exact ⟨rfl, rfl⟩
  by_cases h2 : n < 1
  · clear hb
    go_enter Try.func10, Try.ntmps10
    go_wp2_with fail
    go_ret2
    exact ⟨rfl, rfl⟩
  have h3 : 7 < n := by omega
  clear hb
  go_enter Try.func10, Try.ntmps10
  go_wp2_with fail
  go_ret2
  exact ⟨rfl, rfl⟩
end Go.Proofs.Yteiaiilfekojfaa.Cli
