/- Package client, walked: Invoke. Conditions: the client is as it may be. -/
import Derived.Test.YteiaiilfekojfaaCliNudge
namespace Go.Proofs.Yteiaiilfekojfaa.Cli
open Go.RowKit Wire Cmd

set_option linter.unusedSimpArgs false in
set_option maxRecDepth 100000 in
set_option maxHeartbeats 4000000 in
theorem invoke_nil (c : Cm) (w : World) : Calls Try.prog 13 #[.pointer none, cmV c] w fun e w' => e = .returned (.tuple #[ltV lt0, .int .i64 1]) ∧ Below w.heap.size w w' := by
  obtain ⟨ya, yb, yk, ys, yt, yu, yz⟩ := c
  unfold cmV cmC
  dsimp only
  have kl0 := Blk.new (w.alloc (.cells #[.int .u8 (ya : Int), .int .u32 (yb : Int), .int .u8 (yk : Int), .string ⟨ys.toArray⟩, .string ⟨yt.toArray⟩, .string ⟨yu.toArray⟩, .int .u8 (yz : Int)] 36)) 47 #[.int .u8 0, .int .u8 0, .int .u8 0, .int .u64 0, .int .u8 0, .int .u64 0, .int .u64 0, .int .u8 0, .string ⟨#[]⟩, .slice none 0 0, .slice none 0 0, .int .u8 0, .int .u32 0, .int .u8 0, .string ⟨#[]⟩, .string ⟨#[]⟩, .string ⟨#[]⟩, .int .u8 0, .int .u8 0, .string ⟨#[]⟩]
  have bw := ((Below.refl _ w).alloc (Nat.le_refl _) (.cells #[.int .u8 (ya : Int), .int .u32 (yb : Int), .int .u8 (yk : Int), .string ⟨ys.toArray⟩, .string ⟨yt.toArray⟩, .string ⟨yu.toArray⟩, .int .u8 (yz : Int)] 36)).alloc (by simp) (.cells #[.int .u8 0, .int .u8 0, .int .u8 0, .int .u64 0, .int .u8 0, .int .u64 0, .int .u64 0, .int .u8 0, .string ⟨#[]⟩, .slice none 0 0, .slice none 0 0, .int .u8 0, .int .u32 0, .int .u8 0, .string ⟨#[]⟩, .string ⟨#[]⟩, .string ⟨#[]⟩, .int .u8 0, .int .u8 0, .string ⟨#[]⟩] 47)
  go_enter Try.func13, Try.ntmps13
  go_upto_region 1 with fail
  have es : (w.alloc (.cells #[.int .u8 (ya : Int), .int .u32 (yb : Int), .int .u8 (yk : Int), .string ⟨ys.toArray⟩, .string ⟨yt.toArray⟩, .string ⟨yu.toArray⟩, .int .u8 (yz : Int)] 36)).heap.size = w.heap.size + 1 := by simp
  rw [es] at kl0
  generalize (w.alloc (.cells #[.int .u8 (ya : Int), .int .u32 (yb : Int), .int .u8 (yk : Int), .string ⟨ys.toArray⟩, .string ⟨yt.toArray⟩, .string ⟨yu.toArray⟩, .int .u8 (yz : Int)] 36)).alloc (.cells #[.int .u8 0, .int .u8 0, .int .u8 0, .int .u64 0, .int .u8 0, .int .u64 0, .int .u64 0, .int .u8 0, .string ⟨#[]⟩, .slice none 0 0, .slice none 0 0, .int .u8 0, .int .u32 0, .int .u8 0, .string ⟨#[]⟩, .string ⟨#[]⟩, .string ⟨#[]⟩, .int .u8 0, .int .u8 0, .string ⟨#[]⟩] 47) = w1 at *
  have hst := blk_store (P := Try.prog) (ty := 47) (cells := #[.int .u8 0, .int .u8 0, .int .u8 0, .int .u64 0, .int .u8 0, .int .u64 0, .int .u64 0, .int .u8 0, .string ⟨#[]⟩, .slice none 0 0, .slice none 0 0, .int .u8 0, .int .u32 0, .int .u8 0, .string ⟨#[]⟩, .string ⟨#[]⟩, .string ⟨#[]⟩, .int .u8 0, .int .u8 0, .string ⟨#[]⟩]) kl0 rfl size_lt rfl
  have HLD := Lib.hid (blk_loadVar (P := Try.prog) (ty := 47) (kl0.setRow (cells := #[.int .u8 0, .int .u8 0, .int .u8 0, .int .u64 0, .int .u8 0, .int .u64 0, .int .u64 0, .int .u8 0, .string ⟨#[]⟩, .slice none 0 0, .slice none 0 0, .int .u8 0, .int .u32 0, .int .u8 0, .string ⟨#[]⟩, .string ⟨#[]⟩, .string ⟨#[]⟩, .int .u8 0, .int .u8 0, .string ⟨#[]⟩])) Try.underlying47 rfl size_lt)
  have BN := Lib.hid (below_setRow (cells := #[.int .u8 0, .int .u8 0, .int .u8 0, .int .u64 0, .int .u8 0, .int .u64 0, .int .u64 0, .int .u8 0, .string ⟨#[]⟩, .slice none 0 0, .slice none 0 0, .int .u8 0, .int .u32 0, .int .u8 0, .string ⟨#[]⟩, .string ⟨#[]⟩, .string ⟨#[]⟩, .int .u8 0, .int .u8 0, .string ⟨#[]⟩]) bw (Nat.le_succ _))
  clear kl0 bw es
  go_wp2_with (refine wpList_store (by rfl) (.tmp 4) (.tmp 8) (by rfl) (by rfl) (by rfl) hst ?_)
  exact bodyPost_ret (v := .tuple #[.agg #[.int .u8 0, .int .u8 0, .int .u8 0, .int .u64 0, .int .u8 0, .int .u64 0, .int .u64 0, .int .u8 0, .string ⟨#[]⟩, .slice none 0 0, .slice none 0 0, .int .u8 0, .int .u32 0, .int .u8 0, .string ⟨#[]⟩, .string ⟨#[]⟩, .string ⟨#[]⟩, .int .u8 0, .int .u8 0, .string ⟨#[]⟩], .int .i64 1]) (by simp [results, Try.results13, asAddr, HLD.out]) rfl ⟨rfl, BN.out⟩
set_option linter.unusedSimpArgs false in
set_option maxRecDepth 100000 in
set_option maxHeartbeats 8000000 in
theorem invoke_any (g : Nat) (x : Cl) (hf : x.Fits) (c : Cm) (hc : c.Fits) (w : World) (h : ClAt w g x) : Calls Try.prog 13 #[.pointer (some ⟨g, 0, none⟩), cmV c] w fun e w' => e = .returned (.tuple #[ltV (invokeC x c).2.1, .int .i64 ((invokeC x c).2.2 : Int)]) ∧ ClGo w g (invokeC x c).1 w' := by
  obtain ⟨h1, h2, h3, h4, h5, h6⟩ := hf
  have hlt := Blk.lt h
  have HA := Lib.hid (fun (y : Cl) (hy : y.id < 4) W (hW : ClAt W g y) => ask_any g y hy W hW)
  have hs1 : x.seq ≠ 4294967295 → (stamp x c).Fits := fun hne => ⟨(show x.id < 256 by omega), (show x.seq + 1 < 4294967296 by omega), hc.h3, hc.h4, hc.h5, hc.h6, hc.h7⟩
  have HCK := Lib.hid (fun hne W => check_any (stamp x c) (hs1 hne) W)
  obtain ⟨r, hr⟩ : ∃ r, r = invokeC x c := ⟨_, rfl⟩
  rw [← hr]
  unfold invokeC at hr
  have HR := Lib.hid hr
  generalize hmb : mayB (stamp x c) = mb at *
  clear hs1 hr hmb hc
  obtain ⟨id, n, node, seq, ⟨xa, xb, xk, xs, xt, xu, xz⟩, wt⟩ := x
  obtain ⟨ya, yb, yk, ys, yt, yu, yz⟩ := c
  unfold stamp at HR HCK
  unfold cmV cmC at HCK ⊢
  unfold ClAt clC at h
  dsimp only at h h1 h2 h3 h4 h5 h6 HR HCK ⊢
  have kx0 := (Blk.new w 36 #[.int .u8 (ya : Int), .int .u32 (yb : Int), .int .u8 (yk : Int), .string ⟨ys.toArray⟩, .string ⟨yt.toArray⟩, .string ⟨yu.toArray⟩, .int .u8 (yz : Int)]).alloc (.cells #[.int .u8 0, .int .u8 0, .int .u8 0, .int .u64 0, .int .u8 0, .int .u64 0, .int .u64 0, .int .u8 0, .string ⟨#[]⟩, .slice none 0 0, .slice none 0 0, .int .u8 0, .int .u32 0, .int .u8 0, .string ⟨#[]⟩, .string ⟨#[]⟩, .string ⟨#[]⟩, .int .u8 0, .int .u8 0, .string ⟨#[]⟩] 47)
  have kl0 := Blk.new (w.alloc (.cells #[.int .u8 (ya : Int), .int .u32 (yb : Int), .int .u8 (yk : Int), .string ⟨ys.toArray⟩, .string ⟨yt.toArray⟩, .string ⟨yu.toArray⟩, .int .u8 (yz : Int)] 36)) 47 #[.int .u8 0, .int .u8 0, .int .u8 0, .int .u64 0, .int .u8 0, .int .u64 0, .int .u64 0, .int .u8 0, .string ⟨#[]⟩, .slice none 0 0, .slice none 0 0, .int .u8 0, .int .u32 0, .int .u8 0, .string ⟨#[]⟩, .string ⟨#[]⟩, .string ⟨#[]⟩, .int .u8 0, .int .u8 0, .string ⟨#[]⟩]
  have hg0 := (h.alloc (.cells #[.int .u8 (ya : Int), .int .u32 (yb : Int), .int .u8 (yk : Int), .string ⟨ys.toArray⟩, .string ⟨yt.toArray⟩, .string ⟨yu.toArray⟩, .int .u8 (yz : Int)] 36)).alloc (.cells #[.int .u8 0, .int .u8 0, .int .u8 0, .int .u64 0, .int .u8 0, .int .u64 0, .int .u64 0, .int .u8 0, .string ⟨#[]⟩, .slice none 0 0, .slice none 0 0, .int .u8 0, .int .u32 0, .int .u8 0, .string ⟨#[]⟩, .string ⟨#[]⟩, .string ⟨#[]⟩, .int .u8 0, .int .u8 0, .string ⟨#[]⟩] 47)
  have bw0 : w.grownBy ((w.alloc (.cells #[.int .u8 (ya : Int), .int .u32 (yb : Int), .int .u8 (yk : Int), .string ⟨ys.toArray⟩, .string ⟨yt.toArray⟩, .string ⟨yu.toArray⟩, .int .u8 (yz : Int)] 36)).alloc (.cells #[.int .u8 0, .int .u8 0, .int .u8 0, .int .u64 0, .int .u8 0, .int .u64 0, .int .u64 0, .int .u8 0, .string ⟨#[]⟩, .slice none 0 0, .slice none 0 0, .int .u8 0, .int .u32 0, .int .u8 0, .string ⟨#[]⟩, .string ⟨#[]⟩, .string ⟨#[]⟩, .int .u8 0, .int .u8 0, .string ⟨#[]⟩] 47)) (some g) := only_alloc (only_alloc (World.grownBy.refl w _) _) _
  have es : (w.alloc (.cells #[.int .u8 (ya : Int), .int .u32 (yb : Int), .int .u8 (yk : Int), .string ⟨ys.toArray⟩, .string ⟨yt.toArray⟩, .string ⟨yu.toArray⟩, .int .u8 (yz : Int)] 36)).heap.size = w.heap.size + 1 := by simp
  rw [es] at kl0
  go_enter Try.func13, Try.ntmps13
  go_upto_region 1 with fail
  obtain ⟨gl, hgl0⟩ : ∃ gl, gl = w.heap.size + 1 := ⟨_, rfl⟩
  obtain ⟨gx, hgx0⟩ : ∃ gx, gx = w.heap.size := ⟨_, rfl⟩
  have hwl : w.heap.size ≤ gl := by omega
  have hwx : w.heap.size ≤ gx := by omega
  have hgl : g ≠ gl := by omega
  have hgx : g ≠ gx := by omega
  have hlx : gl ≠ gx := by omega
  rw [← hgl0] at kl0 ⊢
  rw [← hgx0] at kx0 ⊢
  generalize (w.alloc (.cells #[.int .u8 (ya : Int), .int .u32 (yb : Int), .int .u8 (yk : Int), .string ⟨ys.toArray⟩, .string ⟨yt.toArray⟩, .string ⟨yu.toArray⟩, .int .u8 (yz : Int)] 36)).alloc (.cells #[.int .u8 0, .int .u8 0, .int .u8 0, .int .u64 0, .int .u8 0, .int .u64 0, .int .u64 0, .int .u8 0, .string ⟨#[]⟩, .slice none 0 0, .slice none 0 0, .int .u8 0, .int .u32 0, .int .u8 0, .string ⟨#[]⟩, .string ⟨#[]⟩, .string ⟨#[]⟩, .int .u8 0, .int .u8 0, .string ⟨#[]⟩] 47) = w1 at *
  clear es hgl0 hgx0 h
  have q11 := hg0.cell 11
  have q3 := hg0.cell 3
  cases wt
  rotate_left
  · have hr := HR.out
    simp only [if_true] at hr
    subst hr
    have hst := blk_store (P := Try.prog) (ty := 47) (cells := #[.int .u8 0, .int .u8 0, .int .u8 0, .int .u64 0, .int .u8 0, .int .u64 0, .int .u64 0, .int .u8 0, .string ⟨#[]⟩, .slice none 0 0, .slice none 0 0, .int .u8 0, .int .u32 0, .int .u8 0, .string ⟨#[]⟩, .string ⟨#[]⟩, .string ⟨#[]⟩, .int .u8 0, .int .u8 0, .string ⟨#[]⟩]) kl0 rfl size_lt rfl
    have HLD := Lib.hid (blk_loadVar (P := Try.prog) (ty := 47) (kl0.setRow (cells := #[.int .u8 0, .int .u8 0, .int .u8 0, .int .u64 0, .int .u8 0, .int .u64 0, .int .u64 0, .int .u8 0, .string ⟨#[]⟩, .slice none 0 0, .slice none 0 0, .int .u8 0, .int .u32 0, .int .u8 0, .string ⟨#[]⟩, .string ⟨#[]⟩, .string ⟨#[]⟩, .int .u8 0, .int .u8 0, .string ⟨#[]⟩])) Try.underlying47 rfl size_lt)
    have HN := Lib.hid (hg0.setRowFar (cells := #[.int .u8 0, .int .u8 0, .int .u8 0, .int .u64 0, .int .u8 0, .int .u64 0, .int .u64 0, .int .u8 0, .string ⟨#[]⟩, .slice none 0 0, .slice none 0 0, .int .u8 0, .int .u32 0, .int .u8 0, .string ⟨#[]⟩, .string ⟨#[]⟩, .string ⟨#[]⟩, .int .u8 0, .int .u8 0, .string ⟨#[]⟩]) hgl)
    have BN := Lib.hid (grown_setRow (cells := #[.int .u8 0, .int .u8 0, .int .u8 0, .int .u64 0, .int .u8 0, .int .u64 0, .int .u64 0, .int .u8 0, .string ⟨#[]⟩, .slice none 0 0, .slice none 0 0, .int .u8 0, .int .u32 0, .int .u8 0, .string ⟨#[]⟩, .string ⟨#[]⟩, .string ⟨#[]⟩, .int .u8 0, .int .u8 0, .string ⟨#[]⟩]) bw0 (.inl hwl))
    clear kx0 kl0 hg0 bw0 HA HCK HR
    go_wp2_with (refine wpList_store (by rfl) (.tmp 4) (.tmp 13) (by rfl) (by rfl) (by rfl) hst ?_)
    exact bodyPost_ret (v := .tuple #[.agg #[.int .u8 0, .int .u8 0, .int .u8 0, .int .u64 0, .int .u8 0, .int .u64 0, .int .u64 0, .int .u8 0, .string ⟨#[]⟩, .slice none 0 0, .slice none 0 0, .int .u8 0, .int .u32 0, .int .u8 0, .string ⟨#[]⟩, .string ⟨#[]⟩, .string ⟨#[]⟩, .int .u8 0, .int .u8 0, .string ⟨#[]⟩], .int .i64 13]) (by simp [results, Try.results13, asAddr, HLD.out]) rfl ⟨rfl, And.intro HN.out BN.out⟩
  have hr := HR.out
  simp only [Bool.false_eq_true, if_false] at hr
  have HR := Lib.hid hr
  by_cases hmx : seq = 4294967295
  · have hr2 := HR.out
    rw [if_pos hmx] at hr2
    subst hr2
    have hmi : ((seq : Int) == 4294967295) = true := by rw [hmx]; rfl
    clear hmx
    have hst := blk_store (P := Try.prog) (ty := 47) (cells := #[.int .u8 0, .int .u8 0, .int .u8 0, .int .u64 0, .int .u8 0, .int .u64 0, .int .u64 0, .int .u8 0, .string ⟨#[]⟩, .slice none 0 0, .slice none 0 0, .int .u8 0, .int .u32 0, .int .u8 0, .string ⟨#[]⟩, .string ⟨#[]⟩, .string ⟨#[]⟩, .int .u8 0, .int .u8 0, .string ⟨#[]⟩]) kl0 rfl size_lt rfl
    have HLD := Lib.hid (blk_loadVar (P := Try.prog) (ty := 47) (kl0.setRow (cells := #[.int .u8 0, .int .u8 0, .int .u8 0, .int .u64 0, .int .u8 0, .int .u64 0, .int .u64 0, .int .u8 0, .string ⟨#[]⟩, .slice none 0 0, .slice none 0 0, .int .u8 0, .int .u32 0, .int .u8 0, .string ⟨#[]⟩, .string ⟨#[]⟩, .string ⟨#[]⟩, .int .u8 0, .int .u8 0, .string ⟨#[]⟩])) Try.underlying47 rfl size_lt)
    have HN := Lib.hid (hg0.setRowFar (cells := #[.int .u8 0, .int .u8 0, .int .u8 0, .int .u64 0, .int .u8 0, .int .u64 0, .int .u64 0, .int .u8 0, .string ⟨#[]⟩, .slice none 0 0, .slice none 0 0, .int .u8 0, .int .u32 0, .int .u8 0, .string ⟨#[]⟩, .string ⟨#[]⟩, .string ⟨#[]⟩, .int .u8 0, .int .u8 0, .string ⟨#[]⟩]) hgl)
    have BN := Lib.hid (grown_setRow (cells := #[.int .u8 0, .int .u8 0, .int .u8 0, .int .u64 0, .int .u8 0, .int .u64 0, .int .u64 0, .int .u8 0, .string ⟨#[]⟩, .slice none 0 0, .slice none 0 0, .int .u8 0, .int .u32 0, .int .u8 0, .string ⟨#[]⟩, .string ⟨#[]⟩, .string ⟨#[]⟩, .int .u8 0, .int .u8 0, .string ⟨#[]⟩]) bw0 (.inl hwl))
    clear kx0 kl0 hg0 bw0 HA HCK HR
    go_wp2_with (refine wpList_store (by rfl) (.tmp 4) (.tmp 19) (by rfl) (by rfl) (by rfl) hst ?_)
    exact bodyPost_ret (v := .tuple #[.agg #[.int .u8 0, .int .u8 0, .int .u8 0, .int .u64 0, .int .u8 0, .int .u64 0, .int .u64 0, .int .u8 0, .string ⟨#[]⟩, .slice none 0 0, .slice none 0 0, .int .u8 0, .int .u32 0, .int .u8 0, .string ⟨#[]⟩, .string ⟨#[]⟩, .string ⟨#[]⟩, .int .u8 0, .int .u8 0, .string ⟨#[]⟩], .int .i64 7]) (by simp [results, Try.results13, asAddr, HLD.out]) rfl ⟨rfl, And.intro HN.out BN.out⟩
  have hr2 := HR.out
  rw [if_neg hmx] at hr2
  have HR2 := Lib.hid hr2
  have HCK2 := Lib.hid (HCK.out hmx)
  have hmi : ((seq : Int) == 4294967295) = false := beq_eq_false_iff_ne.2 (by omega)
  obtain ⟨sq, hsq⟩ : ∃ sq, sq = seq + 1 := ⟨_, rfl⟩
  rw [← hsq] at HR2 HCK2
  have hwr : IntKind.u32.wrap ((seq : Int) + 1) = (sq : Int) := by rw [IntKind.wrap_u32]; omega
  clear hr hr2 HR HCK hsq
  go_upto_region 7 with fail
  have kx1 := kx0.drew
  have kl1 := kl0.drew
  have hg1 := hg0.drew
  have bw1 := only_drew bw0
  have p0 : w1.drew.cell? ⟨g, 0, none⟩ = some (.int .u8 (id : Int)) := hg1.cell 0
  have p3 : w1.drew.cell? ⟨g, 3, none⟩ = some (.int .u32 (seq : Int)) := hg1.cell 3
  have hst1 : (Instr.storeAt 5 (.pointer (some ⟨gx, 0, none⟩)) (.int .u8 (id : Int))).run Try.prog w1.drew = .ok () (w1.drew.setCell ⟨gx, 0, none⟩ (.int .u8 (id : Int))) := by
    have c0 := kx1.cell 0
    have f0 := kx1.frozen 0
    go_simp
  have kx2 := kx1.set_ 0 (.int .u8 (id : Int))
  simp only [List.setIfInBounds_toArray, List.set_cons_zero, List.set_cons_succ] at kx2
  have hg2 := hg1.far (p := ⟨gx, 0, none⟩) hgx (.int .u8 (id : Int))
  have kl2 := kl1.far (p := ⟨gx, 0, none⟩) hlx (.int .u8 (id : Int))
  have bw2 := only_setCell bw1 (p := ⟨gx, 0, none⟩) (.inr hwx) (.int .u8 (id : Int))
  have hst2 : (Instr.storeAt 34 (.pointer (some ⟨gx, 1, none⟩)) (.int .u32 (sq : Int))).run Try.prog (w1.drew.setCell ⟨gx, 0, none⟩ (.int .u8 (id : Int))) = .ok () ((w1.drew.setCell ⟨gx, 0, none⟩ (.int .u8 (id : Int))).setCell ⟨gx, 1, none⟩ (.int .u32 (sq : Int))) := by
    have c1 := kx2.cell 1
    have f1 := kx2.frozen 1
    generalize w1.drew.setCell ⟨gx, 0, none⟩ (.int .u8 (id : Int)) = wq at *
    go_simp
  have kx3 := kx2.set_ 1 (.int .u32 (sq : Int))
  simp only [List.setIfInBounds_toArray, List.set_cons_zero, List.set_cons_succ] at kx3
  have hg3 := hg2.far (p := ⟨gx, 1, none⟩) hgx (.int .u32 (sq : Int))
  have kl3 := kl2.far (p := ⟨gx, 1, none⟩) hlx (.int .u32 (sq : Int))
  have bw3 := only_setCell bw2 (p := ⟨gx, 1, none⟩) (.inr hwx) (.int .u32 (sq : Int))
  have HK3 := Lib.hid (And.intro kx3 (And.intro hg3 (And.intro kl3 bw3)))
  have HG2 := Lib.hid hg2
  clear kx0 kl0 hg0 bw0 kx1 kl1 hg1 bw1 kx2 hg2 kl2 bw2 kx3 hg3 kl3 bw3 q11 q3
  refine wp_region_held_drew (S := fun W : World => W.cell? ⟨g, 0, none⟩ = some (.int .u8 (id : Int)) ∧ W.cell? ⟨g, 3, none⟩ = some (.int .u32 (seq : Int))) (by kernel_rfl) (⟨p0, p3⟩) (fun hHeld => ?_)
  refine take1 (i := 0) (d := 20) (v := ?_) rfl (by kernel_rfl) (by kernel_rfl) (by kernel_rfl) rfl (fun _ _ _ h => h) (Or.inl ⟨by rfl, ?_⟩) (by assumption) ?_
  rotate_left
  · (intro w hSw; (try dsimp only at hSw); go_simp); with_reducible rfl
  simp only [List.set_cons_zero, List.set_cons_succ]
  refine take1 (i := 1) (d := 21) (v := ?_) rfl (by kernel_rfl) (by kernel_rfl) (by kernel_rfl) rfl (fun _ _ _ h => h) (Or.inl ⟨by rfl, ?_⟩) (by assumption) ?_
  rotate_left
  · (intro w hSw; (try dsimp only at hSw); go_simp); with_reducible rfl
  simp only [List.set_cons_zero, List.set_cons_succ]
  refine take1 (i := 2) (d := 22) (v := ?_) rfl (by kernel_rfl) (by kernel_rfl) (by kernel_rfl) rfl (fun _ _ _ h => h) (Or.inl ⟨by rfl, ?_⟩) (by assumption) ?_
  rotate_left
  · (intro w hSw; (try dsimp only at hSw); go_simp); with_reducible rfl
  simp only [List.set_cons_zero, List.set_cons_succ]
  refine take1 (i := 3) (d := 23) (v := ?_) rfl (by kernel_rfl) (by kernel_rfl) (by kernel_rfl) rfl (fun _ _ _ h => h) (Or.inl ⟨by rfl, ?_⟩) (by assumption) ?_
  rotate_left
  · (intro w hSw; (try dsimp only at hSw); go_simp); with_reducible rfl
  simp only [List.set_cons_zero, List.set_cons_succ]
  refine take1 (i := 4) (d := 24) (v := ?_) rfl (by kernel_rfl) (by kernel_rfl) (by kernel_rfl) rfl (fun _ _ _ h => h) (Or.inl ⟨by rfl, ?_⟩) (by assumption) ?_
  rotate_left
  · (intro w hSw; (try dsimp only at hSw); go_simp); with_reducible rfl
  simp only [List.set_cons_zero, List.set_cons_succ]
  refine take1 (i := 5) (d := 25) (v := ?_) rfl (by kernel_rfl) (by kernel_rfl) (by kernel_rfl) rfl (fun _ _ _ h => h) (Or.inl ⟨by rfl, ?_⟩) (by assumption) ?_
  rotate_left
  · (intro w hSw; (try dsimp only at hSw); go_simp); with_reducible rfl
  simp only [List.set_cons_zero, List.set_cons_succ]
  refine take1 (i := 6) (d := 26) (v := ?_) rfl (by kernel_rfl) (by kernel_rfl) (by kernel_rfl) rfl (fun _ _ _ h => h) (Or.inl ⟨by rfl, ?_⟩) (by assumption) ?_
  rotate_left
  · (intro w hSw; (try dsimp only at hSw); go_simp); with_reducible rfl
  simp only [List.set_cons_zero, List.set_cons_succ]
  refine take1 (i := 7) (d := 27) (v := ?_) rfl (by kernel_rfl) (by kernel_rfl) (by kernel_rfl) rfl (fun _ _ _ h => h) (Or.inl ⟨by rfl, ?_⟩) (by assumption) ?_
  rotate_left
  · (intro w hSw; (try dsimp only at hSw); go_simp); with_reducible rfl
  simp only [List.set_cons_zero, List.set_cons_succ]
  refine take1 (i := 8) (d := 28) (v := ?_) rfl (by kernel_rfl) (by kernel_rfl) (by kernel_rfl) rfl (fun _ _ _ h => h) (Or.inl ⟨by rfl, ?_⟩) (by assumption) ?_
  rotate_left
  · (intro w hSw; (try dsimp only at hSw); go_simp); with_reducible rfl
  simp only [List.set_cons_zero, List.set_cons_succ]
  refine take1 (i := 9) (d := 29) (v := ?_) rfl (by kernel_rfl) (by kernel_rfl) (by kernel_rfl) rfl (fun _ _ _ h => h) (Or.inl ⟨by rfl, ?_⟩) (by assumption) ?_
  rotate_left
  · (intro w hSw; (try dsimp only at hSw); go_simp); with_reducible rfl
  simp only [List.set_cons_zero, List.set_cons_succ]
  refine wpAnyH_ready (rs := [10]) (by kernel_rfl) (by simp) (AllReadyH.cons rfl (fun Kreg hKreg => ?_) AllReadyH.nil)
  refine step_store (by rfl) (.tmp 29) (.tmp 23) (by rfl) (by rfl) (by rfl) hst1 ?_
  refine hKreg.out _ _ (by first | exact ⟨HG2.out.cell 0, HG2.out.cell 3⟩ | exact ⟨HK3.out.2.1.cell 0, HK3.out.2.1.cell 3⟩) (fun hHeld => ?_)
  clear hKreg Kreg
  try simp only [Act.put, List.setIfInBounds_toArray, List.set_cons_zero, List.set_cons_succ]
  refine take1 (i := 11) (d := 30) (v := ?_) rfl (by kernel_rfl) (by kernel_rfl) (by kernel_rfl) rfl (fun _ _ _ h => h) (Or.inl ⟨by rfl, ?_⟩) (by assumption) ?_
  rotate_left
  · (intro w hSw; (try dsimp only at hSw); go_simp); with_reducible rfl
  simp only [List.set_cons_zero, List.set_cons_succ]
  refine wpAnyH_ready (rs := [12]) (by kernel_rfl) (by simp) (AllReadyH.cons rfl (fun Kreg hKreg => ?_) AllReadyH.nil)
  refine step_store (by rfl) (.tmp 30) (.tmp 28) (by rfl) (by rfl) (by rfl) hst2 ?_
  refine hKreg.out _ _ (by first | exact ⟨HG2.out.cell 0, HG2.out.cell 3⟩ | exact ⟨HK3.out.2.1.cell 0, HK3.out.2.1.cell 3⟩) (fun hHeld => ?_)
  clear hKreg Kreg
  try simp only [Act.put, List.setIfInBounds_toArray, List.set_cons_zero, List.set_cons_succ]
  refine wpAnyH_done (by kernel_rfl) ?_ _
  obtain ⟨kx, hg, kl, bw⟩ := HK3.out
  generalize (w1.drew.setCell ⟨gx, 0, none⟩ (.int .u8 (id : Int))).setCell ⟨gx, 1, none⟩ (.int .u32 (sq : Int)) = w3 at *
  simp only [List.getElem_toArray, List.getElem_cons_succ, List.getElem_cons_zero]
  clear hst1 hst2 HG2 HK3 p0 p3 hHeld
  have q0 := kx.cell 0
  have q1 := kx.cell 1
  have q2 := kx.cell 2
  have q3 := kx.cell 3
  have q4 := kx.cell 4
  have q5 := kx.cell 5
  have q6 := kx.cell 6
  go_wp2_with fail
  refine (HCK2.out _).mono ?_; rintro e w4 ⟨rfl, B4⟩
  have kx4 := kx.below B4 kx.lt
  have hg4 := hg.below B4 hg.lt
  have kl4 := kl.below B4 kl.lt
  have bw4 := grown_step bw (only_of_below B4 (some g))
  clear q0 q1 q2 q3 q4 q5 q6 kx hg kl bw B4 HCK2
  cases mb
  · have hr := HR2.out
    simp only [Bool.false_eq_true, if_false] at hr
    subst hr
    have hst := blk_store (P := Try.prog) (ty := 47) (cells := #[.int .u8 0, .int .u8 0, .int .u8 0, .int .u64 0, .int .u8 0, .int .u64 0, .int .u64 0, .int .u8 0, .string ⟨#[]⟩, .slice none 0 0, .slice none 0 0, .int .u8 0, .int .u32 0, .int .u8 0, .string ⟨#[]⟩, .string ⟨#[]⟩, .string ⟨#[]⟩, .int .u8 0, .int .u8 0, .string ⟨#[]⟩]) kl4 rfl size_lt rfl
    have HLD := Lib.hid (blk_loadVar (P := Try.prog) (ty := 47) (kl4.setRow (cells := #[.int .u8 0, .int .u8 0, .int .u8 0, .int .u64 0, .int .u8 0, .int .u64 0, .int .u64 0, .int .u8 0, .string ⟨#[]⟩, .slice none 0 0, .slice none 0 0, .int .u8 0, .int .u32 0, .int .u8 0, .string ⟨#[]⟩, .string ⟨#[]⟩, .string ⟨#[]⟩, .int .u8 0, .int .u8 0, .string ⟨#[]⟩])) Try.underlying47 rfl size_lt)
    have HN := Lib.hid (hg4.setRowFar (cells := #[.int .u8 0, .int .u8 0, .int .u8 0, .int .u64 0, .int .u8 0, .int .u64 0, .int .u64 0, .int .u8 0, .string ⟨#[]⟩, .slice none 0 0, .slice none 0 0, .int .u8 0, .int .u32 0, .int .u8 0, .string ⟨#[]⟩, .string ⟨#[]⟩, .string ⟨#[]⟩, .int .u8 0, .int .u8 0, .string ⟨#[]⟩]) hgl)
    have BN := Lib.hid (grown_setRow (cells := #[.int .u8 0, .int .u8 0, .int .u8 0, .int .u64 0, .int .u8 0, .int .u64 0, .int .u64 0, .int .u8 0, .string ⟨#[]⟩, .slice none 0 0, .slice none 0 0, .int .u8 0, .int .u32 0, .int .u8 0, .string ⟨#[]⟩, .string ⟨#[]⟩, .string ⟨#[]⟩, .int .u8 0, .int .u8 0, .string ⟨#[]⟩]) bw4 (.inl hwl))
    clear kx4 kl4 hg4 bw4 HA
    go_wp2_with (refine wpList_store (by rfl) (.tmp 4) (.tmp 34) (by rfl) (by rfl) (by rfl) hst ?_)
    exact bodyPost_ret (v := .tuple #[.agg #[.int .u8 0, .int .u8 0, .int .u8 0, .int .u64 0, .int .u8 0, .int .u64 0, .int .u64 0, .int .u8 0, .string ⟨#[]⟩, .slice none 0 0, .slice none 0 0, .int .u8 0, .int .u32 0, .int .u8 0, .string ⟨#[]⟩, .string ⟨#[]⟩, .string ⟨#[]⟩, .int .u8 0, .int .u8 0, .string ⟨#[]⟩], .int .i64 2]) (by simp [results, Try.results13, asAddr, HLD.out]) rfl ⟨rfl, And.intro HN.out BN.out⟩
  have hr := HR2.out
  simp only [if_true] at hr
  have HR3 := Lib.hid hr
  clear hr HR2
  go_upto_region 10 with fail
  have kxd := kx4.drew
  have hgd := hg4.drew
  have kld := kl4.drew
  have bwd := only_drew bw4
  obtain ⟨wA, hstA, hgA, kxA, klA, bwA⟩ : ∃ wA, (Instr.storeAt 36 (.pointer (some ⟨g, 4, none⟩)) (.agg #[.int .u8 (id : Int), .int .u32 (sq : Int), .int .u8 (yk : Int), .string ⟨ys.toArray⟩, .string ⟨yt.toArray⟩, .string ⟨yu.toArray⟩, .int .u8 (yz : Int)])).run Try.prog w4.drew = .ok () wA ∧ Blk wA g 81 #[.int .u8 (id : Int), .int .i64 (n : Int), .int .u8 (node : Int), .int .u32 (seq : Int), .int .u8 (id : Int), .int .u32 (sq : Int), .int .u8 (yk : Int), .string ⟨ys.toArray⟩, .string ⟨yt.toArray⟩, .string ⟨yu.toArray⟩, .int .u8 (yz : Int), .bool false] ∧ Blk wA gx 36 #[.int .u8 (id : Int), .int .u32 (sq : Int), .int .u8 (yk : Int), .string ⟨ys.toArray⟩, .string ⟨yt.toArray⟩, .string ⟨yu.toArray⟩, .int .u8 (yz : Int)] ∧ Blk wA gl 47 #[.int .u8 0, .int .u8 0, .int .u8 0, .int .u64 0, .int .u8 0, .int .u64 0, .int .u64 0, .int .u8 0, .string ⟨#[]⟩, .slice none 0 0, .slice none 0 0, .int .u8 0, .int .u32 0, .int .u8 0, .string ⟨#[]⟩, .string ⟨#[]⟩, .string ⟨#[]⟩, .int .u8 0, .int .u8 0, .string ⟨#[]⟩] ∧ w.grownBy wA (some g) := by
    refine ⟨_, blk_put hgd 4 #[.int .u8 (id : Int), .int .u32 (sq : Int), .int .u8 (yk : Int), .string ⟨ys.toArray⟩, .string ⟨yt.toArray⟩, .string ⟨yu.toArray⟩, .int .u8 (yz : Int)] (by simp) size_cmd rfl, ?_, kxd.setCellsFar [.int .u8 (id : Int), .int .u32 (sq : Int), .int .u8 (yk : Int), .string ⟨ys.toArray⟩, .string ⟨yt.toArray⟩, .string ⟨yu.toArray⟩, .int .u8 (yz : Int)] 4 (Ne.symm hgx), kld.setCellsFar [.int .u8 (id : Int), .int .u32 (sq : Int), .int .u8 (yk : Int), .string ⟨ys.toArray⟩, .string ⟨yt.toArray⟩, .string ⟨yu.toArray⟩, .int .u8 (yz : Int)] 4 (Ne.symm hgl), grown_setCells [.int .u8 (id : Int), .int .u32 (sq : Int), .int .u8 (yk : Int), .string ⟨ys.toArray⟩, .string ⟨yt.toArray⟩, .string ⟨yu.toArray⟩, .int .u8 (yz : Int)] 4 bwd⟩
    have hgA := hgd.setCells [.int .u8 (id : Int), .int .u32 (sq : Int), .int .u8 (yk : Int), .string ⟨ys.toArray⟩, .string ⟨yt.toArray⟩, .string ⟨yu.toArray⟩, .int .u8 (yz : Int)] 4
    simp only [putA, List.setIfInBounds_toArray, List.set_cons_zero, List.set_cons_succ] at hgA
    exact hgA
  have c3 := hgA.cell 3
  have f3 := hgA.frozen 3
  obtain ⟨wB, hstB, hgB, kxB, klB, bwB⟩ : ∃ wB, (Instr.storeAt 34 (.pointer (some ⟨g, 3, none⟩)) (.int .u32 (sq : Int))).run Try.prog wA = .ok () wB ∧ Blk wB g 81 #[.int .u8 (id : Int), .int .i64 (n : Int), .int .u8 (node : Int), .int .u32 (sq : Int), .int .u8 (id : Int), .int .u32 (sq : Int), .int .u8 (yk : Int), .string ⟨ys.toArray⟩, .string ⟨yt.toArray⟩, .string ⟨yu.toArray⟩, .int .u8 (yz : Int), .bool false] ∧ Blk wB gx 36 #[.int .u8 (id : Int), .int .u32 (sq : Int), .int .u8 (yk : Int), .string ⟨ys.toArray⟩, .string ⟨yt.toArray⟩, .string ⟨yu.toArray⟩, .int .u8 (yz : Int)] ∧ Blk wB gl 47 #[.int .u8 0, .int .u8 0, .int .u8 0, .int .u64 0, .int .u8 0, .int .u64 0, .int .u64 0, .int .u8 0, .string ⟨#[]⟩, .slice none 0 0, .slice none 0 0, .int .u8 0, .int .u32 0, .int .u8 0, .string ⟨#[]⟩, .string ⟨#[]⟩, .string ⟨#[]⟩, .int .u8 0, .int .u8 0, .string ⟨#[]⟩] ∧ w.grownBy wB (some g) := by
    refine ⟨wA.setCell ⟨g, 3, none⟩ (.int .u32 (sq : Int)), by go_simp, ?_, kxA.far (p := ⟨g, 3, none⟩) (Ne.symm hgx) _, klA.far (p := ⟨g, 3, none⟩) (Ne.symm hgl) _, only_setCell bwA (p := ⟨g, 3, none⟩) (.inl rfl) _⟩
    have hgB := hgA.set_ 3 (.int .u32 (sq : Int))
    simp only [List.setIfInBounds_toArray, List.set_cons_zero, List.set_cons_succ] at hgB
    exact hgB
  clear c3 f3
  have c11 := hgB.cell 11
  have f11 := hgB.frozen 11
  obtain ⟨wC, hstC, hgC, kxC, klC, bwC⟩ : ∃ wC, (Instr.storeAt 4 (.pointer (some ⟨g, 11, none⟩)) (.bool true)).run Try.prog wB = .ok () wC ∧ Blk wC g 81 #[.int .u8 (id : Int), .int .i64 (n : Int), .int .u8 (node : Int), .int .u32 (sq : Int), .int .u8 (id : Int), .int .u32 (sq : Int), .int .u8 (yk : Int), .string ⟨ys.toArray⟩, .string ⟨yt.toArray⟩, .string ⟨yu.toArray⟩, .int .u8 (yz : Int), .bool true] ∧ Blk wC gx 36 #[.int .u8 (id : Int), .int .u32 (sq : Int), .int .u8 (yk : Int), .string ⟨ys.toArray⟩, .string ⟨yt.toArray⟩, .string ⟨yu.toArray⟩, .int .u8 (yz : Int)] ∧ Blk wC gl 47 #[.int .u8 0, .int .u8 0, .int .u8 0, .int .u64 0, .int .u8 0, .int .u64 0, .int .u64 0, .int .u8 0, .string ⟨#[]⟩, .slice none 0 0, .slice none 0 0, .int .u8 0, .int .u32 0, .int .u8 0, .string ⟨#[]⟩, .string ⟨#[]⟩, .string ⟨#[]⟩, .int .u8 0, .int .u8 0, .string ⟨#[]⟩] ∧ w.grownBy wC (some g) := by
    refine ⟨wB.setCell ⟨g, 11, none⟩ (.bool true), by go_simp, ?_, kxB.far (p := ⟨g, 11, none⟩) (Ne.symm hgx) _, klB.far (p := ⟨g, 11, none⟩) (Ne.symm hgl) _, only_setCell bwB (p := ⟨g, 11, none⟩) (.inl rfl) _⟩
    have hgC := hgB.set_ 11 (.bool true)
    simp only [List.setIfInBounds_toArray, List.set_cons_zero, List.set_cons_succ] at hgC
    exact hgC
  clear c11 f11
  have HKA := Lib.hid kxA
  have HKD := Lib.hid kxd
  have HKB := Lib.hid kxB
  have HKC := Lib.hid kxC
  have HGC := Lib.hid (And.intro hgC (And.intro klC bwC))
  clear kx4 hg4 kl4 bw4 hgd kld bwd hgA klA bwA kxA hgB kxB klB bwB hgC kxC klC bwC
  have x0 : w4.drew.cell? ⟨gx, 0, none⟩ = some (.int .u8 (id : Int)) := kxd.cell 0
  have x1 : w4.drew.cell? ⟨gx, 1, none⟩ = some (.int .u32 (sq : Int)) := kxd.cell 1
  have x2 : w4.drew.cell? ⟨gx, 2, none⟩ = some (.int .u8 (yk : Int)) := kxd.cell 2
  have x3 : w4.drew.cell? ⟨gx, 3, none⟩ = some (.string ⟨ys.toArray⟩) := kxd.cell 3
  have x4 : w4.drew.cell? ⟨gx, 4, none⟩ = some (.string ⟨yt.toArray⟩) := kxd.cell 4
  have x5 : w4.drew.cell? ⟨gx, 5, none⟩ = some (.string ⟨yu.toArray⟩) := kxd.cell 5
  have x6 : w4.drew.cell? ⟨gx, 6, none⟩ = some (.int .u8 (yz : Int)) := kxd.cell 6
  clear kxd
  refine wp_region_held_drew (S := fun W : World => W.cell? ⟨gx, 0, none⟩ = some (.int .u8 (id : Int)) ∧ W.cell? ⟨gx, 1, none⟩ = some (.int .u32 (sq : Int)) ∧ W.cell? ⟨gx, 2, none⟩ = some (.int .u8 (yk : Int)) ∧ W.cell? ⟨gx, 3, none⟩ = some (.string ⟨ys.toArray⟩) ∧ W.cell? ⟨gx, 4, none⟩ = some (.string ⟨yt.toArray⟩) ∧ W.cell? ⟨gx, 5, none⟩ = some (.string ⟨yu.toArray⟩) ∧ W.cell? ⟨gx, 6, none⟩ = some (.int .u8 (yz : Int))) (by kernel_rfl) (⟨x0, x1, x2, x3, x4, x5, x6⟩) (fun hHeld => ?_)
  refine take1 (i := 0) (d := 35) (v := ?_) rfl (by kernel_rfl) (by kernel_rfl) (by kernel_rfl) rfl (fun _ _ _ h => h) (Or.inl ⟨by rfl, ?_⟩) (by assumption) ?_
  rotate_left
  · (intro w hSw; (try dsimp only at hSw); go_simp); with_reducible rfl
  simp only [List.set_cons_zero, List.set_cons_succ]
  refine take1 (i := 1) (d := 36) (v := ?_) rfl (by kernel_rfl) (by kernel_rfl) (by kernel_rfl) rfl (fun _ _ _ h => h) (Or.inl ⟨by rfl, ?_⟩) (by assumption) ?_
  rotate_left
  · (intro w hSw; (try dsimp only at hSw); go_simp); with_reducible rfl
  simp only [List.set_cons_zero, List.set_cons_succ]
  refine take1 (i := 2) (d := 37) (v := ?_) rfl (by kernel_rfl) (by kernel_rfl) (by kernel_rfl) rfl (fun _ _ _ h => h) (Or.inl ⟨by rfl, ?_⟩) (by assumption) ?_
  rotate_left
  · (intro w hSw; (try dsimp only at hSw); go_simp); with_reducible rfl
  simp only [List.set_cons_zero, List.set_cons_succ]
  refine take1 (i := 3) (d := 38) (v := ?_) rfl (by kernel_rfl) (by kernel_rfl) (by kernel_rfl) rfl (fun _ _ _ h => h) (Or.inl ⟨by rfl, ?_⟩) (by assumption) ?_
  rotate_left
  · (intro w hSw; (try dsimp only at hSw); go_simp); with_reducible rfl
  simp only [List.set_cons_zero, List.set_cons_succ]
  refine take1 (i := 4) (d := 39) (v := ?_) rfl (by kernel_rfl) (by kernel_rfl) (by kernel_rfl) rfl (fun _ _ _ h => h) (Or.inl ⟨by rfl, ?_⟩) (by assumption) ?_
  rotate_left
  · (intro w hSw; (try dsimp only at hSw); go_simp); with_reducible rfl
  simp only [List.set_cons_zero, List.set_cons_succ]
  refine take1 (i := 5) (d := 40) (v := ?_) rfl (by kernel_rfl) (by kernel_rfl) (by kernel_rfl) rfl (fun _ _ _ h => h) (Or.inl ⟨by rfl, ?_⟩) (by assumption) ?_
  rotate_left
  · (intro w hSw; (try dsimp only at hSw); go_simp); with_reducible rfl
  simp only [List.set_cons_zero, List.set_cons_succ]
  refine take1 (i := 6) (d := 41) (v := ?_) rfl (by kernel_rfl) (by kernel_rfl) (by kernel_rfl) rfl (fun _ _ _ h => h) (Or.inl ⟨by rfl, ?_⟩) (by assumption) ?_
  rotate_left
  · (intro w hSw; (try dsimp only at hSw); go_simp); with_reducible rfl
  simp only [List.set_cons_zero, List.set_cons_succ]
  refine take1 (i := 7) (d := 42) (v := ?_) rfl (by kernel_rfl) (by kernel_rfl) (by kernel_rfl) rfl (fun _ _ _ h => h) (Or.inl ⟨by rfl, ?_⟩) (by assumption) ?_
  rotate_left
  · (intro w hSw; (try dsimp only at hSw); go_simp); with_reducible rfl
  simp only [List.set_cons_zero, List.set_cons_succ]
  refine wpAnyH_ready (rs := [8]) (by kernel_rfl) (by simp) (AllReadyH.cons rfl (fun Kreg hKreg => ?_) AllReadyH.nil)
  refine step_store (by rfl) (.tmp 42) (.tmp 38) (by rfl) (by rfl) (by rfl) hstA ?_
  refine hKreg.out _ _ (by first | exact ⟨HKA.out.cell 0, HKA.out.cell 1, HKA.out.cell 2, HKA.out.cell 3, HKA.out.cell 4, HKA.out.cell 5, HKA.out.cell 6⟩ | exact ⟨HKB.out.cell 0, HKB.out.cell 1, HKB.out.cell 2, HKB.out.cell 3, HKB.out.cell 4, HKB.out.cell 5, HKB.out.cell 6⟩ | exact ⟨HKC.out.cell 0, HKC.out.cell 1, HKC.out.cell 2, HKC.out.cell 3, HKC.out.cell 4, HKC.out.cell 5, HKC.out.cell 6⟩) (fun hHeld => ?_)
  clear hKreg Kreg
  try simp only [Act.put, List.setIfInBounds_toArray, List.set_cons_zero, List.set_cons_succ]
  refine take1 (i := 9) (d := 43) (v := ?_) rfl (by kernel_rfl) (by kernel_rfl) (by kernel_rfl) rfl (fun _ _ _ h => h) (Or.inl ⟨by rfl, ?_⟩) (by assumption) ?_
  rotate_left
  · (intro w hSw; (try dsimp only at hSw); go_simp); with_reducible rfl
  simp only [List.set_cons_zero, List.set_cons_succ]
  refine take1 (i := 10) (d := 44) (v := ?_) rfl (by kernel_rfl) (by kernel_rfl) (by kernel_rfl) rfl (fun _ _ _ h => h) (Or.inl ⟨by rfl, ?_⟩) (by assumption) ?_
  rotate_left
  · (intro w hSw; (try dsimp only at hSw); go_simp); with_reducible rfl
  simp only [List.set_cons_zero, List.set_cons_succ]
  refine wpAnyH_ready (rs := [11]) (by kernel_rfl) (by simp) (AllReadyH.cons rfl (fun Kreg hKreg => ?_) AllReadyH.nil)
  refine step_store (by rfl) (.tmp 44) (.tmp 40) (by rfl) (by rfl) (by rfl) hstB ?_
  refine hKreg.out _ _ (by first | exact ⟨HKA.out.cell 0, HKA.out.cell 1, HKA.out.cell 2, HKA.out.cell 3, HKA.out.cell 4, HKA.out.cell 5, HKA.out.cell 6⟩ | exact ⟨HKB.out.cell 0, HKB.out.cell 1, HKB.out.cell 2, HKB.out.cell 3, HKB.out.cell 4, HKB.out.cell 5, HKB.out.cell 6⟩ | exact ⟨HKC.out.cell 0, HKC.out.cell 1, HKC.out.cell 2, HKC.out.cell 3, HKC.out.cell 4, HKC.out.cell 5, HKC.out.cell 6⟩) (fun hHeld => ?_)
  clear hKreg Kreg
  try simp only [Act.put, List.setIfInBounds_toArray, List.set_cons_zero, List.set_cons_succ]
  refine take1 (i := 12) (d := 45) (v := ?_) rfl (by kernel_rfl) (by kernel_rfl) (by kernel_rfl) rfl (fun _ _ _ h => h) (Or.inl ⟨by rfl, ?_⟩) (by assumption) ?_
  rotate_left
  · (intro w hSw; (try dsimp only at hSw); go_simp); with_reducible rfl
  simp only [List.set_cons_zero, List.set_cons_succ]
  refine take1 (i := 13) (d := 46) (v := ?_) rfl (by kernel_rfl) (by kernel_rfl) (by kernel_rfl) rfl (fun _ _ _ h => h) (Or.inl ⟨by rfl, ?_⟩) (by assumption) ?_
  rotate_left
  · (intro w hSw; (try dsimp only at hSw); go_simp); with_reducible rfl
  simp only [List.set_cons_zero, List.set_cons_succ]
  refine wpAnyH_ready (rs := [14]) (by kernel_rfl) (by simp) (AllReadyH.cons rfl (fun Kreg hKreg => ?_) AllReadyH.nil)
  refine step_store (by rfl) (.tmp 46) (.const (.bool true)) (by rfl) (by rfl) (by rfl) hstC ?_
  refine hKreg.out _ _ (by first | exact ⟨HKA.out.cell 0, HKA.out.cell 1, HKA.out.cell 2, HKA.out.cell 3, HKA.out.cell 4, HKA.out.cell 5, HKA.out.cell 6⟩ | exact ⟨HKB.out.cell 0, HKB.out.cell 1, HKB.out.cell 2, HKB.out.cell 3, HKB.out.cell 4, HKB.out.cell 5, HKB.out.cell 6⟩ | exact ⟨HKC.out.cell 0, HKC.out.cell 1, HKC.out.cell 2, HKC.out.cell 3, HKC.out.cell 4, HKC.out.cell 5, HKC.out.cell 6⟩) (fun hHeld => ?_)
  clear hKreg Kreg
  try simp only [Act.put, List.setIfInBounds_toArray, List.set_cons_zero, List.set_cons_succ]
  refine wpAnyH_done (by kernel_rfl) ?_ _
  obtain ⟨hg, kl, bw⟩ := HGC.out
  simp only [List.getElem_toArray, List.getElem_cons_succ, List.getElem_cons_zero]
  clear hstA hstB hstC HKA HKB HKC HKD HGC hHeld
  clear x0 x1 x2 x3 x4 x5 x6
  go_wp2_with fail
  refine (HA.out ⟨id, n, node, sq, ⟨id, sq, yk, ys, yt, yu, yz⟩, true⟩ h1 _ hg).mono ?_; rintro e w7 ⟨rfl, B7⟩
  have hg7 := hg.below B7 hg.lt
  have kl7 := kl.below B7 kl.lt
  have bw7 := grown_step bw (only_of_below B7 (some g))
  unfold ltV ltC askL lt0 cm0
  dsimp only
  have hst := blk_store (P := Try.prog) (ty := 47) (cells := #[.int .u8 (16 + (id : Int)), .int .u8 (node : Int), .int .u8 1, .int .u64 0, .int .u8 0, .int .u64 0, .int .u64 0, .int .u8 0, .string ⟨#[]⟩, .slice none 0 0, .slice none 0 0, .int .u8 (id : Int), .int .u32 (sq : Int), .int .u8 (yk : Int), .string ⟨ys.toArray⟩, .string ⟨yt.toArray⟩, .string ⟨yu.toArray⟩, .int .u8 (yz : Int), .int .u8 0, .string ⟨#[]⟩]) kl7 rfl size_lt rfl
  have HLD := Lib.hid (blk_loadVar (P := Try.prog) (ty := 47) (kl7.setRow (cells := #[.int .u8 (16 + (id : Int)), .int .u8 (node : Int), .int .u8 1, .int .u64 0, .int .u8 0, .int .u64 0, .int .u64 0, .int .u8 0, .string ⟨#[]⟩, .slice none 0 0, .slice none 0 0, .int .u8 (id : Int), .int .u32 (sq : Int), .int .u8 (yk : Int), .string ⟨ys.toArray⟩, .string ⟨yt.toArray⟩, .string ⟨yu.toArray⟩, .int .u8 (yz : Int), .int .u8 0, .string ⟨#[]⟩])) Try.underlying47 rfl size_lt)
  have HN := Lib.hid (hg7.setRowFar (cells := #[.int .u8 (16 + (id : Int)), .int .u8 (node : Int), .int .u8 1, .int .u64 0, .int .u8 0, .int .u64 0, .int .u64 0, .int .u8 0, .string ⟨#[]⟩, .slice none 0 0, .slice none 0 0, .int .u8 (id : Int), .int .u32 (sq : Int), .int .u8 (yk : Int), .string ⟨ys.toArray⟩, .string ⟨yt.toArray⟩, .string ⟨yu.toArray⟩, .int .u8 (yz : Int), .int .u8 0, .string ⟨#[]⟩]) hgl)
  have BN := Lib.hid (grown_setRow (cells := #[.int .u8 (16 + (id : Int)), .int .u8 (node : Int), .int .u8 1, .int .u64 0, .int .u8 0, .int .u64 0, .int .u64 0, .int .u8 0, .string ⟨#[]⟩, .slice none 0 0, .slice none 0 0, .int .u8 (id : Int), .int .u32 (sq : Int), .int .u8 (yk : Int), .string ⟨ys.toArray⟩, .string ⟨yt.toArray⟩, .string ⟨yu.toArray⟩, .int .u8 (yz : Int), .int .u8 0, .string ⟨#[]⟩]) bw7 (.inl hwl))
  have hr := HR3.out
  subst hr
  clear hg kl bw B7 hg7 kl7 bw7 HA HR3
  go_wp2_with (refine wpList_store (by rfl) (.tmp 4) (.tmp 48) (by rfl) (by rfl) (by rfl) hst ?_)
  exact bodyPost_ret (v := .tuple #[.agg #[.int .u8 (16 + (id : Int)), .int .u8 (node : Int), .int .u8 1, .int .u64 0, .int .u8 0, .int .u64 0, .int .u64 0, .int .u8 0, .string ⟨#[]⟩, .slice none 0 0, .slice none 0 0, .int .u8 (id : Int), .int .u32 (sq : Int), .int .u8 (yk : Int), .string ⟨ys.toArray⟩, .string ⟨yt.toArray⟩, .string ⟨yu.toArray⟩, .int .u8 (yz : Int), .int .u8 0, .string ⟨#[]⟩], .int .i64 0]) (by simp [results, Try.results13, asAddr, HLD.out]) rfl ⟨rfl, And.intro HN.out BN.out⟩
end Go.Proofs.Yteiaiilfekojfaa.Cli
