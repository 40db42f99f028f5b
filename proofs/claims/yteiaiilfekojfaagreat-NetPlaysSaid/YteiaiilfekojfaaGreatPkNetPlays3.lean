/- Texts that the proof of NetPlays leans on, put together (3 of 6). Conditions: each theorem states its own. -/
import Derived.Test.YteiaiilfekojfaaGreatPkNetPlays2
section
set_option linter.unusedVariables false
set_option linter.unusedSimpArgs false
namespace Go.Proofs.YteiaiilfekojfaaGreat.Msg
open Go.RowKit Sx Wire DrawInv
set_option maxRecDepth 100000 in
set_option maxHeartbeats 4000000 in
theorem Nj (gr : Nat) (r : Rd) (g xk xn xr xb xs xo da db dk dz xc : Nat) (xv ds dt du xt : List UInt8) (wl : List Vo) (jl : List Im) (V I : Value)  (w : World) (hr : Blk w gr 157 (rdC r)) (hg : Blk w g 33 (msL ⟨xk, xn, xr, xb, xs, xo, xv, wl, jl, ⟨da, db, dk, ds, dt, du, dz⟩, xc, xt⟩ V I).toArray) (hne : gr ≠ g) (hrl : r.rest.length ≤ 1000000) : Calls Tryz.prog 112 #[.pointer (some ⟨gr, 0, none⟩), .pointer (some ⟨g, 0, none⟩)] w fun e w' => e = .returned (.tuple #[]) ∧ Blk w' gr 157 (rdC (Pt.take .cmd (⟨xk, xn, xr, xb, xs, xo, xv, wl, jl, ⟨da, db, dk, ds, dt, du, dz⟩, xc, xt⟩, r)).2) ∧ Blk w' g 33 (msL (Pt.take .cmd (⟨xk, xn, xr, xb, xs, xo, xv, wl, jl, ⟨da, db, dk, ds, dt, du, dz⟩, xc, xt⟩, r)).1 V I).toArray ∧ Outs [gr, g] w w' := by
 refine A0 (n := 9) _ Tryz.func112 rfl rfl rfl (Hp.duo hr hg hne) (Ac (zm rfl (zm rfl ?_)))
 obtain ⟨p6, hp6⟩ : ∃ p, Cmd.takeC r = p := ⟨_, rfl⟩
 refine AP (σ := Unit) (fun _ => .agg #[.int .u8 (p6.1.client : Int), .int .u32 (p6.1.seq : Int), .int .u8 (p6.1.kind : Int), .string ⟨p6.1.key.toArray⟩, .string ⟨p6.1.old.toArray⟩, .string ⟨p6.1.new.toArray⟩, .int .u8 (p6.1.set : Int)]) (fun _ => True) (fun _ => _) trivial rfl rfl (zk K2 rfl) (DR (i := 0) (cell gr 157 [.int .i64 (p6.2.err : Int), .string ⟨p6.2.rest.toArray⟩]) rfl (BR _ _ _) rfl (fun w H => (YC hp6 (by skip; omega) w (H.get (i := 0) rfl)).mono fun _ _ h => Ey h)) fun _ _ => ?_
 refine Ag (v := .pointer (some ⟨g, 0, none⟩)) trivial rfl rfl (fun ρ w E H => Be E rfl rfl) (zf 9 Bd rfl (Bz (i := 1) trivial rfl rfl rfl rfl rfl BG rfl rfl rfl (Ad ?_)))
 refine Dt (.tuple #[]) (fun a w K H => Hl rfl) (fun w H => ?_)
 have hR : Blk w gr 157 (rdC p6.2) := H.get (i := 0) rfl
 refine ⟨rfl, ?_⟩
 simp only [Pt.take, hp6]
 exact ⟨hR, H.get (i := 1) rfl, H.toOuts _ ⟨(zi (by simp)), (zi (by simp)), trivial⟩⟩

set_option maxRecDepth 100000 in
set_option maxHeartbeats 4000000 in
theorem TB (gr : Nat) (r : Rd) (g xk xn xr xb xs xo da db dk dz xc : Nat) (xv ds dt du xt : List UInt8) (wl : List Vo) (jl : List Im) (V I : Value)  (w : World) (hr : Blk w gr 157 (rdC r)) (hg : Blk w g 33 (msL ⟨xk, xn, xr, xb, xs, xo, xv, wl, jl, ⟨da, db, dk, ds, dt, du, dz⟩, xc, xt⟩ V I).toArray) (hne : gr ≠ g) (hrl : r.rest.length ≤ 1000000) : Calls Tryz.prog 118 #[.pointer (some ⟨gr, 0, none⟩), .pointer (some ⟨g, 0, none⟩)] w fun e w' => e = .returned (.tuple #[]) ∧ Blk w' gr 157 (rdC (Pt.take .name (⟨xk, xn, xr, xb, xs, xo, xv, wl, jl, ⟨da, db, dk, ds, dt, du, dz⟩, xc, xt⟩, r)).2) ∧ Blk w' g 33 (msL (Pt.take .name (⟨xk, xn, xr, xb, xs, xo, xv, wl, jl, ⟨da, db, dk, ds, dt, du, dz⟩, xc, xt⟩, r)).1 V I).toArray ∧ Outs [gr, g] w w' := by
 refine A0 (n := 17) _ Tryz.func118 rfl rfl rfl (Hp.duo hr hg hne) (Ae (Ac (zm rfl (zm rfl ?_))))
 obtain ⟨p6, hp6⟩ : ∃ p, Rd.byte r = p := ⟨_, rfl⟩
 refine AP (σ := Unit) (fun _ => .int .u8 (p6.1 : Int)) (fun _ => True) (fun _ => _) trivial rfl rfl (zk D7 rfl) (DR (i := 0) (cell gr 157 [.int .i64 (p6.2.err : Int), .string ⟨p6.2.rest.toArray⟩]) rfl (BR _ _ _) rfl (fun w H => (Pv hp6 (by skip; omega) w (H.get (i := 0) rfl)).mono fun _ _ h => Ey h)) fun _ _ => ?_
 refine Ag (v := .pointer (some ⟨g, 0, none⟩)) trivial rfl rfl (fun ρ w E H => Be E rfl rfl) (zf 9 Bd rfl (zf 9 CG rfl (Bz (i := 1) trivial rfl rfl rfl rfl rfl DC rfl rfl rfl (Ad (Aa (Ac (zm rfl (zm rfl ?_))))))))
 obtain ⟨p12, hp12⟩ : ∃ p, Rd.below p6.2 4294967296 = p := ⟨_, rfl⟩
 refine AP (σ := Unit) (fun _ => .int .u64 (p12.1 : Int)) (fun _ => True) (fun _ => _) trivial rfl rfl (zk GY rfl) (DR (i := 0) (cell gr 157 [.int .i64 (p12.2.err : Int), .string ⟨p12.2.rest.toArray⟩]) rfl (BR _ _ _) rfl (fun w H => (XB hp12 (by have q0 := MP hp6; omega) w (H.get (i := 0) rfl)).mono fun _ _ h => Ey h)) fun _ _ => ?_
 refine Ag (v := .int .u32 (p12.1 : Int)) trivial rfl rfl (fun ρ w E H => DN E rfl Tryz.underlying22 Tryz.underlying27 rfl (by have := Qb p6.2 4294967296 (by decide); rw [hp12] at this; rw [IntKind.wrap_u32]; omega)) (Ag (v := .pointer (some ⟨g, 0, none⟩)) trivial rfl rfl (fun ρ w E H => Be E rfl rfl) (zf 9 Bd rfl (zf 10 CE rfl (Bz (i := 1) trivial rfl rfl rfl rfl rfl NX rfl rfl rfl (Ad ?_)))))
 refine Dt (.tuple #[]) (fun a w K H => Hl rfl) (fun w H => ?_)
 have hR : Blk w gr 157 (rdC p12.2) := H.get (i := 0) rfl
 refine ⟨rfl, ?_⟩
 simp only [Pt.take, hp6, hp12]
 exact ⟨hR, H.get (i := 1) rfl, H.toOuts _ ⟨(zi (by simp)), (zi (by simp)), trivial⟩⟩

set_option maxRecDepth 100000 in
set_option maxHeartbeats 4000000 in
theorem QN (gr : Nat) (r : Rd) (g xk xn xr xb xs xo da db dk dz xc : Nat) (xv ds dt du xt : List UInt8) (wl : List Vo) (jl : List Im) (V I : Value)  (w : World) (hr : Blk w gr 157 (rdC r)) (hg : Blk w g 33 (msL ⟨xk, xn, xr, xb, xs, xo, xv, wl, jl, ⟨da, db, dk, ds, dt, du, dz⟩, xc, xt⟩ V I).toArray) (hne : gr ≠ g) (hrl : r.rest.length ≤ 1000000) : Calls Tryz.prog 123 #[.pointer (some ⟨gr, 0, none⟩), .pointer (some ⟨g, 0, none⟩)] w fun e w' => e = .returned (.tuple #[]) ∧ Blk w' gr 157 (rdC (Pt.take .reply (⟨xk, xn, xr, xb, xs, xo, xv, wl, jl, ⟨da, db, dk, ds, dt, du, dz⟩, xc, xt⟩, r)).2) ∧ Blk w' g 33 (msL (Pt.take .reply (⟨xk, xn, xr, xb, xs, xo, xv, wl, jl, ⟨da, db, dk, ds, dt, du, dz⟩, xc, xt⟩, r)).1 V I).toArray ∧ Outs [gr, g] w w' := by
 refine A0 (n := 16) _ Tryz.func123 rfl rfl rfl (Hp.duo hr hg hne) (Ae (Ac (zm rfl (zm rfl ?_))))
 obtain ⟨p6, hp6⟩ : ∃ p, Rd.byte r = p := ⟨_, rfl⟩
 refine AP (σ := Unit) (fun _ => .int .u8 (p6.1 : Int)) (fun _ => True) (fun _ => _) trivial rfl rfl (zk D7 rfl) (DR (i := 0) (cell gr 157 [.int .i64 (p6.2.err : Int), .string ⟨p6.2.rest.toArray⟩]) rfl (BR _ _ _) rfl (fun w H => (Pv hp6 (by skip; omega) w (H.get (i := 0) rfl)).mono fun _ _ h => Ey h)) fun _ _ => ?_
 refine Ag (v := .pointer (some ⟨g, 0, none⟩)) trivial rfl rfl (fun ρ w E H => Be E rfl rfl) (zf 16 B9 rfl (zf 16 DL rfl (Bz (i := 1) trivial rfl rfl rfl rfl rfl DC rfl rfl rfl (Ad (Aa (Ac (zm rfl (zm rfl ?_))))))))
 obtain ⟨p12, hp12⟩ : ∃ p, Rd.str p6.2 64 = p := ⟨_, rfl⟩
 refine AP (σ := Unit) (fun _ => .string ⟨p12.1.toArray⟩) (fun _ => True) (fun _ => _) trivial rfl rfl (zk DO rfl) (DR (i := 0) (cell gr 157 [.int .i64 (p12.2.err : Int), .string ⟨p12.2.rest.toArray⟩]) rfl (BR _ _ _) rfl (fun w H => (S5 hp12 (by decide) (by decide) (by have q0 := MP hp6; omega) w (H.get (i := 0) rfl)).mono fun _ _ h => Ey h)) fun _ _ => ?_
 refine Ag (v := .pointer (some ⟨g, 0, none⟩)) trivial rfl rfl (fun ρ w E H => Be E rfl rfl) (zf 16 B9 rfl (zf 17 Dv rfl (Bz (i := 1) trivial rfl rfl rfl rfl rfl G8 rfl rfl rfl (Ad ?_))))
 refine Dt (.tuple #[]) (fun a w K H => Hl rfl) (fun w H => ?_)
 have hR : Blk w gr 157 (rdC p12.2) := H.get (i := 0) rfl
 refine ⟨rfl, ?_⟩
 simp only [Pt.take, hp6, hp12]
 exact ⟨hR, H.get (i := 1) rfl, H.toOuts _ ⟨(zi (by simp)), (zi (by simp)), trivial⟩⟩

set_option maxRecDepth 100000 in
set_option maxHeartbeats 4000000 in
theorem TA (gr : Nat) (r : Rd) (g xk xn xr xb xs xo da db dk dz xc : Nat) (xv ds dt du xt : List UInt8) (wl : List Vo) (jl : List Im) (V I : Value)  (w : World) (hr : Blk w gr 157 (rdC r)) (hg : Blk w g 33 (msL ⟨xk, xn, xr, xb, xs, xo, xv, wl, jl, ⟨da, db, dk, ds, dt, du, dz⟩, xc, xt⟩ V I).toArray) (hne : gr ≠ g) (hrl : r.rest.length ≤ 1000000) : Calls Tryz.prog 128 #[.pointer (some ⟨gr, 0, none⟩), .pointer (some ⟨g, 0, none⟩)] w fun e w' => e = .returned (.tuple #[]) ∧ Blk w' gr 157 (rdC (Pt.take .node (⟨xk, xn, xr, xb, xs, xo, xv, wl, jl, ⟨da, db, dk, ds, dt, du, dz⟩, xc, xt⟩, r)).2) ∧ Blk w' g 33 (msL (Pt.take .node (⟨xk, xn, xr, xb, xs, xo, xv, wl, jl, ⟨da, db, dk, ds, dt, du, dz⟩, xc, xt⟩, r)).1 V I).toArray ∧ Outs [gr, g] w w' := by
 refine A0 (n := 9) _ Tryz.func128 rfl rfl rfl (Hp.duo hr hg hne) (Ac (zm rfl (zm rfl ?_)))
 obtain ⟨p6, hp6⟩ : ∃ p, Rd.byte r = p := ⟨_, rfl⟩
 refine AP (σ := Unit) (fun _ => .int .u8 (p6.1 : Int)) (fun _ => True) (fun _ => _) trivial rfl rfl (zk D7 rfl) (DR (i := 0) (cell gr 157 [.int .i64 (p6.2.err : Int), .string ⟨p6.2.rest.toArray⟩]) rfl (BR _ _ _) rfl (fun w H => (Pv hp6 (by skip; omega) w (H.get (i := 0) rfl)).mono fun _ _ h => Ey h)) fun _ _ => ?_
 refine Ag (v := .pointer (some ⟨g, 0, none⟩)) trivial rfl rfl (fun ρ w E H => Be E rfl rfl) (zf 5 BW rfl (Bz (i := 1) trivial rfl rfl rfl rfl rfl DC rfl rfl rfl (Ad ?_)))
 refine Dt (.tuple #[]) (fun a w K H => Hl rfl) (fun w H => ?_)
 have hR : Blk w gr 157 (rdC p6.2) := H.get (i := 0) rfl
 refine ⟨rfl, ?_⟩
 simp only [Pt.take, hp6]
 exact ⟨hR, H.get (i := 1) rfl, H.toOuts _ ⟨(zi (by simp)), (zi (by simp)), trivial⟩⟩

set_option maxRecDepth 100000 in
set_option maxHeartbeats 4000000 in
theorem NW (gr : Nat) (r : Rd) (g xk xn xr xb xs xo da db dk dz xc : Nat) (xv ds dt du xt : List UInt8) (wl : List Vo) (jl : List Im) (V I : Value)  (w : World) (hr : Blk w gr 157 (rdC r)) (hg : Blk w g 33 (msL ⟨xk, xn, xr, xb, xs, xo, xv, wl, jl, ⟨da, db, dk, ds, dt, du, dz⟩, xc, xt⟩ V I).toArray) (hne : gr ≠ g) (hrl : r.rest.length ≤ 1000000) : Calls Tryz.prog 133 #[.pointer (some ⟨gr, 0, none⟩), .pointer (some ⟨g, 0, none⟩)] w fun e w' => e = .returned (.tuple #[]) ∧ Blk w' gr 157 (rdC (Pt.take .turn (⟨xk, xn, xr, xb, xs, xo, xv, wl, jl, ⟨da, db, dk, ds, dt, du, dz⟩, xc, xt⟩, r)).2) ∧ Blk w' g 33 (msL (Pt.take .turn (⟨xk, xn, xr, xb, xs, xo, xv, wl, jl, ⟨da, db, dk, ds, dt, du, dz⟩, xc, xt⟩, r)).1 V I).toArray ∧ Outs [gr, g] w w' := by
 refine A0 (n := 9) _ Tryz.func133 rfl rfl rfl (Hp.duo hr hg hne) (Ac (zm rfl (zm rfl ?_)))
 obtain ⟨p6, hp6⟩ : ∃ p, Bal.takeB r = p := ⟨_, rfl⟩
 refine AP (σ := Unit) (fun _ => .agg #[.int .u64 (p6.1.n : Int), .int .u8 (p6.1.r : Int)]) (fun _ => True) (fun _ => _) trivial rfl rfl (zk Gw rfl) (DR (i := 0) (cell gr 157 [.int .i64 (p6.2.err : Int), .string ⟨p6.2.rest.toArray⟩]) rfl (BR _ _ _) rfl (fun w H => (XO hp6 (by skip; omega) w (H.get (i := 0) rfl)).mono fun _ _ h => Ey h)) fun _ _ => ?_
 refine Ag (v := .pointer (some ⟨g, 0, none⟩)) trivial rfl rfl (fun ρ w E H => Be E rfl rfl) (zf 1 BM rfl (Bz (i := 1) trivial rfl rfl rfl rfl rfl Bi rfl rfl rfl (Ad ?_)))
 refine Dt (.tuple #[]) (fun a w K H => Hl rfl) (fun w H => ?_)
 have hR : Blk w gr 157 (rdC p6.2) := H.get (i := 0) rfl
 refine ⟨rfl, ?_⟩
 simp only [Pt.take, hp6]
 exact ⟨hR, H.get (i := 1) rfl, H.toOuts _ ⟨(zi (by simp)), (zi (by simp)), trivial⟩⟩

set_option maxRecDepth 100000 in
set_option maxHeartbeats 4000000 in
theorem QP (gr : Nat) (r : Rd) (g xk xn xr xb xs xo da db dk dz xc : Nat) (xv ds dt du xt : List UInt8) (wl : List Vo) (jl : List Im) (V I : Value)  (w : World) (hr : Blk w gr 157 (rdC r)) (hg : Blk w g 33 (msL ⟨xk, xn, xr, xb, xs, xo, xv, wl, jl, ⟨da, db, dk, ds, dt, du, dz⟩, xc, xt⟩ V I).toArray) (hne : gr ≠ g) (hrl : r.rest.length ≤ 1000000) : Calls Tryz.prog 144 #[.pointer (some ⟨gr, 0, none⟩), .pointer (some ⟨g, 0, none⟩)] w fun e w' => e = .returned (.tuple #[]) ∧ Blk w' gr 157 (rdC (Pt.take .floor (⟨xk, xn, xr, xb, xs, xo, xv, wl, jl, ⟨da, db, dk, ds, dt, du, dz⟩, xc, xt⟩, r)).2) ∧ Blk w' g 33 (msL (Pt.take .floor (⟨xk, xn, xr, xb, xs, xo, xv, wl, jl, ⟨da, db, dk, ds, dt, du, dz⟩, xc, xt⟩, r)).1 V I).toArray ∧ Outs [gr, g] w w' := by
 refine A0 (n := 9) _ Tryz.func144 rfl rfl rfl (Hp.duo hr hg hne) (Ac (zm rfl (zm rfl ?_)))
 obtain ⟨p6, hp6⟩ : ∃ p, Rd.num r = p := ⟨_, rfl⟩
 refine AP (σ := Unit) (fun _ => .int .u64 (p6.1 : Int)) (fun _ => True) (fun _ => _) trivial rfl rfl (zk CX rfl) (DR (i := 0) (cell gr 157 [.int .i64 (p6.2.err : Int), .string ⟨p6.2.rest.toArray⟩]) rfl (BR _ _ _) rfl (fun w H => (Ol hp6 (by skip; omega) w (H.get (i := 0) rfl)).mono fun _ _ h => Ey h)) fun _ _ => ?_
 refine Ag (v := .pointer (some ⟨g, 0, none⟩)) trivial rfl rfl (fun ρ w E H => Be E rfl rfl) (zf 3 BX rfl (Bz (i := 1) trivial rfl rfl rfl rfl rfl JL rfl rfl rfl (Ad ?_)))
 refine Dt (.tuple #[]) (fun a w K H => Hl rfl) (fun w H => ?_)
 have hR : Blk w gr 157 (rdC p6.2) := H.get (i := 0) rfl
 refine ⟨rfl, ?_⟩
 simp only [Pt.take, hp6]
 exact ⟨hR, H.get (i := 1) rfl, H.toOuts _ ⟨(zi (by simp)), (zi (by simp)), trivial⟩⟩

set_option maxRecDepth 100000 in
set_option maxHeartbeats 4000000 in
theorem T9 (gr : Nat) (r : Rd) (g xk xn xr xb xs xo da db dk dz xc : Nat) (xv ds dt du xt : List UInt8) (wl : List Vo) (jl : List Im) (V I : Value) (least : Nat)  (w : World) (hr : Blk w gr 157 (rdC r)) (hg : Blk w g 33 (msL ⟨xk, xn, xr, xb, xs, xo, xv, wl, jl, ⟨da, db, dk, ds, dt, du, dz⟩, xc, xt⟩ V I).toArray) (hne : gr ≠ g) (hrl : r.rest.length ≤ 1000000) : Calls Tryz.prog 139 #[.pointer (some ⟨gr, 0, none⟩), .pointer (some ⟨g, 0, none⟩)] w fun e w' => e = .returned (.tuple #[]) ∧ Blk w' gr 157 (rdC (Pt.take (.slot least) (⟨xk, xn, xr, xb, xs, xo, xv, wl, jl, ⟨da, db, dk, ds, dt, du, dz⟩, xc, xt⟩, r)).2) ∧ Blk w' g 33 (msL (Pt.take (.slot least) (⟨xk, xn, xr, xb, xs, xo, xv, wl, jl, ⟨da, db, dk, ds, dt, du, dz⟩, xc, xt⟩, r)).1 V I).toArray ∧ Outs [gr, g] w w' := by
 refine A0 (n := 9) _ Tryz.func139 rfl rfl rfl (Hp.duo hr hg hne) (Ac (zm rfl (zm rfl ?_)))
 obtain ⟨p6, hp6⟩ : ∃ p, Rd.num r = p := ⟨_, rfl⟩
 refine AP (σ := Unit) (fun _ => .int .u64 (p6.1 : Int)) (fun _ => True) (fun _ => _) trivial rfl rfl (zk CX rfl) (DR (i := 0) (cell gr 157 [.int .i64 (p6.2.err : Int), .string ⟨p6.2.rest.toArray⟩]) rfl (BR _ _ _) rfl (fun w H => (Ol hp6 (by skip; omega) w (H.get (i := 0) rfl)).mono fun _ _ h => Ey h)) fun _ _ => ?_
 refine Ag (v := .pointer (some ⟨g, 0, none⟩)) trivial rfl rfl (fun ρ w E H => Be E rfl rfl) (zf 4 Bq rfl (Bz (i := 1) trivial rfl rfl rfl rfl rfl JL rfl rfl rfl (Ad ?_)))
 refine Dt (.tuple #[]) (fun a w K H => Hl rfl) (fun w H => ?_)
 have hR : Blk w gr 157 (rdC p6.2) := H.get (i := 0) rfl
 refine ⟨rfl, ?_⟩
 simp only [Pt.take, hp6]
 exact ⟨hR, H.get (i := 1) rfl, H.toOuts _ ⟨(zi (by simp)), (zi (by simp)), trivial⟩⟩

set_option maxRecDepth 100000 in
set_option maxHeartbeats 4000000 in
theorem QM (gr : Nat) (r : Rd) (g xk xn xr xb xs xo da db dk dz xc : Nat) (xv ds dt du xt : List UInt8) (wl : List Vo) (jl : List Im) (V I : Value)  (w : World) (hr : Blk w gr 157 (rdC r)) (hg : Blk w g 33 (msL ⟨xk, xn, xr, xb, xs, xo, xv, wl, jl, ⟨da, db, dk, ds, dt, du, dz⟩, xc, xt⟩ V I).toArray) (hne : gr ≠ g) (hrl : r.rest.length ≤ 1000000) : Calls Tryz.prog 153 #[.pointer (some ⟨gr, 0, none⟩), .pointer (some ⟨g, 0, none⟩)] w fun e w' => e = .returned (.tuple #[]) ∧ Blk w' gr 157 (rdC (Pt.take .value (⟨xk, xn, xr, xb, xs, xo, xv, wl, jl, ⟨da, db, dk, ds, dt, du, dz⟩, xc, xt⟩, r)).2) ∧ Blk w' g 33 (msL (Pt.take .value (⟨xk, xn, xr, xb, xs, xo, xv, wl, jl, ⟨da, db, dk, ds, dt, du, dz⟩, xc, xt⟩, r)).1 V I).toArray ∧ Outs [gr, g] w w' := by
 refine A0 (n := 9) _ Tryz.func153 rfl rfl rfl (Hp.duo hr hg hne) (Ac (zm rfl (zm rfl ?_)))
 obtain ⟨p6, hp6⟩ : ∃ p, Rd.str r 65536 = p := ⟨_, rfl⟩
 refine AP (σ := Unit) (fun _ => .string ⟨p6.1.toArray⟩) (fun _ => True) (fun _ => _) trivial rfl rfl (zk DO rfl) (DR (i := 0) (cell gr 157 [.int .i64 (p6.2.err : Int), .string ⟨p6.2.rest.toArray⟩]) rfl (BR _ _ _) rfl (fun w H => (S5 hp6 (by decide) (by decide) (by skip; omega) w (H.get (i := 0) rfl)).mono fun _ _ h => Ey h)) fun _ _ => ?_
 refine Ag (v := .pointer (some ⟨g, 0, none⟩)) trivial rfl rfl (fun ρ w E H => Be E rfl rfl) (zf 6 Cf rfl (Bz (i := 1) trivial rfl rfl rfl rfl rfl G8 rfl rfl rfl (Ad ?_)))
 refine Dt (.tuple #[]) (fun a w K H => Hl rfl) (fun w H => ?_)
 have hR : Blk w gr 157 (rdC p6.2) := H.get (i := 0) rfl
 refine ⟨rfl, ?_⟩
 simp only [Pt.take, hp6]
 exact ⟨hR, H.get (i := 1) rfl, H.toOuts _ ⟨(zi (by simp)), (zi (by simp)), trivial⟩⟩

set_option maxRecDepth 100000 in
set_option maxHeartbeats 4000000 in
theorem QL (base gr : Nat) (r : Rd) (g xk xn xr xb xs xo da db dk dz xc : Nat) (xv ds dt du xt : List UInt8) (wl : List Vo) (jl : List Im) (V I : Value)  (w : World) (hr : Blk w gr 157 (rdC r)) (hg : Blk w g 33 (msL ⟨xk, xn, xr, xb, xs, xo, xv, wl, jl, ⟨da, db, dk, ds, dt, du, dz⟩, xc, xt⟩ V I).toArray) (hne : gr ≠ g) (hG0 : Grows r wl.length) (hbase : base ≤ w.heap.size) (hown : w.ownsRow base 92 4 V wl.length (wl.flatMap voL)) (hd1 : gr ∉ V.ownBlock.toList) (hd2 : g ∉ V.ownBlock.toList) : Calls Tryz.prog 148 #[.pointer (some ⟨gr, 0, none⟩), .pointer (some ⟨g, 0, none⟩)] w fun e w' => ∃ V', e = .returned (.tuple #[]) ∧ Blk w' gr 157 (rdC (Pt.take .votes (⟨xk, xn, xr, xb, xs, xo, xv, wl, jl, ⟨da, db, dk, ds, dt, du, dz⟩, xc, xt⟩, r)).2) ∧ Blk w' g 33 (msL (Pt.take .votes (⟨xk, xn, xr, xb, xs, xo, xv, wl, jl, ⟨da, db, dk, ds, dt, du, dz⟩, xc, xt⟩, r)).1 V' I).toArray ∧ w'.ownsRow base 92 4 V' (Pt.take .votes (⟨xk, xn, xr, xb, xs, xo, xv, wl, jl, ⟨da, db, dk, ds, dt, du, dz⟩, xc, xt⟩, r)).1.votes.length ((Pt.take .votes (⟨xk, xn, xr, xb, xs, xo, xv, wl, jl, ⟨da, db, dk, ds, dt, du, dz⟩, xc, xt⟩, r)).1.votes.flatMap voL) ∧ OwnIn w V.ownBlock.toList V' ∧ Outs ([gr, g] ++ V.ownBlock.toList) w w' := by
 have hv0 : OwnIn w V.ownBlock.toList V := OwnIn.refl w V
 have hrl := hG0.h1
 refine A0 (n := 35) _ Tryz.func148 rfl rfl rfl (Hp.trio hr hg hne hown hd1 hd2) (Ae (Ac (zm rfl ?_)))
 obtain ⟨p7, hp7⟩ : ∃ p, Rd.num r = p := ⟨_, rfl⟩
 refine AP (σ := Unit) (fun _ => .int .u64 (p7.1 : Int)) (fun _ => True) (fun _ => _) trivial rfl rfl (zk CX rfl) (DR (i := 1) (cell gr 157 [.int .i64 (p7.2.err : Int), .string ⟨p7.2.rest.toArray⟩]) rfl (BR _ _ _) rfl (fun w H => (Ol hp7 (by have q0 := hrl; omega) w (H.get (i := 1) rfl)).mono fun _ _ h => Ey h)) fun _ _ => ?_
 refine za rfl (Ad (Aa (AG ?_)))
 refine Kw (fun (n : Nat) (r1 : Rd) (w1 : List Vo) (V1 : Value) => [(0, .pointer (some ⟨gr, 0, none⟩)), (1, .pointer (some ⟨g, 0, none⟩)), (4, .int .u64 (n : Int))]) (fun (n : Nat) (r1 : Rd) (w1 : List Vo) (V1 : Value) => [BU V.ownBlock.toList base 92 4 V1 w1.length (w1.flatMap voL), cell gr 157 [.int .i64 (r1.err : Int), .string ⟨r1.rest.toArray⟩], cell g 33 [.int .u8 (xk : Int), .int .u64 (xn : Int), .int .u8 (xr : Int), .int .u64 (xb : Int), .int .u64 (xs : Int), .int .u8 (xo : Int), .string ⟨xv.toArray⟩, V1, I, .int .u8 (da : Int), .int .u32 (db : Int), .int .u8 (dk : Int), .string ⟨ds.toArray⟩, .string ⟨dt.toArray⟩, .string ⟨du.toArray⟩, .int .u8 (dz : Int), .int .u8 (xc : Int), .string ⟨xt.toArray⟩]]) (fun (gk : Nat) (n : Nat) (r1 : Rd) (w1 : List Vo) (V1 : Value) => n = gk ∧ tkV p7.1 p7.2 wl = tkV n r1 w1 ∧ OwnIn w V.ownBlock.toList V1 ∧ Grows r1 w1.length ∧ n < 18446744073709551616) p7.1 p7.1 p7.2 wl V ⟨rfl, rfl, OwnIn.refl w V, hp7 ▸ hG0.num, hp7 ▸ J4 r⟩ ⟨rfl, rfl, rfl, trivial⟩ [0, 1, 2] rfl (by decide) ⟨.inl rfl, .inl rfl, .inl rfl, trivial⟩ fun gk n r1 w1 V1 hF => ?_
 obtain ⟨hkg, hrel, hv1, hG, hn64⟩ := hF
 refine Ae (Ae (Ac (zm rfl ?_)))
 refine zb rfl fun c9 hc9 => ?_
 refine zm rfl ?_
 cases c9
 ·refine zo rfl (zo rfl (zo rfl (zp rfl (Ad (Aa (Ah rfl (Cd (AW (AW ?_)))))))))
  refine BH ?_
  refine Dt (.tuple #[]) (fun a w K H => Hl rfl) (fun w H => ?_)
  have hst : tkV p7.1 p7.2 wl = (r1, w1) := by
   rw [hrel]; refine Nb n r1 w1 ?_
   first | (left; have h := hc9; simp [AB] at h; omega) | (right; have h := hc13; simp [AB] at h; omega)
  have hR : Blk w gr 157 (rdC r1) := H.get (i := 1) rfl
  have e1 : Pt.take .votes (⟨xk, xn, xr, xb, xs, xo, xv, wl, jl, ⟨da, db, dk, ds, dt, du, dz⟩, xc, xt⟩, r) = (⟨xk, xn, xr, xb, xs, xo, xv, w1, jl, ⟨da, db, dk, ds, dt, du, dz⟩, xc, xt⟩, r1) := by simp only [Pt.take, hp7, hst]
  rw [e1]
  exact ⟨V1, rfl, hR, H.get (i := 2) rfl, H.get (i := 0) rfl, hv1, H.toOuts _ ⟨(fun g hg => (hv1.in_ g hg).imp (fun h => by simp [h]) id), (zi (by simp)), (zi (by simp)), trivial⟩⟩
 ·refine zm rfl (Ao (v := .int .i64 (r1.err : Int)) (gK rfl) rfl rfl (zk FI rfl) (fun w H => (Hu gr r1 w (H.get (i := 1) rfl)).mono fun _ _ h => ⟨h.1, h.2 ▸ Below.refl _ _⟩) ?_)
  refine zb rfl fun c13 hc13 => ?_
  refine zp rfl (Ad (Aa ?_))
  cases c13
  ·refine Ah rfl (Cd (AW (AW (BH ?_))))
   refine Dt (.tuple #[]) (fun a w K H => Hl rfl) (fun w H => ?_)
   have hst : tkV p7.1 p7.2 wl = (r1, w1) := by
    rw [hrel]; refine Nb n r1 w1 ?_
    first | (left; have h := hc9; simp [AB] at h; omega) | (right; have h := hc13; simp [AB] at h; omega)
   have hR : Blk w gr 157 (rdC r1) := H.get (i := 1) rfl
   have e1 : Pt.take .votes (⟨xk, xn, xr, xb, xs, xo, xv, wl, jl, ⟨da, db, dk, ds, dt, du, dz⟩, xc, xt⟩, r) = (⟨xk, xn, xr, xb, xs, xo, xv, w1, jl, ⟨da, db, dk, ds, dt, du, dz⟩, xc, xt⟩, r1) := by simp only [Pt.take, hp7, hst]
   rw [e1]
   exact ⟨V1, rfl, hR, H.get (i := 2) rfl, H.get (i := 0) rfl, hv1, H.toOuts _ ⟨(fun g hg => (hv1.in_ g hg).imp (fun h => by simp [h]) id), (zi (by simp)), (zi (by simp)), trivial⟩⟩
  ·refine Ap rfl (Ax (Aa (Ae (AG (Ae ?_)))))
   have hn0 : 0 < n := by have := hc9; simp [AB] at this; omega
   have he0 : r1.err = 0 := by have := hc13; simp [AB] at this; omega
   have hgr := hG.vote he0
   have hb1 := hG.h1
   have hb2 := hG.h2
   refine Ac (zm rfl ?_)
   obtain ⟨p18, hp18⟩ : ∃ p, Rd.num r1 = p := ⟨_, rfl⟩
   refine AP (σ := Unit) (fun _ => .int .u64 (p18.1 : Int)) (fun _ => True) (fun _ => _) trivial rfl rfl (zk CX rfl) (DR (i := 1) (cell gr 157 [.int .i64 (p18.2.err : Int), .string ⟨p18.2.rest.toArray⟩]) rfl (BR _ _ _) rfl (fun w H => (Ol hp18 (by have q0 := hb1; omega) w (H.get (i := 1) rfl)).mono fun _ _ h => Ey h)) fun _ _ => ?_
   refine zm rfl ?_
   obtain ⟨p20, hp20⟩ : ∃ p, Bal.takeB p18.2 = p := ⟨_, rfl⟩
   refine AP (σ := Unit) (fun _ => .agg #[.int .u64 (p20.1.n : Int), .int .u8 (p20.1.r : Int)]) (fun _ => True) (fun _ => _) trivial rfl rfl (zk Gw rfl) (DR (i := 1) (cell gr 157 [.int .i64 (p20.2.err : Int), .string ⟨p20.2.rest.toArray⟩]) rfl (BR _ _ _) rfl (fun w H => (XO hp20 (by have q0 := hb1; have q1 := QX hp18; omega) w (H.get (i := 1) rfl)).mono fun _ _ h => Ey h)) fun _ _ => ?_
   refine Ag trivial rfl rfl (fun ρ w E H => Bh (cs := [.int .u64 (p18.1 : Int), .int .u64 (p20.1.n : Int), .int .u8 (p20.1.r : Int), .string ⟨[].toArray⟩]) E rfl rfl (by kernel_rfl)) ?_
   refine zA Es rfl fun g1 hg1 => ?_
   refine Bz (i := 0) trivial rfl rfl rfl rfl rfl AZ rfl rfl rfl (Ad (Aa (Ae (Ac (zm rfl ?_)))))
   obtain ⟨p23, hp23⟩ : ∃ p, Rd.str p20.2 65536 = p := ⟨_, rfl⟩
   refine AP (σ := Unit) (fun _ => .string ⟨p23.1.toArray⟩) (fun _ => True) (fun _ => _) trivial rfl rfl (zk DO rfl) (DR (i := 2) (cell gr 157 [.int .i64 (p23.2.err : Int), .string ⟨p23.2.rest.toArray⟩]) rfl (BR _ _ _) rfl (fun w H => (S5 hp23 (by decide) (by decide) (by have q0 := hb1; have q1 := QX hp18; have q2 := XW hp20; omega) w (H.get (i := 2) rfl)).mono fun _ _ h => Ey h)) fun _ _ => ?_
   refine zf 3 EA rfl (Bz (i := 0) trivial rfl rfl rfl rfl rfl G8 rfl rfl rfl (Ad (Aa (BN (V.ownBlock.toList ++ [gr, g]) [0, 2] (by kernel_rfl) rfl ⟨(zh hg1), (fun g hg => (hv1.in_ g hg).imp (fun h => by simp only [List.mem_append]; simp [h]) id), (zi (by simp)), (zi (by simp)), trivial⟩ (ym 0 rfl (by kernel_rfl) zI (ym 1 rfl (by kernel_rfl) zI (yt (i := 2) (v := .pointer (some ⟨g, 0, none⟩)) (by kernel_rfl) zI rfl rfl rfl rfl (fun ρ w E H => Be E rfl rfl) (yf 3 7 AH rfl (by kernel_rfl) zI (yv 5 0 [.int .u64 (p18.1 : Int), .int .u64 (p20.1.n : Int), .int .u8 (p20.1.r : Int), .string ⟨p23.1.toArray⟩] Tryz.underlying92 AZ rfl (by kernel_rfl) zI ?_)))))))))
   refine Ed [4, 6] (by kernel_rfl) (by simp) ⟨?_, ?_, trivial⟩
   ·refine DZ rfl trivial rfl rfl (fun ρ w E H => Dl E (H.get (i := 3) rfl) rfl rfl Tryz.underlying25 rfl rfl) (yr 6 (by kernel_rfl) ?_)
    refine Dc (cs := [.int .u64 (p18.1 : Int), .int .u64 (p20.1.n : Int), .int .u8 (p20.1.r : Int), .string ⟨p23.1.toArray⟩]) rfl trivial rfl rfl (fun ρ w E H => AV E rfl rfl Tryz.underlying25 AZ Es rfl rfl (by kernel_rfl)) (fun g2 w hg2 H => H.ks (V.ownBlock.toList ++ [gr, g]) [1, 3] rfl ⟨(zh hg2), (zh hg1), (fun g hg => (hv1.in_ g hg).imp (fun h => by simp only [List.mem_append]; simp [h]) id), (zi (by simp)), (zi (by simp)), trivial⟩) fun g2 hg2 => ?_
    refine yr 7 (by kernel_rfl) ?_
    refine BZ (i := 2) (news := [.int .u64 (p18.1 : Int), .int .u64 (p20.1.n : Int), .int .u8 (p20.1.r : Int), .string ⟨p23.1.toArray⟩]) rfl trivial rfl rfl rfl Tryz.underlying25 Ge rfl rfl rfl rfl hv1 rfl (fun w H => CS H (i := 0) rfl rfl) (D4 rfl) (by unfold maxLen; omega) (by omega) hbase (fun A32 k32 w hv32 H => H.ks (V.ownBlock.toList ++ [gr, g]) [1, 3] rfl ⟨(zh hg2), (zh hg1), (fun g hg => (hv32.in_ g hg).imp (fun h => by simp only [List.mem_append]; simp [h]) id), (zi (by simp)), (zi (by simp)), trivial⟩) fun A32 k32 hv32 => ?_
    refine yt (i := 8) (v := .pointer (some ⟨g, 0, none⟩)) (by kernel_rfl) zI rfl rfl rfl rfl (fun ρ w E H => Be E rfl rfl) (yf 9 7 AH rfl (by kernel_rfl) zI (yr 10 (by kernel_rfl) (GK (j := 4) rfl trivial rfl rfl rfl rfl rfl Jv rfl rfl rfl (fun w H => H.ks (V.ownBlock.toList ++ [gr, g]) [1, 3] rfl ⟨(zh hg2), (zh hg1), (fun g hg => (hv32.in_ g hg).imp (fun h => by simp only [List.mem_append]; simp [h]) id), (zi (by simp)), (zi (by simp)), trivial⟩) (BE (by kernel_rfl) (AA (Aa (Ac (zm rfl (Ag (v := .int .u64 ((n - 1 : Nat) : Int)) trivial rfl rfl (fun ρ w E H => LW E rfl rfl rfl (by rw [IntKind.wrap_u64]; omega)) ?_)))))))))
    refine za rfl (Ad (KP (fun W H => H.re (i := 2) rfl (BU V.ownBlock.toList base 92 4 (.slice A32 (w1.length + 1) k32) ((w1 ++ [(⟨p18.1, p20.1.n, p20.1.r, p23.1⟩ : Vo)]).length) ((w1 ++ [(⟨p18.1, p20.1.n, p20.1.r, p23.1⟩ : Vo)]).flatMap voL)) (BF _ _ _ _ _ _ _) rfl (fun h => DI h (by simp) (by simp [voL]))) ?_))
    refine B7 (gk - 1) (n - 1, p23.2, w1 ++ [(⟨p18.1, p20.1.n, p20.1.r, p23.1⟩ : Vo)], .slice A32 (w1.length + 1) k32) (by omega) ⟨by omega, by rw [hrel, KR n r1 w1 hn0 he0]; simp only [hp18, hp20, hp23], hv32, by rw [List.length_append]; simp only [hp18, hp20, hp23] at hgr; exact hgr, by omega⟩ ⟨rfl, rfl, rfl, trivial⟩ [2, 3, 4] rfl (by decide) ⟨.inr (zq hg2), .inr (zq hg1), .inl rfl, .inl rfl, .inl rfl, trivial⟩
   ·refine Dc (cs := [.int .u64 (p18.1 : Int), .int .u64 (p20.1.n : Int), .int .u8 (p20.1.r : Int), .string ⟨p23.1.toArray⟩]) rfl trivial rfl rfl (fun ρ w E H => AV E rfl rfl Tryz.underlying25 AZ Es rfl rfl (by kernel_rfl)) (fun g3 w hg3 H => H.ks (V.ownBlock.toList ++ [gr, g]) [1, 3] rfl ⟨(zh hg3), (zh hg1), (fun g hg => (hv1.in_ g hg).imp (fun h => by simp only [List.mem_append]; simp [h]) id), (zi (by simp)), (zi (by simp)), trivial⟩) fun g3 hg3 => ?_
    refine yr 4 (by kernel_rfl) (DZ rfl trivial rfl rfl (fun ρ w E H => Dl E (H.get (i := 4) rfl) rfl rfl Tryz.underlying25 rfl rfl) (yr 7 (by kernel_rfl) ?_))
    refine BZ (i := 2) (news := [.int .u64 (p18.1 : Int), .int .u64 (p20.1.n : Int), .int .u8 (p20.1.r : Int), .string ⟨p23.1.toArray⟩]) rfl trivial rfl rfl rfl Tryz.underlying25 Ge rfl rfl rfl rfl hv1 rfl (fun w H => CS H (i := 0) rfl rfl) (D4 rfl) (by unfold maxLen; omega) (by omega) hbase (fun A32 k32 w hv32 H => H.ks (V.ownBlock.toList ++ [gr, g]) [1, 3] rfl ⟨(zh hg3), (zh hg1), (fun g hg => (hv32.in_ g hg).imp (fun h => by simp only [List.mem_append]; simp [h]) id), (zi (by simp)), (zi (by simp)), trivial⟩) fun A32 k32 hv32 => ?_
    refine yt (i := 8) (v := .pointer (some ⟨g, 0, none⟩)) (by kernel_rfl) zI rfl rfl rfl rfl (fun ρ w E H => Be E rfl rfl) (yf 9 7 AH rfl (by kernel_rfl) zI (yr 10 (by kernel_rfl) (GK (j := 4) rfl trivial rfl rfl rfl rfl rfl Jv rfl rfl rfl (fun w H => H.ks (V.ownBlock.toList ++ [gr, g]) [1, 3] rfl ⟨(zh hg3), (zh hg1), (fun g hg => (hv32.in_ g hg).imp (fun h => by simp only [List.mem_append]; simp [h]) id), (zi (by simp)), (zi (by simp)), trivial⟩) (BE (by kernel_rfl) (AA (Aa (Ac (zm rfl (Ag (v := .int .u64 ((n - 1 : Nat) : Int)) trivial rfl rfl (fun ρ w E H => LW E rfl rfl rfl (by rw [IntKind.wrap_u64]; omega)) ?_)))))))))
    refine za rfl (Ad (KP (fun W H => H.re (i := 2) rfl (BU V.ownBlock.toList base 92 4 (.slice A32 (w1.length + 1) k32) ((w1 ++ [(⟨p18.1, p20.1.n, p20.1.r, p23.1⟩ : Vo)]).length) ((w1 ++ [(⟨p18.1, p20.1.n, p20.1.r, p23.1⟩ : Vo)]).flatMap voL)) (BF _ _ _ _ _ _ _) rfl (fun h => DI h (by simp) (by simp [voL]))) ?_))
    refine B7 (gk - 1) (n - 1, p23.2, w1 ++ [(⟨p18.1, p20.1.n, p20.1.r, p23.1⟩ : Vo)], .slice A32 (w1.length + 1) k32) (by omega) ⟨by omega, by rw [hrel, KR n r1 w1 hn0 he0]; simp only [hp18, hp20, hp23], hv32, by rw [List.length_append]; simp only [hp18, hp20, hp23] at hgr; exact hgr, by omega⟩ ⟨rfl, rfl, rfl, trivial⟩ [2, 3, 4] rfl (by decide) ⟨.inr (zq hg3), .inr (zq hg1), .inl rfl, .inl rfl, .inl rfl, trivial⟩

set_option maxRecDepth 100000 in
set_option maxHeartbeats 4000000 in
theorem QO (base gr : Nat) (r : Rd) (g xk xn xr xb xs xo da db dk dz xc : Nat) (xv ds dt du xt : List UInt8) (wl : List Vo) (jl : List Im) (V I : Value)  (w : World) (hr : Blk w gr 157 (rdC r)) (hg : Blk w g 33 (msL ⟨xk, xn, xr, xb, xs, xo, xv, wl, jl, ⟨da, db, dk, ds, dt, du, dz⟩, xc, xt⟩ V I).toArray) (hne : gr ≠ g) (hG0 : Grows r jl.length) (hbase : base ≤ w.heap.size) (hown : w.ownsRow base 94 2 I jl.length (jl.flatMap imL)) (hd1 : gr ∉ I.ownBlock.toList) (hd2 : g ∉ I.ownBlock.toList) : Calls Tryz.prog 157 #[.pointer (some ⟨gr, 0, none⟩), .pointer (some ⟨g, 0, none⟩)] w fun e w' => ∃ V', e = .returned (.tuple #[]) ∧ Blk w' gr 157 (rdC (Pt.take .items (⟨xk, xn, xr, xb, xs, xo, xv, wl, jl, ⟨da, db, dk, ds, dt, du, dz⟩, xc, xt⟩, r)).2) ∧ Blk w' g 33 (msL (Pt.take .items (⟨xk, xn, xr, xb, xs, xo, xv, wl, jl, ⟨da, db, dk, ds, dt, du, dz⟩, xc, xt⟩, r)).1 V V').toArray ∧ w'.ownsRow base 94 2 V' (Pt.take .items (⟨xk, xn, xr, xb, xs, xo, xv, wl, jl, ⟨da, db, dk, ds, dt, du, dz⟩, xc, xt⟩, r)).1.items.length ((Pt.take .items (⟨xk, xn, xr, xb, xs, xo, xv, wl, jl, ⟨da, db, dk, ds, dt, du, dz⟩, xc, xt⟩, r)).1.items.flatMap imL) ∧ OwnIn w I.ownBlock.toList V' ∧ Outs ([gr, g] ++ I.ownBlock.toList) w w' := by
 have hv0 : OwnIn w I.ownBlock.toList I := OwnIn.refl w I
 have hrl := hG0.h1
 refine A0 (n := 33) _ Tryz.func157 rfl rfl rfl (Hp.trio hr hg hne hown hd1 hd2) (Ae (Ac (zm rfl ?_)))
 obtain ⟨p7, hp7⟩ : ∃ p, Rd.num r = p := ⟨_, rfl⟩
 refine AP (σ := Unit) (fun _ => .int .u64 (p7.1 : Int)) (fun _ => True) (fun _ => _) trivial rfl rfl (zk CX rfl) (DR (i := 1) (cell gr 157 [.int .i64 (p7.2.err : Int), .string ⟨p7.2.rest.toArray⟩]) rfl (BR _ _ _) rfl (fun w H => (Ol hp7 (by have q0 := hrl; omega) w (H.get (i := 1) rfl)).mono fun _ _ h => Ey h)) fun _ _ => ?_
 refine za rfl (Ad (Aa (AG ?_)))
 refine Kw (fun (n : Nat) (r1 : Rd) (w1 : List Im) (V1 : Value) => [(0, .pointer (some ⟨gr, 0, none⟩)), (1, .pointer (some ⟨g, 0, none⟩)), (4, .int .u64 (n : Int))]) (fun (n : Nat) (r1 : Rd) (w1 : List Im) (V1 : Value) => [BU I.ownBlock.toList base 94 2 V1 w1.length (w1.flatMap imL), cell gr 157 [.int .i64 (r1.err : Int), .string ⟨r1.rest.toArray⟩], cell g 33 [.int .u8 (xk : Int), .int .u64 (xn : Int), .int .u8 (xr : Int), .int .u64 (xb : Int), .int .u64 (xs : Int), .int .u8 (xo : Int), .string ⟨xv.toArray⟩, V, V1, .int .u8 (da : Int), .int .u32 (db : Int), .int .u8 (dk : Int), .string ⟨ds.toArray⟩, .string ⟨dt.toArray⟩, .string ⟨du.toArray⟩, .int .u8 (dz : Int), .int .u8 (xc : Int), .string ⟨xt.toArray⟩]]) (fun (gk : Nat) (n : Nat) (r1 : Rd) (w1 : List Im) (V1 : Value) => n = gk ∧ tkI p7.1 p7.2 jl = tkI n r1 w1 ∧ OwnIn w I.ownBlock.toList V1 ∧ Grows r1 w1.length ∧ n < 18446744073709551616) p7.1 p7.1 p7.2 jl I ⟨rfl, rfl, OwnIn.refl w I, hp7 ▸ hG0.num, hp7 ▸ J4 r⟩ ⟨rfl, rfl, rfl, trivial⟩ [0, 1, 2] rfl (by decide) ⟨.inl rfl, .inl rfl, .inl rfl, trivial⟩ fun gk n r1 w1 V1 hF => ?_
 obtain ⟨hkg, hrel, hv1, hG, hn64⟩ := hF
 refine Ae (Ae (Ac (zm rfl ?_)))
 refine zb rfl fun c9 hc9 => ?_
 refine zm rfl ?_
 cases c9
 ·refine zo rfl (zo rfl (zo rfl (zp rfl (Ad (Aa (Ah rfl (Cd (AW (AW ?_)))))))))
  refine BH ?_
  refine Dt (.tuple #[]) (fun a w K H => Hl rfl) (fun w H => ?_)
  have hst : tkI p7.1 p7.2 jl = (r1, w1) := by
   rw [hrel]; refine Nc n r1 w1 ?_
   first | (left; have h := hc9; simp [AB] at h; omega) | (right; have h := hc13; simp [AB] at h; omega)
  have hR : Blk w gr 157 (rdC r1) := H.get (i := 1) rfl
  have e1 : Pt.take .items (⟨xk, xn, xr, xb, xs, xo, xv, wl, jl, ⟨da, db, dk, ds, dt, du, dz⟩, xc, xt⟩, r) = (⟨xk, xn, xr, xb, xs, xo, xv, wl, w1, ⟨da, db, dk, ds, dt, du, dz⟩, xc, xt⟩, r1) := by simp only [Pt.take, hp7, hst]
  rw [e1]
  exact ⟨V1, rfl, hR, H.get (i := 2) rfl, H.get (i := 0) rfl, hv1, H.toOuts _ ⟨(fun g hg => (hv1.in_ g hg).imp (fun h => by simp [h]) id), (zi (by simp)), (zi (by simp)), trivial⟩⟩
 ·refine zm rfl (Ao (v := .int .i64 (r1.err : Int)) (gK rfl) rfl rfl (zk FI rfl) (fun w H => (Hu gr r1 w (H.get (i := 1) rfl)).mono fun _ _ h => ⟨h.1, h.2 ▸ Below.refl _ _⟩) ?_)
  refine zb rfl fun c13 hc13 => ?_
  refine zp rfl (Ad (Aa ?_))
  cases c13
  ·refine Ah rfl (Cd (AW (AW (BH ?_))))
   refine Dt (.tuple #[]) (fun a w K H => Hl rfl) (fun w H => ?_)
   have hst : tkI p7.1 p7.2 jl = (r1, w1) := by
    rw [hrel]; refine Nc n r1 w1 ?_
    first | (left; have h := hc9; simp [AB] at h; omega) | (right; have h := hc13; simp [AB] at h; omega)
   have hR : Blk w gr 157 (rdC r1) := H.get (i := 1) rfl
   have e1 : Pt.take .items (⟨xk, xn, xr, xb, xs, xo, xv, wl, jl, ⟨da, db, dk, ds, dt, du, dz⟩, xc, xt⟩, r) = (⟨xk, xn, xr, xb, xs, xo, xv, wl, w1, ⟨da, db, dk, ds, dt, du, dz⟩, xc, xt⟩, r1) := by simp only [Pt.take, hp7, hst]
   rw [e1]
   exact ⟨V1, rfl, hR, H.get (i := 2) rfl, H.get (i := 0) rfl, hv1, H.toOuts _ ⟨(fun g hg => (hv1.in_ g hg).imp (fun h => by simp [h]) id), (zi (by simp)), (zi (by simp)), trivial⟩⟩
  ·refine Ap rfl (Ax (Aa (Ae (AG (Ae ?_)))))
   have hn0 : 0 < n := by have := hc9; simp [AB] at this; omega
   have he0 : r1.err = 0 := by have := hc13; simp [AB] at this; omega
   have hgr := hG.item he0
   have hb1 := hG.h1
   have hb2 := hG.h2
   refine Ac (zm rfl ?_)
   obtain ⟨p18, hp18⟩ : ∃ p, Rd.num r1 = p := ⟨_, rfl⟩
   refine AP (σ := Unit) (fun _ => .int .u64 (p18.1 : Int)) (fun _ => True) (fun _ => _) trivial rfl rfl (zk CX rfl) (DR (i := 1) (cell gr 157 [.int .i64 (p18.2.err : Int), .string ⟨p18.2.rest.toArray⟩]) rfl (BR _ _ _) rfl (fun w H => (Ol hp18 (by have q0 := hb1; omega) w (H.get (i := 1) rfl)).mono fun _ _ h => Ey h)) fun _ _ => ?_
   refine Ag trivial rfl rfl (fun ρ w E H => Bh (cs := [.int .u64 (p18.1 : Int), .string ⟨[].toArray⟩]) E rfl rfl (by kernel_rfl)) ?_
   refine zA Et rfl fun g1 hg1 => ?_
   refine Bz (i := 0) trivial rfl rfl rfl rfl rfl Bg rfl rfl rfl (Ad (Aa (Ae (Ac (zm rfl ?_)))))
   obtain ⟨p21, hp21⟩ : ∃ p, Rd.str p18.2 65536 = p := ⟨_, rfl⟩
   refine AP (σ := Unit) (fun _ => .string ⟨p21.1.toArray⟩) (fun _ => True) (fun _ => _) trivial rfl rfl (zk DO rfl) (DR (i := 2) (cell gr 157 [.int .i64 (p21.2.err : Int), .string ⟨p21.2.rest.toArray⟩]) rfl (BR _ _ _) rfl (fun w H => (S5 hp21 (by decide) (by decide) (by have q0 := hb1; have q1 := QX hp18; omega) w (H.get (i := 2) rfl)).mono fun _ _ h => Ey h)) fun _ _ => ?_
   refine zf 1 EC rfl (Bz (i := 0) trivial rfl rfl rfl rfl rfl G8 rfl rfl rfl (Ad (Aa (BN (I.ownBlock.toList ++ [gr, g]) [0, 2] (by kernel_rfl) rfl ⟨(zh hg1), (fun g hg => (hv1.in_ g hg).imp (fun h => by simp only [List.mem_append]; simp [h]) id), (zi (by simp)), (zi (by simp)), trivial⟩ (ym 0 rfl (by kernel_rfl) zI (ym 1 rfl (by kernel_rfl) zI (yt (i := 2) (v := .pointer (some ⟨g, 0, none⟩)) (by kernel_rfl) zI rfl rfl rfl rfl (fun ρ w E H => Be E rfl rfl) (yf 3 8 AE rfl (by kernel_rfl) zI (yv 5 0 [.int .u64 (p18.1 : Int), .string ⟨p21.1.toArray⟩] Tryz.underlying94 Bg rfl (by kernel_rfl) zI ?_)))))))))
   refine Ed [4, 6] (by kernel_rfl) (by simp) ⟨?_, ?_, trivial⟩
   ·refine DZ rfl trivial rfl rfl (fun ρ w E H => Dl E (H.get (i := 3) rfl) rfl rfl Tryz.underlying26 rfl rfl) (yr 6 (by kernel_rfl) ?_)
    refine Dc (cs := [.int .u64 (p18.1 : Int), .string ⟨p21.1.toArray⟩]) rfl trivial rfl rfl (fun ρ w E H => AV E rfl rfl Tryz.underlying26 Bg Et rfl rfl (by kernel_rfl)) (fun g2 w hg2 H => H.ks (I.ownBlock.toList ++ [gr, g]) [1, 3] rfl ⟨(zh hg2), (zh hg1), (fun g hg => (hv1.in_ g hg).imp (fun h => by simp only [List.mem_append]; simp [h]) id), (zi (by simp)), (zi (by simp)), trivial⟩) fun g2 hg2 => ?_
    refine yr 7 (by kernel_rfl) ?_
    refine BZ (i := 2) (news := [.int .u64 (p18.1 : Int), .string ⟨p21.1.toArray⟩]) rfl trivial rfl rfl rfl Tryz.underlying26 Gf rfl rfl rfl rfl hv1 rfl (fun w H => CS H (i := 0) rfl rfl) (D4 rfl) (by unfold maxLen; omega) (by omega) hbase (fun A30 k30 w hv30 H => H.ks (I.ownBlock.toList ++ [gr, g]) [1, 3] rfl ⟨(zh hg2), (zh hg1), (fun g hg => (hv30.in_ g hg).imp (fun h => by simp only [List.mem_append]; simp [h]) id), (zi (by simp)), (zi (by simp)), trivial⟩) fun A30 k30 hv30 => ?_
    refine yt (i := 8) (v := .pointer (some ⟨g, 0, none⟩)) (by kernel_rfl) zI rfl rfl rfl rfl (fun ρ w E H => Be E rfl rfl) (yf 9 8 AE rfl (by kernel_rfl) zI (yr 10 (by kernel_rfl) (GK (j := 4) rfl trivial rfl rfl rfl rfl rfl Jw rfl rfl rfl (fun w H => H.ks (I.ownBlock.toList ++ [gr, g]) [1, 3] rfl ⟨(zh hg2), (zh hg1), (fun g hg => (hv30.in_ g hg).imp (fun h => by simp only [List.mem_append]; simp [h]) id), (zi (by simp)), (zi (by simp)), trivial⟩) (BE (by kernel_rfl) (AA (Aa (Ac (zm rfl (Ag (v := .int .u64 ((n - 1 : Nat) : Int)) trivial rfl rfl (fun ρ w E H => LW E rfl rfl rfl (by rw [IntKind.wrap_u64]; omega)) ?_)))))))))
    refine za rfl (Ad (KP (fun W H => H.re (i := 2) rfl (BU I.ownBlock.toList base 94 2 (.slice A30 (w1.length + 1) k30) ((w1 ++ [(⟨p18.1, p21.1⟩ : Im)]).length) ((w1 ++ [(⟨p18.1, p21.1⟩ : Im)]).flatMap imL)) (BF _ _ _ _ _ _ _) rfl (fun h => DI h (by simp) (by simp [imL]))) ?_))
    refine B7 (gk - 1) (n - 1, p21.2, w1 ++ [(⟨p18.1, p21.1⟩ : Im)], .slice A30 (w1.length + 1) k30) (by omega) ⟨by omega, by rw [hrel, KU n r1 w1 hn0 he0]; simp only [hp18, hp21], hv30, by rw [List.length_append]; simp only [hp18, hp21] at hgr; exact hgr, by omega⟩ ⟨rfl, rfl, rfl, trivial⟩ [2, 3, 4] rfl (by decide) ⟨.inr (zq hg2), .inr (zq hg1), .inl rfl, .inl rfl, .inl rfl, trivial⟩
   ·refine Dc (cs := [.int .u64 (p18.1 : Int), .string ⟨p21.1.toArray⟩]) rfl trivial rfl rfl (fun ρ w E H => AV E rfl rfl Tryz.underlying26 Bg Et rfl rfl (by kernel_rfl)) (fun g3 w hg3 H => H.ks (I.ownBlock.toList ++ [gr, g]) [1, 3] rfl ⟨(zh hg3), (zh hg1), (fun g hg => (hv1.in_ g hg).imp (fun h => by simp only [List.mem_append]; simp [h]) id), (zi (by simp)), (zi (by simp)), trivial⟩) fun g3 hg3 => ?_
    refine yr 4 (by kernel_rfl) (DZ rfl trivial rfl rfl (fun ρ w E H => Dl E (H.get (i := 4) rfl) rfl rfl Tryz.underlying26 rfl rfl) (yr 7 (by kernel_rfl) ?_))
    refine BZ (i := 2) (news := [.int .u64 (p18.1 : Int), .string ⟨p21.1.toArray⟩]) rfl trivial rfl rfl rfl Tryz.underlying26 Gf rfl rfl rfl rfl hv1 rfl (fun w H => CS H (i := 0) rfl rfl) (D4 rfl) (by unfold maxLen; omega) (by omega) hbase (fun A30 k30 w hv30 H => H.ks (I.ownBlock.toList ++ [gr, g]) [1, 3] rfl ⟨(zh hg3), (zh hg1), (fun g hg => (hv30.in_ g hg).imp (fun h => by simp only [List.mem_append]; simp [h]) id), (zi (by simp)), (zi (by simp)), trivial⟩) fun A30 k30 hv30 => ?_
    refine yt (i := 8) (v := .pointer (some ⟨g, 0, none⟩)) (by kernel_rfl) zI rfl rfl rfl rfl (fun ρ w E H => Be E rfl rfl) (yf 9 8 AE rfl (by kernel_rfl) zI (yr 10 (by kernel_rfl) (GK (j := 4) rfl trivial rfl rfl rfl rfl rfl Jw rfl rfl rfl (fun w H => H.ks (I.ownBlock.toList ++ [gr, g]) [1, 3] rfl ⟨(zh hg3), (zh hg1), (fun g hg => (hv30.in_ g hg).imp (fun h => by simp only [List.mem_append]; simp [h]) id), (zi (by simp)), (zi (by simp)), trivial⟩) (BE (by kernel_rfl) (AA (Aa (Ac (zm rfl (Ag (v := .int .u64 ((n - 1 : Nat) : Int)) trivial rfl rfl (fun ρ w E H => LW E rfl rfl rfl (by rw [IntKind.wrap_u64]; omega)) ?_)))))))))
    refine za rfl (Ad (KP (fun W H => H.re (i := 2) rfl (BU I.ownBlock.toList base 94 2 (.slice A30 (w1.length + 1) k30) ((w1 ++ [(⟨p18.1, p21.1⟩ : Im)]).length) ((w1 ++ [(⟨p18.1, p21.1⟩ : Im)]).flatMap imL)) (BF _ _ _ _ _ _ _) rfl (fun h => DI h (by simp) (by simp [imL]))) ?_))
    refine B7 (gk - 1) (n - 1, p21.2, w1 ++ [(⟨p18.1, p21.1⟩ : Im)], .slice A30 (w1.length + 1) k30) (by omega) ⟨by omega, by rw [hrel, KU n r1 w1 hn0 he0]; simp only [hp18, hp21], hv30, by rw [List.length_append]; simp only [hp18, hp21] at hgr; exact hgr, by omega⟩ ⟨rfl, rfl, rfl, trivial⟩ [2, 3, 4] rfl (by decide) ⟨.inr (zq hg3), .inr (zq hg1), .inl rfl, .inl rfl, .inl rfl, trivial⟩
end Go.Proofs.YteiaiilfekojfaaGreat.Msg
end
section
set_option linter.unusedVariables false
set_option linter.unusedSimpArgs false
namespace Go.Proofs.YteiaiilfekojfaaGreat.Msg
open Go.RowKit Wire Sx DrawInv

def Pt.cap : Pt → Nat → List Value
 | .slot _, g => [.pointer (some ⟨g, 0, none⟩)]
 | _, _ => []
def Pt.caps : Pt → Nat → List Nat
 | .slot _, g => [g]
 | _, _ => []
def QF (w : World) : Pt → Nat → Prop
 | .slot l, g => Blk w g 22 #[.int .u64 (l : Int)]
 | _, _ => True
def ptL (p : Pt) (g : Nat) : List Value := [.func (.func p.putF) #[] #[], .func (.func p.takeF) #[] #[], .func (.func p.moveF) #[] #[], .func (.func p.mayF) #[] (p.cap g).toArray]
def Y7 (q : List (Pt × Nat)) : List Value := q.flatMap fun x => ptL x.1 x.2
def Gl (q : List (Pt × Nat)) : List Nat := q.flatMap fun x => x.1.caps x.2
def XH (w : World) (gb : Nat) (q : List (Pt × Nat)) : Prop := (q ≠ [] → Blk w gb 101 (Y7 q).toArray) ∧ ∀ x ∈ q, QF w x.1 x.2
def Eg (gb : Nat) (q : List (Pt × Nat)) : Ft := ⟨(if q = [] then [] else [gb]) ++ Gl q, fun w => XH w gb q⟩
theorem Ww {w w' : World} {p : Pt} {g : Nat} (h : ∀ b ∈ p.caps g, w'.heap[b]? = w.heap[b]?) (hc : QF w p g) : QF w' p g := by
 cases p with
 | slot l => exact (h g (List.mem_singleton.2 rfl)).trans hc
 | _ => trivial
theorem Ri (gb : Nat) (q : List (Pt × Nat)) : (Eg gb q).Loc := by
 intro w w' h hp
 refine ⟨fun hq => ?_, fun x hx => Ww (fun b hb => h b ?_) (hp.2 x hx)⟩
 ·refine (h gb ?_).trans (hp.1 hq)
  simp [Eg, hq]
 ·exact List.mem_append.2 (.inr (List.mem_flatMap.2 ⟨x, hx, hb⟩))
theorem LM {w : World} {gb : Nat} {q : List (Pt × Nat)} (h : (Eg gb q).φ w) {k : Nat} {p : Pt} {gc : Nat} (hk : q[k]? = some (p, gc)) : RowAt w ((⟨gb, 0, none⟩ : Addr).add (k * 4)) (ptL p gc) := by
 intro j v hj
 have hne : q ≠ [] := by rintro rfl; cases hk
 have hb := (h.1 hne).cell (k * 4 + j)
 rw [add_add, Gj, Nat.zero_add, hb]
 have hj4 : j < 4 := (List.getElem?_eq_some_iff.1 hj).1
 have := Ln (cells := fun x : Pt × Nat => ptL x.1 x.2) (sz := 4) (fun _ => rfl) q k j hj4
 rw [hk] at this
 simpa [Y7, this] using hj
theorem Uc {w : World} {gb : Nat} {q : List (Pt × Nat)} (h : (Eg gb q).φ w) {k : Nat} {p : Pt} {gc : Nat} (hk : q[k]? = some (p, gc)) : QF w p gc := h.2 _ (List.mem_of_getElem? hk)
set_option maxRecDepth 100000 in
theorem RH (p : Pt) : Enters Tryz.prog p.mayF := by
 cases p with
 | cmd => exact enters_of Tryz.func115 (by kernel_rfl) rfl
 | name => exact enters_of Tryz.func120 (by kernel_rfl) rfl
 | reply => exact enters_of Tryz.func126 (by kernel_rfl) rfl
 | node => exact enters_of Tryz.func130 (by kernel_rfl) rfl
 | turn => exact enters_of Tryz.func136 (by kernel_rfl) rfl
 | floor => exact enters_of Tryz.func146 (by kernel_rfl) rfl
 | slot _ => exact enters_of Tryz.func142 (by kernel_rfl) rfl
 | value => exact enters_of Tryz.func155 (by kernel_rfl) rfl
 | votes => exact enters_of Tryz.func151 (by kernel_rfl) rfl
 | items => exact enters_of Tryz.func160 (by kernel_rfl) rfl
set_option maxRecDepth 100000 in
theorem RG (p : Pt) : Enters Tryz.prog p.putF := by
 cases p with
 | cmd => exact enters_of Tryz.func110 (by kernel_rfl) rfl
 | name => exact enters_of Tryz.func117 (by kernel_rfl) rfl
 | reply => exact enters_of Tryz.func121 (by kernel_rfl) rfl
 | node => exact enters_of Tryz.func127 (by kernel_rfl) rfl
 | turn => exact enters_of Tryz.func131 (by kernel_rfl) rfl
 | floor => exact enters_of Tryz.func143 (by kernel_rfl) rfl
 | slot _ => exact enters_of Tryz.func138 (by kernel_rfl) rfl
 | value => exact enters_of Tryz.func152 (by kernel_rfl) rfl
 | votes => exact enters_of Tryz.func147 (by kernel_rfl) rfl
 | items => exact enters_of Tryz.func156 (by kernel_rfl) rfl
set_option maxRecDepth 100000 in
theorem Qq (p : Pt) : Enters Tryz.prog p.takeF := by
 cases p with
 | cmd => exact enters_of Tryz.func112 (by kernel_rfl) rfl
 | name => exact enters_of Tryz.func118 (by kernel_rfl) rfl
 | reply => exact enters_of Tryz.func123 (by kernel_rfl) rfl
 | node => exact enters_of Tryz.func128 (by kernel_rfl) rfl
 | turn => exact enters_of Tryz.func133 (by kernel_rfl) rfl
 | floor => exact enters_of Tryz.func144 (by kernel_rfl) rfl
 | slot _ => exact enters_of Tryz.func139 (by kernel_rfl) rfl
 | value => exact enters_of Tryz.func153 (by kernel_rfl) rfl
 | votes => exact enters_of Tryz.func148 (by kernel_rfl) rfl
 | items => exact enters_of Tryz.func157 (by kernel_rfl) rfl
set_option maxRecDepth 100000 in
theorem Qr (p : Pt) : Enters Tryz.prog p.moveF := by
 cases p with
 | cmd => exact enters_of Tryz.func114 (by kernel_rfl) rfl
 | name => exact enters_of Tryz.func119 (by kernel_rfl) rfl
 | reply => exact enters_of Tryz.func125 (by kernel_rfl) rfl
 | node => exact enters_of Tryz.func129 (by kernel_rfl) rfl
 | turn => exact enters_of Tryz.func135 (by kernel_rfl) rfl
 | floor => exact enters_of Tryz.func145 (by kernel_rfl) rfl
 | slot _ => exact enters_of Tryz.func141 (by kernel_rfl) rfl
 | value => exact enters_of Tryz.func154 (by kernel_rfl) rfl
 | votes => exact enters_of Tryz.func149 (by kernel_rfl) rfl
 | items => exact enters_of Tryz.func158 (by kernel_rfl) rfl
def msV (m : Ms) (A : Option Addr) (ka : Nat) (B : Option Addr) (kb : Nat) : Value := .agg (msL m (.slice A m.votes.length ka) (.slice B m.items.length kb)).toArray
structure MsRows (w : World) (m : Ms) (A B : Option Addr) : Prop where
 hv : Rows w A 4 voL m.votes
 hi : Rows w B 2 imL m.items
theorem MsRows.below {w w' : World} {m : Ms} {A B : Option Addr} (h : MsRows w m A B) (hb : Below w.heap.size w w') : MsRows w' m A B := ⟨h.hv.below hb, h.hi.below hb⟩
theorem Xh (p : Pt) (m : Ms) (hf : m.Fits) (hs : m.Small) (A B : Option Addr) (ka kb gc : Nat) (w : World) (hr : MsRows w m A B) (hc : QF w p gc) :
  Calls Tryz.prog p.mayF (msV m A ka B kb :: p.cap gc).toArray w fun e w' => e = .returned (.bool (p.may m)) ∧ Below w.heap.size w w' := by
 obtain ⟨hv, hi⟩ := hr
 have h2 := hs.h2
 have h3 := hs.h3
 obtain ⟨mk, mn, mr, mb, ms, mo, mv, vl, il, ⟨ca, cb, ck, cs, ct, cu, cz⟩, mc, mt⟩ := m
 dsimp only at h2 h3
 cases p with
 | cmd => exact Xg _ _ _ _ _ _ _ _ _ _ _ _ _ _ _ _ _ _ _ _ _ _ w hf.h9
 | name => exact VM _ _ _ _ _ _ _ _ _ _ _ _ _ _ _ _ _ _ _ _ _ _ w
 | reply => exact Uu _ _ _ _ _ _ _ _ _ _ _ _ _ _ _ _ _ _ _ _ _ _ w
 | node => exact VL _ _ _ _ _ _ _ _ _ _ _ _ _ _ _ _ _ _ _ _ _ _ w
 | turn => exact VJ _ _ _ _ _ _ _ _ _ _ _ _ _ _ _ _ _ _ _ _ _ _ w
 | floor => exact Uy _ _ _ _ _ _ _ _ _ _ _ _ _ _ _ _ _ _ _ _ _ _ w
 | slot l => exact VK _ _ _ _ _ _ _ _ _ _ _ _ _ _ _ _ _ _ _ _ _ _ _ _ w hc
 | value => exact Ut _ _ _ _ _ _ _ _ _ _ _ _ _ _ _ _ _ _ _ _ _ _ w
 | votes => exact Us _ _ _ _ _ _ _ _ _ _ _ _ _ _ _ _ _ _ _ _ _ _ w hv (Nat.le_trans h2 (by decide))
 | items => exact Ux _ _ _ _ _ _ _ _ _ _ _ _ _ _ _ _ _ _ _ _ _ _ w hi (Nat.le_trans h3 (by decide))
theorem WR (p : Pt) (m : Ms) (hf : m.Fits) (hs : m.Small) (A B : Option Addr) (ka kb : Nat) (base : Nat) (v : Value) (l : List UInt8) (w : World) (hr : MsRows w m A B) (hl : l.length ≤ 1000000) (hbase : base ≤ w.heap.size) (hown : w.ownsRow base 5 1 v l.length (bv l))
  (hA : m.votes ≠ [] → ∀ ad, A = some ad → ad.block < base) (hB : m.items ≠ [] → ∀ ad, B = some ad → ad.block < base) : Calls Tryz.prog p.putF #[v, msV m A ka B kb] w fun e w' => Il base v w (l ++ p.put m) e w' := by
 obtain ⟨hv, hi⟩ := hr
 obtain ⟨mk, mn, mr, mb, ms, mo, mv, vl, il, ⟨ca, cb, ck, cs, ct, cu, cz⟩, mc, mt⟩ := m
 cases p with
 | cmd => exact WQ _ _ _ _ _ _ _ _ _ _ _ _ _ _ _ _ _ _ _ _ _ _ _ _ _ w hf hs hl hbase hown
 | name => exact V0 _ _ _ _ _ _ _ _ _ _ _ _ _ _ _ _ _ _ _ _ _ _ _ _ _ w hf hs hl hbase hown
 | reply => exact TW _ _ _ _ _ _ _ _ _ _ _ _ _ _ _ _ _ _ _ _ _ _ _ _ _ w hf hs hl hbase hown
 | node => exact Vz _ _ _ _ _ _ _ _ _ _ _ _ _ _ _ _ _ _ _ _ _ _ _ _ _ w hf hs hl hbase hown
 | turn => exact Vw _ _ _ _ _ _ _ _ _ _ _ _ _ _ _ _ _ _ _ _ _ _ _ _ _ w hf hs hl hbase hown
 | floor => exact TZ _ _ _ _ _ _ _ _ _ _ _ _ _ _ _ _ _ _ _ _ _ _ _ _ _ w hf hs hl hbase hown
 | slot x => exact Vy _ _ _ _ _ _ _ _ _ _ _ _ _ _ _ _ _ _ _ _ _ x _ _ _ _ w hf hs hl hbase hown
 | value => exact TV _ _ _ _ _ _ _ _ _ _ _ _ _ _ _ _ _ _ _ _ _ _ _ _ _ w hf hs hl hbase hown
 | votes => exact TU _ _ _ _ _ _ _ _ _ _ _ _ _ _ _ _ _ _ _ _ _ _ _ _ _ w hf hs hl hbase hown hv hA
 | items => exact TX _ _ _ _ _ _ _ _ _ _ _ _ _ _ _ _ _ _ _ _ _ _ _ _ _ w hf hs hl hbase hown hi hB
def ML (base g : Nat) (a : Ms) (V I : Value) (w : World) : Prop := Blk w g 33 (msL a V I).toArray ∧ w.ownsRow base 92 4 V a.votes.length (a.votes.flatMap voL) ∧ w.ownsRow base 94 2 I a.items.length (a.items.flatMap imL)
theorem IE {w w' : World} {base e sz n : Nat} {v : Value} {xs : List Value} {G : List Nat} (h : w.ownsRow base e sz v n xs) (ho : Outs G w w') (hd : ∀ g ∈ v.ownBlock.toList, g ∉ G) : w'.ownsRow base e sz v n xs :=
 BF [] base e sz v n xs w w' (fun g hg => ho.block g (BS h g (by simpa [BU] using hg)).2 (hd g (by simpa [BU] using hg))) h
theorem Hm {w : World} {base e sz n g t : Nat} {v : Value} {xs : List Value} {cs : Array Value} (h : w.ownsRow base e sz v n xs) (hb : Blk w g t cs) (hne : e ≠ t) : g ∉ v.ownBlock.toList := by
 intro hg
 rcases h.2 with ⟨rfl, _⟩ | ⟨g', cap, cur, rfl, _, hh, _⟩
 ·cases hg
 ·have : g = g' := by simpa [Value.ownBlock] using hg
  subst this
  have hb : w.heap[g]? = some (.cells cs t (0, 0)) := hb
  rw [hh] at hb
  injection hb with hb
  injection hb with h1 h2
  exact hne h2
theorem JS {w : World} {b1 b2 e1 e2 s1 s2 n1 n2 : Nat} {v1 v2 : Value} {x1 x2 : List Value} (h1 : w.ownsRow b1 e1 s1 v1 n1 x1) (h2 : w.ownsRow b2 e2 s2 v2 n2 x2) (hne : e1 ≠ e2) : ∀ g ∈ v1.ownBlock.toList, g ∉ v2.ownBlock.toList := by
 intro g hg
 rcases h1.2 with ⟨rfl, _⟩ | ⟨g', cap, cur, rfl, _, hh, _⟩
 ·cases hg
 ·have : g = g' := by simpa [Value.ownBlock] using hg
  subst this
  exact Hm h2 hh (fun e => hne e.symm)
theorem VF (p : Pt) (m : Ms) (hs : m.Small) (A B : Option Addr) (ka kb : Nat) (base g : Nat) (a : Ms) (V I : Value) (w : World) (hr : MsRows w m A B) (hM : ML base g a V I w) (hb : base ≤ w.heap.size) (hA : m.votes ≠ [] → ∀ ad, A = some ad → ad.block ≠ g) (hB : m.items ≠ [] → ∀ ad, B = some ad → ad.block ≠ g) :
  Calls Tryz.prog p.moveF #[.pointer (some ⟨g, 0, none⟩), msV m A ka B kb] w fun e w' => ∃ V' I', e = .returned (.tuple #[]) ∧ ML base g (p.move a m) V' I' w' ∧ (OwnIn w V.ownBlock.toList V' ∧ OwnIn w I.ownBlock.toList I') ∧ Outs [g] w w' := by
 obtain ⟨hv, hi⟩ := hr
 obtain ⟨hg, hV, hI⟩ := hM
 have d1 := Hm hV hg (by decide)
 have d2 := Hm hI hg (by decide)
 have h2 := hs.h2
 have h3 := hs.h3
 obtain ⟨mk, mn, mr, mb, ms, mo, mv, vl, il, ⟨ca, cb, ck, cs, ct, cu, cz⟩, mc, mt⟩ := m
 obtain ⟨xk, xn, xr, xb, xs, xo, xv, wl, jl, ⟨da, db, dk, ds, dt, du, dz⟩, xc, xt⟩ := a
 dsimp only at h2 h3
 have hkV : ∀ w', Outs [g] w w' → w'.ownsRow base 92 4 V wl.length (wl.flatMap voL) := fun w' ho => IE hV ho fun b hb hm => d1 (by rw [List.mem_singleton.1 hm] at hb; exact hb)
 have hkI : ∀ w', Outs [g] w w' → w'.ownsRow base 94 2 I jl.length (jl.flatMap imL) := fun w' ho => IE hI ho fun b hb hm => d2 (by rw [List.mem_singleton.1 hm] at hb; exact hb)
 have same : ∀ {e : Ending} {w' : World} {a' : Ms}, a'.votes = wl → a'.items = jl → e = .returned (.tuple #[]) ∧ Blk w' g 33 (msL a' V I).toArray ∧ Outs [g] w w' → ∃ V' I', e = .returned (.tuple #[]) ∧ ML base g a' V' I' w' ∧ (OwnIn w V.ownBlock.toList V' ∧ OwnIn w I.ownBlock.toList I') ∧ Outs [g] w w' := by
  intro e w' a' e1 e2 ⟨r1, r2, r3⟩
  exact ⟨V, I, r1, ⟨r2, by rw [e1]; exact hkV w' r3, by rw [e2]; exact hkI w' r3⟩, ⟨OwnIn.refl w V, OwnIn.refl w I⟩, r3⟩
 cases p with
 | cmd => exact (VE _ _ _ _ _ _ _ _ _ _ _ _ _ _ _ _ _ _ _ _ _ _ _ _ _ _ _ _ _ _ _ _ _ _ _ _ _ _ _ _ _ _ _ w hg).mono fun _ _ h => same rfl rfl h
 | name => exact (Up _ _ _ _ _ _ _ _ _ _ _ _ _ _ _ _ _ _ _ _ _ _ _ _ _ _ _ _ _ _ _ _ _ _ _ _ _ _ _ _ _ _ _ w hg).mono fun _ _ h => same rfl rfl h
 | reply => exact (Rr _ _ _ _ _ _ _ _ _ _ _ _ _ _ _ _ _ _ _ _ _ _ _ _ _ _ _ _ _ _ _ _ _ _ _ _ _ _ _ _ _ _ _ w hg).mono fun _ _ h => same rfl rfl h
 | node => exact (Uo _ _ _ _ _ _ _ _ _ _ _ _ _ _ _ _ _ _ _ _ _ _ _ _ _ _ _ _ _ _ _ _ _ _ _ _ _ _ _ _ _ _ _ w hg).mono fun _ _ h => same rfl rfl h
 | turn => exact (Um _ _ _ _ _ _ _ _ _ _ _ _ _ _ _ _ _ _ _ _ _ _ _ _ _ _ _ _ _ _ _ _ _ _ _ _ _ _ _ _ _ _ _ w hg).mono fun _ _ h => same rfl rfl h
 | floor => exact (Rw _ _ _ _ _ _ _ _ _ _ _ _ _ _ _ _ _ _ _ _ _ _ _ _ _ _ _ _ _ _ _ _ _ _ _ _ _ _ _ _ _ _ _ w hg).mono fun _ _ h => same rfl rfl h
 | slot l => exact (Un _ _ _ _ _ _ _ _ _ _ _ _ _ _ _ _ _ _ _ _ _ _ _ _ _ _ _ _ _ _ _ _ _ _ _ _ _ _ _ l _ _ _ _ w hg).mono fun _ _ h => same rfl rfl h
 | value => exact (Rq _ _ _ _ _ _ _ _ _ _ _ _ _ _ _ _ _ _ _ _ _ _ _ _ _ _ _ _ _ _ _ _ _ _ _ _ _ _ _ _ _ _ _ w hg).mono fun _ _ h => same rfl rfl h
 | votes =>
  refine (Ro _ _ _ _ _ _ _ _ _ _ _ _ _ _ _ _ _ _ _ _ _ _ _ _ _ _ _ _ _ _ _ _ _ _ _ _ _ _ _ _ _ _ _ w hg hv hA (Nat.le_trans h2 (by decide))).mono fun e w' h => ?_
  obtain ⟨V', r1, r2, r3, r4⟩ := h
  exact ⟨V', I, r1, ⟨r2, CY r3 hb, hkI w' r4⟩, ⟨fun b hb => .inr (BS r3 b hb).1, OwnIn.refl w I⟩, r4⟩
 | items =>
  refine (Ru _ _ _ _ _ _ _ _ _ _ _ _ _ _ _ _ _ _ _ _ _ _ _ _ _ _ _ _ _ _ _ _ _ _ _ _ _ _ _ _ _ _ _ w hg hi hB (Nat.le_trans h3 (by decide))).mono fun e w' h => ?_
  obtain ⟨I', r1, r2, r3, r4⟩ := h
  exact ⟨V, I', r1, ⟨r2, hkV w' r4, CY r3 hb⟩, ⟨OwnIn.refl w V, fun b hb => .inr (BS r3 b hb).1⟩, r4⟩
end Go.Proofs.YteiaiilfekojfaaGreat.Msg
end
section
set_option linter.unusedVariables false
set_option linter.unusedSimpArgs false
namespace Go.Proofs.YteiaiilfekojfaaGreat.Net
open Go.RowKit Sx DrawInv Wire

structure Pa where
 src : Nat
 dst : Nat
 bytes : List UInt8
 deriving DecidableEq
def paL (p : Pa) : List Value := [.int .u8 (p.src : Int), .int .u8 (p.dst : Int), .string ⟨p.bytes.toArray⟩]
theorem OW (p : Pa) : (paL p).length = 3 := rfl
theorem WU (p : Pa) : ∀ u ∈ paL p, u.oneCell' = true := by
 intro u hu
 simp only [paL, List.mem_cons, List.not_mem_nil, or_false] at hu
 rcases hu with rfl | rfl | rfl <;> rfl
def I6 (p : Nat × Nat) : Value := .agg #[.int .u8 (p.1 : Int), .int .u8 (p.2 : Int)]
def FZ (a : Nat) : Bool := decide (a < 7) || (decide (16 ≤ a) && decide (a < 20))
def BJ (a b : Nat) : Bool := FZ a && (FZ b && decide (a ≠ b))
def Ii (a b : Nat) : Nat × Nat := (min a b, max a b)
abbrev Df := List ((Nat × Nat) × Value)
def Qu (M : Df) (a b : Nat) : Bool := (DK M (Ii a b) 0).isSome
def NU (M : Df) : Prop := ∀ p ∈ M, p.2 = .bool true
theorem OC : ∀ (M : Df) (x : Nat × Nat) (k : Nat), NU M → (((DK M x k).map (·.2)).getD (.bool false)) = .bool (DK M x k).isSome
 | [], _, _, _ => rfl
 | p :: M, x, k, h => by
  unfold DK
  by_cases e : x = p.1
  ·rw [if_pos e]
   have := h p (List.mem_cons_self ..)
   simp [this]
  ·rw [if_neg e]
   exact OC M x (k + 1) fun q hq => h q (List.mem_cons_of_mem _ hq)
theorem JG : ∀ (M : Df) (x : Nat × Nat), NU M → NU (GX M x (.bool true))
 | [], x, _ => fun p hp => by rw [List.mem_singleton.1 hp]
 | q :: M, x, h => by
  unfold GX
  by_cases e : x = q.1
  ·rw [if_pos e]
   intro p hp
   rcases List.mem_cons.1 hp with rfl | hp
   ·rfl
   ·exact h p (List.mem_cons_of_mem _ hp)
  ·rw [if_neg e]
   intro p hp
   rcases List.mem_cons.1 hp with rfl | hp
   ·exact h p (List.mem_cons_self ..)
   ·exact JG M x (fun r hr => h r (List.mem_cons_of_mem _ hr)) p hp
def E7 (base g gm : Nat) (V : Value) (bag : List Pa) (M : Df) : Ft :=
 ⟨g :: gm :: V.ownBlock.toList, fun w => Blk w g 130 #[V, .map (some gm)] ∧ w.ownsRow base 134 3 V bag.length (bag.flatMap paL) ∧ MapE w gm I6 M⟩
theorem GP (base g gm : Nat) (V : Value) (bag : List Pa) (M : Df) : (E7 base g gm V bag M).Loc := by
 intro w w' h ⟨h1, h2, h3⟩
 refine ⟨(h g (by simp [E7])).trans h1, ?_, Ia gm I6 M w w' (fun b hb => h b (by rw [List.mem_singleton.1 hb]; simp [E7])) h3⟩
 exact BF [] base _ 3 V bag.length (bag.flatMap paL) w w' (fun b hb => h b (by
  have hb : b ∈ V.ownBlock.toList := by simpa [BU] using hb
  show b ∈ g :: gm :: V.ownBlock.toList
  exact List.mem_cons_of_mem _ (List.mem_cons_of_mem _ hb))) h2
theorem Ny {base g gm : Nat} {V : Value} {bag : List Pa} {M : Df} {w : World} (h : (E7 base g gm V bag M).φ w) : g ≠ gm ∧ g ∉ V.ownBlock.toList ∧ gm ∉ V.ownBlock.toList := by
 obtain ⟨h1, h2, es, c, h3, h4⟩ := h
 have h1 : w.heap[g]? = some (.cells #[V, .map (some gm)] 130 (0, 0)) := h1
 refine ⟨fun e => ?_, fun hm => ?_, fun hm => ?_⟩
 ·rw [← e, h1] at h3; cases h3
 ·rcases h2.2 with ⟨rfl, _⟩ | ⟨b, cap, cur, rfl, _, hb, _⟩
  ·simp [Value.ownBlock] at hm
  ·have e : g = b := by simpa [Value.ownBlock] using hm
   rw [← e, h1] at hb
   injection hb with hb
   injection hb with _ hb _
   exact absurd hb (by decide)
 ·rcases h2.2 with ⟨rfl, _⟩ | ⟨b, cap, cur, rfl, _, hb, _⟩
  ·simp [Value.ownBlock] at hm
  ·have e : gm = b := by simpa [Value.ownBlock] using hm
   rw [← e, h3] at hb
   cases hb
theorem Le {base g gm : Nat} {V : Value} {bag : List Pa} {M : Df} {w : World} (h : (E7 base g gm V bag M).φ w) : Hp w [cell g 130 [V, .map (some gm)], BU V.ownBlock.toList base 134 3 V bag.length (bag.flatMap paL), NT gm I6 M] w := by
 obtain ⟨a1, a2, a3⟩ := Ny h
 obtain ⟨h1, h2, h3⟩ := h
 have H0 := (Hp.start w).know (NT gm I6 M) (Ia _ _ _) (fun b hb => ⟨by rw [List.mem_singleton.1 hb]; exact h3.lt, fun q hq => by cases hq⟩) h3
 have H1 := H0.know (BU V.ownBlock.toList base 134 3 V bag.length (bag.flatMap paL)) (BF _ _ _ _ _ _ _) (fun b hb => by
  have hb : b ∈ V.ownBlock.toList := by simpa [BU] using hb
  refine ⟨(BS h2 b hb).2, fun q hq hbq => ?_⟩
  obtain rfl := List.mem_singleton.1 hq
  obtain rfl := List.mem_singleton.1 hbq
  exact a3 hb) h2
 refine H1.know _ (BR _ _ _) (fun b hb => ?_) h1
 obtain rfl := List.mem_singleton.1 hb
 refine ⟨Blk.lt h1, fun q hq hbq => ?_⟩
 rcases List.mem_cons.1 hq with rfl | hq
 ·exact a2 (by simpa [BU] using hbq)
 ·obtain rfl := List.mem_singleton.1 hq
  exact a1 (List.mem_singleton.1 hbq)
def K8 (base g gm : Nat) (V : Value) (bag : List Pa) (M : Df) (w w' : World) : Prop := ∃ V', (E7 base g gm V' bag M).φ w' ∧ OwnIn w V.ownBlock.toList V' ∧ Outs (g :: gm :: V.ownBlock.toList) w w'
theorem EE {P : Program} {f : Nat} {args : Array Value} {v V : Value} {i base g gm : Nat} {bag bag' : List Pa} {M M' : Df} {w0 : World} {L : List Ft} (hL : nth L i = some (E7 base g gm V bag M)) (hV : OwnIn w0 [] V)
  (hc : ∀ w, Hp w0 L w → Calls P f args w fun E w' => E = .returned v ∧ K8 base g gm V bag' M' w w') :
  ∀ w, Hp w0 L w → Calls P f args w fun E w' => ∃ s : Value, E = .returned v ∧ OwnIn w0 [] s ∧ Hp w0 (putF L i (E7 base g gm s bag' M')) w' := fun w H => (hc w H).mono fun E w' ⟨he, V', hn, hin, hos⟩ => by
 have hsz : ∀ b ∈ V'.ownBlock.toList, w0.heap.size ≤ b := fun b hb => (hin b hb).elim (fun h => (hV b h).elim (fun h => by cases h) id) (fun h => Nat.le_trans H.os.size h)
 refine ⟨V', he, fun b hb => .inr (hsz b hb), H.chg hL _ hos (GP _ _ _ _ _ _) (fun b hb => ?_) (fun b hb => ?_) hn⟩
 ·rcases List.mem_cons.1 hb with rfl | hb
  ·exact ⟨Blk.lt hn.1, .inl (List.mem_cons_self ..)⟩
  rcases List.mem_cons.1 hb with rfl | hb
  ·exact ⟨hn.2.2.lt, .inl (List.mem_cons_of_mem _ (List.mem_cons_self ..))⟩
  ·exact ⟨(BS hn.2.1 b hb).2, (hin b hb).imp (fun h => List.mem_cons_of_mem _ (List.mem_cons_of_mem _ h)) id⟩
 ·rcases List.mem_cons.1 hb with rfl | hb
  ·exact .inl (List.mem_cons_self ..)
  rcases List.mem_cons.1 hb with rfl | hb
  ·exact .inl (List.mem_cons_of_mem _ (List.mem_cons_self ..))
  ·exact .inr ((hV b hb).elim (fun h => by cases h) id)
theorem Wg (k : Nat) (a b c d : Nat) (w : World) : (Op.equalIn (k + 2) 57 (I6 (a, b)) (I6 (c, d))).run Tryz.prog w = .ok (((a : Int) == (c : Int)) && (((b : Int) == (d : Int)) && true)) w := by
 have e1 := run_equalIn_int (P := Tryz.prog) w k 5 .u8 .u8 (a : Int) (c : Int) Tryz.underlying5
 have e2 := run_equalIn_int (P := Tryz.prog) w k 5 .u8 .u8 (b : Int) (d : Int) Tryz.underlying5
 obtain ⟨h1, h2⟩ := Hz Tryz.underlying57
 unfold I6
 rw [run_equalIn_agg w (k + 1) _ _ _ h1 (by kernel_rfl), h2]
 exact Cj (by decide) (by kernel_rfl) (by kernel_rfl) e1 (Cj (by decide) (by kernel_rfl) (by kernel_rfl) e2 (FW _ _ _ _ _))
theorem Ta (x y : Nat × Nat) (w : World) : (Op.equal 57 (I6 x) (I6 y)).run Tryz.prog w = .ok (decide (x = y)) w := by
 obtain ⟨a, b⟩ := x
 obtain ⟨c, d⟩ := y
 have h4 : (((a : Int) == (c : Int)) && (((b : Int) == (d : Int)) && true)) = decide ((a, b) = (c, d)) := by
  rw [Bool.and_true]
  apply Bool.eq_iff_iff.2
  simp [Prod.mk.injEq]
  omega
 rw [← h4]
 exact Wg 9998 a b c d w
end Go.Proofs.YteiaiilfekojfaaGreat.Net
end
section
set_option linter.unusedVariables false
set_option linter.unusedSimpArgs false
namespace Go.Proofs.YteiaiilfekojfaaGreat.Net
open Go.RowKit Sx DrawInv Wire

theorem Wv (b : Bool) (k : Nat) (v : Value) (w : World) : (Instr.checkKey b (k + 1) 5 v).run Tryz.prog w = .ok () w := by
 unfold Instr.checkKey
 simp only [Sem.run_bind, run_underlying Tryz.underlying5, Result.andThen_ok]
 cases v <;> rfl
theorem UJ (x : Nat × Nat) (b : Bool) (w : World) : (Instr.checkKey b 10000 136 (I6 x)).run Tryz.prog w = .ok () w := by
 obtain ⟨i, hi⟩ := info_of_underlying Tryz.underlying5
 have hc : Tryz.prog.cellsOf 5 = 1 := by kernel_rfl
 have p0 : (part 5 #[.int .u8 (x.1 : Int), .int .u8 (x.2 : Int)] (0 * 1)).run Tryz.prog w = .ok (.int .u8 (x.1 : Int)) w := by kernel_rfl
 have p1 : (part 5 #[.int .u8 (x.1 : Int), .int .u8 (x.2 : Int)] (1 * 1)).run Tryz.prog w = .ok (.int .u8 (x.2 : Int)) w := by kernel_rfl
 rw [show (10000 : Nat) = 9998 + 1 + 1 from rfl]
 unfold Instr.checkKey
 simp only [I6, Sem.run_bind, run_underlying Tryz.underlying136, Result.andThen_ok]
 simp only [Std.Legacy.Range.forIn_eq_forIn_range', Std.Legacy.Range.size, Nat.sub_zero, Nat.add_one_sub_one, Nat.div_one]
 rw [show List.range' 0 (2 - 0 + 1 - 1) 1 = [0, 1] from rfl]
 simp only [List.forIn_cons, List.forIn_nil, Sem.run_bind, run_sizeOf w hi, hc, p0, p1, Wv, Result.andThen_ok, Sem.run_pure]
theorem Yq (x y : Nat × Nat) (w : World) : (Op.equal 136 (I6 x) (I6 y)).run Tryz.prog w = .ok (decide (x = y)) w := by
 obtain ⟨a, b⟩ := x
 obtain ⟨c, d⟩ := y
 have h4 : (((a : Int) == (c : Int)) && (((b : Int) == (d : Int)) && true)) = decide ((a, b) = (c, d)) := by
  rw [Bool.and_true]
  apply Bool.eq_iff_iff.2
  simp [Prod.mk.injEq]
  omega
 rw [← h4]
 have hc : Tryz.prog.cellsOf 5 = 1 := by kernel_rfl
 obtain ⟨i, hi⟩ := info_of_underlying Tryz.underlying5
 have e := run_equalIn_array (P := Tryz.prog) w 9999 #[.int .u8 (a : Int), .int .u8 (b : Int)] #[.int .u8 (c : Int), .int .u8 (d : Int)] Tryz.underlying136 hi
 rw [hc] at e
 refine Eq.trans e ?_
 exact Ls (by kernel_rfl) (by kernel_rfl) (run_equalIn_int (P := Tryz.prog) w 9998 5 .u8 .u8 (a : Int) (c : Int) Tryz.underlying5) (Ls (by kernel_rfl) (by kernel_rfl) (run_equalIn_int (P := Tryz.prog) w 9998 5 .u8 .u8 (b : Int) (d : Int) Tryz.underlying5) (Qp _ _ _ _ _ _ _))
theorem Vl (x : Nat × Nat) : Instr.sameBits 10000 (I6 x) (I6 x) = true := by
 obtain ⟨a, b⟩ := x
 rw [show (10000 : Nat) = 9998 + 1 + 1 from rfl]
 simp [I6, Instr.sameBits]
theorem SL : KeyT Tryz.prog 136 I6 := ⟨⟨_, Tryz.underlying136, fun _ _ => rfl⟩, fun x b w => UJ x b w, fun x y w => Yq x y w, Vl⟩
theorem Is {P : Program} {ρ : Operand → Value} {o : Oper} {w : World} {vs : Vs} {T U e : TypeId} {x y : Operand} {a : Option Addr} (E : Env vs ρ) (ho : o.op = .binOp .eql T x y U) (hT : P.underlying T = some (.pointer e)) (hx : opv vs x = some (.pointer a)) (hy : opv vs y = some (.pointer none)) {t : Bool} (ht : a.isNone = t) : (execOp ρ o).run P w = .ok (.value (.bool t)) w := by
 subst ht
 unfold execOp; rw [ho]
 simp only [E.ev hx, E.ev hy]
 have h : (Op.equal T (.pointer a) (.pointer none)).run P w = .ok a.isNone w := by
  unfold Op.equal
  rw [show Op.maxDepth = 9999 + 1 from rfl]
  unfold Op.equalIn
  cases a <;> simp [run_underlying hT]
 simp only [eqGuard, Sem.run_bind, Sem.run_pure, Result.andThen_ok, ite_self, binOp, h]
theorem Yk {P : Program} {ρ : Operand → Value} {o : Oper} {w : World} {vs : Vs} {T U e : TypeId} {x y : Operand} {a : Option Addr} (E : Env vs ρ) (ho : o.op = .binOp .neq T x y U) (hT : P.underlying T = some (.pointer e)) (hx : opv vs x = some (.pointer a)) (hy : opv vs y = some (.pointer none)) {t : Bool} (ht : a.isSome = t) : (execOp ρ o).run P w = .ok (.value (.bool t)) w := by
 subst ht
 unfold execOp; rw [ho]
 simp only [E.ev hx, E.ev hy]
 have h : (Op.equal T (.pointer a) (.pointer none)).run P w = .ok a.isNone w := by
  unfold Op.equal
  rw [show Op.maxDepth = 9999 + 1 from rfl]
  unfold Op.equalIn
  cases a <;> simp [run_underlying hT]
 simp only [eqGuard, Sem.run_bind, Sem.run_pure, Result.andThen_ok, ite_self, binOp, h]
 cases a <;> rfl
theorem Yl {P : Program} {ρ : Operand → Value} {o : Oper} {w : World} {vs : Vs} {ts : Array TypeId} {x y : Operand} {k : IntKind} {a b : Int} {z : Int} (E : Env vs ρ) (ho : o.op = .call { callee := .builtin .min, args := #[x, y], argTypes := ts }) (hx : opv vs x = some (.int k a)) (hy : opv vs y = some (.int k b)) (hz : (if b < a then b else a) = z) : (execOp ρ o).run P w = .ok (.value (.int k z)) w := by
 subst hz
 unfold execOp; rw [ho]
 simp [E.ev hx, E.ev hy, resolve, invoke, builtin, run_min_int2]
theorem Ym {P : Program} {ρ : Operand → Value} {o : Oper} {w : World} {vs : Vs} {ts : Array TypeId} {x y : Operand} {k : IntKind} {a b : Int} {z : Int} (E : Env vs ρ) (ho : o.op = .call { callee := .builtin .max, args := #[x, y], argTypes := ts }) (hx : opv vs x = some (.int k a)) (hy : opv vs y = some (.int k b)) (hz : (if a < b then b else a) = z) : (execOp ρ o).run P w = .ok (.value (.int k z)) w := by
 subst hz
 unfold execOp; rw [ho]
 simp [E.ev hx, E.ev hy, resolve, invoke, builtin, run_max_int2]
theorem Wj {P : Program} {ops : Array Oper} {Q : Exit → Act → World → Prop} {n : Nat} {vs : Vs} {w0 : World} {L : List Ft} {o : Oper} {rest : List Oper} (v : Value) (L' : List Ft) (hon : GOn ops vs o.guard) (hd : o.dst = none)
  (hr : ∀ ρ w, Env vs ρ → Hp w0 L w → ∃ (_ : Unit) (w' : World), (execOp ρ o).run P w = .ok (.value v) w' ∧ True ∧ Hp w0 L' w') (h : SxL P ops Q rest n vs w0 L') : SxL P ops Q (o :: rest) n vs w0 L := fun a w K H => by
 refine Hn (hon.on K.env) ?_
 unfold Oper.wp
 obtain ⟨_, w', hr, _, H'⟩ := hr a.eval w K.env H
 rw [hr]
 show wpList P ops Q rest (a.put o.dst _) _
 rw [hd]
 exact h _ _ K H'
theorem YA (a b : Nat) : (if (b : Int) < (a : Int) then (b : Int) else (a : Int)) = ((min a b : Nat) : Int) := by
 rw [Nat.min_def]
 split <;> split <;> omega
theorem YB (a b : Nat) : (if (a : Int) < (b : Int) then (b : Int) else (a : Int)) = ((max a b : Nat) : Int) := by
 rw [Nat.max_def]
 split <;> split <;> omega
theorem Rz {w0 w : World} {g : Nat} {enc : Nat × Nat → Value} {M : Df} (h : MapE w0 g enc M) (hb : Below w0.heap.size w0 w) : MapE w g enc M := Ia g enc M w0 w (fun b hm => hb.block b (by obtain rfl := List.mem_singleton.1 hm; exact h.lt)) h
end Go.Proofs.YteiaiilfekojfaaGreat.Net
end
section
set_option linter.unusedVariables false
set_option linter.unusedSimpArgs false
namespace Go.Proofs.YteiaiilfekojfaaGreat.Net
open Go.RowKit Sx Wire DrawInv
set_option maxRecDepth 100000 in
set_option maxHeartbeats 4000000 in
theorem Q7 (x : Nat)  (w : World) : Calls Tryz.prog 104 #[.int .u8 (x : Int)] w fun e w' => e = .returned (.bool (FZ x)) ∧ Below w.heap.size w w' := by
 refine A0 (n := 13) _ Tryz.func104 rfl rfl rfl (Hp.start w) (Ae (Ac (za rfl (Ad (Aa (Ae (Ac (zm rfl ?_))))))))
 refine zb rfl fun c4 hc4 => ?_
 refine zm rfl ?_
 cases c4
 ·refine zm rfl ?_
  refine zb rfl fun c7 hc7 => ?_
  refine zm rfl ?_
  cases c7
  ·refine zo rfl (zo rfl (zp rfl (zp rfl (za rfl (Ad (Aa (Am ?_)))))))
   refine Ai (.bool false) (fun a w K H => BC K rfl rfl) (fun w H => ?_)
   have hq : false = FZ x := by clear H; first | rfl | grind [AB, FZ]
   exact ⟨by rw [hq], H.toBelow trivial⟩
  ·refine zm rfl ?_
   refine zb rfl fun c10 hc10 => ?_
   refine zp rfl (zp rfl (za rfl (Ad (Aa (Am ?_)))))
   refine Ai (.bool c10) (fun a w K H => BC K rfl rfl) (fun w H => ?_)
   have hq : c10 = FZ x := by clear H; first | rfl | grind [AB, FZ]
   exact ⟨by rw [hq], H.toBelow trivial⟩
 ·refine zo rfl (zo rfl (zo rfl (zo rfl (zo rfl (zo rfl (zp rfl (za rfl (Ad (Aa ?_)))))))))
  refine Am ?_
  refine Ai (.bool true) (fun a w K H => BC K rfl rfl) (fun w H => ?_)
  have hq : true = FZ x := by clear H; first | rfl | grind [AB, FZ]
  exact ⟨by rw [hq], H.toBelow trivial⟩

set_option maxRecDepth 100000 in
set_option maxHeartbeats 4000000 in
theorem IU (x y : Nat)  (w : World) : Calls Tryz.prog 64 #[.int .u8 (x : Int), .int .u8 (y : Int)] w fun e w' => e = .returned (.bool (BJ x y)) ∧ Below w.heap.size w w' := by
 refine A0 (n := 16) _ Tryz.func64 rfl rfl rfl (Hp.start w) (Ae (Ac (za rfl (Ad (Aa (Ae (Ac (zm rfl ?_))))))))
 refine CN (b := (FZ x)) trivial rfl rfl (zk Gv rfl) (fun w H => Q7 x w) fun c6 hc6 => ?_
 refine zm rfl ?_
 cases c6
 ·refine zo rfl (zo rfl (zp rfl (zm rfl (zo rfl (zo rfl (zo rfl (zp rfl (za rfl (Ad ?_)))))))))
  refine Aa (Am ?_)
  refine Ai (.bool false) (fun a w K H => BC K rfl rfl) (fun w H => ?_)
  have hq : false = BJ x y := by clear H; first | rfl | grind [AB, BJ]
  exact ⟨by rw [hq], H.toBelow trivial⟩
 ·refine zm rfl ?_
  refine CN (b := (FZ y)) (gK rfl) rfl rfl (zk Gv rfl) (fun w H => Q7 y w) fun c9 hc9 => ?_
  refine zp rfl (zm rfl ?_)
  cases c9
  ·refine zo rfl (zo rfl (zo rfl (zp rfl (za rfl (Ad (Aa (Am ?_)))))))
   refine Ai (.bool false) (fun a w K H => BC K rfl rfl) (fun w H => ?_)
   have hq : false = BJ x y := by clear H; first | rfl | grind [AB, BJ]
   exact ⟨by rw [hq], H.toBelow trivial⟩
  ·refine zm rfl (zm rfl ?_)
   refine zb rfl fun c14 hc14 => ?_
   refine zp rfl (za rfl (Ad (Aa (Am ?_))))
   refine Ai (.bool c14) (fun a w K H => BC K rfl rfl) (fun w H => ?_)
   have hq : c14 = BJ x y := by clear H; first | rfl | grind [AB, BJ]
   exact ⟨by rw [hq], H.toBelow trivial⟩

set_option maxRecDepth 100000 in
set_option maxHeartbeats 4000000 in
theorem Q5 (x y : Nat)  (w : World) : Calls Tryz.prog 67 #[.int .u8 (x : Int), .int .u8 (y : Int)] w fun e w' => e = .returned (.agg #[.int .u8 ((min x y : Nat) : Int), .int .u8 ((max x y : Nat) : Int)]) ∧ Below w.heap.size w w' := by
 refine A0 (n := 12) _ Tryz.func67 rfl rfl rfl (Hp.start w) (Ae (Ac ?_))
 refine zA QH rfl fun g1 hg1 => ?_
 refine Ad (Aa (Ae (Ac (zm rfl (zm rfl (Ag (v := .int .u8 ((min x y : Nat) : Int)) trivial rfl rfl (fun ρ w E H => Yl E rfl rfl rfl (YA _ _)) (zm rfl (zm rfl (Ag (v := .int .u8 ((max x y : Nat) : Int)) trivial rfl rfl (fun ρ w E H => Ym E rfl rfl rfl (YB _ _)) ?_)))))))))
 refine Ag trivial rfl rfl (fun ρ w E H => Bh (cs := [.int .u8 ((min x y : Nat) : Int), .int .u8 ((max x y : Nat) : Int)]) E rfl rfl (by kernel_rfl)) (zS 0 Nl rfl (Ad (Aa (Am ?_))))
 refine Ai _ (fun a w K H => Ja K [.agg #[.int .u8 ((min x y : Nat) : Int), .int .u8 ((max x y : Nat) : Int)]] rfl ⟨⟨_, rfl, AM (H.get (i := 0) rfl) Tryz.underlying136 rfl Nl⟩, trivial⟩) (fun w H => ?_)
 exact ⟨rfl, H.toBelow ⟨(zq hg1), trivial⟩⟩

set_option maxRecDepth 100000 in
set_option maxHeartbeats 4000000 in
theorem JW (base g gm : Nat) (V : Value) (bag : List Pa) (M : Df) (x y : Nat) (w : World) (hn : (E7 base g gm V bag M).φ w) (hT : NU M) : Calls Tryz.prog 39 #[.pointer (some ⟨g, 0, none⟩), .int .u8 (x : Int), .int .u8 (y : Int)] w fun e w' => e = .returned (.bool (Qu M x y)) ∧ Below w.heap.size w w' := by
 refine A0 (n := 19) _ Tryz.func39 rfl rfl rfl (Hp.start w) (Ae (Ac (za rfl (Ad (Aa (Ae (BN [] [] (by kernel_rfl) rfl trivial (ym 0 rfl (by kernel_rfl) zI (yt (i := 1) (v := .bool true) (by kernel_rfl) zI rfl rfl rfl rfl (fun ρ w E H => Yk E rfl Tryz.underlying48 rfl rfl rfl) ?_)))))))))
 refine ym 2 rfl (by kernel_rfl) zI (ym 3 rfl (by kernel_rfl) zI (yt (i := 4) (v := .pointer (some ⟨g, 0, none⟩)) (by kernel_rfl) zI rfl rfl rfl rfl (fun ρ w E H => Be E rfl rfl) (yf 5 1 FH rfl (by kernel_rfl) zI (yt (i := 6) (by kernel_rfl) zI rfl rfl rfl rfl (fun ρ w E H => Dl (cs := [V, .map (some gm)]) E (Blk.below hn.1 (H.os.below (Nat.le_refl _) (by simp)) (Blk.lt hn.1)) rfl rfl Tryz.underlying127 rfl rfl) (ym 7 rfl (by kernel_rfl) zI (ym 8 rfl (by kernel_rfl) zI (yr 9 (by kernel_rfl) (BO (v := .agg #[.int .u8 ((min x y : Nat) : Int), .int .u8 ((max x y : Nat) : Int)]) rfl (gK rfl) rfl rfl (zk Hf rfl) (fun w H => Q5 x y w) (fun w H => H.ks [] [] rfl trivial) ?_))))))))
 refine DW (i := 10) rfl (by kernel_rfl) (by kernel_rfl) (by kernel_rfl) rfl rfl (fun _ _ _ h => h) ⟨_, _, rfl, rfl, rfl⟩ (fun ρ w E H => U6 (k := Ii x y) (z := .bool false) E SL (Rz hn.2.2 (H.os.below (Nat.le_refl _) (by simp))) rfl Tryz.underlying127 WJ rfl rfl (OC M _ 0 hT)) fun c17 hc17 => ?_
 refine yp 11 rfl (by kernel_rfl) zI (yA 12 rfl (by kernel_rfl) zI (BE (by kernel_rfl) (Aa (Am ?_))))
 refine Ai (.bool c17) (fun a w K H => BC K rfl rfl) (fun w H => ?_)
 have hq : c17 = Qu M x y := by clear H; first | rfl | grind [AB, Qu]
 exact ⟨by rw [hq], H.toBelow trivial⟩

set_option maxRecDepth 100000 in
set_option maxHeartbeats 4000000 in
theorem OZ (base g gm : Nat) (V : Value) (bag : List Pa) (M : Df)  (w : World) (hn : (E7 base g gm V bag M).φ w) : Calls Tryz.prog 31 #[.pointer (some ⟨g, 0, none⟩)] w fun e w' => e = .returned (.int .i64 (bag.length : Int)) ∧ Below w.heap.size w w' := by
 obtain ⟨Ab, cb, rfl⟩ := Bf hn.2.1
 refine A0 (n := 10) _ Tryz.func31 rfl rfl rfl (Hp.start w) (Ae (Ac (za rfl (Ad (Aa (Ae (Ae (Ac (zm rfl ?_)))))))))
 refine Ag (v := .bool false) trivial rfl rfl (fun ρ w E H => Is E rfl Tryz.underlying48 rfl rfl rfl) (Ad (Aa (Ah rfl (Ax (Aa (Ae (Ac (zm rfl (Ag (v := .pointer (some ⟨g, 0, none⟩)) trivial rfl rfl (fun ρ w E H => Be E rfl rfl) ?_)))))))))
 refine zf 0 Bo rfl (Ag trivial rfl rfl (fun ρ w E H => Dl (cs := [.slice Ab bag.length cb, .map (some gm)]) E (Blk.below hn.1 (H.toBelow trivial) (Blk.lt hn.1)) rfl rfl Tryz.underlying128 rfl rfl) (zL Tryz.underlying128 rfl (za rfl (Ad (Aa (Am ?_))))))
 refine Ai (.int .i64 (bag.length : Int)) (fun a w K H => BC K rfl rfl) (fun w H => ?_)
 exact ⟨rfl, H.toBelow trivial⟩

set_option maxRecDepth 100000 in
set_option maxHeartbeats 4000000 in
theorem Pj (base g gm : Nat) (V : Value) (bag : List Pa) (M : Df) (x y : Nat) (w : World) (hn : (E7 base g gm V bag M).φ w) : Calls Tryz.prog 28 #[.pointer (some ⟨g, 0, none⟩), .int .u8 (x : Int), .int .u8 (y : Int)] w fun e w' => e = .returned (.int .i64 (if BJ x y = true then 0 else 2)) ∧ K8 base g gm V bag (if BJ x y = true then GX M (Ii x y) (.bool true) else M) w w' := by
 have hv0 : OwnIn w V.ownBlock.toList V := fun b hb => .inl hb
 refine A0 (n := 20) _ Tryz.func28 rfl rfl rfl (Le hn) (Ae (Ac (za rfl (Ad (Aa (Ae (Ae (Ac (zm rfl ?_)))))))))
 refine Ag (v := .bool false) trivial rfl rfl (fun ρ w E H => Is E rfl Tryz.underlying48 rfl rfl rfl) (Ad (Aa (Ah rfl (Ax (Aa (Ae (Ae (Ac (zm rfl ?_)))))))))
 refine zm rfl ?_
 refine CN (b := (BJ x y)) trivial rfl rfl (zk Ei rfl) (fun w H => IU x y w) fun c11 hc11 => ?_
 cases c11
 ·refine zn true rfl (Ad (Aa (Ap rfl (Ae (Ac (za rfl (Ad (Aa (Am ?_)))))))))
  refine Ak ?_
  refine Ai (.int .i64 2) (fun a w K H => BC K rfl rfl) (fun w H => ?_)
  rw [if_neg (by rw [hc11]; decide), if_neg (by rw [hc11]; decide)]
  exact ⟨rfl, ⟨_, ⟨H.get (i := 0) rfl, H.get (i := 1) rfl, H.get (i := 2) rfl⟩, hv0, H.toOuts _ ⟨(fun b hb => by rw [List.mem_singleton.1 hb]; exact .inl (by simp)), (fun b hb => (hv0.in_ b hb).imp (fun h => by simp [h]) id), (fun b hb => .inl (by rw [List.mem_singleton.1 hb]; simp)), trivial⟩⟩⟩
 ·refine zn false rfl (Ad (Aa (Ah rfl (Ax (Aa (Ae (BN (V.ownBlock.toList ++ [g, gm]) [0, 1] (by kernel_rfl) rfl ⟨(zi (by simp)), (fun g hg => (hv0.in_ g hg).imp (fun h => by simp only [List.mem_append]; simp [h]) id), (zi (by simp)), trivial⟩ (ym 0 rfl (by kernel_rfl) zI (yt (i := 1) (v := .pointer (some ⟨g, 0, none⟩)) (by kernel_rfl) zI rfl rfl rfl rfl (fun ρ w E H => Be E rfl rfl) ?_)))))))))
  refine yf 2 1 FH rfl (by kernel_rfl) zI (yl 3 0 Tryz.underlying127 rfl (by kernel_rfl) zI (ym 4 rfl (by kernel_rfl) zI (ym 5 rfl (by kernel_rfl) zI (yr 6 (by kernel_rfl) (BO (v := .agg #[.int .u8 ((min x y : Nat) : Int), .int .u8 ((max x y : Nat) : Int)]) rfl trivial rfl rfl (zk Hf rfl) (fun w H => Q5 x y w) (fun w H => H.ks (V.ownBlock.toList ++ [g, gm]) [0, 1] rfl ⟨(zi (by simp)), (fun g hg => (hv0.in_ g hg).imp (fun h => by simp only [List.mem_append]; simp [h]) id), (zi (by simp)), trivial⟩) (yr 7 (by kernel_rfl) (UT _ rfl trivial rfl (fun ρ w E H => Hp.putM (i := 2) (k := Ii x y) (v := .bool true) E H SL rfl rfl Tryz.underlying127 rfl rfl rfl) (fun w H => H.ks (V.ownBlock.toList ++ [g, gm]) [0, 1] rfl ⟨(zi (by simp)), (fun g hg => (hv0.in_ g hg).imp (fun h => by simp only [List.mem_append]; simp [h]) id), (zi (by simp)), trivial⟩) (BE (by kernel_rfl) (Aa ?_)))))))))
  refine Ae (Ac (za rfl (Ad (Aa (Am ?_)))))
  refine Ai (.int .i64 0) (fun a w K H => BC K rfl rfl) (fun w H => ?_)
  rw [if_pos hc11, if_pos hc11]
  exact ⟨rfl, ⟨_, ⟨H.get (i := 0) rfl, H.get (i := 1) rfl, H.get (i := 2) rfl⟩, hv0, H.toOuts _ ⟨(fun b hb => by rw [List.mem_singleton.1 hb]; exact .inl (by simp)), (fun b hb => (hv0.in_ b hb).imp (fun h => by simp [h]) id), (fun b hb => .inl (by rw [List.mem_singleton.1 hb]; simp)), trivial⟩⟩⟩

set_option maxRecDepth 100000 in
set_option maxHeartbeats 4000000 in
theorem Qe (base g gm : Nat) (V : Value) (bag : List Pa) (M : Df)  (w : World) (hn : (E7 base g gm V bag M).φ w) : Calls Tryz.prog 29 #[.pointer (some ⟨g, 0, none⟩)] w fun e w' => e = .returned (.int .i64 0) ∧ K8 base g gm V bag [] w w' := by
 have hv0 : OwnIn w V.ownBlock.toList V := fun b hb => .inl hb
 refine A0 (n := 9) _ Tryz.func29 rfl rfl rfl (Le hn) (Ae (Ac (za rfl (Ad (Aa (Ae (Ae (Ac (zm rfl ?_)))))))))
 refine Ag (v := .bool false) trivial rfl rfl (fun ρ w E H => Is E rfl Tryz.underlying48 rfl rfl rfl) (Ad (Aa (Ah rfl (Ax (Aa (Ae (Ac (zm rfl (Ag (v := .pointer (some ⟨g, 0, none⟩)) trivial rfl rfl (fun ρ w E H => Be E rfl rfl) ?_)))))))))
 refine zf 1 FH rfl (zl 0 Tryz.underlying127 rfl (Wj (.tuple #[]) _ trivial rfl (fun ρ w E H => Hp.clearM (i := 2) E H rfl rfl Tryz.underlying127 rfl) (Ad (Aa (Ae (Ac (za rfl (Ad (Aa ?_)))))))))
 refine Am ?_
 refine Ai (.int .i64 0) (fun a w K H => BC K rfl rfl) (fun w H => ?_)
 exact ⟨rfl, ⟨_, ⟨H.get (i := 0) rfl, H.get (i := 1) rfl, H.get (i := 2) rfl⟩, hv0, H.toOuts _ ⟨(fun b hb => by rw [List.mem_singleton.1 hb]; exact .inl (by simp)), (fun b hb => (hv0.in_ b hb).imp (fun h => by simp [h]) id), (fun b hb => .inl (by rw [List.mem_singleton.1 hb]; simp)), trivial⟩⟩⟩

end Go.Proofs.YteiaiilfekojfaaGreat.Net
end
section
set_option linter.unusedVariables false
set_option linter.unusedSimpArgs false
namespace Go.Proofs.YteiaiilfekojfaaGreat.Sx
open Go.RowKit DrawInv
theorem Ko {P : Program} {t e : TypeId} (h : P.underlying t = some (.slice e)) : P.underlying t = some (.slice (P.elem t)) ∧ P.elem t = e := by
 have e1 : P.elem t = e := by unfold Program.elem; rw [h]
 rw [e1]
 exact ⟨h, rfl⟩
theorem P9 (b i n : Nat) : sliced (some ⟨b, 0, none⟩) 0 i n 3 = .slice (some ⟨b, 0, none⟩) i n := by
 unfold sliced
 split
 ·simp
 ·simp [Addr.add_lit]
section
variable {P : Program} {ρ : Operand → Value} {o : Oper} {w : World} {vs : Vs} {t e : TypeId} {x y z u : Operand} {A : Option Addr} {n cap l h m : Nat} {v : Value} {i : TypeInfo}
theorem Wc (E : Env vs ρ) (ho : o.op = .slice t x (some y) (some z) (some u)) (ht : P.underlying t = some (.slice e)) (hi : (P.info? e).map (·.size) = some 3) (hx : opv vs x = some (.slice A n cap)) (hy : opv vs y = some (.int .i64 (l : Int))) (hz : opv vs z = some (.int .i64 (h : Int))) (hu : opv vs u = some (.int .i64 (m : Int))) (h1 : l ≤ h) (h2 : h ≤ m) (h3 : m ≤ cap) :
  (execOp ρ o).run P w = .ok (.value (sliced A l h m 3)) w := by
 obtain ⟨he, hee⟩ := Ko ht
 unfold execOp; rw [ho]
 have h := run_slice_lhm (P := P) w t A n cap he .i64 .i64 .i64 (l : Int) (h : Int) (m : Int) (by omega) (by omega) (by omega) (by omega)
 have hs : (sizeOf e).run P w = .ok 3 w := by
  cases hj : P.info? e with
  | none => rw [hj] at hi; cases hi
  | some i => rw [hj] at hi; injection hi with hi; simp [sizeOf, typeInfo, hj, hi]
 simp only [Int.toNat_natCast, hee, hs, Result.andThen_ok] at h
 simp only [E.ev hx, E.ev hy, E.ev hz, E.ev hu, Option.map_some, Option.map_none, Instr.sliceAt, Sem.run_bind, run_underlying ht, h, Result.andThen_ok, Sem.run_pure]
theorem Xs (E : Env vs ρ) (ho : o.op = .slice t x (some y) (some z) none) (ht : P.underlying t = some (.slice e)) (hi : (P.info? e).map (·.size) = some 3) (hx : opv vs x = some (.slice A n cap)) (hy : opv vs y = some (.int .i64 (l : Int))) (hz : opv vs z = some (.int .i64 (h : Int))) (h1 : l ≤ h) (h2 : h ≤ cap) (hv : sliced A l h cap 3 = v) :
  (execOp ρ o).run P w = .ok (.value v) w := by
 subst hv
 obtain ⟨he, hee⟩ := Ko ht
 unfold execOp; rw [ho]
 have h := run_slice_lh (P := P) w t A n cap he .i64 .i64 (l : Int) (h : Int) (by omega) (by omega) (by omega)
 have hs : (sizeOf e).run P w = .ok 3 w := by
  cases hj : P.info? e with
  | none => rw [hj] at hi; cases hi
  | some i => rw [hj] at hi; injection hi with hi; simp [sizeOf, typeInfo, hj, hi]
 simp only [Int.toNat_natCast, hee, hs, Result.andThen_ok] at h
 simp only [E.ev hx, E.ev hy, E.ev hz, Option.map_some, Option.map_none, Instr.sliceAt, Sem.run_bind, run_underlying ht, h, Result.andThen_ok, Sem.run_pure]
theorem Yj (E : Env vs ρ) (ho : o.op = .slice t x none (some z) none) (ht : P.underlying t = some (.slice e)) (hi : (P.info? e).map (·.size) = some 3) (hx : opv vs x = some (.slice A n cap)) (hz : opv vs z = some (.int .i64 (h : Int))) (h2 : h ≤ cap) (hv : sliced A 0 h cap 3 = v) :
  (execOp ρ o).run P w = .ok (.value v) w := by
 subst hv
 obtain ⟨he, hee⟩ := Ko ht
 unfold execOp; rw [ho]
 have h := run_slice_h (P := P) w t A n cap he .i64 (h : Int) (by omega) (by omega)
 have hs : (sizeOf e).run P w = .ok 3 w := by
  cases hj : P.info? e with
  | none => rw [hj] at hi; cases hi
  | some i => rw [hj] at hi; injection hi with hi; simp [sizeOf, typeInfo, hj, hi]
 simp only [Int.toNat_natCast, hee, hs, Result.andThen_ok] at h
 simp only [E.ev hx, E.ev hz, Option.map_some, Option.map_none, Instr.sliceAt, Sem.run_bind, run_underlying ht, h, Result.andThen_ok, Sem.run_pure]
theorem Yi (E : Env vs ρ) (ho : o.op = .slice t x (some y) none none) (ht : P.underlying t = some (.slice e)) (hi : (P.info? e).map (·.size) = some 3) (hx : opv vs x = some (.slice A n cap)) (hy : opv vs y = some (.int .i64 (l : Int))) (h1 : l ≤ n) (hv : sliced A l n cap 3 = v) :
  (execOp ρ o).run P w = .ok (.value v) w := by
 subst hv
 obtain ⟨he, hee⟩ := Ko ht
 unfold execOp; rw [ho]
 have h := run_slice_l (P := P) w t A n cap he .i64 (l : Int) (by omega) (by omega)
 have hs : (sizeOf e).run P w = .ok 3 w := by
  cases hj : P.info? e with
  | none => rw [hj] at hi; cases hi
  | some i => rw [hj] at hi; injection hi with hi; simp [sizeOf, typeInfo, hj, hi]
 simp only [Int.toNat_natCast, hee, hs, Result.andThen_ok] at h
 simp only [E.ev hx, E.ev hy, Option.map_some, Option.map_none, Instr.sliceAt, Sem.run_bind, run_underlying ht, h, Result.andThen_ok, Sem.run_pure]
end
theorem OV : ∀ (l pre rest suf : List Value), rest.length = l.length → FP (pre ++ (rest ++ suf)) pre.length l = pre ++ (l ++ suf)
 | [], pre, rest, suf, h => by
  cases rest with
  | nil => rfl
  | cons a b => simp at h
 | v :: l, pre, rest, suf, h => by
  cases rest with
  | nil => simp at h
  | cons a rest =>
   unfold FP
   have e : (pre ++ (a :: rest ++ suf)).set pre.length v = (pre ++ [v]) ++ (rest ++ suf) := by simp
   have ih := OV l (pre ++ [v]) rest suf (by simpa using h)
   rw [List.length_append, List.length_singleton] at ih
   rw [e, ih]
   simp
section
variable {P : Program} {ops : Array Oper} {Q : Exit → Act → World → Prop} {n : Nat} {vs : Vs} {w0 : World} {L : List Ft} {o : Oper} {rest : List Oper} {S : World → Prop} {fuel : Nat} {listed : Array Bool}
theorem Hp.turned {w w' : World} (H : Hp w0 L w) {j g : Nat} {t : TypeId} {cs cs' : List Value} (hj : nth L j = some (cell g t cs)) (hb : Blk w' g t cs'.toArray) (hg : w.grownBy w' (some g)) : Hp w0 (putF L j (cell g t cs')) w' :=
 H.chg hj (cell g t cs') (Outs.of_grown hg (List.mem_singleton.2 rfl)) (BR _ _ _) (fun g' hg' => by
  obtain rfl := List.mem_singleton.1 hg'
  exact ⟨hb.lt, .inl (List.mem_singleton.2 rfl)⟩) (fun g' hg' => .inl hg') hb
theorem MJ {P : Program} (w : World) (t e ty : TypeId) (z : Value) (zs : List Value) (ht : P.underlying t = some (.slice e)) (hv : (P.info? e).bind (·.zero) = some z) (hz : z.cells.toList = zs) (h1 : ∀ u ∈ zs, u.oneCell' = true) (b o c : Nat)
  (hc : ∀ j, j < zs.length → (w.cell? ⟨b, o + j, none⟩).isSome = true) (hf : ∀ j, j < zs.length → w.frozen? ⟨b, o + j, none⟩ = false) :
  (Builtin.clear_ #[t] ty #[.slice (some ⟨b, o, none⟩) 1 c]).run P w = .ok (.tuple #[]) (w.setCells b o zs) := by
 have hzc : (Builtin.zeroCells z.cells 1).toList = zs := by
  rw [← hz]
  simp only [Builtin.zeroCells]
  apply List.ext_getElem
  ·simp
  ·intro i h1 h2
   simp at h1 h2 ⊢
   rw [Nat.mod_eq_of_lt h1]
   exact getElem!_pos z.cells i h1
 have hst := run_storeCells_cells (P := P) b o zs 0 w (by simpa using hc) (by simpa using hf) h1
 simp only [Nat.add_zero] at hst
 have hzv : (zeroValue e).run P w = .ok z w := by
  cases hi : P.info? e with
  | none => rw [hi] at hv; cases hv
  | some i =>
   rw [hi] at hv
   have hz : i.zero = some z := hv
   simp [zeroValue, typeInfo, hi, hz]
 simp [Builtin.clear_, run_underlying ht, hzv, hzc, hst]
theorem Hp.clear3 {P : Program} {ρ : Operand → Value} {vs : Vs} {w0 w : World} {L : List Ft} {o : Oper} {j g t et off c : Nat} {x : Operand} {z : Value} {cs cs' zs : List Value} (E : Env vs ρ) (H : Hp w0 L w) (hj : nth L j = some (cell g et cs)) (ho : o.op = .call { callee := .builtin .clear, args := #[x], argTypes := #[t] }) (ht : P.underlying t = some (.slice et)) (hv : (P.info? et).bind (·.zero) = some z) (hz : z.cells.toList = zs) (h1 : ∀ u ∈ zs, u.oneCell' = true) (hx : opv vs x = some (.slice (some ⟨g, off, none⟩) 1 c)) (hlen : off + zs.length ≤ cs.length) (hput : FP cs off zs = cs') :
  ∃ (_ : Unit) (w' : World), (execOp ρ o).run P w = .ok (.value (.tuple #[])) w' ∧ True ∧ Hp w0 (putF L j (cell g et cs')) w' := by
 subst hput
 have hb : Blk w g et cs.toArray := H.get hj
 have hr := MJ (P := P) w t et o.type z zs ht hv hz h1 g off c (fun k hk => by
  rw [hb.cell, List.getElem?_toArray, List.getElem?_eq_getElem (by omega)]; rfl) (fun k _ => hb.frozen _)
 have hb2 : Blk (w.setCells g off zs) g et (FP cs off zs).toArray := by rw [← La]; exact Blk.setCells zs off hb
 refine ⟨(), w.setCells g off zs, ?_, trivial, H.turned hj hb2 (FC zs off (World.grownBy.refl w _))⟩
 unfold execOp
 rw [ho]
 simp [E.ev hx, resolve, invoke, builtin, hr]
theorem Q9 {i j d g t et l m cap c : Nat} {o : Oper} {s x : Operand} {cs cs' news : List Value} {A : Option Addr} (hi : ops[i]? = some o) (hon : GOn ops vs o.guard) (hd : o.dst = some d) (hdn : Nat.blt d n = true) (ho : o.op = .call { callee := .builtin .append, args := #[s, x], argTypes := #[t, t] }) (ht : P.underlying t = some (.slice et)) (hz : (P.info? et).map (·.size) = some 3)
  (hs : opv vs s = some (.slice (some ⟨g, 0, none⟩) l cap)) (hx : opv vs x = some (.slice A m c)) (hj : nth L j = some (cell g et cs)) (hnl : news.length = m * 3) (hA : ∃ ad, A = some ad ∧ ∀ w, Blk w g et cs.toArray → ∀ k u, news[k]? = some u → w.cell? (ad.add k) = some u) (h1 : ∀ u ∈ news, u.oneCell' = true) (hroom : l + m ≤ cap) (hcl : (l + m) * 3 ≤ cs.length) (hput : FP cs (l * 3) news = cs')
  (hS : ∀ w, Hp w0 (putF L j (cell g et cs')) w → S w) (h : SxA P ops Q S fuel (listed.setIfInBounds i true) n ((d, .slice (some ⟨g, 0, none⟩) (l + m) cap) :: vs) w0 (putF L j (cell g et cs'))) : SxO P ops Q S fuel listed i n vs w0 L := fun a w K H _ => by
 subst hput
 obtain ⟨ad, rfl, hA⟩ := hA
 refine M7 hi (hon.on K.env) ?_
 unfold Oper.wp
 have hb : Blk w g et cs.toArray := H.get hj
 have hrun : (execOp a.eval o).run P w = .ok (.value (.slice (some ⟨g, 0, none⟩) (l + m) cap)) (w.setCells g (l * 3) news) := by
  cases hinf : P.info? et with
  | none => rw [hinf] at hz; cases hz
  | some i =>
   rw [hinf] at hz
   injection hz with hz
   have hz : i.size = 3 := hz
   have hr := run_append_room_cells (P := P) (w := w) t o.type et i ht hinf g 0 l cap ad m c news (by rw [hz]; exact hnl) (hA w hb) h1 hroom (fun k hk => by
    have := hb.cell (0 + l * i.size + k)
    rw [this, hz, List.getElem?_toArray, List.getElem?_eq_getElem (by omega)]; rfl) (fun k _ => hb.frozen _)
   rw [hz, Nat.zero_add] at hr
   unfold execOp
   rw [ho]
   simp [K.env.ev hs, K.env.ev hx, resolve, invoke, builtin, hr]
 rw [hrun]
 show S _ ∧ wpAnyH _ _ _ _ _ _ _ (a.put o.dst _) _
 rw [hd]
 have hb2 : Blk (w.setCells g (l * 3) news) g et (FP cs (l * 3) news).toArray := by rw [← La]; exact Blk.setCells news (l * 3) hb
 have H2 := H.turned hj hb2 (FC news (l * 3) (World.grownBy.refl w _))
 exact ⟨hS _ H2, h _ _ (K.put hdn _) H2 (hS _ H2)⟩
end
end Go.Proofs.YteiaiilfekojfaaGreat.Sx
end
section
set_option linter.unusedVariables false
set_option linter.unusedSimpArgs false
namespace Go.Proofs.YteiaiilfekojfaaGreat.Net
open Go.RowKit Sx Wire DrawInv
set_option maxRecDepth 100000 in
set_option maxHeartbeats 4000000 in
theorem X1 (b n cap i : Nat) (cA cX cD cT : List Value)  (w : World) (hb0 : Blk w b 134 (cA ++ ((cX ++ cD) ++ cT)).toArray) (hi : i < n) (hn : n ≤ cap) (hc2 : cap ≤ 9223372036854775807) (hA : cA.length = i * 3) (hX : cX.length = 3) (hD : cD.length = (n - 1 - i) * 3) (hone : ∀ u ∈ cD, u.oneCell' = true) : Calls Tryz.prog 66 #[.slice (some ⟨b, 0, none⟩) n cap, .int .i64 (i : Int), .int .i64 ((i + 1 : Nat) : Int)] w fun e w' => e = .returned (.slice (some ⟨b, 0, none⟩) (n - 1) cap) ∧ Blk w' b 134 (cA ++ ((cD ++ ([.int .u8 0, .int .u8 0, .string ⟨[].toArray⟩] : List Value)) ++ cT)).toArray ∧ w.grownBy w' (some b) := by
 have hput1 : FP (cA ++ ((cX ++ cD) ++ cT)) (i * 3) cD = (cA ++ ((cD ++ (cX ++ cD).drop cD.length) ++ cT)) := by
  have e : cX ++ cD = (cX ++ cD).take cD.length ++ (cX ++ cD).drop cD.length := (List.take_append_drop _ _).symm
  have h := OV cD cA ((cX ++ cD).take cD.length) ((cX ++ cD).drop cD.length ++ cT) (by rw [List.length_take, List.length_append]; omega)
  rw [hA, ← List.append_assoc ((cX ++ cD).take cD.length), ← e] at h
  rw [h, ← List.append_assoc cD]
 have hput2 : FP (cA ++ ((cD ++ (cX ++ cD).drop cD.length) ++ cT)) ((n - 1) * 3) [.int .u8 0, .int .u8 0, .string ⟨[].toArray⟩] = (cA ++ ((cD ++ ([.int .u8 0, .int .u8 0, .string ⟨[].toArray⟩] : List Value)) ++ cT)) := by
  have h := OV [.int .u8 0, .int .u8 0, .string ⟨[].toArray⟩] (cA ++ cD) ((cX ++ cD).drop cD.length) cT (by simp [hX])
  have hl : (cA ++ cD).length = (n - 1) * 3 := by rw [List.length_append, hA, hD]; omega
  rw [hl] at h
  simp only [List.append_assoc] at h ⊢
  exact h
 have hsrc : ∃ ad : Addr, (if cap = i + 1 then some (⟨b, 0, none⟩ : Addr) else some ⟨b, (i + 1) * 3, none⟩) = some ad ∧ ∀ w, Blk w b 134 (cA ++ ((cX ++ cD) ++ cT)).toArray → ∀ k u, cD[k]? = some u → w.cell? (ad.add k) = some u := by
  by_cases hc : cap = i + 1
  ·refine ⟨_, by rw [if_pos hc], fun w _ k u hu => ?_⟩
   have : cD.length = 0 := by rw [hD]; omega
   rw [List.length_eq_zero_iff.1 this] at hu
   simp at hu
  ·refine ⟨_, by rw [if_neg hc], fun w hb k u hu => ?_⟩
   have hk : k < cD.length := (List.getElem?_eq_some_iff.1 hu).1
   rw [Addr.add_lit, hb.cell, List.getElem?_toArray, List.getElem?_append_right (by omega), List.append_assoc, List.getElem?_append_right (by omega), List.getElem?_append_left (by omega), ← hu]
   congr 1
   omega
 have hzo : ∀ u ∈ ([.int .u8 0, .int .u8 0, .string ⟨[].toArray⟩] : List Value), u.oneCell' = true := by
  intro u hu
  simp only [List.mem_cons, List.not_mem_nil, or_false] at hu
  rcases hu with rfl | rfl | rfl <;> rfl
 refine A0 (n := 33) _ Tryz.func66 rfl rfl rfl ((Hp.start w).know _ (BR b _ _) (fun g hg => by obtain rfl := List.mem_singleton.1 hg; exact ⟨Blk.lt hb0, fun q hq => by cases hq⟩) hb0) (Ae (Ac (za rfl (Ad (Aa (Ae (Ac (zm rfl (zm rfl ?_)))))))))
 refine zm rfl (zm rfl (zL Tryz.underlying128 rfl (Ag (v := sliced (some ⟨b, 0, none⟩) i (i + 1) n 3) trivial rfl rfl (fun ρ w E H => Wc E rfl Tryz.underlying128 Bc rfl rfl rfl rfl (by omega) (by omega) (by omega)) (Ad (Aa (Ae (Ae (Ac (zm rfl ?_)))))))))
 refine zm rfl (zc false rfl (by simp [AB]; omega) (Ad (Aa (Ah rfl (Ax (Aa (Ae (Ac (zm rfl ?_)))))))))
 refine zL Tryz.underlying128 rfl (za rfl (Ad (Aa (Ae (BN [b] [] (by kernel_rfl) rfl ⟨(zi (by simp)), trivial⟩ (ym 0 rfl (by kernel_rfl) zI (ym 1 rfl (by kernel_rfl) zI (yt (i := 2) (v := .slice (some ⟨b, 0, none⟩) i cap) (by kernel_rfl) zI rfl rfl rfl rfl (fun ρ w E H => Yj E rfl Tryz.underlying128 Bc rfl rfl (by omega) (P9 b i cap)) (ym 3 rfl (by kernel_rfl) zI ?_)))))))))
 refine ym 4 rfl (by kernel_rfl) zI (yt (i := 5) (v := .slice (if cap = i + 1 then some (⟨b, 0, none⟩ : Addr) else some ⟨b, (i + 1) * 3, none⟩) (n - (i + 1)) (cap - (i + 1))) (by kernel_rfl) zI rfl rfl rfl rfl (fun ρ w E H => Yi E rfl Tryz.underlying128 Bc rfl rfl (by omega) (by unfold sliced; split <;> rename_i hh <;> simp [hh, Addr.add_lit])) (yr 6 (by kernel_rfl) (Q9 (j := 0) (m := n - (i + 1)) (news := cD) (cs' := (cA ++ ((cD ++ (cX ++ cD).drop cD.length) ++ cT))) rfl trivial rfl rfl rfl Tryz.underlying128 Bc rfl rfl rfl (by rw [hD]; omega) hsrc hone (by omega) (by simp only [List.length_append, hA, hX, hD]; omega) hput1 (fun w H => H.ks [b] [] rfl ⟨(zi (by simp)), trivial⟩) ?_)))
 rw [show i + (n - (i + 1)) = n - 1 by omega]
 refine yA 7 rfl (by kernel_rfl) zI (BE (by kernel_rfl) (Aa (Ae (Ac (zm rfl (zm rfl (zL Tryz.underlying128 rfl (zm rfl (Ag (v := .slice (some ⟨b, (n - 1) * 3, none⟩) 1 (cap - (n - 1))) trivial rfl rfl (fun ρ w E H => Xs (l := n - 1) (h := n) E rfl Tryz.underlying128 Bc rfl rfl rfl (by omega) (by omega) (by unfold sliced; rw [if_neg (by omega), show n - (n - 1) = 1 by omega]; simp [Addr.add_lit])) ?_)))))))))
 refine Wj (.tuple #[]) _ trivial rfl (fun ρ w E H => Hp.clear3 (j := 0) (zs := [.int .u8 0, .int .u8 0, .string ⟨[].toArray⟩]) (cs' := (cA ++ ((cD ++ ([.int .u8 0, .int .u8 0, .string ⟨[].toArray⟩] : List Value)) ++ cT))) E H rfl rfl Tryz.underlying128 CJ rfl hzo rfl (by simp only [List.length_append, List.length_drop, hA, hX, hD, List.length_cons, List.length_nil]; omega) hput2) (Ad (Aa (Ae (Ac (zm rfl (za rfl (Ad (Aa (Am ?_)))))))))
 refine Ai (.slice (some ⟨b, 0, none⟩) (n - 1) cap) (fun a w K H => BC K rfl rfl) (fun w H => ?_)
 exact ⟨rfl, H.get (i := 0) rfl, H.toGrown b ⟨(fun g hg => .inl (List.mem_singleton.1 hg)), trivial⟩⟩
end Go.Proofs.YteiaiilfekojfaaGreat.Net
end
section
set_option linter.unusedVariables false
set_option linter.unusedSimpArgs false
namespace Go.Proofs.YteiaiilfekojfaaGreat.Net
open Go.RowKit Sx Wire DrawInv
def KpL (Lp : Nat → Prop) (A B : World) : Prop := ∀ i, Lp i → B.heap[i]? = A.heap[i]?
theorem KpL.trans {Lp : Nat → Prop} {A B C : World} (h : KpL Lp A B) (k : KpL Lp B C) : KpL Lp A C := fun i hi => (k i hi).trans (h i hi)
theorem KpL.lt {Lp : Nat → Prop} {A B : World} (h : KpL Lp A B) {i : Nat} (hi : Lp i) (hl : i < A.heap.size) : i < B.heap.size := by
 rcases Nat.lt_or_ge i B.heap.size with h' | h'
 ·exact h'
 ·have := h i hi
  rw [Array.getElem?_eq_none h', Array.getElem?_eq_getElem hl] at this
  cases this
theorem KpL.below {Lp : Nat → Prop} {A B C : World} (h : KpL Lp A B) (hL : ∀ i, Lp i → i < A.heap.size) (hb : Below B.heap.size B C) : KpL Lp A C := h.trans fun i hi => hb.block i (h.lt hi (hL i hi))
theorem EZ {w : World} {base e n c : Nat} {A : Option Addr} {l : List Pa} (h : w.ownsRow base e 3 (.slice A n c) l.length (l.flatMap paL)) : Rows w A 3 paL l := by
 obtain ⟨A', c', e', _, hr⟩ := ID OW (by decide) h
 injection e' with e1 e2 e3
 subst e1
 exact hr
def LP (bag : List Pa) (f t i : Nat) : Bool := match bag[i]? with | some p => decide ((p.src, p.dst) = (f, t)) | none => false
def Fa (bag : List Pa) (f t k : Nat) : List Nat := (List.range k).filter (LP bag f t)
theorem Gp (bag : List Pa) (f t k : Nat) : Fa bag f t (k + 1) = Fa bag f t k ++ (if LP bag f t k = true then [k] else []) := by
 unfold Fa
 rw [List.range_succ, List.filter_append]
 simp [List.filter_cons]
theorem N3 (bag : List Pa) (f t : Nat) : ∀ d k, Fa bag f t k <+: Fa bag f t (k + d)
 | 0, k => List.prefix_refl _
 | d + 1, k => by
  refine (N3 bag f t d k).trans ?_
  rw [show k + (d + 1) = k + d + 1 from rfl, Gp]
  exact List.prefix_append _ _
theorem N4 (bag : List Pa) (f t k : Nat) : (Fa bag f t k).length ≤ k := Nat.le_trans (List.length_filter_le _ _) (by simp)
theorem Xm (bag : List Pa) (f t k x : Nat) (h : x ∈ Fa bag f t k) : x < k ∧ LP bag f t x = true := by
 unfold Fa at h
 rw [List.mem_filter, List.mem_range] at h
 exact h
theorem PT {base g gm : Nat} {Ab : Option Addr} {cb : Nat} {bag : List Pa} {M : Df} {W0 w : World} {Lp : Nat → Prop} (hn : (E7 base g gm (.slice Ab bag.length cb) bag M).φ W0) (hLg : Lp g) (hLr : ∀ r ∈ (Value.slice Ab bag.length cb).ownBlock.toList, Lp r) (hk : KpL Lp W0 w) :
  Blk w g 130 #[.slice Ab bag.length cb, .map (some gm)] ∧ Rows w Ab 3 paL bag := by
 refine ⟨(hk g hLg).trans hn.1, EZ (BF [] base _ 3 _ _ _ W0 w (fun b hb => ?_) hn.2.1)⟩
 exact hk b (hLr b (by simpa [BU] using hb))

def YJ (w : World) (g f t : Nat) (e : Ending) (w' : World) : Prop :=
 ∃ bn bf bt, e = .returned (.func (.func 109) #[] #[.pointer (some ⟨bn, 0, none⟩), .pointer (some ⟨bf, 0, none⟩), .pointer (some ⟨bt, 0, none⟩)]) ∧ Blk w' bn 48 #[.pointer (some ⟨g, 0, none⟩)] ∧ Blk w' bf 5 #[.int .u8 (f : Int)] ∧ Blk w' bt 5 #[.int .u8 (t : Int)] ∧
  w.heap.size ≤ bn ∧ w.heap.size ≤ bf ∧ w.heap.size ≤ bt ∧ Below w.heap.size w w'

set_option maxRecDepth 100000 in
set_option maxHeartbeats 4000000 in
theorem KD (g f t : Nat)  (w : World) : Calls Tryz.prog 76 #[.pointer (some ⟨g, 0, none⟩), .int .u8 (f : Int), .int .u8 (t : Int)] w fun e w' => YJ w g f t e w' := by
 refine A0 (n := 8) _ Tryz.func76 rfl rfl rfl (Hp.start w) (Ae (Ac ?_))
 refine zB rfl fun g1 hg1 => ?_
 refine zB rfl fun g2 hg2 => ?_
 refine zB rfl fun g3 hg3 => ?_
 refine za rfl (Ad (Aa (Ae (Ac (Ag (v := .func (.func 109) #[] #[.pointer (some ⟨g1, 0, none⟩), .pointer (some ⟨g2, 0, none⟩), .pointer (some ⟨g3, 0, none⟩)]) trivial rfl rfl (fun ρ w E H => MD E rfl rfl rfl) (za rfl (Ad (Aa (Am ?_)))))))))
 refine Ai (.func (.func 109) #[] #[.pointer (some ⟨g1, 0, none⟩), .pointer (some ⟨g2, 0, none⟩), .pointer (some ⟨g3, 0, none⟩)]) (fun a w K H => BC K rfl rfl) (fun w H => ?_)
 exact ⟨_, _, _, rfl, H.get (i := 2) rfl, H.get (i := 1) rfl, H.get (i := 0) rfl, hg1, hg2, hg3, H.toBelow ⟨(zq hg3), (zq hg2), (zq hg1), trivial⟩⟩

set_option maxRecDepth 100000 in
set_option maxHeartbeats 4000000 in
theorem Y9 (m base g gm : Nat) (Ab : Option Addr) (cb : Nat) (bag : List Pa) (M : Df) (bn bf bt f t l : Nat) (W0 : World) (Lp : Nat → Prop) (J Jx : List Nat → World → Prop)  (w : World) (hn : (E7 base g gm (.slice Ab bag.length cb) bag M).φ W0) (hLg : Lp g) (hLr : ∀ r ∈ (Value.slice Ab bag.length cb).ownBlock.toList, Lp r) (kn : Blk W0 bn 48 #[.pointer (some ⟨g, 0, none⟩)]) (kf : Blk W0 bf 5 #[.int .u8 (f : Int)]) (kt : Blk W0 bt 5 #[.int .u8 (t : Int)]) (h1 : Lp bn) (h2 : Lp bf) (h3 : Lp bt) (hL : ∀ i, Lp i → i < W0.heap.size) (hb : bag.length ≤ 512) (hk : KpL Lp W0 w) (hJ : ∀ (X Y : World) (pre : List Nat), J pre X → Below X.heap.size X Y → J pre Y) (hJx : ∀ (X Y : World) (pre : List Nat), Jx pre X → Below X.heap.size X Y → Jx pre Y) (hY : ∀ (pre : List Nat) (x : Nat) (W1 : World), x < bag.length → J pre W1 → pre.length < 513 → YieldAt Fence.wide (m - 1) Tryz.prog l #[.int .i64 (x : Int)] W1 fun e W' => (e = .returned (.bool true) ∧ J (pre ++ [x]) W' ∧ KpL Lp W1 W') ∨ (e = .returned (.bool false) ∧ Jx (pre ++ [x]) W')) (h0 : J [] w) : Calls Tryz.prog 109 #[.func (.yield l) #[] #[], .pointer (some ⟨bn, 0, none⟩), .pointer (some ⟨bf, 0, none⟩), .pointer (some ⟨bt, 0, none⟩)] w fun e w' => (∃ v, e = .returned v) ∧ (J (Fa bag f t bag.length) w' ∨ ∃ pre, pre <+: Fa bag f t bag.length ∧ Jx pre w') := by
 have kn0 : Blk w bn _ _ := (hk bn h1).trans kn
 have kf0 : Blk w bf _ _ := (hk bf h2).trans kf
 have kt0 : Blk w bt _ _ := (hk bt h3).trans kt
 have kg0 := (PT hn hLg hLr hk).1
 refine A0 (n := 30) _ Tryz.func109 rfl rfl rfl (Hp.start w) (Ae (Ac (Ag trivial rfl rfl (fun ρ w E H => Dl (cs := [.pointer (some ⟨g, 0, none⟩)]) E (Blk.below kn0 (H.toBelow trivial) (Blk.lt kn0)) rfl rfl Tryz.underlying48 rfl rfl) (Ag (v := .pointer (some ⟨g, 0, none⟩)) trivial rfl rfl (fun ρ w E H => Be E rfl rfl) (zf 0 Bo rfl (Ag trivial rfl rfl (fun ρ w E H => Dl (cs := [.slice Ab bag.length cb, .map (some gm)]) E (Blk.below kg0 (H.toBelow trivial) (Blk.lt kg0)) rfl rfl Tryz.underlying128 rfl rfl) (zL Tryz.underlying128 rfl (zm rfl (Ad ?_)))))))))
 refine Aa (AG ?_)
 refine UU (fun (i : Nat) => [(0, .func (.yield l) #[] #[]), (1, .pointer (some ⟨bn, 0, none⟩)), (2, .pointer (some ⟨bf, 0, none⟩)), (3, .pointer (some ⟨bt, 0, none⟩)), (10, .slice Ab bag.length cb), (11, .int .i64 (bag.length : Int)), (12, .int .i64 (i : Int))]) (fun gk i w => i + gk = bag.length ∧ J (Fa bag f t i) w ∧ KpL Lp W0 w) bag.length 0 (fun w H => ⟨by omega, hJ _ _ _ h0 (H.toBelow trivial), hk.below hL (H.toBelow trivial)⟩) ⟨rfl, rfl, rfl, rfl, rfl, rfl, rfl, trivial⟩ fun gk i w1 hF => ?_
 obtain ⟨hgk, hJ1, hK1⟩ := hF
 have kn1 : Blk w1 bn _ _ := (hK1 bn h1).trans kn
 have kf1 : Blk w1 bf _ _ := (hK1 bf h2).trans kf
 have kt1 : Blk w1 bt _ _ := (hK1 bt h3).trans kt
 obtain ⟨kg1, hrows⟩ := PT hn hLg hLr hK1
 have hpl : (Fa bag f t i).length < 513 := by have := N4 bag f t i; omega
 refine Ae (Ac ?_)
 refine zb rfl fun c13 hc13 => ?_
 refine Ad (Aa (Ae ?_))
 cases c13
 ·refine Ah rfl (Cd (AW (AW (BH ?_))))
  refine Dt (.tuple #[]) (fun a w K H => Hl rfl) (fun w H => ?_)
  have hle : bag.length ≤ i := by have h := hc13; simp [AB] at h; omega
  have e : i = bag.length := by omega
  subst e
  exact ⟨⟨_, rfl⟩, .inl (hJ _ _ _ hJ1 (H.toBelow trivial))⟩
 ·refine Ap rfl (Ax (Aa (Ae (AG (Ae ?_)))))
  have hkl : i < bag.length := by simpa [AB] using hc13
  obtain ⟨⟨ps, pd, pb⟩, hx⟩ : ∃ x, bag[i]? = some x := ⟨_, List.getElem?_eq_getElem hkl⟩
  obtain ⟨ad, rfl, -, -⟩ := hrows.row hx
  have hhas : LP bag f t i = decide ((ps, pd) = (f, t)) := by unfold LP; rw [hx]
  refine Ac (zm rfl (Ag (v := .pointer (some (ad.add (i * 3)))) trivial rfl rfl (fun ρ w E H => BA (i := i) E rfl Tryz.underlying128 Bc rfl rfl hkl) (Ag (v := .agg #[.int .u8 (ps : Int), .int .u8 (pd : Int), .string ⟨pb.toArray⟩]) trivial rfl rfl (fun ρ w E H => C7 (cs := [.int .u8 (ps : Int), .int .u8 (pd : Int), .string ⟨pb.toArray⟩]) E ((hrows.below (H.toBelow trivial)).rowA hx) rfl rfl Tryz.underlying134 rfl Bc) ?_)))
  refine zA CJ rfl fun g1 hg1 => ?_
  refine za rfl (zS 0 Bc rfl (Ad (Aa (Ae (QB m (SxI.val (v := .pointer (some ⟨g1, 0, none⟩)) trivial rfl rfl (fun ρ w E H => ND E rfl Gq rfl rfl) (SxI.val (v := .agg #[.int .u8 (ps : Int), .int .u8 (pd : Int)]) trivial rfl rfl (fun ρ w E H => Iu (part := [.int .u8 (ps : Int), .int .u8 (pd : Int)]) E (H.get (i := 0) rfl) rfl rfl Tryz.underlying57 rfl Bj rfl rfl) (SxI.val (v := .int .u8 (f : Int)) trivial rfl rfl (fun ρ w E H => Dl (cs := [.int .u8 (f : Int)]) E (Blk.below kf1 (H.toBelow ⟨(zq hg1), trivial⟩) (Blk.lt kf1)) rfl rfl Tryz.underlying5 rfl rfl) (SxI.val (v := .int .u8 (t : Int)) trivial rfl rfl (fun ρ w E H => Dl (cs := [.int .u8 (t : Int)]) E (Blk.below kt1 (H.toBelow ⟨(zq hg1), trivial⟩) (Blk.lt kt1)) rfl rfl Tryz.underlying5 rfl rfl) ?_)))))))))
  refine SxI.val (v := .agg #[.int .u8 (f : Int), .int .u8 (t : Int)]) trivial rfl rfl (fun ρ w E H => Bh (cs := [.int .u8 (f : Int), .int .u8 (t : Int)]) E rfl rfl (by kernel_rfl)) ?_
  refine SxI.valB trivial rfl rfl (fun ρ w E H => Ht E rfl (by kernel_rfl) rfl rfl (fun w => Ta (ps, pd) (f, t) w)) fun c22 hc22 => ?_
  refine SxI.val (v := .bool c22) trivial rfl rfl (fun ρ w E H => Lq E rfl rfl) ?_
  cases c22
  ·refine SxI.off ⟨_, _, _, rfl, rfl, rfl, nofun⟩ rfl rfl (SxI.off ⟨_, _, _, rfl, rfl, rfl, nofun⟩ rfl rfl (SxI.off ⟨_, _, _, rfl, rfl, rfl, nofun⟩ rfl rfl (SxI.off ⟨_, _, _, rfl, rfl, rfl, nofun⟩ rfl rfl (SxI.val (v := .bool false) trivial rfl rfl (fun ρ w E H => Lo E rfl (t := false) rfl rfl) (SxI.nil (Aa (Ah rfl (Ax (AA ?_)))))))))
   refine Aa (Ac (Ag (v := .int .i64 ((i + 1 : Nat) : Int)) trivial rfl rfl (fun ρ w E H => BQ E rfl rfl rfl (by rw [IntKind.wrap_i64]; omega)) (zm rfl (Ad ?_))))
   refine OD (gk - 1) (i + 1) (by omega) (fun w H => ?_) ⟨rfl, rfl, rfl, rfl, rfl, rfl, rfl, trivial⟩
   have hB := H.toBelow ⟨(zq hg1), trivial⟩
   exact ⟨by omega, by rw [Gp, if_neg (by rw [hhas, hc22]; decide), List.append_nil]; exact hJ _ _ _ hJ1 hB, hK1.below hL hB⟩
  ·refine SxI.val (v := .func (.yield l) #[] #[]) ⟨_, _, rfl, rfl, rfl⟩ rfl rfl (fun ρ w E H => Lq E rfl rfl) (SxI.val (v := .int .i64 (i : Int)) ⟨_, _, rfl, rfl, rfl⟩ rfl rfl (fun ρ w E H => Lq E rfl rfl) ?_)
   refine SxI.yield (xs := [.int .i64 (i : Int)]) (R := fun b w' => (b = true ∧ J (Fa bag f t i ++ [i]) w' ∧ KpL Lp W0 w') ∨ (b = false ∧ Jx (Fa bag f t i ++ [i]) w')) ⟨_, _, rfl, rfl, rfl⟩ rfl rfl rfl rfl rfl (fun w H => ?_) (fun bb w3 hR => ?_)
   ·have hB := H.toBelow ⟨(zq hg1), trivial⟩
    have hJw := hJ _ _ _ hJ1 hB
    have hKw := hK1.below hL hB
    obtain ⟨fn, tmps, assign, body, hr, hR⟩ := hY _ i w hkl hJw hpl
    refine ⟨fn, tmps, assign, body, hr, hR.mono ?_⟩
    rintro e W' (⟨rfl, h4, h5⟩ | ⟨rfl, h4⟩)
    ·exact ⟨true, rfl, .inl ⟨rfl, h4, hKw.trans h5⟩⟩
    ·exact ⟨false, rfl, .inr ⟨rfl, h4⟩⟩
   cases bb
   ·refine SxI.val (v := .bool true) ⟨_, _, rfl, rfl, rfl⟩ rfl rfl (fun ρ w E H => Jf (t := false) E rfl rfl) (SxI.val (v := .bool true) trivial rfl rfl (fun ρ w E H => Lo E rfl (t := true) rfl rfl) (SxI.nil (Aa (Ap rfl (Am (AU (Ak (Ak (AU ?_)))))))))
    refine Ai (.tuple #[]) (fun a w K H => Hl rfl) (fun w H => ?_)
    rcases hR with ⟨h, _⟩ | ⟨_, h4⟩
    ·cases h
    ·refine ⟨⟨_, rfl⟩, .inr ⟨_, ?_, hJx _ _ _ h4 (H.toBelow trivial)⟩⟩
     have e := Gp bag f t i
     rw [if_pos (by rw [hhas]; exact hc22)] at e
     rw [← e]
     have := N3 bag f t (bag.length - (i + 1)) (i + 1)
     rwa [show i + 1 + (bag.length - (i + 1)) = bag.length by omega] at this
   ·refine SxI.val (v := .bool false) ⟨_, _, rfl, rfl, rfl⟩ rfl rfl (fun ρ w E H => Jf (t := true) E rfl rfl) (SxI.val (v := .bool false) trivial rfl rfl (fun ρ w E H => Lo E rfl (t := true) rfl rfl) (SxI.nil (Aa (Ah rfl (Ax (AA (Aa (Ac (Ag (v := .int .i64 ((i + 1 : Nat) : Int)) trivial rfl rfl (fun ρ w E H => BQ E rfl rfl rfl (by rw [IntKind.wrap_i64]; omega)) ?_)))))))))
    refine zm rfl (Ad ?_)
    refine OD (gk - 1) (i + 1) (by omega) (fun w H => ?_) ⟨rfl, rfl, rfl, rfl, rfl, rfl, rfl, trivial⟩
    rcases hR with ⟨_, h4, h5⟩ | ⟨h, _⟩
    ·have hB := H.toBelow trivial
     have hL3 : ∀ i, Lp i → i < w3.heap.size := fun i hi => h5.lt hi (hL i hi)
     exact ⟨by omega, by rw [Gp, if_pos (by rw [hhas]; exact hc22)]; exact hJ _ _ _ h4 hB, h5.below hL hB⟩
    ·cases h
end Go.Proofs.YteiaiilfekojfaaGreat.Net
end
section
set_option linter.unusedVariables false
set_option linter.unusedSimpArgs false
namespace Go.Proofs.YteiaiilfekojfaaGreat.Net
open Go Go.RowKit DrawInv Sx Wire

attribute [local go_sem] Oper.semAt_some
theorem PN (m base g gm : Nat) (Ab : Option Addr) (cb : Nat) (bag : List Pa) (M : Df) (bn bf bt f t : Nat) (w0 : World) (Lp : Nat → Prop) (hn : (E7 base g gm (.slice Ab bag.length cb) bag M).φ w0) (hLg : Lp g) (hLr : ∀ r ∈ (Value.slice Ab bag.length cb).ownBlock.toList, Lp r)
  (kn : Blk w0 bn 48 #[.pointer (some ⟨g, 0, none⟩)]) (kf : Blk w0 bf 5 #[.int .u8 (f : Int)]) (kt : Blk w0 bt 5 #[.int .u8 (t : Int)]) (h1 : Lp bn) (h2 : Lp bf) (h3 : Lp bt) (hL : ∀ i, Lp i → i < w0.heap.size) (hb : bag.length ≤ 512) :
  SeqStopsB Fence.wide m Tryz.prog 109 #[] #[.pointer (some ⟨bn, 0, none⟩), .pointer (some ⟨bf, 0, none⟩), .pointer (some ⟨bt, 0, none⟩)] (fun x : Nat => #[Value.int .i64 (x : Int)]) (KpL Lp) (fun xs => xs = Fa bag f t bag.length) (fun pre => pre <+: Fa bag f t bag.length) 513 w0 := by
 intro l J Jx W hbW hJ hJx hY h0
 have h := Y9 m base g gm Ab cb bag M bn bf bt f t l w0 Lp J Jx W hn hLg hLr kn kf kt h1 h2 h3 hL hb (fun i hi => hbW.block i (hL i hi))
  (fun X Y pre hx hXY => hJ pre X Y none hx (Gg hXY none) (fun r e => by cases e)) (fun X Y pre hx hXY => hJx pre X Y none hx (Gg hXY none) (fun r e => by cases e))
  (fun pre x W1 _ hp hl => hY pre x W1 hp hl) h0
 have h2 : CallsIn Fence.wide m Tryz.prog 109 #[.func (.yield l) #[] #[], .pointer (some ⟨bn, 0, none⟩), .pointer (some ⟨bf, 0, none⟩), .pointer (some ⟨bt, 0, none⟩)] W (fun e W' => (∃ v, e = .returned v) ∧ ((∃ xs, xs = Fa bag f t bag.length ∧ J xs W') ∨ (∃ pre, pre <+: Fa bag f t bag.length ∧ Jx pre W'))) :=
  callsIn_wide.2 (h.mono fun e W' ⟨hv, hr⟩ => ⟨hv, hr.imp (fun h => ⟨_, rfl, h⟩) id⟩)
 exact h2
theorem M6 {β : Type} {L : Nat → Prop} {w : World} (hL : ∀ i, L i → i < w.heap.size) : OwnFrom w.heap.size (fun (_ : β) W => KpL L w W ∧ w.heap.size ≤ W.heap.size) :=
 fun _ X Y row hs hg hr => ⟨fun i hi => (hg.block i (Nat.lt_of_lt_of_le (hL i hi) hs.2) (fun e => by have := (hr i e.symm).1; have := hL i hi; omega)).trans (hs.1 i hi), Nat.le_trans hs.2 hg.size⟩
def WI (w W0 : World) (L : Nat → Prop) (ga : Nat) (pre : List Nat) (W : World) : Prop :=
 (KpL L W0 W ∧ W0.heap.size ≤ W.heap.size) ∧ (Boxed W ga 3 (.int .i64 (pre.length : Int)) ∧ Below w.heap.size w W)
theorem UG (w W0 : World) (L : Nat → Prop) (hL : ∀ i, L i → i < W0.heap.size) (ga : Nat) (hB : w.heap.size ≤ W0.heap.size) : OwnFrom W0.heap.size (WI w W0 L ga) :=
 OwnFrom.and (M6 hL) (OwnFrom.and (Own.from (boxed_own ga 3 (fun pre : List Nat => Value.int .i64 (pre.length : Int))) _) (ownFrom_below (Nat.le_refl _) hB))
set_option maxRecDepth 100000 in
set_option maxHeartbeats 2000000 in
theorem O2 (base g gm : Nat) (Ab : Option Addr) (cb : Nat) (bag : List Pa) (M : Df) (f t : Nat) (w : World) (hn : (E7 base g gm (.slice Ab bag.length cb) bag M).φ w) (hb : bag.length ≤ 512) :
  Calls Tryz.prog 37 #[.pointer (some ⟨g, 0, none⟩), .int .u8 (f : Int), .int .u8 (t : Int)] w fun e w' => e = .returned (.int .i64 ((Fa bag f t bag.length).length : Int)) ∧ Below w.heap.size w w' := by
 have b0 : Below w.heap.size w (w.alloc (.cells #[.int .i64 0] 3)) := (Below.refl _ w).alloc (Nat.le_refl _) _
 have k0 := Boxed.new w 3 (.int .i64 0)
 have HK := Lib.hid (KD g f t (w.alloc (.cells #[.int .i64 0] 3)))
 have HN := Lib.hid hn
 have HB := Lib.hid hb
 have HG := Lib.hid (Blk.lt hn.1)
 have HRL : Hid (∀ r ∈ (Value.slice Ab bag.length cb).ownBlock.toList, r < w.heap.size) := fun r hr => (BS hn.2.1 r hr).2
 clear hn hb
 refine (callsIn_wide (n := 5)).1 ?_
 refine callsIn_of_wp_marks Tryz.func37 rfl trivial ?_ rfl
 simp only [Tryz.ntmps37, List.size_toArray, List.length_cons, List.length_nil, Nat.reduceAdd, Nat.reduceSub, Array.replicate_succ, Array.replicate_zero, List.push_toArray, List.append_toArray, List.nil_append, List.cons_append]
 gi_wp2
 refine ⟨trivial, ?_⟩
 refine (callsIn_wide.2 HK.out).mono ?_; rintro e w2 ⟨bn, bf, bt, rfl, kn, kf, kt, h1, h2, h3, B2⟩
 rw [World.size_alloc] at h1 h2 h3
 have bw := b0.trans (B2.mono b0.size)
 have k2 : Boxed w2 w.heap.size 3 (.int .i64 0) := (B2.block _ (by simp)).trans k0
 have hn2 : (E7 base g gm (.slice Ab bag.length cb) bag M).φ w2 := GP base g gm _ bag M w w2 (fun i hi => bw.block i (by
  rcases List.mem_cons.1 hi with rfl | hi
  ·exact HG.out
  rcases List.mem_cons.1 hi with rfl | hi
  ·exact HN.out.2.2.lt
  ·exact HRL.out i hi)) HN.out
 have hsz : w.heap.size < w2.heap.size := k2.lt
 have hfn : ∀ W : World, (binOp .eql 145 (.func (.func 109) #[] #[.pointer (some ⟨bn, 0, none⟩), .pointer (some ⟨bf, 0, none⟩), .pointer (some ⟨bt, 0, none⟩)]) .nilFunc).run Tryz.prog W = .ok (.bool false) W := fun _ => by kernel_rfl
 obtain ⟨L, hLd⟩ : ∃ L : Nat → Prop, L = fun i => i < w2.heap.size ∧ i ≠ w.heap.size := ⟨_, rfl⟩
 have hL : ∀ i, L i → i < w2.heap.size := fun i hi => by rw [hLd] at hi; exact hi.1
 have hL1 : ∀ i, i < w2.heap.size → i ≠ w.heap.size → L i := fun i hi hn => by rw [hLd]; exact ⟨hi, hn⟩
 have hLn : ¬ L w.heap.size := fun h => by rw [hLd] at h; exact h.2 rfl
 have knl : bn < w2.heap.size := Blk.lt kn
 have kfl : bf < w2.heap.size := Blk.lt kf
 have ktl : bt < w2.heap.size := Blk.lt kt
 clear hLd
 gi_wp2
 refine range_bound rfl (by omega) (gf := 109) (bd := #[]) (lb := #[.pointer (some ⟨bn, 0, none⟩), .pointer (some ⟨bf, 0, none⟩), .pointer (some ⟨bt, 0, none⟩)]) rfl trivial (enters_of Tryz.func109 (by kernel_rfl) rfl)
  (PN _ base g gm Ab cb bag M bn bf bt f t w2 L hn2 (hL1 g (by have := HG.out; omega) (by have := HG.out; omega)) (fun r hr => hL1 r (by have := HRL.out r hr; omega) (by have := HRL.out r hr; omega)) kn kf kt (hL1 bn knl (by omega)) (hL1 bf kfl (by omega)) (hL1 bt ktl (by omega)) hL HB.out) (fun h k => h.trans k)
  (fun W l o o' hl _ _ _ i hi => World.putObj_heap_other (by have := hL i hi; omega)) (Below.refl _ _) (fun _ => rfl)
  (WI w w2 L w.heap.size) (fun _ _ _ => False) (UG w w2 L hL w.heap.size bw.size) (fun _ _ _ _ _ h _ _ => h)
  ⟨⟨fun _ _ => rfl, Nat.le_refl _⟩, k2, bw⟩
  ?a1 ?assign ?body ?done ?stop
 case assign =>
  intro l x W K hK
  gi_wp2
  exact hK
 case body =>
  rintro l pre x W ⟨⟨hkp, hs⟩, hA, hB⟩ hlt
  have cA := hA.cell
  have fA := hA.frozen
  have hA2 := hA.set (.int .i64 ((pre ++ [x]).length : Int))
  have hB2 := hB.setCell (p := ⟨w.heap.size, 0, none⟩) (Nat.le_refl _) (.int .i64 ((pre ++ [x]).length : Int))
  have hK2 : KpL L W (W.setCell ⟨w.heap.size, 0, none⟩ (.int .i64 ((pre ++ [x]).length : Int))) := fun i hi => Below.heap_setCell W _ _ i (fun e => hLn (by rw [← show i = w.heap.size from e]; exact hi))
  have hln : ((pre ++ [x]).length : Int) = (pre.length : Int) + 1 := by simp
  have hwr : IntKind.i64.wrap ((pre.length : Int) + 1) = (pre.length : Int) + 1 := by rw [IntKind.wrap_i64]; omega
  rw [hln] at hA2 hB2 hK2
  gi_wp2
  exact ⟨(KeepsOthers.setCell W _ _).from _, hK2, ⟨hkp.trans hK2, by simpa using hs⟩, by rw [hln]; exact hA2, hB2⟩
 case done =>
  rintro D ys W hD hys ⟨⟨hkp, hs⟩, hA, hB⟩ hK
  have cA := hA.cell
  rw [hys] at cA
  have hb := hB.trans (belowK_b (w := w) (Nat.le_refl _) W D (.deferred (some [])) (.deferred none) (by omega) hK rfl rfl)
  clear hys hA
  gi_wp2
  exact ⟨by simp, .inl ⟨_, _, rfl, run_takeDeferred hK, _, results_tmp rfl _ _ _, rfl, hb⟩⟩
 case stop =>
  rintro D c pre W hD hpre hF hK
  exact hF.elim
end Go.Proofs.YteiaiilfekojfaaGreat.Net
end
section
set_option linter.unusedVariables false
set_option linter.unusedSimpArgs false
namespace Go.Proofs.YteiaiilfekojfaaGreat.Net
open Go Go.RowKit DrawInv Sx Wire

attribute [local go_sem] Oper.semAt_some
def Dq (bag : List Pa) (f t : Nat) (k : Int) : Option Nat := if 0 ≤ k then (Fa bag f t bag.length)[k.toNat]? else none
def XL (o : Option Nat) : Nat × Nat := match o with | some i => (i, 0) | none => (0, 11)
def XR (w W0 : World) (L : Nat → Prop) (b8 b9 ba : Nat) (k : Int) (pre : List Nat) (W : World) : Prop :=
 (KpL L W0 W ∧ W0.heap.size ≤ W.heap.size) ∧ (Boxed W ba 3 (.int .i64 (pre.length : Int)) ∧ (Boxed W b8 3 (.int .i64 0) ∧ (Boxed W b9 37 (.int .i64 0) ∧ (Below w.heap.size w W ∧ ∀ j : Nat, j < pre.length → (j : Int) ≠ k))))
def XQ (w : World) (b8 b9 : Nat) (k : Int) (c : Code) (pre : List Nat) (W : World) : Prop :=
 Boxed W b8 3 (.int .i64 ((pre.getLastD 0 : Nat) : Int)) ∧ (Boxed W b9 37 (.int .i64 0) ∧ (Below w.heap.size w W ∧ (c = .ret ∧ (pre.length : Int) = k + 1 ∧ pre ≠ [])))
theorem K5 {β : Type} (B : Nat) (p : β → Prop) : OwnFrom B (fun (s : β) (_ : World) => p s) := fun _ _ _ _ h _ _ => h
theorem VZ (w W0 : World) (L : Nat → Prop) (hL : ∀ i, L i → i < W0.heap.size) (b8 b9 ba : Nat) (k : Int) (hB : w.heap.size ≤ W0.heap.size) : OwnFrom W0.heap.size (XR w W0 L b8 b9 ba k) :=
 OwnFrom.and (M6 hL) (OwnFrom.and (Own.from (boxed_own ba 3 (fun pre : List Nat => Value.int .i64 (pre.length : Int))) _) (OwnFrom.and (Own.from (boxed_own b8 3 (fun pre : List Nat => Value.int .i64 0)) _) (OwnFrom.and (Own.from (boxed_own b9 37 (fun pre : List Nat => Value.int .i64 0)) _) (OwnFrom.and (ownFrom_below (Nat.le_refl _) hB) (K5 _ (fun pre : List Nat => ∀ j : Nat, j < pre.length → (j : Int) ≠ k))))))
theorem U5 (w W0 : World) (b8 b9 : Nat) (k : Int) (hB : w.heap.size ≤ W0.heap.size) (c : Code) : OwnFrom W0.heap.size (XQ w b8 b9 k c) :=
 OwnFrom.and (Own.from (boxed_own b8 3 (fun pre : List Nat => Value.int .i64 ((pre.getLastD 0 : Nat) : Int))) _) (OwnFrom.and (Own.from (boxed_own b9 37 (fun pre : List Nat => Value.int .i64 0)) _) (OwnFrom.and (ownFrom_below (Nat.le_refl _) hB) (K5 _ (fun pre : List Nat => c = .ret ∧ (pre.length : Int) = k + 1 ∧ pre ≠ []))))
theorem M4 {fn : Func} {p q : Tmp} (h : fn.results = #[.cell p 3, .cell q 37]) (tmps : Array Value) (w : World) (g1 g2 : Nat) (x y : Int) (hp : tmps.getD p undef = .pointer (some ⟨g1, 0, none⟩)) (hq : tmps.getD q undef = .pointer (some ⟨g2, 0, none⟩)) (h1 : Boxed w g1 3 (.int .i64 x)) (h2 : Boxed w g2 37 (.int .i64 y)) :
  (results fn tmps).run Tryz.prog w = .ok (.tuple #[.int .i64 x, .int .i64 y]) w := by
 have hp' : tmps[p]?.getD undef = .pointer (some ⟨g1, 0, none⟩) := by simpa using hp
 have hq' : tmps[q]?.getD undef = .pointer (some ⟨g2, 0, none⟩) := by simpa using hq
 have c1 := h1.cell
 have c2 := h2.cell
 have ha : ∀ w : World, (isAgg 3).run Tryz.prog w = .ok false w := fun _ => by kernel_rfl
 have hb : ∀ w : World, (isAgg 37).run Tryz.prog w = .ok false w := fun _ => by kernel_rfl
 simp [results, h, hp', hq', asAddr, loadVar, go_sem, c1, c2, ha, hb]
theorem N9 {bag : List Pa} {f t : Nat} {k : Int} (h : ∀ j : Nat, j < (Fa bag f t bag.length).length → (j : Int) ≠ k) : Dq bag f t k = none := by
 unfold Dq
 split
 ·exact List.getElem?_eq_none (by
   rcases Nat.lt_or_ge k.toNat (Fa bag f t bag.length).length with h' | h'
   ·exact absurd (by omega) (h _ h')
   ·exact h')
 ·rfl
theorem N8 {bag : List Pa} {f t : Nat} {k : Int} {pre : List Nat} (h : pre <+: Fa bag f t bag.length) (hk : (pre.length : Int) = k + 1) (hne : pre ≠ []) : Dq bag f t k = some (pre.getLastD 0) := by
 obtain ⟨s, hs⟩ := h
 have hl : 0 < pre.length := List.length_pos_iff.2 hne
 unfold Dq
 rw [if_pos (by omega), ← hs, show k.toNat = pre.length - 1 by omega, List.getElem?_append_left (by omega), List.getElem?_eq_getElem (by omega), ← List.getLast_eq_getElem hne]
 cases pre with
 | nil => exact absurd rfl hne
 | cons x l => rfl
set_option maxRecDepth 100000 in
set_option maxHeartbeats 2000000 in
theorem IJ (base g gm : Nat) (Ab : Option Addr) (cb : Nat) (bag : List Pa) (M : Df) (f t : Nat) (k : Int) (w : World) (hn : (E7 base g gm (.slice Ab bag.length cb) bag M).φ w) (hb : bag.length ≤ 512) :
  Calls Tryz.prog 65 #[.pointer (some ⟨g, 0, none⟩), .int .u8 (f : Int), .int .u8 (t : Int), .int .i64 k] w fun e w' => e = .returned (.tuple #[.int .i64 ((XL (Dq bag f t k)).1 : Int), .int .i64 ((XL (Dq bag f t k)).2 : Int)]) ∧ Below w.heap.size w w' := by
 have kk0 := (((Boxed.new w 3 (.int .i64 k)).alloc (.cells #[.int .i64 0] 3)).alloc (.cells #[.int .i64 0] 37)).alloc (.cells #[.int .i64 0] 3)
 have k80 := ((Boxed.new (w.alloc (.cells #[.int .i64 k] 3)) 3 (.int .i64 0)).alloc (.cells #[.int .i64 0] 37)).alloc (.cells #[.int .i64 0] 3)
 have k90 := (Boxed.new ((w.alloc (.cells #[.int .i64 k] 3)).alloc (.cells #[.int .i64 0] 3)) 37 (.int .i64 0)).alloc (.cells #[.int .i64 0] 3)
 have ka0 := Boxed.new (((w.alloc (.cells #[.int .i64 k] 3)).alloc (.cells #[.int .i64 0] 3)).alloc (.cells #[.int .i64 0] 37)) 3 (.int .i64 0)
 have b0 : Below w.heap.size w ((((w.alloc (.cells #[.int .i64 k] 3)).alloc (.cells #[.int .i64 0] 3)).alloc (.cells #[.int .i64 0] 37)).alloc (.cells #[.int .i64 0] 3)) := ((((Below.refl _ w).alloc (Nat.le_refl _) _).alloc (by simp) _).alloc (by simp; omega) _).alloc (by simp; omega) _
 simp only [World.size_alloc] at k80 k90 ka0
 have hsz0 : ((((w.alloc (.cells #[.int .i64 k] 3)).alloc (.cells #[.int .i64 0] 3)).alloc (.cells #[.int .i64 0] 37)).alloc (.cells #[.int .i64 0] 3)).heap.size = w.heap.size + 4 := by simp
 have HK := Lib.hid (KD g f t ((((w.alloc (.cells #[.int .i64 k] 3)).alloc (.cells #[.int .i64 0] 3)).alloc (.cells #[.int .i64 0] 37)).alloc (.cells #[.int .i64 0] 3)))
 have HN := Lib.hid hn
 have HB := Lib.hid hb
 have HG := Lib.hid (Blk.lt hn.1)
 have HRL : Hid (∀ r ∈ (Value.slice Ab bag.length cb).ownBlock.toList, r < w.heap.size) := fun r hr => (BS hn.2.1 r hr).2
 clear hn hb
 refine (callsIn_wide (n := 5)).1 ?_
 refine callsIn_of_wp_marks Tryz.func65 rfl trivial ?_ rfl
 simp only [Tryz.ntmps65, List.size_toArray, List.length_cons, List.length_nil, Nat.reduceAdd, Nat.reduceSub, Array.replicate_succ, Array.replicate_zero, List.push_toArray, List.append_toArray, List.nil_append, List.cons_append]
 gi_wp2
 refine ⟨trivial, ?_⟩
 refine (callsIn_wide.2 HK.out).mono ?_; rintro e w2 ⟨bn, bf, bt, rfl, kn, kf, kt, h1, h2, h3, B2⟩
 rw [hsz0] at h1 h2 h3
 have bw := b0.trans (B2.mono b0.size)
 have kk2 : Boxed w2 w.heap.size 3 (.int .i64 k) := (B2.block _ (by omega)).trans kk0
 have k82 : Boxed w2 (w.heap.size + 1) 3 (.int .i64 0) := (B2.block _ (by omega)).trans k80
 have k92 : Boxed w2 (w.heap.size + 1 + 1) 37 (.int .i64 0) := (B2.block _ (by omega)).trans k90
 have ka2 : Boxed w2 (w.heap.size + 1 + 1 + 1) 3 (.int .i64 0) := (B2.block _ (by omega)).trans ka0
 obtain ⟨b8, e8⟩ : ∃ x, x = w.heap.size + 1 := ⟨_, rfl⟩
 obtain ⟨b9, e9⟩ : ∃ x, x = w.heap.size + 1 + 1 := ⟨_, rfl⟩
 obtain ⟨ba, ea⟩ : ∃ x, x = w.heap.size + 1 + 1 + 1 := ⟨_, rfl⟩
 have hn2 : (E7 base g gm (.slice Ab bag.length cb) bag M).φ w2 := GP base g gm _ bag M w w2 (fun i hi => bw.block i (by
  rcases List.mem_cons.1 hi with rfl | hi
  ·exact HG.out
  rcases List.mem_cons.1 hi with rfl | hi
  ·exact HN.out.2.2.lt
  ·exact HRL.out i hi)) HN.out
 have hne : b8 ≠ b9 ∧ b8 ≠ ba ∧ b9 ≠ ba ∧ w.heap.size ≠ b8 ∧ w.heap.size ≠ b9 ∧ w.heap.size ≠ ba := by omega
 have hle : w.heap.size ≤ b8 ∧ w.heap.size ≤ b9 ∧ w.heap.size ≤ ba := by omega
 have hlx : w.heap.size + 4 = ba + 1 ∧ w.heap.size + 4 = b9 + 2 ∧ w.heap.size + 4 = b8 + 3 := by omega
 rw [← e8] at k82
 rw [← e9] at k92
 rw [← ea] at ka2
 have hfn : ∀ W : World, (binOp .eql 145 (.func (.func 109) #[] #[.pointer (some ⟨bn, 0, none⟩), .pointer (some ⟨bf, 0, none⟩), .pointer (some ⟨bt, 0, none⟩)]) .nilFunc).run Tryz.prog W = .ok (.bool false) W := fun _ => by kernel_rfl
 obtain ⟨L, hLd⟩ : ∃ L : Nat → Prop, L = fun i => i < w2.heap.size ∧ i ≠ b8 ∧ i ≠ b9 ∧ i ≠ ba := ⟨_, rfl⟩
 have hL : ∀ i, L i → i < w2.heap.size := fun i hi => by rw [hLd] at hi; exact hi.1
 have hL1 : ∀ i, i < w2.heap.size → i ≠ b8 → i ≠ b9 → i ≠ ba → L i := fun i hi h1 h2 h3 => by rw [hLd]; exact ⟨hi, h1, h2, h3⟩
 have hLn8 : ¬ L b8 := fun h => by rw [hLd] at h; exact h.2.1 rfl
 have hLn9 : ¬ L b9 := fun h => by rw [hLd] at h; exact h.2.2.1 rfl
 have hLna : ¬ L ba := fun h => by rw [hLd] at h; exact h.2.2.2 rfl
 have hLk : L w.heap.size := hL1 _ kk2.lt hne.2.2.2.1 hne.2.2.2.2.1 hne.2.2.2.2.2
 have knl : bn < w2.heap.size := Blk.lt kn
 have kfl : bf < w2.heap.size := Blk.lt kf
 have ktl : bt < w2.heap.size := Blk.lt kt
 have hw2 : w.heap.size < w2.heap.size := kk2.lt
 have HS := Lib.hid (PN 4 base g gm Ab cb bag M bn bf bt f t w2 L hn2 (by have := HG.out; exact hL1 g (by omega) (by omega) (by omega) (by omega)) (fun r hr => by have := HRL.out r hr; exact hL1 r (by omega) (by omega) (by omega) (by omega)) kn kf kt (hL1 bn knl (by omega) (by omega) (by omega)) (hL1 bf kfl (by omega) (by omega) (by omega)) (hL1 bt ktl (by omega) (by omega) (by omega)) hL HB.out)
 have HNE := Lib.hid hne
 have HLE := Lib.hid hle
 have HLT := Lib.hid (And.intro k82.lt k92.lt)
 rw [← ea, ← e9, ← e8]
 clear hLd kk0 k80 k90 ka0 b0 B2 e8 e9 ea hne hle hlx h1 h2 h3 hsz0 HK knl kfl ktl
 gi_wp2
 refine range_bound rfl (by omega) (gf := 109) (bd := #[]) (lb := #[.pointer (some ⟨bn, 0, none⟩), .pointer (some ⟨bf, 0, none⟩), .pointer (some ⟨bt, 0, none⟩)]) rfl trivial (enters_of Tryz.func109 (by kernel_rfl) rfl)
  HS.out (fun h k => h.trans k)
  (fun W l o o' hl _ _ _ i hi => World.putObj_heap_other (by have := hL i hi; omega)) (Below.refl _ _) (fun _ => rfl)
  (XR w w2 L b8 b9 ba k) (XQ w b8 b9 k) (VZ w w2 L hL b8 b9 ba k bw.size) (U5 w w2 b8 b9 k bw.size)
  ⟨⟨fun _ _ => rfl, Nat.le_refl _⟩, ka2, k82, k92, bw, fun j hj => by cases hj⟩
  ?a1 ?assign ?body ?done ?stop
 case assign =>
  intro l x W K hK
  gi_wp2
  exact hK
 case body =>
  rintro l pre x W ⟨⟨hkp, hs⟩, hA, h8, h9, hB, hall⟩ hlt
  have kkW : Boxed W w.heap.size 3 (.int .i64 k) := (hkp _ hLk).trans kk2
  have cA := hA.cell
  have fA := hA.frozen
  have cK := kkW.cell
  have c8 := h8.cell
  have f8 := h8.frozen
  have c9 := h9.cell
  have f9 := h9.frozen
  by_cases hk : (pre.length : Int) = k
  ·have ho8 := (grownBy_setCell' W b8 (.int .i64 (x : Int)))
   have h81 := h8.set (.int .i64 (x : Int))
   have h91 := h9.other (B' := b8) (fun e => HNE.out.1 e.symm) (.int .i64 (x : Int))
   have hB1 := hB.setCell (p := ⟨b8, 0, none⟩) HLE.out.1 (.int .i64 (x : Int))
   have h92 := h91.set (.int .i64 0)
   have h82 := h81.other (B' := b9) HNE.out.1 (.int .i64 0)
   have hB2 := hB1.setCell (p := ⟨b9, 0, none⟩) HLE.out.2.1 (.int .i64 0)
   have c91 := h91.cell
   have f91 := h91.frozen
   gi_wp2
   refine ⟨((KeepsOthers.setCell W _ _).trans (KeepsOthers.setCell _ _ _)).from _, ?_⟩
   refine ⟨by simpa using h82, h92, hB2, rfl, by simp; omega, by simp⟩
  ·have hA2 := hA.set (.int .i64 ((pre ++ [x]).length : Int))
   have hB2 := hB.setCell (p := ⟨ba, 0, none⟩) HLE.out.2.2 (.int .i64 ((pre ++ [x]).length : Int))
   have h82 := h8.other (B' := ba) HNE.out.2.1 (.int .i64 ((pre ++ [x]).length : Int))
   have h92 := h9.other (B' := ba) HNE.out.2.2.1 (.int .i64 ((pre ++ [x]).length : Int))
   have hK2 : KpL L W (W.setCell ⟨ba, 0, none⟩ (.int .i64 ((pre ++ [x]).length : Int))) := fun i hi => Below.heap_setCell W _ _ i (fun e => hLna (by rw [← show i = ba from e]; exact hi))
   have hln : ((pre ++ [x]).length : Int) = (pre.length : Int) + 1 := by simp
   have hall2 : ∀ j : Nat, j < (pre ++ [x]).length → (j : Int) ≠ k := fun j hj => by
    rw [List.length_append, List.length_singleton] at hj
    rcases Nat.lt_or_ge j pre.length with h | h
    ·exact hall j h
    ·rw [show j = pre.length by omega]; exact hk
   have hwr : IntKind.i64.wrap ((pre.length : Int) + 1) = (pre.length : Int) + 1 := by rw [IntKind.wrap_i64]; omega
   rw [hln] at hA2 hB2 hK2 h82 h92
   gi_wp2
   exact ⟨(KeepsOthers.setCell W _ _).from _, hK2, ⟨hkp.trans hK2, by simpa using hs⟩, by rw [hln]; exact hA2, h82, h92, hB2, hall2⟩
 case done =>
  rintro D ys W hD hys ⟨⟨hkp, hs⟩, hA, h8, h9, hB, hall⟩ hK
  have c8 := h8.cell
  have f8 := h8.frozen
  have c9 := h9.cell
  have f9 := h9.frozen
  rw [hys] at hall
  have hno := N9 hall
  have HD8 : Hid (D ≠ b8 ∧ D ≠ b9) := by show _ ∧ _; have := HLT.out; omega
  have h81 := h8.set (.int .i64 0)
  have h91 := h9.other (B' := b8) (fun e => HNE.out.1 e.symm) (.int .i64 0)
  have hB1 := hB.setCell (p := ⟨b8, 0, none⟩) HLE.out.1 (.int .i64 0)
  have hK1 : (W.setCell ⟨b8, 0, none⟩ (.int .i64 0)).heap[D]? = some (.deferred (some [])) := (Below.heap_setCell W _ _ D HD8.out.1).trans hK
  have c91 := h91.cell
  have f91 := h91.frozen
  have h92 := h91.set (.int .i64 11)
  have h82 := h81.other (B' := b9) HNE.out.1 (.int .i64 11)
  have hB2 := hB1.setCell (p := ⟨b9, 0, none⟩) HLE.out.2.1 (.int .i64 11)
  have hK2 : ((W.setCell ⟨b8, 0, none⟩ (.int .i64 0)).setCell ⟨b9, 0, none⟩ (.int .i64 11)).heap[D]? = some (.deferred (some [])) := (Below.heap_setCell _ _ _ D HD8.out.2).trans hK1
  have hb := hB2.trans (belowK_b (w := w) (Nat.le_refl _) _ D (.deferred (some [])) (.deferred none) (by omega) hK2 rfl rfl)
  have h83 := (World.putObj_heap_other (w := (W.setCell ⟨b8, 0, none⟩ (.int .i64 0)).setCell ⟨b9, 0, none⟩ (.int .i64 11)) (o := .deferred none) (r := D) (k := b8) HD8.out.1.symm).trans h82
  have h93 := (World.putObj_heap_other (w := (W.setCell ⟨b8, 0, none⟩ (.int .i64 0)).setCell ⟨b9, 0, none⟩ (.int .i64 11)) (o := .deferred none) (r := D) (k := b9) HD8.out.2.symm).trans h92
  have HNO := Lib.hid hno
  clear hys hall hno hA hs hkp
  gi_wp2
  exact ⟨by simp, .inl ⟨_, _, rfl, run_takeDeferred hK2, _, M4 rfl _ _ b8 b9 _ _ rfl rfl h83 h93, by rw [HNO.out]; rfl, hb⟩⟩
 case stop =>
  rintro D c pre W hD hpre ⟨h8, h9, hB, rfl, hlen, hne2⟩ hK
  have hso := N8 hpre hlen hne2
  have HD8 : Hid (D ≠ b8 ∧ D ≠ b9) := by show _ ∧ _; have := HLT.out; omega
  have hb := hB.trans (belowK_b (w := w) (Nat.le_refl _) _ D (.deferred (some [])) (.deferred none) (by omega) hK rfl rfl)
  have h83 := (World.putObj_heap_other (w := W) (o := .deferred none) (r := D) (k := b8) HD8.out.1.symm).trans h8
  have h93 := (World.putObj_heap_other (w := W) (o := .deferred none) (r := D) (k := b9) HD8.out.2.symm).trans h9
  rw [hso]
  clear hso hlen hne2 hpre
  gi_wp2
  exact ⟨by simp, .inl ⟨_, _, rfl, run_takeDeferred hK, _, M4 rfl _ _ b8 b9 _ _ rfl rfl h83 h93, rfl, hb⟩⟩
end Go.Proofs.YteiaiilfekojfaaGreat.Net
end
section
set_option linter.unusedVariables false
set_option linter.unusedSimpArgs false
namespace Go.Proofs.YteiaiilfekojfaaGreat.Net
open Go Go.RowKit DrawInv Sx Wire
theorem flat_len (l : List Pa) : (l.flatMap paL).length = l.length * 3 := by
 induction l with
 | nil => rfl
 | cons p l ih => rw [List.flatMap_cons, List.length_append, ih, OW, List.length_cons]; omega
theorem flat_one (l : List Pa) : ∀ u ∈ l.flatMap paL, u.oneCell' = true := by
 intro u hu
 obtain ⟨p, _, h⟩ := List.mem_flatMap.1 hu
 exact WU p u h
theorem Tc {w : World} {base i : Nat} {V : Value} {bag : List Pa} (h : w.ownsRow base 134 3 V bag.length (bag.flatMap paL)) (hi : i < bag.length) :
  Calls Tryz.prog 66 #[V, .int .i64 (i : Int), .int .i64 ((i + 1 : Nat) : Int)] w fun e w' => ∃ V', e = .returned V' ∧ w'.ownsRow base 134 3 V' (bag.length - 1) ((bag.eraseIdx i).flatMap paL) ∧ OwnIn w V.ownBlock.toList V' ∧ Outs V.ownBlock.toList w w' := by
 rcases h.2 with ⟨-, h0⟩ | ⟨b, cap, cur, rfl, hbase, hb, hn, hcap, hsize, htake⟩
 ·omega
 have hbag : bag.take i ++ bag[i] :: bag.drop (i + 1) = bag := by rw [← List.drop_eq_getElem_cons hi, List.take_append_drop]
 have hflat : (bag.take i).flatMap paL ++ (paL bag[i] ++ (bag.drop (i + 1)).flatMap paL) = bag.flatMap paL := by
  rw [← List.flatMap_cons, ← List.flatMap_append, hbag]
 have hcur : cur = ((bag.take i).flatMap paL ++ (paL bag[i] ++ (bag.drop (i + 1)).flatMap paL ++ cur.toList.drop (bag.length * 3))).toArray := by
  rw [← List.append_assoc, hflat, ← htake, List.take_append_drop]
 have hb0 : Blk w b 134 ((bag.take i).flatMap paL ++ (paL bag[i] ++ (bag.drop (i + 1)).flatMap paL ++ cur.toList.drop (bag.length * 3))).toArray := by rw [← hcur]; exact hb
 have hA : ((bag.take i).flatMap paL).length = i * 3 := by rw [flat_len, List.length_take]; congr 1; omega
 have hD : ((bag.drop (i + 1)).flatMap paL).length = (bag.length - 1 - i) * 3 := by rw [flat_len, List.length_drop]; congr 1; omega
 refine (X1 b bag.length cap i _ _ _ _ w hb0 hi hn hcap hA (OW _) hD (flat_one _)).mono fun e w' ⟨he, hb', hg⟩ => ⟨_, he, ?_, ?_, ?_⟩
 ·have hl : ((bag.eraseIdx i).flatMap paL).length = (bag.length - 1) * 3 := by rw [flat_len, List.length_eraseIdx, if_pos hi]
  refine ⟨hl, .inr ⟨b, cap, _, rfl, hbase, hb', by omega, hcap, ?_, ?_⟩⟩
  ·have : cur.toList.length = cap * 3 := by simpa using hsize
   simp only [List.size_toArray, List.length_append, hA, hD, List.length_drop, List.length_cons, List.length_nil, this]
   omega
  ·have e : (bag.eraseIdx i).flatMap paL = (bag.take i).flatMap paL ++ (bag.drop (i + 1)).flatMap paL := by rw [List.eraseIdx_eq_take_drop_succ, List.flatMap_append]
   rw [e] at hl ⊢
   simp only [List.append_assoc]
   rw [← List.append_assoc, ← hl, List.take_left']
   rfl
 ·intro g hg'
  exact .inl (by simpa [Value.ownBlock] using hg')
 ·exact Outs.of_grown hg (by simp [Value.ownBlock])
end Go.Proofs.YteiaiilfekojfaaGreat.Net
end
section
set_option linter.unusedVariables false
set_option linter.unusedSimpArgs false
namespace Go.Proofs.YteiaiilfekojfaaGreat.Sx
open Go.RowKit DrawInv
section
variable {P : Program} {ops : Array Oper} {Q Q' : Exit → Act → World → Prop} {n : Nat} {vs : Vs} {w0 : World} {L : List Ft} {o : Oper} {rest : List Oper}
theorem Kv {α β : Type} {d f : Nat} {args : Array Value} (v : α → β → Value) (F : α → β → Prop) (L' : α → β → List Ft) (hon : GOn ops vs o.guard) (hd : o.dst = some d) (hdn : Nat.blt d n = true)
  (hr : ∀ ρ w, Env vs ρ → (execOp ρ o).run P w = .ok (.enter f args) w) (hc : ∀ w, Hp w0 L w → Calls P f args w fun e w' => ∃ a b, e = .returned (v a b) ∧ F a b ∧ Hp w0 (L' a b) w')
  (h : ∀ a b, F a b → SxL P ops Q rest n ((d, v a b) :: vs) w0 (L' a b)) : SxL P ops Q (o :: rest) n vs w0 L :=
 AP (σ := α × β) (fun s => v s.1 s.2) (fun s => F s.1 s.2) (fun s => L' s.1 s.2) hon hd hdn hr (fun w H => (hc w H).mono fun _ _ ⟨a, b, h⟩ => ⟨(a, b), h⟩) (fun s hF => h s.1 s.2 hF)
theorem GL {σ : Type} {f : Nat} {args : Array Value} (v : σ → Value) (F : σ → Prop) (fF : σ → Ft) (hl : ∀ s, (fF s).Loc) (hc : ∀ w, Hp w0 L w → Calls P f args w fun E w' => ∃ s, E = .returned (v s) ∧ F s ∧ (∀ g ∈ (fF s).fp, w.heap.size ≤ g ∧ g < w'.heap.size) ∧ (fF s).φ w' ∧ Below w.heap.size w w') :
  ∀ w, Hp w0 L w → Calls P f args w fun E w' => ∃ s, E = .returned (v s) ∧ (F s ∧ ∀ g ∈ (fF s).fp, w0.heap.size ≤ g) ∧ Hp w0 (fF s :: L) w' := fun w H => (hc w H).mono fun E w' ⟨s, h1, h2, h3, h4, h5⟩ =>
 ⟨s, h1, ⟨h2, fun g hg => Nat.le_trans H.os.size (h3 g hg).1⟩, H.add h5 _ (hl s) (fun g hg => ⟨(h3 g hg).2, (h3 g hg).1⟩) h4⟩
end
end Go.Proofs.YteiaiilfekojfaaGreat.Sx
namespace Go.Proofs.YteiaiilfekojfaaGreat.Msg
open Go.RowKit Wire Sx DrawInv
def FB (base g : Nat) (a : Ms) (V I : Value) : Ft := ⟨g :: (V.ownBlock.toList ++ I.ownBlock.toList), ML base g a V I⟩
theorem SG {w w' : World} {base e sz n : Nat} {v : Value} {xs : List Value} (h : w.ownsRow base e sz v n xs) (hs : ∀ g ∈ v.ownBlock.toList, w'.heap[g]? = w.heap[g]?) : w'.ownsRow base e sz v n xs :=
 BF [] base e sz v n xs w w' (fun g hg => hs g (by simpa [BU] using hg)) h
theorem JV (base g : Nat) (a : Ms) (V I : Value) : (FB base g a V I).Loc := by
 intro w w' h hM
 obtain ⟨h1, h2, h3⟩ := hM
 exact ⟨(h g (List.mem_cons_self ..)).trans h1, SG h2 fun b hb => h b (List.mem_cons_of_mem _ (List.mem_append.2 (.inl hb))), SG h3 fun b hb => h b (List.mem_cons_of_mem _ (List.mem_append.2 (.inr hb)))⟩
theorem E8 {w0 : World} {base g : Nat} {a : Ms} {V I : Value} (hg : w0.heap.size ≤ g) (hV : OwnIn w0 [] V) (hI : OwnIn w0 [] I) : ∀ b ∈ (FB base g a V I).fp, w0.heap.size ≤ b := by
 intro b hb
 rcases List.mem_cons.1 hb with rfl | hb
 ·exact hg
 ·rcases List.mem_append.1 hb with hb | hb
  ·exact (hV b hb).resolve_left (by simp)
  ·exact (hI b hb).resolve_left (by simp)
theorem F3 (w : World) : OwnIn w [] (.slice none 0 0) := fun g hg => by cases hg
theorem JR {w0 w : World} {V V' : Value} (hs : w0.heap.size ≤ w.heap.size) (h : OwnIn w0 [] V) (h' : OwnIn w V.ownBlock.toList V') : OwnIn w0 [] V' := fun g hg => (h' g hg).elim (h g) fun h => .inr (Nat.le_trans hs h)
section
variable {w0 : World} {L : List Ft}
theorem VP {w w' : World} {i base g : Nat} {a a' : Ms} {V I V' I' : Value} {G : List Nat} (H : Hp w0 L w) (hi : nth L i = some (FB base g a V I)) (hg : w0.heap.size ≤ g) (hV : OwnIn w0 [] V) (hI : OwnIn w0 [] I) (hM : ML base g a' V' I' w') (hV' : OwnIn w V.ownBlock.toList V') (hI' : OwnIn w I.ownBlock.toList I')
  (ho : Outs G w w') (hG : ∀ b ∈ G, b ∈ (FB base g a V I).fp) : Hp w0 (putF L i (FB base g a' V' I')) w' := by
 refine H.chg hi _ (ho.mono fun b hb _ => hG b hb) (JV _ _ _ _ _) (fun b hb => ?_) (fun b hb => .inr (E8 hg hV hI b hb)) hM
 rcases List.mem_cons.1 hb with rfl | hb
 ·exact ⟨Blk.lt hM.1, .inl (List.mem_cons_self ..)⟩
 ·rcases List.mem_append.1 hb with hb | hb
  ·exact ⟨(BS hM.2.1 b hb).2, (hV' b hb).imp (fun h => List.mem_cons_of_mem _ (List.mem_append.2 (.inl h))) id⟩
  ·exact ⟨(BS hM.2.2 b hb).2, (hI' b hb).imp (fun h => List.mem_cons_of_mem _ (List.mem_append.2 (.inr h))) id⟩
theorem UM {f : Nat} {args : Array Value} {P : Program} {i base g : Nat} {a a' : Ms} {V I v : Value} (hi : nth L i = some (FB base g a V I)) (hg : w0.heap.size ≤ g) (hV : OwnIn w0 [] V) (hI : OwnIn w0 [] I)
  (hc : ∀ w, Hp w0 L w → Calls P f args w fun e w' => ∃ V' I', e = .returned v ∧ ML base g a' V' I' w' ∧ (OwnIn w V.ownBlock.toList V' ∧ OwnIn w I.ownBlock.toList I') ∧ Outs [g] w w') :
  ∀ w, Hp w0 L w → Calls P f args w fun E w' => ∃ V' I', E = .returned v ∧ (OwnIn w0 [] V' ∧ OwnIn w0 [] I') ∧ Hp w0 (putF L i (FB base g a' V' I')) w' := fun w H => (hc w H).mono fun E w' ⟨V', I', h1, h2, h3, h4⟩ =>
 ⟨V', I', h1, ⟨JR H.os.size hV h3.1, JR H.os.size hI h3.2⟩, VP H hi hg hV hI h2 h3.1 h3.2 h4 (fun b hb => by rw [List.mem_singleton.1 hb]; exact List.mem_cons_self ..)⟩
end
theorem Qa {w : World} {base g k : Nat} (h : (cell g 33 (msL (ms0 k) (.slice none 0 0) (.slice none 0 0))).φ w) : ML base g (ms0 k) (.slice none 0 0) (.slice none 0 0) w :=
 ⟨h, World.ownsRow_nil _ _ _ _, World.ownsRow_nil _ _ _ _⟩
theorem Ve (p : Pt) (base gr g : Nat) (r : Rd) (a : Ms) (V I : Value) (w : World) (hr : Blk w gr 157 (rdC r)) (hM : ML base g a V I w) (hne : gr ≠ g) (hb : base ≤ w.heap.size) (hG : Grows r a.votes.length ∧ Grows r a.items.length) :
  Calls Tryz.prog p.takeF #[.pointer (some ⟨gr, 0, none⟩), .pointer (some ⟨g, 0, none⟩)] w fun e w' => ∃ V' I', e = .returned (.tuple #[]) ∧ Blk w' gr 157 (rdC (p.take (a, r)).2) ∧ ML base g (p.take (a, r)).1 V' I' w' ∧ (OwnIn w V.ownBlock.toList V' ∧ OwnIn w I.ownBlock.toList I') ∧ Outs ([gr, g] ++ (V.ownBlock.toList ++ I.ownBlock.toList)) w w' := by
 obtain ⟨hg, hV, hI⟩ := hM
 have d1 := Hm hV hg (by decide)
 have d2 := Hm hI hg (by decide)
 have d3 := Hm hV hr (by decide)
 have d4 := Hm hI hr (by decide)
 have hrl : r.rest.length ≤ 1000000 := Nat.le_trans hG.1.h1 (by decide)
 obtain ⟨xk, xn, xr, xb, xs, xo, xv, wl, jl, ⟨da, db, dk, ds, dt, du, dz⟩, xc, xt⟩ := a
 dsimp only at hG
 have hkV : ∀ w', Outs [gr, g] w w' → w'.ownsRow base 92 4 V wl.length (wl.flatMap voL) := fun w' ho => IE hV ho fun b hb hm => by
  simp only [List.mem_cons, List.not_mem_nil, or_false] at hm
  rcases hm with rfl | rfl
  ·exact d3 hb
  ·exact d1 hb
 have hkI : ∀ w', Outs [gr, g] w w' → w'.ownsRow base 94 2 I jl.length (jl.flatMap imL) := fun w' ho => IE hI ho fun b hb hm => by
  simp only [List.mem_cons, List.not_mem_nil, or_false] at hm
  rcases hm with rfl | rfl
  ·exact d4 hb
  ·exact d2 hb
 have same : ∀ {e : Ending} {w' : World} {q : Ms × Rd}, q.1.votes = wl → q.1.items = jl → e = .returned (.tuple #[]) ∧ Blk w' gr 157 (rdC q.2) ∧ Blk w' g 33 (msL q.1 V I).toArray ∧ Outs [gr, g] w w' →
   ∃ V' I', e = .returned (.tuple #[]) ∧ Blk w' gr 157 (rdC q.2) ∧ ML base g q.1 V' I' w' ∧ (OwnIn w V.ownBlock.toList V' ∧ OwnIn w I.ownBlock.toList I') ∧ Outs ([gr, g] ++ (V.ownBlock.toList ++ I.ownBlock.toList)) w w' := by
  intro e w' q e1 e2 ⟨r1, r2, r3, r4⟩
  exact ⟨V, I, r1, r2, ⟨r3, by rw [e1]; exact hkV w' r4, by rw [e2]; exact hkI w' r4⟩, ⟨OwnIn.refl w V, OwnIn.refl w I⟩, r4.mono fun b hb _ => List.mem_append.2 (.inl hb)⟩
 cases p with
 | cmd => exact (Nj _ _ _ _ _ _ _ _ _ _ _ _ _ _ _ _ _ _ _ _ _ _ _ w hr hg hne hrl).mono fun _ _ h => same rfl rfl h
 | name => exact (TB _ _ _ _ _ _ _ _ _ _ _ _ _ _ _ _ _ _ _ _ _ _ _ w hr hg hne hrl).mono fun _ _ h => same rfl rfl h
 | reply => exact (QN _ _ _ _ _ _ _ _ _ _ _ _ _ _ _ _ _ _ _ _ _ _ _ w hr hg hne hrl).mono fun _ _ h => same rfl rfl h
 | node => exact (TA _ _ _ _ _ _ _ _ _ _ _ _ _ _ _ _ _ _ _ _ _ _ _ w hr hg hne hrl).mono fun _ _ h => same rfl rfl h
 | turn => exact (NW _ _ _ _ _ _ _ _ _ _ _ _ _ _ _ _ _ _ _ _ _ _ _ w hr hg hne hrl).mono fun _ _ h => same rfl rfl h
 | floor => exact (QP _ _ _ _ _ _ _ _ _ _ _ _ _ _ _ _ _ _ _ _ _ _ _ w hr hg hne hrl).mono fun _ _ h => same rfl rfl h
 | slot l => exact (T9 _ _ _ _ _ _ _ _ _ _ _ _ _ _ _ _ _ _ _ _ _ _ _ l w hr hg hne hrl).mono fun _ _ h => same rfl rfl h
 | value => exact (QM _ _ _ _ _ _ _ _ _ _ _ _ _ _ _ _ _ _ _ _ _ _ _ w hr hg hne hrl).mono fun _ _ h => same rfl rfl h
 | votes =>
  refine (QL base _ _ _ _ _ _ _ _ _ _ _ _ _ _ _ _ _ _ _ _ _ _ _ w hr hg hne hG.1 hb hV d3 d1).mono fun e w' h => ?_
  obtain ⟨V', r1, r2, r3, r4, r5, r6⟩ := h
  refine ⟨V', I, r1, r2, ⟨r3, r4, IE hI r6 fun b hbm hm => ?_⟩, ⟨r5, OwnIn.refl w I⟩, r6.mono fun b hb _ => ?_⟩
  ·simp only [List.mem_append, List.mem_cons, List.not_mem_nil, or_false] at hm
   rcases hm with (rfl | rfl) | hm
   ·exact d4 hbm
   ·exact d2 hbm
   ·exact JS hV hI (by decide) b hm hbm
  ·rcases List.mem_append.1 hb with h | h
   ·exact List.mem_append.2 (.inl h)
   ·exact List.mem_append.2 (.inr (List.mem_append.2 (.inl h)))
 | items =>
  refine (QO base _ _ _ _ _ _ _ _ _ _ _ _ _ _ _ _ _ _ _ _ _ _ _ w hr hg hne hG.2 hb hI d4 d2).mono fun e w' h => ?_
  obtain ⟨I', r1, r2, r3, r4, r5, r6⟩ := h
  refine ⟨V, I', r1, r2, ⟨r3, IE hV r6 fun b hbm hm => ?_, r4⟩, ⟨OwnIn.refl w V, r5⟩, r6.mono fun b hb _ => ?_⟩
  ·simp only [List.mem_append, List.mem_cons, List.not_mem_nil, or_false] at hm
   rcases hm with (rfl | rfl) | hm
   ·exact d3 hbm
   ·exact d1 hbm
   ·exact JS hV hI (by decide) b hbm hm
  ·rcases List.mem_append.1 hb with h | h
   ·exact List.mem_append.2 (.inl h)
   ·exact List.mem_append.2 (.inr (List.mem_append.2 (.inr h)))
end Go.Proofs.YteiaiilfekojfaaGreat.Msg
end
section
set_option linter.unusedVariables false
set_option linter.unusedSimpArgs false
namespace Go.Proofs.YteiaiilfekojfaaGreat.Msg
open Go.RowKit Sx Wire DrawInv
set_option maxRecDepth 100000 in
set_option maxHeartbeats 4000000 in
theorem Yd   (w : World) : Calls Tryz.prog 78 #[] w fun e w' => e = .returned (.agg (ptL .cmd 0).toArray) ∧ Below w.heap.size w w' := by
 refine A0 (n := 2) _ Tryz.func78 rfl rfl rfl (Hp.start w) (Ae (Ac ?_))
 refine zA AY rfl fun g1 hg1 => ?_
 refine Ad (Aa (Ae (Ac (Ag trivial rfl rfl (fun ρ w E H => Bh (cs := [.func (.func 110) #[] #[], .func (.func 112) #[] #[], .func (.func 114) #[] #[], .func (.func 115) #[] #[]]) E rfl rfl (by kernel_rfl)) (Bz (i := 0) trivial rfl rfl rfl rfl rfl Az rfl rfl rfl (Ad (Aa (Am ?_))))))))
 refine Ai _ (fun a w K H => Ja K [.agg #[.func (.func 110) #[] #[], .func (.func 112) #[] #[], .func (.func 114) #[] #[], .func (.func 115) #[] #[]]] rfl ⟨⟨_, rfl, AM (H.get (i := 0) rfl) Tryz.underlying101 rfl Az⟩, trivial⟩) (fun w H => ?_)
 exact ⟨rfl, H.toBelow ⟨(zq hg1), trivial⟩⟩

set_option maxRecDepth 100000 in
set_option maxHeartbeats 4000000 in
theorem SJ   (w : World) : Calls Tryz.prog 79 #[] w fun e w' => e = .returned (.agg (ptL .name 0).toArray) ∧ Below w.heap.size w w' := by
 refine A0 (n := 2) _ Tryz.func79 rfl rfl rfl (Hp.start w) (Ae (Ac ?_))
 refine zA AY rfl fun g1 hg1 => ?_
 refine Ad (Aa (Ae (Ac (Ag trivial rfl rfl (fun ρ w E H => Bh (cs := [.func (.func 117) #[] #[], .func (.func 118) #[] #[], .func (.func 119) #[] #[], .func (.func 120) #[] #[]]) E rfl rfl (by kernel_rfl)) (Bz (i := 0) trivial rfl rfl rfl rfl rfl Az rfl rfl rfl (Ad (Aa (Am ?_))))))))
 refine Ai _ (fun a w K H => Ja K [.agg #[.func (.func 117) #[] #[], .func (.func 118) #[] #[], .func (.func 119) #[] #[], .func (.func 120) #[] #[]]] rfl ⟨⟨_, rfl, AM (H.get (i := 0) rfl) Tryz.underlying101 rfl Az⟩, trivial⟩) (fun w H => ?_)
 exact ⟨rfl, H.toBelow ⟨(zq hg1), trivial⟩⟩

set_option maxRecDepth 100000 in
set_option maxHeartbeats 4000000 in
theorem VH   (w : World) : Calls Tryz.prog 80 #[] w fun e w' => e = .returned (.agg (ptL .reply 0).toArray) ∧ Below w.heap.size w w' := by
 refine A0 (n := 2) _ Tryz.func80 rfl rfl rfl (Hp.start w) (Ae (Ac ?_))
 refine zA AY rfl fun g1 hg1 => ?_
 refine Ad (Aa (Ae (Ac (Ag trivial rfl rfl (fun ρ w E H => Bh (cs := [.func (.func 121) #[] #[], .func (.func 123) #[] #[], .func (.func 125) #[] #[], .func (.func 126) #[] #[]]) E rfl rfl (by kernel_rfl)) (Bz (i := 0) trivial rfl rfl rfl rfl rfl Az rfl rfl rfl (Ad (Aa (Am ?_))))))))
 refine Ai _ (fun a w K H => Ja K [.agg #[.func (.func 121) #[] #[], .func (.func 123) #[] #[], .func (.func 125) #[] #[], .func (.func 126) #[] #[]]] rfl ⟨⟨_, rfl, AM (H.get (i := 0) rfl) Tryz.underlying101 rfl Az⟩, trivial⟩) (fun w H => ?_)
 exact ⟨rfl, H.toBelow ⟨(zq hg1), trivial⟩⟩

set_option maxRecDepth 100000 in
set_option maxHeartbeats 4000000 in
theorem Xe   (w : World) : Calls Tryz.prog 81 #[] w fun e w' => e = .returned (.agg (ptL .node 0).toArray) ∧ Below w.heap.size w w' := by
 refine A0 (n := 2) _ Tryz.func81 rfl rfl rfl (Hp.start w) (Ae (Ac ?_))
 refine zA AY rfl fun g1 hg1 => ?_
 refine Ad (Aa (Ae (Ac (Ag trivial rfl rfl (fun ρ w E H => Bh (cs := [.func (.func 127) #[] #[], .func (.func 128) #[] #[], .func (.func 129) #[] #[], .func (.func 130) #[] #[]]) E rfl rfl (by kernel_rfl)) (Bz (i := 0) trivial rfl rfl rfl rfl rfl Az rfl rfl rfl (Ad (Aa (Am ?_))))))))
 refine Ai _ (fun a w K H => Ja K [.agg #[.func (.func 127) #[] #[], .func (.func 128) #[] #[], .func (.func 129) #[] #[], .func (.func 130) #[] #[]]] rfl ⟨⟨_, rfl, AM (H.get (i := 0) rfl) Tryz.underlying101 rfl Az⟩, trivial⟩) (fun w H => ?_)
 exact ⟨rfl, H.toBelow ⟨(zq hg1), trivial⟩⟩

set_option maxRecDepth 100000 in
set_option maxHeartbeats 4000000 in
theorem JU   (w : World) : Calls Tryz.prog 82 #[] w fun e w' => e = .returned (.agg (ptL .turn 0).toArray) ∧ Below w.heap.size w w' := by
 refine A0 (n := 2) _ Tryz.func82 rfl rfl rfl (Hp.start w) (Ae (Ac ?_))
 refine zA AY rfl fun g1 hg1 => ?_
 refine Ad (Aa (Ae (Ac (Ag trivial rfl rfl (fun ρ w E H => Bh (cs := [.func (.func 131) #[] #[], .func (.func 133) #[] #[], .func (.func 135) #[] #[], .func (.func 136) #[] #[]]) E rfl rfl (by kernel_rfl)) (Bz (i := 0) trivial rfl rfl rfl rfl rfl Az rfl rfl rfl (Ad (Aa (Am ?_))))))))
 refine Ai _ (fun a w K H => Ja K [.agg #[.func (.func 131) #[] #[], .func (.func 133) #[] #[], .func (.func 135) #[] #[], .func (.func 136) #[] #[]]] rfl ⟨⟨_, rfl, AM (H.get (i := 0) rfl) Tryz.underlying101 rfl Az⟩, trivial⟩) (fun w H => ?_)
 exact ⟨rfl, H.toBelow ⟨(zq hg1), trivial⟩⟩

set_option maxRecDepth 100000 in
set_option maxHeartbeats 4000000 in
theorem PY   (w : World) : Calls Tryz.prog 84 #[] w fun e w' => e = .returned (.agg (ptL .floor 0).toArray) ∧ Below w.heap.size w w' := by
 refine A0 (n := 2) _ Tryz.func84 rfl rfl rfl (Hp.start w) (Ae (Ac ?_))
 refine zA AY rfl fun g1 hg1 => ?_
 refine Ad (Aa (Ae (Ac (Ag trivial rfl rfl (fun ρ w E H => Bh (cs := [.func (.func 143) #[] #[], .func (.func 144) #[] #[], .func (.func 145) #[] #[], .func (.func 146) #[] #[]]) E rfl rfl (by kernel_rfl)) (Bz (i := 0) trivial rfl rfl rfl rfl rfl Az rfl rfl rfl (Ad (Aa (Am ?_))))))))
 refine Ai _ (fun a w K H => Ja K [.agg #[.func (.func 143) #[] #[], .func (.func 144) #[] #[], .func (.func 145) #[] #[], .func (.func 146) #[] #[]]] rfl ⟨⟨_, rfl, AM (H.get (i := 0) rfl) Tryz.underlying101 rfl Az⟩, trivial⟩) (fun w H => ?_)
 exact ⟨rfl, H.toBelow ⟨(zq hg1), trivial⟩⟩

set_option maxRecDepth 100000 in
set_option maxHeartbeats 4000000 in
theorem Ir (least : Nat)  (w : World) : Calls Tryz.prog 83 #[.int .u64 (least : Int)] w fun e w' => ∃ g, e = .returned (.agg (ptL (.slot least) g).toArray) ∧ w.heap.size ≤ g ∧ g < w'.heap.size ∧ Blk w' g 22 #[.int .u64 (least : Int)] ∧ Below w.heap.size w w' := by
 refine A0 (n := 5) _ Tryz.func83 rfl rfl rfl (Hp.start w) (Ae (Ac ?_))
 refine zB rfl fun g1 hg1 => ?_
 refine zA AY rfl fun g2 hg2 => ?_
 refine Ad (Aa (Ae (Ac (Ag (v := .func (.func 142) #[] #[.pointer (some ⟨g1, 0, none⟩)]) trivial rfl rfl (fun ρ w E H => MD E rfl rfl rfl) (Ag trivial rfl rfl (fun ρ w E H => Bh (cs := [.func (.func 138) #[] #[], .func (.func 139) #[] #[], .func (.func 141) #[] #[], .func (.func 142) #[] #[.pointer (some ⟨g1, 0, none⟩)]]) E rfl rfl (by kernel_rfl)) (Bz (i := 0) trivial rfl rfl rfl rfl rfl Az rfl rfl rfl (Ad (Aa (Am ?_)))))))))
 refine Ai _ (fun a w K H => Ja K [.agg #[.func (.func 138) #[] #[], .func (.func 139) #[] #[], .func (.func 141) #[] #[], .func (.func 142) #[] #[.pointer (some ⟨g1, 0, none⟩)]]] rfl ⟨⟨_, rfl, AM (H.get (i := 0) rfl) Tryz.underlying101 rfl Az⟩, trivial⟩) (fun w H => ?_)
 have hb : Blk w g1 22 _ := H.get (i := 1) rfl
 exact ⟨g1, rfl, hg1, Blk.lt hb, hb, H.toBelow ⟨(zq hg2), (zq hg1), trivial⟩⟩

set_option maxRecDepth 100000 in
set_option maxHeartbeats 4000000 in
theorem Nz   (w : World) : Calls Tryz.prog 86 #[] w fun e w' => e = .returned (.agg (ptL .value 0).toArray) ∧ Below w.heap.size w w' := by
 refine A0 (n := 2) _ Tryz.func86 rfl rfl rfl (Hp.start w) (Ae (Ac ?_))
 refine zA AY rfl fun g1 hg1 => ?_
 refine Ad (Aa (Ae (Ac (Ag trivial rfl rfl (fun ρ w E H => Bh (cs := [.func (.func 152) #[] #[], .func (.func 153) #[] #[], .func (.func 154) #[] #[], .func (.func 155) #[] #[]]) E rfl rfl (by kernel_rfl)) (Bz (i := 0) trivial rfl rfl rfl rfl rfl Az rfl rfl rfl (Ad (Aa (Am ?_))))))))
 refine Ai _ (fun a w K H => Ja K [.agg #[.func (.func 152) #[] #[], .func (.func 153) #[] #[], .func (.func 154) #[] #[], .func (.func 155) #[] #[]]] rfl ⟨⟨_, rfl, AM (H.get (i := 0) rfl) Tryz.underlying101 rfl Az⟩, trivial⟩) (fun w H => ?_)
 exact ⟨rfl, H.toBelow ⟨(zq hg1), trivial⟩⟩

set_option maxRecDepth 100000 in
set_option maxHeartbeats 4000000 in
theorem VG   (w : World) : Calls Tryz.prog 85 #[] w fun e w' => e = .returned (.agg (ptL .votes 0).toArray) ∧ Below w.heap.size w w' := by
 refine A0 (n := 2) _ Tryz.func85 rfl rfl rfl (Hp.start w) (Ae (Ac ?_))
 refine zA AY rfl fun g1 hg1 => ?_
 refine Ad (Aa (Ae (Ac (Ag trivial rfl rfl (fun ρ w E H => Bh (cs := [.func (.func 147) #[] #[], .func (.func 148) #[] #[], .func (.func 149) #[] #[], .func (.func 151) #[] #[]]) E rfl rfl (by kernel_rfl)) (Bz (i := 0) trivial rfl rfl rfl rfl rfl Az rfl rfl rfl (Ad (Aa (Am ?_))))))))
 refine Ai _ (fun a w K H => Ja K [.agg #[.func (.func 147) #[] #[], .func (.func 148) #[] #[], .func (.func 149) #[] #[], .func (.func 151) #[] #[]]] rfl ⟨⟨_, rfl, AM (H.get (i := 0) rfl) Tryz.underlying101 rfl Az⟩, trivial⟩) (fun w H => ?_)
 exact ⟨rfl, H.toBelow ⟨(zq hg1), trivial⟩⟩

set_option maxRecDepth 100000 in
set_option maxHeartbeats 4000000 in
theorem VI   (w : World) : Calls Tryz.prog 87 #[] w fun e w' => e = .returned (.agg (ptL .items 0).toArray) ∧ Below w.heap.size w w' := by
 refine A0 (n := 2) _ Tryz.func87 rfl rfl rfl (Hp.start w) (Ae (Ac ?_))
 refine zA AY rfl fun g1 hg1 => ?_
 refine Ad (Aa (Ae (Ac (Ag trivial rfl rfl (fun ρ w E H => Bh (cs := [.func (.func 156) #[] #[], .func (.func 157) #[] #[], .func (.func 158) #[] #[], .func (.func 160) #[] #[]]) E rfl rfl (by kernel_rfl)) (Bz (i := 0) trivial rfl rfl rfl rfl rfl Az rfl rfl rfl (Ad (Aa (Am ?_))))))))
 refine Ai _ (fun a w K H => Ja K [.agg #[.func (.func 156) #[] #[], .func (.func 157) #[] #[], .func (.func 158) #[] #[], .func (.func 160) #[] #[]]] rfl ⟨⟨_, rfl, AM (H.get (i := 0) rfl) Tryz.underlying101 rfl Az⟩, trivial⟩) (fun w H => ?_)
 exact ⟨rfl, H.toBelow ⟨(zq hg1), trivial⟩⟩

set_option maxRecDepth 100000 in
set_option maxHeartbeats 4000000 in
theorem FO (v : Value)  (w : World) : Calls Tryz.prog 77 #[v] w fun e w' => e = .returned v ∧ Below w.heap.size w w' := by
 refine A0 (n := 4) _ Tryz.func77 rfl rfl rfl (Hp.start w) (Ae (Ac (za rfl (Ad (Aa (Ae (Ac (zm rfl (za rfl ?_)))))))))
 refine Ad (Aa (Am ?_))
 refine Ai (v) (fun a w K H => BC K rfl rfl) (fun w H => ?_)
 exact ⟨rfl, H.toBelow trivial⟩

set_option maxRecDepth 100000 in
set_option maxHeartbeats 4000000 in
theorem Ud (k : Nat)  (w : World) : Calls Tryz.prog 43 #[.int .u8 (k : Int)] w fun e w' => ∃ A c gb q, e = .returned (.slice A (List.length q) c) ∧ q.map (·.1) = AK k ∧ (q ≠ [] → A = some ⟨gb, 0, none⟩) ∧ (∀ g ∈ (Eg gb q).fp, w.heap.size ≤ g ∧ g < w'.heap.size) ∧ (Eg gb q).φ w' ∧ Below w.heap.size w w' := by
 refine A0 (n := 77) _ Tryz.func43 rfl rfl rfl (Hp.start w) (Ae (Ac (za rfl (Ad (Aa (Ae (Ae (Ac (zm rfl ?_)))))))))
 refine Ad (Aa (AG (Ae (Ac ?_))))
 refine zb rfl fun c5 hc5 => ?_
 refine za rfl (Ad (Aa ?_))
 cases c5
 ·refine Ah rfl (Ae (Ac ?_))
  refine zb rfl fun c10 hc10 => ?_
  refine za rfl (Ad (Aa ?_))
  cases c10
  ·refine Ah rfl (Ae (Ac ?_))
   refine zb rfl fun c16 hc16 => ?_
   refine za rfl (Ad (Aa ?_))
   cases c16
   ·refine Ah rfl (Ae (Ae (Ac ?_)))
    refine zb rfl fun c22 hc22 => ?_
    refine za rfl (Ad (Aa ?_))
    cases c22
    ·refine Ah rfl (Ac ?_)
     refine zb rfl fun c23 hc23 => ?_
     refine za rfl (Ad (Aa ?_))
     cases c23
     ·refine Ah rfl (Ae (Ac ?_))
      refine zb rfl fun c29 hc29 => ?_
      refine za rfl (Ad (Aa ?_))
      cases c29
      ·refine Ah rfl (Ae (Ac ?_))
       refine zb rfl fun c37 hc37 => ?_
       refine za rfl (Ad (Aa ?_))
       cases c37
       ·refine Ah rfl (Ae (Ac ?_))
        refine zb rfl fun c42 hc42 => ?_
        refine za rfl (Ad (Aa ?_))
        cases c42
        ·refine Ah rfl (Ae (Ac ?_))
         refine zb rfl fun c49 hc49 => ?_
         refine za rfl (Ad (Aa ?_))
         cases c49
         ·refine Ah rfl (Ae (Ac ?_))
          refine zb rfl fun c54 hc54 => ?_
          refine za rfl (Ad (Aa ?_))
          cases c54
          ·refine Ah rfl (Ae (Ac ?_))
           refine zb rfl fun c59 hc59 => ?_
           refine za rfl (Ad (Aa ?_))
           cases c59
           ·refine Ah rfl (Ae (Ac ?_))
            refine zb rfl fun c65 hc65 => ?_
            refine za rfl (Ad (Aa ?_))
            cases c65
            ·refine Ah rfl (Ae (Ac ?_))
             refine zb rfl fun c71 hc71 => ?_
             refine za rfl (Ad (Aa ?_))
             cases c71
             ·refine Ah rfl (Ax (AA (Aa (Ae (Ac (za rfl (Ad (Aa (Am ?_)))))))))
              refine Ai (.slice none 0 0) (fun a w K H => BC K rfl rfl) (fun w H => ?_)
              refine ⟨none, 0, 0, [], rfl, ?_, fun h => absurd rfl h, by simp [Eg, Gl], ⟨fun h => absurd rfl h, by simp⟩, H.toBelow trivial⟩
              have n0 := hc5
              have n1 := hc10
              have n2 := hc16
              have n3 := hc22
              have n4 := hc23
              have n5 := hc29
              have n6 := hc37
              have n7 := hc42
              have n8 := hc49
              have n9 := hc54
              have n10 := hc59
              have n11 := hc65
              have n12 := hc71
              simp [AB] at n0 n1 n2 n3 n4 n5 n6 n7 n8 n9 n10 n11 n12
              show [] = AK k
              unfold AK
              repeat rw [if_neg (by omega)]
             ·refine Ap rfl (Ae (Ac (Ao (v := .agg #[.func (.func 143) #[] #[], .func (.func 144) #[] #[], .func (.func 145) #[] #[], .func (.func 146) #[] #[]]) trivial rfl rfl (zk GW rfl) (fun w H => PY w) ?_)))
              refine AP (σ := Nat) (fun s73 => .agg #[.func (.func 138) #[] #[], .func (.func 139) #[] #[], .func (.func 141) #[] #[], .func (.func 142) #[] #[.pointer (some ⟨s73, 0, none⟩)]]) (fun s73 => True ∧ ∀ b ∈ (cell s73 22 [.int .u64 ((1 : Nat) : Int)]).fp, w.heap.size ≤ b) (fun s73 => _) trivial rfl rfl (zk Dh rfl) (GL (fun s73 => .agg #[.func (.func 138) #[] #[], .func (.func 139) #[] #[], .func (.func 141) #[] #[], .func (.func 142) #[] #[.pointer (some ⟨s73, 0, none⟩)]]) (fun _ => True) (fun s73 => cell s73 22 [.int .u64 ((1 : Nat) : Int)]) (fun _ => BR _ _ _) (fun w H => (Ir 1 w).mono fun _ _ ⟨g, h1, h2, h3, h4, h5⟩ => ⟨g, h1, trivial, fun b hb => by rw [List.mem_singleton.1 hb]; exact ⟨h2, h3⟩, h4, h5⟩)) fun s73 hs73 => ?_
              have fs73 : w.heap.size ≤ s73 := hs73.2 _ (List.mem_singleton.2 rfl)
              refine Ao (v := .agg #[.func (.func 152) #[] #[], .func (.func 153) #[] #[], .func (.func 154) #[] #[], .func (.func 155) #[] #[]]) trivial rfl rfl (zk FK rfl) (fun w H => Nz w) ?_
              refine Dx (cs := [.func (.func 143) #[] #[], .func (.func 144) #[] #[], .func (.func 145) #[] #[], .func (.func 146) #[] #[], .func (.func 138) #[] #[], .func (.func 139) #[] #[], .func (.func 141) #[] #[], .func (.func 142) #[] #[.pointer (some ⟨s73, 0, none⟩)], .func (.func 152) #[] #[], .func (.func 153) #[] #[], .func (.func 154) #[] #[], .func (.func 155) #[] #[]]) trivial rfl rfl (fun ρ w E H => AV E rfl rfl Tryz.underlying95 Az AY rfl rfl (by kernel_rfl)) fun g1 hg1 => ?_
              refine Ao (v := .slice (some ⟨g1, 0, none⟩) 3 3) trivial rfl rfl (zk Cc rfl) (fun w H => FO _ w) (za rfl (Ad (Aa (Am (AU (Ak ?_))))))
              refine Ai (.slice (some ⟨g1, 0, none⟩) 3 3) (fun a w K H => BC K rfl rfl) (fun w H => ?_)
              have hk := hc71
              simp [AB] at hk
              refine ⟨_, _, g1, [(.floor, 0), (.slot 1, s73), (.value, 0)], rfl, ?_, fun _ => rfl, ?_, ⟨fun _ => H.get (i := 0) rfl, ?_⟩, H.toBelow ⟨(zq hg1), (zq fs73), trivial⟩⟩
              ·obtain rfl : k = 13 := by omega
               rfl
              ·have l0 := Blk.lt (show Blk _ g1 _ _ from H.get (i := 0) rfl)
               have ls73 := Blk.lt (show Blk _ s73 _ _ from H.get (i := 1) rfl)
               intro b hb
               simp [Eg, Gl, Pt.caps] at hb
               omega
              ·intro x hx
               simp only [List.mem_cons, List.not_mem_nil, or_false] at hx
               rcases hx with rfl | rfl | rfl
               ·exact trivial
               ·exact H.get (i := 1) rfl
               ·exact trivial
            ·refine Ap rfl (Ae (Ac ?_))
             refine AP (σ := Nat) (fun s66 => .agg #[.func (.func 138) #[] #[], .func (.func 139) #[] #[], .func (.func 141) #[] #[], .func (.func 142) #[] #[.pointer (some ⟨s66, 0, none⟩)]]) (fun s66 => True ∧ ∀ b ∈ (cell s66 22 [.int .u64 ((1 : Nat) : Int)]).fp, w.heap.size ≤ b) (fun s66 => _) trivial rfl rfl (zk Dh rfl) (GL (fun s66 => .agg #[.func (.func 138) #[] #[], .func (.func 139) #[] #[], .func (.func 141) #[] #[], .func (.func 142) #[] #[.pointer (some ⟨s66, 0, none⟩)]]) (fun _ => True) (fun s66 => cell s66 22 [.int .u64 ((1 : Nat) : Int)]) (fun _ => BR _ _ _) (fun w H => (Ir 1 w).mono fun _ _ ⟨g, h1, h2, h3, h4, h5⟩ => ⟨g, h1, trivial, fun b hb => by rw [List.mem_singleton.1 hb]; exact ⟨h2, h3⟩, h4, h5⟩)) fun s66 hs66 => ?_
             have fs66 : w.heap.size ≤ s66 := hs66.2 _ (List.mem_singleton.2 rfl)
             refine Ao (v := .agg #[.func (.func 152) #[] #[], .func (.func 153) #[] #[], .func (.func 154) #[] #[], .func (.func 155) #[] #[]]) trivial rfl rfl (zk FK rfl) (fun w H => Nz w) ?_
             refine Dx (cs := [.func (.func 138) #[] #[], .func (.func 139) #[] #[], .func (.func 141) #[] #[], .func (.func 142) #[] #[.pointer (some ⟨s66, 0, none⟩)], .func (.func 152) #[] #[], .func (.func 153) #[] #[], .func (.func 154) #[] #[], .func (.func 155) #[] #[]]) trivial rfl rfl (fun ρ w E H => AV E rfl rfl Tryz.underlying95 Az AY rfl rfl (by kernel_rfl)) fun g2 hg2 => ?_
             refine Ao (v := .slice (some ⟨g2, 0, none⟩) 2 2) trivial rfl rfl (zk Cc rfl) (fun w H => FO _ w) (za rfl (Ad (Aa (Am (AU (Ak ?_))))))
             refine Ai (.slice (some ⟨g2, 0, none⟩) 2 2) (fun a w K H => BC K rfl rfl) (fun w H => ?_)
             have hk := hc65
             simp [AB] at hk
             refine ⟨_, _, g2, [(.slot 1, s66), (.value, 0)], rfl, ?_, fun _ => rfl, ?_, ⟨fun _ => H.get (i := 0) rfl, ?_⟩, H.toBelow ⟨(zq hg2), (zq fs66), trivial⟩⟩
             ·obtain rfl : k = 12 := by omega
              rfl
             ·have l0 := Blk.lt (show Blk _ g2 _ _ from H.get (i := 0) rfl)
              have ls66 := Blk.lt (show Blk _ s66 _ _ from H.get (i := 1) rfl)
              intro b hb
              simp [Eg, Gl, Pt.caps] at hb
              omega
             ·intro x hx
              simp only [List.mem_cons, List.not_mem_nil, or_false] at hx
              rcases hx with rfl | rfl
              ·exact H.get (i := 1) rfl
              ·exact trivial
           ·refine Ap rfl (Ae (Ac (Ao (v := .agg #[.func (.func 131) #[] #[], .func (.func 133) #[] #[], .func (.func 135) #[] #[], .func (.func 136) #[] #[]]) trivial rfl rfl (zk DU rfl) (fun w H => JU w) ?_)))
            refine AP (σ := Nat) (fun s61 => .agg #[.func (.func 138) #[] #[], .func (.func 139) #[] #[], .func (.func 141) #[] #[], .func (.func 142) #[] #[.pointer (some ⟨s61, 0, none⟩)]]) (fun s61 => True ∧ ∀ b ∈ (cell s61 22 [.int .u64 ((0 : Nat) : Int)]).fp, w.heap.size ≤ b) (fun s61 => _) trivial rfl rfl (zk Dh rfl) (GL (fun s61 => .agg #[.func (.func 138) #[] #[], .func (.func 139) #[] #[], .func (.func 141) #[] #[], .func (.func 142) #[] #[.pointer (some ⟨s61, 0, none⟩)]]) (fun _ => True) (fun s61 => cell s61 22 [.int .u64 ((0 : Nat) : Int)]) (fun _ => BR _ _ _) (fun w H => (Ir 0 w).mono fun _ _ ⟨g, h1, h2, h3, h4, h5⟩ => ⟨g, h1, trivial, fun b hb => by rw [List.mem_singleton.1 hb]; exact ⟨h2, h3⟩, h4, h5⟩)) fun s61 hs61 => ?_
            have fs61 : w.heap.size ≤ s61 := hs61.2 _ (List.mem_singleton.2 rfl)
            refine Dx (cs := [.func (.func 131) #[] #[], .func (.func 133) #[] #[], .func (.func 135) #[] #[], .func (.func 136) #[] #[], .func (.func 138) #[] #[], .func (.func 139) #[] #[], .func (.func 141) #[] #[], .func (.func 142) #[] #[.pointer (some ⟨s61, 0, none⟩)]]) trivial rfl rfl (fun ρ w E H => AV E rfl rfl Tryz.underlying95 Az AY rfl rfl (by kernel_rfl)) fun g3 hg3 => ?_
            refine Ao (v := .slice (some ⟨g3, 0, none⟩) 2 2) trivial rfl rfl (zk Cc rfl) (fun w H => FO _ w) (za rfl (Ad (Aa (Am (AU (Ak ?_))))))
            refine Ai (.slice (some ⟨g3, 0, none⟩) 2 2) (fun a w K H => BC K rfl rfl) (fun w H => ?_)
            have hk := hc59
            simp [AB] at hk
            refine ⟨_, _, g3, [(.turn, 0), (.slot 0, s61)], rfl, ?_, fun _ => rfl, ?_, ⟨fun _ => H.get (i := 0) rfl, ?_⟩, H.toBelow ⟨(zq hg3), (zq fs61), trivial⟩⟩
            ·obtain rfl : k = 11 := by omega
             rfl
            ·have l0 := Blk.lt (show Blk _ g3 _ _ from H.get (i := 0) rfl)
             have ls61 := Blk.lt (show Blk _ s61 _ _ from H.get (i := 1) rfl)
             intro b hb
             simp [Eg, Gl, Pt.caps] at hb
             omega
            ·intro x hx
             simp only [List.mem_cons, List.not_mem_nil, or_false] at hx
             rcases hx with rfl | rfl
             ·exact trivial
             ·exact H.get (i := 1) rfl
          ·refine Ap rfl (Ae (Ac ?_))
           refine AP (σ := Nat) (fun s55 => .agg #[.func (.func 138) #[] #[], .func (.func 139) #[] #[], .func (.func 141) #[] #[], .func (.func 142) #[] #[.pointer (some ⟨s55, 0, none⟩)]]) (fun s55 => True ∧ ∀ b ∈ (cell s55 22 [.int .u64 ((0 : Nat) : Int)]).fp, w.heap.size ≤ b) (fun s55 => _) trivial rfl rfl (zk Dh rfl) (GL (fun s55 => .agg #[.func (.func 138) #[] #[], .func (.func 139) #[] #[], .func (.func 141) #[] #[], .func (.func 142) #[] #[.pointer (some ⟨s55, 0, none⟩)]]) (fun _ => True) (fun s55 => cell s55 22 [.int .u64 ((0 : Nat) : Int)]) (fun _ => BR _ _ _) (fun w H => (Ir 0 w).mono fun _ _ ⟨g, h1, h2, h3, h4, h5⟩ => ⟨g, h1, trivial, fun b hb => by rw [List.mem_singleton.1 hb]; exact ⟨h2, h3⟩, h4, h5⟩)) fun s55 hs55 => ?_
           have fs55 : w.heap.size ≤ s55 := hs55.2 _ (List.mem_singleton.2 rfl)
           refine Dx (cs := [.func (.func 138) #[] #[], .func (.func 139) #[] #[], .func (.func 141) #[] #[], .func (.func 142) #[] #[.pointer (some ⟨s55, 0, none⟩)]]) trivial rfl rfl (fun ρ w E H => AV E rfl rfl Tryz.underlying95 Az AY rfl rfl (by kernel_rfl)) fun g4 hg4 => ?_
           refine Ao (v := .slice (some ⟨g4, 0, none⟩) 1 1) trivial rfl rfl (zk Cc rfl) (fun w H => FO _ w) (za rfl (Ad (Aa (Am (AU (Ak ?_))))))
           refine Ai (.slice (some ⟨g4, 0, none⟩) 1 1) (fun a w K H => BC K rfl rfl) (fun w H => ?_)
           have hk := hc54
           simp [AB] at hk
           refine ⟨_, _, g4, [(.slot 0, s55)], rfl, ?_, fun _ => rfl, ?_, ⟨fun _ => H.get (i := 0) rfl, ?_⟩, H.toBelow ⟨(zq hg4), (zq fs55), trivial⟩⟩
           ·obtain rfl : k = 10 := by omega
            rfl
           ·have l0 := Blk.lt (show Blk _ g4 _ _ from H.get (i := 0) rfl)
            have ls55 := Blk.lt (show Blk _ s55 _ _ from H.get (i := 1) rfl)
            intro b hb
            simp [Eg, Gl, Pt.caps] at hb
            omega
           ·intro x hx
            simp only [List.mem_cons, List.not_mem_nil, or_false] at hx
            subst hx
            exact H.get (i := 1) rfl
         ·refine Ap rfl (Ae (Ac (Ao (v := .agg #[.func (.func 156) #[] #[], .func (.func 157) #[] #[], .func (.func 158) #[] #[], .func (.func 160) #[] #[]]) trivial rfl rfl (zk J9 rfl) (fun w H => VI w) ?_)))
          refine Dx (cs := [.func (.func 156) #[] #[], .func (.func 157) #[] #[], .func (.func 158) #[] #[], .func (.func 160) #[] #[]]) trivial rfl rfl (fun ρ w E H => AV E rfl rfl Tryz.underlying95 Az AY rfl rfl (by kernel_rfl)) fun g5 hg5 => ?_
          refine Ao (v := .slice (some ⟨g5, 0, none⟩) 1 1) trivial rfl rfl (zk Cc rfl) (fun w H => FO _ w) (za rfl (Ad (Aa (Am (AU (Ak ?_))))))
          refine Ai (.slice (some ⟨g5, 0, none⟩) 1 1) (fun a w K H => BC K rfl rfl) (fun w H => ?_)
          have hk := hc49
          simp [AB] at hk
          refine ⟨_, _, g5, [(.items, 0)], rfl, ?_, fun _ => rfl, ?_, ⟨fun _ => H.get (i := 0) rfl, ?_⟩, H.toBelow ⟨(zq hg5), trivial⟩⟩
          ·obtain rfl : k = 9 := by omega
           rfl
          ·have l0 := Blk.lt (show Blk _ g5 _ _ from H.get (i := 0) rfl)
           intro b hb
           simp [Eg, Gl, Pt.caps] at hb
           omega
          ·intro x hx
           simp only [List.mem_cons, List.not_mem_nil, or_false] at hx
           subst hx
           exact trivial
        ·refine Ap rfl (Ae (Ac (Ao (v := .agg #[.func (.func 131) #[] #[], .func (.func 133) #[] #[], .func (.func 135) #[] #[], .func (.func 136) #[] #[]]) trivial rfl rfl (zk DU rfl) (fun w H => JU w) ?_)))
         refine AP (σ := Nat) (fun s44 => .agg #[.func (.func 138) #[] #[], .func (.func 139) #[] #[], .func (.func 141) #[] #[], .func (.func 142) #[] #[.pointer (some ⟨s44, 0, none⟩)]]) (fun s44 => True ∧ ∀ b ∈ (cell s44 22 [.int .u64 ((1 : Nat) : Int)]).fp, w.heap.size ≤ b) (fun s44 => _) trivial rfl rfl (zk Dh rfl) (GL (fun s44 => .agg #[.func (.func 138) #[] #[], .func (.func 139) #[] #[], .func (.func 141) #[] #[], .func (.func 142) #[] #[.pointer (some ⟨s44, 0, none⟩)]]) (fun _ => True) (fun s44 => cell s44 22 [.int .u64 ((1 : Nat) : Int)]) (fun _ => BR _ _ _) (fun w H => (Ir 1 w).mono fun _ _ ⟨g, h1, h2, h3, h4, h5⟩ => ⟨g, h1, trivial, fun b hb => by rw [List.mem_singleton.1 hb]; exact ⟨h2, h3⟩, h4, h5⟩)) fun s44 hs44 => ?_
         have fs44 : w.heap.size ≤ s44 := hs44.2 _ (List.mem_singleton.2 rfl)
         refine Ao (v := .agg #[.func (.func 152) #[] #[], .func (.func 153) #[] #[], .func (.func 154) #[] #[], .func (.func 155) #[] #[]]) trivial rfl rfl (zk FK rfl) (fun w H => Nz w) ?_
         refine Dx (cs := [.func (.func 131) #[] #[], .func (.func 133) #[] #[], .func (.func 135) #[] #[], .func (.func 136) #[] #[], .func (.func 138) #[] #[], .func (.func 139) #[] #[], .func (.func 141) #[] #[], .func (.func 142) #[] #[.pointer (some ⟨s44, 0, none⟩)], .func (.func 152) #[] #[], .func (.func 153) #[] #[], .func (.func 154) #[] #[], .func (.func 155) #[] #[]]) trivial rfl rfl (fun ρ w E H => AV E rfl rfl Tryz.underlying95 Az AY rfl rfl (by kernel_rfl)) fun g6 hg6 => ?_
         refine Ao (v := .slice (some ⟨g6, 0, none⟩) 3 3) trivial rfl rfl (zk Cc rfl) (fun w H => FO _ w) (za rfl (Ad (Aa (Am (AU (Ak ?_))))))
         refine Ai (.slice (some ⟨g6, 0, none⟩) 3 3) (fun a w K H => BC K rfl rfl) (fun w H => ?_)
         have hk := hc42
         simp [AB] at hk
         refine ⟨_, _, g6, [(.turn, 0), (.slot 1, s44), (.value, 0)], rfl, ?_, fun _ => rfl, ?_, ⟨fun _ => H.get (i := 0) rfl, ?_⟩, H.toBelow ⟨(zq hg6), (zq fs44), trivial⟩⟩
         ·obtain rfl : k = 7 := by omega
          rfl
         ·have l0 := Blk.lt (show Blk _ g6 _ _ from H.get (i := 0) rfl)
          have ls44 := Blk.lt (show Blk _ s44 _ _ from H.get (i := 1) rfl)
          intro b hb
          simp [Eg, Gl, Pt.caps] at hb
          omega
         ·intro x hx
          simp only [List.mem_cons, List.not_mem_nil, or_false] at hx
          rcases hx with rfl | rfl | rfl
          ·exact trivial
          ·exact H.get (i := 1) rfl
          ·exact trivial
       ·refine Ap rfl (Ae (Ac (Ao (v := .agg #[.func (.func 131) #[] #[], .func (.func 133) #[] #[], .func (.func 135) #[] #[], .func (.func 136) #[] #[]]) trivial rfl rfl (zk DU rfl) (fun w H => JU w) ?_)))
        refine Dx (cs := [.func (.func 131) #[] #[], .func (.func 133) #[] #[], .func (.func 135) #[] #[], .func (.func 136) #[] #[]]) trivial rfl rfl (fun ρ w E H => AV E rfl rfl Tryz.underlying95 Az AY rfl rfl (by kernel_rfl)) fun g7 hg7 => ?_
        refine Ao (v := .slice (some ⟨g7, 0, none⟩) 1 1) trivial rfl rfl (zk Cc rfl) (fun w H => FO _ w) (za rfl (Ad (Aa (Am (AU (Ak ?_))))))
        refine Ai (.slice (some ⟨g7, 0, none⟩) 1 1) (fun a w K H => BC K rfl rfl) (fun w H => ?_)
        have hk := hc37
        simp [AB] at hk
        refine ⟨_, _, g7, [(.turn, 0)], rfl, ?_, fun _ => rfl, ?_, ⟨fun _ => H.get (i := 0) rfl, ?_⟩, H.toBelow ⟨(zq hg7), trivial⟩⟩
        ·obtain rfl : k = 6 := by omega
         rfl
        ·have l0 := Blk.lt (show Blk _ g7 _ _ from H.get (i := 0) rfl)
         intro b hb
         simp [Eg, Gl, Pt.caps] at hb
         omega
        ·intro x hx
         simp only [List.mem_cons, List.not_mem_nil, or_false] at hx
         subst hx
         exact trivial
      ·refine Ap rfl (Ae (Ac (Ao (v := .agg #[.func (.func 131) #[] #[], .func (.func 133) #[] #[], .func (.func 135) #[] #[], .func (.func 136) #[] #[]]) trivial rfl rfl (zk DU rfl) (fun w H => JU w) (Ao (v := .agg #[.func (.func 143) #[] #[], .func (.func 144) #[] #[], .func (.func 145) #[] #[], .func (.func 146) #[] #[]]) trivial rfl rfl (zk GW rfl) (fun w H => PY w) ?_))))
       refine AP (σ := Nat) (fun s32 => .agg #[.func (.func 138) #[] #[], .func (.func 139) #[] #[], .func (.func 141) #[] #[], .func (.func 142) #[] #[.pointer (some ⟨s32, 0, none⟩)]]) (fun s32 => True ∧ ∀ b ∈ (cell s32 22 [.int .u64 ((0 : Nat) : Int)]).fp, w.heap.size ≤ b) (fun s32 => _) trivial rfl rfl (zk Dh rfl) (GL (fun s32 => .agg #[.func (.func 138) #[] #[], .func (.func 139) #[] #[], .func (.func 141) #[] #[], .func (.func 142) #[] #[.pointer (some ⟨s32, 0, none⟩)]]) (fun _ => True) (fun s32 => cell s32 22 [.int .u64 ((0 : Nat) : Int)]) (fun _ => BR _ _ _) (fun w H => (Ir 0 w).mono fun _ _ ⟨g, h1, h2, h3, h4, h5⟩ => ⟨g, h1, trivial, fun b hb => by rw [List.mem_singleton.1 hb]; exact ⟨h2, h3⟩, h4, h5⟩)) fun s32 hs32 => ?_
       have fs32 : w.heap.size ≤ s32 := hs32.2 _ (List.mem_singleton.2 rfl)
       refine Ao (v := .agg #[.func (.func 147) #[] #[], .func (.func 148) #[] #[], .func (.func 149) #[] #[], .func (.func 151) #[] #[]]) trivial rfl rfl (zk J7 rfl) (fun w H => VG w) ?_
       refine Dx (cs := [.func (.func 131) #[] #[], .func (.func 133) #[] #[], .func (.func 135) #[] #[], .func (.func 136) #[] #[], .func (.func 143) #[] #[], .func (.func 144) #[] #[], .func (.func 145) #[] #[], .func (.func 146) #[] #[], .func (.func 138) #[] #[], .func (.func 139) #[] #[], .func (.func 141) #[] #[], .func (.func 142) #[] #[.pointer (some ⟨s32, 0, none⟩)], .func (.func 147) #[] #[], .func (.func 148) #[] #[], .func (.func 149) #[] #[], .func (.func 151) #[] #[]]) trivial rfl rfl (fun ρ w E H => AV E rfl rfl Tryz.underlying95 Az AY rfl rfl (by kernel_rfl)) fun g8 hg8 => ?_
       refine Ao (v := .slice (some ⟨g8, 0, none⟩) 4 4) trivial rfl rfl (zk Cc rfl) (fun w H => FO _ w) (za rfl (Ad (Aa (Am (AU (Ak ?_))))))
       refine Ai (.slice (some ⟨g8, 0, none⟩) 4 4) (fun a w K H => BC K rfl rfl) (fun w H => ?_)
       have hk := hc29
       simp [AB] at hk
       refine ⟨_, _, g8, [(.turn, 0), (.floor, 0), (.slot 0, s32), (.votes, 0)], rfl, ?_, fun _ => rfl, ?_, ⟨fun _ => H.get (i := 0) rfl, ?_⟩, H.toBelow ⟨(zq hg8), (zq fs32), trivial⟩⟩
       ·obtain rfl : k = 5 := by omega
        rfl
       ·have l0 := Blk.lt (show Blk _ g8 _ _ from H.get (i := 0) rfl)
        have ls32 := Blk.lt (show Blk _ s32 _ _ from H.get (i := 1) rfl)
        intro b hb
        simp [Eg, Gl, Pt.caps] at hb
        omega
       ·intro x hx
        simp only [List.mem_cons, List.not_mem_nil, or_false] at hx
        rcases hx with rfl | rfl | rfl | rfl
        ·exact trivial
        ·exact trivial
        ·exact H.get (i := 1) rfl
        ·exact trivial
     ·refine Ap rfl (Ae (Ac (Ao (v := .agg #[.func (.func 131) #[] #[], .func (.func 133) #[] #[], .func (.func 135) #[] #[], .func (.func 136) #[] #[]]) trivial rfl rfl (zk DU rfl) (fun w H => JU w) ?_)))
      refine AP (σ := Nat) (fun s25 => .agg #[.func (.func 138) #[] #[], .func (.func 139) #[] #[], .func (.func 141) #[] #[], .func (.func 142) #[] #[.pointer (some ⟨s25, 0, none⟩)]]) (fun s25 => True ∧ ∀ b ∈ (cell s25 22 [.int .u64 ((1 : Nat) : Int)]).fp, w.heap.size ≤ b) (fun s25 => _) trivial rfl rfl (zk Dh rfl) (GL (fun s25 => .agg #[.func (.func 138) #[] #[], .func (.func 139) #[] #[], .func (.func 141) #[] #[], .func (.func 142) #[] #[.pointer (some ⟨s25, 0, none⟩)]]) (fun _ => True) (fun s25 => cell s25 22 [.int .u64 ((1 : Nat) : Int)]) (fun _ => BR _ _ _) (fun w H => (Ir 1 w).mono fun _ _ ⟨g, h1, h2, h3, h4, h5⟩ => ⟨g, h1, trivial, fun b hb => by rw [List.mem_singleton.1 hb]; exact ⟨h2, h3⟩, h4, h5⟩)) fun s25 hs25 => ?_
      have fs25 : w.heap.size ≤ s25 := hs25.2 _ (List.mem_singleton.2 rfl)
      refine Dx (cs := [.func (.func 131) #[] #[], .func (.func 133) #[] #[], .func (.func 135) #[] #[], .func (.func 136) #[] #[], .func (.func 138) #[] #[], .func (.func 139) #[] #[], .func (.func 141) #[] #[], .func (.func 142) #[] #[.pointer (some ⟨s25, 0, none⟩)]]) trivial rfl rfl (fun ρ w E H => AV E rfl rfl Tryz.underlying95 Az AY rfl rfl (by kernel_rfl)) fun g9 hg9 => ?_
      refine Ao (v := .slice (some ⟨g9, 0, none⟩) 2 2) trivial rfl rfl (zk Cc rfl) (fun w H => FO _ w) (za rfl (Ad (Aa (Am (AU (Ak ?_))))))
      refine Ai (.slice (some ⟨g9, 0, none⟩) 2 2) (fun a w K H => BC K rfl rfl) (fun w H => ?_)
      have hk := hc23
      simp [AB] at hk
      refine ⟨_, _, g9, [(.turn, 0), (.slot 1, s25)], rfl, ?_, fun _ => rfl, ?_, ⟨fun _ => H.get (i := 0) rfl, ?_⟩, H.toBelow ⟨(zq hg9), (zq fs25), trivial⟩⟩
      ·obtain rfl : k = 8 := by omega
       rfl
      ·have l0 := Blk.lt (show Blk _ g9 _ _ from H.get (i := 0) rfl)
       have ls25 := Blk.lt (show Blk _ s25 _ _ from H.get (i := 1) rfl)
       intro b hb
       simp [Eg, Gl, Pt.caps] at hb
       omega
      ·intro x hx
       simp only [List.mem_cons, List.not_mem_nil, or_false] at hx
       rcases hx with rfl | rfl
       ·exact trivial
       ·exact H.get (i := 1) rfl
    ·refine Ap rfl (Ax (Aa (Ap rfl (Ae (Ac (Ao (v := .agg #[.func (.func 131) #[] #[], .func (.func 133) #[] #[], .func (.func 135) #[] #[], .func (.func 136) #[] #[]]) trivial rfl rfl (zk DU rfl) (fun w H => JU w) ?_))))))
     refine AP (σ := Nat) (fun s25 => .agg #[.func (.func 138) #[] #[], .func (.func 139) #[] #[], .func (.func 141) #[] #[], .func (.func 142) #[] #[.pointer (some ⟨s25, 0, none⟩)]]) (fun s25 => True ∧ ∀ b ∈ (cell s25 22 [.int .u64 ((1 : Nat) : Int)]).fp, w.heap.size ≤ b) (fun s25 => _) trivial rfl rfl (zk Dh rfl) (GL (fun s25 => .agg #[.func (.func 138) #[] #[], .func (.func 139) #[] #[], .func (.func 141) #[] #[], .func (.func 142) #[] #[.pointer (some ⟨s25, 0, none⟩)]]) (fun _ => True) (fun s25 => cell s25 22 [.int .u64 ((1 : Nat) : Int)]) (fun _ => BR _ _ _) (fun w H => (Ir 1 w).mono fun _ _ ⟨g, h1, h2, h3, h4, h5⟩ => ⟨g, h1, trivial, fun b hb => by rw [List.mem_singleton.1 hb]; exact ⟨h2, h3⟩, h4, h5⟩)) fun s25 hs25 => ?_
     have fs25 : w.heap.size ≤ s25 := hs25.2 _ (List.mem_singleton.2 rfl)
     refine Dx (cs := [.func (.func 131) #[] #[], .func (.func 133) #[] #[], .func (.func 135) #[] #[], .func (.func 136) #[] #[], .func (.func 138) #[] #[], .func (.func 139) #[] #[], .func (.func 141) #[] #[], .func (.func 142) #[] #[.pointer (some ⟨s25, 0, none⟩)]]) trivial rfl rfl (fun ρ w E H => AV E rfl rfl Tryz.underlying95 Az AY rfl rfl (by kernel_rfl)) fun g10 hg10 => ?_
     refine Ao (v := .slice (some ⟨g10, 0, none⟩) 2 2) trivial rfl rfl (zk Cc rfl) (fun w H => FO _ w) (za rfl (Ad (Aa (Am (AU (Ak ?_))))))
     refine Ai (.slice (some ⟨g10, 0, none⟩) 2 2) (fun a w K H => BC K rfl rfl) (fun w H => ?_)
     have hk := hc22
     simp [AB] at hk
     refine ⟨_, _, g10, [(.turn, 0), (.slot 1, s25)], rfl, ?_, fun _ => rfl, ?_, ⟨fun _ => H.get (i := 0) rfl, ?_⟩, H.toBelow ⟨(zq hg10), (zq fs25), trivial⟩⟩
     ·obtain rfl : k = 4 := by omega
      rfl
     ·have l0 := Blk.lt (show Blk _ g10 _ _ from H.get (i := 0) rfl)
      have ls25 := Blk.lt (show Blk _ s25 _ _ from H.get (i := 1) rfl)
      intro b hb
      simp [Eg, Gl, Pt.caps] at hb
      omega
     ·intro x hx
      simp only [List.mem_cons, List.not_mem_nil, or_false] at hx
      rcases hx with rfl | rfl
      ·exact trivial
      ·exact H.get (i := 1) rfl
   ·refine Ap rfl (Ae (Ac (Ao (v := .agg #[.func (.func 117) #[] #[], .func (.func 118) #[] #[], .func (.func 119) #[] #[], .func (.func 120) #[] #[]]) trivial rfl rfl (zk Hg rfl) (fun w H => SJ w) (Ao (v := .agg #[.func (.func 127) #[] #[], .func (.func 128) #[] #[], .func (.func 129) #[] #[], .func (.func 130) #[] #[]]) trivial rfl rfl (zk K1 rfl) (fun w H => Xe w) ?_))))
    refine Dx (cs := [.func (.func 117) #[] #[], .func (.func 118) #[] #[], .func (.func 119) #[] #[], .func (.func 120) #[] #[], .func (.func 127) #[] #[], .func (.func 128) #[] #[], .func (.func 129) #[] #[], .func (.func 130) #[] #[]]) trivial rfl rfl (fun ρ w E H => AV E rfl rfl Tryz.underlying95 Az AY rfl rfl (by kernel_rfl)) fun g11 hg11 => ?_
    refine Ao (v := .slice (some ⟨g11, 0, none⟩) 2 2) trivial rfl rfl (zk Cc rfl) (fun w H => FO _ w) (za rfl (Ad (Aa (Am (AU (Ak ?_))))))
    refine Ai (.slice (some ⟨g11, 0, none⟩) 2 2) (fun a w K H => BC K rfl rfl) (fun w H => ?_)
    have hk := hc16
    simp [AB] at hk
    refine ⟨_, _, g11, [(.name, 0), (.node, 0)], rfl, ?_, fun _ => rfl, ?_, ⟨fun _ => H.get (i := 0) rfl, ?_⟩, H.toBelow ⟨(zq hg11), trivial⟩⟩
    ·obtain rfl : k = 3 := by omega
     rfl
    ·have l0 := Blk.lt (show Blk _ g11 _ _ from H.get (i := 0) rfl)
     intro b hb
     simp [Eg, Gl, Pt.caps] at hb
     omega
    ·intro x hx
     simp only [List.mem_cons, List.not_mem_nil, or_false] at hx
     rcases hx with rfl | rfl
     ·exact trivial
     ·exact trivial
  ·refine Ap rfl (Ae (Ac (Ao (v := .agg #[.func (.func 117) #[] #[], .func (.func 118) #[] #[], .func (.func 119) #[] #[], .func (.func 120) #[] #[]]) trivial rfl rfl (zk Hg rfl) (fun w H => SJ w) (Ao (v := .agg #[.func (.func 121) #[] #[], .func (.func 123) #[] #[], .func (.func 125) #[] #[], .func (.func 126) #[] #[]]) trivial rfl rfl (zk J8 rfl) (fun w H => VH w) ?_))))
   refine Dx (cs := [.func (.func 117) #[] #[], .func (.func 118) #[] #[], .func (.func 119) #[] #[], .func (.func 120) #[] #[], .func (.func 121) #[] #[], .func (.func 123) #[] #[], .func (.func 125) #[] #[], .func (.func 126) #[] #[]]) trivial rfl rfl (fun ρ w E H => AV E rfl rfl Tryz.underlying95 Az AY rfl rfl (by kernel_rfl)) fun g12 hg12 => ?_
   refine Ao (v := .slice (some ⟨g12, 0, none⟩) 2 2) trivial rfl rfl (zk Cc rfl) (fun w H => FO _ w) (za rfl (Ad (Aa (Am (AU (Ak ?_))))))
   refine Ai (.slice (some ⟨g12, 0, none⟩) 2 2) (fun a w K H => BC K rfl rfl) (fun w H => ?_)
   have hk := hc10
   simp [AB] at hk
   refine ⟨_, _, g12, [(.name, 0), (.reply, 0)], rfl, ?_, fun _ => rfl, ?_, ⟨fun _ => H.get (i := 0) rfl, ?_⟩, H.toBelow ⟨(zq hg12), trivial⟩⟩
   ·obtain rfl : k = 2 := by omega
    rfl
   ·have l0 := Blk.lt (show Blk _ g12 _ _ from H.get (i := 0) rfl)
    intro b hb
    simp [Eg, Gl, Pt.caps] at hb
    omega
   ·intro x hx
    simp only [List.mem_cons, List.not_mem_nil, or_false] at hx
    rcases hx with rfl | rfl
    ·exact trivial
    ·exact trivial
 ·refine Ap rfl (Ae (Ac (Ao (v := .agg #[.func (.func 110) #[] #[], .func (.func 112) #[] #[], .func (.func 114) #[] #[], .func (.func 115) #[] #[]]) trivial rfl rfl (zk Jh rfl) (fun w H => Yd w) ?_)))
  refine Dx (cs := [.func (.func 110) #[] #[], .func (.func 112) #[] #[], .func (.func 114) #[] #[], .func (.func 115) #[] #[]]) trivial rfl rfl (fun ρ w E H => AV E rfl rfl Tryz.underlying95 Az AY rfl rfl (by kernel_rfl)) fun g13 hg13 => ?_
  refine Ao (v := .slice (some ⟨g13, 0, none⟩) 1 1) trivial rfl rfl (zk Cc rfl) (fun w H => FO _ w) (za rfl (Ad (Aa (Am (AU (Ak ?_))))))
  refine Ai (.slice (some ⟨g13, 0, none⟩) 1 1) (fun a w K H => BC K rfl rfl) (fun w H => ?_)
  have hk := hc5
  simp [AB] at hk
  refine ⟨_, _, g13, [(.cmd, 0)], rfl, ?_, fun _ => rfl, ?_, ⟨fun _ => H.get (i := 0) rfl, ?_⟩, H.toBelow ⟨(zq hg13), trivial⟩⟩
  ·obtain rfl : k = 1 := by omega
   rfl
  ·have l0 := Blk.lt (show Blk _ g13 _ _ from H.get (i := 0) rfl)
   intro b hb
   simp [Eg, Gl, Pt.caps] at hb
   omega
  ·intro x hx
   simp only [List.mem_cons, List.not_mem_nil, or_false] at hx
   subst hx
   exact trivial
end Go.Proofs.YteiaiilfekojfaaGreat.Msg
end
section
set_option linter.unusedVariables false
set_option linter.unusedSimpArgs false
namespace Go.Proofs.YteiaiilfekojfaaGreat.Msg
open Go.RowKit Sx Wire DrawInv
set_option maxRecDepth 100000 in
set_option maxHeartbeats 4000000 in
theorem Yo (l1 l2 : List Vo) (A B : Option Addr) (k1 k2 : Nat) (w : World) (h1 : Rows w A 4 voL l1) (h2 : Rows w B 4 voL l2) (hl1 : l1.length ≤ 1000000) : Calls Tryz.prog 45 #[.slice A l1.length k1, .slice B l2.length k2] w fun e w' => e = .returned (.bool (decide (l1 = l2))) ∧ Below w.heap.size w w' := by
 refine A0 (n := 26) _ Tryz.func45 rfl rfl rfl (Hp.start w) (Ae (Ac (za rfl (Ad (Aa (Ae (Ae (Ac (zm rfl ?_)))))))))
 refine zL Tryz.underlying25 rfl (zm rfl (zL Tryz.underlying25 rfl ?_))
 refine zb rfl fun c10 hc10 => ?_
 refine Ad (Aa ?_)
 cases c10
 ·refine Ah rfl (Ax (Aa (Ae (Ae (Ac (zm rfl (zL Tryz.underlying25 rfl (zm rfl (Ad ?_)))))))))
  refine Aa (AG ?_)
  refine Ff (fun (k : Nat) => [(0, .slice A l1.length k1), (1, .slice B l2.length k2), (11, .slice A l1.length k1), (12, .int .i64 (l1.length : Int)), (13, .int .i64 (k : Int))]) (fun (k : Nat) => []) (fun (gk : Nat) (k : Nat) => k + gk = l1.length ∧ l1.take k = l2.take k ∧ l1.length = l2.length) l1.length 0 ⟨by omega, rfl, by have h := hc10; simp [AB] at h; omega⟩ ⟨rfl, rfl, rfl, rfl, rfl, trivial⟩ [] rfl (by decide) trivial fun gk k hF => ?_
  obtain ⟨hkg, hrel, hle⟩ := hF
  refine Ae (Ac ?_)
  refine zb rfl fun c14 hc14 => ?_
  refine Ad (Aa (Ae ?_))
  cases c14
  ·refine Ah rfl (Cd (AW (AW (BH (Aa (Ae (Ac (za rfl (Ad ?_)))))))))
   refine Aa (Am ?_)
   refine Ai (.bool true) (fun a w K H => BC K rfl rfl) (fun w H => ?_)
   have hq : true = decide (l1 = l2) := by
    have h14 := hc14
    simp [AB] at h14
    rw [List.take_of_length_le (by omega), List.take_of_length_le (by omega)] at hrel
    simp [hrel]
   exact ⟨by rw [hq], H.toBelow trivial⟩
  ·refine Ap rfl (Ax (Aa (Ae (AG (Ae ?_)))))
   have hkl : k < l1.length := by have h := hc14; simp [AB] at h; omega
   have hkl2 : k < l2.length := by omega
   obtain ⟨x, hx⟩ : ∃ x, l1[k]? = some x := ⟨_, List.getElem?_eq_getElem hkl⟩
   obtain ⟨y, hy⟩ : ∃ x, l2[k]? = some x := ⟨_, List.getElem?_eq_getElem hkl2⟩
   obtain ⟨a1, rfl, -, -⟩ := h1.row hx
   obtain ⟨a2, rfl, -, -⟩ := h2.row hy
   refine Ac (zm rfl (za rfl (Ad (Aa (Ae (BN [] [] (by kernel_rfl) rfl trivial (ym 0 rfl (by kernel_rfl) zI (ym 1 rfl (by kernel_rfl) zI (yt (i := 2) (v := .pointer (some (a1.add (k * 4)))) (by kernel_rfl) zI rfl rfl rfl rfl (fun ρ w E H => BA (i := k) E rfl Tryz.underlying25 AZ rfl rfl hkl) ?_)))))))))
   refine yt (i := 3) (v := .agg #[.int .u64 (x.slot : Int), .int .u64 (x.n : Int), .int .u8 (x.r : Int), .string ⟨x.value.toArray⟩]) (by kernel_rfl) zI rfl rfl rfl rfl (fun ρ w E H => C7 (cs := [.int .u64 (x.slot : Int), .int .u64 (x.n : Int), .int .u8 (x.r : Int), .string ⟨x.value.toArray⟩]) E ((h1.below (H.os.below (Nat.le_refl _) (by simp))).rowA hx) rfl rfl Tryz.underlying92 rfl AZ) (ym 4 rfl (by kernel_rfl) zI (ym 5 rfl (by kernel_rfl) zI (yt (i := 6) (v := .pointer (some (a2.add (k * 4)))) (by kernel_rfl) zI rfl rfl rfl rfl (fun ρ w E H => BA (i := k) E rfl Tryz.underlying25 AZ rfl rfl hkl2) (yt (i := 7) (v := .agg #[.int .u64 (y.slot : Int), .int .u64 (y.n : Int), .int .u8 (y.r : Int), .string ⟨y.value.toArray⟩]) (by kernel_rfl) zI rfl rfl rfl rfl (fun ρ w E H => C7 (cs := [.int .u64 (y.slot : Int), .int .u64 (y.n : Int), .int .u8 (y.r : Int), .string ⟨y.value.toArray⟩]) E ((h2.below (H.os.below (Nat.le_refl _) (by simp))).rowA hy) rfl rfl Tryz.underlying92 rfl AZ) ?_))))
   refine DW (i := 8) rfl (by kernel_rfl) (by kernel_rfl) (by kernel_rfl) rfl rfl (fun _ _ _ h => h) trivial (fun ρ w E H => FV E rfl (by kernel_rfl) rfl rfl (fun w => by rw [Bool.not_not]; exact XM x y w)) fun c24 hc24 => ?_
   refine BE (by kernel_rfl) (Aa ?_)
   cases c24
   ·refine Ah rfl (Ax (AA (Aa (Ac (Ag (v := .int .i64 ((k + 1 : Nat) : Int)) trivial rfl rfl (fun ρ w E H => BQ E rfl rfl rfl (by rw [IntKind.wrap_i64]; omega)) (zm rfl (Ad ?_)))))))
    refine B7 (gk - 1) (k + 1) (by omega) ⟨by omega, by rw [D1 hx, D1 hy, hrel]; have h24 : x = y := (by simpa using hc24); rw [h24], hle⟩ ⟨rfl, rfl, rfl, rfl, rfl, trivial⟩ [] rfl (by decide) trivial
   ·refine Ap rfl (Ae (Ac (za rfl (Ad (Aa (Am (AU (Ak (Ak ?_)))))))))
    refine AU (Ak ?_)
    refine Ai (.bool false) (fun a w K H => BC K rfl rfl) (fun w H => ?_)
    have hq : false = decide (l1 = l2) := by
     have h24 : x ≠ y := by simpa using hc24
     symm; apply decide_eq_false; rintro rfl; rw [hx] at hy; exact h24 (Option.some.inj hy)
    exact ⟨by rw [hq], H.toBelow trivial⟩
 ·refine Ap rfl (Ae (Ac (za rfl (Ad (Aa (Am (Ak ?_)))))))
  refine Ai (.bool false) (fun a w K H => BC K rfl rfl) (fun w H => ?_)
  have hq : false = decide (l1 = l2) := by
   have h10 := hc10
   simp [AB] at h10
   symm; apply decide_eq_false; rintro rfl; omega
  exact ⟨by rw [hq], H.toBelow trivial⟩

set_option maxRecDepth 100000 in
set_option maxHeartbeats 4000000 in
theorem Yp (l1 l2 : List Im) (A B : Option Addr) (k1 k2 : Nat) (w : World) (h1 : Rows w A 2 imL l1) (h2 : Rows w B 2 imL l2) (hl1 : l1.length ≤ 1000000) : Calls Tryz.prog 46 #[.slice A l1.length k1, .slice B l2.length k2] w fun e w' => e = .returned (.bool (decide (l1 = l2))) ∧ Below w.heap.size w w' := by
 refine A0 (n := 26) _ Tryz.func46 rfl rfl rfl (Hp.start w) (Ae (Ac (za rfl (Ad (Aa (Ae (Ae (Ac (zm rfl ?_)))))))))
 refine zL Tryz.underlying26 rfl (zm rfl (zL Tryz.underlying26 rfl ?_))
 refine zb rfl fun c10 hc10 => ?_
 refine Ad (Aa ?_)
 cases c10
 ·refine Ah rfl (Ax (Aa (Ae (Ae (Ac (zm rfl (zL Tryz.underlying26 rfl (zm rfl (Ad ?_)))))))))
  refine Aa (AG ?_)
  refine Ff (fun (k : Nat) => [(0, .slice A l1.length k1), (1, .slice B l2.length k2), (11, .slice A l1.length k1), (12, .int .i64 (l1.length : Int)), (13, .int .i64 (k : Int))]) (fun (k : Nat) => []) (fun (gk : Nat) (k : Nat) => k + gk = l1.length ∧ l1.take k = l2.take k ∧ l1.length = l2.length) l1.length 0 ⟨by omega, rfl, by have h := hc10; simp [AB] at h; omega⟩ ⟨rfl, rfl, rfl, rfl, rfl, trivial⟩ [] rfl (by decide) trivial fun gk k hF => ?_
  obtain ⟨hkg, hrel, hle⟩ := hF
  refine Ae (Ac ?_)
  refine zb rfl fun c14 hc14 => ?_
  refine Ad (Aa (Ae ?_))
  cases c14
  ·refine Ah rfl (Cd (AW (AW (BH (Aa (Ae (Ac (za rfl (Ad ?_)))))))))
   refine Aa (Am ?_)
   refine Ai (.bool true) (fun a w K H => BC K rfl rfl) (fun w H => ?_)
   have hq : true = decide (l1 = l2) := by
    have h14 := hc14
    simp [AB] at h14
    rw [List.take_of_length_le (by omega), List.take_of_length_le (by omega)] at hrel
    simp [hrel]
   exact ⟨by rw [hq], H.toBelow trivial⟩
  ·refine Ap rfl (Ax (Aa (Ae (AG (Ae ?_)))))
   have hkl : k < l1.length := by have h := hc14; simp [AB] at h; omega
   have hkl2 : k < l2.length := by omega
   obtain ⟨x, hx⟩ : ∃ x, l1[k]? = some x := ⟨_, List.getElem?_eq_getElem hkl⟩
   obtain ⟨y, hy⟩ : ∃ x, l2[k]? = some x := ⟨_, List.getElem?_eq_getElem hkl2⟩
   obtain ⟨a1, rfl, -, -⟩ := h1.row hx
   obtain ⟨a2, rfl, -, -⟩ := h2.row hy
   refine Ac (zm rfl (za rfl (Ad (Aa (Ae (BN [] [] (by kernel_rfl) rfl trivial (ym 0 rfl (by kernel_rfl) zI (ym 1 rfl (by kernel_rfl) zI (yt (i := 2) (v := .pointer (some (a1.add (k * 2)))) (by kernel_rfl) zI rfl rfl rfl rfl (fun ρ w E H => BA (i := k) E rfl Tryz.underlying26 Bg rfl rfl hkl) ?_)))))))))
   refine yt (i := 3) (v := .agg #[.int .u64 (x.slot : Int), .string ⟨x.value.toArray⟩]) (by kernel_rfl) zI rfl rfl rfl rfl (fun ρ w E H => C7 (cs := [.int .u64 (x.slot : Int), .string ⟨x.value.toArray⟩]) E ((h1.below (H.os.below (Nat.le_refl _) (by simp))).rowA hx) rfl rfl Tryz.underlying94 rfl Bg) (ym 4 rfl (by kernel_rfl) zI (ym 5 rfl (by kernel_rfl) zI (yt (i := 6) (v := .pointer (some (a2.add (k * 2)))) (by kernel_rfl) zI rfl rfl rfl rfl (fun ρ w E H => BA (i := k) E rfl Tryz.underlying26 Bg rfl rfl hkl2) (yt (i := 7) (v := .agg #[.int .u64 (y.slot : Int), .string ⟨y.value.toArray⟩]) (by kernel_rfl) zI rfl rfl rfl rfl (fun ρ w E H => C7 (cs := [.int .u64 (y.slot : Int), .string ⟨y.value.toArray⟩]) E ((h2.below (H.os.below (Nat.le_refl _) (by simp))).rowA hy) rfl rfl Tryz.underlying94 rfl Bg) ?_))))
   refine DW (i := 8) rfl (by kernel_rfl) (by kernel_rfl) (by kernel_rfl) rfl rfl (fun _ _ _ h => h) trivial (fun ρ w E H => FV E rfl (by kernel_rfl) rfl rfl (fun w => by rw [Bool.not_not]; exact XN x y w)) fun c24 hc24 => ?_
   refine BE (by kernel_rfl) (Aa ?_)
   cases c24
   ·refine Ah rfl (Ax (AA (Aa (Ac (Ag (v := .int .i64 ((k + 1 : Nat) : Int)) trivial rfl rfl (fun ρ w E H => BQ E rfl rfl rfl (by rw [IntKind.wrap_i64]; omega)) (zm rfl (Ad ?_)))))))
    refine B7 (gk - 1) (k + 1) (by omega) ⟨by omega, by rw [D1 hx, D1 hy, hrel]; have h24 : x = y := (by simpa using hc24); rw [h24], hle⟩ ⟨rfl, rfl, rfl, rfl, rfl, trivial⟩ [] rfl (by decide) trivial
   ·refine Ap rfl (Ae (Ac (za rfl (Ad (Aa (Am (AU (Ak (Ak ?_)))))))))
    refine AU (Ak ?_)
    refine Ai (.bool false) (fun a w K H => BC K rfl rfl) (fun w H => ?_)
    have hq : false = decide (l1 = l2) := by
     have h24 : x ≠ y := by simpa using hc24
     symm; apply decide_eq_false; rintro rfl; rw [hx] at hy; exact h24 (Option.some.inj hy)
    exact ⟨by rw [hq], H.toBelow trivial⟩
 ·refine Ap rfl (Ae (Ac (za rfl (Ad (Aa (Am (Ak ?_)))))))
  refine Ai (.bool false) (fun a w K H => BC K rfl rfl) (fun w H => ?_)
  have hq : false = decide (l1 = l2) := by
   have h10 := hc10
   simp [AB] at h10
   symm; apply decide_eq_false; rintro rfl; omega
  exact ⟨by rw [hq], H.toBelow trivial⟩

set_option maxRecDepth 100000 in
set_option maxHeartbeats 4000000 in
theorem Vm (mk mn mr mb ms mo ca cb ck cz mc : Nat) (mv cs ct cu mt : List UInt8) (vl : List Vo) (il : List Im)(xk xn xr xb xs xo da db dk dz xc : Nat) (xv ds dt du xt : List UInt8) (wl : List Vo) (jl : List Im) (A B : Option Addr) (ka kb : Nat) (C D : Option Addr) (kc kd : Nat) (w : World) (hv : Rows w A 4 voL vl) (hi : Rows w B 2 imL il) (hv2 : Rows w C 4 voL wl) (hi2 : Rows w D 2 imL jl) (hl1 : vl.length ≤ 1000000) (hl2 : il.length ≤ 1000000) : Calls Tryz.prog 15 #[.agg #[.int .u8 (mk : Int), .int .u64 (mn : Int), .int .u8 (mr : Int), .int .u64 (mb : Int), .int .u64 (ms : Int), .int .u8 (mo : Int), .string ⟨mv.toArray⟩, .slice A vl.length ka, .slice B il.length kb, .int .u8 (ca : Int), .int .u32 (cb : Int), .int .u8 (ck : Int), .string ⟨cs.toArray⟩, .string ⟨ct.toArray⟩, .string ⟨cu.toArray⟩, .int .u8 (cz : Int), .int .u8 (mc : Int), .string ⟨mt.toArray⟩], .agg #[.int .u8 (xk : Int), .int .u64 (xn : Int), .int .u8 (xr : Int), .int .u64 (xb : Int), .int .u64 (xs : Int), .int .u8 (xo : Int), .string ⟨xv.toArray⟩, .slice C wl.length kc, .slice D jl.length kd, .int .u8 (da : Int), .int .u32 (db : Int), .int .u8 (dk : Int), .string ⟨ds.toArray⟩, .string ⟨dt.toArray⟩, .string ⟨du.toArray⟩, .int .u8 (dz : Int), .int .u8 (xc : Int), .string ⟨xt.toArray⟩]] w fun e w' => e = .returned (.bool (decide ((⟨mk, mn, mr, mb, ms, mo, mv, vl, il, ⟨ca, cb, ck, cs, ct, cu, cz⟩, mc, mt⟩ : Ms) = ⟨xk, xn, xr, xb, xs, xo, xv, wl, jl, ⟨da, db, dk, ds, dt, du, dz⟩, xc, xt⟩))) ∧ Below w.heap.size w w' := by
 refine A0 (n := 73) _ Tryz.func15 rfl rfl rfl (Hp.start w) (Ae (Ac ?_))
 refine zB rfl fun g1 hg1 => ?_
 refine zB rfl fun g2 hg2 => ?_
 refine za rfl (Ad (Aa (Ae (Ac (zf 0 Aw rfl (zl 1 Tryz.underlying5 rfl (zf 0 Aw rfl (zl 0 Tryz.underlying5 rfl ?_))))))))
 refine zb rfl fun c9 hc9 => ?_
 refine zm rfl ?_
 cases c9
 ·refine zo rfl (zo rfl (zo rfl (zo rfl (zo rfl (zp rfl (zm rfl (zo rfl (zo rfl (zo rfl ?_)))))))))
  refine zo rfl (zo rfl (zp rfl (zm rfl (zo rfl (zo rfl (zo rfl (zo rfl (zo rfl (zp rfl ?_)))))))))
  refine zm rfl (zo rfl (zo rfl (zo rfl (zo rfl (zo rfl (zp rfl (zm rfl (zo rfl (zo rfl ?_)))))))))
  refine zo rfl (zo rfl (zo rfl (zp rfl (zm rfl (zo rfl (zo rfl (zo rfl (zo rfl (zo rfl ?_)))))))))
  refine zp rfl (zm rfl (zo rfl (zo rfl (zo rfl (zo rfl (zo rfl (zp rfl (zm rfl (zo rfl ?_)))))))))
  refine zo rfl (zo rfl (zo rfl (zo rfl (zp rfl (zm rfl (zo rfl (zo rfl (zo rfl (zo rfl ?_)))))))))
  refine zo rfl (zp rfl (za rfl (Ad (Aa (Am ?_)))))
  refine Ai (.bool false) (fun a w K H => BC K rfl rfl) (fun w H => ?_)
  have hq : false = decide ((⟨mk, mn, mr, mb, ms, mo, mv, vl, il, ⟨ca, cb, ck, cs, ct, cu, cz⟩, mc, mt⟩ : Ms) = ⟨xk, xn, xr, xb, xs, xo, xv, wl, jl, ⟨da, db, dk, ds, dt, du, dz⟩, xc, xt⟩) := by clear H; grind [AB]
  exact ⟨by rw [hq], H.toBelow ⟨(zq hg2), (zq hg1), trivial⟩⟩
 ·refine zf 1 BM rfl (zv 1 [.int .u64 (mn : Int), .int .u8 (mr : Int)] Tryz.underlying24 Bi rfl (zf 1 BM rfl (zv 0 [.int .u64 (xn : Int), .int .u8 (xr : Int)] Tryz.underlying24 Bi rfl ?_)))
  refine DT (gK rfl) rfl rfl (fun ρ w E H => Ht E rfl (by kernel_rfl) rfl rfl (fun w => NE mn mr xn xr w)) fun c15 hc15 => ?_
  refine zp rfl (zm rfl ?_)
  cases c15
  ·refine zo rfl (zo rfl (zo rfl (zo rfl (zo rfl (zp rfl (zm rfl (zo rfl (zo rfl (zo rfl ?_)))))))))
   refine zo rfl (zo rfl (zp rfl (zm rfl (zo rfl (zo rfl (zo rfl (zo rfl (zo rfl (zp rfl ?_)))))))))
   refine zm rfl (zo rfl (zo rfl (zo rfl (zo rfl (zo rfl (zp rfl (zm rfl (zo rfl (zo rfl ?_)))))))))
   refine zo rfl (zo rfl (zo rfl (zp rfl (zm rfl (zo rfl (zo rfl (zo rfl (zo rfl (zo rfl ?_)))))))))
   refine zp rfl (zm rfl (zo rfl (zo rfl (zo rfl (zo rfl (zo rfl (zp rfl (zm rfl (zo rfl ?_)))))))))
   refine zo rfl (zo rfl (zo rfl (zo rfl (zp rfl (za rfl (Ad (Aa (Am ?_))))))))
   refine Ai (.bool false) (fun a w K H => BC K rfl rfl) (fun w H => ?_)
   have hq : false = decide ((⟨mk, mn, mr, mb, ms, mo, mv, vl, il, ⟨ca, cb, ck, cs, ct, cu, cz⟩, mc, mt⟩ : Ms) = ⟨xk, xn, xr, xb, xs, xo, xv, wl, jl, ⟨da, db, dk, ds, dt, du, dz⟩, xc, xt⟩) := by clear H; grind [AB]
   exact ⟨by rw [hq], H.toBelow ⟨(zq hg2), (zq hg1), trivial⟩⟩
  ·refine zf 3 BX rfl (zl 1 Tryz.underlying22 rfl (zf 3 BX rfl (zl 0 Tryz.underlying22 rfl ?_)))
   refine zb rfl fun c22 hc22 => ?_
   refine zp rfl (zm rfl ?_)
   cases c22
   ·refine zo rfl (zo rfl (zo rfl (zo rfl (zo rfl (zp rfl (zm rfl (zo rfl (zo rfl (zo rfl ?_)))))))))
    refine zo rfl (zo rfl (zp rfl (zm rfl (zo rfl (zo rfl (zo rfl (zo rfl (zo rfl (zp rfl ?_)))))))))
    refine zm rfl (zo rfl (zo rfl (zo rfl (zo rfl (zo rfl (zp rfl (zm rfl (zo rfl (zo rfl ?_)))))))))
    refine zo rfl (zo rfl (zo rfl (zp rfl (zm rfl (zo rfl (zo rfl (zo rfl (zo rfl (zo rfl ?_)))))))))
    refine zp rfl (zm rfl (zo rfl (zo rfl (zo rfl (zo rfl (zo rfl (zp rfl (za rfl (Ad ?_)))))))))
    refine Aa (Am ?_)
    refine Ai (.bool false) (fun a w K H => BC K rfl rfl) (fun w H => ?_)
    have hq : false = decide ((⟨mk, mn, mr, mb, ms, mo, mv, vl, il, ⟨ca, cb, ck, cs, ct, cu, cz⟩, mc, mt⟩ : Ms) = ⟨xk, xn, xr, xb, xs, xo, xv, wl, jl, ⟨da, db, dk, ds, dt, du, dz⟩, xc, xt⟩) := by clear H; grind [AB]
    exact ⟨by rw [hq], H.toBelow ⟨(zq hg2), (zq hg1), trivial⟩⟩
   ·refine zf 4 Bq rfl (zl 1 Tryz.underlying22 rfl (zf 4 Bq rfl (zl 0 Tryz.underlying22 rfl ?_)))
    refine zb rfl fun c29 hc29 => ?_
    refine zp rfl (zm rfl ?_)
    cases c29
    ·refine zo rfl (zo rfl (zo rfl (zo rfl (zo rfl (zp rfl (zm rfl (zo rfl (zo rfl (zo rfl ?_)))))))))
     refine zo rfl (zo rfl (zp rfl (zm rfl (zo rfl (zo rfl (zo rfl (zo rfl (zo rfl (zp rfl ?_)))))))))
     refine zm rfl (zo rfl (zo rfl (zo rfl (zo rfl (zo rfl (zp rfl (zm rfl (zo rfl (zo rfl ?_)))))))))
     refine zo rfl (zo rfl (zo rfl (zp rfl (zm rfl (zo rfl (zo rfl (zo rfl (zo rfl (zo rfl ?_)))))))))
     refine zp rfl (za rfl (Ad (Aa (Am ?_))))
     refine Ai (.bool false) (fun a w K H => BC K rfl rfl) (fun w H => ?_)
     have hq : false = decide ((⟨mk, mn, mr, mb, ms, mo, mv, vl, il, ⟨ca, cb, ck, cs, ct, cu, cz⟩, mc, mt⟩ : Ms) = ⟨xk, xn, xr, xb, xs, xo, xv, wl, jl, ⟨da, db, dk, ds, dt, du, dz⟩, xc, xt⟩) := by clear H; grind [AB]
     exact ⟨by rw [hq], H.toBelow ⟨(zq hg2), (zq hg1), trivial⟩⟩
    ·refine zf 5 BW rfl (zl 1 Tryz.underlying5 rfl (zf 5 BW rfl (zl 0 Tryz.underlying5 rfl ?_)))
     refine zb rfl fun c36 hc36 => ?_
     refine zp rfl (zm rfl ?_)
     cases c36
     ·refine zo rfl (zo rfl (zo rfl (zo rfl (zo rfl (zp rfl (zm rfl (zo rfl (zo rfl (zo rfl ?_)))))))))
      refine zo rfl (zo rfl (zp rfl (zm rfl (zo rfl (zo rfl (zo rfl (zo rfl (zo rfl (zp rfl ?_)))))))))
      refine zm rfl (zo rfl (zo rfl (zo rfl (zo rfl (zo rfl (zp rfl (zm rfl (zo rfl (zo rfl ?_)))))))))
      refine zo rfl (zo rfl (zo rfl (zp rfl (za rfl (Ad (Aa (Am ?_)))))))
      refine Ai (.bool false) (fun a w K H => BC K rfl rfl) (fun w H => ?_)
      have hq : false = decide ((⟨mk, mn, mr, mb, ms, mo, mv, vl, il, ⟨ca, cb, ck, cs, ct, cu, cz⟩, mc, mt⟩ : Ms) = ⟨xk, xn, xr, xb, xs, xo, xv, wl, jl, ⟨da, db, dk, ds, dt, du, dz⟩, xc, xt⟩) := by clear H; grind [AB]
      exact ⟨by rw [hq], H.toBelow ⟨(zq hg2), (zq hg1), trivial⟩⟩
     ·refine zf 6 Cf rfl (zl 1 Tryz.underlying9 rfl (zf 6 Cf rfl (zl 0 Tryz.underlying9 rfl ?_)))
      refine DT (gK rfl) rfl rfl (fun ρ w E H => MR E rfl rfl rfl rfl) fun c43 hc43 => ?_
      refine zp rfl (zm rfl ?_)
      cases c43
      ·refine zo rfl (zo rfl (zo rfl (zo rfl (zo rfl (zp rfl (zm rfl (zo rfl (zo rfl (zo rfl ?_)))))))))
       refine zo rfl (zo rfl (zp rfl (zm rfl (zo rfl (zo rfl (zo rfl (zo rfl (zo rfl (zp rfl ?_)))))))))
       refine zm rfl (zo rfl (zo rfl (zo rfl (zo rfl (zo rfl (zp rfl (za rfl (Ad (Aa ?_)))))))))
       refine Am ?_
       refine Ai (.bool false) (fun a w K H => BC K rfl rfl) (fun w H => ?_)
       have hq : false = decide ((⟨mk, mn, mr, mb, ms, mo, mv, vl, il, ⟨ca, cb, ck, cs, ct, cu, cz⟩, mc, mt⟩ : Ms) = ⟨xk, xn, xr, xb, xs, xo, xv, wl, jl, ⟨da, db, dk, ds, dt, du, dz⟩, xc, xt⟩) := by clear H; grind [AB]
       exact ⟨by rw [hq], H.toBelow ⟨(zq hg2), (zq hg1), trivial⟩⟩
      ·refine zf 9 Bd rfl (zv 1 [.int .u8 (ca : Int), .int .u32 (cb : Int), .int .u8 (ck : Int), .string ⟨cs.toArray⟩, .string ⟨ct.toArray⟩, .string ⟨cu.toArray⟩, .int .u8 (cz : Int)] Tryz.underlying29 BG rfl (zf 9 Bd rfl (zv 0 [.int .u8 (da : Int), .int .u32 (db : Int), .int .u8 (dk : Int), .string ⟨ds.toArray⟩, .string ⟨dt.toArray⟩, .string ⟨du.toArray⟩, .int .u8 (dz : Int)] Tryz.underlying29 BG rfl ?_)))
       refine DT (gK rfl) rfl rfl (fun ρ w E H => Ht E rfl (by kernel_rfl) rfl rfl (fun w => Qn (⟨ca, cb, ck, cs, ct, cu, cz⟩ : Cmd.Cm) ⟨da, db, dk, ds, dt, du, dz⟩ w)) fun c50 hc50 => ?_
       refine zp rfl (zm rfl ?_)
       cases c50
       ·refine zo rfl (zo rfl (zo rfl (zo rfl (zo rfl (zp rfl (zm rfl (zo rfl (zo rfl (zo rfl ?_)))))))))
        refine zo rfl (zo rfl (zp rfl (zm rfl (zo rfl (zo rfl (zo rfl (zo rfl (zo rfl (zp rfl ?_)))))))))
        refine za rfl (Ad (Aa (Am ?_)))
        refine Ai (.bool false) (fun a w K H => BC K rfl rfl) (fun w H => ?_)
        have hq : false = decide ((⟨mk, mn, mr, mb, ms, mo, mv, vl, il, ⟨ca, cb, ck, cs, ct, cu, cz⟩, mc, mt⟩ : Ms) = ⟨xk, xn, xr, xb, xs, xo, xv, wl, jl, ⟨da, db, dk, ds, dt, du, dz⟩, xc, xt⟩) := by clear H; grind [AB]
        exact ⟨by rw [hq], H.toBelow ⟨(zq hg2), (zq hg1), trivial⟩⟩
       ·refine zf 16 B9 rfl (zv 1 [.int .u8 (mc : Int), .string ⟨mt.toArray⟩] Tryz.underlying31 Do rfl (zf 16 B9 rfl (zv 0 [.int .u8 (xc : Int), .string ⟨xt.toArray⟩] Tryz.underlying31 Do rfl ?_)))
        refine DT (gK rfl) rfl rfl (fun ρ w E H => Ht E rfl (by kernel_rfl) rfl rfl (fun w => Wh mc xc mt xt w)) fun c57 hc57 => ?_
        refine zp rfl (zm rfl ?_)
        cases c57
        ·refine zo rfl (zo rfl (zo rfl (zo rfl (zo rfl (zp rfl (zm rfl (zo rfl (zo rfl (zo rfl ?_)))))))))
         refine zo rfl (zo rfl (zp rfl (za rfl (Ad (Aa (Am ?_))))))
         refine Ai (.bool false) (fun a w K H => BC K rfl rfl) (fun w H => ?_)
         have hq : false = decide ((⟨mk, mn, mr, mb, ms, mo, mv, vl, il, ⟨ca, cb, ck, cs, ct, cu, cz⟩, mc, mt⟩ : Ms) = ⟨xk, xn, xr, xb, xs, xo, xv, wl, jl, ⟨da, db, dk, ds, dt, du, dz⟩, xc, xt⟩) := by clear H; grind [AB]
         exact ⟨by rw [hq], H.toBelow ⟨(zq hg2), (zq hg1), trivial⟩⟩
        ·refine zf 7 AH rfl (zl 1 Tryz.underlying25 rfl (zf 7 AH rfl (zl 0 Tryz.underlying25 rfl ?_)))
         refine CN (b := (decide (vl = wl))) (gK rfl) rfl rfl (zk EF rfl) (fun w H => Yo vl wl A C ka kc w (hv.below (H.toBelow ⟨(zq hg2), (zq hg1), trivial⟩)) (hv2.below (H.toBelow ⟨(zq hg2), (zq hg1), trivial⟩)) hl1) fun c64 hc64 => ?_
         refine zp rfl (zm rfl ?_)
         cases c64
         ·refine zo rfl (zo rfl (zo rfl (zo rfl (zo rfl (zp rfl (za rfl (Ad (Aa (Am ?_)))))))))
          refine Ai (.bool false) (fun a w K H => BC K rfl rfl) (fun w H => ?_)
          have hq : false = decide ((⟨mk, mn, mr, mb, ms, mo, mv, vl, il, ⟨ca, cb, ck, cs, ct, cu, cz⟩, mc, mt⟩ : Ms) = ⟨xk, xn, xr, xb, xs, xo, xv, wl, jl, ⟨da, db, dk, ds, dt, du, dz⟩, xc, xt⟩) := by clear H; grind [AB]
          exact ⟨by rw [hq], H.toBelow ⟨(zq hg2), (zq hg1), trivial⟩⟩
         ·refine zf 8 AE rfl (zl 1 Tryz.underlying26 rfl (zf 8 AE rfl (zl 0 Tryz.underlying26 rfl ?_)))
          refine CN (b := (decide (il = jl))) (gK rfl) rfl rfl (zk EG rfl) (fun w H => Yp il jl B D kb kd w (hi.below (H.toBelow ⟨(zq hg2), (zq hg1), trivial⟩)) (hi2.below (H.toBelow ⟨(zq hg2), (zq hg1), trivial⟩)) hl2) fun c71 hc71 => ?_
          refine zp rfl (za rfl (Ad (Aa (Am ?_))))
          refine Ai (.bool c71) (fun a w K H => BC K rfl rfl) (fun w H => ?_)
          have hq : c71 = decide ((⟨mk, mn, mr, mb, ms, mo, mv, vl, il, ⟨ca, cb, ck, cs, ct, cu, cz⟩, mc, mt⟩ : Ms) = ⟨xk, xn, xr, xb, xs, xo, xv, wl, jl, ⟨da, db, dk, ds, dt, du, dz⟩, xc, xt⟩) := by
           clear H
           have e1 : mk = xk ∧ mb = xb ∧ ms = xs ∧ mo = xo ∧ mn = xn ∧ mr = xr ∧ mv = xv ∧ mc = xc ∧ mt = xt ∧ vl = wl := by clear hc50 hc71; grind [AB]
           obtain ⟨rfl, rfl, rfl, rfl, rfl, rfl, rfl, rfl, rfl, rfl⟩ := e1
           have e2 := of_decide_eq_true hc50
           injection e2 with f1 f2 f3 f4 f5 f6 f7
           subst f1 f2 f3 f4 f5 f6 f7
           rw [← hc71]
           simp
          exact ⟨by rw [hq], H.toBelow ⟨(zq hg2), (zq hg1), trivial⟩⟩

theorem PC (m x : Ms) (A B C D : Option Addr) (ka kb kc kd : Nat) (w : World) (h1 : MsRows w m A B) (h2 : MsRows w x C D) (hl1 : m.votes.length ≤ 1000000) (hl2 : m.items.length ≤ 1000000) :
  Calls Tryz.prog 15 #[msV m A ka B kb, msV x C kc D kd] w fun e w' => e = .returned (.bool (decide (m = x))) ∧ Below w.heap.size w w' := by
 obtain ⟨mk, mn, mr, mb, ms, mo, mv, vl, il, ⟨ca, cb, ck, cs, ct, cu, cz⟩, mc, mt⟩ := m
 obtain ⟨xk, xn, xr, xb, xs, xo, xv, wl, jl, ⟨da, db, dk, ds, dt, du, dz⟩, xc, xt⟩ := x
 exact Vm _ _ _ _ _ _ _ _ _ _ _ _ _ _ _ _ _ _ _ _ _ _ _ _ _ _ _ _ _ _ _ _ _ _ _ _ _ _ _ _ _ _ _ _ w h1.hv h1.hi h2.hv h2.hi hl1 hl2
end Go.Proofs.YteiaiilfekojfaaGreat.Msg
end
section
set_option linter.unusedVariables false
set_option linter.unusedSimpArgs false
namespace Go.Proofs.YteiaiilfekojfaaGreat.Sx
open Go.RowKit DrawInv Wire
section
variable {P : Program} {ops : Array Oper} {Q Q' : Exit → Act → World → Prop} {n : Nat} {vs : Vs} {w0 : World} {L : List Ft} {o : Oper} {rest : List Oper}
theorem Gh {ρ : Operand → Value} {w : World} {src dst e : TypeId} {x : Operand} {v : Value} {base e' m : Nat} {xs : List Value} {l : List UInt8} (E : Env vs ρ) (ho : o.op = .convert src dst x) (hs : P.underlying src = some (.slice e)) (he : P.underlying e = some (.int .u8)) (hd : P.underlying dst = some .string)
  (hx : opv vs x = some v) (hown : w.ownsRow base e' 1 v m xs) (hxs : xs = bv l) : (execOp ρ o).run P w = .ok (.value (.string ⟨l.toArray⟩)) w := by
 subst hxs
 obtain ⟨A, c, rfl, hr⟩ := DG hown
 unfold execOp; rw [ho]
 simp only [E.ev hx, Sem.run_bind]
 rw [Ih hs he hd c hr]
 rfl
theorem Q3 {f : Nat} {args : Array Value} {e : TypeId} {sz m : Nat} {xs : List Value} (vf : Value → Value) (hc : ∀ w, Hp w0 L w → Calls P f args w fun E w' => ∃ v', E = .returned (vf v') ∧ w'.ownsRow w.heap.size e sz v' m xs ∧ Below w.heap.size w w') :
  ∀ w, Hp w0 L w → Calls P f args w fun E w' => ∃ s : Value, E = .returned (vf s) ∧ OwnIn w0 [] s ∧ Hp w0 (BU [] w0.heap.size e sz s m xs :: L) w' := fun w H => (hc w H).mono fun E w' ⟨v', he, hown, hb⟩ =>
 ⟨v', he, fun g hg => .inr (Nat.le_trans H.os.size (BS hown g hg).1), H.add hb _ (BF _ _ _ _ _ _ _) (fun g hg => ⟨(BS hown g (by simpa [BU] using hg)).2, (BS hown g (by simpa [BU] using hg)).1⟩) (CY hown H.os.size)⟩
theorem Gu {w : World} {base g e : Nat} {v : Value} (h : (cell g e [v]).φ w) (hg : base ≤ g) : w.ownsRow base e 1 (.slice (some ⟨g, 0, none⟩) 1 1) 1 [v] :=
 ⟨by simp, .inr ⟨g, 1, #[v], rfl, hg, h, Nat.le_refl _, by decide, by simp, by simp⟩⟩
end
end Go.Proofs.YteiaiilfekojfaaGreat.Sx
namespace Go.Proofs.YteiaiilfekojfaaGreat.Msg
open Go.RowKit Wire Sx DrawInv
structure PS where
 A : Option Addr
 c : Nat
 gb : Nat
 q : List (Pt × Nat)
theorem KL {w0 : World} {L : List Ft} (k : Nat) : ∀ w, Hp w0 L w → Calls Tryz.prog 43 #[.int .u8 (k : Int)] w fun E w' => ∃ s : PS, E = .returned (.slice s.A s.q.length s.c) ∧ ((s.q.map (·.1) = AK k ∧ (s.q ≠ [] → s.A = some ⟨s.gb, 0, none⟩)) ∧ ∀ g ∈ (Eg s.gb s.q).fp, w0.heap.size ≤ g) ∧ Hp w0 (Eg s.gb s.q :: L) w' :=
 GL (fun s : PS => .slice s.A s.q.length s.c) (fun s => s.q.map (·.1) = AK k ∧ (s.q ≠ [] → s.A = some ⟨s.gb, 0, none⟩)) (fun s => Eg s.gb s.q) (fun s => Ri _ _) fun w H => (Ud k w).mono fun E w' ⟨A, c, gb, q, h1, h2, h3, h4, h5, h6⟩ => ⟨⟨A, c, gb, q⟩, h1, ⟨h2, h3⟩, h4, h5, h6⟩
theorem EZ {α : Type} {w : World} {base e sz n c : Nat} {A : Option Addr} {cells : α → List Value} {l : List α} (hc : ∀ x, (cells x).length = sz) (hs : 0 < sz) (h : w.ownsRow base e sz (.slice A n c) l.length (l.flatMap cells)) : Rows w A sz cells l := by
 obtain ⟨A', c', e', _, hr⟩ := ID hc hs h
 injection e' with e1 e2 e3
 subst e1
 exact hr
theorem Oo {w : World} {base g n n' k k' : Nat} {a : Ms} {A B : Option Addr} (h : (FB base g a (.slice A n k) (.slice B n' k')).φ w) : MsRows w a A B :=
 ⟨EZ JJ (by decide) h.2.1, EZ JX (by decide) h.2.2⟩
def I3 (m : Ms) (k : Nat) : List UInt8 := UInt8.ofNat m.kind :: ((AK m.kind).take k).flatMap (·.put m)
theorem D3 {m : Ms} {k : Nat} {p : Pt} (h : (AK m.kind)[k]? = some p) : I3 m (k + 1) = I3 m k ++ p.put m := by
 unfold I3; rw [D1 h, List.flatMap_append]; simp
theorem Qc {m : Ms} {k : Nat} (h : (AK m.kind).length ≤ k) : I3 m k = BP m := by unfold I3 BP; rw [List.take_of_length_le h]
theorem PM (c : Cmd.Cm) (hc : c.Fits) (h1 : c.key.length ≤ 1000) (h2 : c.old.length ≤ 1000) (h3 : c.new.length ≤ 1000) : (Cmd.oneB c).length ≤ 10000 := by
 unfold Cmd.oneB
 have a := (B0 c.seq (by have := hc.h2; omega)).1
 have b := Gt c.key (by omega)
 have d := Gt c.old (by omega)
 have e := Gt c.new (by omega)
 simp only [List.length_cons, List.length_append, List.length_nil]
 omega
theorem WP (p : Pt) (m : Ms) (hf : m.Fits) (hs : m.Small) : (p.put m).length ≤ 410000 := by
 have s1 := hs.h1
 have s2 := hs.h2
 have s3 := hs.h3
 have s9 := hs.h9
 have s10 := hs.h10
 have s11 := hs.h11
 cases p with
 | cmd => have := PM m.cmd hf.h9 hs.h6 hs.h7 hs.h8; show (Cmd.oneB m.cmd).length ≤ _; omega
 | name => have := (B0 m.cmd.seq (by have := hf.h9.h2; omega)).1; show (_ :: BI m.cmd.seq).length ≤ _; rw [List.length_cons]; omega
 | reply => have := Gt m.text (by omega); show (_ :: CM m.text).length ≤ _; rw [List.length_cons]; omega
 | node => show ([_] : List UInt8).length ≤ _; simp
 | turn => have := MV m.bn m.br hf.h2; show (Bal.balB _).length ≤ _; omega
 | floor => have := (B0 m.base hf.h4).1; show (BI m.base).length ≤ _; omega
 | slot l => have := (B0 m.slot hf.h5).1; show (BI m.slot).length ≤ _; omega
 | value => have := Gt m.value (by omega); show (CM m.value).length ≤ _; omega
 | votes => have := (B0 m.votes.length (by omega)).1; show (BI _ ++ _).length ≤ _; rw [List.length_append]; omega
 | items => have := (B0 m.items.length (by omega)).1; show (BI _ ++ _).length ≤ _; rw [List.length_append]; omega
theorem Rf (k : Nat) (h : 14 ≤ k) : AK k = [] := by
 unfold AK
 repeat rw [if_neg (by omega)]
theorem JQ (k : Nat) : ((AK k).filter (fun p => decide (p = .votes ∨ p = .items))).length ≤ 1 ∧ (AK k).length ≤ 4 := by
 by_cases h : k < 14
 ·have hd : ∀ k : Nat, k < 14 → ((AK k).filter (fun p => decide (p = .votes ∨ p = .items))).length ≤ 1 ∧ (AK k).length ≤ 4 := by decide
  exact hd k h
 ·rw [Rf k (by omega)]
  decide
theorem V3 (p : Pt) (m : Ms) (hf : m.Fits) (hs : m.Small) (hp : ¬ (p = .votes ∨ p = .items)) : (p.put m).length ≤ 110000 := by
 have s1 := hs.h1
 have s9 := hs.h9
 cases p with
 | cmd => have := PM m.cmd hf.h9 hs.h6 hs.h7 hs.h8; show (Cmd.oneB m.cmd).length ≤ _; omega
 | name => have := (B0 m.cmd.seq (by have := hf.h9.h2; omega)).1; show (_ :: BI m.cmd.seq).length ≤ _; rw [List.length_cons]; omega
 | reply => have := Gt m.text (by omega); show (_ :: CM m.text).length ≤ _; rw [List.length_cons]; omega
 | node => show ([_] : List UInt8).length ≤ _; simp
 | turn => have := MV m.bn m.br hf.h2; show (Bal.balB _).length ≤ _; omega
 | floor => have := (B0 m.base hf.h4).1; show (BI m.base).length ≤ _; omega
 | slot l => have := (B0 m.slot hf.h5).1; show (BI m.slot).length ≤ _; omega
 | value => have := Gt m.value (by omega); show (CM m.value).length ≤ _; omega
 | votes => exact absurd (.inl rfl) hp
 | items => exact absurd (.inr rfl) hp
theorem S1 (m : Ms) (hf : m.Fits) (hs : m.Small) : ∀ l : List Pt, (l.flatMap (·.put m)).length ≤ 410000 * (l.filter (fun p => decide (p = .votes ∨ p = .items))).length + 110000 * l.length
 | [] => by simp
 | p :: l => by
  have ih := S1 m hf hs l
  rw [List.flatMap_cons, List.length_append, List.length_cons, List.filter_cons]
  by_cases hp : p = .votes ∨ p = .items
  ·have := WP p m hf hs
   rw [if_pos (by simpa using hp), List.length_cons]
   omega
  ·have := V3 p m hf hs hp
   rw [if_neg (by simpa using hp)]
   omega
theorem Lm (m : Ms) (hf : m.Fits) (hs : m.Small) (k : Nat) : (I3 m k).length ≤ 1000000 := by
 have h1 := S1 m hf hs (AK m.kind)
 have h2 := JQ m.kind
 have h3 := LR (fun p : Pt => p.put m) (AK m.kind) k
 unfold I3
 rw [List.length_cons]
 have : ((AK m.kind).take k).flatMap (fun p => p.put m) = ((AK m.kind).take k).flatMap (·.put m) := rfl
 omega
def fpB (s : List UInt8) : List UInt8 × Nat := if s.length ≤ 65536 then (Frame.frameB s, 0) else ([], 6)
theorem Xq (s : List UInt8) (h : (fpB s).2 ≠ 0) : fpB s = ([], (fpB s).2) := by
 unfold fpB at *
 split
 ·rename_i h1; rw [if_pos h1] at h; exact absurd rfl h
 ·rfl
theorem VX (s : List UInt8) (h1 : 0 < s.length) (h2 : s.length ≤ 1000000) (w : World) : Calls Tryz.prog 44 #[.slice none 0 0, .string ⟨s.toArray⟩] w fun E w' => ∃ v', E = .returned (.tuple #[v', .int .i64 ((fpB s).2 : Int)]) ∧ w'.ownsRow w.heap.size 5 1 v' (fpB s).1.length (bv (fpB s).1) ∧ Below w.heap.size w w' := by
 have hr : Reads w w.heap.size 1 none 0 (bv []) := ⟨rfl, fun h => absurd h (by decide)⟩
 unfold fpB
 by_cases h : s.length ≤ 65536
 ·rw [if_pos h]
  exact Frame.fput_ok none 0 [] s (by simp) h1 h w hr
 ·rw [if_neg h]
  exact Frame.fput_bad none 0 [] s (by simp) (.inr (by omega)) w hr
theorem SD (m : Ms) (h : C9 m = true) : putM m = fpB (BP m) := by unfold putM fpB; rw [if_pos h]
end Go.Proofs.YteiaiilfekojfaaGreat.Msg
end
section
set_option linter.unusedVariables false
set_option linter.unusedSimpArgs false
namespace Go.Proofs.YteiaiilfekojfaaGreat.Msg
open Go.RowKit Sx Wire DrawInv
set_option maxRecDepth 100000 in
set_option maxHeartbeats 4000000 in
theorem UI (mk mn mr mb ms mo ca cb ck cz mc : Nat) (mv cs ct cu mt : List UInt8) (vl : List Vo) (il : List Im) (A B : Option Addr) (ka kb : Nat) (w : World) (hf : Ms.Fits ⟨mk, mn, mr, mb, ms, mo, mv, vl, il, ⟨ca, cb, ck, cs, ct, cu, cz⟩, mc, mt⟩) (hs : Ms.Small ⟨mk, mn, mr, mb, ms, mo, mv, vl, il, ⟨ca, cb, ck, cs, ct, cu, cz⟩, mc, mt⟩) (hr : MsRows w ⟨mk, mn, mr, mb, ms, mo, mv, vl, il, ⟨ca, cb, ck, cs, ct, cu, cz⟩, mc, mt⟩ A B) : Calls Tryz.prog 12 #[.agg #[.int .u8 (mk : Int), .int .u64 (mn : Int), .int .u8 (mr : Int), .int .u64 (mb : Int), .int .u64 (ms : Int), .int .u8 (mo : Int), .string ⟨mv.toArray⟩, .slice A vl.length ka, .slice B il.length kb, .int .u8 (ca : Int), .int .u32 (cb : Int), .int .u8 (ck : Int), .string ⟨cs.toArray⟩, .string ⟨ct.toArray⟩, .string ⟨cu.toArray⟩, .int .u8 (cz : Int), .int .u8 (mc : Int), .string ⟨mt.toArray⟩]] w fun e w' => e = .returned (.int .i64 (if C9 ⟨mk, mn, mr, mb, ms, mo, mv, vl, il, ⟨ca, cb, ck, cs, ct, cu, cz⟩, mc, mt⟩ then 0 else 2)) ∧ Below w.heap.size w w' := by
 refine A0 (n := 36) _ Tryz.func12 rfl rfl rfl (Hp.start w) (Ae (Ac ?_))
 refine zB rfl fun g1 hg1 => ?_
 refine za rfl (Ad (Aa (Ae (Ac (zf 0 Aw rfl (zl 0 Tryz.underlying5 rfl ?_))))))
 refine AP (σ := PS) (fun s => .slice s.A (List.length s.q) s.c) (fun s => _) (fun s => _) trivial rfl rfl (zk FM rfl) (KL mk) fun s hs_ => ?_
 obtain ⟨pA, pc, gb, q⟩ := s
 obtain ⟨⟨hq, hpA⟩, hpf⟩ := hs_
 dsimp only at hq hpA hpf
 refine za rfl (Ad (Aa (Ae (Ae (Ac (zm rfl (zL Tryz.underlying95 rfl ?_)))))))
 refine zb rfl fun c12 hc12 => ?_
 refine Ad (Aa ?_)
 cases c12
 ·refine Ah rfl (Ax (Aa (Ae (Ac (zf 0 Aw rfl (zl 1 Tryz.underlying5 rfl (Ag trivial rfl rfl (fun ρ w E H => Bh (cs := [.int .u8 (mk : Int), .int .u64 0, .int .u8 0, .int .u64 0, .int .u64 0, .int .u8 0, .string ⟨[].toArray⟩, .slice none 0 0, .slice none 0 0, .int .u8 0, .int .u32 0, .int .u8 0, .string ⟨[].toArray⟩, .string ⟨[].toArray⟩, .string ⟨[].toArray⟩, .int .u8 0, .int .u8 0, .string ⟨[].toArray⟩]) E rfl rfl (by kernel_rfl)) ?_)))))))
  refine zA D5 rfl fun g2 hg2 => ?_
  refine Bz (i := 0) trivial rfl rfl rfl rfl rfl Av rfl rfl rfl (Ad (Aa (Ae (Ae (Ac (zm rfl (zL Tryz.underlying95 rfl (zm rfl (Ad ?_)))))))))
  refine Aa (AG (Ep (fun W H => H.re (i := 0) rfl (FB w.heap.size g2 (ms0 mk) (.slice none 0 0) (.slice none 0 0)) (JV _ _ _ _ _) rfl (fun h => Qa (k := mk) h)) ?_))
  refine Kw (fun (k : Nat) (a : Ms) (V : Value) (I : Value) => [(1, .pointer (some ⟨g1, 0, none⟩)), (2, .int .i64 0), (3, .slice pA q.length pc), (4, .pointer (some ⟨g2, 0, none⟩)), (16, .slice pA q.length pc), (17, .int .i64 (q.length : Int)), (18, .int .i64 (k : Int))]) (fun (k : Nat) (a : Ms) (V : Value) (I : Value) => [FB w.heap.size g2 a V I, Eg gb q, cell g1 33 [.int .u8 (mk : Int), .int .u64 (mn : Int), .int .u8 (mr : Int), .int .u64 (mb : Int), .int .u64 (ms : Int), .int .u8 (mo : Int), .string ⟨mv.toArray⟩, .slice A vl.length ka, .slice B il.length kb, .int .u8 (ca : Int), .int .u32 (cb : Int), .int .u8 (ck : Int), .string ⟨cs.toArray⟩, .string ⟨ct.toArray⟩, .string ⟨cu.toArray⟩, .int .u8 (cz : Int), .int .u8 (mc : Int), .string ⟨mt.toArray⟩]]) (fun (gk : Nat) (k : Nat) (a : Ms) (V : Value) (I : Value) => k + gk = q.length ∧ a = M9 ((AK mk).take k) ⟨mk, mn, mr, mb, ms, mo, mv, vl, il, ⟨ca, cb, ck, cs, ct, cu, cz⟩, mc, mt⟩ ∧ ((AK mk).take k).all (fun p => p.may ⟨mk, mn, mr, mb, ms, mo, mv, vl, il, ⟨ca, cb, ck, cs, ct, cu, cz⟩, mc, mt⟩) = true ∧ OwnIn w [] V ∧ OwnIn w [] I) q.length 0 (ms0 mk) (.slice none 0 0) (.slice none 0 0) ⟨by omega, rfl, rfl, F3 w, F3 w⟩ ⟨rfl, rfl, rfl, rfl, rfl, rfl, rfl, trivial⟩ [0, 1, 2] rfl (by decide) ⟨.inl rfl, .inl rfl, .inl rfl, trivial⟩ fun gk k a V I hF => ?_
  obtain ⟨hkg, ha, hall, hV, hI⟩ := hF
  refine Ae (Ac ?_)
  refine zb rfl fun c19 hc19 => ?_
  refine Ad (Aa (Ae ?_))
  cases c19
  ·refine Ah rfl (Cd (AW (AW (BH (Aa (Ae (Ae (G6 (fun W H => Bf (H.get (i := 0) rfl : (FB _ _ _ _ _).φ W).2.1) ?_))))))))
   rintro ⟨A2, k2, rfl⟩
   refine G6 (fun W H => Bf (H.get (i := 0) rfl : (FB _ _ _ _ _).φ W).2.2) ?_
   rintro ⟨B2, l2, rfl⟩
   refine Ac (zw 2 Tryz.underlying33 Av rfl (Ag trivial rfl rfl (fun ρ w E H => Iu (cs := msL a (.slice A2 a.votes.length k2) (.slice B2 a.items.length l2)) (part := msL a (.slice A2 a.votes.length k2) (.slice B2 a.items.length l2)) E ((H.get (i := 0) rfl : (FB _ _ _ _ _).φ w).1) rfl rfl Tryz.underlying33 rfl Av rfl rfl) ?_))
   refine CN (b := (decide (⟨mk, mn, mr, mb, ms, mo, mv, vl, il, ⟨ca, cb, ck, cs, ct, cu, cz⟩, mc, mt⟩ = a))) trivial rfl rfl (zk Hi rfl) (fun w H => PC ⟨mk, mn, mr, mb, ms, mo, mv, vl, il, ⟨ca, cb, ck, cs, ct, cu, cz⟩, mc, mt⟩ a A B A2 B2 ka kb k2 l2 w (hr.below (H.toBelow ⟨(E8 hg2 hV hI), hpf, (zq hg1), trivial⟩)) (Oo (H.get (i := 0) rfl)) (Nat.le_trans hs.h2 (by decide)) (Nat.le_trans hs.h3 (by decide))) fun c34 hc34 => ?_
   cases c34
   ·refine zn true rfl (Ad (Aa (Ap rfl (Ae (Ac (za rfl (Ad (Aa (Am ?_)))))))))
    refine Ak ?_
    refine Ai (.int .i64 2) (fun a w K H => BC K rfl rfl) (fun w H => ?_)
    have hq2 : (2 : Int) = (if C9 ⟨mk, mn, mr, mb, ms, mo, mv, vl, il, ⟨ca, cb, ck, cs, ct, cu, cz⟩, mc, mt⟩ then 0 else 2) := by
     clear H
     have hle : q.length ≤ k := by have h := hc19; simp [AB] at h; omega
     have hl2 : (AK mk).length ≤ k := by rw [← hq, List.length_map]; exact hle
     rw [List.take_of_length_le hl2] at ha hall
     have hne : (AK mk).isEmpty = false := by rw [← hq]; cases q with | nil => simp [AB] at hc12 | cons x l => rfl
     have hck : C9 ⟨mk, mn, mr, mb, ms, mo, mv, vl, il, ⟨ca, cb, ck, cs, ct, cu, cz⟩, mc, mt⟩ = decide (⟨mk, mn, mr, mb, ms, mo, mv, vl, il, ⟨ca, cb, ck, cs, ct, cu, cz⟩, mc, mt⟩ = a) := by rw [ha]; show (!(AK mk).isEmpty && ((AK mk).all (fun p => p.may ⟨mk, mn, mr, mb, ms, mo, mv, vl, il, ⟨ca, cb, ck, cs, ct, cu, cz⟩, mc, mt⟩) && decide (⟨mk, mn, mr, mb, ms, mo, mv, vl, il, ⟨ca, cb, ck, cs, ct, cu, cz⟩, mc, mt⟩ = M9 (AK mk) ⟨mk, mn, mr, mb, ms, mo, mv, vl, il, ⟨ca, cb, ck, cs, ct, cu, cz⟩, mc, mt⟩))) = _; rw [hne, hall]; rfl
     rw [hck, hc34]; rfl
    exact ⟨congrArg (fun z => Ending.returned (.int .i64 z)) hq2, H.toBelow ⟨(E8 hg2 hV hI), hpf, (zq hg1), trivial⟩⟩
   ·refine zn false rfl (Ad (Aa (Ah rfl (Ax (Aa (Ae (Ac (za rfl (Ad ?_)))))))))
    refine Aa (Am ?_)
    refine Ai (.int .i64 0) (fun a w K H => BC K rfl rfl) (fun w H => ?_)
    have hq2 : (0 : Int) = (if C9 ⟨mk, mn, mr, mb, ms, mo, mv, vl, il, ⟨ca, cb, ck, cs, ct, cu, cz⟩, mc, mt⟩ then 0 else 2) := by
     clear H
     have hle : q.length ≤ k := by have h := hc19; simp [AB] at h; omega
     have hl2 : (AK mk).length ≤ k := by rw [← hq, List.length_map]; exact hle
     rw [List.take_of_length_le hl2] at ha hall
     have hne : (AK mk).isEmpty = false := by rw [← hq]; cases q with | nil => simp [AB] at hc12 | cons x l => rfl
     have hck : C9 ⟨mk, mn, mr, mb, ms, mo, mv, vl, il, ⟨ca, cb, ck, cs, ct, cu, cz⟩, mc, mt⟩ = decide (⟨mk, mn, mr, mb, ms, mo, mv, vl, il, ⟨ca, cb, ck, cs, ct, cu, cz⟩, mc, mt⟩ = a) := by rw [ha]; show (!(AK mk).isEmpty && ((AK mk).all (fun p => p.may ⟨mk, mn, mr, mb, ms, mo, mv, vl, il, ⟨ca, cb, ck, cs, ct, cu, cz⟩, mc, mt⟩) && decide (⟨mk, mn, mr, mb, ms, mo, mv, vl, il, ⟨ca, cb, ck, cs, ct, cu, cz⟩, mc, mt⟩ = M9 (AK mk) ⟨mk, mn, mr, mb, ms, mo, mv, vl, il, ⟨ca, cb, ck, cs, ct, cu, cz⟩, mc, mt⟩))) = _; rw [hne, hall]; rfl
     rw [hck, hc34]; rfl
    exact ⟨congrArg (fun z => Ending.returned (.int .i64 z)) hq2, H.toBelow ⟨(E8 hg2 hV hI), hpf, (zq hg1), trivial⟩⟩
  ·refine Ap rfl (Ax (Aa (Ae (AG (Ae ?_)))))
   have hkl : k < q.length := by have h := hc19; simp [AB] at h; omega
   obtain ⟨⟨p, gc⟩, hx⟩ : ∃ x, q[k]? = some x := ⟨_, List.getElem?_eq_getElem hkl⟩
   obtain rfl := hpA (by rintro rfl; cases hx)
   have hp : (AK mk)[k]? = some p := by rw [← hq, List.getElem?_map, hx]; rfl
   have hql : q.length ≤ 4 := by have h := (JQ mk).2; rw [← hq, List.length_map] at h; exact h
   refine Ac (Ag (v := .pointer (some ((⟨gb, 0, none⟩ : Addr).add (k * 4)))) trivial rfl rfl (fun ρ w E H => BA (i := k) E rfl Tryz.underlying95 Az rfl rfl hkl) (Ag (v := .agg #[.func (.func p.putF) #[] #[], .func (.func p.takeF) #[] #[], .func (.func p.moveF) #[] #[], .func (.func p.mayF) #[] (p.cap gc).toArray]) trivial rfl rfl (fun ρ w E H => C7 (cs := [.func (.func p.putF) #[] #[], .func (.func p.takeF) #[] #[], .func (.func p.moveF) #[] #[], .func (.func p.mayF) #[] (p.cap gc).toArray]) E (LM (H.get (i := 1) rfl) hx) rfl rfl Tryz.underlying101 rfl Az) ?_))
   refine zA AY rfl fun g3 hg3 => ?_
   refine Bz (i := 0) trivial rfl rfl rfl rfl rfl Az rfl rfl rfl (Ad (Aa (Ae (Ae (Ac (zf 3 Jn rfl (zl 0 Tryz.underlying34 rfl (zw 3 Tryz.underlying33 Av rfl ?_))))))))
   refine CN (b := Pt.may p ⟨mk, mn, mr, mb, ms, mo, mv, vl, il, ⟨ca, cb, ck, cs, ct, cu, cz⟩, mc, mt⟩) trivial rfl rfl (fun ρ w E => Lr E (RH p) rfl rfl rfl rfl) (fun w H => Xh p ⟨mk, mn, mr, mb, ms, mo, mv, vl, il, ⟨ca, cb, ck, cs, ct, cu, cz⟩, mc, mt⟩ hf hs A B ka kb gc w (hr.below (H.toBelow ⟨(zq hg3), (E8 hg2 hV hI), hpf, (zq hg1), trivial⟩)) (Uc (H.get (i := 2) rfl) hx)) fun c25 hc25 => ?_
   cases c25
   ·refine zn true rfl (Ad (Aa (Ap rfl (Ae (Ac (za rfl (Ad (Aa (Am ?_)))))))))
    refine Ak (AU (Ak (Ak (AU (Ak ?_)))))
    refine Ai (.int .i64 2) (fun a w K H => BC K rfl rfl) (fun w H => ?_)
    have hq2 : (2 : Int) = (if C9 ⟨mk, mn, mr, mb, ms, mo, mv, vl, il, ⟨ca, cb, ck, cs, ct, cu, cz⟩, mc, mt⟩ then 0 else 2) := by
     clear H
     have hck : C9 ⟨mk, mn, mr, mb, ms, mo, mv, vl, il, ⟨ca, cb, ck, cs, ct, cu, cz⟩, mc, mt⟩ = false := by
      have hm : (AK mk).all (fun p => p.may ⟨mk, mn, mr, mb, ms, mo, mv, vl, il, ⟨ca, cb, ck, cs, ct, cu, cz⟩, mc, mt⟩) = false := by rw [List.all_eq_false]; exact ⟨p, List.mem_of_getElem? hp, by rw [hc25]; decide⟩
      show (!(AK mk).isEmpty && ((AK mk).all (fun p => p.may ⟨mk, mn, mr, mb, ms, mo, mv, vl, il, ⟨ca, cb, ck, cs, ct, cu, cz⟩, mc, mt⟩) && _)) = _
      rw [hm]; simp
     rw [hck]; rfl
    exact ⟨congrArg (fun z => Ending.returned (.int .i64 z)) hq2, H.toBelow ⟨(zq hg3), (E8 hg2 hV hI), hpf, (zq hg1), trivial⟩⟩
   ·refine zn false rfl (Ad (Aa (Ah rfl (Ax (Aa (Ac (zf 2 Jo rfl (zl 0 Tryz.underlying99 rfl (zw 3 Tryz.underlying33 Av rfl ?_)))))))))
    refine Kv (fun _ _ => .tuple #[]) (fun V2 I2 => OwnIn w [] V2 ∧ OwnIn w [] I2) (fun V2 I2 => _) trivial rfl rfl (fun ρ w E => Lr E (Qr p) rfl rfl rfl rfl) (UM (i := 1) rfl hg2 hV hI (fun w H => VF p ⟨mk, mn, mr, mb, ms, mo, mv, vl, il, ⟨ca, cb, ck, cs, ct, cu, cz⟩, mc, mt⟩ hs A B ka kb _ g2 a V I w (hr.below (H.toBelow ⟨(zq hg3), (E8 hg2 hV hI), hpf, (zq hg1), trivial⟩)) (H.get (i := 1) rfl) H.os.size (fun hn ad e => by have h1 := hr.hv.lt hn ad e; omega) (fun hn ad e => by have h1 := hr.hi.lt hn ad e; omega))) fun V2 I2 hVI => ?_
    refine Ad (AA (Aa (Ac (Ag (v := .int .i64 ((k + 1 : Nat) : Int)) trivial rfl rfl (fun ρ w E H => BQ E rfl rfl rfl (by rw [IntKind.wrap_i64]; omega)) (zm rfl (Ad ?_))))))
    refine B7 (gk - 1) (k + 1, Pt.move p a ⟨mk, mn, mr, mb, ms, mo, mv, vl, il, ⟨ca, cb, ck, cs, ct, cu, cz⟩, mc, mt⟩, V2, I2) (by omega) ⟨by omega, by rw [D1 hp, ha]; unfold M9; rw [List.foldl_append]; rfl, by rw [D1 hp, List.all_append, hall]; simp [hc25], hVI.1, hVI.2⟩ ⟨rfl, rfl, rfl, rfl, rfl, rfl, rfl, trivial⟩ [1, 2, 3] rfl (by decide) ⟨.inr (zq hg3), .inl rfl, .inl rfl, .inl rfl, trivial⟩
 ·refine Ap rfl (Ae (Ac (za rfl (Ad (Aa (Am (Ak ?_)))))))
  refine Ai (.int .i64 2) (fun a w K H => BC K rfl rfl) (fun w H => ?_)
  have hq2 : (2 : Int) = (if C9 ⟨mk, mn, mr, mb, ms, mo, mv, vl, il, ⟨ca, cb, ck, cs, ct, cu, cz⟩, mc, mt⟩ then 0 else 2) := by
   clear H
   have hck : C9 ⟨mk, mn, mr, mb, ms, mo, mv, vl, il, ⟨ca, cb, ck, cs, ct, cu, cz⟩, mc, mt⟩ = false := by
    have h0 : q = [] := by have h := hc12; simp [AB] at h; cases q with | nil => rfl | cons x l => simp at h
    have hm : (AK mk).isEmpty = true := by rw [← hq, h0]; rfl
    show (!(AK mk).isEmpty && _) = _
    rw [hm]; rfl
   rw [hck]; rfl
  exact ⟨congrArg (fun z => Ending.returned (.int .i64 z)) hq2, H.toBelow ⟨hpf, (zq hg1), trivial⟩⟩

theorem check_any (m : Ms) (A B : Option Addr) (ka kb : Nat) (w : World) (hf : m.Fits) (hs : m.Small) (hr : MsRows w m A B) : Calls Tryz.prog 12 #[msV m A ka B kb] w fun e w' => e = .returned (.int .i64 (if C9 m then 0 else 2)) ∧ Below w.heap.size w w' := by
 obtain ⟨mk, mn, mr, mb, ms, mo, mv, vl, il, ⟨ca, cb, ck, cs, ct, cu, cz⟩, mc, mt⟩ := m
 exact UI _ _ _ _ _ _ _ _ _ _ _ _ _ _ _ _ _ _ _ _ _ _ w hf hs hr
end Go.Proofs.YteiaiilfekojfaaGreat.Msg
end
section
set_option linter.unusedVariables false
set_option linter.unusedSimpArgs false
namespace Go.Proofs.YteiaiilfekojfaaGreat.Msg
open Go.RowKit Sx Wire DrawInv
set_option maxRecDepth 100000 in
set_option maxHeartbeats 4000000 in
theorem SC (mk mn mr mb ms mo ca cb ck cz mc : Nat) (mv cs ct cu mt : List UInt8) (vl : List Vo) (il : List Im) (A B : Option Addr) (ka kb : Nat) (w : World) (hf : Ms.Fits ⟨mk, mn, mr, mb, ms, mo, mv, vl, il, ⟨ca, cb, ck, cs, ct, cu, cz⟩, mc, mt⟩) (hs : Ms.Small ⟨mk, mn, mr, mb, ms, mo, mv, vl, il, ⟨ca, cb, ck, cs, ct, cu, cz⟩, mc, mt⟩) (hr : MsRows w ⟨mk, mn, mr, mb, ms, mo, mv, vl, il, ⟨ca, cb, ck, cs, ct, cu, cz⟩, mc, mt⟩ A B) : Calls Tryz.prog 13 #[.agg #[.int .u8 (mk : Int), .int .u64 (mn : Int), .int .u8 (mr : Int), .int .u64 (mb : Int), .int .u64 (ms : Int), .int .u8 (mo : Int), .string ⟨mv.toArray⟩, .slice A vl.length ka, .slice B il.length kb, .int .u8 (ca : Int), .int .u32 (cb : Int), .int .u8 (ck : Int), .string ⟨cs.toArray⟩, .string ⟨ct.toArray⟩, .string ⟨cu.toArray⟩, .int .u8 (cz : Int), .int .u8 (mc : Int), .string ⟨mt.toArray⟩]] w fun e w' => e = .returned (.tuple #[.string ⟨(putM ⟨mk, mn, mr, mb, ms, mo, mv, vl, il, ⟨ca, cb, ck, cs, ct, cu, cz⟩, mc, mt⟩).1.toArray⟩, .int .i64 ((putM ⟨mk, mn, mr, mb, ms, mo, mv, vl, il, ⟨ca, cb, ck, cs, ct, cu, cz⟩, mc, mt⟩).2 : Int)]) ∧ Below w.heap.size w w' := by
 refine A0 (n := 43) _ Tryz.func13 rfl rfl rfl (Hp.start w) (Ae (Ac ?_))
 refine zB rfl fun g1 hg1 => ?_
 refine za rfl (za rfl (Ad (Aa (Ae (Ae (Ac (zw 0 Tryz.underlying33 Av rfl (Ao (v := .int .i64 (if C9 ⟨mk, mn, mr, mb, ms, mo, mv, vl, il, ⟨ca, cb, ck, cs, ct, cu, cz⟩, mc, mt⟩ then 0 else 2)) trivial rfl rfl (zk ER rfl) (fun w H => check_any ⟨mk, mn, mr, mb, ms, mo, mv, vl, il, ⟨ca, cb, ck, cs, ct, cu, cz⟩, mc, mt⟩ A B ka kb w hf hs (hr.below (H.toBelow ⟨(zq hg1), trivial⟩))) (za rfl ?_)))))))))
 refine Ad (Aa (Ae (Ac (zm rfl ?_))))
 refine zb rfl fun c13 hc13 => ?_
 refine Ad (Aa ?_)
 cases c13
 ·refine Ah rfl (Ax (Aa (Ae (Ac (zf 0 Aw rfl (zl 0 Tryz.underlying5 rfl ?_))))))
  refine Dx (cs := [.int .u8 (mk : Int)]) trivial rfl rfl (fun ρ w E H => AV E rfl rfl Tryz.underlying103 DC Fz rfl rfl (by kernel_rfl)) fun g2 hg2 => ?_
  refine za rfl (Ad (Aa (Ae (Ae (Ac (zf 0 Aw rfl (zl 1 Tryz.underlying5 rfl ?_)))))))
  refine AP (σ := PS) (fun s => .slice s.A (List.length s.q) s.c) (fun s => _) (fun s => _) trivial rfl rfl (zk FM rfl) (KL mk) fun s hs_ => ?_
  obtain ⟨pA, pc, gb, q⟩ := s
  obtain ⟨⟨hq, hpA⟩, hpf⟩ := hs_
  dsimp only at hq hpA hpf
  refine zL Tryz.underlying95 rfl (zm rfl (Ad (Aa (AG ?_))))
  have hv0 : OwnIn w [] (.slice (some ⟨g2, 0, none⟩) 1 1) := fun b hb => .inr (by simp [Value.ownBlock] at hb; omega)
  refine Ep (fun W H => H.re (i := 1) rfl (BU [] w.heap.size 5 1 (.slice (some ⟨g2, 0, none⟩) 1 1) ((I3 ⟨mk, mn, mr, mb, ms, mo, mv, vl, il, ⟨ca, cb, ck, cs, ct, cu, cz⟩, mc, mt⟩ 0).length) (bv (I3 ⟨mk, mn, mr, mb, ms, mo, mv, vl, il, ⟨ca, cb, ck, cs, ct, cu, cz⟩, mc, mt⟩ 0))) (BF _ _ _ _ _ _ _) rfl (fun h => DI (Gu h hg2) (by simp [I3]) (by simp only [I3, List.take_zero, List.flatMap_nil]; have hk := hf.h1; exact MU [] mk hk))) ?_
  refine Ec (fun (k : Nat) (v : Value) => [(1, .pointer (some ⟨g1, 0, none⟩)), (5, v), (20, .slice pA q.length pc), (21, .int .i64 (q.length : Int)), (22, .int .i64 (k : Int))]) (fun (k : Nat) (v : Value) => [Eg gb q, BU [] w.heap.size 5 1 v ((I3 ⟨mk, mn, mr, mb, ms, mo, mv, vl, il, ⟨ca, cb, ck, cs, ct, cu, cz⟩, mc, mt⟩ k).length) (bv (I3 ⟨mk, mn, mr, mb, ms, mo, mv, vl, il, ⟨ca, cb, ck, cs, ct, cu, cz⟩, mc, mt⟩ k)), cell g1 33 [.int .u8 (mk : Int), .int .u64 (mn : Int), .int .u8 (mr : Int), .int .u64 (mb : Int), .int .u64 (ms : Int), .int .u8 (mo : Int), .string ⟨mv.toArray⟩, .slice A vl.length ka, .slice B il.length kb, .int .u8 (ca : Int), .int .u32 (cb : Int), .int .u8 (ck : Int), .string ⟨cs.toArray⟩, .string ⟨ct.toArray⟩, .string ⟨cu.toArray⟩, .int .u8 (cz : Int), .int .u8 (mc : Int), .string ⟨mt.toArray⟩]]) (fun (gk : Nat) (k : Nat) (v : Value) => k + gk = q.length ∧ OwnIn w [] v) q.length 0 (.slice (some ⟨g2, 0, none⟩) 1 1) ⟨by omega, hv0⟩ ⟨rfl, rfl, rfl, rfl, rfl, trivial⟩ [0, 1, 2] rfl (by decide) ⟨.inl rfl, .inl rfl, .inl rfl, trivial⟩ fun gk k v hF => ?_
  obtain ⟨hkg, hv⟩ := hF
  refine Ae (Ac ?_)
  refine zb rfl fun c23 hc23 => ?_
  refine Ad (Aa (Ae ?_))
  cases c23
  ·refine Ah rfl (Cd (AW (AW (BH (Aa (Ae (Ac (zm rfl ?_))))))))
   have hend : I3 ⟨mk, mn, mr, mb, ms, mo, mv, vl, il, ⟨ca, cb, ck, cs, ct, cu, cz⟩, mc, mt⟩ k = BP ⟨mk, mn, mr, mb, ms, mo, mv, vl, il, ⟨ca, cb, ck, cs, ct, cu, cz⟩, mc, mt⟩ := Qc (by show (AK mk).length ≤ k; rw [← hq, List.length_map]; have h := hc23; simp [AB] at h; omega)
   refine Ag (v := .string ⟨(BP ⟨mk, mn, mr, mb, ms, mo, mv, vl, il, ⟨ca, cb, ck, cs, ct, cu, cz⟩, mc, mt⟩).toArray⟩) trivial rfl rfl (fun ρ w E H => Gh E rfl Tryz.underlying103 Tryz.underlying5 Tryz.underlying9 rfl (H.get (i := 1) rfl) (by rw [hend])) ?_
   refine AP (σ := Value) (fun s => .tuple #[s, .int .i64 ((fpB (BP ⟨mk, mn, mr, mb, ms, mo, mv, vl, il, ⟨ca, cb, ck, cs, ct, cu, cz⟩, mc, mt⟩)).2 : Int)]) (fun s => OwnIn w [] s) (fun s => _) trivial rfl rfl (zk JA rfl) (Q3 (fun s => .tuple #[s, .int .i64 ((fpB (BP ⟨mk, mn, mr, mb, ms, mo, mv, vl, il, ⟨ca, cb, ck, cs, ct, cu, cz⟩, mc, mt⟩)).2 : Int)]) (fun w H => VX (BP ⟨mk, mn, mr, mb, ms, mo, mv, vl, il, ⟨ca, cb, ck, cs, ct, cu, cz⟩, mc, mt⟩) (by simp [BP]) (by rw [← hend]; exact Lm _ hf hs k) w)) fun v35 hv35 => ?_
   refine zm rfl (zX (v35) rfl (zx rfl (za rfl (za rfl (Ad (Aa (Ae (Ae (Ac ?_)))))))))
   refine zm rfl ?_
   refine zb rfl fun c39 hc39 => ?_
   refine Ad (Aa ?_)
   cases c39
   ·refine Ah rfl (Ax (Aa (Ae (Ac (zm rfl (Ag (v := .string ⟨(fpB (BP ⟨mk, mn, mr, mb, ms, mo, mv, vl, il, ⟨ca, cb, ck, cs, ct, cu, cz⟩, mc, mt⟩)).1.toArray⟩) trivial rfl rfl (fun ρ w E H => Gh E rfl Tryz.underlying103 Tryz.underlying5 Tryz.underlying9 rfl (H.get (i := 0) rfl) (rfl)) (za rfl (za rfl (Ad ?_)))))))))
    refine Aa (Am ?_)
    refine Ai (.tuple #[.string ⟨((fpB (BP ⟨mk, mn, mr, mb, ms, mo, mv, vl, il, ⟨ca, cb, ck, cs, ct, cu, cz⟩, mc, mt⟩)).1).toArray⟩, .int .i64 0]) (fun a w K H => XX K rfl rfl rfl) (fun w H => ?_)
    -- what is told
    have hck : C9 ⟨mk, mn, mr, mb, ms, mo, mv, vl, il, ⟨ca, cb, ck, cs, ct, cu, cz⟩, mc, mt⟩ = true := by cases hb : C9 ⟨mk, mn, mr, mb, ms, mo, mv, vl, il, ⟨ca, cb, ck, cs, ct, cu, cz⟩, mc, mt⟩ with | true => rfl | false => (have h := hc13; rw [hb] at h; simp [AB] at h)
    have hpm := SD _ hck
    have h0 : (fpB (BP ⟨mk, mn, mr, mb, ms, mo, mv, vl, il, ⟨ca, cb, ck, cs, ct, cu, cz⟩, mc, mt⟩)).2 = 0 := by have h := hc39; simp [AB] at h; omega
    have hq2 : putM ⟨mk, mn, mr, mb, ms, mo, mv, vl, il, ⟨ca, cb, ck, cs, ct, cu, cz⟩, mc, mt⟩ = ((fpB (BP ⟨mk, mn, mr, mb, ms, mo, mv, vl, il, ⟨ca, cb, ck, cs, ct, cu, cz⟩, mc, mt⟩)).1, 0) := by rw [hpm, ← h0]
    rw [hq2]
    exact ⟨rfl, H.toBelow ⟨hv35.fresh, hpf, hv.fresh, (zq hg1), trivial⟩⟩
   ·refine Ap rfl (Ae (Ac (zm rfl (za rfl (za rfl (Ad (Aa (Am (Ak ?_)))))))))
    refine Ai (.tuple #[.string ⟨[].toArray⟩, .int .i64 ((fpB (BP ⟨mk, mn, mr, mb, ms, mo, mv, vl, il, ⟨ca, cb, ck, cs, ct, cu, cz⟩, mc, mt⟩)).2 : Int)]) (fun a w K H => XX K rfl rfl rfl) (fun w H => ?_)
    -- what is told
    have hck : C9 ⟨mk, mn, mr, mb, ms, mo, mv, vl, il, ⟨ca, cb, ck, cs, ct, cu, cz⟩, mc, mt⟩ = true := by cases hb : C9 ⟨mk, mn, mr, mb, ms, mo, mv, vl, il, ⟨ca, cb, ck, cs, ct, cu, cz⟩, mc, mt⟩ with | true => rfl | false => (have h := hc13; rw [hb] at h; simp [AB] at h)
    have hpm := SD _ hck
    have hq2 : putM ⟨mk, mn, mr, mb, ms, mo, mv, vl, il, ⟨ca, cb, ck, cs, ct, cu, cz⟩, mc, mt⟩ = ([], (fpB (BP ⟨mk, mn, mr, mb, ms, mo, mv, vl, il, ⟨ca, cb, ck, cs, ct, cu, cz⟩, mc, mt⟩)).2) := by rw [hpm]; exact Xq _ (by have h := hc39; simp [AB] at h; omega)
    rw [hq2]
    exact ⟨rfl, H.toBelow ⟨hv35.fresh, hpf, hv.fresh, (zq hg1), trivial⟩⟩
  ·refine Ap rfl (Ax (Aa (Ae (AG (Ae ?_)))))
   have hkl : k < q.length := by have h := hc23; simp [AB] at h; omega
   obtain ⟨⟨p, gc⟩, hx⟩ : ∃ x, q[k]? = some x := ⟨_, List.getElem?_eq_getElem hkl⟩
   obtain rfl := hpA (by rintro rfl; cases hx)
   have hp : (AK mk)[k]? = some p := by rw [← hq, List.getElem?_map, hx]; rfl
   have hql : q.length ≤ 4 := by have h := (JQ mk).2; rw [← hq, List.length_map] at h; exact h
   refine Ac (Ag (v := .pointer (some ((⟨gb, 0, none⟩ : Addr).add (k * 4)))) trivial rfl rfl (fun ρ w E H => BA (i := k) E rfl Tryz.underlying95 Az rfl rfl hkl) (Ag (v := .agg #[.func (.func p.putF) #[] #[], .func (.func p.takeF) #[] #[], .func (.func p.moveF) #[] #[], .func (.func p.mayF) #[] (p.cap gc).toArray]) trivial rfl rfl (fun ρ w E H => C7 (cs := [.func (.func p.putF) #[] #[], .func (.func p.takeF) #[] #[], .func (.func p.moveF) #[] #[], .func (.func p.mayF) #[] (p.cap gc).toArray]) E (LM (H.get (i := 0) rfl) hx) rfl rfl Tryz.underlying101 rfl Az) ?_))
   refine zA AY rfl fun g3 hg3 => ?_
   refine Bz (i := 0) trivial rfl rfl rfl rfl rfl Az rfl rfl rfl (Ad (Aa (Ac (zf 0 Jq rfl (zl 0 Tryz.underlying97 rfl (zm rfl (zw 3 Tryz.underlying33 Av rfl ?_)))))))
   refine AP (σ := Value) (fun s => s) (fun s => OwnIn w [] s) (fun s => _) trivial rfl rfl (fun ρ w E => Lr E (RG p) rfl rfl rfl rfl) (Lx (i := 2) (m' := (I3 ⟨mk, mn, mr, mb, ms, mo, mv, vl, il, ⟨ca, cb, ck, cs, ct, cu, cz⟩, mc, mt⟩ k ++ p.put ⟨mk, mn, mr, mb, ms, mo, mv, vl, il, ⟨ca, cb, ck, cs, ct, cu, cz⟩, mc, mt⟩).length) (xs' := bv (I3 ⟨mk, mn, mr, mb, ms, mo, mv, vl, il, ⟨ca, cb, ck, cs, ct, cu, cz⟩, mc, mt⟩ k ++ p.put ⟨mk, mn, mr, mb, ms, mo, mv, vl, il, ⟨ca, cb, ck, cs, ct, cu, cz⟩, mc, mt⟩)) rfl hv (fun w H => WR p ⟨mk, mn, mr, mb, ms, mo, mv, vl, il, ⟨ca, cb, ck, cs, ct, cu, cz⟩, mc, mt⟩ hf hs A B ka kb _ v (I3 ⟨mk, mn, mr, mb, ms, mo, mv, vl, il, ⟨ca, cb, ck, cs, ct, cu, cz⟩, mc, mt⟩ k) w (hr.below (H.toBelow ⟨(zq hg3), hpf, hv.fresh, (zq hg1), trivial⟩)) (Lm _ hf hs k) H.os.size (H.get (i := 2) rfl) (fun hn ad e => hr.hv.lt hn ad e) (fun hn ad e => hr.hi.lt hn ad e))) fun v2 hv2 => ?_
   refine Si (fun W H => H.re (i := 2) rfl (BU [] w.heap.size 5 1 v2 ((I3 ⟨mk, mn, mr, mb, ms, mo, mv, vl, il, ⟨ca, cb, ck, cs, ct, cu, cz⟩, mc, mt⟩ (k + 1)).length) (bv (I3 ⟨mk, mn, mr, mb, ms, mo, mv, vl, il, ⟨ca, cb, ck, cs, ct, cu, cz⟩, mc, mt⟩ (k + 1)))) (BF _ _ _ _ _ _ _) rfl (fun h => DI h (by rw [D3 hp]) (by rw [D3 hp]))) (za rfl (Ad (AA (Aa (Ac (Ag (v := .int .i64 ((k + 1 : Nat) : Int)) trivial rfl rfl (fun ρ w E H => BQ E rfl rfl rfl (by rw [IntKind.wrap_i64]; omega)) (zm rfl (Ad ?_))))))))
   refine B7 (gk - 1) (k + 1, v2) (by omega) ⟨by omega, hv2⟩ ⟨rfl, rfl, rfl, rfl, rfl, trivial⟩ [1, 2, 3] rfl (by decide) ⟨.inr (zq hg3), .inl rfl, .inl rfl, .inl rfl, trivial⟩
 ·refine Ap rfl (Ae (Ac (zm rfl (za rfl (za rfl (Ad (Aa (Am (Ak ?_)))))))))
  refine Ai (.tuple #[.string ⟨[].toArray⟩, .int .i64 (if C9 ⟨mk, mn, mr, mb, ms, mo, mv, vl, il, ⟨ca, cb, ck, cs, ct, cu, cz⟩, mc, mt⟩ then 0 else 2)]) (fun a w K H => XX K rfl rfl rfl) (fun w H => ?_)
  -- what is told
  have hck : C9 ⟨mk, mn, mr, mb, ms, mo, mv, vl, il, ⟨ca, cb, ck, cs, ct, cu, cz⟩, mc, mt⟩ = false := by cases hb : C9 ⟨mk, mn, mr, mb, ms, mo, mv, vl, il, ⟨ca, cb, ck, cs, ct, cu, cz⟩, mc, mt⟩ with | false => rfl | true => (have h := hc13; rw [hb] at h; simp [AB] at h)
  have hq2 : putM ⟨mk, mn, mr, mb, ms, mo, mv, vl, il, ⟨ca, cb, ck, cs, ct, cu, cz⟩, mc, mt⟩ = ([], 2) := by unfold putM; rw [if_neg (by rw [hck]; decide)]
  rw [hck]
  rw [hq2]
  exact ⟨rfl, H.toBelow ⟨(zq hg1), trivial⟩⟩

theorem put_any (m : Ms) (A B : Option Addr) (ka kb : Nat) (w : World) (hf : m.Fits) (hs : m.Small) (hr : MsRows w m A B) : Calls Tryz.prog 13 #[msV m A ka B kb] w fun e w' => e = .returned (.tuple #[.string ⟨(putM m).1.toArray⟩, .int .i64 ((putM m).2 : Int)]) ∧ Below w.heap.size w w' := by
 obtain ⟨mk, mn, mr, mb, ms, mo, mv, vl, il, ⟨ca, cb, ck, cs, ct, cu, cz⟩, mc, mt⟩ := m
 exact SC _ _ _ _ _ _ _ _ _ _ _ _ _ _ _ _ _ _ _ _ _ _ w hf hs hr
end Go.Proofs.YteiaiilfekojfaaGreat.Msg
end
section
set_option linter.unusedVariables false
set_option linter.unusedSimpArgs false
namespace Go.Proofs.YteiaiilfekojfaaGreat.Net
open Go.RowKit Sx Wire DrawInv
open Msg
def Jm (bag : List Pa) (f t : Nat) (k : Int) : List Pa × Nat := if BJ f t = true then (match Dq bag f t k with | none => (bag, 11) | some i => (bag.eraseIdx i, 0)) else (bag, 2)
def Ef (bag : List Pa) (f t : Nat) (k : Int) : List Pa × Nat := if BJ f t = true then (match Dq bag f t k with | none => (bag, 11) | some i => if 512 ≤ bag.length then (bag, 7) else (bag ++ (bag[i]?).toList, 0)) else (bag, 2)
def FY (bag : List Pa) (f t : Nat) (m : Ms) : List Pa × Nat := if BJ f t = true then (if (putM m).2 ≠ 0 then (bag, (putM m).2) else if 512 ≤ bag.length then (bag, 7) else (bag ++ [⟨f, t, (putM m).1⟩], 0)) else (bag, 2)
theorem OY {base g gm : Nat} {V : Value} {bag : List Pa} {M : Df} {w : World} (hn : (E7 base g gm V bag M).φ w) : ∀ b ∈ g :: gm :: V.ownBlock.toList, b < w.heap.size := fun b hb => by
 rcases List.mem_cons.1 hb with rfl | hb
 ·exact Blk.lt hn.1
 rcases List.mem_cons.1 hb with rfl | hb
 ·exact hn.2.2.lt
 ·exact (BS hn.2.1 b hb).2
theorem M8 {base g gm : Nat} {V : Value} {bag : List Pa} {M : Df} {w w' : World} (hn : (E7 base g gm V bag M).φ w) (hb : Below w.heap.size w w') : K8 base g gm V bag M w w' := by
 have hlt : ∀ b ∈ (E7 base g gm V bag M).fp, b < w.heap.size := fun b hb => by
  rcases List.mem_cons.1 hb with rfl | hb
  ·exact Blk.lt hn.1
  rcases List.mem_cons.1 hb with rfl | hb
  ·exact hn.2.2.lt
  ·exact (BS hn.2.1 b hb).2
 exact ⟨V, GP base g gm V bag M w w' (fun b hm => hb.block b (hlt b hm)) hn, fun b hm => .inl hm, ⟨hb.os, hb.tape, hb.output, hb.size, fun k hk _ => hb.block k hk⟩⟩
theorem _root_.Go.Proofs.YteiaiilfekojfaaGreat.Sx.Hp.knowNet {base g gm : Nat} {V : Value} {bag : List Pa} {M : Df} {w W : World} {L : List Ft} (H : Hp w L W) (hf : allF L fun f => ∀ g ∈ f.fp, w.heap.size ≤ g) (hn : (E7 base g gm V bag M).φ w) :
  Hp w (cell g 130 [V, .map (some gm)] :: BU V.ownBlock.toList base 134 3 V bag.length (bag.flatMap paL) :: NT gm I6 M :: L) W := by
 have hlt : ∀ b ∈ (E7 base g gm V bag M).fp, b < w.heap.size := fun b hb => by
  rcases List.mem_cons.1 hb with rfl | hb
  ·exact Blk.lt hn.1
  rcases List.mem_cons.1 hb with rfl | hb
  ·exact hn.2.2.lt
  ·exact (BS hn.2.1 b hb).2
 have hb := H.toBelow hf
 have hn2 := GP base g gm V bag M w W (fun b hm => hb.block b (hlt b hm)) hn
 obtain ⟨a1, a2, a3⟩ := Ny hn2
 have hne : ∀ b ∈ (E7 base g gm V bag M).fp, ∀ q ∈ L, b ∉ q.fp := fun b hm q hq hbq => by
  have := hlt b hm
  have := hf.mem q hq b hbq
  omega
 obtain ⟨h1, h2, h3⟩ := hn2
 have H0 := H.know (NT gm I6 M) (Ia _ _ _) (fun b hb => by
  obtain rfl := List.mem_singleton.1 hb
  exact ⟨h3.lt, fun q hq => hne _ (List.mem_cons_of_mem _ (List.mem_cons_self ..)) q hq⟩) h3
 have H1 := H0.know (BU V.ownBlock.toList base 134 3 V bag.length (bag.flatMap paL)) (BF _ _ _ _ _ _ _) (fun b hb => by
  have hb : b ∈ V.ownBlock.toList := by simpa [BU] using hb
  refine ⟨(BS h2 b hb).2, fun q hq hbq => ?_⟩
  rcases List.mem_cons.1 hq with rfl | hq
  ·obtain rfl := List.mem_singleton.1 hbq
   exact a3 hb
  ·exact hne b (List.mem_cons_of_mem _ (List.mem_cons_of_mem _ hb)) q hq hbq) h2
 refine H1.know _ (BR _ _ _) (fun b hb => ?_) h1
 obtain rfl := List.mem_singleton.1 hb
 refine ⟨Blk.lt h1, fun q hq hbq => ?_⟩
 rcases List.mem_cons.1 hq with rfl | hq
 ·exact a2 (by simpa [BU] using hbq)
 rcases List.mem_cons.1 hq with rfl | hq
 ·exact a1 (List.mem_singleton.1 hbq)
 ·exact hne _ (List.mem_cons_self ..) q hq hbq
theorem Ib {bag : List Pa} {f t i : Nat} {k : Int} (h : Dq bag f t k = some i) : i < bag.length ∧ LP bag f t i = true := by
 unfold Dq at h
 split at h
 ·exact Xm bag f t _ i (List.mem_of_getElem? h)
 ·cases h
theorem Qf {bag : List Pa} {f t i : Nat} (h : LP bag f t i = true) : ∃ s, bag[i]? = some ⟨f, t, s⟩ := by
 unfold LP at h
 cases hx : bag[i]? with
 | none => rw [hx] at h; cases h
 | some p =>
  rw [hx] at h
  obtain ⟨a, b, s⟩ := p
  simp at h
  exact ⟨s, by rw [h.1, h.2]⟩

set_option maxRecDepth 100000 in
set_option maxHeartbeats 4000000 in
theorem NF (base g gm : Nat) (V : Value) (bag : List Pa) (M : Df) (f t : Nat) (k : Int) (w : World) (hn : (E7 base g gm V bag M).φ w) (hb512 : bag.length ≤ 512) : Calls Tryz.prog 25 #[.pointer (some ⟨g, 0, none⟩), .int .u8 (f : Int), .int .u8 (t : Int), .int .i64 (k)] w fun e w' => e = .returned (.int .i64 ((Jm bag f t k).2 : Int)) ∧ K8 base g gm V (Jm bag f t k).1 M w w' := by
 obtain ⟨Ab, cb, rfl⟩ := Bf hn.2.1
 have hv0 : OwnIn w (Value.slice Ab bag.length cb).ownBlock.toList (.slice Ab bag.length cb) := fun b hb => .inl hb
 refine A0 (n := 39) _ Tryz.func25 rfl rfl rfl (Le hn) (Ae (Ac (za rfl (Ad (Aa (Ae (Ae (Ac (zm rfl ?_)))))))))
 refine Ag (v := .bool false) trivial rfl rfl (fun ρ w E H => Is E rfl Tryz.underlying48 rfl rfl rfl) (Ad (Aa (Ah rfl (Ax (Aa (Ae (Ae (Ac (zm rfl ?_)))))))))
 refine zm rfl ?_
 refine CN (b := (BJ f t)) trivial rfl rfl (zk Ei rfl) (fun w H => IU f t w) fun c15 hc15 => ?_
 cases c15
 ·refine zn true rfl (Ad (Aa (Ap rfl (Ae (Ac (za rfl (Ad (Aa (Am ?_)))))))))
  refine Ak ?_
  refine Ai (.int .i64 2) (fun a w K H => BC K rfl rfl) (fun w H => ?_)
  have hq : Jm bag f t k = (bag, 2) := by
   unfold Jm; rw [if_neg (by rw [hc15]; decide)]
  rw [hq]
  exact ⟨rfl, ⟨_, ⟨H.get (i := 0) rfl, H.get (i := 1) rfl, H.get (i := 2) rfl⟩, hv0, H.toOuts _ ⟨(fun b hb => by rw [List.mem_singleton.1 hb]; exact .inl (by simp)), (fun b hb => (hv0.in_ b hb).imp (fun h => List.mem_cons_of_mem _ (List.mem_cons_of_mem _ h)) id), (fun b hb => .inl (by rw [List.mem_singleton.1 hb]; simp)), trivial⟩⟩⟩
 ·refine zn false rfl (Ad (Aa (Ah rfl (Ax (Aa (Ae ?_))))))
  rcases hfo : Dq bag f t k with _ | i
  ·refine Ac (zm rfl (zm rfl (zm rfl (zm rfl (Ao (v := .tuple #[.int .i64 0, .int .i64 11]) trivial rfl rfl (zk Dm rfl) (fun w H => (IJ base g gm Ab cb bag M f t k w ⟨H.get (i := 0) rfl, H.get (i := 1) rfl, H.get (i := 2) rfl⟩ hb512).mono fun _ _ h => ⟨by rw [h.1, hfo]; rfl, h.2⟩) (zm rfl (zX (.int .i64 0) rfl (zX (.int .i64 11) rfl (za rfl ?_)))))))))
   refine za rfl (Ad (Aa (Ae (Ae (Ac (zm rfl (zc true rfl (by decide) (Ad (Aa ?_)))))))))
   refine Ap rfl (Ae (Ac (zm rfl (za rfl (Ad (Aa (Am (Ak ?_))))))))
   refine Ai (.int .i64 11) (fun a w K H => BC K rfl rfl) (fun w H => ?_)
   have hq : Jm bag f t k = (bag, 11) := by
    unfold Jm; rw [if_pos hc15, hfo]
   rw [hq]
   exact ⟨rfl, ⟨_, ⟨H.get (i := 0) rfl, H.get (i := 1) rfl, H.get (i := 2) rfl⟩, hv0, H.toOuts _ ⟨(fun b hb => by rw [List.mem_singleton.1 hb]; exact .inl (by simp)), (fun b hb => (hv0.in_ b hb).imp (fun h => List.mem_cons_of_mem _ (List.mem_cons_of_mem _ h)) id), (fun b hb => .inl (by rw [List.mem_singleton.1 hb]; simp)), trivial⟩⟩⟩
  ·obtain ⟨hil, hhas⟩ := Ib hfo
   refine Ac (zm rfl (zm rfl (zm rfl (zm rfl (Ao (v := .tuple #[.int .i64 (i : Int), .int .i64 0]) trivial rfl rfl (zk Dm rfl) (fun w H => (IJ base g gm Ab cb bag M f t k w ⟨H.get (i := 0) rfl, H.get (i := 1) rfl, H.get (i := 2) rfl⟩ hb512).mono fun _ _ h => ⟨by rw [h.1, hfo]; rfl, h.2⟩) (zm rfl (zX (.int .i64 (i : Int)) rfl (zX (.int .i64 0) rfl (za rfl ?_)))))))))
   refine za rfl (Ad (Aa (Ae (Ae (Ac (zm rfl (zc false rfl (by decide) (Ad (Aa ?_)))))))))
   refine Ah rfl (Ax (Aa (Ae (Ac (zm rfl (zm rfl (Ag (v := .pointer (some ⟨g, 0, none⟩)) trivial rfl rfl (fun ρ w E H => Be E rfl rfl) (zf 0 Bo rfl (zl 0 Tryz.underlying128 rfl ?_)))))))))
   refine zm rfl (zm rfl (Ag (v := .int .i64 ((i + 1 : Nat) : Int)) trivial rfl rfl (fun ρ w E H => BQ E rfl rfl rfl (by rw [IntKind.wrap_i64]; omega)) ?_))
   refine AP (σ := Value) (fun s => s) (fun s => OwnIn w (Value.slice Ab bag.length cb).ownBlock.toList s) (fun s => _) trivial rfl rfl (zk Da rfl) (Lx (i := 1) (m' := bag.length - 1) (xs' := ((bag.eraseIdx i).flatMap paL)) rfl hv0 (fun w H => Tc (H.get (i := 1) rfl) hil)) fun v36 hv36 => ?_
   rw [show bag.length - 1 = (bag.eraseIdx i).length by rw [List.length_eraseIdx, if_pos hil]]
   refine CZ (fun W H => Bf (H.get (i := 1) rfl)) ?_
   rintro ⟨A36, k36, rfl⟩
   refine Ag (v := .pointer (some ⟨g, 0, none⟩)) trivial rfl rfl (fun ρ w E H => Be E rfl rfl) (zf 0 Bo rfl (zQ 0 [.slice A36 ((bag.eraseIdx i).length) k36, .map (some gm)] E4 rfl rfl (Ad (Aa (Ae (Ac (za rfl (Ad (Aa ?_)))))))))
   refine Am ?_
   refine Ai (.int .i64 0) (fun a w K H => BC K rfl rfl) (fun w H => ?_)
   have hq : Jm bag f t k = (bag.eraseIdx i, 0) := by
    unfold Jm; rw [if_pos hc15, hfo]
   rw [hq]
   exact ⟨rfl, ⟨_, ⟨H.get (i := 0) rfl, H.get (i := 1) rfl, H.get (i := 2) rfl⟩, hv36, H.toOuts _ ⟨(fun b hb => by rw [List.mem_singleton.1 hb]; exact .inl (by simp)), (fun b hb => (hv36.in_ b hb).imp (fun h => List.mem_cons_of_mem _ (List.mem_cons_of_mem _ h)) id), (fun b hb => .inl (by rw [List.mem_singleton.1 hb]; simp)), trivial⟩⟩⟩

end Go.Proofs.YteiaiilfekojfaaGreat.Net
end
section
set_option linter.unusedVariables false
set_option linter.unusedSimpArgs false
namespace Go.Proofs.YteiaiilfekojfaaGreat.Net
open Go.RowKit Sx Wire DrawInv
open Msg
set_option maxRecDepth 100000 in
set_option maxHeartbeats 4000000 in
theorem Vk (base g gm : Nat) (V : Value) (bag : List Pa) (M : Df) (f t : Nat) (mk mn mr mb ms mo ca cb ck cz mc : Nat) (mv cs ct cu mt : List UInt8) (vl : List Vo) (il : List Im) (A B : Option Addr) (ka kb : Nat) (w : World) (hn : (E7 base g gm V bag M).φ w) (hb512 : bag.length ≤ 512) (hbase : base ≤ w.heap.size) (hf : Ms.Fits ⟨mk, mn, mr, mb, ms, mo, mv, vl, il, ⟨ca, cb, ck, cs, ct, cu, cz⟩, mc, mt⟩) (hs : Ms.Small ⟨mk, mn, mr, mb, ms, mo, mv, vl, il, ⟨ca, cb, ck, cs, ct, cu, cz⟩, mc, mt⟩) (hr : MsRows w ⟨mk, mn, mr, mb, ms, mo, mv, vl, il, ⟨ca, cb, ck, cs, ct, cu, cz⟩, mc, mt⟩ A B) : Calls Tryz.prog 30 #[.pointer (some ⟨g, 0, none⟩), .agg #[.int .u8 (f : Int), .int .u8 (t : Int), .int .u8 (mk : Int), .int .u64 (mn : Int), .int .u8 (mr : Int), .int .u64 (mb : Int), .int .u64 (ms : Int), .int .u8 (mo : Int), .string ⟨mv.toArray⟩, .slice A vl.length ka, .slice B il.length kb, .int .u8 (ca : Int), .int .u32 (cb : Int), .int .u8 (ck : Int), .string ⟨cs.toArray⟩, .string ⟨ct.toArray⟩, .string ⟨cu.toArray⟩, .int .u8 (cz : Int), .int .u8 (mc : Int), .string ⟨mt.toArray⟩]] w fun e w' => e = .returned (.int .i64 ((FY bag f t ⟨mk, mn, mr, mb, ms, mo, mv, vl, il, ⟨ca, cb, ck, cs, ct, cu, cz⟩, mc, mt⟩).2 : Int)) ∧ K8 base g gm V (FY bag f t ⟨mk, mn, mr, mb, ms, mo, mv, vl, il, ⟨ca, cb, ck, cs, ct, cu, cz⟩, mc, mt⟩).1 M w w' := by
 obtain ⟨Ab, cbb, rfl⟩ := Bf hn.2.1
 have hv0 : OwnIn w (Value.slice Ab bag.length cbb).ownBlock.toList (.slice Ab bag.length cbb) := fun b hb => .inl hb
 obtain ⟨⟨ps, pe⟩, hpm⟩ : ∃ x, putM ⟨mk, mn, mr, mb, ms, mo, mv, vl, il, ⟨ca, cb, ck, cs, ct, cu, cz⟩, mc, mt⟩ = x := ⟨_, rfl⟩
 refine A0 (n := 46) _ Tryz.func30 rfl rfl rfl (Hp.start w) (Ae (Ac ?_))
 refine zB rfl fun g1 hg1 => ?_
 refine za rfl (Ad (Aa (Ae (Ae (Ac (zm rfl (Ag (v := .bool false) trivial rfl rfl (fun ρ w E H => Is E rfl Tryz.underlying48 rfl rfl rfl) (Ad (Aa ?_)))))))))
 refine Ah rfl (Ax (Aa (Ae (Ae (Ac (zf 0 Bv rfl (zl 0 Tryz.underlying5 rfl (zf 1 Bm rfl (zl 0 Tryz.underlying5 rfl ?_)))))))))
 refine CN (b := (BJ f t)) trivial rfl rfl (zk Ei rfl) (fun w H => IU f t w) fun c13 hc13 => ?_
 cases c13
 ·refine zn true rfl (Ad (Aa (Ap rfl (Ae (Ac (za rfl (Ad (Aa (Am ?_)))))))))
  refine Ak ?_
  refine Ai (.int .i64 2) (fun a w K H => BC K rfl rfl) (fun w H => ?_)
  have hq : FY bag f t ⟨mk, mn, mr, mb, ms, mo, mv, vl, il, ⟨ca, cb, ck, cs, ct, cu, cz⟩, mc, mt⟩ = (bag, 2) := by unfold FY; rw [if_neg (by rw [hc13]; decide)]
  rw [hq]
  exact ⟨rfl, M8 hn (H.toBelow ⟨(zq hg1), trivial⟩)⟩
 ·refine zn false rfl (Ad (Aa (Ah rfl (Ax (Aa (Ae (Ac (zf 2 Bl rfl (zv 0 [.int .u8 (mk : Int), .int .u64 (mn : Int), .int .u8 (mr : Int), .int .u64 (mb : Int), .int .u64 (ms : Int), .int .u8 (mo : Int), .string ⟨mv.toArray⟩, .slice A vl.length ka, .slice B il.length kb, .int .u8 (ca : Int), .int .u32 (cb : Int), .int .u8 (ck : Int), .string ⟨cs.toArray⟩, .string ⟨ct.toArray⟩, .string ⟨cu.toArray⟩, .int .u8 (cz : Int), .int .u8 (mc : Int), .string ⟨mt.toArray⟩] Tryz.underlying33 Av rfl ?_)))))))))
  refine Ao (v := .tuple #[.string ⟨ps.toArray⟩, .int .i64 (pe : Int)]) trivial rfl rfl (zk Ig rfl) (fun w H => (put_any ⟨mk, mn, mr, mb, ms, mo, mv, vl, il, ⟨ca, cb, ck, cs, ct, cu, cz⟩, mc, mt⟩ A B ka kb w hf hs (hr.below (H.toBelow ⟨(zq hg1), trivial⟩))).mono fun _ _ h => ⟨by rw [h.1, hpm], h.2⟩) (zm rfl (zX (.string ⟨ps.toArray⟩) rfl (zX (.int .i64 (pe : Int)) rfl (za rfl (za rfl (Ad (Aa (Ae (Ae ?_)))))))))
  refine Ac (zm rfl ?_)
  refine zb rfl fun c22 hc22 => ?_
  refine Ad (Aa ?_)
  cases c22
  ·refine Ah rfl (Ax (Aa (Ae (Ae (Ep (fun W H => H.knowNet ⟨(zq hg1), trivial⟩ hn) (Ac (zm rfl (Ag (v := .pointer (some ⟨g, 0, none⟩)) trivial rfl rfl (fun ρ w E H => Be E rfl rfl) (zf 0 Bo rfl ?_)))))))))
   refine zl 0 Tryz.underlying128 rfl (zL Tryz.underlying128 rfl ?_)
   refine zb rfl fun c29 hc29 => ?_
   refine Ad (Aa ?_)
   cases c29
   ·refine Ah rfl (Ax (Aa (Ae (BN ((Value.slice Ab bag.length cbb).ownBlock.toList ++ [g, gm]) [2, 3] (by kernel_rfl) rfl ⟨(zi (by simp)), (fun g hg => (hv0.in_ g hg).imp (fun h => by simp only [List.mem_append]; simp [h]) id), (zi (by simp)), (zh hg1), trivial⟩ (ym 0 rfl (by kernel_rfl) zI (ym 1 rfl (by kernel_rfl) zI (yt (i := 2) (v := .pointer (some ⟨g, 0, none⟩)) (by kernel_rfl) zI rfl rfl rfl rfl (fun ρ w E H => Be E rfl rfl) (yf 3 0 Bo rfl (by kernel_rfl) zI (yf 5 0 Bv rfl (by kernel_rfl) zI ?_)))))))))
    refine yl 6 1 Tryz.underlying5 rfl (by kernel_rfl) zI (yf 7 1 Bm rfl (by kernel_rfl) zI (yl 8 1 Tryz.underlying5 rfl (by kernel_rfl) zI (yt (i := 9) (by kernel_rfl) zI rfl rfl rfl rfl (fun ρ w E H => Bh (cs := [.int .u8 (f : Int), .int .u8 (t : Int)]) E rfl rfl (by kernel_rfl)) (ym 10 rfl (by kernel_rfl) zI (yt (i := 11) (by kernel_rfl) zI rfl rfl rfl rfl (fun ρ w E H => Bh (cs := [.int .u8 (f : Int), .int .u8 (t : Int), .string ⟨ps.toArray⟩]) E rfl rfl (by kernel_rfl)) ?_)))))
    refine Ed [4, 12] (by kernel_rfl) (by simp) ⟨?_, ?_, trivial⟩
    ·refine DZ rfl trivial rfl rfl (fun ρ w E H => Dl E (H.get (i := 0) rfl) rfl rfl Tryz.underlying128 rfl rfl) (yr 12 (by kernel_rfl) ?_)
     refine Dc (cs := [.int .u8 (f : Int), .int .u8 (t : Int), .string ⟨ps.toArray⟩]) rfl trivial rfl rfl (fun ρ w E H => AV E rfl rfl Tryz.underlying128 Bc CJ rfl rfl (by kernel_rfl)) (fun g2 w hg2 H => H.ks ((Value.slice Ab bag.length cbb).ownBlock.toList ++ [g, gm]) [3, 4] rfl ⟨(zh hg2), (zi (by simp)), (fun g hg => (hv0.in_ g hg).imp (fun h => by simp only [List.mem_append]; simp [h]) id), (zi (by simp)), (zh hg1), trivial⟩) fun g2 hg2 => ?_
     refine yr 13 (by kernel_rfl) ?_
     refine BZ (i := 2) (news := [.int .u8 (f : Int), .int .u8 (t : Int), .string ⟨ps.toArray⟩]) rfl trivial rfl rfl rfl Tryz.underlying128 D2 rfl rfl rfl rfl hv0 rfl (fun w H => CS H (i := 0) rfl rfl) (D4 rfl) (by unfold maxLen; omega) (by omega) hbase (fun A43 k43 w hv43 H => H.ks ((Value.slice Ab bag.length cbb).ownBlock.toList ++ [g, gm]) [3, 4] rfl ⟨(zh hg2), (zi (by simp)), (fun g hg => (hv43.in_ g hg).imp (fun h => by simp only [List.mem_append]; simp [h]) id), (zi (by simp)), (zh hg1), trivial⟩) fun A43 k43 hv43 => ?_
     refine yt (i := 14) (v := .pointer (some ⟨g, 0, none⟩)) (by kernel_rfl) zI rfl rfl rfl rfl (fun ρ w E H => Be E rfl rfl) (yf 15 0 Bo rfl (by kernel_rfl) zI (yr 16 (by kernel_rfl) (Dk (j := 1) [.slice A43 (bag.length + 1) k43, .map (some gm)] rfl trivial rfl rfl rfl rfl rfl E4 rfl rfl rfl rfl (fun w H => H.ks ((Value.slice Ab bag.length cbb).ownBlock.toList ++ [g, gm]) [3, 4] rfl ⟨(zh hg2), (zi (by simp)), (fun g hg => (hv43.in_ g hg).imp (fun h => by simp only [List.mem_append]; simp [h]) id), (zi (by simp)), (zh hg1), trivial⟩) (BE (by kernel_rfl) (Aa (Ae (Ep (fun W H => H.re (i := 2) rfl (BU (Value.slice Ab bag.length cbb).ownBlock.toList base 134 3 (.slice A43 (bag.length + 1) k43) ((bag ++ [(⟨f, t, ps⟩ : Pa)]).length) ((bag ++ [(⟨f, t, ps⟩ : Pa)]).flatMap paL)) (BF _ _ _ _ _ _ _) rfl (fun h => DI h (by simp) (by simp [paL]))) (Ac (za rfl ?_)))))))))
     refine Ad (Aa (Am ?_))
     refine Ai (.int .i64 0) (fun a w K H => BC K rfl rfl) (fun w H => ?_)
     have hq : FY bag f t ⟨mk, mn, mr, mb, ms, mo, mv, vl, il, ⟨ca, cb, ck, cs, ct, cu, cz⟩, mc, mt⟩ = (bag ++ [⟨f, t, ps⟩], 0) := by
      unfold FY; rw [if_pos hc13, hpm, if_neg (by have h := hc22; simp [AB] at h; simpa using h), if_neg (by have h := hc29; simp [AB] at h; omega)]
     rw [hq]
     exact ⟨rfl, ⟨_, ⟨H.get (i := 1) rfl, H.get (i := 2) rfl, H.get (i := 3) rfl⟩, hv43, H.toOuts _ ⟨(fun b hb => by rw [List.mem_singleton.1 hb]; exact .inr hg2), (fun b hb => by rw [List.mem_singleton.1 hb]; exact .inl (by simp)), (fun b hb => (hv43.in_ b hb).imp (fun h => List.mem_cons_of_mem _ (List.mem_cons_of_mem _ h)) id), (fun b hb => .inl (by rw [List.mem_singleton.1 hb]; simp)), (fun b hb => by rw [List.mem_singleton.1 hb]; exact .inr hg1), trivial⟩⟩⟩
    ·refine Dc (cs := [.int .u8 (f : Int), .int .u8 (t : Int), .string ⟨ps.toArray⟩]) rfl trivial rfl rfl (fun ρ w E H => AV E rfl rfl Tryz.underlying128 Bc CJ rfl rfl (by kernel_rfl)) (fun g3 w hg3 H => H.ks ((Value.slice Ab bag.length cbb).ownBlock.toList ++ [g, gm]) [3, 4] rfl ⟨(zh hg3), (zi (by simp)), (fun g hg => (hv0.in_ g hg).imp (fun h => by simp only [List.mem_append]; simp [h]) id), (zi (by simp)), (zh hg1), trivial⟩) fun g3 hg3 => ?_
     refine yr 4 (by kernel_rfl) (DZ rfl trivial rfl rfl (fun ρ w E H => Dl E (H.get (i := 1) rfl) rfl rfl Tryz.underlying128 rfl rfl) (yr 13 (by kernel_rfl) ?_))
     refine BZ (i := 2) (news := [.int .u8 (f : Int), .int .u8 (t : Int), .string ⟨ps.toArray⟩]) rfl trivial rfl rfl rfl Tryz.underlying128 D2 rfl rfl rfl rfl hv0 rfl (fun w H => CS H (i := 0) rfl rfl) (D4 rfl) (by unfold maxLen; omega) (by omega) hbase (fun A43 k43 w hv43 H => H.ks ((Value.slice Ab bag.length cbb).ownBlock.toList ++ [g, gm]) [3, 4] rfl ⟨(zh hg3), (zi (by simp)), (fun g hg => (hv43.in_ g hg).imp (fun h => by simp only [List.mem_append]; simp [h]) id), (zi (by simp)), (zh hg1), trivial⟩) fun A43 k43 hv43 => ?_
     refine yt (i := 14) (v := .pointer (some ⟨g, 0, none⟩)) (by kernel_rfl) zI rfl rfl rfl rfl (fun ρ w E H => Be E rfl rfl) (yf 15 0 Bo rfl (by kernel_rfl) zI (yr 16 (by kernel_rfl) (Dk (j := 1) [.slice A43 (bag.length + 1) k43, .map (some gm)] rfl trivial rfl rfl rfl rfl rfl E4 rfl rfl rfl rfl (fun w H => H.ks ((Value.slice Ab bag.length cbb).ownBlock.toList ++ [g, gm]) [3, 4] rfl ⟨(zh hg3), (zi (by simp)), (fun g hg => (hv43.in_ g hg).imp (fun h => by simp only [List.mem_append]; simp [h]) id), (zi (by simp)), (zh hg1), trivial⟩) (BE (by kernel_rfl) (Aa (Ae (Ep (fun W H => H.re (i := 2) rfl (BU (Value.slice Ab bag.length cbb).ownBlock.toList base 134 3 (.slice A43 (bag.length + 1) k43) ((bag ++ [(⟨f, t, ps⟩ : Pa)]).length) ((bag ++ [(⟨f, t, ps⟩ : Pa)]).flatMap paL)) (BF _ _ _ _ _ _ _) rfl (fun h => DI h (by simp) (by simp [paL]))) (Ac (za rfl ?_)))))))))
     refine Ad (Aa (Am ?_))
     refine Ai (.int .i64 0) (fun a w K H => BC K rfl rfl) (fun w H => ?_)
     have hq : FY bag f t ⟨mk, mn, mr, mb, ms, mo, mv, vl, il, ⟨ca, cb, ck, cs, ct, cu, cz⟩, mc, mt⟩ = (bag ++ [⟨f, t, ps⟩], 0) := by
      unfold FY; rw [if_pos hc13, hpm, if_neg (by have h := hc22; simp [AB] at h; simpa using h), if_neg (by have h := hc29; simp [AB] at h; omega)]
     rw [hq]
     exact ⟨rfl, ⟨_, ⟨H.get (i := 1) rfl, H.get (i := 2) rfl, H.get (i := 3) rfl⟩, hv43, H.toOuts _ ⟨(fun b hb => by rw [List.mem_singleton.1 hb]; exact .inr hg3), (fun b hb => by rw [List.mem_singleton.1 hb]; exact .inl (by simp)), (fun b hb => (hv43.in_ b hb).imp (fun h => List.mem_cons_of_mem _ (List.mem_cons_of_mem _ h)) id), (fun b hb => .inl (by rw [List.mem_singleton.1 hb]; simp)), (fun b hb => by rw [List.mem_singleton.1 hb]; exact .inr hg1), trivial⟩⟩⟩
   ·refine Ap rfl (Ae (Ac (za rfl (Ad (Aa (Am (Ak ?_)))))))
    refine Ai (.int .i64 7) (fun a w K H => BC K rfl rfl) (fun w H => ?_)
    have hq : FY bag f t ⟨mk, mn, mr, mb, ms, mo, mv, vl, il, ⟨ca, cb, ck, cs, ct, cu, cz⟩, mc, mt⟩ = (bag, 7) := by
     unfold FY; rw [if_pos hc13, hpm, if_neg (by have h := hc22; simp [AB] at h; simpa using h), if_pos (by have h := hc29; simp [AB] at h; omega)]
    rw [hq]
    exact ⟨rfl, ⟨_, ⟨H.get (i := 0) rfl, H.get (i := 1) rfl, H.get (i := 2) rfl⟩, hv0, H.toOuts _ ⟨(fun b hb => by rw [List.mem_singleton.1 hb]; exact .inl (by simp)), (fun b hb => (hv0.in_ b hb).imp (fun h => List.mem_cons_of_mem _ (List.mem_cons_of_mem _ h)) id), (fun b hb => .inl (by rw [List.mem_singleton.1 hb]; simp)), (fun b hb => by rw [List.mem_singleton.1 hb]; exact .inr hg1), trivial⟩⟩⟩
  ·refine Ap rfl (Ae (Ac (zm rfl (za rfl (Ad (Aa (Am (Ak ?_))))))))
   refine Ai (.int .i64 (pe : Int)) (fun a w K H => BC K rfl rfl) (fun w H => ?_)
   have hq : FY bag f t ⟨mk, mn, mr, mb, ms, mo, mv, vl, il, ⟨ca, cb, ck, cs, ct, cu, cz⟩, mc, mt⟩ = (bag, pe) := by unfold FY; rw [if_pos hc13, hpm, if_pos (by have h := hc22; simp [AB] at h; simpa using h)]
   rw [hq]
   exact ⟨rfl, M8 hn (H.toBelow ⟨(zq hg1), trivial⟩)⟩

end Go.Proofs.YteiaiilfekojfaaGreat.Net
end
section
set_option linter.unusedVariables false
set_option linter.unusedSimpArgs false
namespace Go.Proofs.YteiaiilfekojfaaGreat.Net
def ltP (a b : Nat × Nat) : Prop := a.1 < b.1 ∨ (a.1 = b.1 ∧ a.2 < b.2)
instance (a b : Nat × Nat) : Decidable (ltP a b) := by unfold ltP; exact inferInstance
theorem Xi (a b : Nat × Nat) (h : ¬ ltP b a) (hne : a ≠ b) : ltP a b := by
 obtain ⟨a1, a2⟩ := a
 obtain ⟨b1, b2⟩ := b
 unfold ltP at *
 simp only [ne_eq, Prod.mk.injEq] at *
 omega
theorem Uz {a b c : Nat × Nat} (h : ltP a b) (k : ¬ ltP c b) : ltP a c := by
 obtain ⟨a1, a2⟩ := a
 obtain ⟨b1, b2⟩ := b
 obtain ⟨c1, c2⟩ := c
 unfold ltP at *
 simp only at *
 omega
theorem R2 {a b : Nat × Nat} (h : ltP a b) : a ≠ b := by
 rintro rfl
 unfold ltP at h
 omega
def F6 : List (Nat × Nat) → List (Nat × Nat)
 | [] => []
 | [a] => [a]
 | a :: b :: l => if a = b then F6 (b :: l) else a :: F6 (b :: l)
theorem LY : ∀ (l : List (Nat × Nat)) (b a : Nat × Nat), F6 (l ++ [b] ++ [a]) = F6 (l ++ [b]) ++ (if a = b then [] else [a])
 | [], b, a => by
  show F6 [b, a] = [b] ++ _
  unfold F6
  by_cases e : a = b
  ·subst e; simp [F6]
  ·rw [if_neg (fun h => e h.symm), if_neg e]; simp [F6]
 | [x], b, a => by
  show F6 [x, b, a] = F6 [x, b] ++ _
  have h := LY [] b a
  simp only [List.nil_append, List.singleton_append] at h
  conv => lhs; unfold F6
  conv => rhs; unfold F6
  rw [h]
  split <;> rfl
 | x :: y :: l, b, a => by
  have h := LY (y :: l) b a
  show F6 (x :: y :: (l ++ [b] ++ [a])) = F6 (x :: y :: (l ++ [b])) ++ _
  have h : F6 (y :: (l ++ [b] ++ [a])) = F6 (y :: (l ++ [b])) ++ (if a = b then [] else [a]) := h
  conv => lhs; unfold F6
  conv => rhs; unfold F6
  rw [h]
  split <;> rfl
theorem Gk {l : List (Nat × Nat)} {m : Nat} {a : Nat × Nat} (h : l[m]? = some a) : l.take (m + 1) = l.take m ++ [a] := by
 rw [List.take_add_one, h]; rfl
theorem Kq {l : List (Nat × Nat)} {m : Nat} {a b : Nat × Nat} (hm : 1 ≤ m) (hb : l[m - 1]? = some b) (ha : l[m]? = some a) : F6 (l.take (m + 1)) = F6 (l.take m) ++ (if a = b then [] else [a]) := by
 obtain ⟨k, rfl⟩ : ∃ k, m = k + 1 := ⟨m - 1, by omega⟩
 rw [Nat.add_sub_cancel] at hb
 rw [Gk ha, Gk hb]
 exact LY _ _ _
theorem N1 : ∀ (l : List (Nat × Nat)) (x : Nat × Nat), x ∈ F6 l ↔ x ∈ l
 | [], x => Iff.rfl
 | [a], x => Iff.rfl
 | a :: b :: l, x => by
  have h := N1 (b :: l) x
  unfold F6
  by_cases e : a = b
  ·rw [if_pos e, h]
   subst e
   simp
  ·rw [if_neg e, List.mem_cons, h, List.mem_cons (a := x) (b := a)]
theorem MH : ∀ (l : List (Nat × Nat)), l.Pairwise (fun a b => ¬ ltP b a) → (F6 l).Pairwise ltP
 | [], _ => .nil
 | [a], _ => List.pairwise_singleton _ _
 | a :: b :: l, h => by
  obtain ⟨h1, h2⟩ := List.pairwise_cons.1 h
  have ih := MH (b :: l) h2
  unfold F6
  by_cases e : a = b
  ·rw [if_pos e]; exact ih
  ·rw [if_neg e]
   refine List.pairwise_cons.2 ⟨fun x hx => ?_, ih⟩
   rw [N1] at hx
   have hab := Xi a b (h1 b (List.mem_cons_self ..)) e
   rcases List.mem_cons.1 hx with rfl | hx
   ·exact hab
   ·exact Uz hab ((List.pairwise_cons.1 h2).1 x hx)
structure PairsOf (bag : List Pa) (Q : List (Nat × Nat)) : Prop where
 lt : Q.Pairwise ltP
 mem : ∀ p, p ∈ Q ↔ p ∈ bag.map fun x => (x.src, x.dst)
theorem PairsOf.mk' {bag : List Pa} {R : List (Nat × Nat)} (h1 : R.Perm (bag.map fun x => (x.src, x.dst))) (h2 : R.Pairwise (fun a b => ¬ ltP b a)) : PairsOf bag (F6 R) :=
 ⟨MH R h2, fun p => by rw [N1, h1.mem_iff]⟩
theorem NQ {l : List (Nat × Nat)} {k : Nat} {a : Nat × Nat} (hk : k < l.length) : (l.set k a).take (k + 1) = l.take k ++ [a] := by
 rw [List.take_add_one, List.getElem?_set_self hk, List.take_set_of_le (Nat.le_refl _)]; rfl
end Go.Proofs.YteiaiilfekojfaaGreat.Net
end
