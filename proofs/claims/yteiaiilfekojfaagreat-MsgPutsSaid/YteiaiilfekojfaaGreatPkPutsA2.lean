/- Texts that the proof of MsgPuts leans on, put together (2 of 4). Conditions: each theorem states its own. -/
import Derived.Test.YteiaiilfekojfaaGreatPkPutsA1
section
set_option linter.unusedVariables false
set_option linter.unusedSimpArgs false
namespace Go.Proofs.YteiaiilfekojfaaGreat.Msg
open Go.RowKit Sx Wire DrawInv
set_option maxRecDepth 100000 in
set_option maxHeartbeats 4000000 in
theorem take_cmd (gr : Nat) (r : Rd) (g xk xn xr xb xs xo da db dk dz xc : Nat) (xv ds dt du xt : List UInt8) (wl : List Vo) (jl : List Im) (V I : Value)  (w : World) (hr : Blk w gr 157 (rdC r)) (hg : Blk w g 33 (msL ⟨xk, xn, xr, xb, xs, xo, xv, wl, jl, ⟨da, db, dk, ds, dt, du, dz⟩, xc, xt⟩ V I).toArray) (hne : gr ≠ g) (hrl : r.rest.length ≤ 1000000) : Calls Tryz.prog 112 #[.pointer (some ⟨gr, 0, none⟩), .pointer (some ⟨g, 0, none⟩)] w fun e w' => e = .returned (.tuple #[]) ∧ Blk w' gr 157 (rdC (Pt.take .cmd (⟨xk, xn, xr, xb, xs, xo, xv, wl, jl, ⟨da, db, dk, ds, dt, du, dz⟩, xc, xt⟩, r)).2) ∧ Blk w' g 33 (msL (Pt.take .cmd (⟨xk, xn, xr, xb, xs, xo, xv, wl, jl, ⟨da, db, dk, ds, dt, du, dz⟩, xc, xt⟩, r)).1 V I).toArray ∧ Outs [gr, g] w w' := by
  refine sx_enter (n := 9) _ Tryz.func112 rfl rfl rfl (Hp.duo hr hg hne) ?_
  refine SxC.region ?_
  iterate 2 refine SxL.val trivial rfl rfl (fun ρ w E H => ex_move E rfl rfl) ?_
  obtain ⟨p6, hp6⟩ : ∃ p, Cmd.takeC r = p := ⟨_, rfl⟩
  refine SxL.call (σ := Unit) (fun _ => .agg #[.int .u8 (p6.1.client : Int), .int .u32 (p6.1.seq : Int), .int .u8 (p6.1.kind : Int), .string ⟨p6.1.key.toArray⟩, .string ⟨p6.1.old.toArray⟩, .string ⟨p6.1.new.toArray⟩, .int .u8 (p6.1.set : Int)]) (fun _ => True) (fun _ => _) trivial rfl rfl (fun ρ w E => ex_call E en_palaver_cmd_Take rfl rfl) (callTurn (i := 0) (cell gr 157 [.int .i64 (p6.2.err : Int), .string ⟨p6.2.rest.toArray⟩]) rfl (cell_loc _ _ _) rfl (fun w H => (cmd_p hp6 (by skip; omega) w (H.get (i := 0) rfl)).mono fun _ _ h => turn_rd h)) fun _ _ => ?_
  refine SxL.val (v := .pointer (some ⟨g, 0, none⟩)) trivial rfl rfl (fun ρ w E H => ex_nilCheck E rfl rfl) ?_
  refine SxL.val (v := .pointer (some ⟨g, 9, none⟩)) trivial rfl rfl (fun ρ w E H => ex_field E rfl fa_palaver_api_Msg_8 rfl rfl) ?_
  refine SxL.store (i := 1) trivial rfl rfl rfl rfl rfl sz_palaver_api_Cmd rfl rfl rfl ?_
  refine SxL.nil ?_
  refine SxN.done (.tuple #[]) (fun a w K H => res0 rfl) (fun w H => ?_)
  have hR : Blk w gr 157 (rdC p6.2) := H.get (i := 0) rfl
  refine ⟨rfl, ?_⟩
  simp only [Pt.take, hp6]
  exact ⟨hR, H.get (i := 1) rfl, H.toOuts _ ⟨(fun g hg => by rw [List.mem_singleton.1 hg]; exact .inl (by simp)), (fun g hg => by rw [List.mem_singleton.1 hg]; exact .inl (by simp)), trivial⟩⟩

set_option maxRecDepth 100000 in
set_option maxHeartbeats 4000000 in
theorem take_name (gr : Nat) (r : Rd) (g xk xn xr xb xs xo da db dk dz xc : Nat) (xv ds dt du xt : List UInt8) (wl : List Vo) (jl : List Im) (V I : Value)  (w : World) (hr : Blk w gr 157 (rdC r)) (hg : Blk w g 33 (msL ⟨xk, xn, xr, xb, xs, xo, xv, wl, jl, ⟨da, db, dk, ds, dt, du, dz⟩, xc, xt⟩ V I).toArray) (hne : gr ≠ g) (hrl : r.rest.length ≤ 1000000) : Calls Tryz.prog 118 #[.pointer (some ⟨gr, 0, none⟩), .pointer (some ⟨g, 0, none⟩)] w fun e w' => e = .returned (.tuple #[]) ∧ Blk w' gr 157 (rdC (Pt.take .name (⟨xk, xn, xr, xb, xs, xo, xv, wl, jl, ⟨da, db, dk, ds, dt, du, dz⟩, xc, xt⟩, r)).2) ∧ Blk w' g 33 (msL (Pt.take .name (⟨xk, xn, xr, xb, xs, xo, xv, wl, jl, ⟨da, db, dk, ds, dt, du, dz⟩, xc, xt⟩, r)).1 V I).toArray ∧ Outs [gr, g] w w' := by
  refine sx_enter (n := 17) _ Tryz.func118 rfl rfl rfl (Hp.duo hr hg hne) ?_
  refine SxC.seq (SxC.region ?_)
  iterate 2 refine SxL.val trivial rfl rfl (fun ρ w E H => ex_move E rfl rfl) ?_
  obtain ⟨p6, hp6⟩ : ∃ p, Rd.byte r = p := ⟨_, rfl⟩
  refine SxL.call (σ := Unit) (fun _ => .int .u8 (p6.1 : Int)) (fun _ => True) (fun _ => _) trivial rfl rfl (fun ρ w E => ex_call E en_palaver_wire_Reader_Byte rfl rfl) (callTurn (i := 0) (cell gr 157 [.int .i64 (p6.2.err : Int), .string ⟨p6.2.rest.toArray⟩]) rfl (cell_loc _ _ _) rfl (fun w H => (byte_p hp6 (by skip; omega) w (H.get (i := 0) rfl)).mono fun _ _ h => turn_rd h)) fun _ _ => ?_
  refine SxL.val (v := .pointer (some ⟨g, 0, none⟩)) trivial rfl rfl (fun ρ w E H => ex_nilCheck E rfl rfl) ?_
  refine SxL.val (v := .pointer (some ⟨g, 9, none⟩)) trivial rfl rfl (fun ρ w E H => ex_field E rfl fa_palaver_api_Msg_8 rfl rfl) ?_
  refine SxL.val (v := .pointer (some ⟨g, 9, none⟩)) trivial rfl rfl (fun ρ w E H => ex_field E rfl fa_palaver_api_Cmd_0 rfl rfl) ?_
  refine SxL.store (i := 1) trivial rfl rfl rfl rfl rfl sz_uint8 rfl rfl rfl ?_
  refine SxL.nil (SxN.then_ (SxC.region ?_))
  iterate 2 refine SxL.val trivial rfl rfl (fun ρ w E H => ex_move E rfl rfl) ?_
  obtain ⟨p12, hp12⟩ : ∃ p, Rd.below p6.2 4294967296 = p := ⟨_, rfl⟩
  refine SxL.call (σ := Unit) (fun _ => .int .u64 (p12.1 : Int)) (fun _ => True) (fun _ => _) trivial rfl rfl (fun ρ w E => ex_call E en_palaver_wire_Reader_Below rfl rfl) (callTurn (i := 0) (cell gr 157 [.int .i64 (p12.2.err : Int), .string ⟨p12.2.rest.toArray⟩]) rfl (cell_loc _ _ _) rfl (fun w H => (below_p hp12 (by have q0 := rp_byte hp6; omega) w (H.get (i := 0) rfl)).mono fun _ _ h => turn_rd h)) fun _ _ => ?_
  refine SxL.val (v := .int .u32 (p12.1 : Int)) trivial rfl rfl (fun ρ w E H => ex_convInt E rfl Tryz.underlying22 Tryz.underlying27 rfl (by have := lt_below p6.2 4294967296 (by decide); rw [hp12] at this; rw [IntKind.wrap_u32]; omega)) ?_
  refine SxL.val (v := .pointer (some ⟨g, 0, none⟩)) trivial rfl rfl (fun ρ w E H => ex_nilCheck E rfl rfl) ?_
  refine SxL.val (v := .pointer (some ⟨g, 9, none⟩)) trivial rfl rfl (fun ρ w E H => ex_field E rfl fa_palaver_api_Msg_8 rfl rfl) ?_
  refine SxL.val (v := .pointer (some ⟨g, 10, none⟩)) trivial rfl rfl (fun ρ w E H => ex_field E rfl fa_palaver_api_Cmd_1 rfl rfl) ?_
  refine SxL.store (i := 1) trivial rfl rfl rfl rfl rfl sz_uint32 rfl rfl rfl ?_
  refine SxL.nil ?_
  refine SxN.done (.tuple #[]) (fun a w K H => res0 rfl) (fun w H => ?_)
  have hR : Blk w gr 157 (rdC p12.2) := H.get (i := 0) rfl
  refine ⟨rfl, ?_⟩
  simp only [Pt.take, hp6, hp12]
  exact ⟨hR, H.get (i := 1) rfl, H.toOuts _ ⟨(fun g hg => by rw [List.mem_singleton.1 hg]; exact .inl (by simp)), (fun g hg => by rw [List.mem_singleton.1 hg]; exact .inl (by simp)), trivial⟩⟩

set_option maxRecDepth 100000 in
set_option maxHeartbeats 4000000 in
theorem take_reply (gr : Nat) (r : Rd) (g xk xn xr xb xs xo da db dk dz xc : Nat) (xv ds dt du xt : List UInt8) (wl : List Vo) (jl : List Im) (V I : Value)  (w : World) (hr : Blk w gr 157 (rdC r)) (hg : Blk w g 33 (msL ⟨xk, xn, xr, xb, xs, xo, xv, wl, jl, ⟨da, db, dk, ds, dt, du, dz⟩, xc, xt⟩ V I).toArray) (hne : gr ≠ g) (hrl : r.rest.length ≤ 1000000) : Calls Tryz.prog 123 #[.pointer (some ⟨gr, 0, none⟩), .pointer (some ⟨g, 0, none⟩)] w fun e w' => e = .returned (.tuple #[]) ∧ Blk w' gr 157 (rdC (Pt.take .reply (⟨xk, xn, xr, xb, xs, xo, xv, wl, jl, ⟨da, db, dk, ds, dt, du, dz⟩, xc, xt⟩, r)).2) ∧ Blk w' g 33 (msL (Pt.take .reply (⟨xk, xn, xr, xb, xs, xo, xv, wl, jl, ⟨da, db, dk, ds, dt, du, dz⟩, xc, xt⟩, r)).1 V I).toArray ∧ Outs [gr, g] w w' := by
  refine sx_enter (n := 16) _ Tryz.func123 rfl rfl rfl (Hp.duo hr hg hne) ?_
  refine SxC.seq (SxC.region ?_)
  iterate 2 refine SxL.val trivial rfl rfl (fun ρ w E H => ex_move E rfl rfl) ?_
  obtain ⟨p6, hp6⟩ : ∃ p, Rd.byte r = p := ⟨_, rfl⟩
  refine SxL.call (σ := Unit) (fun _ => .int .u8 (p6.1 : Int)) (fun _ => True) (fun _ => _) trivial rfl rfl (fun ρ w E => ex_call E en_palaver_wire_Reader_Byte rfl rfl) (callTurn (i := 0) (cell gr 157 [.int .i64 (p6.2.err : Int), .string ⟨p6.2.rest.toArray⟩]) rfl (cell_loc _ _ _) rfl (fun w H => (byte_p hp6 (by skip; omega) w (H.get (i := 0) rfl)).mono fun _ _ h => turn_rd h)) fun _ _ => ?_
  refine SxL.val (v := .pointer (some ⟨g, 0, none⟩)) trivial rfl rfl (fun ρ w E H => ex_nilCheck E rfl rfl) ?_
  refine SxL.val (v := .pointer (some ⟨g, 16, none⟩)) trivial rfl rfl (fun ρ w E H => ex_field E rfl fa_palaver_api_Msg_9 rfl rfl) ?_
  refine SxL.val (v := .pointer (some ⟨g, 16, none⟩)) trivial rfl rfl (fun ρ w E H => ex_field E rfl fa_palaver_api_Reply_0 rfl rfl) ?_
  refine SxL.store (i := 1) trivial rfl rfl rfl rfl rfl sz_uint8 rfl rfl rfl ?_
  refine SxL.nil (SxN.then_ (SxC.region ?_))
  iterate 2 refine SxL.val trivial rfl rfl (fun ρ w E H => ex_move E rfl rfl) ?_
  obtain ⟨p12, hp12⟩ : ∃ p, Rd.str p6.2 64 = p := ⟨_, rfl⟩
  refine SxL.call (σ := Unit) (fun _ => .string ⟨p12.1.toArray⟩) (fun _ => True) (fun _ => _) trivial rfl rfl (fun ρ w E => ex_call E en_palaver_wire_Reader_Str rfl rfl) (callTurn (i := 0) (cell gr 157 [.int .i64 (p12.2.err : Int), .string ⟨p12.2.rest.toArray⟩]) rfl (cell_loc _ _ _) rfl (fun w H => (str_p hp12 (by decide) (by decide) (by have q0 := rp_byte hp6; omega) w (H.get (i := 0) rfl)).mono fun _ _ h => turn_rd h)) fun _ _ => ?_
  refine SxL.val (v := .pointer (some ⟨g, 0, none⟩)) trivial rfl rfl (fun ρ w E H => ex_nilCheck E rfl rfl) ?_
  refine SxL.val (v := .pointer (some ⟨g, 16, none⟩)) trivial rfl rfl (fun ρ w E H => ex_field E rfl fa_palaver_api_Msg_9 rfl rfl) ?_
  refine SxL.val (v := .pointer (some ⟨g, 17, none⟩)) trivial rfl rfl (fun ρ w E H => ex_field E rfl fa_palaver_api_Reply_1 rfl rfl) ?_
  refine SxL.store (i := 1) trivial rfl rfl rfl rfl rfl sz_string rfl rfl rfl ?_
  refine SxL.nil ?_
  refine SxN.done (.tuple #[]) (fun a w K H => res0 rfl) (fun w H => ?_)
  have hR : Blk w gr 157 (rdC p12.2) := H.get (i := 0) rfl
  refine ⟨rfl, ?_⟩
  simp only [Pt.take, hp6, hp12]
  exact ⟨hR, H.get (i := 1) rfl, H.toOuts _ ⟨(fun g hg => by rw [List.mem_singleton.1 hg]; exact .inl (by simp)), (fun g hg => by rw [List.mem_singleton.1 hg]; exact .inl (by simp)), trivial⟩⟩

set_option maxRecDepth 100000 in
set_option maxHeartbeats 4000000 in
theorem take_node (gr : Nat) (r : Rd) (g xk xn xr xb xs xo da db dk dz xc : Nat) (xv ds dt du xt : List UInt8) (wl : List Vo) (jl : List Im) (V I : Value)  (w : World) (hr : Blk w gr 157 (rdC r)) (hg : Blk w g 33 (msL ⟨xk, xn, xr, xb, xs, xo, xv, wl, jl, ⟨da, db, dk, ds, dt, du, dz⟩, xc, xt⟩ V I).toArray) (hne : gr ≠ g) (hrl : r.rest.length ≤ 1000000) : Calls Tryz.prog 128 #[.pointer (some ⟨gr, 0, none⟩), .pointer (some ⟨g, 0, none⟩)] w fun e w' => e = .returned (.tuple #[]) ∧ Blk w' gr 157 (rdC (Pt.take .node (⟨xk, xn, xr, xb, xs, xo, xv, wl, jl, ⟨da, db, dk, ds, dt, du, dz⟩, xc, xt⟩, r)).2) ∧ Blk w' g 33 (msL (Pt.take .node (⟨xk, xn, xr, xb, xs, xo, xv, wl, jl, ⟨da, db, dk, ds, dt, du, dz⟩, xc, xt⟩, r)).1 V I).toArray ∧ Outs [gr, g] w w' := by
  refine sx_enter (n := 9) _ Tryz.func128 rfl rfl rfl (Hp.duo hr hg hne) ?_
  refine SxC.region ?_
  iterate 2 refine SxL.val trivial rfl rfl (fun ρ w E H => ex_move E rfl rfl) ?_
  obtain ⟨p6, hp6⟩ : ∃ p, Rd.byte r = p := ⟨_, rfl⟩
  refine SxL.call (σ := Unit) (fun _ => .int .u8 (p6.1 : Int)) (fun _ => True) (fun _ => _) trivial rfl rfl (fun ρ w E => ex_call E en_palaver_wire_Reader_Byte rfl rfl) (callTurn (i := 0) (cell gr 157 [.int .i64 (p6.2.err : Int), .string ⟨p6.2.rest.toArray⟩]) rfl (cell_loc _ _ _) rfl (fun w H => (byte_p hp6 (by skip; omega) w (H.get (i := 0) rfl)).mono fun _ _ h => turn_rd h)) fun _ _ => ?_
  refine SxL.val (v := .pointer (some ⟨g, 0, none⟩)) trivial rfl rfl (fun ρ w E H => ex_nilCheck E rfl rfl) ?_
  refine SxL.val (v := .pointer (some ⟨g, 5, none⟩)) trivial rfl rfl (fun ρ w E H => ex_field E rfl fa_palaver_api_Msg_4 rfl rfl) ?_
  refine SxL.store (i := 1) trivial rfl rfl rfl rfl rfl sz_uint8 rfl rfl rfl ?_
  refine SxL.nil ?_
  refine SxN.done (.tuple #[]) (fun a w K H => res0 rfl) (fun w H => ?_)
  have hR : Blk w gr 157 (rdC p6.2) := H.get (i := 0) rfl
  refine ⟨rfl, ?_⟩
  simp only [Pt.take, hp6]
  exact ⟨hR, H.get (i := 1) rfl, H.toOuts _ ⟨(fun g hg => by rw [List.mem_singleton.1 hg]; exact .inl (by simp)), (fun g hg => by rw [List.mem_singleton.1 hg]; exact .inl (by simp)), trivial⟩⟩

set_option maxRecDepth 100000 in
set_option maxHeartbeats 4000000 in
theorem take_turn (gr : Nat) (r : Rd) (g xk xn xr xb xs xo da db dk dz xc : Nat) (xv ds dt du xt : List UInt8) (wl : List Vo) (jl : List Im) (V I : Value)  (w : World) (hr : Blk w gr 157 (rdC r)) (hg : Blk w g 33 (msL ⟨xk, xn, xr, xb, xs, xo, xv, wl, jl, ⟨da, db, dk, ds, dt, du, dz⟩, xc, xt⟩ V I).toArray) (hne : gr ≠ g) (hrl : r.rest.length ≤ 1000000) : Calls Tryz.prog 133 #[.pointer (some ⟨gr, 0, none⟩), .pointer (some ⟨g, 0, none⟩)] w fun e w' => e = .returned (.tuple #[]) ∧ Blk w' gr 157 (rdC (Pt.take .turn (⟨xk, xn, xr, xb, xs, xo, xv, wl, jl, ⟨da, db, dk, ds, dt, du, dz⟩, xc, xt⟩, r)).2) ∧ Blk w' g 33 (msL (Pt.take .turn (⟨xk, xn, xr, xb, xs, xo, xv, wl, jl, ⟨da, db, dk, ds, dt, du, dz⟩, xc, xt⟩, r)).1 V I).toArray ∧ Outs [gr, g] w w' := by
  refine sx_enter (n := 9) _ Tryz.func133 rfl rfl rfl (Hp.duo hr hg hne) ?_
  refine SxC.region ?_
  iterate 2 refine SxL.val trivial rfl rfl (fun ρ w E H => ex_move E rfl rfl) ?_
  obtain ⟨p6, hp6⟩ : ∃ p, Bal.takeB r = p := ⟨_, rfl⟩
  refine SxL.call (σ := Unit) (fun _ => .agg #[.int .u64 (p6.1.n : Int), .int .u8 (p6.1.r : Int)]) (fun _ => True) (fun _ => _) trivial rfl rfl (fun ρ w E => ex_call E en_palaver_ballot_Take rfl rfl) (callTurn (i := 0) (cell gr 157 [.int .i64 (p6.2.err : Int), .string ⟨p6.2.rest.toArray⟩]) rfl (cell_loc _ _ _) rfl (fun w H => (bal_p hp6 (by skip; omega) w (H.get (i := 0) rfl)).mono fun _ _ h => turn_rd h)) fun _ _ => ?_
  refine SxL.val (v := .pointer (some ⟨g, 0, none⟩)) trivial rfl rfl (fun ρ w E H => ex_nilCheck E rfl rfl) ?_
  refine SxL.val (v := .pointer (some ⟨g, 1, none⟩)) trivial rfl rfl (fun ρ w E H => ex_field E rfl fa_palaver_api_Msg_1 rfl rfl) ?_
  refine SxL.store (i := 1) trivial rfl rfl rfl rfl rfl sz_palaver_api_Ballot rfl rfl rfl ?_
  refine SxL.nil ?_
  refine SxN.done (.tuple #[]) (fun a w K H => res0 rfl) (fun w H => ?_)
  have hR : Blk w gr 157 (rdC p6.2) := H.get (i := 0) rfl
  refine ⟨rfl, ?_⟩
  simp only [Pt.take, hp6]
  exact ⟨hR, H.get (i := 1) rfl, H.toOuts _ ⟨(fun g hg => by rw [List.mem_singleton.1 hg]; exact .inl (by simp)), (fun g hg => by rw [List.mem_singleton.1 hg]; exact .inl (by simp)), trivial⟩⟩

set_option maxRecDepth 100000 in
set_option maxHeartbeats 4000000 in
theorem take_floor (gr : Nat) (r : Rd) (g xk xn xr xb xs xo da db dk dz xc : Nat) (xv ds dt du xt : List UInt8) (wl : List Vo) (jl : List Im) (V I : Value)  (w : World) (hr : Blk w gr 157 (rdC r)) (hg : Blk w g 33 (msL ⟨xk, xn, xr, xb, xs, xo, xv, wl, jl, ⟨da, db, dk, ds, dt, du, dz⟩, xc, xt⟩ V I).toArray) (hne : gr ≠ g) (hrl : r.rest.length ≤ 1000000) : Calls Tryz.prog 144 #[.pointer (some ⟨gr, 0, none⟩), .pointer (some ⟨g, 0, none⟩)] w fun e w' => e = .returned (.tuple #[]) ∧ Blk w' gr 157 (rdC (Pt.take .floor (⟨xk, xn, xr, xb, xs, xo, xv, wl, jl, ⟨da, db, dk, ds, dt, du, dz⟩, xc, xt⟩, r)).2) ∧ Blk w' g 33 (msL (Pt.take .floor (⟨xk, xn, xr, xb, xs, xo, xv, wl, jl, ⟨da, db, dk, ds, dt, du, dz⟩, xc, xt⟩, r)).1 V I).toArray ∧ Outs [gr, g] w w' := by
  refine sx_enter (n := 9) _ Tryz.func144 rfl rfl rfl (Hp.duo hr hg hne) ?_
  refine SxC.region ?_
  iterate 2 refine SxL.val trivial rfl rfl (fun ρ w E H => ex_move E rfl rfl) ?_
  obtain ⟨p6, hp6⟩ : ∃ p, Rd.num r = p := ⟨_, rfl⟩
  refine SxL.call (σ := Unit) (fun _ => .int .u64 (p6.1 : Int)) (fun _ => True) (fun _ => _) trivial rfl rfl (fun ρ w E => ex_call E en_palaver_wire_Reader_Num rfl rfl) (callTurn (i := 0) (cell gr 157 [.int .i64 (p6.2.err : Int), .string ⟨p6.2.rest.toArray⟩]) rfl (cell_loc _ _ _) rfl (fun w H => (num_p hp6 (by skip; omega) w (H.get (i := 0) rfl)).mono fun _ _ h => turn_rd h)) fun _ _ => ?_
  refine SxL.val (v := .pointer (some ⟨g, 0, none⟩)) trivial rfl rfl (fun ρ w E H => ex_nilCheck E rfl rfl) ?_
  refine SxL.val (v := .pointer (some ⟨g, 3, none⟩)) trivial rfl rfl (fun ρ w E H => ex_field E rfl fa_palaver_api_Msg_2 rfl rfl) ?_
  refine SxL.store (i := 1) trivial rfl rfl rfl rfl rfl sz_uint64 rfl rfl rfl ?_
  refine SxL.nil ?_
  refine SxN.done (.tuple #[]) (fun a w K H => res0 rfl) (fun w H => ?_)
  have hR : Blk w gr 157 (rdC p6.2) := H.get (i := 0) rfl
  refine ⟨rfl, ?_⟩
  simp only [Pt.take, hp6]
  exact ⟨hR, H.get (i := 1) rfl, H.toOuts _ ⟨(fun g hg => by rw [List.mem_singleton.1 hg]; exact .inl (by simp)), (fun g hg => by rw [List.mem_singleton.1 hg]; exact .inl (by simp)), trivial⟩⟩

set_option maxRecDepth 100000 in
set_option maxHeartbeats 4000000 in
theorem take_slot (gr : Nat) (r : Rd) (g xk xn xr xb xs xo da db dk dz xc : Nat) (xv ds dt du xt : List UInt8) (wl : List Vo) (jl : List Im) (V I : Value) (least : Nat)  (w : World) (hr : Blk w gr 157 (rdC r)) (hg : Blk w g 33 (msL ⟨xk, xn, xr, xb, xs, xo, xv, wl, jl, ⟨da, db, dk, ds, dt, du, dz⟩, xc, xt⟩ V I).toArray) (hne : gr ≠ g) (hrl : r.rest.length ≤ 1000000) : Calls Tryz.prog 139 #[.pointer (some ⟨gr, 0, none⟩), .pointer (some ⟨g, 0, none⟩)] w fun e w' => e = .returned (.tuple #[]) ∧ Blk w' gr 157 (rdC (Pt.take (.slot least) (⟨xk, xn, xr, xb, xs, xo, xv, wl, jl, ⟨da, db, dk, ds, dt, du, dz⟩, xc, xt⟩, r)).2) ∧ Blk w' g 33 (msL (Pt.take (.slot least) (⟨xk, xn, xr, xb, xs, xo, xv, wl, jl, ⟨da, db, dk, ds, dt, du, dz⟩, xc, xt⟩, r)).1 V I).toArray ∧ Outs [gr, g] w w' := by
  refine sx_enter (n := 9) _ Tryz.func139 rfl rfl rfl (Hp.duo hr hg hne) ?_
  refine SxC.region ?_
  iterate 2 refine SxL.val trivial rfl rfl (fun ρ w E H => ex_move E rfl rfl) ?_
  obtain ⟨p6, hp6⟩ : ∃ p, Rd.num r = p := ⟨_, rfl⟩
  refine SxL.call (σ := Unit) (fun _ => .int .u64 (p6.1 : Int)) (fun _ => True) (fun _ => _) trivial rfl rfl (fun ρ w E => ex_call E en_palaver_wire_Reader_Num rfl rfl) (callTurn (i := 0) (cell gr 157 [.int .i64 (p6.2.err : Int), .string ⟨p6.2.rest.toArray⟩]) rfl (cell_loc _ _ _) rfl (fun w H => (num_p hp6 (by skip; omega) w (H.get (i := 0) rfl)).mono fun _ _ h => turn_rd h)) fun _ _ => ?_
  refine SxL.val (v := .pointer (some ⟨g, 0, none⟩)) trivial rfl rfl (fun ρ w E H => ex_nilCheck E rfl rfl) ?_
  refine SxL.val (v := .pointer (some ⟨g, 4, none⟩)) trivial rfl rfl (fun ρ w E H => ex_field E rfl fa_palaver_api_Msg_3 rfl rfl) ?_
  refine SxL.store (i := 1) trivial rfl rfl rfl rfl rfl sz_uint64 rfl rfl rfl ?_
  refine SxL.nil ?_
  refine SxN.done (.tuple #[]) (fun a w K H => res0 rfl) (fun w H => ?_)
  have hR : Blk w gr 157 (rdC p6.2) := H.get (i := 0) rfl
  refine ⟨rfl, ?_⟩
  simp only [Pt.take, hp6]
  exact ⟨hR, H.get (i := 1) rfl, H.toOuts _ ⟨(fun g hg => by rw [List.mem_singleton.1 hg]; exact .inl (by simp)), (fun g hg => by rw [List.mem_singleton.1 hg]; exact .inl (by simp)), trivial⟩⟩

set_option maxRecDepth 100000 in
set_option maxHeartbeats 4000000 in
theorem take_value (gr : Nat) (r : Rd) (g xk xn xr xb xs xo da db dk dz xc : Nat) (xv ds dt du xt : List UInt8) (wl : List Vo) (jl : List Im) (V I : Value)  (w : World) (hr : Blk w gr 157 (rdC r)) (hg : Blk w g 33 (msL ⟨xk, xn, xr, xb, xs, xo, xv, wl, jl, ⟨da, db, dk, ds, dt, du, dz⟩, xc, xt⟩ V I).toArray) (hne : gr ≠ g) (hrl : r.rest.length ≤ 1000000) : Calls Tryz.prog 153 #[.pointer (some ⟨gr, 0, none⟩), .pointer (some ⟨g, 0, none⟩)] w fun e w' => e = .returned (.tuple #[]) ∧ Blk w' gr 157 (rdC (Pt.take .value (⟨xk, xn, xr, xb, xs, xo, xv, wl, jl, ⟨da, db, dk, ds, dt, du, dz⟩, xc, xt⟩, r)).2) ∧ Blk w' g 33 (msL (Pt.take .value (⟨xk, xn, xr, xb, xs, xo, xv, wl, jl, ⟨da, db, dk, ds, dt, du, dz⟩, xc, xt⟩, r)).1 V I).toArray ∧ Outs [gr, g] w w' := by
  refine sx_enter (n := 9) _ Tryz.func153 rfl rfl rfl (Hp.duo hr hg hne) ?_
  refine SxC.region ?_
  iterate 2 refine SxL.val trivial rfl rfl (fun ρ w E H => ex_move E rfl rfl) ?_
  obtain ⟨p6, hp6⟩ : ∃ p, Rd.str r 65536 = p := ⟨_, rfl⟩
  refine SxL.call (σ := Unit) (fun _ => .string ⟨p6.1.toArray⟩) (fun _ => True) (fun _ => _) trivial rfl rfl (fun ρ w E => ex_call E en_palaver_wire_Reader_Str rfl rfl) (callTurn (i := 0) (cell gr 157 [.int .i64 (p6.2.err : Int), .string ⟨p6.2.rest.toArray⟩]) rfl (cell_loc _ _ _) rfl (fun w H => (str_p hp6 (by decide) (by decide) (by skip; omega) w (H.get (i := 0) rfl)).mono fun _ _ h => turn_rd h)) fun _ _ => ?_
  refine SxL.val (v := .pointer (some ⟨g, 0, none⟩)) trivial rfl rfl (fun ρ w E H => ex_nilCheck E rfl rfl) ?_
  refine SxL.val (v := .pointer (some ⟨g, 6, none⟩)) trivial rfl rfl (fun ρ w E H => ex_field E rfl fa_palaver_api_Msg_5 rfl rfl) ?_
  refine SxL.store (i := 1) trivial rfl rfl rfl rfl rfl sz_string rfl rfl rfl ?_
  refine SxL.nil ?_
  refine SxN.done (.tuple #[]) (fun a w K H => res0 rfl) (fun w H => ?_)
  have hR : Blk w gr 157 (rdC p6.2) := H.get (i := 0) rfl
  refine ⟨rfl, ?_⟩
  simp only [Pt.take, hp6]
  exact ⟨hR, H.get (i := 1) rfl, H.toOuts _ ⟨(fun g hg => by rw [List.mem_singleton.1 hg]; exact .inl (by simp)), (fun g hg => by rw [List.mem_singleton.1 hg]; exact .inl (by simp)), trivial⟩⟩

set_option maxRecDepth 100000 in
set_option maxHeartbeats 4000000 in
theorem take_votes (base gr : Nat) (r : Rd) (g xk xn xr xb xs xo da db dk dz xc : Nat) (xv ds dt du xt : List UInt8) (wl : List Vo) (jl : List Im) (V I : Value)  (w : World) (hr : Blk w gr 157 (rdC r)) (hg : Blk w g 33 (msL ⟨xk, xn, xr, xb, xs, xo, xv, wl, jl, ⟨da, db, dk, ds, dt, du, dz⟩, xc, xt⟩ V I).toArray) (hne : gr ≠ g) (hG0 : Grows r wl.length) (hbase : base ≤ w.heap.size) (hown : w.ownsRow base 92 4 V wl.length (wl.flatMap voL)) (hd1 : gr ∉ V.ownBlock.toList) (hd2 : g ∉ V.ownBlock.toList) : Calls Tryz.prog 148 #[.pointer (some ⟨gr, 0, none⟩), .pointer (some ⟨g, 0, none⟩)] w fun e w' => ∃ V', e = .returned (.tuple #[]) ∧ Blk w' gr 157 (rdC (Pt.take .votes (⟨xk, xn, xr, xb, xs, xo, xv, wl, jl, ⟨da, db, dk, ds, dt, du, dz⟩, xc, xt⟩, r)).2) ∧ Blk w' g 33 (msL (Pt.take .votes (⟨xk, xn, xr, xb, xs, xo, xv, wl, jl, ⟨da, db, dk, ds, dt, du, dz⟩, xc, xt⟩, r)).1 V' I).toArray ∧ w'.ownsRow base 92 4 V' (Pt.take .votes (⟨xk, xn, xr, xb, xs, xo, xv, wl, jl, ⟨da, db, dk, ds, dt, du, dz⟩, xc, xt⟩, r)).1.votes.length ((Pt.take .votes (⟨xk, xn, xr, xb, xs, xo, xv, wl, jl, ⟨da, db, dk, ds, dt, du, dz⟩, xc, xt⟩, r)).1.votes.flatMap voL) ∧ OwnIn w V.ownBlock.toList V' ∧ Outs ([gr, g] ++ V.ownBlock.toList) w w' := by
  have hv0 : OwnIn w V.ownBlock.toList V := OwnIn.refl w V
  have hrl := hG0.h1
  refine sx_enter (n := 35) _ Tryz.func148 rfl rfl rfl (Hp.trio hr hg hne hown hd1 hd2) ?_
  refine SxC.seq (SxC.region ?_)
  refine SxL.val trivial rfl rfl (fun ρ w E H => ex_move E rfl rfl) ?_
  obtain ⟨p7, hp7⟩ : ∃ p, Rd.num r = p := ⟨_, rfl⟩
  refine SxL.call (σ := Unit) (fun _ => .int .u64 (p7.1 : Int)) (fun _ => True) (fun _ => _) trivial rfl rfl (fun ρ w E => ex_call E en_palaver_wire_Reader_Num rfl rfl) (callTurn (i := 1) (cell gr 157 [.int .i64 (p7.2.err : Int), .string ⟨p7.2.rest.toArray⟩]) rfl (cell_loc _ _ _) rfl (fun w H => (num_p hp7 (by have q0 := hrl; omega) w (H.get (i := 1) rfl)).mono fun _ _ h => turn_rd h)) fun _ _ => ?_
  refine SxL.val trivial rfl rfl (fun ρ w E H => ex_assign E rfl rfl) ?_
  refine SxL.nil (SxN.then_ (SxC.block ?_))
  refine SxC.loop4 (fun (n : Nat) (r1 : Rd) (w1 : List Vo) (V1 : Value) => [(0, .pointer (some ⟨gr, 0, none⟩)), (1, .pointer (some ⟨g, 0, none⟩)), (4, .int .u64 (n : Int))]) (fun (n : Nat) (r1 : Rd) (w1 : List Vo) (V1 : Value) => [rowX V.ownBlock.toList base 92 4 V1 w1.length (w1.flatMap voL), cell gr 157 [.int .i64 (r1.err : Int), .string ⟨r1.rest.toArray⟩], cell g 33 [.int .u8 (xk : Int), .int .u64 (xn : Int), .int .u8 (xr : Int), .int .u64 (xb : Int), .int .u64 (xs : Int), .int .u8 (xo : Int), .string ⟨xv.toArray⟩, V1, I, .int .u8 (da : Int), .int .u32 (db : Int), .int .u8 (dk : Int), .string ⟨ds.toArray⟩, .string ⟨dt.toArray⟩, .string ⟨du.toArray⟩, .int .u8 (dz : Int), .int .u8 (xc : Int), .string ⟨xt.toArray⟩]]) (fun (gk : Nat) (n : Nat) (r1 : Rd) (w1 : List Vo) (V1 : Value) => n = gk ∧ tkV p7.1 p7.2 wl = tkV n r1 w1 ∧ OwnIn w V.ownBlock.toList V1 ∧ Grows r1 w1.length ∧ n < 18446744073709551616) p7.1 p7.1 p7.2 wl V ⟨rfl, rfl, OwnIn.refl w V, hp7 ▸ hG0.num, hp7 ▸ lt_num r⟩ ⟨rfl, rfl, rfl, trivial⟩ [0, 1, 2] rfl (by decide) ⟨.inl rfl, .inl rfl, .inl rfl, trivial⟩ fun gk n r1 w1 V1 hF => ?_
  obtain ⟨hkg, hrel, hv1, hG, hn64⟩ := hF
  refine SxC.seq (SxC.seq (SxC.region ?_))
  refine SxL.val trivial rfl rfl (fun ρ w E H => ex_move E rfl rfl) ?_
  refine SxL.valB trivial rfl rfl (fun ρ w E H => ex_cmp E rfl rfl rfl rfl rfl) fun c9 hc9 => ?_
  refine SxL.val trivial rfl rfl (fun ρ w E H => ex_move E rfl rfl) ?_
  cases c9
  · refine SxL.off ⟨_, _, _, rfl, rfl, rfl, nofun⟩ rfl rfl ?_
    iterate 2 refine SxL.off ⟨_, _, _, rfl, rfl, rfl, nofun⟩ rfl rfl ?_
    refine SxL.val trivial rfl rfl (fun ρ w E H => ex_pick E rfl (t := false) rfl rfl) ?_
    refine SxL.nil (SxN.then_ (SxC.condF rfl (SxC.exit (SxX.thenE (SxX.thenE (SxX.blockE ?_))))))
    refine SxN.done (.tuple #[]) (fun a w K H => res0 rfl) (fun w H => ?_)
    have hst : tkV p7.1 p7.2 wl = (r1, w1) := by
      rw [hrel]; refine tkV_stop n r1 w1 ?_
      first | (left; have h := hc9; simp [cmpB] at h; omega) | (right; have h := hc13; simp [cmpB] at h; omega)
    have hR : Blk w gr 157 (rdC r1) := H.get (i := 1) rfl
    have e1 : Pt.take .votes (⟨xk, xn, xr, xb, xs, xo, xv, wl, jl, ⟨da, db, dk, ds, dt, du, dz⟩, xc, xt⟩, r) = (⟨xk, xn, xr, xb, xs, xo, xv, w1, jl, ⟨da, db, dk, ds, dt, du, dz⟩, xc, xt⟩, r1) := by simp only [Pt.take, hp7, hst]
    rw [e1]
    exact ⟨V1, rfl, hR, H.get (i := 2) rfl, H.get (i := 0) rfl, hv1, H.toOuts _ ⟨(fun g hg => (hv1.in_ g hg).imp (fun h => by simp [h]) id), (fun g hg => by rw [List.mem_singleton.1 hg]; exact .inl (by simp)), (fun g hg => by rw [List.mem_singleton.1 hg]; exact .inl (by simp)), trivial⟩⟩
  · refine SxL.val ⟨_, _, rfl, rfl, rfl⟩ rfl rfl (fun ρ w E H => ex_move E rfl rfl) ?_
    refine SxL.callB (v := .int .i64 (r1.err : Int)) ⟨_, _, rfl, rfl, rfl⟩ rfl rfl (fun ρ w E => ex_call E en_palaver_wire_Reader_Err rfl rfl) (fun w H => (err_any gr r1 w (H.get (i := 1) rfl)).mono fun _ _ h => ⟨h.1, h.2 ▸ Below.refl _ _⟩) ?_
    refine SxL.valB ⟨_, _, rfl, rfl, rfl⟩ rfl rfl (fun ρ w E H => ex_cmp E rfl rfl rfl rfl rfl) fun c13 hc13 => ?_
    refine SxL.val trivial rfl rfl (fun ρ w E H => ex_pick E rfl (t := true) rfl rfl) ?_
    refine SxL.nil (SxN.then_ ?_)
    cases c13
    · refine SxC.condF rfl (SxC.exit (SxX.thenE (SxX.thenE (SxX.blockE ?_))))
      refine SxN.done (.tuple #[]) (fun a w K H => res0 rfl) (fun w H => ?_)
      have hst : tkV p7.1 p7.2 wl = (r1, w1) := by
        rw [hrel]; refine tkV_stop n r1 w1 ?_
        first | (left; have h := hc9; simp [cmpB] at h; omega) | (right; have h := hc13; simp [cmpB] at h; omega)
      have hR : Blk w gr 157 (rdC r1) := H.get (i := 1) rfl
      have e1 : Pt.take .votes (⟨xk, xn, xr, xb, xs, xo, xv, wl, jl, ⟨da, db, dk, ds, dt, du, dz⟩, xc, xt⟩, r) = (⟨xk, xn, xr, xb, xs, xo, xv, w1, jl, ⟨da, db, dk, ds, dt, du, dz⟩, xc, xt⟩, r1) := by simp only [Pt.take, hp7, hst]
      rw [e1]
      exact ⟨V1, rfl, hR, H.get (i := 2) rfl, H.get (i := 0) rfl, hv1, H.toOuts _ ⟨(fun g hg => (hv1.in_ g hg).imp (fun h => by simp [h]) id), (fun g hg => by rw [List.mem_singleton.1 hg]; exact .inl (by simp)), (fun g hg => by rw [List.mem_singleton.1 hg]; exact .inl (by simp)), trivial⟩⟩
    · refine SxC.condT rfl (SxC.skip (SxN.then_ (SxC.seq (SxC.block (SxC.seq ?_)))))
      have hn0 : 0 < n := by have := hc9; simp [cmpB] at this; omega
      have he0 : r1.err = 0 := by have := hc13; simp [cmpB] at this; omega
      have hgr := hG.vote he0
      have hb1 := hG.h1
      have hb2 := hG.h2
      refine SxC.region ?_
      refine SxL.val trivial rfl rfl (fun ρ w E H => ex_move E rfl rfl) ?_
      obtain ⟨p18, hp18⟩ : ∃ p, Rd.num r1 = p := ⟨_, rfl⟩
      refine SxL.call (σ := Unit) (fun _ => .int .u64 (p18.1 : Int)) (fun _ => True) (fun _ => _) trivial rfl rfl (fun ρ w E => ex_call E en_palaver_wire_Reader_Num rfl rfl) (callTurn (i := 1) (cell gr 157 [.int .i64 (p18.2.err : Int), .string ⟨p18.2.rest.toArray⟩]) rfl (cell_loc _ _ _) rfl (fun w H => (num_p hp18 (by have q0 := hb1; omega) w (H.get (i := 1) rfl)).mono fun _ _ h => turn_rd h)) fun _ _ => ?_
      refine SxL.val trivial rfl rfl (fun ρ w E H => ex_move E rfl rfl) ?_
      obtain ⟨p20, hp20⟩ : ∃ p, Bal.takeB p18.2 = p := ⟨_, rfl⟩
      refine SxL.call (σ := Unit) (fun _ => .agg #[.int .u64 (p20.1.n : Int), .int .u8 (p20.1.r : Int)]) (fun _ => True) (fun _ => _) trivial rfl rfl (fun ρ w E => ex_call E en_palaver_ballot_Take rfl rfl) (callTurn (i := 1) (cell gr 157 [.int .i64 (p20.2.err : Int), .string ⟨p20.2.rest.toArray⟩]) rfl (cell_loc _ _ _) rfl (fun w H => (bal_p hp20 (by have q0 := hb1; have q1 := rp_num hp18; omega) w (H.get (i := 1) rfl)).mono fun _ _ h => turn_rd h)) fun _ _ => ?_
      refine SxL.val trivial rfl rfl (fun ρ w E H => ex_build (cs := [.int .u64 (p18.1 : Int), .int .u64 (p20.1.n : Int), .int .u8 (p20.1.r : Int), .string ⟨[].toArray⟩]) E rfl rfl (by kernel_rfl)) ?_
      refine SxL.new (cs := [.int .u64 0, .int .u64 0, .int .u8 0, .string ⟨[].toArray⟩]) trivial rfl rfl (fun ρ w E H => ex_alloc rfl zr_palaver_api_Vote rfl) fun g1 hg1 => ?_
      refine SxL.store (i := 0) trivial rfl rfl rfl rfl rfl sz_palaver_api_Vote rfl rfl rfl ?_
      refine SxL.nil (SxN.then_ (SxC.seq (SxC.region ?_)))
      refine SxL.val trivial rfl rfl (fun ρ w E H => ex_move E rfl rfl) ?_
      obtain ⟨p23, hp23⟩ : ∃ p, Rd.str p20.2 65536 = p := ⟨_, rfl⟩
      refine SxL.call (σ := Unit) (fun _ => .string ⟨p23.1.toArray⟩) (fun _ => True) (fun _ => _) trivial rfl rfl (fun ρ w E => ex_call E en_palaver_wire_Reader_Str rfl rfl) (callTurn (i := 2) (cell gr 157 [.int .i64 (p23.2.err : Int), .string ⟨p23.2.rest.toArray⟩]) rfl (cell_loc _ _ _) rfl (fun w H => (str_p hp23 (by decide) (by decide) (by have q0 := hb1; have q1 := rp_num hp18; have q2 := rp_bal hp20; omega) w (H.get (i := 2) rfl)).mono fun _ _ h => turn_rd h)) fun _ _ => ?_
      refine SxL.val (v := .pointer (some ⟨g1, 3, none⟩)) trivial rfl rfl (fun ρ w E H => ex_field E rfl fa_palaver_api_Vote_2 rfl rfl) ?_
      refine SxL.store (i := 0) trivial rfl rfl rfl rfl rfl sz_string rfl rfl rfl ?_
      refine SxL.nil (SxN.then_ ?_)
      refine SxC.drawnK (V.ownBlock.toList ++ [gr, g]) [0, 2] (by kernel_rfl) rfl ⟨(fun g hg => by rw [List.mem_singleton.1 hg]; exact .inr hg1), (fun g hg => (hv1.in_ g hg).imp (fun h => by simp only [List.mem_append]; simp [h]) id), (fun g hg => by rw [List.mem_singleton.1 hg]; exact .inl (by simp)), (fun g hg => by rw [List.mem_singleton.1 hg]; exact .inl (by simp)), trivial⟩ ?_
      refine SxA.take (i := 0) rfl (by kernel_rfl) (by kernel_rfl) (by kernel_rfl) rfl rfl (fun _ _ _ h => h) trivial (fun ρ w E H => ex_move E rfl rfl) ?_
      refine SxA.take (i := 1) rfl (by kernel_rfl) (by kernel_rfl) (by kernel_rfl) rfl rfl (fun _ _ _ h => h) trivial (fun ρ w E H => ex_move E rfl rfl) ?_
      refine SxA.take (i := 2) (v := .pointer (some ⟨g, 0, none⟩)) rfl (by kernel_rfl) (by kernel_rfl) (by kernel_rfl) rfl rfl (fun _ _ _ h => h) trivial (fun ρ w E H => ex_nilCheck E rfl rfl) ?_
      refine SxA.take (i := 3) (v := .pointer (some ⟨g, 7, none⟩)) rfl (by kernel_rfl) (by kernel_rfl) (by kernel_rfl) rfl rfl (fun _ _ _ h => h) trivial (fun ρ w E H => ex_field E rfl fa_palaver_api_Msg_6 rfl rfl) ?_
      refine SxA.take (i := 5) rfl (by kernel_rfl) (by kernel_rfl) (by kernel_rfl) rfl rfl (fun _ _ _ h => h) trivial (fun ρ w E H => ex_load (part := [.int .u64 (p18.1 : Int), .int .u64 (p20.1.n : Int), .int .u8 (p20.1.r : Int), .string ⟨p23.1.toArray⟩]) E (H.get (i := 0) rfl) rfl rfl Tryz.underlying92 rfl sz_palaver_api_Vote rfl rfl) ?_
      refine SxA.ready [4, 6] (by kernel_rfl) (by simp) ⟨?_, ?_, trivial⟩
      · refine SxO.val rfl trivial rfl rfl (fun ρ w E H => ex_load1 E (H.get (i := 3) rfl) rfl rfl Tryz.underlying25 rfl rfl) ?_
        refine SxA.ready [6] (by kernel_rfl) (by simp) ⟨?_, trivial⟩
        refine SxO.newS (cs := [.int .u64 (p18.1 : Int), .int .u64 (p20.1.n : Int), .int .u8 (p20.1.r : Int), .string ⟨p23.1.toArray⟩]) rfl trivial rfl rfl (fun ρ w E H => ex_buildSlice E rfl rfl Tryz.underlying25 sz_palaver_api_Vote zr_palaver_api_Vote rfl rfl (by kernel_rfl)) (fun g2 w hg2 H => H.ks (V.ownBlock.toList ++ [gr, g]) [1, 3] rfl ⟨(fun g hg => by rw [List.mem_singleton.1 hg]; exact .inr hg2), (fun g hg => by rw [List.mem_singleton.1 hg]; exact .inr hg1), (fun g hg => (hv1.in_ g hg).imp (fun h => by simp only [List.mem_append]; simp [h]) id), (fun g hg => by rw [List.mem_singleton.1 hg]; exact .inl (by simp)), (fun g hg => by rw [List.mem_singleton.1 hg]; exact .inl (by simp)), trivial⟩) fun g2 hg2 => ?_
        refine SxA.ready [7] (by kernel_rfl) (by simp) ⟨?_, trivial⟩
        refine SxO.append (i := 2) (news := [.int .u64 (p18.1 : Int), .int .u64 (p20.1.n : Int), .int .u8 (p20.1.r : Int), .string ⟨p23.1.toArray⟩]) rfl trivial rfl rfl rfl Tryz.underlying25 nf_palaver_api_Vote rfl rfl rfl rfl hv1 rfl (fun w H => reads_cell H (i := 0) rfl rfl) (one_list rfl) (by unfold maxLen; omega) (by omega) hbase (fun A32 k32 w hv32 H => H.ks (V.ownBlock.toList ++ [gr, g]) [1, 3] rfl ⟨(fun g hg => by rw [List.mem_singleton.1 hg]; exact .inr hg2), (fun g hg => by rw [List.mem_singleton.1 hg]; exact .inr hg1), (fun g hg => (hv32.in_ g hg).imp (fun h => by simp only [List.mem_append]; simp [h]) id), (fun g hg => by rw [List.mem_singleton.1 hg]; exact .inl (by simp)), (fun g hg => by rw [List.mem_singleton.1 hg]; exact .inl (by simp)), trivial⟩) fun A32 k32 hv32 => ?_
        refine SxA.take (i := 8) (v := .pointer (some ⟨g, 0, none⟩)) rfl (by kernel_rfl) (by kernel_rfl) (by kernel_rfl) rfl rfl (fun _ _ _ h => h) trivial (fun ρ w E H => ex_nilCheck E rfl rfl) ?_
        refine SxA.take (i := 9) (v := .pointer (some ⟨g, 7, none⟩)) rfl (by kernel_rfl) (by kernel_rfl) (by kernel_rfl) rfl rfl (fun _ _ _ h => h) trivial (fun ρ w E H => ex_field E rfl fa_palaver_api_Msg_6 rfl rfl) ?_
        refine SxA.ready [10] (by kernel_rfl) (by simp) ⟨?_, trivial⟩
        refine SxO.store (j := 4) rfl trivial rfl rfl rfl rfl rfl sz_api_Vote rfl rfl rfl (fun w H => H.ks (V.ownBlock.toList ++ [gr, g]) [1, 3] rfl ⟨(fun g hg => by rw [List.mem_singleton.1 hg]; exact .inr hg2), (fun g hg => by rw [List.mem_singleton.1 hg]; exact .inr hg1), (fun g hg => (hv32.in_ g hg).imp (fun h => by simp only [List.mem_append]; simp [h]) id), (fun g hg => by rw [List.mem_singleton.1 hg]; exact .inl (by simp)), (fun g hg => by rw [List.mem_singleton.1 hg]; exact .inl (by simp)), trivial⟩) ?_
        refine SxA.done (by kernel_rfl) ?_
        refine SxN.block (SxN.then_ (SxC.region ?_))
        refine SxL.val trivial rfl rfl (fun ρ w E H => ex_move E rfl rfl) ?_
        refine SxL.val (v := .int .u64 ((n - 1 : Nat) : Int)) trivial rfl rfl (fun ρ w E H => ex_sub E rfl rfl rfl (by rw [IntKind.wrap_u64]; omega)) ?_
        refine SxL.val trivial rfl rfl (fun ρ w E H => ex_assign E rfl rfl) ?_
        refine SxL.nil ?_
        refine SxN.hp (fun W H => H.re (i := 2) rfl (rowX V.ownBlock.toList base 92 4 (.slice A32 (w1.length + 1) k32) ((w1 ++ [(⟨p18.1, p20.1.n, p20.1.r, p23.1⟩ : Vo)]).length) ((w1 ++ [(⟨p18.1, p20.1.n, p20.1.r, p23.1⟩ : Vo)]).flatMap voL)) (rowX_loc _ _ _ _ _ _ _) rfl (fun h => own_as h (by simp) (by simp [voL]))) ?_
        refine SxN.back (gk - 1) (n - 1, p23.2, w1 ++ [(⟨p18.1, p20.1.n, p20.1.r, p23.1⟩ : Vo)], .slice A32 (w1.length + 1) k32) (by omega) ⟨by omega, by rw [hrel, tkV_step n r1 w1 hn0 he0]; simp only [hp18, hp20, hp23], hv32, by rw [List.length_append]; simp only [hp18, hp20, hp23] at hgr; exact hgr, by omega⟩ ⟨rfl, rfl, rfl, trivial⟩ [2, 3, 4] rfl (by decide) ⟨.inr (fun g hg => by rw [List.mem_singleton.1 hg]; exact hg2), .inr (fun g hg => by rw [List.mem_singleton.1 hg]; exact hg1), .inl rfl, .inl rfl, .inl rfl, trivial⟩
      · refine SxO.newS (cs := [.int .u64 (p18.1 : Int), .int .u64 (p20.1.n : Int), .int .u8 (p20.1.r : Int), .string ⟨p23.1.toArray⟩]) rfl trivial rfl rfl (fun ρ w E H => ex_buildSlice E rfl rfl Tryz.underlying25 sz_palaver_api_Vote zr_palaver_api_Vote rfl rfl (by kernel_rfl)) (fun g3 w hg3 H => H.ks (V.ownBlock.toList ++ [gr, g]) [1, 3] rfl ⟨(fun g hg => by rw [List.mem_singleton.1 hg]; exact .inr hg3), (fun g hg => by rw [List.mem_singleton.1 hg]; exact .inr hg1), (fun g hg => (hv1.in_ g hg).imp (fun h => by simp only [List.mem_append]; simp [h]) id), (fun g hg => by rw [List.mem_singleton.1 hg]; exact .inl (by simp)), (fun g hg => by rw [List.mem_singleton.1 hg]; exact .inl (by simp)), trivial⟩) fun g3 hg3 => ?_
        refine SxA.ready [4] (by kernel_rfl) (by simp) ⟨?_, trivial⟩
        refine SxO.val rfl trivial rfl rfl (fun ρ w E H => ex_load1 E (H.get (i := 4) rfl) rfl rfl Tryz.underlying25 rfl rfl) ?_
        refine SxA.ready [7] (by kernel_rfl) (by simp) ⟨?_, trivial⟩
        refine SxO.append (i := 2) (news := [.int .u64 (p18.1 : Int), .int .u64 (p20.1.n : Int), .int .u8 (p20.1.r : Int), .string ⟨p23.1.toArray⟩]) rfl trivial rfl rfl rfl Tryz.underlying25 nf_palaver_api_Vote rfl rfl rfl rfl hv1 rfl (fun w H => reads_cell H (i := 0) rfl rfl) (one_list rfl) (by unfold maxLen; omega) (by omega) hbase (fun A32 k32 w hv32 H => H.ks (V.ownBlock.toList ++ [gr, g]) [1, 3] rfl ⟨(fun g hg => by rw [List.mem_singleton.1 hg]; exact .inr hg3), (fun g hg => by rw [List.mem_singleton.1 hg]; exact .inr hg1), (fun g hg => (hv32.in_ g hg).imp (fun h => by simp only [List.mem_append]; simp [h]) id), (fun g hg => by rw [List.mem_singleton.1 hg]; exact .inl (by simp)), (fun g hg => by rw [List.mem_singleton.1 hg]; exact .inl (by simp)), trivial⟩) fun A32 k32 hv32 => ?_
        refine SxA.take (i := 8) (v := .pointer (some ⟨g, 0, none⟩)) rfl (by kernel_rfl) (by kernel_rfl) (by kernel_rfl) rfl rfl (fun _ _ _ h => h) trivial (fun ρ w E H => ex_nilCheck E rfl rfl) ?_
        refine SxA.take (i := 9) (v := .pointer (some ⟨g, 7, none⟩)) rfl (by kernel_rfl) (by kernel_rfl) (by kernel_rfl) rfl rfl (fun _ _ _ h => h) trivial (fun ρ w E H => ex_field E rfl fa_palaver_api_Msg_6 rfl rfl) ?_
        refine SxA.ready [10] (by kernel_rfl) (by simp) ⟨?_, trivial⟩
        refine SxO.store (j := 4) rfl trivial rfl rfl rfl rfl rfl sz_api_Vote rfl rfl rfl (fun w H => H.ks (V.ownBlock.toList ++ [gr, g]) [1, 3] rfl ⟨(fun g hg => by rw [List.mem_singleton.1 hg]; exact .inr hg3), (fun g hg => by rw [List.mem_singleton.1 hg]; exact .inr hg1), (fun g hg => (hv32.in_ g hg).imp (fun h => by simp only [List.mem_append]; simp [h]) id), (fun g hg => by rw [List.mem_singleton.1 hg]; exact .inl (by simp)), (fun g hg => by rw [List.mem_singleton.1 hg]; exact .inl (by simp)), trivial⟩) ?_
        refine SxA.done (by kernel_rfl) ?_
        refine SxN.block (SxN.then_ (SxC.region ?_))
        refine SxL.val trivial rfl rfl (fun ρ w E H => ex_move E rfl rfl) ?_
        refine SxL.val (v := .int .u64 ((n - 1 : Nat) : Int)) trivial rfl rfl (fun ρ w E H => ex_sub E rfl rfl rfl (by rw [IntKind.wrap_u64]; omega)) ?_
        refine SxL.val trivial rfl rfl (fun ρ w E H => ex_assign E rfl rfl) ?_
        refine SxL.nil ?_
        refine SxN.hp (fun W H => H.re (i := 2) rfl (rowX V.ownBlock.toList base 92 4 (.slice A32 (w1.length + 1) k32) ((w1 ++ [(⟨p18.1, p20.1.n, p20.1.r, p23.1⟩ : Vo)]).length) ((w1 ++ [(⟨p18.1, p20.1.n, p20.1.r, p23.1⟩ : Vo)]).flatMap voL)) (rowX_loc _ _ _ _ _ _ _) rfl (fun h => own_as h (by simp) (by simp [voL]))) ?_
        refine SxN.back (gk - 1) (n - 1, p23.2, w1 ++ [(⟨p18.1, p20.1.n, p20.1.r, p23.1⟩ : Vo)], .slice A32 (w1.length + 1) k32) (by omega) ⟨by omega, by rw [hrel, tkV_step n r1 w1 hn0 he0]; simp only [hp18, hp20, hp23], hv32, by rw [List.length_append]; simp only [hp18, hp20, hp23] at hgr; exact hgr, by omega⟩ ⟨rfl, rfl, rfl, trivial⟩ [2, 3, 4] rfl (by decide) ⟨.inr (fun g hg => by rw [List.mem_singleton.1 hg]; exact hg3), .inr (fun g hg => by rw [List.mem_singleton.1 hg]; exact hg1), .inl rfl, .inl rfl, .inl rfl, trivial⟩

set_option maxRecDepth 100000 in
set_option maxHeartbeats 4000000 in
theorem take_items (base gr : Nat) (r : Rd) (g xk xn xr xb xs xo da db dk dz xc : Nat) (xv ds dt du xt : List UInt8) (wl : List Vo) (jl : List Im) (V I : Value)  (w : World) (hr : Blk w gr 157 (rdC r)) (hg : Blk w g 33 (msL ⟨xk, xn, xr, xb, xs, xo, xv, wl, jl, ⟨da, db, dk, ds, dt, du, dz⟩, xc, xt⟩ V I).toArray) (hne : gr ≠ g) (hG0 : Grows r jl.length) (hbase : base ≤ w.heap.size) (hown : w.ownsRow base 94 2 I jl.length (jl.flatMap imL)) (hd1 : gr ∉ I.ownBlock.toList) (hd2 : g ∉ I.ownBlock.toList) : Calls Tryz.prog 157 #[.pointer (some ⟨gr, 0, none⟩), .pointer (some ⟨g, 0, none⟩)] w fun e w' => ∃ V', e = .returned (.tuple #[]) ∧ Blk w' gr 157 (rdC (Pt.take .items (⟨xk, xn, xr, xb, xs, xo, xv, wl, jl, ⟨da, db, dk, ds, dt, du, dz⟩, xc, xt⟩, r)).2) ∧ Blk w' g 33 (msL (Pt.take .items (⟨xk, xn, xr, xb, xs, xo, xv, wl, jl, ⟨da, db, dk, ds, dt, du, dz⟩, xc, xt⟩, r)).1 V V').toArray ∧ w'.ownsRow base 94 2 V' (Pt.take .items (⟨xk, xn, xr, xb, xs, xo, xv, wl, jl, ⟨da, db, dk, ds, dt, du, dz⟩, xc, xt⟩, r)).1.items.length ((Pt.take .items (⟨xk, xn, xr, xb, xs, xo, xv, wl, jl, ⟨da, db, dk, ds, dt, du, dz⟩, xc, xt⟩, r)).1.items.flatMap imL) ∧ OwnIn w I.ownBlock.toList V' ∧ Outs ([gr, g] ++ I.ownBlock.toList) w w' := by
  have hv0 : OwnIn w I.ownBlock.toList I := OwnIn.refl w I
  have hrl := hG0.h1
  refine sx_enter (n := 33) _ Tryz.func157 rfl rfl rfl (Hp.trio hr hg hne hown hd1 hd2) ?_
  refine SxC.seq (SxC.region ?_)
  refine SxL.val trivial rfl rfl (fun ρ w E H => ex_move E rfl rfl) ?_
  obtain ⟨p7, hp7⟩ : ∃ p, Rd.num r = p := ⟨_, rfl⟩
  refine SxL.call (σ := Unit) (fun _ => .int .u64 (p7.1 : Int)) (fun _ => True) (fun _ => _) trivial rfl rfl (fun ρ w E => ex_call E en_palaver_wire_Reader_Num rfl rfl) (callTurn (i := 1) (cell gr 157 [.int .i64 (p7.2.err : Int), .string ⟨p7.2.rest.toArray⟩]) rfl (cell_loc _ _ _) rfl (fun w H => (num_p hp7 (by have q0 := hrl; omega) w (H.get (i := 1) rfl)).mono fun _ _ h => turn_rd h)) fun _ _ => ?_
  refine SxL.val trivial rfl rfl (fun ρ w E H => ex_assign E rfl rfl) ?_
  refine SxL.nil (SxN.then_ (SxC.block ?_))
  refine SxC.loop4 (fun (n : Nat) (r1 : Rd) (w1 : List Im) (V1 : Value) => [(0, .pointer (some ⟨gr, 0, none⟩)), (1, .pointer (some ⟨g, 0, none⟩)), (4, .int .u64 (n : Int))]) (fun (n : Nat) (r1 : Rd) (w1 : List Im) (V1 : Value) => [rowX I.ownBlock.toList base 94 2 V1 w1.length (w1.flatMap imL), cell gr 157 [.int .i64 (r1.err : Int), .string ⟨r1.rest.toArray⟩], cell g 33 [.int .u8 (xk : Int), .int .u64 (xn : Int), .int .u8 (xr : Int), .int .u64 (xb : Int), .int .u64 (xs : Int), .int .u8 (xo : Int), .string ⟨xv.toArray⟩, V, V1, .int .u8 (da : Int), .int .u32 (db : Int), .int .u8 (dk : Int), .string ⟨ds.toArray⟩, .string ⟨dt.toArray⟩, .string ⟨du.toArray⟩, .int .u8 (dz : Int), .int .u8 (xc : Int), .string ⟨xt.toArray⟩]]) (fun (gk : Nat) (n : Nat) (r1 : Rd) (w1 : List Im) (V1 : Value) => n = gk ∧ tkI p7.1 p7.2 jl = tkI n r1 w1 ∧ OwnIn w I.ownBlock.toList V1 ∧ Grows r1 w1.length ∧ n < 18446744073709551616) p7.1 p7.1 p7.2 jl I ⟨rfl, rfl, OwnIn.refl w I, hp7 ▸ hG0.num, hp7 ▸ lt_num r⟩ ⟨rfl, rfl, rfl, trivial⟩ [0, 1, 2] rfl (by decide) ⟨.inl rfl, .inl rfl, .inl rfl, trivial⟩ fun gk n r1 w1 V1 hF => ?_
  obtain ⟨hkg, hrel, hv1, hG, hn64⟩ := hF
  refine SxC.seq (SxC.seq (SxC.region ?_))
  refine SxL.val trivial rfl rfl (fun ρ w E H => ex_move E rfl rfl) ?_
  refine SxL.valB trivial rfl rfl (fun ρ w E H => ex_cmp E rfl rfl rfl rfl rfl) fun c9 hc9 => ?_
  refine SxL.val trivial rfl rfl (fun ρ w E H => ex_move E rfl rfl) ?_
  cases c9
  · refine SxL.off ⟨_, _, _, rfl, rfl, rfl, nofun⟩ rfl rfl ?_
    iterate 2 refine SxL.off ⟨_, _, _, rfl, rfl, rfl, nofun⟩ rfl rfl ?_
    refine SxL.val trivial rfl rfl (fun ρ w E H => ex_pick E rfl (t := false) rfl rfl) ?_
    refine SxL.nil (SxN.then_ (SxC.condF rfl (SxC.exit (SxX.thenE (SxX.thenE (SxX.blockE ?_))))))
    refine SxN.done (.tuple #[]) (fun a w K H => res0 rfl) (fun w H => ?_)
    have hst : tkI p7.1 p7.2 jl = (r1, w1) := by
      rw [hrel]; refine tkI_stop n r1 w1 ?_
      first | (left; have h := hc9; simp [cmpB] at h; omega) | (right; have h := hc13; simp [cmpB] at h; omega)
    have hR : Blk w gr 157 (rdC r1) := H.get (i := 1) rfl
    have e1 : Pt.take .items (⟨xk, xn, xr, xb, xs, xo, xv, wl, jl, ⟨da, db, dk, ds, dt, du, dz⟩, xc, xt⟩, r) = (⟨xk, xn, xr, xb, xs, xo, xv, wl, w1, ⟨da, db, dk, ds, dt, du, dz⟩, xc, xt⟩, r1) := by simp only [Pt.take, hp7, hst]
    rw [e1]
    exact ⟨V1, rfl, hR, H.get (i := 2) rfl, H.get (i := 0) rfl, hv1, H.toOuts _ ⟨(fun g hg => (hv1.in_ g hg).imp (fun h => by simp [h]) id), (fun g hg => by rw [List.mem_singleton.1 hg]; exact .inl (by simp)), (fun g hg => by rw [List.mem_singleton.1 hg]; exact .inl (by simp)), trivial⟩⟩
  · refine SxL.val ⟨_, _, rfl, rfl, rfl⟩ rfl rfl (fun ρ w E H => ex_move E rfl rfl) ?_
    refine SxL.callB (v := .int .i64 (r1.err : Int)) ⟨_, _, rfl, rfl, rfl⟩ rfl rfl (fun ρ w E => ex_call E en_palaver_wire_Reader_Err rfl rfl) (fun w H => (err_any gr r1 w (H.get (i := 1) rfl)).mono fun _ _ h => ⟨h.1, h.2 ▸ Below.refl _ _⟩) ?_
    refine SxL.valB ⟨_, _, rfl, rfl, rfl⟩ rfl rfl (fun ρ w E H => ex_cmp E rfl rfl rfl rfl rfl) fun c13 hc13 => ?_
    refine SxL.val trivial rfl rfl (fun ρ w E H => ex_pick E rfl (t := true) rfl rfl) ?_
    refine SxL.nil (SxN.then_ ?_)
    cases c13
    · refine SxC.condF rfl (SxC.exit (SxX.thenE (SxX.thenE (SxX.blockE ?_))))
      refine SxN.done (.tuple #[]) (fun a w K H => res0 rfl) (fun w H => ?_)
      have hst : tkI p7.1 p7.2 jl = (r1, w1) := by
        rw [hrel]; refine tkI_stop n r1 w1 ?_
        first | (left; have h := hc9; simp [cmpB] at h; omega) | (right; have h := hc13; simp [cmpB] at h; omega)
      have hR : Blk w gr 157 (rdC r1) := H.get (i := 1) rfl
      have e1 : Pt.take .items (⟨xk, xn, xr, xb, xs, xo, xv, wl, jl, ⟨da, db, dk, ds, dt, du, dz⟩, xc, xt⟩, r) = (⟨xk, xn, xr, xb, xs, xo, xv, wl, w1, ⟨da, db, dk, ds, dt, du, dz⟩, xc, xt⟩, r1) := by simp only [Pt.take, hp7, hst]
      rw [e1]
      exact ⟨V1, rfl, hR, H.get (i := 2) rfl, H.get (i := 0) rfl, hv1, H.toOuts _ ⟨(fun g hg => (hv1.in_ g hg).imp (fun h => by simp [h]) id), (fun g hg => by rw [List.mem_singleton.1 hg]; exact .inl (by simp)), (fun g hg => by rw [List.mem_singleton.1 hg]; exact .inl (by simp)), trivial⟩⟩
    · refine SxC.condT rfl (SxC.skip (SxN.then_ (SxC.seq (SxC.block (SxC.seq ?_)))))
      have hn0 : 0 < n := by have := hc9; simp [cmpB] at this; omega
      have he0 : r1.err = 0 := by have := hc13; simp [cmpB] at this; omega
      have hgr := hG.item he0
      have hb1 := hG.h1
      have hb2 := hG.h2
      refine SxC.region ?_
      refine SxL.val trivial rfl rfl (fun ρ w E H => ex_move E rfl rfl) ?_
      obtain ⟨p18, hp18⟩ : ∃ p, Rd.num r1 = p := ⟨_, rfl⟩
      refine SxL.call (σ := Unit) (fun _ => .int .u64 (p18.1 : Int)) (fun _ => True) (fun _ => _) trivial rfl rfl (fun ρ w E => ex_call E en_palaver_wire_Reader_Num rfl rfl) (callTurn (i := 1) (cell gr 157 [.int .i64 (p18.2.err : Int), .string ⟨p18.2.rest.toArray⟩]) rfl (cell_loc _ _ _) rfl (fun w H => (num_p hp18 (by have q0 := hb1; omega) w (H.get (i := 1) rfl)).mono fun _ _ h => turn_rd h)) fun _ _ => ?_
      refine SxL.val trivial rfl rfl (fun ρ w E H => ex_build (cs := [.int .u64 (p18.1 : Int), .string ⟨[].toArray⟩]) E rfl rfl (by kernel_rfl)) ?_
      refine SxL.new (cs := [.int .u64 0, .string ⟨[].toArray⟩]) trivial rfl rfl (fun ρ w E H => ex_alloc rfl zr_palaver_api_Item rfl) fun g1 hg1 => ?_
      refine SxL.store (i := 0) trivial rfl rfl rfl rfl rfl sz_palaver_api_Item rfl rfl rfl ?_
      refine SxL.nil (SxN.then_ (SxC.seq (SxC.region ?_)))
      refine SxL.val trivial rfl rfl (fun ρ w E H => ex_move E rfl rfl) ?_
      obtain ⟨p21, hp21⟩ : ∃ p, Rd.str p18.2 65536 = p := ⟨_, rfl⟩
      refine SxL.call (σ := Unit) (fun _ => .string ⟨p21.1.toArray⟩) (fun _ => True) (fun _ => _) trivial rfl rfl (fun ρ w E => ex_call E en_palaver_wire_Reader_Str rfl rfl) (callTurn (i := 2) (cell gr 157 [.int .i64 (p21.2.err : Int), .string ⟨p21.2.rest.toArray⟩]) rfl (cell_loc _ _ _) rfl (fun w H => (str_p hp21 (by decide) (by decide) (by have q0 := hb1; have q1 := rp_num hp18; omega) w (H.get (i := 2) rfl)).mono fun _ _ h => turn_rd h)) fun _ _ => ?_
      refine SxL.val (v := .pointer (some ⟨g1, 1, none⟩)) trivial rfl rfl (fun ρ w E H => ex_field E rfl fa_palaver_api_Item_1 rfl rfl) ?_
      refine SxL.store (i := 0) trivial rfl rfl rfl rfl rfl sz_string rfl rfl rfl ?_
      refine SxL.nil (SxN.then_ ?_)
      refine SxC.drawnK (I.ownBlock.toList ++ [gr, g]) [0, 2] (by kernel_rfl) rfl ⟨(fun g hg => by rw [List.mem_singleton.1 hg]; exact .inr hg1), (fun g hg => (hv1.in_ g hg).imp (fun h => by simp only [List.mem_append]; simp [h]) id), (fun g hg => by rw [List.mem_singleton.1 hg]; exact .inl (by simp)), (fun g hg => by rw [List.mem_singleton.1 hg]; exact .inl (by simp)), trivial⟩ ?_
      refine SxA.take (i := 0) rfl (by kernel_rfl) (by kernel_rfl) (by kernel_rfl) rfl rfl (fun _ _ _ h => h) trivial (fun ρ w E H => ex_move E rfl rfl) ?_
      refine SxA.take (i := 1) rfl (by kernel_rfl) (by kernel_rfl) (by kernel_rfl) rfl rfl (fun _ _ _ h => h) trivial (fun ρ w E H => ex_move E rfl rfl) ?_
      refine SxA.take (i := 2) (v := .pointer (some ⟨g, 0, none⟩)) rfl (by kernel_rfl) (by kernel_rfl) (by kernel_rfl) rfl rfl (fun _ _ _ h => h) trivial (fun ρ w E H => ex_nilCheck E rfl rfl) ?_
      refine SxA.take (i := 3) (v := .pointer (some ⟨g, 8, none⟩)) rfl (by kernel_rfl) (by kernel_rfl) (by kernel_rfl) rfl rfl (fun _ _ _ h => h) trivial (fun ρ w E H => ex_field E rfl fa_palaver_api_Msg_7 rfl rfl) ?_
      refine SxA.take (i := 5) rfl (by kernel_rfl) (by kernel_rfl) (by kernel_rfl) rfl rfl (fun _ _ _ h => h) trivial (fun ρ w E H => ex_load (part := [.int .u64 (p18.1 : Int), .string ⟨p21.1.toArray⟩]) E (H.get (i := 0) rfl) rfl rfl Tryz.underlying94 rfl sz_palaver_api_Item rfl rfl) ?_
      refine SxA.ready [4, 6] (by kernel_rfl) (by simp) ⟨?_, ?_, trivial⟩
      · refine SxO.val rfl trivial rfl rfl (fun ρ w E H => ex_load1 E (H.get (i := 3) rfl) rfl rfl Tryz.underlying26 rfl rfl) ?_
        refine SxA.ready [6] (by kernel_rfl) (by simp) ⟨?_, trivial⟩
        refine SxO.newS (cs := [.int .u64 (p18.1 : Int), .string ⟨p21.1.toArray⟩]) rfl trivial rfl rfl (fun ρ w E H => ex_buildSlice E rfl rfl Tryz.underlying26 sz_palaver_api_Item zr_palaver_api_Item rfl rfl (by kernel_rfl)) (fun g2 w hg2 H => H.ks (I.ownBlock.toList ++ [gr, g]) [1, 3] rfl ⟨(fun g hg => by rw [List.mem_singleton.1 hg]; exact .inr hg2), (fun g hg => by rw [List.mem_singleton.1 hg]; exact .inr hg1), (fun g hg => (hv1.in_ g hg).imp (fun h => by simp only [List.mem_append]; simp [h]) id), (fun g hg => by rw [List.mem_singleton.1 hg]; exact .inl (by simp)), (fun g hg => by rw [List.mem_singleton.1 hg]; exact .inl (by simp)), trivial⟩) fun g2 hg2 => ?_
        refine SxA.ready [7] (by kernel_rfl) (by simp) ⟨?_, trivial⟩
        refine SxO.append (i := 2) (news := [.int .u64 (p18.1 : Int), .string ⟨p21.1.toArray⟩]) rfl trivial rfl rfl rfl Tryz.underlying26 nf_palaver_api_Item rfl rfl rfl rfl hv1 rfl (fun w H => reads_cell H (i := 0) rfl rfl) (one_list rfl) (by unfold maxLen; omega) (by omega) hbase (fun A30 k30 w hv30 H => H.ks (I.ownBlock.toList ++ [gr, g]) [1, 3] rfl ⟨(fun g hg => by rw [List.mem_singleton.1 hg]; exact .inr hg2), (fun g hg => by rw [List.mem_singleton.1 hg]; exact .inr hg1), (fun g hg => (hv30.in_ g hg).imp (fun h => by simp only [List.mem_append]; simp [h]) id), (fun g hg => by rw [List.mem_singleton.1 hg]; exact .inl (by simp)), (fun g hg => by rw [List.mem_singleton.1 hg]; exact .inl (by simp)), trivial⟩) fun A30 k30 hv30 => ?_
        refine SxA.take (i := 8) (v := .pointer (some ⟨g, 0, none⟩)) rfl (by kernel_rfl) (by kernel_rfl) (by kernel_rfl) rfl rfl (fun _ _ _ h => h) trivial (fun ρ w E H => ex_nilCheck E rfl rfl) ?_
        refine SxA.take (i := 9) (v := .pointer (some ⟨g, 8, none⟩)) rfl (by kernel_rfl) (by kernel_rfl) (by kernel_rfl) rfl rfl (fun _ _ _ h => h) trivial (fun ρ w E H => ex_field E rfl fa_palaver_api_Msg_7 rfl rfl) ?_
        refine SxA.ready [10] (by kernel_rfl) (by simp) ⟨?_, trivial⟩
        refine SxO.store (j := 4) rfl trivial rfl rfl rfl rfl rfl sz_api_Item rfl rfl rfl (fun w H => H.ks (I.ownBlock.toList ++ [gr, g]) [1, 3] rfl ⟨(fun g hg => by rw [List.mem_singleton.1 hg]; exact .inr hg2), (fun g hg => by rw [List.mem_singleton.1 hg]; exact .inr hg1), (fun g hg => (hv30.in_ g hg).imp (fun h => by simp only [List.mem_append]; simp [h]) id), (fun g hg => by rw [List.mem_singleton.1 hg]; exact .inl (by simp)), (fun g hg => by rw [List.mem_singleton.1 hg]; exact .inl (by simp)), trivial⟩) ?_
        refine SxA.done (by kernel_rfl) ?_
        refine SxN.block (SxN.then_ (SxC.region ?_))
        refine SxL.val trivial rfl rfl (fun ρ w E H => ex_move E rfl rfl) ?_
        refine SxL.val (v := .int .u64 ((n - 1 : Nat) : Int)) trivial rfl rfl (fun ρ w E H => ex_sub E rfl rfl rfl (by rw [IntKind.wrap_u64]; omega)) ?_
        refine SxL.val trivial rfl rfl (fun ρ w E H => ex_assign E rfl rfl) ?_
        refine SxL.nil ?_
        refine SxN.hp (fun W H => H.re (i := 2) rfl (rowX I.ownBlock.toList base 94 2 (.slice A30 (w1.length + 1) k30) ((w1 ++ [(⟨p18.1, p21.1⟩ : Im)]).length) ((w1 ++ [(⟨p18.1, p21.1⟩ : Im)]).flatMap imL)) (rowX_loc _ _ _ _ _ _ _) rfl (fun h => own_as h (by simp) (by simp [imL]))) ?_
        refine SxN.back (gk - 1) (n - 1, p21.2, w1 ++ [(⟨p18.1, p21.1⟩ : Im)], .slice A30 (w1.length + 1) k30) (by omega) ⟨by omega, by rw [hrel, tkI_step n r1 w1 hn0 he0]; simp only [hp18, hp21], hv30, by rw [List.length_append]; simp only [hp18, hp21] at hgr; exact hgr, by omega⟩ ⟨rfl, rfl, rfl, trivial⟩ [2, 3, 4] rfl (by decide) ⟨.inr (fun g hg => by rw [List.mem_singleton.1 hg]; exact hg2), .inr (fun g hg => by rw [List.mem_singleton.1 hg]; exact hg1), .inl rfl, .inl rfl, .inl rfl, trivial⟩
      · refine SxO.newS (cs := [.int .u64 (p18.1 : Int), .string ⟨p21.1.toArray⟩]) rfl trivial rfl rfl (fun ρ w E H => ex_buildSlice E rfl rfl Tryz.underlying26 sz_palaver_api_Item zr_palaver_api_Item rfl rfl (by kernel_rfl)) (fun g3 w hg3 H => H.ks (I.ownBlock.toList ++ [gr, g]) [1, 3] rfl ⟨(fun g hg => by rw [List.mem_singleton.1 hg]; exact .inr hg3), (fun g hg => by rw [List.mem_singleton.1 hg]; exact .inr hg1), (fun g hg => (hv1.in_ g hg).imp (fun h => by simp only [List.mem_append]; simp [h]) id), (fun g hg => by rw [List.mem_singleton.1 hg]; exact .inl (by simp)), (fun g hg => by rw [List.mem_singleton.1 hg]; exact .inl (by simp)), trivial⟩) fun g3 hg3 => ?_
        refine SxA.ready [4] (by kernel_rfl) (by simp) ⟨?_, trivial⟩
        refine SxO.val rfl trivial rfl rfl (fun ρ w E H => ex_load1 E (H.get (i := 4) rfl) rfl rfl Tryz.underlying26 rfl rfl) ?_
        refine SxA.ready [7] (by kernel_rfl) (by simp) ⟨?_, trivial⟩
        refine SxO.append (i := 2) (news := [.int .u64 (p18.1 : Int), .string ⟨p21.1.toArray⟩]) rfl trivial rfl rfl rfl Tryz.underlying26 nf_palaver_api_Item rfl rfl rfl rfl hv1 rfl (fun w H => reads_cell H (i := 0) rfl rfl) (one_list rfl) (by unfold maxLen; omega) (by omega) hbase (fun A30 k30 w hv30 H => H.ks (I.ownBlock.toList ++ [gr, g]) [1, 3] rfl ⟨(fun g hg => by rw [List.mem_singleton.1 hg]; exact .inr hg3), (fun g hg => by rw [List.mem_singleton.1 hg]; exact .inr hg1), (fun g hg => (hv30.in_ g hg).imp (fun h => by simp only [List.mem_append]; simp [h]) id), (fun g hg => by rw [List.mem_singleton.1 hg]; exact .inl (by simp)), (fun g hg => by rw [List.mem_singleton.1 hg]; exact .inl (by simp)), trivial⟩) fun A30 k30 hv30 => ?_
        refine SxA.take (i := 8) (v := .pointer (some ⟨g, 0, none⟩)) rfl (by kernel_rfl) (by kernel_rfl) (by kernel_rfl) rfl rfl (fun _ _ _ h => h) trivial (fun ρ w E H => ex_nilCheck E rfl rfl) ?_
        refine SxA.take (i := 9) (v := .pointer (some ⟨g, 8, none⟩)) rfl (by kernel_rfl) (by kernel_rfl) (by kernel_rfl) rfl rfl (fun _ _ _ h => h) trivial (fun ρ w E H => ex_field E rfl fa_palaver_api_Msg_7 rfl rfl) ?_
        refine SxA.ready [10] (by kernel_rfl) (by simp) ⟨?_, trivial⟩
        refine SxO.store (j := 4) rfl trivial rfl rfl rfl rfl rfl sz_api_Item rfl rfl rfl (fun w H => H.ks (I.ownBlock.toList ++ [gr, g]) [1, 3] rfl ⟨(fun g hg => by rw [List.mem_singleton.1 hg]; exact .inr hg3), (fun g hg => by rw [List.mem_singleton.1 hg]; exact .inr hg1), (fun g hg => (hv30.in_ g hg).imp (fun h => by simp only [List.mem_append]; simp [h]) id), (fun g hg => by rw [List.mem_singleton.1 hg]; exact .inl (by simp)), (fun g hg => by rw [List.mem_singleton.1 hg]; exact .inl (by simp)), trivial⟩) ?_
        refine SxA.done (by kernel_rfl) ?_
        refine SxN.block (SxN.then_ (SxC.region ?_))
        refine SxL.val trivial rfl rfl (fun ρ w E H => ex_move E rfl rfl) ?_
        refine SxL.val (v := .int .u64 ((n - 1 : Nat) : Int)) trivial rfl rfl (fun ρ w E H => ex_sub E rfl rfl rfl (by rw [IntKind.wrap_u64]; omega)) ?_
        refine SxL.val trivial rfl rfl (fun ρ w E H => ex_assign E rfl rfl) ?_
        refine SxL.nil ?_
        refine SxN.hp (fun W H => H.re (i := 2) rfl (rowX I.ownBlock.toList base 94 2 (.slice A30 (w1.length + 1) k30) ((w1 ++ [(⟨p18.1, p21.1⟩ : Im)]).length) ((w1 ++ [(⟨p18.1, p21.1⟩ : Im)]).flatMap imL)) (rowX_loc _ _ _ _ _ _ _) rfl (fun h => own_as h (by simp) (by simp [imL]))) ?_
        refine SxN.back (gk - 1) (n - 1, p21.2, w1 ++ [(⟨p18.1, p21.1⟩ : Im)], .slice A30 (w1.length + 1) k30) (by omega) ⟨by omega, by rw [hrel, tkI_step n r1 w1 hn0 he0]; simp only [hp18, hp21], hv30, by rw [List.length_append]; simp only [hp18, hp21] at hgr; exact hgr, by omega⟩ ⟨rfl, rfl, rfl, trivial⟩ [2, 3, 4] rfl (by decide) ⟨.inr (fun g hg => by rw [List.mem_singleton.1 hg]; exact hg3), .inr (fun g hg => by rw [List.mem_singleton.1 hg]; exact hg1), .inl rfl, .inl rfl, .inl rfl, trivial⟩
end Go.Proofs.YteiaiilfekojfaaGreat.Msg
end
section
set_option linter.unusedVariables false
set_option linter.unusedSimpArgs false
namespace Go.Proofs.YteiaiilfekojfaaGreat.Msg
open Go.RowKit Wire Sx DrawInv

def Pt.cap : Pt → Nat → List Value
  | .slot _, g => [.pointer (some ⟨g, 0, none⟩)]
  | _, _ => []
def Pt.caps : Pt → Nat → List Nat
  | .slot _, g => [g]
  | _, _ => []
def CapOk (w : World) : Pt → Nat → Prop
  | .slot l, g => Blk w g 22 #[.int .u64 (l : Int)]
  | _, _ => True
def ptL (p : Pt) (g : Nat) : List Value := [.func (.func p.putF) #[] #[], .func (.func p.takeF) #[] #[], .func (.func p.moveF) #[] #[], .func (.func p.mayF) #[] (p.cap g).toArray]
def ptsL (q : List (Pt × Nat)) : List Value := q.flatMap fun x => ptL x.1 x.2
def capsOf (q : List (Pt × Nat)) : List Nat := q.flatMap fun x => x.1.caps x.2
/-- The parts of a kind, in memory. -/
def PartsAt (w : World) (gb : Nat) (q : List (Pt × Nat)) : Prop := (q ≠ [] → Blk w gb 101 (ptsL q).toArray) ∧ ∀ x ∈ q, CapOk w x.1 x.2
def partsF (gb : Nat) (q : List (Pt × Nat)) : Ft := ⟨(if q = [] then [] else [gb]) ++ capsOf q, fun w => PartsAt w gb q⟩
theorem caps_loc {w w' : World} {p : Pt} {g : Nat} (h : ∀ b ∈ p.caps g, w'.heap[b]? = w.heap[b]?) (hc : CapOk w p g) : CapOk w' p g := by
  cases p with
  | slot l => exact (h g (List.mem_singleton.2 rfl)).trans hc
  | _ => trivial
theorem partsF_loc (gb : Nat) (q : List (Pt × Nat)) : (partsF gb q).Loc := by
  intro w w' h hp
  refine ⟨fun hq => ?_, fun x hx => caps_loc (fun b hb => h b ?_) (hp.2 x hx)⟩
  · refine (h gb ?_).trans (hp.1 hq)
    simp [partsF, hq]
  · exact List.mem_append.2 (.inr (List.mem_flatMap.2 ⟨x, hx, hb⟩))
theorem parts_row {w : World} {gb : Nat} {q : List (Pt × Nat)} (h : (partsF gb q).φ w) {k : Nat} {p : Pt} {gc : Nat} (hk : q[k]? = some (p, gc)) : RowAt w ((⟨gb, 0, none⟩ : Addr).add (k * 4)) (ptL p gc) := by
  intro j v hj
  have hne : q ≠ [] := by rintro rfl; cases hk
  have hb := (h.1 hne).cell (k * 4 + j)
  rw [add_add, add_none, Nat.zero_add, hb]
  have hj4 : j < 4 := (List.getElem?_eq_some_iff.1 hj).1
  have := flat_get (cells := fun x : Pt × Nat => ptL x.1 x.2) (sz := 4) (fun _ => rfl) q k j hj4
  rw [hk] at this
  simpa [ptsL, this] using hj
theorem parts_cap {w : World} {gb : Nat} {q : List (Pt × Nat)} (h : (partsF gb q).φ w) {k : Nat} {p : Pt} {gc : Nat} (hk : q[k]? = some (p, gc)) : CapOk w p gc := h.2 _ (List.mem_of_getElem? hk)
set_option maxRecDepth 100000 in
theorem enters_may (p : Pt) : Enters Tryz.prog p.mayF := by
  cases p with
  | cmd => exact enters_of Tryz.func115 (by kernel_rfl) rfl
  | name => exact enters_of Tryz.func120 (by kernel_rfl) rfl
  | reply => exact enters_of Tryz.func126 (by kernel_rfl) rfl
  | node => exact enters_of Tryz.func130 (by kernel_rfl) rfl
  | turn => exact enters_of Tryz.func136 (by kernel_rfl) rfl
  | floor => exact enters_of Tryz.func146 (by kernel_rfl) rfl
  | slot _ => exact enters_of Tryz.func142 (by kernel_rfl) rfl
  | value => exact enters_of Tryz.func155 (by kernel_rfl) rfl
  | votes => exact enters_of Tryz.func151 (by kernel_rfl) rfl
  | items => exact enters_of Tryz.func160 (by kernel_rfl) rfl
set_option maxRecDepth 100000 in
theorem enters_put (p : Pt) : Enters Tryz.prog p.putF := by
  cases p with
  | cmd => exact enters_of Tryz.func110 (by kernel_rfl) rfl
  | name => exact enters_of Tryz.func117 (by kernel_rfl) rfl
  | reply => exact enters_of Tryz.func121 (by kernel_rfl) rfl
  | node => exact enters_of Tryz.func127 (by kernel_rfl) rfl
  | turn => exact enters_of Tryz.func131 (by kernel_rfl) rfl
  | floor => exact enters_of Tryz.func143 (by kernel_rfl) rfl
  | slot _ => exact enters_of Tryz.func138 (by kernel_rfl) rfl
  | value => exact enters_of Tryz.func152 (by kernel_rfl) rfl
  | votes => exact enters_of Tryz.func147 (by kernel_rfl) rfl
  | items => exact enters_of Tryz.func156 (by kernel_rfl) rfl
set_option maxRecDepth 100000 in
theorem enters_take (p : Pt) : Enters Tryz.prog p.takeF := by
  cases p with
  | cmd => exact enters_of Tryz.func112 (by kernel_rfl) rfl
  | name => exact enters_of Tryz.func118 (by kernel_rfl) rfl
  | reply => exact enters_of Tryz.func123 (by kernel_rfl) rfl
  | node => exact enters_of Tryz.func128 (by kernel_rfl) rfl
  | turn => exact enters_of Tryz.func133 (by kernel_rfl) rfl
  | floor => exact enters_of Tryz.func144 (by kernel_rfl) rfl
  | slot _ => exact enters_of Tryz.func139 (by kernel_rfl) rfl
  | value => exact enters_of Tryz.func153 (by kernel_rfl) rfl
  | votes => exact enters_of Tryz.func148 (by kernel_rfl) rfl
  | items => exact enters_of Tryz.func157 (by kernel_rfl) rfl
set_option maxRecDepth 100000 in
theorem enters_move (p : Pt) : Enters Tryz.prog p.moveF := by
  cases p with
  | cmd => exact enters_of Tryz.func114 (by kernel_rfl) rfl
  | name => exact enters_of Tryz.func119 (by kernel_rfl) rfl
  | reply => exact enters_of Tryz.func125 (by kernel_rfl) rfl
  | node => exact enters_of Tryz.func129 (by kernel_rfl) rfl
  | turn => exact enters_of Tryz.func135 (by kernel_rfl) rfl
  | floor => exact enters_of Tryz.func145 (by kernel_rfl) rfl
  | slot _ => exact enters_of Tryz.func141 (by kernel_rfl) rfl
  | value => exact enters_of Tryz.func154 (by kernel_rfl) rfl
  | votes => exact enters_of Tryz.func149 (by kernel_rfl) rfl
  | items => exact enters_of Tryz.func158 (by kernel_rfl) rfl
def msV (m : Ms) (A : Option Addr) (ka : Nat) (B : Option Addr) (kb : Nat) : Value := .agg (msL m (.slice A m.votes.length ka) (.slice B m.items.length kb)).toArray
/-- A message's lists can be read. -/
structure MsRows (w : World) (m : Ms) (A B : Option Addr) : Prop where
  hv : Rows w A 4 voL m.votes
  hi : Rows w B 2 imL m.items
theorem MsRows.below {w w' : World} {m : Ms} {A B : Option Addr} (h : MsRows w m A B) (hb : Below w.heap.size w w') : MsRows w' m A B := ⟨h.hv.below hb, h.hi.below hb⟩
theorem may_all (p : Pt) (m : Ms) (hf : m.Fits) (hs : m.Small) (A B : Option Addr) (ka kb gc : Nat) (w : World) (hr : MsRows w m A B) (hc : CapOk w p gc) :
    Calls Tryz.prog p.mayF (msV m A ka B kb :: p.cap gc).toArray w fun e w' => e = .returned (.bool (p.may m)) ∧ Below w.heap.size w w' := by
  obtain ⟨hv, hi⟩ := hr
  have h2 := hs.h2
  have h3 := hs.h3
  obtain ⟨mk, mn, mr, mb, ms, mo, mv, vl, il, ⟨ca, cb, ck, cs, ct, cu, cz⟩, mc, mt⟩ := m
  dsimp only at h2 h3
  cases p with
  | cmd => exact may_cmd _ _ _ _ _ _ _ _ _ _ _ _ _ _ _ _ _ _ _ _ _ _ w hf.h9
  | name => exact may_name _ _ _ _ _ _ _ _ _ _ _ _ _ _ _ _ _ _ _ _ _ _ w
  | reply => exact may_reply _ _ _ _ _ _ _ _ _ _ _ _ _ _ _ _ _ _ _ _ _ _ w
  | node => exact may_node _ _ _ _ _ _ _ _ _ _ _ _ _ _ _ _ _ _ _ _ _ _ w
  | turn => exact may_turn _ _ _ _ _ _ _ _ _ _ _ _ _ _ _ _ _ _ _ _ _ _ w
  | floor => exact may_floor _ _ _ _ _ _ _ _ _ _ _ _ _ _ _ _ _ _ _ _ _ _ w
  | slot l => exact may_slot _ _ _ _ _ _ _ _ _ _ _ _ _ _ _ _ _ _ _ _ _ _ _ _ w hc
  | value => exact may_value _ _ _ _ _ _ _ _ _ _ _ _ _ _ _ _ _ _ _ _ _ _ w
  | votes => exact may_votes _ _ _ _ _ _ _ _ _ _ _ _ _ _ _ _ _ _ _ _ _ _ w hv (Nat.le_trans h2 (by decide))
  | items => exact may_items _ _ _ _ _ _ _ _ _ _ _ _ _ _ _ _ _ _ _ _ _ _ w hi (Nat.le_trans h3 (by decide))
theorem put_all (p : Pt) (m : Ms) (hf : m.Fits) (hs : m.Small) (A B : Option Addr) (ka kb : Nat) (base : Nat) (v : Value) (l : List UInt8) (w : World) (hr : MsRows w m A B) (hl : l.length ≤ 1000000) (hbase : base ≤ w.heap.size) (hown : w.ownsRow base 5 1 v l.length (bv l))
    (hA : m.votes ≠ [] → ∀ ad, A = some ad → ad.block < base) (hB : m.items ≠ [] → ∀ ad, B = some ad → ad.block < base) : Calls Tryz.prog p.putF #[v, msV m A ka B kb] w fun e w' => PutRet base v w (l ++ p.put m) e w' := by
  obtain ⟨hv, hi⟩ := hr
  obtain ⟨mk, mn, mr, mb, ms, mo, mv, vl, il, ⟨ca, cb, ck, cs, ct, cu, cz⟩, mc, mt⟩ := m
  cases p with
  | cmd => exact put_cmd _ _ _ _ _ _ _ _ _ _ _ _ _ _ _ _ _ _ _ _ _ _ _ _ _ w hf hs hl hbase hown
  | name => exact put_name _ _ _ _ _ _ _ _ _ _ _ _ _ _ _ _ _ _ _ _ _ _ _ _ _ w hf hs hl hbase hown
  | reply => exact put_reply _ _ _ _ _ _ _ _ _ _ _ _ _ _ _ _ _ _ _ _ _ _ _ _ _ w hf hs hl hbase hown
  | node => exact put_node _ _ _ _ _ _ _ _ _ _ _ _ _ _ _ _ _ _ _ _ _ _ _ _ _ w hf hs hl hbase hown
  | turn => exact put_turn _ _ _ _ _ _ _ _ _ _ _ _ _ _ _ _ _ _ _ _ _ _ _ _ _ w hf hs hl hbase hown
  | floor => exact put_floor _ _ _ _ _ _ _ _ _ _ _ _ _ _ _ _ _ _ _ _ _ _ _ _ _ w hf hs hl hbase hown
  | slot x => exact put_slot _ _ _ _ _ _ _ _ _ _ _ _ _ _ _ _ _ _ _ _ _ x _ _ _ _ w hf hs hl hbase hown
  | value => exact put_value _ _ _ _ _ _ _ _ _ _ _ _ _ _ _ _ _ _ _ _ _ _ _ _ _ w hf hs hl hbase hown
  | votes => exact put_votes _ _ _ _ _ _ _ _ _ _ _ _ _ _ _ _ _ _ _ _ _ _ _ _ _ w hf hs hl hbase hown hv hA
  | items => exact put_items _ _ _ _ _ _ _ _ _ _ _ _ _ _ _ _ _ _ _ _ _ _ _ _ _ w hf hs hl hbase hown hi hB
/-- A message being made: its lists are rows of its own. -/
def Made (base g : Nat) (a : Ms) (V I : Value) (w : World) : Prop := Blk w g 33 (msL a V I).toArray ∧ w.ownsRow base 92 4 V a.votes.length (a.votes.flatMap voL) ∧ w.ownsRow base 94 2 I a.items.length (a.items.flatMap imL)
theorem own_kept {w w' : World} {base e sz n : Nat} {v : Value} {xs : List Value} {G : List Nat} (h : w.ownsRow base e sz v n xs) (ho : Outs G w w') (hd : ∀ g ∈ v.ownBlock.toList, g ∉ G) : w'.ownsRow base e sz v n xs :=
  rowX_loc [] base e sz v n xs w w' (fun g hg => ho.block g (own_lt h g (by simpa [rowX] using hg)).2 (hd g (by simpa [rowX] using hg))) h
theorem own_blk {w : World} {base e sz n g t : Nat} {v : Value} {xs : List Value} {cs : Array Value} (h : w.ownsRow base e sz v n xs) (hb : Blk w g t cs) (hne : e ≠ t) : g ∉ v.ownBlock.toList := by
  intro hg
  rcases h.2 with ⟨rfl, _⟩ | ⟨g', cap, cur, rfl, _, hh, _⟩
  · cases hg
  · have : g = g' := by simpa [Value.ownBlock] using hg
    subst this
    have hb : w.heap[g]? = some (.cells cs t (0, 0)) := hb
    rw [hh] at hb
    injection hb with hb
    injection hb with h1 h2
    exact hne h2
theorem own_own {w : World} {b1 b2 e1 e2 s1 s2 n1 n2 : Nat} {v1 v2 : Value} {x1 x2 : List Value} (h1 : w.ownsRow b1 e1 s1 v1 n1 x1) (h2 : w.ownsRow b2 e2 s2 v2 n2 x2) (hne : e1 ≠ e2) : ∀ g ∈ v1.ownBlock.toList, g ∉ v2.ownBlock.toList := by
  intro g hg
  rcases h1.2 with ⟨rfl, _⟩ | ⟨g', cap, cur, rfl, _, hh, _⟩
  · cases hg
  · have : g = g' := by simpa [Value.ownBlock] using hg
    subst this
    exact own_blk h2 hh (fun e => hne e.symm)
/-- What moving or taking a part does to a message being made. -/
theorem move_all (p : Pt) (m : Ms) (hs : m.Small) (A B : Option Addr) (ka kb : Nat) (base g : Nat) (a : Ms) (V I : Value) (w : World) (hr : MsRows w m A B) (hM : Made base g a V I w) (hb : base ≤ w.heap.size) (hA : m.votes ≠ [] → ∀ ad, A = some ad → ad.block ≠ g) (hB : m.items ≠ [] → ∀ ad, B = some ad → ad.block ≠ g) :
    Calls Tryz.prog p.moveF #[.pointer (some ⟨g, 0, none⟩), msV m A ka B kb] w fun e w' => ∃ V' I', e = .returned (.tuple #[]) ∧ Made base g (p.move a m) V' I' w' ∧ (OwnIn w V.ownBlock.toList V' ∧ OwnIn w I.ownBlock.toList I') ∧ Outs [g] w w' := by
  obtain ⟨hv, hi⟩ := hr
  obtain ⟨hg, hV, hI⟩ := hM
  have d1 := own_blk hV hg (by decide)
  have d2 := own_blk hI hg (by decide)
  have h2 := hs.h2
  have h3 := hs.h3
  obtain ⟨mk, mn, mr, mb, ms, mo, mv, vl, il, ⟨ca, cb, ck, cs, ct, cu, cz⟩, mc, mt⟩ := m
  obtain ⟨xk, xn, xr, xb, xs, xo, xv, wl, jl, ⟨da, db, dk, ds, dt, du, dz⟩, xc, xt⟩ := a
  dsimp only at h2 h3
  have hkV : ∀ w', Outs [g] w w' → w'.ownsRow base 92 4 V wl.length (wl.flatMap voL) := fun w' ho => own_kept hV ho fun b hb hm => d1 (by rw [List.mem_singleton.1 hm] at hb; exact hb)
  have hkI : ∀ w', Outs [g] w w' → w'.ownsRow base 94 2 I jl.length (jl.flatMap imL) := fun w' ho => own_kept hI ho fun b hb hm => d2 (by rw [List.mem_singleton.1 hm] at hb; exact hb)
  have same : ∀ {e : Ending} {w' : World} {a' : Ms}, a'.votes = wl → a'.items = jl → e = .returned (.tuple #[]) ∧ Blk w' g 33 (msL a' V I).toArray ∧ Outs [g] w w' → ∃ V' I', e = .returned (.tuple #[]) ∧ Made base g a' V' I' w' ∧ (OwnIn w V.ownBlock.toList V' ∧ OwnIn w I.ownBlock.toList I') ∧ Outs [g] w w' := by
    intro e w' a' e1 e2 ⟨r1, r2, r3⟩
    exact ⟨V, I, r1, ⟨r2, by rw [e1]; exact hkV w' r3, by rw [e2]; exact hkI w' r3⟩, ⟨OwnIn.refl w V, OwnIn.refl w I⟩, r3⟩
  cases p with
  | cmd => exact (move_cmd _ _ _ _ _ _ _ _ _ _ _ _ _ _ _ _ _ _ _ _ _ _ _ _ _ _ _ _ _ _ _ _ _ _ _ _ _ _ _ _ _ _ _ w hg).mono fun _ _ h => same rfl rfl h
  | name => exact (move_name _ _ _ _ _ _ _ _ _ _ _ _ _ _ _ _ _ _ _ _ _ _ _ _ _ _ _ _ _ _ _ _ _ _ _ _ _ _ _ _ _ _ _ w hg).mono fun _ _ h => same rfl rfl h
  | reply => exact (move_reply _ _ _ _ _ _ _ _ _ _ _ _ _ _ _ _ _ _ _ _ _ _ _ _ _ _ _ _ _ _ _ _ _ _ _ _ _ _ _ _ _ _ _ w hg).mono fun _ _ h => same rfl rfl h
  | node => exact (move_node _ _ _ _ _ _ _ _ _ _ _ _ _ _ _ _ _ _ _ _ _ _ _ _ _ _ _ _ _ _ _ _ _ _ _ _ _ _ _ _ _ _ _ w hg).mono fun _ _ h => same rfl rfl h
  | turn => exact (move_turn _ _ _ _ _ _ _ _ _ _ _ _ _ _ _ _ _ _ _ _ _ _ _ _ _ _ _ _ _ _ _ _ _ _ _ _ _ _ _ _ _ _ _ w hg).mono fun _ _ h => same rfl rfl h
  | floor => exact (move_floor _ _ _ _ _ _ _ _ _ _ _ _ _ _ _ _ _ _ _ _ _ _ _ _ _ _ _ _ _ _ _ _ _ _ _ _ _ _ _ _ _ _ _ w hg).mono fun _ _ h => same rfl rfl h
  | slot l => exact (move_slot _ _ _ _ _ _ _ _ _ _ _ _ _ _ _ _ _ _ _ _ _ _ _ _ _ _ _ _ _ _ _ _ _ _ _ _ _ _ _ l _ _ _ _ w hg).mono fun _ _ h => same rfl rfl h
  | value => exact (move_value _ _ _ _ _ _ _ _ _ _ _ _ _ _ _ _ _ _ _ _ _ _ _ _ _ _ _ _ _ _ _ _ _ _ _ _ _ _ _ _ _ _ _ w hg).mono fun _ _ h => same rfl rfl h
  | votes =>
    refine (move_votes _ _ _ _ _ _ _ _ _ _ _ _ _ _ _ _ _ _ _ _ _ _ _ _ _ _ _ _ _ _ _ _ _ _ _ _ _ _ _ _ _ _ _ w hg hv hA (Nat.le_trans h2 (by decide))).mono fun e w' h => ?_
    obtain ⟨V', r1, r2, r3, r4⟩ := h
    exact ⟨V', I, r1, ⟨r2, own_base r3 hb, hkI w' r4⟩, ⟨fun b hb => .inr (own_lt r3 b hb).1, OwnIn.refl w I⟩, r4⟩
  | items =>
    refine (move_items _ _ _ _ _ _ _ _ _ _ _ _ _ _ _ _ _ _ _ _ _ _ _ _ _ _ _ _ _ _ _ _ _ _ _ _ _ _ _ _ _ _ _ w hg hi hB (Nat.le_trans h3 (by decide))).mono fun e w' h => ?_
    obtain ⟨I', r1, r2, r3, r4⟩ := h
    exact ⟨V, I', r1, ⟨r2, hkV w' r4, own_base r3 hb⟩, ⟨OwnIn.refl w V, fun b hb => .inr (own_lt r3 b hb).1⟩, r4⟩
end Go.Proofs.YteiaiilfekojfaaGreat.Msg
end
section
set_option linter.unusedVariables false
set_option linter.unusedSimpArgs false
namespace Go.Proofs.YteiaiilfekojfaaGreat.Sx
open Go.RowKit DrawInv
section
variable {P : Program} {ops : Array Oper} {Q Q' : Exit → Act → World → Prop} {n : Nat} {vs : Vs} {w0 : World} {L : List Ft} {o : Oper} {rest : List Oper}
theorem SxL.call2 {α β : Type} {d f : Nat} {args : Array Value} (v : α → β → Value) (F : α → β → Prop) (L' : α → β → List Ft) (hon : GOn ops vs o.guard) (hd : o.dst = some d) (hdn : Nat.blt d n = true)
    (hr : ∀ ρ w, Env vs ρ → (execOp ρ o).run P w = .ok (.enter f args) w) (hc : ∀ w, Hp w0 L w → Calls P f args w fun e w' => ∃ a b, e = .returned (v a b) ∧ F a b ∧ Hp w0 (L' a b) w')
    (h : ∀ a b, F a b → SxL P ops Q rest n ((d, v a b) :: vs) w0 (L' a b)) : SxL P ops Q (o :: rest) n vs w0 L :=
  SxL.call (σ := α × β) (fun s => v s.1 s.2) (fun s => F s.1 s.2) (fun s => L' s.1 s.2) hon hd hdn hr (fun w H => (hc w H).mono fun _ _ ⟨a, b, h⟩ => ⟨(a, b), h⟩) (fun s hF => h s.1 s.2 hF)
/-- A call that makes new memory, told as one fact. -/
theorem callNew {σ : Type} {f : Nat} {args : Array Value} (v : σ → Value) (F : σ → Prop) (fF : σ → Ft) (hl : ∀ s, (fF s).Loc) (hc : ∀ w, Hp w0 L w → Calls P f args w fun E w' => ∃ s, E = .returned (v s) ∧ F s ∧ (∀ g ∈ (fF s).fp, w.heap.size ≤ g ∧ g < w'.heap.size) ∧ (fF s).φ w' ∧ Below w.heap.size w w') :
    ∀ w, Hp w0 L w → Calls P f args w fun E w' => ∃ s, E = .returned (v s) ∧ (F s ∧ ∀ g ∈ (fF s).fp, w0.heap.size ≤ g) ∧ Hp w0 (fF s :: L) w' := fun w H => (hc w H).mono fun E w' ⟨s, h1, h2, h3, h4, h5⟩ =>
  ⟨s, h1, ⟨h2, fun g hg => Nat.le_trans H.os.size (h3 g hg).1⟩, H.add h5 _ (hl s) (fun g hg => ⟨(h3 g hg).2, (h3 g hg).1⟩) h4⟩
end
end Go.Proofs.YteiaiilfekojfaaGreat.Sx
namespace Go.Proofs.YteiaiilfekojfaaGreat.Msg
open Go.RowKit Wire Sx DrawInv
def madeF (base g : Nat) (a : Ms) (V I : Value) : Ft := ⟨g :: (V.ownBlock.toList ++ I.ownBlock.toList), Made base g a V I⟩
theorem own_loc {w w' : World} {base e sz n : Nat} {v : Value} {xs : List Value} (h : w.ownsRow base e sz v n xs) (hs : ∀ g ∈ v.ownBlock.toList, w'.heap[g]? = w.heap[g]?) : w'.ownsRow base e sz v n xs :=
  rowX_loc [] base e sz v n xs w w' (fun g hg => hs g (by simpa [rowX] using hg)) h
theorem madeF_loc (base g : Nat) (a : Ms) (V I : Value) : (madeF base g a V I).Loc := by
  intro w w' h hM
  obtain ⟨h1, h2, h3⟩ := hM
  exact ⟨(h g (List.mem_cons_self ..)).trans h1, own_loc h2 fun b hb => h b (List.mem_cons_of_mem _ (List.mem_append.2 (.inl hb))), own_loc h3 fun b hb => h b (List.mem_cons_of_mem _ (List.mem_append.2 (.inr hb)))⟩
theorem made_fresh {w0 : World} {base g : Nat} {a : Ms} {V I : Value} (hg : w0.heap.size ≤ g) (hV : OwnIn w0 [] V) (hI : OwnIn w0 [] I) : ∀ b ∈ (madeF base g a V I).fp, w0.heap.size ≤ b := by
  intro b hb
  rcases List.mem_cons.1 hb with rfl | hb
  · exact hg
  · rcases List.mem_append.1 hb with hb | hb
    · exact (hV b hb).resolve_left (by simp)
    · exact (hI b hb).resolve_left (by simp)
theorem own_none (w : World) : OwnIn w [] (.slice none 0 0) := fun g hg => by cases hg
theorem own_trans {w0 w : World} {V V' : Value} (hs : w0.heap.size ≤ w.heap.size) (h : OwnIn w0 [] V) (h' : OwnIn w V.ownBlock.toList V') : OwnIn w0 [] V' := fun g hg => (h' g hg).elim (h g) fun h => .inr (Nat.le_trans hs h)
section
variable {w0 : World} {L : List Ft}
theorem made_chg {w w' : World} {i base g : Nat} {a a' : Ms} {V I V' I' : Value} {G : List Nat} (H : Hp w0 L w) (hi : nth L i = some (madeF base g a V I)) (hg : w0.heap.size ≤ g) (hV : OwnIn w0 [] V) (hI : OwnIn w0 [] I) (hM : Made base g a' V' I' w') (hV' : OwnIn w V.ownBlock.toList V') (hI' : OwnIn w I.ownBlock.toList I')
    (ho : Outs G w w') (hG : ∀ b ∈ G, b ∈ (madeF base g a V I).fp) : Hp w0 (putF L i (madeF base g a' V' I')) w' := by
  refine H.chg hi _ (ho.mono fun b hb _ => hG b hb) (madeF_loc _ _ _ _ _) (fun b hb => ?_) (fun b hb => .inr (made_fresh hg hV hI b hb)) hM
  rcases List.mem_cons.1 hb with rfl | hb
  · exact ⟨Blk.lt hM.1, .inl (List.mem_cons_self ..)⟩
  · rcases List.mem_append.1 hb with hb | hb
    · exact ⟨(own_lt hM.2.1 b hb).2, (hV' b hb).imp (fun h => List.mem_cons_of_mem _ (List.mem_append.2 (.inl h))) id⟩
    · exact ⟨(own_lt hM.2.2 b hb).2, (hI' b hb).imp (fun h => List.mem_cons_of_mem _ (List.mem_append.2 (.inr h))) id⟩
theorem call_made {f : Nat} {args : Array Value} {P : Program} {i base g : Nat} {a a' : Ms} {V I v : Value} (hi : nth L i = some (madeF base g a V I)) (hg : w0.heap.size ≤ g) (hV : OwnIn w0 [] V) (hI : OwnIn w0 [] I)
    (hc : ∀ w, Hp w0 L w → Calls P f args w fun e w' => ∃ V' I', e = .returned v ∧ Made base g a' V' I' w' ∧ (OwnIn w V.ownBlock.toList V' ∧ OwnIn w I.ownBlock.toList I') ∧ Outs [g] w w') :
    ∀ w, Hp w0 L w → Calls P f args w fun E w' => ∃ V' I', E = .returned v ∧ (OwnIn w0 [] V' ∧ OwnIn w0 [] I') ∧ Hp w0 (putF L i (madeF base g a' V' I')) w' := fun w H => (hc w H).mono fun E w' ⟨V', I', h1, h2, h3, h4⟩ =>
  ⟨V', I', h1, ⟨own_trans H.os.size hV h3.1, own_trans H.os.size hI h3.2⟩, made_chg H hi hg hV hI h2 h3.1 h3.2 h4 (fun b hb => by rw [List.mem_singleton.1 hb]; exact List.mem_cons_self ..)⟩
end
theorem made_new {w : World} {base g k : Nat} (h : (cell g 33 (msL (ms0 k) (.slice none 0 0) (.slice none 0 0))).φ w) : Made base g (ms0 k) (.slice none 0 0) (.slice none 0 0) w :=
  ⟨h, World.ownsRow_nil _ _ _ _, World.ownsRow_nil _ _ _ _⟩
/-- What taking a part does. -/
theorem take_all (p : Pt) (base gr g : Nat) (r : Rd) (a : Ms) (V I : Value) (w : World) (hr : Blk w gr 157 (rdC r)) (hM : Made base g a V I w) (hne : gr ≠ g) (hb : base ≤ w.heap.size) (hG : Grows r a.votes.length ∧ Grows r a.items.length) :
    Calls Tryz.prog p.takeF #[.pointer (some ⟨gr, 0, none⟩), .pointer (some ⟨g, 0, none⟩)] w fun e w' => ∃ V' I', e = .returned (.tuple #[]) ∧ Blk w' gr 157 (rdC (p.take (a, r)).2) ∧ Made base g (p.take (a, r)).1 V' I' w' ∧ (OwnIn w V.ownBlock.toList V' ∧ OwnIn w I.ownBlock.toList I') ∧ Outs ([gr, g] ++ (V.ownBlock.toList ++ I.ownBlock.toList)) w w' := by
  obtain ⟨hg, hV, hI⟩ := hM
  have d1 := own_blk hV hg (by decide)
  have d2 := own_blk hI hg (by decide)
  have d3 := own_blk hV hr (by decide)
  have d4 := own_blk hI hr (by decide)
  have hrl : r.rest.length ≤ 1000000 := Nat.le_trans hG.1.h1 (by decide)
  obtain ⟨xk, xn, xr, xb, xs, xo, xv, wl, jl, ⟨da, db, dk, ds, dt, du, dz⟩, xc, xt⟩ := a
  dsimp only at hG
  have hkV : ∀ w', Outs [gr, g] w w' → w'.ownsRow base 92 4 V wl.length (wl.flatMap voL) := fun w' ho => own_kept hV ho fun b hb hm => by
    simp only [List.mem_cons, List.not_mem_nil, or_false] at hm
    rcases hm with rfl | rfl
    · exact d3 hb
    · exact d1 hb
  have hkI : ∀ w', Outs [gr, g] w w' → w'.ownsRow base 94 2 I jl.length (jl.flatMap imL) := fun w' ho => own_kept hI ho fun b hb hm => by
    simp only [List.mem_cons, List.not_mem_nil, or_false] at hm
    rcases hm with rfl | rfl
    · exact d4 hb
    · exact d2 hb
  have same : ∀ {e : Ending} {w' : World} {q : Ms × Rd}, q.1.votes = wl → q.1.items = jl → e = .returned (.tuple #[]) ∧ Blk w' gr 157 (rdC q.2) ∧ Blk w' g 33 (msL q.1 V I).toArray ∧ Outs [gr, g] w w' →
      ∃ V' I', e = .returned (.tuple #[]) ∧ Blk w' gr 157 (rdC q.2) ∧ Made base g q.1 V' I' w' ∧ (OwnIn w V.ownBlock.toList V' ∧ OwnIn w I.ownBlock.toList I') ∧ Outs ([gr, g] ++ (V.ownBlock.toList ++ I.ownBlock.toList)) w w' := by
    intro e w' q e1 e2 ⟨r1, r2, r3, r4⟩
    exact ⟨V, I, r1, r2, ⟨r3, by rw [e1]; exact hkV w' r4, by rw [e2]; exact hkI w' r4⟩, ⟨OwnIn.refl w V, OwnIn.refl w I⟩, r4.mono fun b hb _ => List.mem_append.2 (.inl hb)⟩
  cases p with
  | cmd => exact (take_cmd _ _ _ _ _ _ _ _ _ _ _ _ _ _ _ _ _ _ _ _ _ _ _ w hr hg hne hrl).mono fun _ _ h => same rfl rfl h
  | name => exact (take_name _ _ _ _ _ _ _ _ _ _ _ _ _ _ _ _ _ _ _ _ _ _ _ w hr hg hne hrl).mono fun _ _ h => same rfl rfl h
  | reply => exact (take_reply _ _ _ _ _ _ _ _ _ _ _ _ _ _ _ _ _ _ _ _ _ _ _ w hr hg hne hrl).mono fun _ _ h => same rfl rfl h
  | node => exact (take_node _ _ _ _ _ _ _ _ _ _ _ _ _ _ _ _ _ _ _ _ _ _ _ w hr hg hne hrl).mono fun _ _ h => same rfl rfl h
  | turn => exact (take_turn _ _ _ _ _ _ _ _ _ _ _ _ _ _ _ _ _ _ _ _ _ _ _ w hr hg hne hrl).mono fun _ _ h => same rfl rfl h
  | floor => exact (take_floor _ _ _ _ _ _ _ _ _ _ _ _ _ _ _ _ _ _ _ _ _ _ _ w hr hg hne hrl).mono fun _ _ h => same rfl rfl h
  | slot l => exact (take_slot _ _ _ _ _ _ _ _ _ _ _ _ _ _ _ _ _ _ _ _ _ _ _ l w hr hg hne hrl).mono fun _ _ h => same rfl rfl h
  | value => exact (take_value _ _ _ _ _ _ _ _ _ _ _ _ _ _ _ _ _ _ _ _ _ _ _ w hr hg hne hrl).mono fun _ _ h => same rfl rfl h
  | votes =>
    refine (take_votes base _ _ _ _ _ _ _ _ _ _ _ _ _ _ _ _ _ _ _ _ _ _ _ w hr hg hne hG.1 hb hV d3 d1).mono fun e w' h => ?_
    obtain ⟨V', r1, r2, r3, r4, r5, r6⟩ := h
    refine ⟨V', I, r1, r2, ⟨r3, r4, own_kept hI r6 fun b hbm hm => ?_⟩, ⟨r5, OwnIn.refl w I⟩, r6.mono fun b hb _ => ?_⟩
    · simp only [List.mem_append, List.mem_cons, List.not_mem_nil, or_false] at hm
      rcases hm with (rfl | rfl) | hm
      · exact d4 hbm
      · exact d2 hbm
      · exact own_own hV hI (by decide) b hm hbm
    · rcases List.mem_append.1 hb with h | h
      · exact List.mem_append.2 (.inl h)
      · exact List.mem_append.2 (.inr (List.mem_append.2 (.inl h)))
  | items =>
    refine (take_items base _ _ _ _ _ _ _ _ _ _ _ _ _ _ _ _ _ _ _ _ _ _ _ w hr hg hne hG.2 hb hI d4 d2).mono fun e w' h => ?_
    obtain ⟨I', r1, r2, r3, r4, r5, r6⟩ := h
    refine ⟨V, I', r1, r2, ⟨r3, own_kept hV r6 fun b hbm hm => ?_, r4⟩, ⟨OwnIn.refl w V, r5⟩, r6.mono fun b hb _ => ?_⟩
    · simp only [List.mem_append, List.mem_cons, List.not_mem_nil, or_false] at hm
      rcases hm with (rfl | rfl) | hm
      · exact d3 hbm
      · exact d1 hbm
      · exact own_own hV hI (by decide) b hbm hm
    · rcases List.mem_append.1 hb with h | h
      · exact List.mem_append.2 (.inl h)
      · exact List.mem_append.2 (.inr (List.mem_append.2 (.inr h)))
end Go.Proofs.YteiaiilfekojfaaGreat.Msg
end
section
set_option linter.unusedVariables false
set_option linter.unusedSimpArgs false
namespace Go.Proofs.YteiaiilfekojfaaGreat.Msg
open Go.RowKit Sx Wire DrawInv
set_option maxRecDepth 100000 in
set_option maxHeartbeats 4000000 in
theorem mk_cmd   (w : World) : Calls Tryz.prog 78 #[] w fun e w' => e = .returned (.agg (ptL .cmd 0).toArray) ∧ Below w.heap.size w w' := by
  refine sx_enter (n := 2) _ Tryz.func78 rfl rfl rfl (Hp.start w) ?_
  refine SxC.seq (SxC.region ?_)
  refine SxL.new (cs := [.nilFunc, .nilFunc, .nilFunc, .nilFunc]) trivial rfl rfl (fun ρ w E H => ex_alloc rfl zr_palaver_msg_part rfl) fun g1 hg1 => ?_
  refine SxL.nil (SxN.then_ (SxC.seq (SxC.region ?_)))
  refine SxL.val trivial rfl rfl (fun ρ w E H => ex_build (cs := [.func (.func 110) #[] #[], .func (.func 112) #[] #[], .func (.func 114) #[] #[], .func (.func 115) #[] #[]]) E rfl rfl (by kernel_rfl)) ?_
  refine SxL.store (i := 0) trivial rfl rfl rfl rfl rfl sz_palaver_msg_part rfl rfl rfl ?_
  refine SxL.nil (SxN.then_ (SxC.ret ?_))
  refine SxX.done _ (fun a w K H => resN K [.agg #[.func (.func 110) #[] #[], .func (.func 112) #[] #[], .func (.func 114) #[] #[], .func (.func 115) #[] #[]]] rfl ⟨⟨_, rfl, blk_loadVar (H.get (i := 0) rfl) Tryz.underlying101 rfl sz_palaver_msg_part⟩, trivial⟩) (fun w H => ?_)
  exact ⟨rfl, H.toBelow ⟨(fun g hg => by rw [List.mem_singleton.1 hg]; exact hg1), trivial⟩⟩

set_option maxRecDepth 100000 in
set_option maxHeartbeats 4000000 in
theorem mk_name   (w : World) : Calls Tryz.prog 79 #[] w fun e w' => e = .returned (.agg (ptL .name 0).toArray) ∧ Below w.heap.size w w' := by
  refine sx_enter (n := 2) _ Tryz.func79 rfl rfl rfl (Hp.start w) ?_
  refine SxC.seq (SxC.region ?_)
  refine SxL.new (cs := [.nilFunc, .nilFunc, .nilFunc, .nilFunc]) trivial rfl rfl (fun ρ w E H => ex_alloc rfl zr_palaver_msg_part rfl) fun g1 hg1 => ?_
  refine SxL.nil (SxN.then_ (SxC.seq (SxC.region ?_)))
  refine SxL.val trivial rfl rfl (fun ρ w E H => ex_build (cs := [.func (.func 117) #[] #[], .func (.func 118) #[] #[], .func (.func 119) #[] #[], .func (.func 120) #[] #[]]) E rfl rfl (by kernel_rfl)) ?_
  refine SxL.store (i := 0) trivial rfl rfl rfl rfl rfl sz_palaver_msg_part rfl rfl rfl ?_
  refine SxL.nil (SxN.then_ (SxC.ret ?_))
  refine SxX.done _ (fun a w K H => resN K [.agg #[.func (.func 117) #[] #[], .func (.func 118) #[] #[], .func (.func 119) #[] #[], .func (.func 120) #[] #[]]] rfl ⟨⟨_, rfl, blk_loadVar (H.get (i := 0) rfl) Tryz.underlying101 rfl sz_palaver_msg_part⟩, trivial⟩) (fun w H => ?_)
  exact ⟨rfl, H.toBelow ⟨(fun g hg => by rw [List.mem_singleton.1 hg]; exact hg1), trivial⟩⟩

set_option maxRecDepth 100000 in
set_option maxHeartbeats 4000000 in
theorem mk_reply   (w : World) : Calls Tryz.prog 80 #[] w fun e w' => e = .returned (.agg (ptL .reply 0).toArray) ∧ Below w.heap.size w w' := by
  refine sx_enter (n := 2) _ Tryz.func80 rfl rfl rfl (Hp.start w) ?_
  refine SxC.seq (SxC.region ?_)
  refine SxL.new (cs := [.nilFunc, .nilFunc, .nilFunc, .nilFunc]) trivial rfl rfl (fun ρ w E H => ex_alloc rfl zr_palaver_msg_part rfl) fun g1 hg1 => ?_
  refine SxL.nil (SxN.then_ (SxC.seq (SxC.region ?_)))
  refine SxL.val trivial rfl rfl (fun ρ w E H => ex_build (cs := [.func (.func 121) #[] #[], .func (.func 123) #[] #[], .func (.func 125) #[] #[], .func (.func 126) #[] #[]]) E rfl rfl (by kernel_rfl)) ?_
  refine SxL.store (i := 0) trivial rfl rfl rfl rfl rfl sz_palaver_msg_part rfl rfl rfl ?_
  refine SxL.nil (SxN.then_ (SxC.ret ?_))
  refine SxX.done _ (fun a w K H => resN K [.agg #[.func (.func 121) #[] #[], .func (.func 123) #[] #[], .func (.func 125) #[] #[], .func (.func 126) #[] #[]]] rfl ⟨⟨_, rfl, blk_loadVar (H.get (i := 0) rfl) Tryz.underlying101 rfl sz_palaver_msg_part⟩, trivial⟩) (fun w H => ?_)
  exact ⟨rfl, H.toBelow ⟨(fun g hg => by rw [List.mem_singleton.1 hg]; exact hg1), trivial⟩⟩

set_option maxRecDepth 100000 in
set_option maxHeartbeats 4000000 in
theorem mk_node   (w : World) : Calls Tryz.prog 81 #[] w fun e w' => e = .returned (.agg (ptL .node 0).toArray) ∧ Below w.heap.size w w' := by
  refine sx_enter (n := 2) _ Tryz.func81 rfl rfl rfl (Hp.start w) ?_
  refine SxC.seq (SxC.region ?_)
  refine SxL.new (cs := [.nilFunc, .nilFunc, .nilFunc, .nilFunc]) trivial rfl rfl (fun ρ w E H => ex_alloc rfl zr_palaver_msg_part rfl) fun g1 hg1 => ?_
  refine SxL.nil (SxN.then_ (SxC.seq (SxC.region ?_)))
  refine SxL.val trivial rfl rfl (fun ρ w E H => ex_build (cs := [.func (.func 127) #[] #[], .func (.func 128) #[] #[], .func (.func 129) #[] #[], .func (.func 130) #[] #[]]) E rfl rfl (by kernel_rfl)) ?_
  refine SxL.store (i := 0) trivial rfl rfl rfl rfl rfl sz_palaver_msg_part rfl rfl rfl ?_
  refine SxL.nil (SxN.then_ (SxC.ret ?_))
  refine SxX.done _ (fun a w K H => resN K [.agg #[.func (.func 127) #[] #[], .func (.func 128) #[] #[], .func (.func 129) #[] #[], .func (.func 130) #[] #[]]] rfl ⟨⟨_, rfl, blk_loadVar (H.get (i := 0) rfl) Tryz.underlying101 rfl sz_palaver_msg_part⟩, trivial⟩) (fun w H => ?_)
  exact ⟨rfl, H.toBelow ⟨(fun g hg => by rw [List.mem_singleton.1 hg]; exact hg1), trivial⟩⟩

set_option maxRecDepth 100000 in
set_option maxHeartbeats 4000000 in
theorem mk_turn   (w : World) : Calls Tryz.prog 82 #[] w fun e w' => e = .returned (.agg (ptL .turn 0).toArray) ∧ Below w.heap.size w w' := by
  refine sx_enter (n := 2) _ Tryz.func82 rfl rfl rfl (Hp.start w) ?_
  refine SxC.seq (SxC.region ?_)
  refine SxL.new (cs := [.nilFunc, .nilFunc, .nilFunc, .nilFunc]) trivial rfl rfl (fun ρ w E H => ex_alloc rfl zr_palaver_msg_part rfl) fun g1 hg1 => ?_
  refine SxL.nil (SxN.then_ (SxC.seq (SxC.region ?_)))
  refine SxL.val trivial rfl rfl (fun ρ w E H => ex_build (cs := [.func (.func 131) #[] #[], .func (.func 133) #[] #[], .func (.func 135) #[] #[], .func (.func 136) #[] #[]]) E rfl rfl (by kernel_rfl)) ?_
  refine SxL.store (i := 0) trivial rfl rfl rfl rfl rfl sz_palaver_msg_part rfl rfl rfl ?_
  refine SxL.nil (SxN.then_ (SxC.ret ?_))
  refine SxX.done _ (fun a w K H => resN K [.agg #[.func (.func 131) #[] #[], .func (.func 133) #[] #[], .func (.func 135) #[] #[], .func (.func 136) #[] #[]]] rfl ⟨⟨_, rfl, blk_loadVar (H.get (i := 0) rfl) Tryz.underlying101 rfl sz_palaver_msg_part⟩, trivial⟩) (fun w H => ?_)
  exact ⟨rfl, H.toBelow ⟨(fun g hg => by rw [List.mem_singleton.1 hg]; exact hg1), trivial⟩⟩

set_option maxRecDepth 100000 in
set_option maxHeartbeats 4000000 in
theorem mk_floor   (w : World) : Calls Tryz.prog 84 #[] w fun e w' => e = .returned (.agg (ptL .floor 0).toArray) ∧ Below w.heap.size w w' := by
  refine sx_enter (n := 2) _ Tryz.func84 rfl rfl rfl (Hp.start w) ?_
  refine SxC.seq (SxC.region ?_)
  refine SxL.new (cs := [.nilFunc, .nilFunc, .nilFunc, .nilFunc]) trivial rfl rfl (fun ρ w E H => ex_alloc rfl zr_palaver_msg_part rfl) fun g1 hg1 => ?_
  refine SxL.nil (SxN.then_ (SxC.seq (SxC.region ?_)))
  refine SxL.val trivial rfl rfl (fun ρ w E H => ex_build (cs := [.func (.func 143) #[] #[], .func (.func 144) #[] #[], .func (.func 145) #[] #[], .func (.func 146) #[] #[]]) E rfl rfl (by kernel_rfl)) ?_
  refine SxL.store (i := 0) trivial rfl rfl rfl rfl rfl sz_palaver_msg_part rfl rfl rfl ?_
  refine SxL.nil (SxN.then_ (SxC.ret ?_))
  refine SxX.done _ (fun a w K H => resN K [.agg #[.func (.func 143) #[] #[], .func (.func 144) #[] #[], .func (.func 145) #[] #[], .func (.func 146) #[] #[]]] rfl ⟨⟨_, rfl, blk_loadVar (H.get (i := 0) rfl) Tryz.underlying101 rfl sz_palaver_msg_part⟩, trivial⟩) (fun w H => ?_)
  exact ⟨rfl, H.toBelow ⟨(fun g hg => by rw [List.mem_singleton.1 hg]; exact hg1), trivial⟩⟩

set_option maxRecDepth 100000 in
set_option maxHeartbeats 4000000 in
theorem mk_slot (least : Nat)  (w : World) : Calls Tryz.prog 83 #[.int .u64 (least : Int)] w fun e w' => ∃ g, e = .returned (.agg (ptL (.slot least) g).toArray) ∧ w.heap.size ≤ g ∧ g < w'.heap.size ∧ Blk w' g 22 #[.int .u64 (least : Int)] ∧ Below w.heap.size w w' := by
  refine sx_enter (n := 5) _ Tryz.func83 rfl rfl rfl (Hp.start w) ?_
  refine SxC.seq (SxC.region ?_)
  refine SxL.new (cs := [.int .u64 (least : Int)]) trivial rfl rfl (fun ρ w E H => ex_box E rfl rfl rfl) fun g1 hg1 => ?_
  refine SxL.new (cs := [.nilFunc, .nilFunc, .nilFunc, .nilFunc]) trivial rfl rfl (fun ρ w E H => ex_alloc rfl zr_palaver_msg_part rfl) fun g2 hg2 => ?_
  refine SxL.nil (SxN.then_ (SxC.seq (SxC.region ?_)))
  refine SxL.val (v := .func (.func 142) #[] #[.pointer (some ⟨g1, 0, none⟩)]) trivial rfl rfl (fun ρ w E H => ex_makeFunc E rfl rfl rfl) ?_
  refine SxL.val trivial rfl rfl (fun ρ w E H => ex_build (cs := [.func (.func 138) #[] #[], .func (.func 139) #[] #[], .func (.func 141) #[] #[], .func (.func 142) #[] #[.pointer (some ⟨g1, 0, none⟩)]]) E rfl rfl (by kernel_rfl)) ?_
  refine SxL.store (i := 0) trivial rfl rfl rfl rfl rfl sz_palaver_msg_part rfl rfl rfl ?_
  refine SxL.nil (SxN.then_ (SxC.ret ?_))
  refine SxX.done _ (fun a w K H => resN K [.agg #[.func (.func 138) #[] #[], .func (.func 139) #[] #[], .func (.func 141) #[] #[], .func (.func 142) #[] #[.pointer (some ⟨g1, 0, none⟩)]]] rfl ⟨⟨_, rfl, blk_loadVar (H.get (i := 0) rfl) Tryz.underlying101 rfl sz_palaver_msg_part⟩, trivial⟩) (fun w H => ?_)
  have hb : Blk w g1 22 _ := H.get (i := 1) rfl
  exact ⟨g1, rfl, hg1, Blk.lt hb, hb, H.toBelow ⟨(fun g hg => by rw [List.mem_singleton.1 hg]; exact hg2), (fun g hg => by rw [List.mem_singleton.1 hg]; exact hg1), trivial⟩⟩

set_option maxRecDepth 100000 in
set_option maxHeartbeats 4000000 in
theorem mk_value   (w : World) : Calls Tryz.prog 86 #[] w fun e w' => e = .returned (.agg (ptL .value 0).toArray) ∧ Below w.heap.size w w' := by
  refine sx_enter (n := 2) _ Tryz.func86 rfl rfl rfl (Hp.start w) ?_
  refine SxC.seq (SxC.region ?_)
  refine SxL.new (cs := [.nilFunc, .nilFunc, .nilFunc, .nilFunc]) trivial rfl rfl (fun ρ w E H => ex_alloc rfl zr_palaver_msg_part rfl) fun g1 hg1 => ?_
  refine SxL.nil (SxN.then_ (SxC.seq (SxC.region ?_)))
  refine SxL.val trivial rfl rfl (fun ρ w E H => ex_build (cs := [.func (.func 152) #[] #[], .func (.func 153) #[] #[], .func (.func 154) #[] #[], .func (.func 155) #[] #[]]) E rfl rfl (by kernel_rfl)) ?_
  refine SxL.store (i := 0) trivial rfl rfl rfl rfl rfl sz_palaver_msg_part rfl rfl rfl ?_
  refine SxL.nil (SxN.then_ (SxC.ret ?_))
  refine SxX.done _ (fun a w K H => resN K [.agg #[.func (.func 152) #[] #[], .func (.func 153) #[] #[], .func (.func 154) #[] #[], .func (.func 155) #[] #[]]] rfl ⟨⟨_, rfl, blk_loadVar (H.get (i := 0) rfl) Tryz.underlying101 rfl sz_palaver_msg_part⟩, trivial⟩) (fun w H => ?_)
  exact ⟨rfl, H.toBelow ⟨(fun g hg => by rw [List.mem_singleton.1 hg]; exact hg1), trivial⟩⟩

set_option maxRecDepth 100000 in
set_option maxHeartbeats 4000000 in
theorem mk_votes   (w : World) : Calls Tryz.prog 85 #[] w fun e w' => e = .returned (.agg (ptL .votes 0).toArray) ∧ Below w.heap.size w w' := by
  refine sx_enter (n := 2) _ Tryz.func85 rfl rfl rfl (Hp.start w) ?_
  refine SxC.seq (SxC.region ?_)
  refine SxL.new (cs := [.nilFunc, .nilFunc, .nilFunc, .nilFunc]) trivial rfl rfl (fun ρ w E H => ex_alloc rfl zr_palaver_msg_part rfl) fun g1 hg1 => ?_
  refine SxL.nil (SxN.then_ (SxC.seq (SxC.region ?_)))
  refine SxL.val trivial rfl rfl (fun ρ w E H => ex_build (cs := [.func (.func 147) #[] #[], .func (.func 148) #[] #[], .func (.func 149) #[] #[], .func (.func 151) #[] #[]]) E rfl rfl (by kernel_rfl)) ?_
  refine SxL.store (i := 0) trivial rfl rfl rfl rfl rfl sz_palaver_msg_part rfl rfl rfl ?_
  refine SxL.nil (SxN.then_ (SxC.ret ?_))
  refine SxX.done _ (fun a w K H => resN K [.agg #[.func (.func 147) #[] #[], .func (.func 148) #[] #[], .func (.func 149) #[] #[], .func (.func 151) #[] #[]]] rfl ⟨⟨_, rfl, blk_loadVar (H.get (i := 0) rfl) Tryz.underlying101 rfl sz_palaver_msg_part⟩, trivial⟩) (fun w H => ?_)
  exact ⟨rfl, H.toBelow ⟨(fun g hg => by rw [List.mem_singleton.1 hg]; exact hg1), trivial⟩⟩

set_option maxRecDepth 100000 in
set_option maxHeartbeats 4000000 in
theorem mk_items   (w : World) : Calls Tryz.prog 87 #[] w fun e w' => e = .returned (.agg (ptL .items 0).toArray) ∧ Below w.heap.size w w' := by
  refine sx_enter (n := 2) _ Tryz.func87 rfl rfl rfl (Hp.start w) ?_
  refine SxC.seq (SxC.region ?_)
  refine SxL.new (cs := [.nilFunc, .nilFunc, .nilFunc, .nilFunc]) trivial rfl rfl (fun ρ w E H => ex_alloc rfl zr_palaver_msg_part rfl) fun g1 hg1 => ?_
  refine SxL.nil (SxN.then_ (SxC.seq (SxC.region ?_)))
  refine SxL.val trivial rfl rfl (fun ρ w E H => ex_build (cs := [.func (.func 156) #[] #[], .func (.func 157) #[] #[], .func (.func 158) #[] #[], .func (.func 160) #[] #[]]) E rfl rfl (by kernel_rfl)) ?_
  refine SxL.store (i := 0) trivial rfl rfl rfl rfl rfl sz_palaver_msg_part rfl rfl rfl ?_
  refine SxL.nil (SxN.then_ (SxC.ret ?_))
  refine SxX.done _ (fun a w K H => resN K [.agg #[.func (.func 156) #[] #[], .func (.func 157) #[] #[], .func (.func 158) #[] #[], .func (.func 160) #[] #[]]] rfl ⟨⟨_, rfl, blk_loadVar (H.get (i := 0) rfl) Tryz.underlying101 rfl sz_palaver_msg_part⟩, trivial⟩) (fun w H => ?_)
  exact ⟨rfl, H.toBelow ⟨(fun g hg => by rw [List.mem_singleton.1 hg]; exact hg1), trivial⟩⟩

set_option maxRecDepth 100000 in
set_option maxHeartbeats 4000000 in
theorem row_any (v : Value)  (w : World) : Calls Tryz.prog 77 #[v] w fun e w' => e = .returned v ∧ Below w.heap.size w w' := by
  refine sx_enter (n := 4) _ Tryz.func77 rfl rfl rfl (Hp.start w) ?_
  refine SxC.seq (SxC.region ?_)
  refine SxL.val trivial rfl rfl (fun ρ w E H => ex_assign E rfl rfl) ?_
  refine SxL.nil (SxN.then_ (SxC.seq (SxC.region ?_)))
  refine SxL.val trivial rfl rfl (fun ρ w E H => ex_move E rfl rfl) ?_
  refine SxL.val trivial rfl rfl (fun ρ w E H => ex_assign E rfl rfl) ?_
  refine SxL.nil (SxN.then_ (SxC.ret ?_))
  refine SxX.done (v) (fun a w K H => res1 K rfl rfl) (fun w H => ?_)
  exact ⟨rfl, H.toBelow trivial⟩

set_option maxRecDepth 100000 in
set_option maxHeartbeats 4000000 in
theorem parts_any (k : Nat)  (w : World) : Calls Tryz.prog 43 #[.int .u8 (k : Int)] w fun e w' => ∃ A c gb q, e = .returned (.slice A (List.length q) c) ∧ q.map (·.1) = partsOf k ∧ (q ≠ [] → A = some ⟨gb, 0, none⟩) ∧ (∀ g ∈ (partsF gb q).fp, w.heap.size ≤ g ∧ g < w'.heap.size) ∧ (partsF gb q).φ w' ∧ Below w.heap.size w w' := by
  refine sx_enter (n := 77) _ Tryz.func43 rfl rfl rfl (Hp.start w) ?_
  refine SxC.seq (SxC.region ?_)
  refine SxL.val trivial rfl rfl (fun ρ w E H => ex_assign E rfl rfl) ?_
  refine SxL.nil (SxN.then_ (SxC.seq (SxC.seq (SxC.region ?_))))
  refine SxL.val trivial rfl rfl (fun ρ w E H => ex_move E rfl rfl) ?_
  refine SxL.nil (SxN.then_ (SxC.block (SxC.seq (SxC.region ?_))))
  refine SxL.valB trivial rfl rfl (fun ρ w E H => ex_cmp E rfl rfl rfl rfl rfl) fun c5 hc5 => ?_
  refine SxL.val trivial rfl rfl (fun ρ w E H => ex_assign E rfl rfl) ?_
  refine SxL.nil (SxN.then_ ?_)
  cases c5
  · refine SxC.condF rfl (SxC.seq (SxC.region ?_))
    refine SxL.valB trivial rfl rfl (fun ρ w E H => ex_cmp E rfl rfl rfl rfl rfl) fun c10 hc10 => ?_
    refine SxL.val trivial rfl rfl (fun ρ w E H => ex_assign E rfl rfl) ?_
    refine SxL.nil (SxN.then_ ?_)
    cases c10
    · refine SxC.condF rfl (SxC.seq (SxC.region ?_))
      refine SxL.valB trivial rfl rfl (fun ρ w E H => ex_cmp E rfl rfl rfl rfl rfl) fun c16 hc16 => ?_
      refine SxL.val trivial rfl rfl (fun ρ w E H => ex_assign E rfl rfl) ?_
      refine SxL.nil (SxN.then_ ?_)
      cases c16
      · refine SxC.condF rfl (SxC.seq (SxC.seq (SxC.region ?_)))
        refine SxL.valB trivial rfl rfl (fun ρ w E H => ex_cmp E rfl rfl rfl rfl rfl) fun c22 hc22 => ?_
        refine SxL.val trivial rfl rfl (fun ρ w E H => ex_assign E rfl rfl) ?_
        refine SxL.nil (SxN.then_ ?_)
        cases c22
        · refine SxC.condF rfl (SxC.region ?_)
          refine SxL.valB trivial rfl rfl (fun ρ w E H => ex_cmp E rfl rfl rfl rfl rfl) fun c23 hc23 => ?_
          refine SxL.val trivial rfl rfl (fun ρ w E H => ex_assign E rfl rfl) ?_
          refine SxL.nil (SxN.then_ ?_)
          cases c23
          · refine SxC.condF rfl (SxC.seq (SxC.region ?_))
            refine SxL.valB trivial rfl rfl (fun ρ w E H => ex_cmp E rfl rfl rfl rfl rfl) fun c29 hc29 => ?_
            refine SxL.val trivial rfl rfl (fun ρ w E H => ex_assign E rfl rfl) ?_
            refine SxL.nil (SxN.then_ ?_)
            cases c29
            · refine SxC.condF rfl (SxC.seq (SxC.region ?_))
              refine SxL.valB trivial rfl rfl (fun ρ w E H => ex_cmp E rfl rfl rfl rfl rfl) fun c37 hc37 => ?_
              refine SxL.val trivial rfl rfl (fun ρ w E H => ex_assign E rfl rfl) ?_
              refine SxL.nil (SxN.then_ ?_)
              cases c37
              · refine SxC.condF rfl (SxC.seq (SxC.region ?_))
                refine SxL.valB trivial rfl rfl (fun ρ w E H => ex_cmp E rfl rfl rfl rfl rfl) fun c42 hc42 => ?_
                refine SxL.val trivial rfl rfl (fun ρ w E H => ex_assign E rfl rfl) ?_
                refine SxL.nil (SxN.then_ ?_)
                cases c42
                · refine SxC.condF rfl (SxC.seq (SxC.region ?_))
                  refine SxL.valB trivial rfl rfl (fun ρ w E H => ex_cmp E rfl rfl rfl rfl rfl) fun c49 hc49 => ?_
                  refine SxL.val trivial rfl rfl (fun ρ w E H => ex_assign E rfl rfl) ?_
                  refine SxL.nil (SxN.then_ ?_)
                  cases c49
                  · refine SxC.condF rfl (SxC.seq (SxC.region ?_))
                    refine SxL.valB trivial rfl rfl (fun ρ w E H => ex_cmp E rfl rfl rfl rfl rfl) fun c54 hc54 => ?_
                    refine SxL.val trivial rfl rfl (fun ρ w E H => ex_assign E rfl rfl) ?_
                    refine SxL.nil (SxN.then_ ?_)
                    cases c54
                    · refine SxC.condF rfl (SxC.seq (SxC.region ?_))
                      refine SxL.valB trivial rfl rfl (fun ρ w E H => ex_cmp E rfl rfl rfl rfl rfl) fun c59 hc59 => ?_
                      refine SxL.val trivial rfl rfl (fun ρ w E H => ex_assign E rfl rfl) ?_
                      refine SxL.nil (SxN.then_ ?_)
                      cases c59
                      · refine SxC.condF rfl (SxC.seq (SxC.region ?_))
                        refine SxL.valB trivial rfl rfl (fun ρ w E H => ex_cmp E rfl rfl rfl rfl rfl) fun c65 hc65 => ?_
                        refine SxL.val trivial rfl rfl (fun ρ w E H => ex_assign E rfl rfl) ?_
                        refine SxL.nil (SxN.then_ ?_)
                        cases c65
                        · refine SxC.condF rfl (SxC.seq (SxC.region ?_))
                          refine SxL.valB trivial rfl rfl (fun ρ w E H => ex_cmp E rfl rfl rfl rfl rfl) fun c71 hc71 => ?_
                          refine SxL.val trivial rfl rfl (fun ρ w E H => ex_assign E rfl rfl) ?_
                          refine SxL.nil (SxN.then_ ?_)
                          cases c71
                          · refine SxC.condF rfl (SxC.skip (SxN.block (SxN.then_ (SxC.seq (SxC.region ?_)))))
                            refine SxL.val trivial rfl rfl (fun ρ w E H => ex_assign E rfl rfl) ?_
                            refine SxL.nil (SxN.then_ (SxC.ret ?_))
                            refine SxX.done (.slice none 0 0) (fun a w K H => res1 K rfl rfl) (fun w H => ?_)
                            refine ⟨none, 0, 0, [], rfl, ?_, fun h => absurd rfl h, by simp [partsF, capsOf], ⟨fun h => absurd rfl h, by simp⟩, H.toBelow trivial⟩
                            have n0 := hc5
                            have n1 := hc10
                            have n2 := hc16
                            have n3 := hc22
                            have n4 := hc23
                            have n5 := hc29
                            have n6 := hc37
                            have n7 := hc42
                            have n8 := hc49
                            have n9 := hc54
                            have n10 := hc59
                            have n11 := hc65
                            have n12 := hc71
                            simp [cmpB] at n0 n1 n2 n3 n4 n5 n6 n7 n8 n9 n10 n11 n12
                            show [] = partsOf k
                            unfold partsOf
                            repeat rw [if_neg (by omega)]
                          · refine SxC.condT rfl (SxC.seq (SxC.region ?_))
                            refine SxL.callB (v := .agg #[.func (.func 143) #[] #[], .func (.func 144) #[] #[], .func (.func 145) #[] #[], .func (.func 146) #[] #[]]) trivial rfl rfl (fun ρ w E => ex_call E en_palaver_msg_floor rfl rfl) (fun w H => mk_floor w) ?_
                            refine SxL.call (σ := Nat) (fun s73 => .agg #[.func (.func 138) #[] #[], .func (.func 139) #[] #[], .func (.func 141) #[] #[], .func (.func 142) #[] #[.pointer (some ⟨s73, 0, none⟩)]]) (fun s73 => True ∧ ∀ b ∈ (cell s73 22 [.int .u64 ((1 : Nat) : Int)]).fp, w.heap.size ≤ b) (fun s73 => _) trivial rfl rfl (fun ρ w E => ex_call E en_palaver_msg_slot rfl rfl) (callNew (fun s73 => .agg #[.func (.func 138) #[] #[], .func (.func 139) #[] #[], .func (.func 141) #[] #[], .func (.func 142) #[] #[.pointer (some ⟨s73, 0, none⟩)]]) (fun _ => True) (fun s73 => cell s73 22 [.int .u64 ((1 : Nat) : Int)]) (fun _ => cell_loc _ _ _) (fun w H => (mk_slot 1 w).mono fun _ _ ⟨g, h1, h2, h3, h4, h5⟩ => ⟨g, h1, trivial, fun b hb => by rw [List.mem_singleton.1 hb]; exact ⟨h2, h3⟩, h4, h5⟩)) fun s73 hs73 => ?_
                            have fs73 : w.heap.size ≤ s73 := hs73.2 _ (List.mem_singleton.2 rfl)
                            refine SxL.callB (v := .agg #[.func (.func 152) #[] #[], .func (.func 153) #[] #[], .func (.func 154) #[] #[], .func (.func 155) #[] #[]]) trivial rfl rfl (fun ρ w E => ex_call E en_palaver_msg_value rfl rfl) (fun w H => mk_value w) ?_
                            refine SxL.newS (cs := [.func (.func 143) #[] #[], .func (.func 144) #[] #[], .func (.func 145) #[] #[], .func (.func 146) #[] #[], .func (.func 138) #[] #[], .func (.func 139) #[] #[], .func (.func 141) #[] #[], .func (.func 142) #[] #[.pointer (some ⟨s73, 0, none⟩)], .func (.func 152) #[] #[], .func (.func 153) #[] #[], .func (.func 154) #[] #[], .func (.func 155) #[] #[]]) trivial rfl rfl (fun ρ w E H => ex_buildSlice E rfl rfl Tryz.underlying95 sz_palaver_msg_part zr_palaver_msg_part rfl rfl (by kernel_rfl)) fun g1 hg1 => ?_
                            refine SxL.callB (v := .slice (some ⟨g1, 0, none⟩) 3 3) trivial rfl rfl (fun ρ w E => ex_call E en_palaver_msg_row rfl rfl) (fun w H => row_any _ w) ?_
                            refine SxL.val trivial rfl rfl (fun ρ w E H => ex_assign E rfl rfl) ?_
                            refine SxL.nil (SxN.then_ (SxC.ret (SxX.blockR (SxX.thenR ?_))))
                            refine SxX.done (.slice (some ⟨g1, 0, none⟩) 3 3) (fun a w K H => res1 K rfl rfl) (fun w H => ?_)
                            have hk := hc71
                            simp [cmpB] at hk
                            refine ⟨_, _, g1, [(.floor, 0), (.slot 1, s73), (.value, 0)], rfl, ?_, fun _ => rfl, ?_, ⟨fun _ => H.get (i := 0) rfl, ?_⟩, H.toBelow ⟨(fun g hg => by rw [List.mem_singleton.1 hg]; exact hg1), (fun g hg => by rw [List.mem_singleton.1 hg]; exact fs73), trivial⟩⟩
                            · obtain rfl : k = 13 := by omega
                              rfl
                            · have l0 := Blk.lt (show Blk _ g1 _ _ from H.get (i := 0) rfl)
                              have ls73 := Blk.lt (show Blk _ s73 _ _ from H.get (i := 1) rfl)
                              intro b hb
                              simp [partsF, capsOf, Pt.caps] at hb
                              omega
                            · intro x hx
                              simp only [List.mem_cons, List.not_mem_nil, or_false] at hx
                              rcases hx with rfl | rfl | rfl
                              · exact trivial
                              · exact H.get (i := 1) rfl
                              · exact trivial
                        · refine SxC.condT rfl (SxC.seq (SxC.region ?_))
                          refine SxL.call (σ := Nat) (fun s66 => .agg #[.func (.func 138) #[] #[], .func (.func 139) #[] #[], .func (.func 141) #[] #[], .func (.func 142) #[] #[.pointer (some ⟨s66, 0, none⟩)]]) (fun s66 => True ∧ ∀ b ∈ (cell s66 22 [.int .u64 ((1 : Nat) : Int)]).fp, w.heap.size ≤ b) (fun s66 => _) trivial rfl rfl (fun ρ w E => ex_call E en_palaver_msg_slot rfl rfl) (callNew (fun s66 => .agg #[.func (.func 138) #[] #[], .func (.func 139) #[] #[], .func (.func 141) #[] #[], .func (.func 142) #[] #[.pointer (some ⟨s66, 0, none⟩)]]) (fun _ => True) (fun s66 => cell s66 22 [.int .u64 ((1 : Nat) : Int)]) (fun _ => cell_loc _ _ _) (fun w H => (mk_slot 1 w).mono fun _ _ ⟨g, h1, h2, h3, h4, h5⟩ => ⟨g, h1, trivial, fun b hb => by rw [List.mem_singleton.1 hb]; exact ⟨h2, h3⟩, h4, h5⟩)) fun s66 hs66 => ?_
                          have fs66 : w.heap.size ≤ s66 := hs66.2 _ (List.mem_singleton.2 rfl)
                          refine SxL.callB (v := .agg #[.func (.func 152) #[] #[], .func (.func 153) #[] #[], .func (.func 154) #[] #[], .func (.func 155) #[] #[]]) trivial rfl rfl (fun ρ w E => ex_call E en_palaver_msg_value rfl rfl) (fun w H => mk_value w) ?_
                          refine SxL.newS (cs := [.func (.func 138) #[] #[], .func (.func 139) #[] #[], .func (.func 141) #[] #[], .func (.func 142) #[] #[.pointer (some ⟨s66, 0, none⟩)], .func (.func 152) #[] #[], .func (.func 153) #[] #[], .func (.func 154) #[] #[], .func (.func 155) #[] #[]]) trivial rfl rfl (fun ρ w E H => ex_buildSlice E rfl rfl Tryz.underlying95 sz_palaver_msg_part zr_palaver_msg_part rfl rfl (by kernel_rfl)) fun g2 hg2 => ?_
                          refine SxL.callB (v := .slice (some ⟨g2, 0, none⟩) 2 2) trivial rfl rfl (fun ρ w E => ex_call E en_palaver_msg_row rfl rfl) (fun w H => row_any _ w) ?_
                          refine SxL.val trivial rfl rfl (fun ρ w E H => ex_assign E rfl rfl) ?_
                          refine SxL.nil (SxN.then_ (SxC.ret (SxX.blockR (SxX.thenR ?_))))
                          refine SxX.done (.slice (some ⟨g2, 0, none⟩) 2 2) (fun a w K H => res1 K rfl rfl) (fun w H => ?_)
                          have hk := hc65
                          simp [cmpB] at hk
                          refine ⟨_, _, g2, [(.slot 1, s66), (.value, 0)], rfl, ?_, fun _ => rfl, ?_, ⟨fun _ => H.get (i := 0) rfl, ?_⟩, H.toBelow ⟨(fun g hg => by rw [List.mem_singleton.1 hg]; exact hg2), (fun g hg => by rw [List.mem_singleton.1 hg]; exact fs66), trivial⟩⟩
                          · obtain rfl : k = 12 := by omega
                            rfl
                          · have l0 := Blk.lt (show Blk _ g2 _ _ from H.get (i := 0) rfl)
                            have ls66 := Blk.lt (show Blk _ s66 _ _ from H.get (i := 1) rfl)
                            intro b hb
                            simp [partsF, capsOf, Pt.caps] at hb
                            omega
                          · intro x hx
                            simp only [List.mem_cons, List.not_mem_nil, or_false] at hx
                            rcases hx with rfl | rfl
                            · exact H.get (i := 1) rfl
                            · exact trivial
                      · refine SxC.condT rfl (SxC.seq (SxC.region ?_))
                        refine SxL.callB (v := .agg #[.func (.func 131) #[] #[], .func (.func 133) #[] #[], .func (.func 135) #[] #[], .func (.func 136) #[] #[]]) trivial rfl rfl (fun ρ w E => ex_call E en_palaver_msg_turn rfl rfl) (fun w H => mk_turn w) ?_
                        refine SxL.call (σ := Nat) (fun s61 => .agg #[.func (.func 138) #[] #[], .func (.func 139) #[] #[], .func (.func 141) #[] #[], .func (.func 142) #[] #[.pointer (some ⟨s61, 0, none⟩)]]) (fun s61 => True ∧ ∀ b ∈ (cell s61 22 [.int .u64 ((0 : Nat) : Int)]).fp, w.heap.size ≤ b) (fun s61 => _) trivial rfl rfl (fun ρ w E => ex_call E en_palaver_msg_slot rfl rfl) (callNew (fun s61 => .agg #[.func (.func 138) #[] #[], .func (.func 139) #[] #[], .func (.func 141) #[] #[], .func (.func 142) #[] #[.pointer (some ⟨s61, 0, none⟩)]]) (fun _ => True) (fun s61 => cell s61 22 [.int .u64 ((0 : Nat) : Int)]) (fun _ => cell_loc _ _ _) (fun w H => (mk_slot 0 w).mono fun _ _ ⟨g, h1, h2, h3, h4, h5⟩ => ⟨g, h1, trivial, fun b hb => by rw [List.mem_singleton.1 hb]; exact ⟨h2, h3⟩, h4, h5⟩)) fun s61 hs61 => ?_
                        have fs61 : w.heap.size ≤ s61 := hs61.2 _ (List.mem_singleton.2 rfl)
                        refine SxL.newS (cs := [.func (.func 131) #[] #[], .func (.func 133) #[] #[], .func (.func 135) #[] #[], .func (.func 136) #[] #[], .func (.func 138) #[] #[], .func (.func 139) #[] #[], .func (.func 141) #[] #[], .func (.func 142) #[] #[.pointer (some ⟨s61, 0, none⟩)]]) trivial rfl rfl (fun ρ w E H => ex_buildSlice E rfl rfl Tryz.underlying95 sz_palaver_msg_part zr_palaver_msg_part rfl rfl (by kernel_rfl)) fun g3 hg3 => ?_
                        refine SxL.callB (v := .slice (some ⟨g3, 0, none⟩) 2 2) trivial rfl rfl (fun ρ w E => ex_call E en_palaver_msg_row rfl rfl) (fun w H => row_any _ w) ?_
                        refine SxL.val trivial rfl rfl (fun ρ w E H => ex_assign E rfl rfl) ?_
                        refine SxL.nil (SxN.then_ (SxC.ret (SxX.blockR (SxX.thenR ?_))))
                        refine SxX.done (.slice (some ⟨g3, 0, none⟩) 2 2) (fun a w K H => res1 K rfl rfl) (fun w H => ?_)
                        have hk := hc59
                        simp [cmpB] at hk
                        refine ⟨_, _, g3, [(.turn, 0), (.slot 0, s61)], rfl, ?_, fun _ => rfl, ?_, ⟨fun _ => H.get (i := 0) rfl, ?_⟩, H.toBelow ⟨(fun g hg => by rw [List.mem_singleton.1 hg]; exact hg3), (fun g hg => by rw [List.mem_singleton.1 hg]; exact fs61), trivial⟩⟩
                        · obtain rfl : k = 11 := by omega
                          rfl
                        · have l0 := Blk.lt (show Blk _ g3 _ _ from H.get (i := 0) rfl)
                          have ls61 := Blk.lt (show Blk _ s61 _ _ from H.get (i := 1) rfl)
                          intro b hb
                          simp [partsF, capsOf, Pt.caps] at hb
                          omega
                        · intro x hx
                          simp only [List.mem_cons, List.not_mem_nil, or_false] at hx
                          rcases hx with rfl | rfl
                          · exact trivial
                          · exact H.get (i := 1) rfl
                    · refine SxC.condT rfl (SxC.seq (SxC.region ?_))
                      refine SxL.call (σ := Nat) (fun s55 => .agg #[.func (.func 138) #[] #[], .func (.func 139) #[] #[], .func (.func 141) #[] #[], .func (.func 142) #[] #[.pointer (some ⟨s55, 0, none⟩)]]) (fun s55 => True ∧ ∀ b ∈ (cell s55 22 [.int .u64 ((0 : Nat) : Int)]).fp, w.heap.size ≤ b) (fun s55 => _) trivial rfl rfl (fun ρ w E => ex_call E en_palaver_msg_slot rfl rfl) (callNew (fun s55 => .agg #[.func (.func 138) #[] #[], .func (.func 139) #[] #[], .func (.func 141) #[] #[], .func (.func 142) #[] #[.pointer (some ⟨s55, 0, none⟩)]]) (fun _ => True) (fun s55 => cell s55 22 [.int .u64 ((0 : Nat) : Int)]) (fun _ => cell_loc _ _ _) (fun w H => (mk_slot 0 w).mono fun _ _ ⟨g, h1, h2, h3, h4, h5⟩ => ⟨g, h1, trivial, fun b hb => by rw [List.mem_singleton.1 hb]; exact ⟨h2, h3⟩, h4, h5⟩)) fun s55 hs55 => ?_
                      have fs55 : w.heap.size ≤ s55 := hs55.2 _ (List.mem_singleton.2 rfl)
                      refine SxL.newS (cs := [.func (.func 138) #[] #[], .func (.func 139) #[] #[], .func (.func 141) #[] #[], .func (.func 142) #[] #[.pointer (some ⟨s55, 0, none⟩)]]) trivial rfl rfl (fun ρ w E H => ex_buildSlice E rfl rfl Tryz.underlying95 sz_palaver_msg_part zr_palaver_msg_part rfl rfl (by kernel_rfl)) fun g4 hg4 => ?_
                      refine SxL.callB (v := .slice (some ⟨g4, 0, none⟩) 1 1) trivial rfl rfl (fun ρ w E => ex_call E en_palaver_msg_row rfl rfl) (fun w H => row_any _ w) ?_
                      refine SxL.val trivial rfl rfl (fun ρ w E H => ex_assign E rfl rfl) ?_
                      refine SxL.nil (SxN.then_ (SxC.ret (SxX.blockR (SxX.thenR ?_))))
                      refine SxX.done (.slice (some ⟨g4, 0, none⟩) 1 1) (fun a w K H => res1 K rfl rfl) (fun w H => ?_)
                      have hk := hc54
                      simp [cmpB] at hk
                      refine ⟨_, _, g4, [(.slot 0, s55)], rfl, ?_, fun _ => rfl, ?_, ⟨fun _ => H.get (i := 0) rfl, ?_⟩, H.toBelow ⟨(fun g hg => by rw [List.mem_singleton.1 hg]; exact hg4), (fun g hg => by rw [List.mem_singleton.1 hg]; exact fs55), trivial⟩⟩
                      · obtain rfl : k = 10 := by omega
                        rfl
                      · have l0 := Blk.lt (show Blk _ g4 _ _ from H.get (i := 0) rfl)
                        have ls55 := Blk.lt (show Blk _ s55 _ _ from H.get (i := 1) rfl)
                        intro b hb
                        simp [partsF, capsOf, Pt.caps] at hb
                        omega
                      · intro x hx
                        simp only [List.mem_cons, List.not_mem_nil, or_false] at hx
                        subst hx
                        exact H.get (i := 1) rfl
                  · refine SxC.condT rfl (SxC.seq (SxC.region ?_))
                    refine SxL.callB (v := .agg #[.func (.func 156) #[] #[], .func (.func 157) #[] #[], .func (.func 158) #[] #[], .func (.func 160) #[] #[]]) trivial rfl rfl (fun ρ w E => ex_call E en_palaver_msg_items rfl rfl) (fun w H => mk_items w) ?_
                    refine SxL.newS (cs := [.func (.func 156) #[] #[], .func (.func 157) #[] #[], .func (.func 158) #[] #[], .func (.func 160) #[] #[]]) trivial rfl rfl (fun ρ w E H => ex_buildSlice E rfl rfl Tryz.underlying95 sz_palaver_msg_part zr_palaver_msg_part rfl rfl (by kernel_rfl)) fun g5 hg5 => ?_
                    refine SxL.callB (v := .slice (some ⟨g5, 0, none⟩) 1 1) trivial rfl rfl (fun ρ w E => ex_call E en_palaver_msg_row rfl rfl) (fun w H => row_any _ w) ?_
                    refine SxL.val trivial rfl rfl (fun ρ w E H => ex_assign E rfl rfl) ?_
                    refine SxL.nil (SxN.then_ (SxC.ret (SxX.blockR (SxX.thenR ?_))))
                    refine SxX.done (.slice (some ⟨g5, 0, none⟩) 1 1) (fun a w K H => res1 K rfl rfl) (fun w H => ?_)
                    have hk := hc49
                    simp [cmpB] at hk
                    refine ⟨_, _, g5, [(.items, 0)], rfl, ?_, fun _ => rfl, ?_, ⟨fun _ => H.get (i := 0) rfl, ?_⟩, H.toBelow ⟨(fun g hg => by rw [List.mem_singleton.1 hg]; exact hg5), trivial⟩⟩
                    · obtain rfl : k = 9 := by omega
                      rfl
                    · have l0 := Blk.lt (show Blk _ g5 _ _ from H.get (i := 0) rfl)
                      intro b hb
                      simp [partsF, capsOf, Pt.caps] at hb
                      omega
                    · intro x hx
                      simp only [List.mem_cons, List.not_mem_nil, or_false] at hx
                      subst hx
                      exact trivial
                · refine SxC.condT rfl (SxC.seq (SxC.region ?_))
                  refine SxL.callB (v := .agg #[.func (.func 131) #[] #[], .func (.func 133) #[] #[], .func (.func 135) #[] #[], .func (.func 136) #[] #[]]) trivial rfl rfl (fun ρ w E => ex_call E en_palaver_msg_turn rfl rfl) (fun w H => mk_turn w) ?_
                  refine SxL.call (σ := Nat) (fun s44 => .agg #[.func (.func 138) #[] #[], .func (.func 139) #[] #[], .func (.func 141) #[] #[], .func (.func 142) #[] #[.pointer (some ⟨s44, 0, none⟩)]]) (fun s44 => True ∧ ∀ b ∈ (cell s44 22 [.int .u64 ((1 : Nat) : Int)]).fp, w.heap.size ≤ b) (fun s44 => _) trivial rfl rfl (fun ρ w E => ex_call E en_palaver_msg_slot rfl rfl) (callNew (fun s44 => .agg #[.func (.func 138) #[] #[], .func (.func 139) #[] #[], .func (.func 141) #[] #[], .func (.func 142) #[] #[.pointer (some ⟨s44, 0, none⟩)]]) (fun _ => True) (fun s44 => cell s44 22 [.int .u64 ((1 : Nat) : Int)]) (fun _ => cell_loc _ _ _) (fun w H => (mk_slot 1 w).mono fun _ _ ⟨g, h1, h2, h3, h4, h5⟩ => ⟨g, h1, trivial, fun b hb => by rw [List.mem_singleton.1 hb]; exact ⟨h2, h3⟩, h4, h5⟩)) fun s44 hs44 => ?_
                  have fs44 : w.heap.size ≤ s44 := hs44.2 _ (List.mem_singleton.2 rfl)
                  refine SxL.callB (v := .agg #[.func (.func 152) #[] #[], .func (.func 153) #[] #[], .func (.func 154) #[] #[], .func (.func 155) #[] #[]]) trivial rfl rfl (fun ρ w E => ex_call E en_palaver_msg_value rfl rfl) (fun w H => mk_value w) ?_
                  refine SxL.newS (cs := [.func (.func 131) #[] #[], .func (.func 133) #[] #[], .func (.func 135) #[] #[], .func (.func 136) #[] #[], .func (.func 138) #[] #[], .func (.func 139) #[] #[], .func (.func 141) #[] #[], .func (.func 142) #[] #[.pointer (some ⟨s44, 0, none⟩)], .func (.func 152) #[] #[], .func (.func 153) #[] #[], .func (.func 154) #[] #[], .func (.func 155) #[] #[]]) trivial rfl rfl (fun ρ w E H => ex_buildSlice E rfl rfl Tryz.underlying95 sz_palaver_msg_part zr_palaver_msg_part rfl rfl (by kernel_rfl)) fun g6 hg6 => ?_
                  refine SxL.callB (v := .slice (some ⟨g6, 0, none⟩) 3 3) trivial rfl rfl (fun ρ w E => ex_call E en_palaver_msg_row rfl rfl) (fun w H => row_any _ w) ?_
                  refine SxL.val trivial rfl rfl (fun ρ w E H => ex_assign E rfl rfl) ?_
                  refine SxL.nil (SxN.then_ (SxC.ret (SxX.blockR (SxX.thenR ?_))))
                  refine SxX.done (.slice (some ⟨g6, 0, none⟩) 3 3) (fun a w K H => res1 K rfl rfl) (fun w H => ?_)
                  have hk := hc42
                  simp [cmpB] at hk
                  refine ⟨_, _, g6, [(.turn, 0), (.slot 1, s44), (.value, 0)], rfl, ?_, fun _ => rfl, ?_, ⟨fun _ => H.get (i := 0) rfl, ?_⟩, H.toBelow ⟨(fun g hg => by rw [List.mem_singleton.1 hg]; exact hg6), (fun g hg => by rw [List.mem_singleton.1 hg]; exact fs44), trivial⟩⟩
                  · obtain rfl : k = 7 := by omega
                    rfl
                  · have l0 := Blk.lt (show Blk _ g6 _ _ from H.get (i := 0) rfl)
                    have ls44 := Blk.lt (show Blk _ s44 _ _ from H.get (i := 1) rfl)
                    intro b hb
                    simp [partsF, capsOf, Pt.caps] at hb
                    omega
                  · intro x hx
                    simp only [List.mem_cons, List.not_mem_nil, or_false] at hx
                    rcases hx with rfl | rfl | rfl
                    · exact trivial
                    · exact H.get (i := 1) rfl
                    · exact trivial
              · refine SxC.condT rfl (SxC.seq (SxC.region ?_))
                refine SxL.callB (v := .agg #[.func (.func 131) #[] #[], .func (.func 133) #[] #[], .func (.func 135) #[] #[], .func (.func 136) #[] #[]]) trivial rfl rfl (fun ρ w E => ex_call E en_palaver_msg_turn rfl rfl) (fun w H => mk_turn w) ?_
                refine SxL.newS (cs := [.func (.func 131) #[] #[], .func (.func 133) #[] #[], .func (.func 135) #[] #[], .func (.func 136) #[] #[]]) trivial rfl rfl (fun ρ w E H => ex_buildSlice E rfl rfl Tryz.underlying95 sz_palaver_msg_part zr_palaver_msg_part rfl rfl (by kernel_rfl)) fun g7 hg7 => ?_
                refine SxL.callB (v := .slice (some ⟨g7, 0, none⟩) 1 1) trivial rfl rfl (fun ρ w E => ex_call E en_palaver_msg_row rfl rfl) (fun w H => row_any _ w) ?_
                refine SxL.val trivial rfl rfl (fun ρ w E H => ex_assign E rfl rfl) ?_
                refine SxL.nil (SxN.then_ (SxC.ret (SxX.blockR (SxX.thenR ?_))))
                refine SxX.done (.slice (some ⟨g7, 0, none⟩) 1 1) (fun a w K H => res1 K rfl rfl) (fun w H => ?_)
                have hk := hc37
                simp [cmpB] at hk
                refine ⟨_, _, g7, [(.turn, 0)], rfl, ?_, fun _ => rfl, ?_, ⟨fun _ => H.get (i := 0) rfl, ?_⟩, H.toBelow ⟨(fun g hg => by rw [List.mem_singleton.1 hg]; exact hg7), trivial⟩⟩
                · obtain rfl : k = 6 := by omega
                  rfl
                · have l0 := Blk.lt (show Blk _ g7 _ _ from H.get (i := 0) rfl)
                  intro b hb
                  simp [partsF, capsOf, Pt.caps] at hb
                  omega
                · intro x hx
                  simp only [List.mem_cons, List.not_mem_nil, or_false] at hx
                  subst hx
                  exact trivial
            · refine SxC.condT rfl (SxC.seq (SxC.region ?_))
              refine SxL.callB (v := .agg #[.func (.func 131) #[] #[], .func (.func 133) #[] #[], .func (.func 135) #[] #[], .func (.func 136) #[] #[]]) trivial rfl rfl (fun ρ w E => ex_call E en_palaver_msg_turn rfl rfl) (fun w H => mk_turn w) ?_
              refine SxL.callB (v := .agg #[.func (.func 143) #[] #[], .func (.func 144) #[] #[], .func (.func 145) #[] #[], .func (.func 146) #[] #[]]) trivial rfl rfl (fun ρ w E => ex_call E en_palaver_msg_floor rfl rfl) (fun w H => mk_floor w) ?_
              refine SxL.call (σ := Nat) (fun s32 => .agg #[.func (.func 138) #[] #[], .func (.func 139) #[] #[], .func (.func 141) #[] #[], .func (.func 142) #[] #[.pointer (some ⟨s32, 0, none⟩)]]) (fun s32 => True ∧ ∀ b ∈ (cell s32 22 [.int .u64 ((0 : Nat) : Int)]).fp, w.heap.size ≤ b) (fun s32 => _) trivial rfl rfl (fun ρ w E => ex_call E en_palaver_msg_slot rfl rfl) (callNew (fun s32 => .agg #[.func (.func 138) #[] #[], .func (.func 139) #[] #[], .func (.func 141) #[] #[], .func (.func 142) #[] #[.pointer (some ⟨s32, 0, none⟩)]]) (fun _ => True) (fun s32 => cell s32 22 [.int .u64 ((0 : Nat) : Int)]) (fun _ => cell_loc _ _ _) (fun w H => (mk_slot 0 w).mono fun _ _ ⟨g, h1, h2, h3, h4, h5⟩ => ⟨g, h1, trivial, fun b hb => by rw [List.mem_singleton.1 hb]; exact ⟨h2, h3⟩, h4, h5⟩)) fun s32 hs32 => ?_
              have fs32 : w.heap.size ≤ s32 := hs32.2 _ (List.mem_singleton.2 rfl)
              refine SxL.callB (v := .agg #[.func (.func 147) #[] #[], .func (.func 148) #[] #[], .func (.func 149) #[] #[], .func (.func 151) #[] #[]]) trivial rfl rfl (fun ρ w E => ex_call E en_palaver_msg_votes rfl rfl) (fun w H => mk_votes w) ?_
              refine SxL.newS (cs := [.func (.func 131) #[] #[], .func (.func 133) #[] #[], .func (.func 135) #[] #[], .func (.func 136) #[] #[], .func (.func 143) #[] #[], .func (.func 144) #[] #[], .func (.func 145) #[] #[], .func (.func 146) #[] #[], .func (.func 138) #[] #[], .func (.func 139) #[] #[], .func (.func 141) #[] #[], .func (.func 142) #[] #[.pointer (some ⟨s32, 0, none⟩)], .func (.func 147) #[] #[], .func (.func 148) #[] #[], .func (.func 149) #[] #[], .func (.func 151) #[] #[]]) trivial rfl rfl (fun ρ w E H => ex_buildSlice E rfl rfl Tryz.underlying95 sz_palaver_msg_part zr_palaver_msg_part rfl rfl (by kernel_rfl)) fun g8 hg8 => ?_
              refine SxL.callB (v := .slice (some ⟨g8, 0, none⟩) 4 4) trivial rfl rfl (fun ρ w E => ex_call E en_palaver_msg_row rfl rfl) (fun w H => row_any _ w) ?_
              refine SxL.val trivial rfl rfl (fun ρ w E H => ex_assign E rfl rfl) ?_
              refine SxL.nil (SxN.then_ (SxC.ret (SxX.blockR (SxX.thenR ?_))))
              refine SxX.done (.slice (some ⟨g8, 0, none⟩) 4 4) (fun a w K H => res1 K rfl rfl) (fun w H => ?_)
              have hk := hc29
              simp [cmpB] at hk
              refine ⟨_, _, g8, [(.turn, 0), (.floor, 0), (.slot 0, s32), (.votes, 0)], rfl, ?_, fun _ => rfl, ?_, ⟨fun _ => H.get (i := 0) rfl, ?_⟩, H.toBelow ⟨(fun g hg => by rw [List.mem_singleton.1 hg]; exact hg8), (fun g hg => by rw [List.mem_singleton.1 hg]; exact fs32), trivial⟩⟩
              · obtain rfl : k = 5 := by omega
                rfl
              · have l0 := Blk.lt (show Blk _ g8 _ _ from H.get (i := 0) rfl)
                have ls32 := Blk.lt (show Blk _ s32 _ _ from H.get (i := 1) rfl)
                intro b hb
                simp [partsF, capsOf, Pt.caps] at hb
                omega
              · intro x hx
                simp only [List.mem_cons, List.not_mem_nil, or_false] at hx
                rcases hx with rfl | rfl | rfl | rfl
                · exact trivial
                · exact trivial
                · exact H.get (i := 1) rfl
                · exact trivial
          · refine SxC.condT rfl (SxC.seq (SxC.region ?_))
            refine SxL.callB (v := .agg #[.func (.func 131) #[] #[], .func (.func 133) #[] #[], .func (.func 135) #[] #[], .func (.func 136) #[] #[]]) trivial rfl rfl (fun ρ w E => ex_call E en_palaver_msg_turn rfl rfl) (fun w H => mk_turn w) ?_
            refine SxL.call (σ := Nat) (fun s25 => .agg #[.func (.func 138) #[] #[], .func (.func 139) #[] #[], .func (.func 141) #[] #[], .func (.func 142) #[] #[.pointer (some ⟨s25, 0, none⟩)]]) (fun s25 => True ∧ ∀ b ∈ (cell s25 22 [.int .u64 ((1 : Nat) : Int)]).fp, w.heap.size ≤ b) (fun s25 => _) trivial rfl rfl (fun ρ w E => ex_call E en_palaver_msg_slot rfl rfl) (callNew (fun s25 => .agg #[.func (.func 138) #[] #[], .func (.func 139) #[] #[], .func (.func 141) #[] #[], .func (.func 142) #[] #[.pointer (some ⟨s25, 0, none⟩)]]) (fun _ => True) (fun s25 => cell s25 22 [.int .u64 ((1 : Nat) : Int)]) (fun _ => cell_loc _ _ _) (fun w H => (mk_slot 1 w).mono fun _ _ ⟨g, h1, h2, h3, h4, h5⟩ => ⟨g, h1, trivial, fun b hb => by rw [List.mem_singleton.1 hb]; exact ⟨h2, h3⟩, h4, h5⟩)) fun s25 hs25 => ?_
            have fs25 : w.heap.size ≤ s25 := hs25.2 _ (List.mem_singleton.2 rfl)
            refine SxL.newS (cs := [.func (.func 131) #[] #[], .func (.func 133) #[] #[], .func (.func 135) #[] #[], .func (.func 136) #[] #[], .func (.func 138) #[] #[], .func (.func 139) #[] #[], .func (.func 141) #[] #[], .func (.func 142) #[] #[.pointer (some ⟨s25, 0, none⟩)]]) trivial rfl rfl (fun ρ w E H => ex_buildSlice E rfl rfl Tryz.underlying95 sz_palaver_msg_part zr_palaver_msg_part rfl rfl (by kernel_rfl)) fun g9 hg9 => ?_
            refine SxL.callB (v := .slice (some ⟨g9, 0, none⟩) 2 2) trivial rfl rfl (fun ρ w E => ex_call E en_palaver_msg_row rfl rfl) (fun w H => row_any _ w) ?_
            refine SxL.val trivial rfl rfl (fun ρ w E H => ex_assign E rfl rfl) ?_
            refine SxL.nil (SxN.then_ (SxC.ret (SxX.blockR (SxX.thenR ?_))))
            refine SxX.done (.slice (some ⟨g9, 0, none⟩) 2 2) (fun a w K H => res1 K rfl rfl) (fun w H => ?_)
            have hk := hc23
            simp [cmpB] at hk
            refine ⟨_, _, g9, [(.turn, 0), (.slot 1, s25)], rfl, ?_, fun _ => rfl, ?_, ⟨fun _ => H.get (i := 0) rfl, ?_⟩, H.toBelow ⟨(fun g hg => by rw [List.mem_singleton.1 hg]; exact hg9), (fun g hg => by rw [List.mem_singleton.1 hg]; exact fs25), trivial⟩⟩
            · obtain rfl : k = 8 := by omega
              rfl
            · have l0 := Blk.lt (show Blk _ g9 _ _ from H.get (i := 0) rfl)
              have ls25 := Blk.lt (show Blk _ s25 _ _ from H.get (i := 1) rfl)
              intro b hb
              simp [partsF, capsOf, Pt.caps] at hb
              omega
            · intro x hx
              simp only [List.mem_cons, List.not_mem_nil, or_false] at hx
              rcases hx with rfl | rfl
              · exact trivial
              · exact H.get (i := 1) rfl
        · refine SxC.condT rfl (SxC.skip (SxN.then_ (SxC.condT rfl (SxC.seq (SxC.region ?_)))))
          refine SxL.callB (v := .agg #[.func (.func 131) #[] #[], .func (.func 133) #[] #[], .func (.func 135) #[] #[], .func (.func 136) #[] #[]]) trivial rfl rfl (fun ρ w E => ex_call E en_palaver_msg_turn rfl rfl) (fun w H => mk_turn w) ?_
          refine SxL.call (σ := Nat) (fun s25 => .agg #[.func (.func 138) #[] #[], .func (.func 139) #[] #[], .func (.func 141) #[] #[], .func (.func 142) #[] #[.pointer (some ⟨s25, 0, none⟩)]]) (fun s25 => True ∧ ∀ b ∈ (cell s25 22 [.int .u64 ((1 : Nat) : Int)]).fp, w.heap.size ≤ b) (fun s25 => _) trivial rfl rfl (fun ρ w E => ex_call E en_palaver_msg_slot rfl rfl) (callNew (fun s25 => .agg #[.func (.func 138) #[] #[], .func (.func 139) #[] #[], .func (.func 141) #[] #[], .func (.func 142) #[] #[.pointer (some ⟨s25, 0, none⟩)]]) (fun _ => True) (fun s25 => cell s25 22 [.int .u64 ((1 : Nat) : Int)]) (fun _ => cell_loc _ _ _) (fun w H => (mk_slot 1 w).mono fun _ _ ⟨g, h1, h2, h3, h4, h5⟩ => ⟨g, h1, trivial, fun b hb => by rw [List.mem_singleton.1 hb]; exact ⟨h2, h3⟩, h4, h5⟩)) fun s25 hs25 => ?_
          have fs25 : w.heap.size ≤ s25 := hs25.2 _ (List.mem_singleton.2 rfl)
          refine SxL.newS (cs := [.func (.func 131) #[] #[], .func (.func 133) #[] #[], .func (.func 135) #[] #[], .func (.func 136) #[] #[], .func (.func 138) #[] #[], .func (.func 139) #[] #[], .func (.func 141) #[] #[], .func (.func 142) #[] #[.pointer (some ⟨s25, 0, none⟩)]]) trivial rfl rfl (fun ρ w E H => ex_buildSlice E rfl rfl Tryz.underlying95 sz_palaver_msg_part zr_palaver_msg_part rfl rfl (by kernel_rfl)) fun g10 hg10 => ?_
          refine SxL.callB (v := .slice (some ⟨g10, 0, none⟩) 2 2) trivial rfl rfl (fun ρ w E => ex_call E en_palaver_msg_row rfl rfl) (fun w H => row_any _ w) ?_
          refine SxL.val trivial rfl rfl (fun ρ w E H => ex_assign E rfl rfl) ?_
          refine SxL.nil (SxN.then_ (SxC.ret (SxX.blockR (SxX.thenR ?_))))
          refine SxX.done (.slice (some ⟨g10, 0, none⟩) 2 2) (fun a w K H => res1 K rfl rfl) (fun w H => ?_)
          have hk := hc22
          simp [cmpB] at hk
          refine ⟨_, _, g10, [(.turn, 0), (.slot 1, s25)], rfl, ?_, fun _ => rfl, ?_, ⟨fun _ => H.get (i := 0) rfl, ?_⟩, H.toBelow ⟨(fun g hg => by rw [List.mem_singleton.1 hg]; exact hg10), (fun g hg => by rw [List.mem_singleton.1 hg]; exact fs25), trivial⟩⟩
          · obtain rfl : k = 4 := by omega
            rfl
          · have l0 := Blk.lt (show Blk _ g10 _ _ from H.get (i := 0) rfl)
            have ls25 := Blk.lt (show Blk _ s25 _ _ from H.get (i := 1) rfl)
            intro b hb
            simp [partsF, capsOf, Pt.caps] at hb
            omega
          · intro x hx
            simp only [List.mem_cons, List.not_mem_nil, or_false] at hx
            rcases hx with rfl | rfl
            · exact trivial
            · exact H.get (i := 1) rfl
      · refine SxC.condT rfl (SxC.seq (SxC.region ?_))
        refine SxL.callB (v := .agg #[.func (.func 117) #[] #[], .func (.func 118) #[] #[], .func (.func 119) #[] #[], .func (.func 120) #[] #[]]) trivial rfl rfl (fun ρ w E => ex_call E en_palaver_msg_name rfl rfl) (fun w H => mk_name w) ?_
        refine SxL.callB (v := .agg #[.func (.func 127) #[] #[], .func (.func 128) #[] #[], .func (.func 129) #[] #[], .func (.func 130) #[] #[]]) trivial rfl rfl (fun ρ w E => ex_call E en_palaver_msg_node rfl rfl) (fun w H => mk_node w) ?_
        refine SxL.newS (cs := [.func (.func 117) #[] #[], .func (.func 118) #[] #[], .func (.func 119) #[] #[], .func (.func 120) #[] #[], .func (.func 127) #[] #[], .func (.func 128) #[] #[], .func (.func 129) #[] #[], .func (.func 130) #[] #[]]) trivial rfl rfl (fun ρ w E H => ex_buildSlice E rfl rfl Tryz.underlying95 sz_palaver_msg_part zr_palaver_msg_part rfl rfl (by kernel_rfl)) fun g11 hg11 => ?_
        refine SxL.callB (v := .slice (some ⟨g11, 0, none⟩) 2 2) trivial rfl rfl (fun ρ w E => ex_call E en_palaver_msg_row rfl rfl) (fun w H => row_any _ w) ?_
        refine SxL.val trivial rfl rfl (fun ρ w E H => ex_assign E rfl rfl) ?_
        refine SxL.nil (SxN.then_ (SxC.ret (SxX.blockR (SxX.thenR ?_))))
        refine SxX.done (.slice (some ⟨g11, 0, none⟩) 2 2) (fun a w K H => res1 K rfl rfl) (fun w H => ?_)
        have hk := hc16
        simp [cmpB] at hk
        refine ⟨_, _, g11, [(.name, 0), (.node, 0)], rfl, ?_, fun _ => rfl, ?_, ⟨fun _ => H.get (i := 0) rfl, ?_⟩, H.toBelow ⟨(fun g hg => by rw [List.mem_singleton.1 hg]; exact hg11), trivial⟩⟩
        · obtain rfl : k = 3 := by omega
          rfl
        · have l0 := Blk.lt (show Blk _ g11 _ _ from H.get (i := 0) rfl)
          intro b hb
          simp [partsF, capsOf, Pt.caps] at hb
          omega
        · intro x hx
          simp only [List.mem_cons, List.not_mem_nil, or_false] at hx
          rcases hx with rfl | rfl
          · exact trivial
          · exact trivial
    · refine SxC.condT rfl (SxC.seq (SxC.region ?_))
      refine SxL.callB (v := .agg #[.func (.func 117) #[] #[], .func (.func 118) #[] #[], .func (.func 119) #[] #[], .func (.func 120) #[] #[]]) trivial rfl rfl (fun ρ w E => ex_call E en_palaver_msg_name rfl rfl) (fun w H => mk_name w) ?_
      refine SxL.callB (v := .agg #[.func (.func 121) #[] #[], .func (.func 123) #[] #[], .func (.func 125) #[] #[], .func (.func 126) #[] #[]]) trivial rfl rfl (fun ρ w E => ex_call E en_palaver_msg_reply rfl rfl) (fun w H => mk_reply w) ?_
      refine SxL.newS (cs := [.func (.func 117) #[] #[], .func (.func 118) #[] #[], .func (.func 119) #[] #[], .func (.func 120) #[] #[], .func (.func 121) #[] #[], .func (.func 123) #[] #[], .func (.func 125) #[] #[], .func (.func 126) #[] #[]]) trivial rfl rfl (fun ρ w E H => ex_buildSlice E rfl rfl Tryz.underlying95 sz_palaver_msg_part zr_palaver_msg_part rfl rfl (by kernel_rfl)) fun g12 hg12 => ?_
      refine SxL.callB (v := .slice (some ⟨g12, 0, none⟩) 2 2) trivial rfl rfl (fun ρ w E => ex_call E en_palaver_msg_row rfl rfl) (fun w H => row_any _ w) ?_
      refine SxL.val trivial rfl rfl (fun ρ w E H => ex_assign E rfl rfl) ?_
      refine SxL.nil (SxN.then_ (SxC.ret (SxX.blockR (SxX.thenR ?_))))
      refine SxX.done (.slice (some ⟨g12, 0, none⟩) 2 2) (fun a w K H => res1 K rfl rfl) (fun w H => ?_)
      have hk := hc10
      simp [cmpB] at hk
      refine ⟨_, _, g12, [(.name, 0), (.reply, 0)], rfl, ?_, fun _ => rfl, ?_, ⟨fun _ => H.get (i := 0) rfl, ?_⟩, H.toBelow ⟨(fun g hg => by rw [List.mem_singleton.1 hg]; exact hg12), trivial⟩⟩
      · obtain rfl : k = 2 := by omega
        rfl
      · have l0 := Blk.lt (show Blk _ g12 _ _ from H.get (i := 0) rfl)
        intro b hb
        simp [partsF, capsOf, Pt.caps] at hb
        omega
      · intro x hx
        simp only [List.mem_cons, List.not_mem_nil, or_false] at hx
        rcases hx with rfl | rfl
        · exact trivial
        · exact trivial
  · refine SxC.condT rfl (SxC.seq (SxC.region ?_))
    refine SxL.callB (v := .agg #[.func (.func 110) #[] #[], .func (.func 112) #[] #[], .func (.func 114) #[] #[], .func (.func 115) #[] #[]]) trivial rfl rfl (fun ρ w E => ex_call E en_palaver_msg_command rfl rfl) (fun w H => mk_cmd w) ?_
    refine SxL.newS (cs := [.func (.func 110) #[] #[], .func (.func 112) #[] #[], .func (.func 114) #[] #[], .func (.func 115) #[] #[]]) trivial rfl rfl (fun ρ w E H => ex_buildSlice E rfl rfl Tryz.underlying95 sz_palaver_msg_part zr_palaver_msg_part rfl rfl (by kernel_rfl)) fun g13 hg13 => ?_
    refine SxL.callB (v := .slice (some ⟨g13, 0, none⟩) 1 1) trivial rfl rfl (fun ρ w E => ex_call E en_palaver_msg_row rfl rfl) (fun w H => row_any _ w) ?_
    refine SxL.val trivial rfl rfl (fun ρ w E H => ex_assign E rfl rfl) ?_
    refine SxL.nil (SxN.then_ (SxC.ret (SxX.blockR (SxX.thenR ?_))))
    refine SxX.done (.slice (some ⟨g13, 0, none⟩) 1 1) (fun a w K H => res1 K rfl rfl) (fun w H => ?_)
    have hk := hc5
    simp [cmpB] at hk
    refine ⟨_, _, g13, [(.cmd, 0)], rfl, ?_, fun _ => rfl, ?_, ⟨fun _ => H.get (i := 0) rfl, ?_⟩, H.toBelow ⟨(fun g hg => by rw [List.mem_singleton.1 hg]; exact hg13), trivial⟩⟩
    · obtain rfl : k = 1 := by omega
      rfl
    · have l0 := Blk.lt (show Blk _ g13 _ _ from H.get (i := 0) rfl)
      intro b hb
      simp [partsF, capsOf, Pt.caps] at hb
      omega
    · intro x hx
      simp only [List.mem_cons, List.not_mem_nil, or_false] at hx
      subst hx
      exact trivial
end Go.Proofs.YteiaiilfekojfaaGreat.Msg
end
section
set_option linter.unusedVariables false
set_option linter.unusedSimpArgs false
namespace Go.Proofs.YteiaiilfekojfaaGreat.Msg
open Go.RowKit Sx Wire DrawInv
set_option maxRecDepth 100000 in
set_option maxHeartbeats 4000000 in
theorem equalV (l1 l2 : List Vo) (A B : Option Addr) (k1 k2 : Nat) (w : World) (h1 : Rows w A 4 voL l1) (h2 : Rows w B 4 voL l2) (hl1 : l1.length ≤ 1000000) : Calls Tryz.prog 45 #[.slice A l1.length k1, .slice B l2.length k2] w fun e w' => e = .returned (.bool (decide (l1 = l2))) ∧ Below w.heap.size w w' := by
  refine sx_enter (n := 26) _ Tryz.func45 rfl rfl rfl (Hp.start w) ?_
  refine SxC.seq (SxC.region ?_)
  refine SxL.val trivial rfl rfl (fun ρ w E H => ex_assign E rfl rfl) ?_
  refine SxL.nil (SxN.then_ (SxC.seq (SxC.seq (SxC.region ?_))))
  refine SxL.val trivial rfl rfl (fun ρ w E H => ex_move E rfl rfl) ?_
  refine SxL.val (v := .int .i64 (l1.length : Int)) trivial rfl rfl (fun ρ w E H => ex_lenS E rfl Tryz.underlying25 rfl) ?_
  refine SxL.val trivial rfl rfl (fun ρ w E H => ex_move E rfl rfl) ?_
  refine SxL.val (v := .int .i64 (l2.length : Int)) trivial rfl rfl (fun ρ w E H => ex_lenS E rfl Tryz.underlying25 rfl) ?_
  refine SxL.valB trivial rfl rfl (fun ρ w E H => ex_cmp E rfl rfl rfl rfl rfl) fun c10 hc10 => ?_
  refine SxL.nil (SxN.then_ ?_)
  cases c10
  · refine SxC.condF rfl (SxC.skip (SxN.then_ (SxC.seq (SxC.seq (SxC.region ?_)))))
    refine SxL.val trivial rfl rfl (fun ρ w E H => ex_move E rfl rfl) ?_
    refine SxL.val (v := .int .i64 (l1.length : Int)) trivial rfl rfl (fun ρ w E H => ex_lenS E rfl Tryz.underlying25 rfl) ?_
    refine SxL.val trivial rfl rfl (fun ρ w E H => ex_move E rfl rfl) ?_
    refine SxL.nil (SxN.then_ (SxC.block ?_))
    refine SxC.loop1 (fun (k : Nat) => [(0, .slice A l1.length k1), (1, .slice B l2.length k2), (11, .slice A l1.length k1), (12, .int .i64 (l1.length : Int)), (13, .int .i64 (k : Int))]) (fun (k : Nat) => []) (fun (gk : Nat) (k : Nat) => k + gk = l1.length ∧ l1.take k = l2.take k ∧ l1.length = l2.length) l1.length 0 ⟨by omega, rfl, by have h := hc10; simp [cmpB] at h; omega⟩ ⟨rfl, rfl, rfl, rfl, rfl, trivial⟩ [] rfl (by decide) trivial fun gk k hF => ?_
    obtain ⟨hkg, hrel, hle⟩ := hF
    refine SxC.seq (SxC.region ?_)
    refine SxL.valB trivial rfl rfl (fun ρ w E H => ex_cmp E rfl rfl rfl rfl rfl) fun c14 hc14 => ?_
    refine SxL.nil (SxN.then_ (SxC.seq ?_))
    cases c14
    · refine SxC.condF rfl (SxC.exit (SxX.thenE (SxX.thenE (SxX.blockE (SxN.then_ (SxC.seq (SxC.region ?_)))))))
      refine SxL.val trivial rfl rfl (fun ρ w E H => ex_assign E rfl rfl) ?_
      refine SxL.nil (SxN.then_ (SxC.ret ?_))
      refine SxX.done (.bool true) (fun a w K H => res1 K rfl rfl) (fun w H => ?_)
      have hq : true = decide (l1 = l2) := by
        have h14 := hc14
        simp [cmpB] at h14
        rw [List.take_of_length_le (by omega), List.take_of_length_le (by omega)] at hrel
        simp [hrel]
      exact ⟨by rw [hq], H.toBelow trivial⟩
    · refine SxC.condT rfl (SxC.skip (SxN.then_ (SxC.seq (SxC.block (SxC.seq ?_)))))
      have hkl : k < l1.length := by have h := hc14; simp [cmpB] at h; omega
      have hkl2 : k < l2.length := by omega
      obtain ⟨x, hx⟩ : ∃ x, l1[k]? = some x := ⟨_, List.getElem?_eq_getElem hkl⟩
      obtain ⟨y, hy⟩ : ∃ x, l2[k]? = some x := ⟨_, List.getElem?_eq_getElem hkl2⟩
      obtain ⟨a1, rfl, -, -⟩ := h1.row hx
      obtain ⟨a2, rfl, -, -⟩ := h2.row hy
      refine SxC.region ?_
      refine SxL.val trivial rfl rfl (fun ρ w E H => ex_move E rfl rfl) ?_
      refine SxL.val trivial rfl rfl (fun ρ w E H => ex_assign E rfl rfl) ?_
      refine SxL.nil (SxN.then_ (SxC.seq ?_))
      refine SxC.drawnK [] [] (by kernel_rfl) rfl trivial ?_
      refine SxA.take (i := 0) rfl (by kernel_rfl) (by kernel_rfl) (by kernel_rfl) rfl rfl (fun _ _ _ h => h) trivial (fun ρ w E H => ex_move E rfl rfl) ?_
      refine SxA.take (i := 1) rfl (by kernel_rfl) (by kernel_rfl) (by kernel_rfl) rfl rfl (fun _ _ _ h => h) trivial (fun ρ w E H => ex_move E rfl rfl) ?_
      refine SxA.take (i := 2) (v := .pointer (some (a1.add (k * 4)))) rfl (by kernel_rfl) (by kernel_rfl) (by kernel_rfl) rfl rfl (fun _ _ _ h => h) trivial (fun ρ w E H => ex_index (i := k) E rfl Tryz.underlying25 sz_palaver_api_Vote rfl rfl hkl) ?_
      refine SxA.take (i := 3) (v := .agg #[.int .u64 (x.slot : Int), .int .u64 (x.n : Int), .int .u8 (x.r : Int), .string ⟨x.value.toArray⟩]) rfl (by kernel_rfl) (by kernel_rfl) (by kernel_rfl) rfl rfl (fun _ _ _ h => h) trivial (fun ρ w E H => ex_loadX (cs := [.int .u64 (x.slot : Int), .int .u64 (x.n : Int), .int .u8 (x.r : Int), .string ⟨x.value.toArray⟩]) E ((h1.below (H.os.below (Nat.le_refl _) (by simp))).rowA hx) rfl rfl Tryz.underlying92 rfl sz_palaver_api_Vote) ?_
      refine SxA.take (i := 4) rfl (by kernel_rfl) (by kernel_rfl) (by kernel_rfl) rfl rfl (fun _ _ _ h => h) trivial (fun ρ w E H => ex_move E rfl rfl) ?_
      refine SxA.take (i := 5) rfl (by kernel_rfl) (by kernel_rfl) (by kernel_rfl) rfl rfl (fun _ _ _ h => h) trivial (fun ρ w E H => ex_move E rfl rfl) ?_
      refine SxA.take (i := 6) (v := .pointer (some (a2.add (k * 4)))) rfl (by kernel_rfl) (by kernel_rfl) (by kernel_rfl) rfl rfl (fun _ _ _ h => h) trivial (fun ρ w E H => ex_index (i := k) E rfl Tryz.underlying25 sz_palaver_api_Vote rfl rfl hkl2) ?_
      refine SxA.take (i := 7) (v := .agg #[.int .u64 (y.slot : Int), .int .u64 (y.n : Int), .int .u8 (y.r : Int), .string ⟨y.value.toArray⟩]) rfl (by kernel_rfl) (by kernel_rfl) (by kernel_rfl) rfl rfl (fun _ _ _ h => h) trivial (fun ρ w E H => ex_loadX (cs := [.int .u64 (y.slot : Int), .int .u64 (y.n : Int), .int .u8 (y.r : Int), .string ⟨y.value.toArray⟩]) E ((h2.below (H.os.below (Nat.le_refl _) (by simp))).rowA hy) rfl rfl Tryz.underlying92 rfl sz_palaver_api_Vote) ?_
      refine SxA.takeB (i := 8) rfl (by kernel_rfl) (by kernel_rfl) (by kernel_rfl) rfl rfl (fun _ _ _ h => h) trivial (fun ρ w E H => ex_aneq E rfl (by kernel_rfl) rfl rfl (fun w => by rw [Bool.not_not]; exact eq_vo x y w)) fun c24 hc24 => ?_
      refine SxA.done (by kernel_rfl) ?_
      refine SxN.then_ ?_
      cases c24
      · refine SxC.condF rfl (SxC.skip (SxN.block (SxN.then_ (SxC.region ?_))))
        refine SxL.val (v := .int .i64 ((k + 1 : Nat) : Int)) trivial rfl rfl (fun ρ w E H => ex_add E rfl rfl rfl (by rw [IntKind.wrap_i64]; omega)) ?_
        refine SxL.val trivial rfl rfl (fun ρ w E H => ex_move E rfl rfl) ?_
        refine SxL.nil ?_
        refine SxN.back (gk - 1) (k + 1) (by omega) ⟨by omega, by rw [take_snoc hx, take_snoc hy, hrel]; have h24 : x = y := (by simpa using hc24); rw [h24], hle⟩ ⟨rfl, rfl, rfl, rfl, rfl, trivial⟩ [] rfl (by decide) trivial
      · refine SxC.condT rfl (SxC.seq (SxC.region ?_))
        refine SxL.val trivial rfl rfl (fun ρ w E H => ex_assign E rfl rfl) ?_
        refine SxL.nil (SxN.then_ (SxC.ret (SxX.blockR (SxX.thenR (SxX.thenR (SxX.blockR (SxX.thenR ?_)))))))
        refine SxX.done (.bool false) (fun a w K H => res1 K rfl rfl) (fun w H => ?_)
        have hq : false = decide (l1 = l2) := by
          have h24 : x ≠ y := by simpa using hc24
          symm; apply decide_eq_false; rintro rfl; rw [hx] at hy; exact h24 (Option.some.inj hy)
        exact ⟨by rw [hq], H.toBelow trivial⟩
  · refine SxC.condT rfl (SxC.seq (SxC.region ?_))
    refine SxL.val trivial rfl rfl (fun ρ w E H => ex_assign E rfl rfl) ?_
    refine SxL.nil (SxN.then_ (SxC.ret (SxX.thenR ?_)))
    refine SxX.done (.bool false) (fun a w K H => res1 K rfl rfl) (fun w H => ?_)
    have hq : false = decide (l1 = l2) := by
      have h10 := hc10
      simp [cmpB] at h10
      symm; apply decide_eq_false; rintro rfl; omega
    exact ⟨by rw [hq], H.toBelow trivial⟩

set_option maxRecDepth 100000 in
set_option maxHeartbeats 4000000 in
theorem equalI (l1 l2 : List Im) (A B : Option Addr) (k1 k2 : Nat) (w : World) (h1 : Rows w A 2 imL l1) (h2 : Rows w B 2 imL l2) (hl1 : l1.length ≤ 1000000) : Calls Tryz.prog 46 #[.slice A l1.length k1, .slice B l2.length k2] w fun e w' => e = .returned (.bool (decide (l1 = l2))) ∧ Below w.heap.size w w' := by
  refine sx_enter (n := 26) _ Tryz.func46 rfl rfl rfl (Hp.start w) ?_
  refine SxC.seq (SxC.region ?_)
  refine SxL.val trivial rfl rfl (fun ρ w E H => ex_assign E rfl rfl) ?_
  refine SxL.nil (SxN.then_ (SxC.seq (SxC.seq (SxC.region ?_))))
  refine SxL.val trivial rfl rfl (fun ρ w E H => ex_move E rfl rfl) ?_
  refine SxL.val (v := .int .i64 (l1.length : Int)) trivial rfl rfl (fun ρ w E H => ex_lenS E rfl Tryz.underlying26 rfl) ?_
  refine SxL.val trivial rfl rfl (fun ρ w E H => ex_move E rfl rfl) ?_
  refine SxL.val (v := .int .i64 (l2.length : Int)) trivial rfl rfl (fun ρ w E H => ex_lenS E rfl Tryz.underlying26 rfl) ?_
  refine SxL.valB trivial rfl rfl (fun ρ w E H => ex_cmp E rfl rfl rfl rfl rfl) fun c10 hc10 => ?_
  refine SxL.nil (SxN.then_ ?_)
  cases c10
  · refine SxC.condF rfl (SxC.skip (SxN.then_ (SxC.seq (SxC.seq (SxC.region ?_)))))
    refine SxL.val trivial rfl rfl (fun ρ w E H => ex_move E rfl rfl) ?_
    refine SxL.val (v := .int .i64 (l1.length : Int)) trivial rfl rfl (fun ρ w E H => ex_lenS E rfl Tryz.underlying26 rfl) ?_
    refine SxL.val trivial rfl rfl (fun ρ w E H => ex_move E rfl rfl) ?_
    refine SxL.nil (SxN.then_ (SxC.block ?_))
    refine SxC.loop1 (fun (k : Nat) => [(0, .slice A l1.length k1), (1, .slice B l2.length k2), (11, .slice A l1.length k1), (12, .int .i64 (l1.length : Int)), (13, .int .i64 (k : Int))]) (fun (k : Nat) => []) (fun (gk : Nat) (k : Nat) => k + gk = l1.length ∧ l1.take k = l2.take k ∧ l1.length = l2.length) l1.length 0 ⟨by omega, rfl, by have h := hc10; simp [cmpB] at h; omega⟩ ⟨rfl, rfl, rfl, rfl, rfl, trivial⟩ [] rfl (by decide) trivial fun gk k hF => ?_
    obtain ⟨hkg, hrel, hle⟩ := hF
    refine SxC.seq (SxC.region ?_)
    refine SxL.valB trivial rfl rfl (fun ρ w E H => ex_cmp E rfl rfl rfl rfl rfl) fun c14 hc14 => ?_
    refine SxL.nil (SxN.then_ (SxC.seq ?_))
    cases c14
    · refine SxC.condF rfl (SxC.exit (SxX.thenE (SxX.thenE (SxX.blockE (SxN.then_ (SxC.seq (SxC.region ?_)))))))
      refine SxL.val trivial rfl rfl (fun ρ w E H => ex_assign E rfl rfl) ?_
      refine SxL.nil (SxN.then_ (SxC.ret ?_))
      refine SxX.done (.bool true) (fun a w K H => res1 K rfl rfl) (fun w H => ?_)
      have hq : true = decide (l1 = l2) := by
        have h14 := hc14
        simp [cmpB] at h14
        rw [List.take_of_length_le (by omega), List.take_of_length_le (by omega)] at hrel
        simp [hrel]
      exact ⟨by rw [hq], H.toBelow trivial⟩
    · refine SxC.condT rfl (SxC.skip (SxN.then_ (SxC.seq (SxC.block (SxC.seq ?_)))))
      have hkl : k < l1.length := by have h := hc14; simp [cmpB] at h; omega
      have hkl2 : k < l2.length := by omega
      obtain ⟨x, hx⟩ : ∃ x, l1[k]? = some x := ⟨_, List.getElem?_eq_getElem hkl⟩
      obtain ⟨y, hy⟩ : ∃ x, l2[k]? = some x := ⟨_, List.getElem?_eq_getElem hkl2⟩
      obtain ⟨a1, rfl, -, -⟩ := h1.row hx
      obtain ⟨a2, rfl, -, -⟩ := h2.row hy
      refine SxC.region ?_
      refine SxL.val trivial rfl rfl (fun ρ w E H => ex_move E rfl rfl) ?_
      refine SxL.val trivial rfl rfl (fun ρ w E H => ex_assign E rfl rfl) ?_
      refine SxL.nil (SxN.then_ (SxC.seq ?_))
      refine SxC.drawnK [] [] (by kernel_rfl) rfl trivial ?_
      refine SxA.take (i := 0) rfl (by kernel_rfl) (by kernel_rfl) (by kernel_rfl) rfl rfl (fun _ _ _ h => h) trivial (fun ρ w E H => ex_move E rfl rfl) ?_
      refine SxA.take (i := 1) rfl (by kernel_rfl) (by kernel_rfl) (by kernel_rfl) rfl rfl (fun _ _ _ h => h) trivial (fun ρ w E H => ex_move E rfl rfl) ?_
      refine SxA.take (i := 2) (v := .pointer (some (a1.add (k * 2)))) rfl (by kernel_rfl) (by kernel_rfl) (by kernel_rfl) rfl rfl (fun _ _ _ h => h) trivial (fun ρ w E H => ex_index (i := k) E rfl Tryz.underlying26 sz_palaver_api_Item rfl rfl hkl) ?_
      refine SxA.take (i := 3) (v := .agg #[.int .u64 (x.slot : Int), .string ⟨x.value.toArray⟩]) rfl (by kernel_rfl) (by kernel_rfl) (by kernel_rfl) rfl rfl (fun _ _ _ h => h) trivial (fun ρ w E H => ex_loadX (cs := [.int .u64 (x.slot : Int), .string ⟨x.value.toArray⟩]) E ((h1.below (H.os.below (Nat.le_refl _) (by simp))).rowA hx) rfl rfl Tryz.underlying94 rfl sz_palaver_api_Item) ?_
      refine SxA.take (i := 4) rfl (by kernel_rfl) (by kernel_rfl) (by kernel_rfl) rfl rfl (fun _ _ _ h => h) trivial (fun ρ w E H => ex_move E rfl rfl) ?_
      refine SxA.take (i := 5) rfl (by kernel_rfl) (by kernel_rfl) (by kernel_rfl) rfl rfl (fun _ _ _ h => h) trivial (fun ρ w E H => ex_move E rfl rfl) ?_
      refine SxA.take (i := 6) (v := .pointer (some (a2.add (k * 2)))) rfl (by kernel_rfl) (by kernel_rfl) (by kernel_rfl) rfl rfl (fun _ _ _ h => h) trivial (fun ρ w E H => ex_index (i := k) E rfl Tryz.underlying26 sz_palaver_api_Item rfl rfl hkl2) ?_
      refine SxA.take (i := 7) (v := .agg #[.int .u64 (y.slot : Int), .string ⟨y.value.toArray⟩]) rfl (by kernel_rfl) (by kernel_rfl) (by kernel_rfl) rfl rfl (fun _ _ _ h => h) trivial (fun ρ w E H => ex_loadX (cs := [.int .u64 (y.slot : Int), .string ⟨y.value.toArray⟩]) E ((h2.below (H.os.below (Nat.le_refl _) (by simp))).rowA hy) rfl rfl Tryz.underlying94 rfl sz_palaver_api_Item) ?_
      refine SxA.takeB (i := 8) rfl (by kernel_rfl) (by kernel_rfl) (by kernel_rfl) rfl rfl (fun _ _ _ h => h) trivial (fun ρ w E H => ex_aneq E rfl (by kernel_rfl) rfl rfl (fun w => by rw [Bool.not_not]; exact eq_im x y w)) fun c24 hc24 => ?_
      refine SxA.done (by kernel_rfl) ?_
      refine SxN.then_ ?_
      cases c24
      · refine SxC.condF rfl (SxC.skip (SxN.block (SxN.then_ (SxC.region ?_))))
        refine SxL.val (v := .int .i64 ((k + 1 : Nat) : Int)) trivial rfl rfl (fun ρ w E H => ex_add E rfl rfl rfl (by rw [IntKind.wrap_i64]; omega)) ?_
        refine SxL.val trivial rfl rfl (fun ρ w E H => ex_move E rfl rfl) ?_
        refine SxL.nil ?_
        refine SxN.back (gk - 1) (k + 1) (by omega) ⟨by omega, by rw [take_snoc hx, take_snoc hy, hrel]; have h24 : x = y := (by simpa using hc24); rw [h24], hle⟩ ⟨rfl, rfl, rfl, rfl, rfl, trivial⟩ [] rfl (by decide) trivial
      · refine SxC.condT rfl (SxC.seq (SxC.region ?_))
        refine SxL.val trivial rfl rfl (fun ρ w E H => ex_assign E rfl rfl) ?_
        refine SxL.nil (SxN.then_ (SxC.ret (SxX.blockR (SxX.thenR (SxX.thenR (SxX.blockR (SxX.thenR ?_)))))))
        refine SxX.done (.bool false) (fun a w K H => res1 K rfl rfl) (fun w H => ?_)
        have hq : false = decide (l1 = l2) := by
          have h24 : x ≠ y := by simpa using hc24
          symm; apply decide_eq_false; rintro rfl; rw [hx] at hy; exact h24 (Option.some.inj hy)
        exact ⟨by rw [hq], H.toBelow trivial⟩
  · refine SxC.condT rfl (SxC.seq (SxC.region ?_))
    refine SxL.val trivial rfl rfl (fun ρ w E H => ex_assign E rfl rfl) ?_
    refine SxL.nil (SxN.then_ (SxC.ret (SxX.thenR ?_)))
    refine SxX.done (.bool false) (fun a w K H => res1 K rfl rfl) (fun w H => ?_)
    have hq : false = decide (l1 = l2) := by
      have h10 := hc10
      simp [cmpB] at h10
      symm; apply decide_eq_false; rintro rfl; omega
    exact ⟨by rw [hq], H.toBelow trivial⟩

set_option maxRecDepth 100000 in
set_option maxHeartbeats 4000000 in
theorem same_lit (mk mn mr mb ms mo ca cb ck cz mc : Nat) (mv cs ct cu mt : List UInt8) (vl : List Vo) (il : List Im)(xk xn xr xb xs xo da db dk dz xc : Nat) (xv ds dt du xt : List UInt8) (wl : List Vo) (jl : List Im) (A B : Option Addr) (ka kb : Nat) (C D : Option Addr) (kc kd : Nat) (w : World) (hv : Rows w A 4 voL vl) (hi : Rows w B 2 imL il) (hv2 : Rows w C 4 voL wl) (hi2 : Rows w D 2 imL jl) (hl1 : vl.length ≤ 1000000) (hl2 : il.length ≤ 1000000) : Calls Tryz.prog 15 #[.agg #[.int .u8 (mk : Int), .int .u64 (mn : Int), .int .u8 (mr : Int), .int .u64 (mb : Int), .int .u64 (ms : Int), .int .u8 (mo : Int), .string ⟨mv.toArray⟩, .slice A vl.length ka, .slice B il.length kb, .int .u8 (ca : Int), .int .u32 (cb : Int), .int .u8 (ck : Int), .string ⟨cs.toArray⟩, .string ⟨ct.toArray⟩, .string ⟨cu.toArray⟩, .int .u8 (cz : Int), .int .u8 (mc : Int), .string ⟨mt.toArray⟩], .agg #[.int .u8 (xk : Int), .int .u64 (xn : Int), .int .u8 (xr : Int), .int .u64 (xb : Int), .int .u64 (xs : Int), .int .u8 (xo : Int), .string ⟨xv.toArray⟩, .slice C wl.length kc, .slice D jl.length kd, .int .u8 (da : Int), .int .u32 (db : Int), .int .u8 (dk : Int), .string ⟨ds.toArray⟩, .string ⟨dt.toArray⟩, .string ⟨du.toArray⟩, .int .u8 (dz : Int), .int .u8 (xc : Int), .string ⟨xt.toArray⟩]] w fun e w' => e = .returned (.bool (decide ((⟨mk, mn, mr, mb, ms, mo, mv, vl, il, ⟨ca, cb, ck, cs, ct, cu, cz⟩, mc, mt⟩ : Ms) = ⟨xk, xn, xr, xb, xs, xo, xv, wl, jl, ⟨da, db, dk, ds, dt, du, dz⟩, xc, xt⟩))) ∧ Below w.heap.size w w' := by
  refine sx_enter (n := 73) _ Tryz.func15 rfl rfl rfl (Hp.start w) ?_
  refine SxC.seq (SxC.region ?_)
  refine SxL.new (cs := [.int .u8 (mk : Int), .int .u64 (mn : Int), .int .u8 (mr : Int), .int .u64 (mb : Int), .int .u64 (ms : Int), .int .u8 (mo : Int), .string ⟨mv.toArray⟩, .slice A vl.length ka, .slice B il.length kb, .int .u8 (ca : Int), .int .u32 (cb : Int), .int .u8 (ck : Int), .string ⟨cs.toArray⟩, .string ⟨ct.toArray⟩, .string ⟨cu.toArray⟩, .int .u8 (cz : Int), .int .u8 (mc : Int), .string ⟨mt.toArray⟩]) trivial rfl rfl (fun ρ w E H => ex_box E rfl rfl rfl) fun g1 hg1 => ?_
  refine SxL.new (cs := [.int .u8 (xk : Int), .int .u64 (xn : Int), .int .u8 (xr : Int), .int .u64 (xb : Int), .int .u64 (xs : Int), .int .u8 (xo : Int), .string ⟨xv.toArray⟩, .slice C wl.length kc, .slice D jl.length kd, .int .u8 (da : Int), .int .u32 (db : Int), .int .u8 (dk : Int), .string ⟨ds.toArray⟩, .string ⟨dt.toArray⟩, .string ⟨du.toArray⟩, .int .u8 (dz : Int), .int .u8 (xc : Int), .string ⟨xt.toArray⟩]) trivial rfl rfl (fun ρ w E H => ex_box E rfl rfl rfl) fun g2 hg2 => ?_
  refine SxL.val trivial rfl rfl (fun ρ w E H => ex_assign E rfl rfl) ?_
  refine SxL.nil (SxN.then_ (SxC.seq (SxC.region ?_)))
  refine SxL.val (v := .pointer (some ⟨g1, 0, none⟩)) trivial rfl rfl (fun ρ w E H => ex_field E rfl fa_palaver_api_Msg_0 rfl rfl) ?_
  refine SxL.val trivial rfl rfl (fun ρ w E H => ex_load1 E (H.get (i := 1) rfl) rfl rfl Tryz.underlying5 rfl rfl) ?_
  refine SxL.val (v := .pointer (some ⟨g2, 0, none⟩)) trivial rfl rfl (fun ρ w E H => ex_field E rfl fa_palaver_api_Msg_0 rfl rfl) ?_
  refine SxL.val trivial rfl rfl (fun ρ w E H => ex_load1 E (H.get (i := 0) rfl) rfl rfl Tryz.underlying5 rfl rfl) ?_
  refine SxL.valB trivial rfl rfl (fun ρ w E H => ex_cmp E rfl rfl rfl rfl rfl) fun c9 hc9 => ?_
  refine SxL.val trivial rfl rfl (fun ρ w E H => ex_move E rfl rfl) ?_
  cases c9
  · refine SxL.off ⟨_, _, _, rfl, rfl, rfl, nofun⟩ rfl rfl ?_
    iterate 4 refine SxL.off ⟨_, _, _, rfl, rfl, rfl, nofun⟩ rfl rfl ?_
    refine SxL.val trivial rfl rfl (fun ρ w E H => ex_pick E rfl (t := false) rfl rfl) ?_
    refine SxL.val trivial rfl rfl (fun ρ w E H => ex_move E rfl rfl) ?_
    iterate 5 refine SxL.off ⟨_, _, _, rfl, rfl, rfl, nofun⟩ rfl rfl ?_
    refine SxL.val trivial rfl rfl (fun ρ w E H => ex_pick E rfl (t := false) rfl rfl) ?_
    refine SxL.val trivial rfl rfl (fun ρ w E H => ex_move E rfl rfl) ?_
    iterate 5 refine SxL.off ⟨_, _, _, rfl, rfl, rfl, nofun⟩ rfl rfl ?_
    refine SxL.val trivial rfl rfl (fun ρ w E H => ex_pick E rfl (t := false) rfl rfl) ?_
    refine SxL.val trivial rfl rfl (fun ρ w E H => ex_move E rfl rfl) ?_
    iterate 5 refine SxL.off ⟨_, _, _, rfl, rfl, rfl, nofun⟩ rfl rfl ?_
    refine SxL.val trivial rfl rfl (fun ρ w E H => ex_pick E rfl (t := false) rfl rfl) ?_
    refine SxL.val trivial rfl rfl (fun ρ w E H => ex_move E rfl rfl) ?_
    iterate 5 refine SxL.off ⟨_, _, _, rfl, rfl, rfl, nofun⟩ rfl rfl ?_
    refine SxL.val trivial rfl rfl (fun ρ w E H => ex_pick E rfl (t := false) rfl rfl) ?_
    refine SxL.val trivial rfl rfl (fun ρ w E H => ex_move E rfl rfl) ?_
    iterate 5 refine SxL.off ⟨_, _, _, rfl, rfl, rfl, nofun⟩ rfl rfl ?_
    refine SxL.val trivial rfl rfl (fun ρ w E H => ex_pick E rfl (t := false) rfl rfl) ?_
    refine SxL.val trivial rfl rfl (fun ρ w E H => ex_move E rfl rfl) ?_
    iterate 5 refine SxL.off ⟨_, _, _, rfl, rfl, rfl, nofun⟩ rfl rfl ?_
    refine SxL.val trivial rfl rfl (fun ρ w E H => ex_pick E rfl (t := false) rfl rfl) ?_
    refine SxL.val trivial rfl rfl (fun ρ w E H => ex_move E rfl rfl) ?_
    iterate 5 refine SxL.off ⟨_, _, _, rfl, rfl, rfl, nofun⟩ rfl rfl ?_
    refine SxL.val trivial rfl rfl (fun ρ w E H => ex_pick E rfl (t := false) rfl rfl) ?_
    refine SxL.val trivial rfl rfl (fun ρ w E H => ex_move E rfl rfl) ?_
    iterate 5 refine SxL.off ⟨_, _, _, rfl, rfl, rfl, nofun⟩ rfl rfl ?_
    refine SxL.val trivial rfl rfl (fun ρ w E H => ex_pick E rfl (t := false) rfl rfl) ?_
    refine SxL.val trivial rfl rfl (fun ρ w E H => ex_assign E rfl rfl) ?_
    refine SxL.nil (SxN.then_ (SxC.ret ?_))
    refine SxX.done (.bool false) (fun a w K H => res1 K rfl rfl) (fun w H => ?_)
    have hq : false = decide ((⟨mk, mn, mr, mb, ms, mo, mv, vl, il, ⟨ca, cb, ck, cs, ct, cu, cz⟩, mc, mt⟩ : Ms) = ⟨xk, xn, xr, xb, xs, xo, xv, wl, jl, ⟨da, db, dk, ds, dt, du, dz⟩, xc, xt⟩) := by clear H; grind [cmpB]
    exact ⟨by rw [hq], H.toBelow ⟨(fun g hg => by rw [List.mem_singleton.1 hg]; exact hg2), (fun g hg => by rw [List.mem_singleton.1 hg]; exact hg1), trivial⟩⟩
  · refine SxL.val (v := .pointer (some ⟨g1, 1, none⟩)) ⟨_, _, rfl, rfl, rfl⟩ rfl rfl (fun ρ w E H => ex_field E rfl fa_palaver_api_Msg_1 rfl rfl) ?_
    refine SxL.val ⟨_, _, rfl, rfl, rfl⟩ rfl rfl (fun ρ w E H => ex_load (part := [.int .u64 (mn : Int), .int .u8 (mr : Int)]) E (H.get (i := 1) rfl) rfl rfl Tryz.underlying24 rfl sz_palaver_api_Ballot rfl rfl) ?_
    refine SxL.val (v := .pointer (some ⟨g2, 1, none⟩)) ⟨_, _, rfl, rfl, rfl⟩ rfl rfl (fun ρ w E H => ex_field E rfl fa_palaver_api_Msg_1 rfl rfl) ?_
    refine SxL.val ⟨_, _, rfl, rfl, rfl⟩ rfl rfl (fun ρ w E H => ex_load (part := [.int .u64 (xn : Int), .int .u8 (xr : Int)]) E (H.get (i := 0) rfl) rfl rfl Tryz.underlying24 rfl sz_palaver_api_Ballot rfl rfl) ?_
    refine SxL.valB ⟨_, _, rfl, rfl, rfl⟩ rfl rfl (fun ρ w E H => ex_aeql E rfl (by kernel_rfl) rfl rfl (fun w => eq_bal mn mr xn xr w)) fun c15 hc15 => ?_
    refine SxL.val trivial rfl rfl (fun ρ w E H => ex_pick E rfl (t := true) rfl rfl) ?_
    refine SxL.val trivial rfl rfl (fun ρ w E H => ex_move E rfl rfl) ?_
    cases c15
    · refine SxL.off ⟨_, _, _, rfl, rfl, rfl, nofun⟩ rfl rfl ?_
      iterate 4 refine SxL.off ⟨_, _, _, rfl, rfl, rfl, nofun⟩ rfl rfl ?_
      refine SxL.val trivial rfl rfl (fun ρ w E H => ex_pick E rfl (t := false) rfl rfl) ?_
      refine SxL.val trivial rfl rfl (fun ρ w E H => ex_move E rfl rfl) ?_
      iterate 5 refine SxL.off ⟨_, _, _, rfl, rfl, rfl, nofun⟩ rfl rfl ?_
      refine SxL.val trivial rfl rfl (fun ρ w E H => ex_pick E rfl (t := false) rfl rfl) ?_
      refine SxL.val trivial rfl rfl (fun ρ w E H => ex_move E rfl rfl) ?_
      iterate 5 refine SxL.off ⟨_, _, _, rfl, rfl, rfl, nofun⟩ rfl rfl ?_
      refine SxL.val trivial rfl rfl (fun ρ w E H => ex_pick E rfl (t := false) rfl rfl) ?_
      refine SxL.val trivial rfl rfl (fun ρ w E H => ex_move E rfl rfl) ?_
      iterate 5 refine SxL.off ⟨_, _, _, rfl, rfl, rfl, nofun⟩ rfl rfl ?_
      refine SxL.val trivial rfl rfl (fun ρ w E H => ex_pick E rfl (t := false) rfl rfl) ?_
      refine SxL.val trivial rfl rfl (fun ρ w E H => ex_move E rfl rfl) ?_
      iterate 5 refine SxL.off ⟨_, _, _, rfl, rfl, rfl, nofun⟩ rfl rfl ?_
      refine SxL.val trivial rfl rfl (fun ρ w E H => ex_pick E rfl (t := false) rfl rfl) ?_
      refine SxL.val trivial rfl rfl (fun ρ w E H => ex_move E rfl rfl) ?_
      iterate 5 refine SxL.off ⟨_, _, _, rfl, rfl, rfl, nofun⟩ rfl rfl ?_
      refine SxL.val trivial rfl rfl (fun ρ w E H => ex_pick E rfl (t := false) rfl rfl) ?_
      refine SxL.val trivial rfl rfl (fun ρ w E H => ex_move E rfl rfl) ?_
      iterate 5 refine SxL.off ⟨_, _, _, rfl, rfl, rfl, nofun⟩ rfl rfl ?_
      refine SxL.val trivial rfl rfl (fun ρ w E H => ex_pick E rfl (t := false) rfl rfl) ?_
      refine SxL.val trivial rfl rfl (fun ρ w E H => ex_move E rfl rfl) ?_
      iterate 5 refine SxL.off ⟨_, _, _, rfl, rfl, rfl, nofun⟩ rfl rfl ?_
      refine SxL.val trivial rfl rfl (fun ρ w E H => ex_pick E rfl (t := false) rfl rfl) ?_
      refine SxL.val trivial rfl rfl (fun ρ w E H => ex_assign E rfl rfl) ?_
      refine SxL.nil (SxN.then_ (SxC.ret ?_))
      refine SxX.done (.bool false) (fun a w K H => res1 K rfl rfl) (fun w H => ?_)
      have hq : false = decide ((⟨mk, mn, mr, mb, ms, mo, mv, vl, il, ⟨ca, cb, ck, cs, ct, cu, cz⟩, mc, mt⟩ : Ms) = ⟨xk, xn, xr, xb, xs, xo, xv, wl, jl, ⟨da, db, dk, ds, dt, du, dz⟩, xc, xt⟩) := by clear H; grind [cmpB]
      exact ⟨by rw [hq], H.toBelow ⟨(fun g hg => by rw [List.mem_singleton.1 hg]; exact hg2), (fun g hg => by rw [List.mem_singleton.1 hg]; exact hg1), trivial⟩⟩
    · refine SxL.val (v := .pointer (some ⟨g1, 3, none⟩)) ⟨_, _, rfl, rfl, rfl⟩ rfl rfl (fun ρ w E H => ex_field E rfl fa_palaver_api_Msg_2 rfl rfl) ?_
      refine SxL.val ⟨_, _, rfl, rfl, rfl⟩ rfl rfl (fun ρ w E H => ex_load1 E (H.get (i := 1) rfl) rfl rfl Tryz.underlying22 rfl rfl) ?_
      refine SxL.val (v := .pointer (some ⟨g2, 3, none⟩)) ⟨_, _, rfl, rfl, rfl⟩ rfl rfl (fun ρ w E H => ex_field E rfl fa_palaver_api_Msg_2 rfl rfl) ?_
      refine SxL.val ⟨_, _, rfl, rfl, rfl⟩ rfl rfl (fun ρ w E H => ex_load1 E (H.get (i := 0) rfl) rfl rfl Tryz.underlying22 rfl rfl) ?_
      refine SxL.valB ⟨_, _, rfl, rfl, rfl⟩ rfl rfl (fun ρ w E H => ex_cmp E rfl rfl rfl rfl rfl) fun c22 hc22 => ?_
      refine SxL.val trivial rfl rfl (fun ρ w E H => ex_pick E rfl (t := true) rfl rfl) ?_
      refine SxL.val trivial rfl rfl (fun ρ w E H => ex_move E rfl rfl) ?_
      cases c22
      · refine SxL.off ⟨_, _, _, rfl, rfl, rfl, nofun⟩ rfl rfl ?_
        iterate 4 refine SxL.off ⟨_, _, _, rfl, rfl, rfl, nofun⟩ rfl rfl ?_
        refine SxL.val trivial rfl rfl (fun ρ w E H => ex_pick E rfl (t := false) rfl rfl) ?_
        refine SxL.val trivial rfl rfl (fun ρ w E H => ex_move E rfl rfl) ?_
        iterate 5 refine SxL.off ⟨_, _, _, rfl, rfl, rfl, nofun⟩ rfl rfl ?_
        refine SxL.val trivial rfl rfl (fun ρ w E H => ex_pick E rfl (t := false) rfl rfl) ?_
        refine SxL.val trivial rfl rfl (fun ρ w E H => ex_move E rfl rfl) ?_
        iterate 5 refine SxL.off ⟨_, _, _, rfl, rfl, rfl, nofun⟩ rfl rfl ?_
        refine SxL.val trivial rfl rfl (fun ρ w E H => ex_pick E rfl (t := false) rfl rfl) ?_
        refine SxL.val trivial rfl rfl (fun ρ w E H => ex_move E rfl rfl) ?_
        iterate 5 refine SxL.off ⟨_, _, _, rfl, rfl, rfl, nofun⟩ rfl rfl ?_
        refine SxL.val trivial rfl rfl (fun ρ w E H => ex_pick E rfl (t := false) rfl rfl) ?_
        refine SxL.val trivial rfl rfl (fun ρ w E H => ex_move E rfl rfl) ?_
        iterate 5 refine SxL.off ⟨_, _, _, rfl, rfl, rfl, nofun⟩ rfl rfl ?_
        refine SxL.val trivial rfl rfl (fun ρ w E H => ex_pick E rfl (t := false) rfl rfl) ?_
        refine SxL.val trivial rfl rfl (fun ρ w E H => ex_move E rfl rfl) ?_
        iterate 5 refine SxL.off ⟨_, _, _, rfl, rfl, rfl, nofun⟩ rfl rfl ?_
        refine SxL.val trivial rfl rfl (fun ρ w E H => ex_pick E rfl (t := false) rfl rfl) ?_
        refine SxL.val trivial rfl rfl (fun ρ w E H => ex_move E rfl rfl) ?_
        iterate 5 refine SxL.off ⟨_, _, _, rfl, rfl, rfl, nofun⟩ rfl rfl ?_
        refine SxL.val trivial rfl rfl (fun ρ w E H => ex_pick E rfl (t := false) rfl rfl) ?_
        refine SxL.val trivial rfl rfl (fun ρ w E H => ex_assign E rfl rfl) ?_
        refine SxL.nil (SxN.then_ (SxC.ret ?_))
        refine SxX.done (.bool false) (fun a w K H => res1 K rfl rfl) (fun w H => ?_)
        have hq : false = decide ((⟨mk, mn, mr, mb, ms, mo, mv, vl, il, ⟨ca, cb, ck, cs, ct, cu, cz⟩, mc, mt⟩ : Ms) = ⟨xk, xn, xr, xb, xs, xo, xv, wl, jl, ⟨da, db, dk, ds, dt, du, dz⟩, xc, xt⟩) := by clear H; grind [cmpB]
        exact ⟨by rw [hq], H.toBelow ⟨(fun g hg => by rw [List.mem_singleton.1 hg]; exact hg2), (fun g hg => by rw [List.mem_singleton.1 hg]; exact hg1), trivial⟩⟩
      · refine SxL.val (v := .pointer (some ⟨g1, 4, none⟩)) ⟨_, _, rfl, rfl, rfl⟩ rfl rfl (fun ρ w E H => ex_field E rfl fa_palaver_api_Msg_3 rfl rfl) ?_
        refine SxL.val ⟨_, _, rfl, rfl, rfl⟩ rfl rfl (fun ρ w E H => ex_load1 E (H.get (i := 1) rfl) rfl rfl Tryz.underlying22 rfl rfl) ?_
        refine SxL.val (v := .pointer (some ⟨g2, 4, none⟩)) ⟨_, _, rfl, rfl, rfl⟩ rfl rfl (fun ρ w E H => ex_field E rfl fa_palaver_api_Msg_3 rfl rfl) ?_
        refine SxL.val ⟨_, _, rfl, rfl, rfl⟩ rfl rfl (fun ρ w E H => ex_load1 E (H.get (i := 0) rfl) rfl rfl Tryz.underlying22 rfl rfl) ?_
        refine SxL.valB ⟨_, _, rfl, rfl, rfl⟩ rfl rfl (fun ρ w E H => ex_cmp E rfl rfl rfl rfl rfl) fun c29 hc29 => ?_
        refine SxL.val trivial rfl rfl (fun ρ w E H => ex_pick E rfl (t := true) rfl rfl) ?_
        refine SxL.val trivial rfl rfl (fun ρ w E H => ex_move E rfl rfl) ?_
        cases c29
        · refine SxL.off ⟨_, _, _, rfl, rfl, rfl, nofun⟩ rfl rfl ?_
          iterate 4 refine SxL.off ⟨_, _, _, rfl, rfl, rfl, nofun⟩ rfl rfl ?_
          refine SxL.val trivial rfl rfl (fun ρ w E H => ex_pick E rfl (t := false) rfl rfl) ?_
          refine SxL.val trivial rfl rfl (fun ρ w E H => ex_move E rfl rfl) ?_
          iterate 5 refine SxL.off ⟨_, _, _, rfl, rfl, rfl, nofun⟩ rfl rfl ?_
          refine SxL.val trivial rfl rfl (fun ρ w E H => ex_pick E rfl (t := false) rfl rfl) ?_
          refine SxL.val trivial rfl rfl (fun ρ w E H => ex_move E rfl rfl) ?_
          iterate 5 refine SxL.off ⟨_, _, _, rfl, rfl, rfl, nofun⟩ rfl rfl ?_
          refine SxL.val trivial rfl rfl (fun ρ w E H => ex_pick E rfl (t := false) rfl rfl) ?_
          refine SxL.val trivial rfl rfl (fun ρ w E H => ex_move E rfl rfl) ?_
          iterate 5 refine SxL.off ⟨_, _, _, rfl, rfl, rfl, nofun⟩ rfl rfl ?_
          refine SxL.val trivial rfl rfl (fun ρ w E H => ex_pick E rfl (t := false) rfl rfl) ?_
          refine SxL.val trivial rfl rfl (fun ρ w E H => ex_move E rfl rfl) ?_
          iterate 5 refine SxL.off ⟨_, _, _, rfl, rfl, rfl, nofun⟩ rfl rfl ?_
          refine SxL.val trivial rfl rfl (fun ρ w E H => ex_pick E rfl (t := false) rfl rfl) ?_
          refine SxL.val trivial rfl rfl (fun ρ w E H => ex_move E rfl rfl) ?_
          iterate 5 refine SxL.off ⟨_, _, _, rfl, rfl, rfl, nofun⟩ rfl rfl ?_
          refine SxL.val trivial rfl rfl (fun ρ w E H => ex_pick E rfl (t := false) rfl rfl) ?_
          refine SxL.val trivial rfl rfl (fun ρ w E H => ex_assign E rfl rfl) ?_
          refine SxL.nil (SxN.then_ (SxC.ret ?_))
          refine SxX.done (.bool false) (fun a w K H => res1 K rfl rfl) (fun w H => ?_)
          have hq : false = decide ((⟨mk, mn, mr, mb, ms, mo, mv, vl, il, ⟨ca, cb, ck, cs, ct, cu, cz⟩, mc, mt⟩ : Ms) = ⟨xk, xn, xr, xb, xs, xo, xv, wl, jl, ⟨da, db, dk, ds, dt, du, dz⟩, xc, xt⟩) := by clear H; grind [cmpB]
          exact ⟨by rw [hq], H.toBelow ⟨(fun g hg => by rw [List.mem_singleton.1 hg]; exact hg2), (fun g hg => by rw [List.mem_singleton.1 hg]; exact hg1), trivial⟩⟩
        · refine SxL.val (v := .pointer (some ⟨g1, 5, none⟩)) ⟨_, _, rfl, rfl, rfl⟩ rfl rfl (fun ρ w E H => ex_field E rfl fa_palaver_api_Msg_4 rfl rfl) ?_
          refine SxL.val ⟨_, _, rfl, rfl, rfl⟩ rfl rfl (fun ρ w E H => ex_load1 E (H.get (i := 1) rfl) rfl rfl Tryz.underlying5 rfl rfl) ?_
          refine SxL.val (v := .pointer (some ⟨g2, 5, none⟩)) ⟨_, _, rfl, rfl, rfl⟩ rfl rfl (fun ρ w E H => ex_field E rfl fa_palaver_api_Msg_4 rfl rfl) ?_
          refine SxL.val ⟨_, _, rfl, rfl, rfl⟩ rfl rfl (fun ρ w E H => ex_load1 E (H.get (i := 0) rfl) rfl rfl Tryz.underlying5 rfl rfl) ?_
          refine SxL.valB ⟨_, _, rfl, rfl, rfl⟩ rfl rfl (fun ρ w E H => ex_cmp E rfl rfl rfl rfl rfl) fun c36 hc36 => ?_
          refine SxL.val trivial rfl rfl (fun ρ w E H => ex_pick E rfl (t := true) rfl rfl) ?_
          refine SxL.val trivial rfl rfl (fun ρ w E H => ex_move E rfl rfl) ?_
          cases c36
          · refine SxL.off ⟨_, _, _, rfl, rfl, rfl, nofun⟩ rfl rfl ?_
            iterate 4 refine SxL.off ⟨_, _, _, rfl, rfl, rfl, nofun⟩ rfl rfl ?_
            refine SxL.val trivial rfl rfl (fun ρ w E H => ex_pick E rfl (t := false) rfl rfl) ?_
            refine SxL.val trivial rfl rfl (fun ρ w E H => ex_move E rfl rfl) ?_
            iterate 5 refine SxL.off ⟨_, _, _, rfl, rfl, rfl, nofun⟩ rfl rfl ?_
            refine SxL.val trivial rfl rfl (fun ρ w E H => ex_pick E rfl (t := false) rfl rfl) ?_
            refine SxL.val trivial rfl rfl (fun ρ w E H => ex_move E rfl rfl) ?_
            iterate 5 refine SxL.off ⟨_, _, _, rfl, rfl, rfl, nofun⟩ rfl rfl ?_
            refine SxL.val trivial rfl rfl (fun ρ w E H => ex_pick E rfl (t := false) rfl rfl) ?_
            refine SxL.val trivial rfl rfl (fun ρ w E H => ex_move E rfl rfl) ?_
            iterate 5 refine SxL.off ⟨_, _, _, rfl, rfl, rfl, nofun⟩ rfl rfl ?_
            refine SxL.val trivial rfl rfl (fun ρ w E H => ex_pick E rfl (t := false) rfl rfl) ?_
            refine SxL.val trivial rfl rfl (fun ρ w E H => ex_move E rfl rfl) ?_
            iterate 5 refine SxL.off ⟨_, _, _, rfl, rfl, rfl, nofun⟩ rfl rfl ?_
            refine SxL.val trivial rfl rfl (fun ρ w E H => ex_pick E rfl (t := false) rfl rfl) ?_
            refine SxL.val trivial rfl rfl (fun ρ w E H => ex_assign E rfl rfl) ?_
            refine SxL.nil (SxN.then_ (SxC.ret ?_))
            refine SxX.done (.bool false) (fun a w K H => res1 K rfl rfl) (fun w H => ?_)
            have hq : false = decide ((⟨mk, mn, mr, mb, ms, mo, mv, vl, il, ⟨ca, cb, ck, cs, ct, cu, cz⟩, mc, mt⟩ : Ms) = ⟨xk, xn, xr, xb, xs, xo, xv, wl, jl, ⟨da, db, dk, ds, dt, du, dz⟩, xc, xt⟩) := by clear H; grind [cmpB]
            exact ⟨by rw [hq], H.toBelow ⟨(fun g hg => by rw [List.mem_singleton.1 hg]; exact hg2), (fun g hg => by rw [List.mem_singleton.1 hg]; exact hg1), trivial⟩⟩
          · refine SxL.val (v := .pointer (some ⟨g1, 6, none⟩)) ⟨_, _, rfl, rfl, rfl⟩ rfl rfl (fun ρ w E H => ex_field E rfl fa_palaver_api_Msg_5 rfl rfl) ?_
            refine SxL.val ⟨_, _, rfl, rfl, rfl⟩ rfl rfl (fun ρ w E H => ex_load1 E (H.get (i := 1) rfl) rfl rfl Tryz.underlying9 rfl rfl) ?_
            refine SxL.val (v := .pointer (some ⟨g2, 6, none⟩)) ⟨_, _, rfl, rfl, rfl⟩ rfl rfl (fun ρ w E H => ex_field E rfl fa_palaver_api_Msg_5 rfl rfl) ?_
            refine SxL.val ⟨_, _, rfl, rfl, rfl⟩ rfl rfl (fun ρ w E H => ex_load1 E (H.get (i := 0) rfl) rfl rfl Tryz.underlying9 rfl rfl) ?_
            refine SxL.valB ⟨_, _, rfl, rfl, rfl⟩ rfl rfl (fun ρ w E H => ex_seql E rfl rfl rfl rfl) fun c43 hc43 => ?_
            refine SxL.val trivial rfl rfl (fun ρ w E H => ex_pick E rfl (t := true) rfl rfl) ?_
            refine SxL.val trivial rfl rfl (fun ρ w E H => ex_move E rfl rfl) ?_
            cases c43
            · refine SxL.off ⟨_, _, _, rfl, rfl, rfl, nofun⟩ rfl rfl ?_
              iterate 4 refine SxL.off ⟨_, _, _, rfl, rfl, rfl, nofun⟩ rfl rfl ?_
              refine SxL.val trivial rfl rfl (fun ρ w E H => ex_pick E rfl (t := false) rfl rfl) ?_
              refine SxL.val trivial rfl rfl (fun ρ w E H => ex_move E rfl rfl) ?_
              iterate 5 refine SxL.off ⟨_, _, _, rfl, rfl, rfl, nofun⟩ rfl rfl ?_
              refine SxL.val trivial rfl rfl (fun ρ w E H => ex_pick E rfl (t := false) rfl rfl) ?_
              refine SxL.val trivial rfl rfl (fun ρ w E H => ex_move E rfl rfl) ?_
              iterate 5 refine SxL.off ⟨_, _, _, rfl, rfl, rfl, nofun⟩ rfl rfl ?_
              refine SxL.val trivial rfl rfl (fun ρ w E H => ex_pick E rfl (t := false) rfl rfl) ?_
              refine SxL.val trivial rfl rfl (fun ρ w E H => ex_move E rfl rfl) ?_
              iterate 5 refine SxL.off ⟨_, _, _, rfl, rfl, rfl, nofun⟩ rfl rfl ?_
              refine SxL.val trivial rfl rfl (fun ρ w E H => ex_pick E rfl (t := false) rfl rfl) ?_
              refine SxL.val trivial rfl rfl (fun ρ w E H => ex_assign E rfl rfl) ?_
              refine SxL.nil (SxN.then_ (SxC.ret ?_))
              refine SxX.done (.bool false) (fun a w K H => res1 K rfl rfl) (fun w H => ?_)
              have hq : false = decide ((⟨mk, mn, mr, mb, ms, mo, mv, vl, il, ⟨ca, cb, ck, cs, ct, cu, cz⟩, mc, mt⟩ : Ms) = ⟨xk, xn, xr, xb, xs, xo, xv, wl, jl, ⟨da, db, dk, ds, dt, du, dz⟩, xc, xt⟩) := by clear H; grind [cmpB]
              exact ⟨by rw [hq], H.toBelow ⟨(fun g hg => by rw [List.mem_singleton.1 hg]; exact hg2), (fun g hg => by rw [List.mem_singleton.1 hg]; exact hg1), trivial⟩⟩
            · refine SxL.val (v := .pointer (some ⟨g1, 9, none⟩)) ⟨_, _, rfl, rfl, rfl⟩ rfl rfl (fun ρ w E H => ex_field E rfl fa_palaver_api_Msg_8 rfl rfl) ?_
              refine SxL.val ⟨_, _, rfl, rfl, rfl⟩ rfl rfl (fun ρ w E H => ex_load (part := [.int .u8 (ca : Int), .int .u32 (cb : Int), .int .u8 (ck : Int), .string ⟨cs.toArray⟩, .string ⟨ct.toArray⟩, .string ⟨cu.toArray⟩, .int .u8 (cz : Int)]) E (H.get (i := 1) rfl) rfl rfl Tryz.underlying29 rfl sz_palaver_api_Cmd rfl rfl) ?_
              refine SxL.val (v := .pointer (some ⟨g2, 9, none⟩)) ⟨_, _, rfl, rfl, rfl⟩ rfl rfl (fun ρ w E H => ex_field E rfl fa_palaver_api_Msg_8 rfl rfl) ?_
              refine SxL.val ⟨_, _, rfl, rfl, rfl⟩ rfl rfl (fun ρ w E H => ex_load (part := [.int .u8 (da : Int), .int .u32 (db : Int), .int .u8 (dk : Int), .string ⟨ds.toArray⟩, .string ⟨dt.toArray⟩, .string ⟨du.toArray⟩, .int .u8 (dz : Int)]) E (H.get (i := 0) rfl) rfl rfl Tryz.underlying29 rfl sz_palaver_api_Cmd rfl rfl) ?_
              refine SxL.valB ⟨_, _, rfl, rfl, rfl⟩ rfl rfl (fun ρ w E H => ex_aeql E rfl (by kernel_rfl) rfl rfl (fun w => eq_cm (⟨ca, cb, ck, cs, ct, cu, cz⟩ : Cmd.Cm) ⟨da, db, dk, ds, dt, du, dz⟩ w)) fun c50 hc50 => ?_
              refine SxL.val trivial rfl rfl (fun ρ w E H => ex_pick E rfl (t := true) rfl rfl) ?_
              refine SxL.val trivial rfl rfl (fun ρ w E H => ex_move E rfl rfl) ?_
              cases c50
              · refine SxL.off ⟨_, _, _, rfl, rfl, rfl, nofun⟩ rfl rfl ?_
                iterate 4 refine SxL.off ⟨_, _, _, rfl, rfl, rfl, nofun⟩ rfl rfl ?_
                refine SxL.val trivial rfl rfl (fun ρ w E H => ex_pick E rfl (t := false) rfl rfl) ?_
                refine SxL.val trivial rfl rfl (fun ρ w E H => ex_move E rfl rfl) ?_
                iterate 5 refine SxL.off ⟨_, _, _, rfl, rfl, rfl, nofun⟩ rfl rfl ?_
                refine SxL.val trivial rfl rfl (fun ρ w E H => ex_pick E rfl (t := false) rfl rfl) ?_
                refine SxL.val trivial rfl rfl (fun ρ w E H => ex_move E rfl rfl) ?_
                iterate 5 refine SxL.off ⟨_, _, _, rfl, rfl, rfl, nofun⟩ rfl rfl ?_
                refine SxL.val trivial rfl rfl (fun ρ w E H => ex_pick E rfl (t := false) rfl rfl) ?_
                refine SxL.val trivial rfl rfl (fun ρ w E H => ex_assign E rfl rfl) ?_
                refine SxL.nil (SxN.then_ (SxC.ret ?_))
                refine SxX.done (.bool false) (fun a w K H => res1 K rfl rfl) (fun w H => ?_)
                have hq : false = decide ((⟨mk, mn, mr, mb, ms, mo, mv, vl, il, ⟨ca, cb, ck, cs, ct, cu, cz⟩, mc, mt⟩ : Ms) = ⟨xk, xn, xr, xb, xs, xo, xv, wl, jl, ⟨da, db, dk, ds, dt, du, dz⟩, xc, xt⟩) := by clear H; grind [cmpB]
                exact ⟨by rw [hq], H.toBelow ⟨(fun g hg => by rw [List.mem_singleton.1 hg]; exact hg2), (fun g hg => by rw [List.mem_singleton.1 hg]; exact hg1), trivial⟩⟩
              · refine SxL.val (v := .pointer (some ⟨g1, 16, none⟩)) ⟨_, _, rfl, rfl, rfl⟩ rfl rfl (fun ρ w E H => ex_field E rfl fa_palaver_api_Msg_9 rfl rfl) ?_
                refine SxL.val ⟨_, _, rfl, rfl, rfl⟩ rfl rfl (fun ρ w E H => ex_load (part := [.int .u8 (mc : Int), .string ⟨mt.toArray⟩]) E (H.get (i := 1) rfl) rfl rfl Tryz.underlying31 rfl sz_palaver_api_Reply rfl rfl) ?_
                refine SxL.val (v := .pointer (some ⟨g2, 16, none⟩)) ⟨_, _, rfl, rfl, rfl⟩ rfl rfl (fun ρ w E H => ex_field E rfl fa_palaver_api_Msg_9 rfl rfl) ?_
                refine SxL.val ⟨_, _, rfl, rfl, rfl⟩ rfl rfl (fun ρ w E H => ex_load (part := [.int .u8 (xc : Int), .string ⟨xt.toArray⟩]) E (H.get (i := 0) rfl) rfl rfl Tryz.underlying31 rfl sz_palaver_api_Reply rfl rfl) ?_
                refine SxL.valB ⟨_, _, rfl, rfl, rfl⟩ rfl rfl (fun ρ w E H => ex_aeql E rfl (by kernel_rfl) rfl rfl (fun w => eq_ry mc xc mt xt w)) fun c57 hc57 => ?_
                refine SxL.val trivial rfl rfl (fun ρ w E H => ex_pick E rfl (t := true) rfl rfl) ?_
                refine SxL.val trivial rfl rfl (fun ρ w E H => ex_move E rfl rfl) ?_
                cases c57
                · refine SxL.off ⟨_, _, _, rfl, rfl, rfl, nofun⟩ rfl rfl ?_
                  iterate 4 refine SxL.off ⟨_, _, _, rfl, rfl, rfl, nofun⟩ rfl rfl ?_
                  refine SxL.val trivial rfl rfl (fun ρ w E H => ex_pick E rfl (t := false) rfl rfl) ?_
                  refine SxL.val trivial rfl rfl (fun ρ w E H => ex_move E rfl rfl) ?_
                  iterate 5 refine SxL.off ⟨_, _, _, rfl, rfl, rfl, nofun⟩ rfl rfl ?_
                  refine SxL.val trivial rfl rfl (fun ρ w E H => ex_pick E rfl (t := false) rfl rfl) ?_
                  refine SxL.val trivial rfl rfl (fun ρ w E H => ex_assign E rfl rfl) ?_
                  refine SxL.nil (SxN.then_ (SxC.ret ?_))
                  refine SxX.done (.bool false) (fun a w K H => res1 K rfl rfl) (fun w H => ?_)
                  have hq : false = decide ((⟨mk, mn, mr, mb, ms, mo, mv, vl, il, ⟨ca, cb, ck, cs, ct, cu, cz⟩, mc, mt⟩ : Ms) = ⟨xk, xn, xr, xb, xs, xo, xv, wl, jl, ⟨da, db, dk, ds, dt, du, dz⟩, xc, xt⟩) := by clear H; grind [cmpB]
                  exact ⟨by rw [hq], H.toBelow ⟨(fun g hg => by rw [List.mem_singleton.1 hg]; exact hg2), (fun g hg => by rw [List.mem_singleton.1 hg]; exact hg1), trivial⟩⟩
                · refine SxL.val (v := .pointer (some ⟨g1, 7, none⟩)) ⟨_, _, rfl, rfl, rfl⟩ rfl rfl (fun ρ w E H => ex_field E rfl fa_palaver_api_Msg_6 rfl rfl) ?_
                  refine SxL.val ⟨_, _, rfl, rfl, rfl⟩ rfl rfl (fun ρ w E H => ex_load1 E (H.get (i := 1) rfl) rfl rfl Tryz.underlying25 rfl rfl) ?_
                  refine SxL.val (v := .pointer (some ⟨g2, 7, none⟩)) ⟨_, _, rfl, rfl, rfl⟩ rfl rfl (fun ρ w E H => ex_field E rfl fa_palaver_api_Msg_6 rfl rfl) ?_
                  refine SxL.val ⟨_, _, rfl, rfl, rfl⟩ rfl rfl (fun ρ w E H => ex_load1 E (H.get (i := 0) rfl) rfl rfl Tryz.underlying25 rfl rfl) ?_
                  refine SxL.callBB (b := (decide (vl = wl))) ⟨_, _, rfl, rfl, rfl⟩ rfl rfl (fun ρ w E => ex_call E en_slices_Equal_palaver_api_Vote_palaver_api_Vote rfl rfl) (fun w H => equalV vl wl A C ka kc w (hv.below (H.toBelow ⟨(fun g hg => by rw [List.mem_singleton.1 hg]; exact hg2), (fun g hg => by rw [List.mem_singleton.1 hg]; exact hg1), trivial⟩)) (hv2.below (H.toBelow ⟨(fun g hg => by rw [List.mem_singleton.1 hg]; exact hg2), (fun g hg => by rw [List.mem_singleton.1 hg]; exact hg1), trivial⟩)) hl1) fun c64 hc64 => ?_
                  refine SxL.val trivial rfl rfl (fun ρ w E H => ex_pick E rfl (t := true) rfl rfl) ?_
                  refine SxL.val trivial rfl rfl (fun ρ w E H => ex_move E rfl rfl) ?_
                  cases c64
                  · refine SxL.off ⟨_, _, _, rfl, rfl, rfl, nofun⟩ rfl rfl ?_
                    iterate 4 refine SxL.off ⟨_, _, _, rfl, rfl, rfl, nofun⟩ rfl rfl ?_
                    refine SxL.val trivial rfl rfl (fun ρ w E H => ex_pick E rfl (t := false) rfl rfl) ?_
                    refine SxL.val trivial rfl rfl (fun ρ w E H => ex_assign E rfl rfl) ?_
                    refine SxL.nil (SxN.then_ (SxC.ret ?_))
                    refine SxX.done (.bool false) (fun a w K H => res1 K rfl rfl) (fun w H => ?_)
                    have hq : false = decide ((⟨mk, mn, mr, mb, ms, mo, mv, vl, il, ⟨ca, cb, ck, cs, ct, cu, cz⟩, mc, mt⟩ : Ms) = ⟨xk, xn, xr, xb, xs, xo, xv, wl, jl, ⟨da, db, dk, ds, dt, du, dz⟩, xc, xt⟩) := by clear H; grind [cmpB]
                    exact ⟨by rw [hq], H.toBelow ⟨(fun g hg => by rw [List.mem_singleton.1 hg]; exact hg2), (fun g hg => by rw [List.mem_singleton.1 hg]; exact hg1), trivial⟩⟩
                  · refine SxL.val (v := .pointer (some ⟨g1, 8, none⟩)) ⟨_, _, rfl, rfl, rfl⟩ rfl rfl (fun ρ w E H => ex_field E rfl fa_palaver_api_Msg_7 rfl rfl) ?_
                    refine SxL.val ⟨_, _, rfl, rfl, rfl⟩ rfl rfl (fun ρ w E H => ex_load1 E (H.get (i := 1) rfl) rfl rfl Tryz.underlying26 rfl rfl) ?_
                    refine SxL.val (v := .pointer (some ⟨g2, 8, none⟩)) ⟨_, _, rfl, rfl, rfl⟩ rfl rfl (fun ρ w E H => ex_field E rfl fa_palaver_api_Msg_7 rfl rfl) ?_
                    refine SxL.val ⟨_, _, rfl, rfl, rfl⟩ rfl rfl (fun ρ w E H => ex_load1 E (H.get (i := 0) rfl) rfl rfl Tryz.underlying26 rfl rfl) ?_
                    refine SxL.callBB (b := (decide (il = jl))) ⟨_, _, rfl, rfl, rfl⟩ rfl rfl (fun ρ w E => ex_call E en_slices_Equal_palaver_api_Item_palaver_api_Item rfl rfl) (fun w H => equalI il jl B D kb kd w (hi.below (H.toBelow ⟨(fun g hg => by rw [List.mem_singleton.1 hg]; exact hg2), (fun g hg => by rw [List.mem_singleton.1 hg]; exact hg1), trivial⟩)) (hi2.below (H.toBelow ⟨(fun g hg => by rw [List.mem_singleton.1 hg]; exact hg2), (fun g hg => by rw [List.mem_singleton.1 hg]; exact hg1), trivial⟩)) hl2) fun c71 hc71 => ?_
                    refine SxL.val trivial rfl rfl (fun ρ w E H => ex_pick E rfl (t := true) rfl rfl) ?_
                    refine SxL.val trivial rfl rfl (fun ρ w E H => ex_assign E rfl rfl) ?_
                    refine SxL.nil (SxN.then_ (SxC.ret ?_))
                    refine SxX.done (.bool c71) (fun a w K H => res1 K rfl rfl) (fun w H => ?_)
                    have hq : c71 = decide ((⟨mk, mn, mr, mb, ms, mo, mv, vl, il, ⟨ca, cb, ck, cs, ct, cu, cz⟩, mc, mt⟩ : Ms) = ⟨xk, xn, xr, xb, xs, xo, xv, wl, jl, ⟨da, db, dk, ds, dt, du, dz⟩, xc, xt⟩) := by
                      clear H
                      have e1 : mk = xk ∧ mb = xb ∧ ms = xs ∧ mo = xo ∧ mn = xn ∧ mr = xr ∧ mv = xv ∧ mc = xc ∧ mt = xt ∧ vl = wl := by clear hc50 hc71; grind [cmpB]
                      obtain ⟨rfl, rfl, rfl, rfl, rfl, rfl, rfl, rfl, rfl, rfl⟩ := e1
                      have e2 := of_decide_eq_true hc50
                      injection e2 with f1 f2 f3 f4 f5 f6 f7
                      subst f1 f2 f3 f4 f5 f6 f7
                      rw [← hc71]
                      simp
                    exact ⟨by rw [hq], H.toBelow ⟨(fun g hg => by rw [List.mem_singleton.1 hg]; exact hg2), (fun g hg => by rw [List.mem_singleton.1 hg]; exact hg1), trivial⟩⟩

theorem same_any (m x : Ms) (A B C D : Option Addr) (ka kb kc kd : Nat) (w : World) (h1 : MsRows w m A B) (h2 : MsRows w x C D) (hl1 : m.votes.length ≤ 1000000) (hl2 : m.items.length ≤ 1000000) :
    Calls Tryz.prog 15 #[msV m A ka B kb, msV x C kc D kd] w fun e w' => e = .returned (.bool (decide (m = x))) ∧ Below w.heap.size w w' := by
  obtain ⟨mk, mn, mr, mb, ms, mo, mv, vl, il, ⟨ca, cb, ck, cs, ct, cu, cz⟩, mc, mt⟩ := m
  obtain ⟨xk, xn, xr, xb, xs, xo, xv, wl, jl, ⟨da, db, dk, ds, dt, du, dz⟩, xc, xt⟩ := x
  exact same_lit _ _ _ _ _ _ _ _ _ _ _ _ _ _ _ _ _ _ _ _ _ _ _ _ _ _ _ _ _ _ _ _ _ _ _ _ _ _ _ _ _ _ _ _ w h1.hv h1.hi h2.hv h2.hi hl1 hl2
end Go.Proofs.YteiaiilfekojfaaGreat.Msg
end
section
set_option linter.unusedVariables false
set_option linter.unusedSimpArgs false
namespace Go.Proofs.YteiaiilfekojfaaGreat.Sx
open Go.RowKit DrawInv Wire
section
variable {P : Program} {ops : Array Oper} {Q Q' : Exit → Act → World → Prop} {n : Nat} {vs : Vs} {w0 : World} {L : List Ft} {o : Oper} {rest : List Oper}
theorem ex_convS {ρ : Operand → Value} {w : World} {src dst e : TypeId} {x : Operand} {v : Value} {base e' m : Nat} {xs : List Value} {l : List UInt8} (E : Env vs ρ) (ho : o.op = .convert src dst x) (hs : P.underlying src = some (.slice e)) (he : P.underlying e = some (.int .u8)) (hd : P.underlying dst = some .string)
    (hx : opv vs x = some v) (hown : w.ownsRow base e' 1 v m xs) (hxs : xs = bv l) : (execOp ρ o).run P w = .ok (.value (.string ⟨l.toArray⟩)) w := by
  subst hxs
  obtain ⟨A, c, rfl, hr⟩ := own_slice1 hown
  unfold execOp; rw [ho]
  simp only [E.ev hx, Sem.run_bind]
  rw [conv_str hs he hd c hr]
  rfl
/-- A call that hands back a row of one's own among other things. -/
theorem callOwnV {f : Nat} {args : Array Value} {e : TypeId} {sz m : Nat} {xs : List Value} (vf : Value → Value) (hc : ∀ w, Hp w0 L w → Calls P f args w fun E w' => ∃ v', E = .returned (vf v') ∧ w'.ownsRow w.heap.size e sz v' m xs ∧ Below w.heap.size w w') :
    ∀ w, Hp w0 L w → Calls P f args w fun E w' => ∃ s : Value, E = .returned (vf s) ∧ OwnIn w0 [] s ∧ Hp w0 (rowX [] w0.heap.size e sz s m xs :: L) w' := fun w H => (hc w H).mono fun E w' ⟨v', he, hown, hb⟩ =>
  ⟨v', he, fun g hg => .inr (Nat.le_trans H.os.size (own_lt hown g hg).1), H.add hb _ (rowX_loc _ _ _ _ _ _ _) (fun g hg => ⟨(own_lt hown g (by simpa [rowX] using hg)).2, (own_lt hown g (by simpa [rowX] using hg)).1⟩) (own_base hown H.os.size)⟩
theorem own_new1 {w : World} {base g e : Nat} {v : Value} (h : (cell g e [v]).φ w) (hg : base ≤ g) : w.ownsRow base e 1 (.slice (some ⟨g, 0, none⟩) 1 1) 1 [v] :=
  ⟨by simp, .inr ⟨g, 1, #[v], rfl, hg, h, Nat.le_refl _, by decide, by simp, by simp⟩⟩
end
end Go.Proofs.YteiaiilfekojfaaGreat.Sx
namespace Go.Proofs.YteiaiilfekojfaaGreat.Msg
open Go.RowKit Wire Sx DrawInv
structure PS where
  A : Option Addr
  c : Nat
  gb : Nat
  q : List (Pt × Nat)
theorem call_parts {w0 : World} {L : List Ft} (k : Nat) : ∀ w, Hp w0 L w → Calls Tryz.prog 43 #[.int .u8 (k : Int)] w fun E w' => ∃ s : PS, E = .returned (.slice s.A s.q.length s.c) ∧ ((s.q.map (·.1) = partsOf k ∧ (s.q ≠ [] → s.A = some ⟨s.gb, 0, none⟩)) ∧ ∀ g ∈ (partsF s.gb s.q).fp, w0.heap.size ≤ g) ∧ Hp w0 (partsF s.gb s.q :: L) w' :=
  callNew (fun s : PS => .slice s.A s.q.length s.c) (fun s => s.q.map (·.1) = partsOf k ∧ (s.q ≠ [] → s.A = some ⟨s.gb, 0, none⟩)) (fun s => partsF s.gb s.q) (fun s => partsF_loc _ _) fun w H => (parts_any k w).mono fun E w' ⟨A, c, gb, q, h1, h2, h3, h4, h5, h6⟩ => ⟨⟨A, c, gb, q⟩, h1, ⟨h2, h3⟩, h4, h5, h6⟩
theorem own_read {α : Type} {w : World} {base e sz n c : Nat} {A : Option Addr} {cells : α → List Value} {l : List α} (hc : ∀ x, (cells x).length = sz) (hs : 0 < sz) (h : w.ownsRow base e sz (.slice A n c) l.length (l.flatMap cells)) : Rows w A sz cells l := by
  obtain ⟨A', c', e', _, hr⟩ := own_rows hc hs h
  injection e' with e1 e2 e3
  subst e1
  exact hr
theorem made_rows {w : World} {base g n n' k k' : Nat} {a : Ms} {A B : Option Addr} (h : (madeF base g a (.slice A n k) (.slice B n' k')).φ w) : MsRows w a A B :=
  ⟨own_read voL_len (by decide) h.2.1, own_read imL_len (by decide) h.2.2⟩
/-- The inside as far as the part k. -/
def insB (m : Ms) (k : Nat) : List UInt8 := UInt8.ofNat m.kind :: ((partsOf m.kind).take k).flatMap (·.put m)
theorem insB_succ {m : Ms} {k : Nat} {p : Pt} (h : (partsOf m.kind)[k]? = some p) : insB m (k + 1) = insB m k ++ p.put m := by
  unfold insB; rw [take_snoc h, List.flatMap_append]; simp
theorem insB_end {m : Ms} {k : Nat} (h : (partsOf m.kind).length ≤ k) : insB m k = insideB m := by unfold insB insideB; rw [List.take_of_length_le h]
theorem oneB_len (c : Cmd.Cm) (hc : c.Fits) (h1 : c.key.length ≤ 1000) (h2 : c.old.length ≤ 1000) (h3 : c.new.length ≤ 1000) : (Cmd.oneB c).length ≤ 10000 := by
  unfold Cmd.oneB
  have a := (numB_length c.seq (by have := hc.h2; omega)).1
  have b := strB_len c.key (by omega)
  have d := strB_len c.old (by omega)
  have e := strB_len c.new (by omega)
  simp only [List.length_cons, List.length_append, List.length_nil]
  omega
theorem put_len (p : Pt) (m : Ms) (hf : m.Fits) (hs : m.Small) : (p.put m).length ≤ 410000 := by
  have s1 := hs.h1
  have s2 := hs.h2
  have s3 := hs.h3
  have s9 := hs.h9
  have s10 := hs.h10
  have s11 := hs.h11
  cases p with
  | cmd => have := oneB_len m.cmd hf.h9 hs.h6 hs.h7 hs.h8; show (Cmd.oneB m.cmd).length ≤ _; omega
  | name => have := (numB_length m.cmd.seq (by have := hf.h9.h2; omega)).1; show (_ :: numB m.cmd.seq).length ≤ _; rw [List.length_cons]; omega
  | reply => have := strB_len m.text (by omega); show (_ :: strB m.text).length ≤ _; rw [List.length_cons]; omega
  | node => show ([_] : List UInt8).length ≤ _; simp
  | turn => have := bal_len m.bn m.br hf.h2; show (Bal.balB _).length ≤ _; omega
  | floor => have := (numB_length m.base hf.h4).1; show (numB m.base).length ≤ _; omega
  | slot l => have := (numB_length m.slot hf.h5).1; show (numB m.slot).length ≤ _; omega
  | value => have := strB_len m.value (by omega); show (strB m.value).length ≤ _; omega
  | votes => have := (numB_length m.votes.length (by omega)).1; show (numB _ ++ _).length ≤ _; rw [List.length_append]; omega
  | items => have := (numB_length m.items.length (by omega)).1; show (numB _ ++ _).length ≤ _; rw [List.length_append]; omega
theorem parts_none (k : Nat) (h : 14 ≤ k) : partsOf k = [] := by
  unfold partsOf
  repeat rw [if_neg (by omega)]
theorem parts_two (k : Nat) : ((partsOf k).filter (fun p => decide (p = .votes ∨ p = .items))).length ≤ 1 ∧ (partsOf k).length ≤ 4 := by
  by_cases h : k < 14
  · have hd : ∀ k : Nat, k < 14 → ((partsOf k).filter (fun p => decide (p = .votes ∨ p = .items))).length ≤ 1 ∧ (partsOf k).length ≤ 4 := by decide
    exact hd k h
  · rw [parts_none k (by omega)]
    decide
theorem put_len2 (p : Pt) (m : Ms) (hf : m.Fits) (hs : m.Small) (hp : ¬ (p = .votes ∨ p = .items)) : (p.put m).length ≤ 110000 := by
  have s1 := hs.h1
  have s9 := hs.h9
  cases p with
  | cmd => have := oneB_len m.cmd hf.h9 hs.h6 hs.h7 hs.h8; show (Cmd.oneB m.cmd).length ≤ _; omega
  | name => have := (numB_length m.cmd.seq (by have := hf.h9.h2; omega)).1; show (_ :: numB m.cmd.seq).length ≤ _; rw [List.length_cons]; omega
  | reply => have := strB_len m.text (by omega); show (_ :: strB m.text).length ≤ _; rw [List.length_cons]; omega
  | node => show ([_] : List UInt8).length ≤ _; simp
  | turn => have := bal_len m.bn m.br hf.h2; show (Bal.balB _).length ≤ _; omega
  | floor => have := (numB_length m.base hf.h4).1; show (numB m.base).length ≤ _; omega
  | slot l => have := (numB_length m.slot hf.h5).1; show (numB m.slot).length ≤ _; omega
  | value => have := strB_len m.value (by omega); show (strB m.value).length ≤ _; omega
  | votes => exact absurd (.inl rfl) hp
  | items => exact absurd (.inr rfl) hp
theorem sum_len (m : Ms) (hf : m.Fits) (hs : m.Small) : ∀ l : List Pt, (l.flatMap (·.put m)).length ≤ 410000 * (l.filter (fun p => decide (p = .votes ∨ p = .items))).length + 110000 * l.length
  | [] => by simp
  | p :: l => by
    have ih := sum_len m hf hs l
    rw [List.flatMap_cons, List.length_append, List.length_cons, List.filter_cons]
    by_cases hp : p = .votes ∨ p = .items
    · have := put_len p m hf hs
      rw [if_pos (by simpa using hp), List.length_cons]
      omega
    · have := put_len2 p m hf hs hp
      rw [if_neg (by simpa using hp)]
      omega
theorem insB_len (m : Ms) (hf : m.Fits) (hs : m.Small) (k : Nat) : (insB m k).length ≤ 1000000 := by
  have h1 := sum_len m hf hs (partsOf m.kind)
  have h2 := parts_two m.kind
  have h3 := flat_take (fun p : Pt => p.put m) (partsOf m.kind) k
  unfold insB
  rw [List.length_cons]
  have : ((partsOf m.kind).take k).flatMap (fun p => p.put m) = ((partsOf m.kind).take k).flatMap (·.put m) := rfl
  omega
/-- What frame.Put answers. -/
def fpB (s : List UInt8) : List UInt8 × Nat := if s.length ≤ 65536 then (Frame.frameB s, 0) else ([], 6)
theorem fpB_bad (s : List UInt8) (h : (fpB s).2 ≠ 0) : fpB s = ([], (fpB s).2) := by
  unfold fpB at *
  split
  · rename_i h1; rw [if_pos h1] at h; exact absurd rfl h
  · rfl
theorem fput_any (s : List UInt8) (h1 : 0 < s.length) (h2 : s.length ≤ 1000000) (w : World) : Calls Tryz.prog 44 #[.slice none 0 0, .string ⟨s.toArray⟩] w fun E w' => ∃ v', E = .returned (.tuple #[v', .int .i64 ((fpB s).2 : Int)]) ∧ w'.ownsRow w.heap.size 5 1 v' (fpB s).1.length (bv (fpB s).1) ∧ Below w.heap.size w w' := by
  have hr : Reads w w.heap.size 1 none 0 (bv []) := ⟨rfl, fun h => absurd h (by decide)⟩
  unfold fpB
  by_cases h : s.length ≤ 65536
  · rw [if_pos h]
    exact Frame.fput_ok none 0 [] s (by simp) h1 h w hr
  · rw [if_neg h]
    exact Frame.fput_bad none 0 [] s (by simp) (.inr (by omega)) w hr
theorem putM_is (m : Ms) (h : checkB m = true) : putM m = fpB (insideB m) := by unfold putM fpB; rw [if_pos h]
end Go.Proofs.YteiaiilfekojfaaGreat.Msg
end
section
set_option linter.unusedVariables false
set_option linter.unusedSimpArgs false
namespace Go.Proofs.YteiaiilfekojfaaGreat.Msg
open Go.RowKit Sx Wire DrawInv
set_option maxRecDepth 100000 in
set_option maxHeartbeats 4000000 in
theorem check_lit (mk mn mr mb ms mo ca cb ck cz mc : Nat) (mv cs ct cu mt : List UInt8) (vl : List Vo) (il : List Im) (A B : Option Addr) (ka kb : Nat) (w : World) (hf : Ms.Fits ⟨mk, mn, mr, mb, ms, mo, mv, vl, il, ⟨ca, cb, ck, cs, ct, cu, cz⟩, mc, mt⟩) (hs : Ms.Small ⟨mk, mn, mr, mb, ms, mo, mv, vl, il, ⟨ca, cb, ck, cs, ct, cu, cz⟩, mc, mt⟩) (hr : MsRows w ⟨mk, mn, mr, mb, ms, mo, mv, vl, il, ⟨ca, cb, ck, cs, ct, cu, cz⟩, mc, mt⟩ A B) : Calls Tryz.prog 12 #[.agg #[.int .u8 (mk : Int), .int .u64 (mn : Int), .int .u8 (mr : Int), .int .u64 (mb : Int), .int .u64 (ms : Int), .int .u8 (mo : Int), .string ⟨mv.toArray⟩, .slice A vl.length ka, .slice B il.length kb, .int .u8 (ca : Int), .int .u32 (cb : Int), .int .u8 (ck : Int), .string ⟨cs.toArray⟩, .string ⟨ct.toArray⟩, .string ⟨cu.toArray⟩, .int .u8 (cz : Int), .int .u8 (mc : Int), .string ⟨mt.toArray⟩]] w fun e w' => e = .returned (.int .i64 (if checkB ⟨mk, mn, mr, mb, ms, mo, mv, vl, il, ⟨ca, cb, ck, cs, ct, cu, cz⟩, mc, mt⟩ then 0 else 2)) ∧ Below w.heap.size w w' := by
  refine sx_enter (n := 36) _ Tryz.func12 rfl rfl rfl (Hp.start w) ?_
  refine SxC.seq (SxC.region ?_)
  refine SxL.new (cs := [.int .u8 (mk : Int), .int .u64 (mn : Int), .int .u8 (mr : Int), .int .u64 (mb : Int), .int .u64 (ms : Int), .int .u8 (mo : Int), .string ⟨mv.toArray⟩, .slice A vl.length ka, .slice B il.length kb, .int .u8 (ca : Int), .int .u32 (cb : Int), .int .u8 (ck : Int), .string ⟨cs.toArray⟩, .string ⟨ct.toArray⟩, .string ⟨cu.toArray⟩, .int .u8 (cz : Int), .int .u8 (mc : Int), .string ⟨mt.toArray⟩]) trivial rfl rfl (fun ρ w E H => ex_box E rfl rfl rfl) fun g1 hg1 => ?_
  refine SxL.val trivial rfl rfl (fun ρ w E H => ex_assign E rfl rfl) ?_
  refine SxL.nil (SxN.then_ (SxC.seq (SxC.region ?_)))
  refine SxL.val (v := .pointer (some ⟨g1, 0, none⟩)) trivial rfl rfl (fun ρ w E H => ex_field E rfl fa_palaver_api_Msg_0 rfl rfl) ?_
  refine SxL.val trivial rfl rfl (fun ρ w E H => ex_load1 E (H.get (i := 0) rfl) rfl rfl Tryz.underlying5 rfl rfl) ?_
  refine SxL.call (σ := PS) (fun s => .slice s.A (List.length s.q) s.c) (fun s => _) (fun s => _) trivial rfl rfl (fun ρ w E => ex_call E en_palaver_msg_parts rfl rfl) (call_parts mk) fun s hs_ => ?_
  obtain ⟨pA, pc, gb, q⟩ := s
  obtain ⟨⟨hq, hpA⟩, hpf⟩ := hs_
  dsimp only at hq hpA hpf
  refine SxL.val trivial rfl rfl (fun ρ w E H => ex_assign E rfl rfl) ?_
  refine SxL.nil (SxN.then_ (SxC.seq (SxC.seq (SxC.region ?_))))
  refine SxL.val trivial rfl rfl (fun ρ w E H => ex_move E rfl rfl) ?_
  refine SxL.val (v := .int .i64 (q.length : Int)) trivial rfl rfl (fun ρ w E H => ex_lenS E rfl Tryz.underlying95 rfl) ?_
  refine SxL.valB trivial rfl rfl (fun ρ w E H => ex_cmp E rfl rfl rfl rfl rfl) fun c12 hc12 => ?_
  refine SxL.nil (SxN.then_ ?_)
  cases c12
  · refine SxC.condF rfl (SxC.skip (SxN.then_ (SxC.seq (SxC.region ?_))))
    refine SxL.val (v := .pointer (some ⟨g1, 0, none⟩)) trivial rfl rfl (fun ρ w E H => ex_field E rfl fa_palaver_api_Msg_0 rfl rfl) ?_
    refine SxL.val trivial rfl rfl (fun ρ w E H => ex_load1 E (H.get (i := 1) rfl) rfl rfl Tryz.underlying5 rfl rfl) ?_
    refine SxL.val trivial rfl rfl (fun ρ w E H => ex_build (cs := [.int .u8 (mk : Int), .int .u64 0, .int .u8 0, .int .u64 0, .int .u64 0, .int .u8 0, .string ⟨[].toArray⟩, .slice none 0 0, .slice none 0 0, .int .u8 0, .int .u32 0, .int .u8 0, .string ⟨[].toArray⟩, .string ⟨[].toArray⟩, .string ⟨[].toArray⟩, .int .u8 0, .int .u8 0, .string ⟨[].toArray⟩]) E rfl rfl (by kernel_rfl)) ?_
    refine SxL.new (cs := [.int .u8 0, .int .u64 0, .int .u8 0, .int .u64 0, .int .u64 0, .int .u8 0, .string ⟨[].toArray⟩, .slice none 0 0, .slice none 0 0, .int .u8 0, .int .u32 0, .int .u8 0, .string ⟨[].toArray⟩, .string ⟨[].toArray⟩, .string ⟨[].toArray⟩, .int .u8 0, .int .u8 0, .string ⟨[].toArray⟩]) trivial rfl rfl (fun ρ w E H => ex_alloc rfl zr_palaver_api_Msg rfl) fun g2 hg2 => ?_
    refine SxL.store (i := 0) trivial rfl rfl rfl rfl rfl sz_palaver_api_Msg rfl rfl rfl ?_
    refine SxL.nil (SxN.then_ (SxC.seq (SxC.seq (SxC.region ?_))))
    refine SxL.val trivial rfl rfl (fun ρ w E H => ex_move E rfl rfl) ?_
    refine SxL.val (v := .int .i64 (q.length : Int)) trivial rfl rfl (fun ρ w E H => ex_lenS E rfl Tryz.underlying95 rfl) ?_
    refine SxL.val trivial rfl rfl (fun ρ w E H => ex_move E rfl rfl) ?_
    refine SxL.nil (SxN.then_ (SxC.block ?_))
    refine SxC.hp (fun W H => H.re (i := 0) rfl (madeF w.heap.size g2 (ms0 mk) (.slice none 0 0) (.slice none 0 0)) (madeF_loc _ _ _ _ _) rfl (fun h => made_new (k := mk) h)) ?_
    refine SxC.loop4 (fun (k : Nat) (a : Ms) (V : Value) (I : Value) => [(1, .pointer (some ⟨g1, 0, none⟩)), (2, .int .i64 0), (3, .slice pA q.length pc), (4, .pointer (some ⟨g2, 0, none⟩)), (16, .slice pA q.length pc), (17, .int .i64 (q.length : Int)), (18, .int .i64 (k : Int))]) (fun (k : Nat) (a : Ms) (V : Value) (I : Value) => [madeF w.heap.size g2 a V I, partsF gb q, cell g1 33 [.int .u8 (mk : Int), .int .u64 (mn : Int), .int .u8 (mr : Int), .int .u64 (mb : Int), .int .u64 (ms : Int), .int .u8 (mo : Int), .string ⟨mv.toArray⟩, .slice A vl.length ka, .slice B il.length kb, .int .u8 (ca : Int), .int .u32 (cb : Int), .int .u8 (ck : Int), .string ⟨cs.toArray⟩, .string ⟨ct.toArray⟩, .string ⟨cu.toArray⟩, .int .u8 (cz : Int), .int .u8 (mc : Int), .string ⟨mt.toArray⟩]]) (fun (gk : Nat) (k : Nat) (a : Ms) (V : Value) (I : Value) => k + gk = q.length ∧ a = moved ((partsOf mk).take k) ⟨mk, mn, mr, mb, ms, mo, mv, vl, il, ⟨ca, cb, ck, cs, ct, cu, cz⟩, mc, mt⟩ ∧ ((partsOf mk).take k).all (fun p => p.may ⟨mk, mn, mr, mb, ms, mo, mv, vl, il, ⟨ca, cb, ck, cs, ct, cu, cz⟩, mc, mt⟩) = true ∧ OwnIn w [] V ∧ OwnIn w [] I) q.length 0 (ms0 mk) (.slice none 0 0) (.slice none 0 0) ⟨by omega, rfl, rfl, own_none w, own_none w⟩ ⟨rfl, rfl, rfl, rfl, rfl, rfl, rfl, trivial⟩ [0, 1, 2] rfl (by decide) ⟨.inl rfl, .inl rfl, .inl rfl, trivial⟩ fun gk k a V I hF => ?_
    obtain ⟨hkg, ha, hall, hV, hI⟩ := hF
    refine SxC.seq (SxC.region ?_)
    refine SxL.valB trivial rfl rfl (fun ρ w E H => ex_cmp E rfl rfl rfl rfl rfl) fun c19 hc19 => ?_
    refine SxL.nil (SxN.then_ (SxC.seq ?_))
    cases c19
    · refine SxC.condF rfl (SxC.exit (SxX.thenE (SxX.thenE (SxX.blockE (SxN.then_ (SxC.seq (SxC.seq ?_)))))))
      refine SxC.with (fun W H => own_is_slice (H.get (i := 0) rfl : (madeF _ _ _ _ _).φ W).2.1) ?_
      rintro ⟨A2, k2, rfl⟩
      refine SxC.with (fun W H => own_is_slice (H.get (i := 0) rfl : (madeF _ _ _ _ _).φ W).2.2) ?_
      rintro ⟨B2, l2, rfl⟩
      refine SxC.region ?_
      refine SxL.val trivial rfl rfl (fun ρ w E H => ex_load (part := [.int .u8 (mk : Int), .int .u64 (mn : Int), .int .u8 (mr : Int), .int .u64 (mb : Int), .int .u64 (ms : Int), .int .u8 (mo : Int), .string ⟨mv.toArray⟩, .slice A vl.length ka, .slice B il.length kb, .int .u8 (ca : Int), .int .u32 (cb : Int), .int .u8 (ck : Int), .string ⟨cs.toArray⟩, .string ⟨ct.toArray⟩, .string ⟨cu.toArray⟩, .int .u8 (cz : Int), .int .u8 (mc : Int), .string ⟨mt.toArray⟩]) E (H.get (i := 2) rfl) rfl rfl Tryz.underlying33 rfl sz_palaver_api_Msg rfl rfl) ?_
      refine SxL.val trivial rfl rfl (fun ρ w E H => ex_load (cs := msL a (.slice A2 a.votes.length k2) (.slice B2 a.items.length l2)) (part := msL a (.slice A2 a.votes.length k2) (.slice B2 a.items.length l2)) E ((H.get (i := 0) rfl : (madeF _ _ _ _ _).φ w).1) rfl rfl Tryz.underlying33 rfl sz_palaver_api_Msg rfl rfl) ?_
      refine SxL.callBB (b := (decide (⟨mk, mn, mr, mb, ms, mo, mv, vl, il, ⟨ca, cb, ck, cs, ct, cu, cz⟩, mc, mt⟩ = a))) trivial rfl rfl (fun ρ w E => ex_call E en_palaver_msg_Same rfl rfl) (fun w H => same_any ⟨mk, mn, mr, mb, ms, mo, mv, vl, il, ⟨ca, cb, ck, cs, ct, cu, cz⟩, mc, mt⟩ a A B A2 B2 ka kb k2 l2 w (hr.below (H.toBelow ⟨(made_fresh hg2 hV hI), hpf, (fun g hg => by rw [List.mem_singleton.1 hg]; exact hg1), trivial⟩)) (made_rows (H.get (i := 0) rfl)) (Nat.le_trans hs.h2 (by decide)) (Nat.le_trans hs.h3 (by decide))) fun c34 hc34 => ?_
      cases c34
      · refine SxL.val (v := .bool true) trivial rfl rfl (fun ρ w E H => ex_not (t := false) E rfl rfl) ?_
        refine SxL.nil (SxN.then_ (SxC.condT rfl (SxC.seq (SxC.region ?_))))
        refine SxL.val trivial rfl rfl (fun ρ w E H => ex_assign E rfl rfl) ?_
        refine SxL.nil (SxN.then_ (SxC.ret (SxX.thenR ?_)))
        refine SxX.done (.int .i64 2) (fun a w K H => res1 K rfl rfl) (fun w H => ?_)
        have hq2 : (2 : Int) = (if checkB ⟨mk, mn, mr, mb, ms, mo, mv, vl, il, ⟨ca, cb, ck, cs, ct, cu, cz⟩, mc, mt⟩ then 0 else 2) := by
          clear H
          have hle : q.length ≤ k := by have h := hc19; simp [cmpB] at h; omega
          have hl2 : (partsOf mk).length ≤ k := by rw [← hq, List.length_map]; exact hle
          rw [List.take_of_length_le hl2] at ha hall
          have hne : (partsOf mk).isEmpty = false := by rw [← hq]; cases q with | nil => simp [cmpB] at hc12 | cons x l => rfl
          have hck : checkB ⟨mk, mn, mr, mb, ms, mo, mv, vl, il, ⟨ca, cb, ck, cs, ct, cu, cz⟩, mc, mt⟩ = decide (⟨mk, mn, mr, mb, ms, mo, mv, vl, il, ⟨ca, cb, ck, cs, ct, cu, cz⟩, mc, mt⟩ = a) := by rw [ha]; show (!(partsOf mk).isEmpty && ((partsOf mk).all (fun p => p.may ⟨mk, mn, mr, mb, ms, mo, mv, vl, il, ⟨ca, cb, ck, cs, ct, cu, cz⟩, mc, mt⟩) && decide (⟨mk, mn, mr, mb, ms, mo, mv, vl, il, ⟨ca, cb, ck, cs, ct, cu, cz⟩, mc, mt⟩ = moved (partsOf mk) ⟨mk, mn, mr, mb, ms, mo, mv, vl, il, ⟨ca, cb, ck, cs, ct, cu, cz⟩, mc, mt⟩))) = _; rw [hne, hall]; rfl
          rw [hck, hc34]; rfl
        exact ⟨congrArg (fun z => Ending.returned (.int .i64 z)) hq2, H.toBelow ⟨(made_fresh hg2 hV hI), hpf, (fun g hg => by rw [List.mem_singleton.1 hg]; exact hg1), trivial⟩⟩
      · refine SxL.val (v := .bool false) trivial rfl rfl (fun ρ w E H => ex_not (t := true) E rfl rfl) ?_
        refine SxL.nil (SxN.then_ (SxC.condF rfl (SxC.skip (SxN.then_ (SxC.seq (SxC.region ?_))))))
        refine SxL.val trivial rfl rfl (fun ρ w E H => ex_assign E rfl rfl) ?_
        refine SxL.nil (SxN.then_ (SxC.ret ?_))
        refine SxX.done (.int .i64 0) (fun a w K H => res1 K rfl rfl) (fun w H => ?_)
        have hq2 : (0 : Int) = (if checkB ⟨mk, mn, mr, mb, ms, mo, mv, vl, il, ⟨ca, cb, ck, cs, ct, cu, cz⟩, mc, mt⟩ then 0 else 2) := by
          clear H
          have hle : q.length ≤ k := by have h := hc19; simp [cmpB] at h; omega
          have hl2 : (partsOf mk).length ≤ k := by rw [← hq, List.length_map]; exact hle
          rw [List.take_of_length_le hl2] at ha hall
          have hne : (partsOf mk).isEmpty = false := by rw [← hq]; cases q with | nil => simp [cmpB] at hc12 | cons x l => rfl
          have hck : checkB ⟨mk, mn, mr, mb, ms, mo, mv, vl, il, ⟨ca, cb, ck, cs, ct, cu, cz⟩, mc, mt⟩ = decide (⟨mk, mn, mr, mb, ms, mo, mv, vl, il, ⟨ca, cb, ck, cs, ct, cu, cz⟩, mc, mt⟩ = a) := by rw [ha]; show (!(partsOf mk).isEmpty && ((partsOf mk).all (fun p => p.may ⟨mk, mn, mr, mb, ms, mo, mv, vl, il, ⟨ca, cb, ck, cs, ct, cu, cz⟩, mc, mt⟩) && decide (⟨mk, mn, mr, mb, ms, mo, mv, vl, il, ⟨ca, cb, ck, cs, ct, cu, cz⟩, mc, mt⟩ = moved (partsOf mk) ⟨mk, mn, mr, mb, ms, mo, mv, vl, il, ⟨ca, cb, ck, cs, ct, cu, cz⟩, mc, mt⟩))) = _; rw [hne, hall]; rfl
          rw [hck, hc34]; rfl
        exact ⟨congrArg (fun z => Ending.returned (.int .i64 z)) hq2, H.toBelow ⟨(made_fresh hg2 hV hI), hpf, (fun g hg => by rw [List.mem_singleton.1 hg]; exact hg1), trivial⟩⟩
    · refine SxC.condT rfl (SxC.skip (SxN.then_ (SxC.seq (SxC.block (SxC.seq ?_)))))
      have hkl : k < q.length := by have h := hc19; simp [cmpB] at h; omega
      obtain ⟨⟨p, gc⟩, hx⟩ : ∃ x, q[k]? = some x := ⟨_, List.getElem?_eq_getElem hkl⟩
      obtain rfl := hpA (by rintro rfl; cases hx)
      have hp : (partsOf mk)[k]? = some p := by rw [← hq, List.getElem?_map, hx]; rfl
      have hql : q.length ≤ 4 := by have h := (parts_two mk).2; rw [← hq, List.length_map] at h; exact h
      refine SxC.region ?_
      refine SxL.val (v := .pointer (some ((⟨gb, 0, none⟩ : Addr).add (k * 4)))) trivial rfl rfl (fun ρ w E H => ex_index (i := k) E rfl Tryz.underlying95 sz_palaver_msg_part rfl rfl hkl) ?_
      refine SxL.val (v := .agg #[.func (.func p.putF) #[] #[], .func (.func p.takeF) #[] #[], .func (.func p.moveF) #[] #[], .func (.func p.mayF) #[] (p.cap gc).toArray]) trivial rfl rfl (fun ρ w E H => ex_loadX (cs := [.func (.func p.putF) #[] #[], .func (.func p.takeF) #[] #[], .func (.func p.moveF) #[] #[], .func (.func p.mayF) #[] (p.cap gc).toArray]) E (parts_row (H.get (i := 1) rfl) hx) rfl rfl Tryz.underlying101 rfl sz_palaver_msg_part) ?_
      refine SxL.new (cs := [.nilFunc, .nilFunc, .nilFunc, .nilFunc]) trivial rfl rfl (fun ρ w E H => ex_alloc rfl zr_palaver_msg_part rfl) fun g3 hg3 => ?_
      refine SxL.store (i := 0) trivial rfl rfl rfl rfl rfl sz_palaver_msg_part rfl rfl rfl ?_
      refine SxL.nil (SxN.then_ (SxC.seq (SxC.seq (SxC.region ?_))))
      refine SxL.val (v := .pointer (some ⟨g3, 3, none⟩)) trivial rfl rfl (fun ρ w E H => ex_field E rfl fa_palaver_msg_part_3 rfl rfl) ?_
      refine SxL.val trivial rfl rfl (fun ρ w E H => ex_load1 E (H.get (i := 0) rfl) rfl rfl Tryz.underlying34 rfl rfl) ?_
      refine SxL.val trivial rfl rfl (fun ρ w E H => ex_load (part := [.int .u8 (mk : Int), .int .u64 (mn : Int), .int .u8 (mr : Int), .int .u64 (mb : Int), .int .u64 (ms : Int), .int .u8 (mo : Int), .string ⟨mv.toArray⟩, .slice A vl.length ka, .slice B il.length kb, .int .u8 (ca : Int), .int .u32 (cb : Int), .int .u8 (ck : Int), .string ⟨cs.toArray⟩, .string ⟨ct.toArray⟩, .string ⟨cu.toArray⟩, .int .u8 (cz : Int), .int .u8 (mc : Int), .string ⟨mt.toArray⟩]) E (H.get (i := 3) rfl) rfl rfl Tryz.underlying33 rfl sz_palaver_api_Msg rfl rfl) ?_
      refine SxL.callBB (b := Pt.may p ⟨mk, mn, mr, mb, ms, mo, mv, vl, il, ⟨ca, cb, ck, cs, ct, cu, cz⟩, mc, mt⟩) trivial rfl rfl (fun ρ w E => ex_callV E (enters_may p) rfl rfl rfl rfl) (fun w H => may_all p ⟨mk, mn, mr, mb, ms, mo, mv, vl, il, ⟨ca, cb, ck, cs, ct, cu, cz⟩, mc, mt⟩ hf hs A B ka kb gc w (hr.below (H.toBelow ⟨(fun g hg => by rw [List.mem_singleton.1 hg]; exact hg3), (made_fresh hg2 hV hI), hpf, (fun g hg => by rw [List.mem_singleton.1 hg]; exact hg1), trivial⟩)) (parts_cap (H.get (i := 2) rfl) hx)) fun c25 hc25 => ?_
      cases c25
      · refine SxL.val (v := .bool true) trivial rfl rfl (fun ρ w E H => ex_not (t := false) E rfl rfl) ?_
        refine SxL.nil (SxN.then_ (SxC.condT rfl (SxC.seq (SxC.region ?_))))
        refine SxL.val trivial rfl rfl (fun ρ w E H => ex_assign E rfl rfl) ?_
        refine SxL.nil (SxN.then_ (SxC.ret (SxX.thenR (SxX.blockR (SxX.thenR (SxX.thenR (SxX.blockR (SxX.thenR ?_))))))))
        refine SxX.done (.int .i64 2) (fun a w K H => res1 K rfl rfl) (fun w H => ?_)
        have hq2 : (2 : Int) = (if checkB ⟨mk, mn, mr, mb, ms, mo, mv, vl, il, ⟨ca, cb, ck, cs, ct, cu, cz⟩, mc, mt⟩ then 0 else 2) := by
          clear H
          have hck : checkB ⟨mk, mn, mr, mb, ms, mo, mv, vl, il, ⟨ca, cb, ck, cs, ct, cu, cz⟩, mc, mt⟩ = false := by
            have hm : (partsOf mk).all (fun p => p.may ⟨mk, mn, mr, mb, ms, mo, mv, vl, il, ⟨ca, cb, ck, cs, ct, cu, cz⟩, mc, mt⟩) = false := by rw [List.all_eq_false]; exact ⟨p, List.mem_of_getElem? hp, by rw [hc25]; decide⟩
            show (!(partsOf mk).isEmpty && ((partsOf mk).all (fun p => p.may ⟨mk, mn, mr, mb, ms, mo, mv, vl, il, ⟨ca, cb, ck, cs, ct, cu, cz⟩, mc, mt⟩) && _)) = _
            rw [hm]; simp
          rw [hck]; rfl
        exact ⟨congrArg (fun z => Ending.returned (.int .i64 z)) hq2, H.toBelow ⟨(fun g hg => by rw [List.mem_singleton.1 hg]; exact hg3), (made_fresh hg2 hV hI), hpf, (fun g hg => by rw [List.mem_singleton.1 hg]; exact hg1), trivial⟩⟩
      · refine SxL.val (v := .bool false) trivial rfl rfl (fun ρ w E H => ex_not (t := true) E rfl rfl) ?_
        refine SxL.nil (SxN.then_ (SxC.condF rfl (SxC.skip (SxN.then_ (SxC.region ?_)))))
        refine SxL.val (v := .pointer (some ⟨g3, 2, none⟩)) trivial rfl rfl (fun ρ w E H => ex_field E rfl fa_palaver_msg_part_2 rfl rfl) ?_
        refine SxL.val trivial rfl rfl (fun ρ w E H => ex_load1 E (H.get (i := 0) rfl) rfl rfl Tryz.underlying99 rfl rfl) ?_
        refine SxL.val trivial rfl rfl (fun ρ w E H => ex_load (part := [.int .u8 (mk : Int), .int .u64 (mn : Int), .int .u8 (mr : Int), .int .u64 (mb : Int), .int .u64 (ms : Int), .int .u8 (mo : Int), .string ⟨mv.toArray⟩, .slice A vl.length ka, .slice B il.length kb, .int .u8 (ca : Int), .int .u32 (cb : Int), .int .u8 (ck : Int), .string ⟨cs.toArray⟩, .string ⟨ct.toArray⟩, .string ⟨cu.toArray⟩, .int .u8 (cz : Int), .int .u8 (mc : Int), .string ⟨mt.toArray⟩]) E (H.get (i := 3) rfl) rfl rfl Tryz.underlying33 rfl sz_palaver_api_Msg rfl rfl) ?_
        refine SxL.call2 (fun _ _ => .tuple #[]) (fun V2 I2 => OwnIn w [] V2 ∧ OwnIn w [] I2) (fun V2 I2 => _) trivial rfl rfl (fun ρ w E => ex_callV E (enters_move p) rfl rfl rfl rfl) (call_made (i := 1) rfl hg2 hV hI (fun w H => move_all p ⟨mk, mn, mr, mb, ms, mo, mv, vl, il, ⟨ca, cb, ck, cs, ct, cu, cz⟩, mc, mt⟩ hs A B ka kb _ g2 a V I w (hr.below (H.toBelow ⟨(fun g hg => by rw [List.mem_singleton.1 hg]; exact hg3), (made_fresh hg2 hV hI), hpf, (fun g hg => by rw [List.mem_singleton.1 hg]; exact hg1), trivial⟩)) (H.get (i := 1) rfl) H.os.size (fun hn ad e => by have h1 := hr.hv.lt hn ad e; omega) (fun hn ad e => by have h1 := hr.hi.lt hn ad e; omega))) fun V2 I2 hVI => ?_
        refine SxL.nil (SxN.block (SxN.then_ (SxC.region ?_)))
        refine SxL.val (v := .int .i64 ((k + 1 : Nat) : Int)) trivial rfl rfl (fun ρ w E H => ex_add E rfl rfl rfl (by rw [IntKind.wrap_i64]; omega)) ?_
        refine SxL.val trivial rfl rfl (fun ρ w E H => ex_move E rfl rfl) ?_
        refine SxL.nil ?_
        refine SxN.back (gk - 1) (k + 1, Pt.move p a ⟨mk, mn, mr, mb, ms, mo, mv, vl, il, ⟨ca, cb, ck, cs, ct, cu, cz⟩, mc, mt⟩, V2, I2) (by omega) ⟨by omega, by rw [take_snoc hp, ha]; unfold moved; rw [List.foldl_append]; rfl, by rw [take_snoc hp, List.all_append, hall]; simp [hc25], hVI.1, hVI.2⟩ ⟨rfl, rfl, rfl, rfl, rfl, rfl, rfl, trivial⟩ [1, 2, 3] rfl (by decide) ⟨.inr (fun g hg => by rw [List.mem_singleton.1 hg]; exact hg3), .inl rfl, .inl rfl, .inl rfl, trivial⟩
  · refine SxC.condT rfl (SxC.seq (SxC.region ?_))
    refine SxL.val trivial rfl rfl (fun ρ w E H => ex_assign E rfl rfl) ?_
    refine SxL.nil (SxN.then_ (SxC.ret (SxX.thenR ?_)))
    refine SxX.done (.int .i64 2) (fun a w K H => res1 K rfl rfl) (fun w H => ?_)
    have hq2 : (2 : Int) = (if checkB ⟨mk, mn, mr, mb, ms, mo, mv, vl, il, ⟨ca, cb, ck, cs, ct, cu, cz⟩, mc, mt⟩ then 0 else 2) := by
      clear H
      have hck : checkB ⟨mk, mn, mr, mb, ms, mo, mv, vl, il, ⟨ca, cb, ck, cs, ct, cu, cz⟩, mc, mt⟩ = false := by
        have h0 : q = [] := by have h := hc12; simp [cmpB] at h; cases q with | nil => rfl | cons x l => simp at h
        have hm : (partsOf mk).isEmpty = true := by rw [← hq, h0]; rfl
        show (!(partsOf mk).isEmpty && _) = _
        rw [hm]; rfl
      rw [hck]; rfl
    exact ⟨congrArg (fun z => Ending.returned (.int .i64 z)) hq2, H.toBelow ⟨hpf, (fun g hg => by rw [List.mem_singleton.1 hg]; exact hg1), trivial⟩⟩

theorem check_any (m : Ms) (A B : Option Addr) (ka kb : Nat) (w : World) (hf : m.Fits) (hs : m.Small) (hr : MsRows w m A B) : Calls Tryz.prog 12 #[msV m A ka B kb] w fun e w' => e = .returned (.int .i64 (if checkB m then 0 else 2)) ∧ Below w.heap.size w w' := by
  obtain ⟨mk, mn, mr, mb, ms, mo, mv, vl, il, ⟨ca, cb, ck, cs, ct, cu, cz⟩, mc, mt⟩ := m
  exact check_lit _ _ _ _ _ _ _ _ _ _ _ _ _ _ _ _ _ _ _ _ _ _ w hf hs hr
end Go.Proofs.YteiaiilfekojfaaGreat.Msg
end
section
set_option linter.unusedVariables false
set_option linter.unusedSimpArgs false
namespace Go.Proofs.YteiaiilfekojfaaGreat.Msg
open Go.RowKit Wire

theorem num_bk {r : Rd} (h : r.num.2.err = 0) : r.err = 0 ∧ r.rest = numB r.num.1 ++ r.num.2.rest := by
  have h0 := num_err h
  refine ⟨h0, ?_⟩
  obtain ⟨e, l⟩ := r
  obtain rfl : e = 0 := h0
  exact num_back l (Rd.num ⟨0, l⟩).1 (Rd.num ⟨0, l⟩).2.rest (by rw [← Cmd.rd_zero h])
theorem byte_bk {r : Rd} (h : r.byte.2.err = 0) : r.err = 0 ∧ r.rest = UInt8.ofNat r.byte.1 :: r.byte.2.rest := by
  have h0 := Cmd.byte_err h
  refine ⟨h0, ?_⟩
  obtain ⟨e, l⟩ := r
  obtain rfl : e = 0 := h0
  exact Cmd.byte_back rfl h
theorem below_bk {r : Rd} {n : Nat} (h : (r.below n).2.err = 0) : r.err = 0 ∧ r.rest = numB (r.below n).1 ++ (r.below n).2.rest := by
  have h0 := Cmd.below_err h
  refine ⟨h0, ?_⟩
  obtain ⟨e, l⟩ := r
  obtain rfl : e = 0 := h0
  exact (Cmd.below_back rfl h).1
theorem str_bk {r : Rd} {m : Int} (h : (r.str m).2.err = 0) : r.err = 0 ∧ r.rest = strB (r.str m).1 ++ (r.str m).2.rest := by
  have h0 := Cmd.str_err h
  refine ⟨h0, ?_⟩
  obtain ⟨e, l⟩ := r
  obtain rfl : e = 0 := h0
  exact Cmd.str_back rfl h
theorem bal_bk {r : Rd} (h : (Bal.takeB r).2.err = 0) : r.err = 0 ∧ r.rest = Bal.balB (Bal.takeB r).1 ++ (Bal.takeB r).2.rest ∧ Bal.mayB (Bal.takeB r).1 = true := by
  have h1 := takeB_err h
  refine ⟨h1.1, ?_⟩
  unfold Bal.takeB at h ⊢
  dsimp only at h ⊢
  by_cases hm : Bal.mayB ⟨r.num.1, r.num.2.byte.1⟩ = true
  · rw [if_pos hm] at h ⊢
    rw [if_pos h]
    have a := num_bk h1.2
    have b := byte_bk h
    refine ⟨?_, hm⟩
    unfold Bal.balB
    rw [a.2, b.2]
    simp
  · rw [if_neg hm] at h
    exact absurd h (Bal.bad_err _)
theorem ite_lt {b : Prop} [Decidable b] {n r : Nat} (hn : n < 18446744073709551616) (hr : r < 256) : (if b then (⟨n, r⟩ : Bal.B) else ⟨0, 0⟩).n < 18446744073709551616 ∧ (if b then (⟨n, r⟩ : Bal.B) else ⟨0, 0⟩).r < 256 := by
  split
  · exact ⟨hn, hr⟩
  · exact ⟨by decide, by decide⟩
theorem takeB_lt (r : Rd) : (Bal.takeB r).1.n < 18446744073709551616 ∧ (Bal.takeB r).1.r < 256 := by
  unfold Bal.takeB
  dsimp only
  have a := lt_num r
  have b := lt_byte r.num.2
  exact ite_lt a b
theorem str_le (r : Rd) (m : Nat) : (r.str (m : Int)).1.length ≤ m := Cmd.str_most (r' := (r.str (m : Int)).2) rfl
theorem str65 (r : Rd) : (r.str 65536).1.length ≤ 65536 := by
  have h := str_le r 65536
  rw [show ((65536 : Nat) : Int) = 65536 from rfl] at h
  exact h
theorem str64 (r : Rd) : (r.str 64).1.length ≤ 1000 := by
  have h := str_le r 64
  rw [show ((64 : Nat) : Int) = 64 from rfl] at h
  omega
/-- Votes read one by one. -/
structure TkV (n : Nat) (r : Rd) (l : List Vo) : Prop where
  gr : Grows r l.length → Grows (tkV n r l).1 (tkV n r l).2.length
  rest : (tkV n r l).1.rest.length ≤ r.rest.length
  err : (tkV n r l).1.err = 0 → r.err = 0
  fits : (∀ v ∈ l, v.Fits ∧ v.value.length ≤ 65536) → ∀ v ∈ (tkV n r l).2, v.Fits ∧ v.value.length ≤ 65536
  back : (tkV n r l).1.err = 0 → ∃ l2, (tkV n r l).2 = l ++ l2 ∧ l2.length = n ∧ r.rest = l2.flatMap voB ++ (tkV n r l).1.rest
theorem tkV_all (n : Nat) : ∀ (r : Rd) (l : List Vo), TkV n r l := by
  induction n with
  | zero => intro r l; exact ⟨fun h => h, Nat.le_refl _, fun h => h, fun h => h, fun h => ⟨[], by simp [tkV], rfl, by simp [tkV]⟩⟩
  | succ n ih =>
    intro r l
    by_cases h0 : r.err = 0
    · have e := tkV_step (n + 1) r l (by omega) h0
      simp only [Nat.add_sub_cancel] at e
      have a := rest_num r
      have b := rest_takeB r.num.2
      have c := rest_str (Bal.takeB r.num.2).2 65536
      have h65 := str65 (Bal.takeB r.num.2).2
      have hgr : Grows r l.length → Grows ((Bal.takeB r.num.2).2.str 65536).2 (l.length + 1) := fun h => h.vote h0
      have hsb : ((Bal.takeB r.num.2).2.str 65536).2.err = 0 → (Bal.takeB r.num.2).2.err = 0 ∧ (Bal.takeB r.num.2).2.rest = strB ((Bal.takeB r.num.2).2.str 65536).1 ++ ((Bal.takeB r.num.2).2.str 65536).2.rest := str_bk
      generalize (Bal.takeB r.num.2).2.str 65536 = p at e c h65 hgr hsb
      have i := ih p.2 (l ++ [⟨r.num.1, (Bal.takeB r.num.2).1.n, (Bal.takeB r.num.2).1.r, p.1⟩])
      refine ⟨fun h => ?_, ?_, fun _ => h0, fun h => ?_, fun h => ?_⟩
      · rw [e]; exact i.gr (by rw [List.length_append]; exact hgr h)
      · rw [e]; have := i.rest; omega
      · rw [e]
        refine i.fits fun v hv => ?_
        rcases List.mem_append.1 hv with hv | hv
        · exact h v hv
        · rw [List.mem_singleton.1 hv]
          exact ⟨⟨lt_num r, (takeB_lt _).1, (takeB_lt _).2⟩, h65⟩
      · rw [e] at h
        obtain ⟨l2, h1, h2, h3⟩ := i.back h
        have e3 := hsb (i.err h)
        have e2 := bal_bk e3.1
        have e1 := num_bk e2.1
        refine ⟨_ :: l2, by rw [e, h1, List.append_assoc]; rfl, by rw [List.length_cons, h2], ?_⟩
        rw [e, e1.2, e2.2.1, e3.2, h3, List.flatMap_cons]
        simp [voB]
    · have e := tkV_stop (n + 1) r l (.inr h0)
      rw [show TkV (n + 1) r l = TkV (n + 1) r l from rfl]
      exact ⟨fun h => by rw [e]; exact h, by rw [e]; exact Nat.le_refl _, fun h => by rw [e] at h; exact h, fun h => by rw [e]; exact h, fun h => by rw [e] at h; exact absurd h h0⟩
structure TkI (n : Nat) (r : Rd) (l : List Im) : Prop where
  gr : Grows r l.length → Grows (tkI n r l).1 (tkI n r l).2.length
  rest : (tkI n r l).1.rest.length ≤ r.rest.length
  err : (tkI n r l).1.err = 0 → r.err = 0
  fits : (∀ v ∈ l, v.slot < 18446744073709551616 ∧ v.value.length ≤ 65536) → ∀ v ∈ (tkI n r l).2, v.slot < 18446744073709551616 ∧ v.value.length ≤ 65536
  back : (tkI n r l).1.err = 0 → ∃ l2, (tkI n r l).2 = l ++ l2 ∧ l2.length = n ∧ r.rest = l2.flatMap imB ++ (tkI n r l).1.rest
theorem tkI_all (n : Nat) : ∀ (r : Rd) (l : List Im), TkI n r l := by
  induction n with
  | zero => intro r l; exact ⟨fun h => h, Nat.le_refl _, fun h => h, fun h => h, fun h => ⟨[], by simp [tkI], rfl, by simp [tkI]⟩⟩
  | succ n ih =>
    intro r l
    by_cases h0 : r.err = 0
    · have e := tkI_step (n + 1) r l (by omega) h0
      simp only [Nat.add_sub_cancel] at e
      have a := rest_num r
      have c := rest_str r.num.2 65536
      have h65 := str65 r.num.2
      have hgr : Grows r l.length → Grows (r.num.2.str 65536).2 (l.length + 1) := fun h => h.item h0
      have hsb : (r.num.2.str 65536).2.err = 0 → r.num.2.err = 0 ∧ r.num.2.rest = strB (r.num.2.str 65536).1 ++ (r.num.2.str 65536).2.rest := str_bk
      generalize r.num.2.str 65536 = p at e c h65 hgr hsb
      have i := ih p.2 (l ++ [⟨r.num.1, p.1⟩])
      refine ⟨fun h => ?_, ?_, fun _ => h0, fun h => ?_, fun h => ?_⟩
      · rw [e]; exact i.gr (by rw [List.length_append]; exact hgr h)
      · rw [e]; have := i.rest; omega
      · rw [e]
        refine i.fits fun v hv => ?_
        rcases List.mem_append.1 hv with hv | hv
        · exact h v hv
        · rw [List.mem_singleton.1 hv]
          exact ⟨lt_num r, h65⟩
      · rw [e] at h
        obtain ⟨l2, h1, h2, h3⟩ := i.back h
        have e3 := hsb (i.err h)
        have e1 := num_bk e3.1
        refine ⟨_ :: l2, by rw [e, h1, List.append_assoc]; rfl, by rw [List.length_cons, h2], ?_⟩
        rw [e, e1.2, e3.2, h3, List.flatMap_cons]
        simp [imB]
    · have e := tkI_stop (n + 1) r l (.inr h0)
      exact ⟨fun h => by rw [e]; exact h, by rw [e]; exact Nat.le_refl _, fun h => by rw [e] at h; exact h, fun h => by rw [e]; exact h, fun h => by rw [e] at h; exact absurd h h0⟩
/-- A part: what it leaves. -/
theorem take_mono (p : Pt) (a : Ms) (r : Rd) : (p.take (a, r)).2.rest.length ≤ r.rest.length ∧ ((p.take (a, r)).2.err = 0 → r.err = 0) := by
  cases p with
  | cmd => exact ⟨rest_takeC r, fun h => (Cmd.takeC_back h).1⟩
  | name => exact ⟨Nat.le_trans (rest_below _ _) (rest_byte r), fun h => Cmd.byte_err (Cmd.below_err h)⟩
  | reply => exact ⟨Nat.le_trans (rest_str _ _) (rest_byte r), fun h => Cmd.byte_err (Cmd.str_err h)⟩
  | node => exact ⟨rest_byte r, fun h => Cmd.byte_err h⟩
  | turn => exact ⟨rest_takeB r, fun h => (takeB_err h).1⟩
  | floor => exact ⟨rest_num r, fun h => num_err h⟩
  | slot l => exact ⟨rest_num r, fun h => num_err h⟩
  | value => exact ⟨rest_str r _, fun h => Cmd.str_err h⟩
  | votes => exact ⟨Nat.le_trans (tkV_all _ _ _).rest (rest_num r), fun h => num_err ((tkV_all _ _ _).err h)⟩
  | items => exact ⟨Nat.le_trans (tkI_all _ _ _).rest (rest_num r), fun h => num_err ((tkI_all _ _ _).err h)⟩
theorem Grows.mono {r r' : Rd} {n : Nat} (h : Grows r n) (h1 : r'.rest.length ≤ r.rest.length) (h2 : r'.err = 0 → r.err = 0) : Grows r' n :=
  ⟨Nat.le_trans h1 h.h1, h.h2, fun e => by have := h.h3 (h2 e); omega⟩
def GG (x : Ms × Rd) : Prop := Grows x.2 x.1.votes.length ∧ Grows x.2 x.1.items.length
theorem take_grows (p : Pt) (x : Ms × Rd) (h : GG x) : GG (p.take x) := by
  obtain ⟨a, r⟩ := x
  have hm := take_mono p a r
  have k : Grows (p.take (a, r)).2 a.votes.length ∧ Grows (p.take (a, r)).2 a.items.length := ⟨h.1.mono hm.1 hm.2, h.2.mono hm.1 hm.2⟩
  cases p with
  | votes => exact ⟨(tkV_all _ _ _).gr h.1.num, k.2⟩
  | items => exact ⟨k.1, (tkI_all _ _ _).gr h.2.num⟩
  | _ => exact k
/-- What is taken fits its types; how long its texts are. -/
structure Ok (a : Ms) : Prop where
  fits : a.Fits
  h1 : a.value.length ≤ 65536
  h4 : ∀ v ∈ a.votes, v.value.length ≤ 65536
  h5 : ∀ x ∈ a.items, x.value.length ≤ 65536
  h6 : a.cmd.key.length ≤ 1000
  h7 : a.cmd.old.length ≤ 1000
  h8 : a.cmd.new.length ≤ 1000
  h9 : a.text.length ≤ 1000
theorem takeC_small (r : Rd) : (Cmd.takeC r).1.key.length ≤ 1000 ∧ (Cmd.takeC r).1.old.length ≤ 1000 ∧ (Cmd.takeC r).1.new.length ≤ 1000 := by
  obtain ⟨r1, r2, r3, r4, r5, r6, r7, a, b, k, z, s, t, u, e1, e2, e3, e4, e5, e6, e7, _⟩ := Cmd.takeC_parts r
  rw [Cmd.takeC_eq e1 e2 e3 e4 e5 e6 e7]
  have h4 := Cmd.str_most (m := 16) e4
  have h5 := Cmd.str_most (m := 64) e5
  have h6 := Cmd.str_most (m := 64) e6
  by_cases h : (if Cmd.mayB ⟨a, b, k, s, t, u, z⟩ then r7 else r7.bad).err = 0
  · rw [if_pos h]; exact ⟨by show s.length ≤ _; omega, by show t.length ≤ _; omega, by show u.length ≤ _; omega⟩
  · rw [if_neg h]; exact ⟨by show Cmd.cm0.key.length ≤ 1000; decide, by show Cmd.cm0.old.length ≤ 1000; decide, by show Cmd.cm0.new.length ≤ 1000; decide⟩
theorem take_ok (p : Pt) (x : Ms × Rd) (h : Ok x.1) : Ok (p.take x).1 := by
  obtain ⟨a, r⟩ := x
  obtain ⟨⟨f1, f2, f3, f4, f5, f6, f7, f8, f9, f10⟩, g1, g4, g5, g6, g7, g8, g9⟩ := h
  cases p with
  | cmd => exact ⟨⟨f1, f2, f3, f4, f5, f6, f7, f8, Cmd.takeC_fits r, f10⟩, g1, g4, g5, (takeC_small r).1, (takeC_small r).2.1, (takeC_small r).2.2, g9⟩
  | name => exact ⟨⟨f1, f2, f3, f4, f5, f6, f7, f8, ⟨lt_byte r, lt_below _ _ (by decide), f9.h3, f9.h4, f9.h5, f9.h6, f9.h7⟩, f10⟩, g1, g4, g5, g6, g7, g8, g9⟩
  | reply => exact ⟨⟨f1, f2, f3, f4, f5, f6, f7, f8, f9, lt_byte r⟩, g1, g4, g5, g6, g7, g8, str64 r.byte.2⟩
  | node => exact ⟨⟨f1, f2, f3, f4, f5, lt_byte r, f7, f8, f9, f10⟩, g1, g4, g5, g6, g7, g8, g9⟩
  | turn => exact ⟨⟨f1, (takeB_lt r).1, (takeB_lt r).2, f4, f5, f6, f7, f8, f9, f10⟩, g1, g4, g5, g6, g7, g8, g9⟩
  | floor => exact ⟨⟨f1, f2, f3, lt_num r, f5, f6, f7, f8, f9, f10⟩, g1, g4, g5, g6, g7, g8, g9⟩
  | slot l => exact ⟨⟨f1, f2, f3, f4, lt_num r, f6, f7, f8, f9, f10⟩, g1, g4, g5, g6, g7, g8, g9⟩
  | value => exact ⟨⟨f1, f2, f3, f4, f5, f6, f7, f8, f9, f10⟩, str65 r, g4, g5, g6, g7, g8, g9⟩
  | votes =>
    have hv := (tkV_all r.num.1 r.num.2 a.votes).fits fun v hv => ⟨f7 v hv, g4 v hv⟩
    exact ⟨⟨f1, f2, f3, f4, f5, f6, fun v hm => (hv v hm).1, f8, f9, f10⟩, g1, fun v hm => (hv v hm).2, g5, g6, g7, g8, g9⟩
  | items =>
    have hv := (tkI_all r.num.1 r.num.2 a.items).fits fun v hv => ⟨f8 v hv, g5 v hv⟩
    exact ⟨⟨f1, f2, f3, f4, f5, f6, f7, fun v hm => (hv v hm).1, f9, f10⟩, g1, g4, fun v hm => (hv v hm).2, g6, g7, g8, g9⟩
/-- A part that was read was put so. -/
theorem part_back (p : Pt) (a : Ms) (r : Rd) (hv : p = .votes → a.votes = []) (hi : p = .items → a.items = []) (h : (p.take (a, r)).2.err = 0) : r.err = 0 ∧ r.rest = p.put (p.take (a, r)).1 ++ (p.take (a, r)).2.rest := by
  cases p with
  | cmd => have := Cmd.takeC_back h; exact ⟨this.1, this.2.1⟩
  | name =>
    have b := below_bk h
    have c := byte_bk b.1
    refine ⟨c.1, ?_⟩
    rw [c.2, b.2]
    rfl
  | reply =>
    have b := str_bk h
    have c := byte_bk b.1
    refine ⟨c.1, ?_⟩
    rw [c.2, b.2]
    rfl
  | node => have b := byte_bk h; exact ⟨b.1, b.2⟩
  | turn => have b := bal_bk h; exact ⟨b.1, b.2.1⟩
  | floor => exact num_bk h
  | slot l => exact num_bk h
  | value => exact str_bk h
  | votes =>
    have t := tkV_all r.num.1 r.num.2 a.votes
    obtain ⟨l2, h1, h2, h3⟩ := t.back h
    have b := num_bk (t.err h)
    refine ⟨b.1, ?_⟩
    show r.rest = (numB (tkV r.num.1 r.num.2 a.votes).2.length ++ (tkV r.num.1 r.num.2 a.votes).2.flatMap voB) ++ (tkV r.num.1 r.num.2 a.votes).1.rest
    rw [h1, show a.votes ++ l2 = l2 by rw [hv rfl]; rfl, h2, b.2]
    conv => lhs; rw [h3]
    simp
  | items =>
    have t := tkI_all r.num.1 r.num.2 a.items
    obtain ⟨l2, h1, h2, h3⟩ := t.back h
    have b := num_bk (t.err h)
    refine ⟨b.1, ?_⟩
    show r.rest = (numB (tkI r.num.1 r.num.2 a.items).2.length ++ (tkI r.num.1 r.num.2 a.items).2.flatMap imB) ++ (tkI r.num.1 r.num.2 a.items).1.rest
    rw [h1, show a.items ++ l2 = l2 by rw [hi rfl]; rfl, h2, b.2]
    conv => lhs; rw [h3]
    simp
/-- Parts that do not touch one another. -/
def indep : Pt → Pt → Bool
  | .cmd, .cmd | .cmd, .name | .name, .cmd | .name, .name | .reply, .reply | .node, .node | .turn, .turn | .floor, .floor | .slot _, .slot _ | .value, .value | .votes, .votes | .items, .items => false
  | _, _ => true
theorem put_indep (p q : Pt) (h : indep p q = true) (x : Ms × Rd) : p.put (q.take x).1 = p.put x.1 := by
  obtain ⟨a, r⟩ := x
  cases p <;> cases q <;> first | rfl | cases h
def apart : List Pt → Bool
  | [] => true
  | p :: l => l.all (indep p) && apart l
theorem parts_apart (k : Nat) : apart (partsOf k) = true := by
  by_cases h : k < 14
  · have hd : ∀ k : Nat, k < 14 → apart (partsOf k) = true := by decide
    exact hd k h
  · have e : partsOf k = [] := by unfold partsOf; repeat rw [if_neg (by omega)]
    rw [e]; rfl
theorem put_fold (p : Pt) : ∀ (l : List Pt) (x : Ms × Rd), l.all (indep p) = true → p.put (l.foldl (fun a q => q.take a) x).1 = p.put x.1
  | [], _, _ => rfl
  | q :: l, x, h => by
    rw [List.all_cons, Bool.and_eq_true] at h
    rw [List.foldl_cons, put_fold p l _ h.2, put_indep p q h.1]
theorem lists_keep (p : Pt) (x : Ms × Rd) : (p ≠ .votes → (p.take x).1.votes = x.1.votes) ∧ (p ≠ .items → (p.take x).1.items = x.1.items) ∧ (p.take x).1.kind = x.1.kind := by
  obtain ⟨a, r⟩ := x
  cases p <;> exact ⟨fun h => by first | rfl | exact absurd rfl h, fun h => by first | rfl | exact absurd rfl h, rfl⟩
theorem fold_back : ∀ (l : List Pt) (x : Ms × Rd), apart l = true → (.votes ∈ l → x.1.votes = []) → (.items ∈ l → x.1.items = []) → (l.foldl (fun a q => q.take a) x).2.err = 0 →
    x.2.err = 0 ∧ x.2.rest = l.flatMap (fun p => p.put (l.foldl (fun a q => q.take a) x).1) ++ (l.foldl (fun a q => q.take a) x).2.rest
  | [], _, _, _, _, h => ⟨h, rfl⟩
  | p :: l, x, ha, hv, hi, h => by
    have ha : (l.all (indep p) && apart l) = true := ha
    rw [Bool.and_eq_true] at ha
    have hnv : p = .votes → .votes ∉ l := fun e hm => by
      subst e
      have := List.all_eq_true.1 ha.1 _ hm
      cases this
    have hni : p = .items → .items ∉ l := fun e hm => by
      subst e
      have := List.all_eq_true.1 ha.1 _ hm
      cases this
    have hk := lists_keep p x
    obtain ⟨b1, b2⟩ := fold_back l (p.take x) ha.2 (fun hm => by
      by_cases e : p = .votes
      · exact absurd hm (hnv e)
      · rw [hk.1 e]; exact hv (List.mem_cons_of_mem _ hm)) (fun hm => by
      by_cases e : p = .items
      · exact absurd hm (hni e)
      · rw [hk.2.1 e]; exact hi (List.mem_cons_of_mem _ hm)) h
    obtain ⟨c1, c2⟩ := part_back p x.1 x.2 (fun e => hv (by rw [e]; exact List.mem_cons_self ..)) (fun e => hi (by rw [e]; exact List.mem_cons_self ..)) b1
    refine ⟨c1, ?_⟩
    rw [c2, show ((p.take (x.1, x.2)).2.rest) = (p.take x).2.rest from rfl, b2, List.flatMap_cons, List.foldl_cons, put_fold p l _ ha.1]
    simp
theorem fold_kind : ∀ (l : List Pt) (x : Ms × Rd), (l.foldl (fun a q => q.take a) x).1.kind = x.1.kind
  | [], _ => rfl
  | p :: l, x => by rw [List.foldl_cons, fold_kind l, (lists_keep p x).2.2]
theorem fold_ok : ∀ (l : List Pt) (x : Ms × Rd), Ok x.1 → Ok (l.foldl (fun a q => q.take a) x).1
  | [], _, h => h
  | p :: l, x, h => fold_ok l (p.take x) (take_ok p x h)
theorem fold_grows : ∀ (l : List Pt) (x : Ms × Rd), GG x → GG (l.foldl (fun a q => q.take a) x)
  | [], _, h => h
  | p :: l, x, h => fold_grows l (p.take x) (take_grows p x h)
theorem ms0_ok (k : Nat) (hk : k < 256) : Ok (ms0 k) :=
  ⟨⟨hk, (show 0 < 18446744073709551616 by decide), (show 0 < 256 by decide), (show 0 < 18446744073709551616 by decide), (show 0 < 18446744073709551616 by decide), (show 0 < 256 by decide), (fun v h => by cases h), (fun v h => by cases h), Cmd.cm0_fits, (show 0 < 256 by decide)⟩, (show 0 ≤ 65536 by decide), (fun v h => by cases h), (fun v h => by cases h), (show 0 ≤ 1000 by decide), (show 0 ≤ 1000 by decide), (show 0 ≤ 1000 by decide), (show 0 ≤ 1000 by decide)⟩
theorem taken_kind (l : List Pt) (k : Nat) (r : Rd) : (taken l k r).1.kind = k := fold_kind l (ms0 k, r)
theorem taken_back {k : Nat} {r : Rd} (h : (taken (partsOf k) k r).2.err = 0) : r.err = 0 ∧ r.rest = (partsOf k).flatMap (fun p => p.put (taken (partsOf k) k r).1) ++ (taken (partsOf k) k r).2.rest :=
  fold_back (partsOf k) (ms0 k, r) (parts_apart k) (fun _ => rfl) (fun _ => rfl) h
/-- What was taken without an error is small. -/
theorem votes_in {k : Nat} (m : Ms) (hk : m.kind = k) : (.votes ∈ partsOf k → (m.votes.flatMap voB).length ≤ ((partsOf k).flatMap (fun p => p.put m)).length) ∧ (.items ∈ partsOf k → (m.items.flatMap imB).length ≤ ((partsOf k).flatMap (fun p => p.put m)).length) := by
  have g : ∀ (l : List Pt) (p : Pt), p ∈ l → (p.put m).length ≤ (l.flatMap (fun p => p.put m)).length := by
    intro l p hp
    obtain ⟨s, t, rfl⟩ := List.append_of_mem hp
    simp only [List.flatMap_append, List.flatMap_cons, List.length_append]
    omega
  refine ⟨fun h => Nat.le_trans ?_ (g _ _ h), fun h => Nat.le_trans ?_ (g _ _ h)⟩
  · show _ ≤ (numB m.votes.length ++ m.votes.flatMap voB).length
    rw [List.length_append]; omega
  · show _ ≤ (numB m.items.length ++ m.items.flatMap imB).length
    rw [List.length_append]; omega
theorem fold_lists : ∀ (l : List Pt) (x : Ms × Rd), (.votes ∉ l → (l.foldl (fun a q => q.take a) x).1.votes = x.1.votes) ∧ (.items ∉ l → (l.foldl (fun a q => q.take a) x).1.items = x.1.items)
  | [], _ => ⟨fun _ => rfl, fun _ => rfl⟩
  | p :: l, x => by
    have i := fold_lists l (p.take x)
    have k := lists_keep p x
    refine ⟨fun h => ?_, fun h => ?_⟩
    · rw [List.foldl_cons, i.1 (fun hm => h (List.mem_cons_of_mem _ hm)), k.1 (fun e => h (by rw [e]; exact List.mem_cons_self ..))]
    · rw [List.foldl_cons, i.2 (fun hm => h (List.mem_cons_of_mem _ hm)), k.2.1 (fun e => h (by rw [e]; exact List.mem_cons_self ..))]
theorem taken_small {k : Nat} (hk : k < 256) {r : Rd} (hr : r.rest.length ≤ 100000) (h : (taken (partsOf k) k r).2.err = 0) : (taken (partsOf k) k r).1.Fits ∧ (taken (partsOf k) k r).1.Small := by
  have o := fold_ok (partsOf k) (ms0 k, r) (ms0_ok k hk)
  have g := fold_grows (partsOf k) (ms0 k, r) ⟨⟨hr, by show 0 ≤ 100001; omega, fun _ => by show 0 + r.rest.length ≤ _; omega⟩, ⟨hr, by show 0 ≤ 100001; omega, fun _ => by show 0 + r.rest.length ≤ _; omega⟩⟩
  have b := (taken_back h).2
  have fl := fold_lists (partsOf k) (ms0 k, r)
  have vi := votes_in (taken (partsOf k) k r).1 (taken_kind _ _ _)
  change Ok (taken (partsOf k) k r).1 at o
  change GG (taken (partsOf k) k r) at g
  change (.votes ∉ partsOf k → (taken (partsOf k) k r).1.votes = []) ∧ (.items ∉ partsOf k → (taken (partsOf k) k r).1.items = []) at fl
  generalize taken (partsOf k) k r = x at *
  have hb := congrArg List.length b
  rw [List.length_append] at hb
  have v3 := g.1.h3 h
  have i3 := g.2.h3 h
  refine ⟨o.fits, Nat.le_trans o.h1 (by decide), by omega, by omega, fun v hv => Nat.le_trans (o.h4 v hv) (by decide), fun v hv => Nat.le_trans (o.h5 v hv) (by decide), o.h6, o.h7, o.h8, o.h9, ?_, ?_⟩
  · by_cases hm : .votes ∈ partsOf k
    · have := vi.1 hm; omega
    · rw [fl.1 hm]; simp
  · by_cases hm : .items ∈ partsOf k
    · have := vi.2 hm; omega
    · rw [fl.2 hm]; simp
end Go.Proofs.YteiaiilfekojfaaGreat.Msg
end
section
set_option linter.unusedVariables false
set_option linter.unusedSimpArgs false
namespace Go.Proofs.YteiaiilfekojfaaGreat.Msg
open Go.RowKit Wire Sx DrawInv
def rdl (r : Rd) : List Value := [.int .i64 (r.err : Int), .string ⟨r.rest.toArray⟩]
theorem call_of {w0 : World} {L : List Ft} (l : List UInt8) : ∀ w, Hp w0 L w → Calls Tryz.prog 57 #[.string ⟨l.toArray⟩] w fun E w' => ∃ s : Nat, E = .returned (.pointer (some ⟨s, 0, none⟩)) ∧ (True ∧ ∀ g ∈ (cell s 157 (rdl ⟨0, l⟩)).fp, w0.heap.size ≤ g) ∧ Hp w0 (cell s 157 (rdl ⟨0, l⟩) :: L) w' :=
  callNew (fun s : Nat => .pointer (some ⟨s, 0, none⟩)) (fun _ => True) (fun s => cell s 157 (rdl ⟨0, l⟩)) (fun _ => cell_loc _ _ _) fun w H => (of_any l w).mono fun E w' ⟨h1, h2⟩ => by
    subst h2
    have hb : Blk (w.alloc (.cells (rdC ⟨0, l⟩) 157)) w.heap.size 157 (rdC ⟨0, l⟩) := Blk.new w _ _
    exact ⟨w.heap.size, h1, trivial, fun b hm => by rw [List.mem_singleton.1 hm]; exact ⟨Nat.le_refl _, hb.lt⟩, hb, (Below.refl _ w).alloc (Nat.le_refl _) _⟩
theorem call_take {w0 : World} {L R : List Ft} {P : Program} {f : Nat} {args : Array Value} {x x' : Ms × Rd} {V I : Value} {base gr g : Nat} (is : List Nat) (hp : picks L is = some (cell gr 157 (rdl x.2) :: madeF base g x.1 V I :: R)) (hn : is.Nodup) (hfr : Frs w0 is 0 L)
    (hgr : w0.heap.size ≤ gr) (hg : w0.heap.size ≤ g) (hV : OwnIn w0 [] V) (hI : OwnIn w0 [] I)
    (hc : ∀ w, Hp w0 (cell gr 157 (rdl x.2) :: madeF base g x.1 V I :: R) w → gr ≠ g → Calls P f args w fun e w' => ∃ V' I', e = .returned (.tuple #[]) ∧ Blk w' gr 157 (rdC x'.2) ∧ Made base g x'.1 V' I' w' ∧ (OwnIn w V.ownBlock.toList V' ∧ OwnIn w I.ownBlock.toList I') ∧ Outs ([gr, g] ++ (V.ownBlock.toList ++ I.ownBlock.toList)) w w') :
    ∀ w, Hp w0 L w → Calls P f args w fun E w' => ∃ V' I', E = .returned (.tuple #[]) ∧ (OwnIn w0 [] V' ∧ OwnIn w0 [] I') ∧ Hp w0 (cell gr 157 (rdl x'.2) :: madeF base g x'.1 V' I' :: R) w' := fun w H0 => by
  have H := H0.pick is hp hn hfr
  have hne : gr ≠ g := fun e => (List.pairwise_cons.1 H.dj).1 _ (List.mem_cons_self ..) gr (List.mem_singleton.2 rfl) (by rw [e]; exact List.mem_cons_self ..)
  refine (hc w H hne).mono fun E w' ⟨V', I', h1, h2, h3, h4, h5⟩ => ⟨V', I', h1, ⟨own_trans H.os.size hV h4.1, own_trans H.os.size hI h4.2⟩, ?_⟩
  have d1 := own_blk h3.2.1 h2 (by decide)
  have d2 := own_blk h3.2.2 h2 (by decide)
  have hlt : gr < w'.heap.size := Blk.lt h2
  refine H.two _ _ (h5.mono fun b hb _ => ?_) (cell_loc _ _ _) (madeF_loc _ _ _ _ _) (fun b hb => ?_) (fun b hb => ?_) (fun b hb hb2 => ?_) (fun b hb => .inl hb) (fun b hb => .inr (made_fresh hg hV hI b hb)) h2 h3
  · simp only [List.mem_append, List.mem_cons, List.not_mem_nil, or_false, cell, madeF] at hb ⊢
    rcases hb with (h | h) | h | h
    · exact .inl h
    · exact .inr (.inl h)
    · exact .inr (.inr (.inl h))
    · exact .inr (.inr (.inr h))
  · rw [List.mem_singleton.1 hb]
    exact ⟨hlt, .inl (List.mem_singleton.2 rfl)⟩
  · rcases List.mem_cons.1 hb with rfl | hb
    · exact ⟨Blk.lt h3.1, .inl (List.mem_cons_self ..)⟩
    · rcases List.mem_append.1 hb with hb | hb
      · exact ⟨(own_lt h3.2.1 b hb).2, (h4.1 b hb).imp (fun h => List.mem_cons_of_mem _ (List.mem_append.2 (.inl h))) id⟩
      · exact ⟨(own_lt h3.2.2 b hb).2, (h4.2 b hb).imp (fun h => List.mem_cons_of_mem _ (List.mem_append.2 (.inr h))) id⟩
  · rw [List.mem_singleton.1 hb] at hb2
    rcases List.mem_cons.1 hb2 with h | h
    · exact hne h
    · rcases List.mem_append.1 h with h | h
      · exact d1 h
      · exact d2 h
theorem ftake_p {s : List UInt8} {p : List UInt8 × Nat × Nat} (hp : Frame.takeF s = p) (hs : s.length ≤ 100000) (w : World) : Calls Tryz.prog 56 #[.string ⟨s.toArray⟩] w fun e w' => e = .returned (.tuple #[.string ⟨p.1.toArray⟩, .int .i64 (p.2.1 : Int), .int .i64 (p.2.2 : Int)]) ∧ Below w.heap.size w w' := by
  subst hp
  exact Frame.ftake_any s (by omega) w
theorem takeF_len (s : List UInt8) : (Frame.takeF s).1.length ≤ 65536 := by
  unfold Frame.takeF
  dsimp only
  split
  · simp
  · split
    · simp
    · split
      · simp
      · split
        · simp
        · rename_i h _ _
          have : ¬ 65536 < (Rd.num ⟨0, s⟩).1 := fun h' => h (.inr h')
          show (List.take (Rd.num ⟨0, s⟩).1 _).length ≤ 65536
          rw [List.length_take]
          omega
theorem takeM_1 {s fi : List UInt8} {fn fe : Nat} (hF : Frame.takeF s = (fi, fn, fe)) (h : fe ≠ 0) : takeM s = (ms0 0, fe) := by
  unfold takeM; rw [hF]; dsimp only; rw [if_pos h]
theorem takeM_2 {s fi : List UInt8} {fn fe : Nat} (hF : Frame.takeF s = (fi, fn, fe)) (h : fe = 0) (hn : fn ≠ s.length) : takeM s = (ms0 0, 4) := by
  unfold takeM; rw [hF]; dsimp only; rw [if_neg (by omega), if_pos hn]
theorem takeM_3 {s fi : List UInt8} {fn fe : Nat} {k : Nat × Rd} {x : Ms × Rd} (hF : Frame.takeF s = (fi, fn, fe)) (h : fe = 0) (hn : fn = s.length) (hk : Rd.byte ⟨0, fi⟩ = k) (hx : x = taken (partsOf k.1) k.1 k.2) : takeM s = if x.2.end_.err = 0 ∧ checkB x.1 = true then (x.1, 0) else (ms0 0, 4) := by
  unfold takeM; rw [hF]; dsimp only; rw [if_neg (by omega), if_neg (by omega), hk, ← hx]
/-- What Take hands back: the message; its lists are rows of their own. -/
def TakeRet (s : List UInt8) (w : World) (e : Ending) (w' : World) : Prop := ∃ V I, e = .returned (.tuple #[.agg (msL (takeM s).1 V I).toArray, .int .i64 ((takeM s).2 : Int)]) ∧ w'.ownsRow w.heap.size 92 4 V (takeM s).1.votes.length ((takeM s).1.votes.flatMap voL) ∧ w'.ownsRow w.heap.size 94 2 I (takeM s).1.items.length ((takeM s).1.items.flatMap imL) ∧ Below w.heap.size w w'
theorem taken_snoc {k : Nat} {p : Pt} {kk : Nat} {r : Rd} (h : (partsOf kk)[k]? = some p) : taken ((partsOf kk).take (k + 1)) kk r = p.take (taken ((partsOf kk).take k) kk r) := by
  unfold taken; rw [take_snoc h, List.foldl_append]; rfl
end Go.Proofs.YteiaiilfekojfaaGreat.Msg
end
section
set_option linter.unusedVariables false
set_option linter.unusedSimpArgs false
namespace Go.Proofs.YteiaiilfekojfaaGreat.Msg
open Go.RowKit Wire

theorem str_fwd (s : List UInt8) (m : Nat) (h : s.length ≤ m) (hm : m < 4611686018427387904) (rest : List UInt8) : Rd.str ⟨0, strB s ++ rest⟩ (m : Int) = (s, ⟨0, rest⟩) := by
  have e : strB s ++ rest = numB s.length ++ (s ++ rest) := by unfold strB; simp
  have hmm : (max (m : Int) 0).toNat + 1 = m + 1 := by omega
  unfold Rd.str
  rw [e, hmm, Cmd.below_put_back s.length (m + 1) (by omega) (by omega)]
  simp only
  rw [Wire.take_ok _ _ (by rw [List.length_append]; omega)]
  simp
theorem str_fwd65 (s : List UInt8) (h : s.length ≤ 65536) (rest : List UInt8) : Rd.str ⟨0, strB s ++ rest⟩ 65536 = (s, ⟨0, rest⟩) := by
  have h := str_fwd s 65536 h (by decide) rest
  rw [show ((65536 : Nat) : Int) = 65536 from rfl] at h
  exact h
theorem str_fwd64 (s : List UInt8) (h : s.length ≤ 64) (rest : List UInt8) : Rd.str ⟨0, strB s ++ rest⟩ 64 = (s, ⟨0, rest⟩) := by
  have h := str_fwd s 64 h (by decide) rest
  rw [show ((64 : Nat) : Int) = 64 from rfl] at h
  exact h
theorem byte_fwd (x : Nat) (h : x < 256) (rest : List UInt8) : Rd.byte ⟨0, UInt8.ofNat x :: rest⟩ = (x, ⟨0, rest⟩) := Cmd.byte_nat x h rest
theorem good_parts {n r : Nat} (h : goodB n r = true) : Bal.mayB ⟨n, r⟩ = true := by unfold goodB at h; rw [Bool.and_eq_true] at h; exact h.1
theorem bal_fwd (n r : Nat) (hn : n < 18446744073709551616) (hr : r < 256) (h : goodB n r = true) (rest : List UInt8) : Bal.takeB ⟨0, Bal.balB ⟨n, r⟩ ++ rest⟩ = (⟨n, r⟩, ⟨0, rest⟩) := by
  have e : Bal.balB ⟨n, r⟩ ++ rest = numB n ++ (UInt8.ofNat r :: rest) := by simp [Bal.balB]
  have e1 := num_put_back n hn (UInt8.ofNat r :: rest)
  have e2 := byte_fwd r hr rest
  unfold Bal.takeB
  rw [e, e1]
  dsimp only
  rw [e2]
  dsimp only
  rw [if_pos (good_parts h), if_pos rfl]
theorem tkV_fwd (rest : List UInt8) : ∀ (l acc : List Vo), (∀ v ∈ l, v.Fits ∧ v.value.length ≤ 65536 ∧ goodB v.n v.r = true) → tkV l.length ⟨0, l.flatMap voB ++ rest⟩ acc = (⟨0, rest⟩, acc ++ l)
  | [], acc, _ => by simp [tkV]
  | v :: l, acc, h => by
    obtain ⟨hf, hs, hg⟩ := h v (List.mem_cons_self ..)
    have e : (v :: l).flatMap voB ++ rest = numB v.slot ++ (Bal.balB ⟨v.n, v.r⟩ ++ (strB v.value ++ (l.flatMap voB ++ rest))) := by simp [voB]
    have e1 := num_put_back v.slot hf.h1 (Bal.balB ⟨v.n, v.r⟩ ++ (strB v.value ++ (l.flatMap voB ++ rest)))
    have e2 := bal_fwd v.n v.r hf.h2 hf.h3 hg (strB v.value ++ (l.flatMap voB ++ rest))
    have e3 := str_fwd65 v.value hs (l.flatMap voB ++ rest)
    rw [e, List.length_cons, tkV_step _ _ _ (by omega) rfl, e1]
    simp only [e2, e3, Nat.add_sub_cancel]
    rw [tkV_fwd rest l _ fun x hx => h x (List.mem_cons_of_mem _ hx)]
    simp
theorem tkI_fwd (rest : List UInt8) : ∀ (l acc : List Im), (∀ v ∈ l, v.slot < 18446744073709551616 ∧ v.value.length ≤ 65536) → tkI l.length ⟨0, l.flatMap imB ++ rest⟩ acc = (⟨0, rest⟩, acc ++ l)
  | [], acc, _ => by simp [tkI]
  | v :: l, acc, h => by
    obtain ⟨hf, hs⟩ := h v (List.mem_cons_self ..)
    have e : (v :: l).flatMap imB ++ rest = numB v.slot ++ (strB v.value ++ (l.flatMap imB ++ rest)) := by simp [imB]
    have e1 := num_put_back v.slot hf (strB v.value ++ (l.flatMap imB ++ rest))
    have e3 := str_fwd65 v.value hs (l.flatMap imB ++ rest)
    rw [e, List.length_cons, tkI_step _ _ _ (by omega) rfl, e1]
    simp only [e3, Nat.add_sub_cancel]
    rw [tkI_fwd rest l _ fun x hx => h x (List.mem_cons_of_mem _ hx)]
    simp
theorem rise_good : ∀ (last : Nat) (l : List Vo), riseV last l = true → ∀ v ∈ l, goodB v.n v.r = true
  | _, [], _, v, hv => by cases hv
  | last, x :: l, h, v, hv => by
    unfold riseV at h
    simp only [Bool.and_eq_true] at h
    rcases List.mem_cons.1 hv with rfl | hv
    · exact h.2.2.1
    · exact rise_good x.slot l h.2.2.2 v hv
/-- What a part has put, it takes. -/
theorem part_fwd (p : Pt) (a m : Ms) (rest : List UInt8) (hf : m.Fits) (hm : p.may m = true) (hv : p = .votes → a.votes = []) (hi : p = .items → a.items = []) (h1 : m.value.length ≤ 65536) (h4 : ∀ v ∈ m.votes, v.value.length ≤ 65536) (h5 : ∀ x ∈ m.items, x.value.length ≤ 65536) :
    p.take (a, ⟨0, p.put m ++ rest⟩) = (p.move a m, ⟨0, rest⟩) := by
  cases p with
  | cmd => have e := Cmd.takeC_put m.cmd hm hf.h9 rest; simp only [Pt.take, Pt.put, Pt.move, e]
  | name =>
    have e1 := byte_fwd m.cmd.client hf.h9.h1 (numB m.cmd.seq ++ rest)
    have e2 := Cmd.below_put_back m.cmd.seq 4294967296 hf.h9.h2 (by have := hf.h9.h2; omega) rest
    simp only [Pt.take, Pt.put, Pt.move, List.cons_append, e1, e2]
  | reply =>
    have hm : (decide (m.code ≤ 3) && decide (m.text.length ≤ 64)) = true := hm
    rw [Bool.and_eq_true] at hm
    have e1 := byte_fwd m.code hf.h10 (strB m.text ++ rest)
    have e2 := str_fwd64 m.text (of_decide_eq_true hm.2) rest
    simp only [Pt.take, Pt.put, Pt.move, List.cons_append, e1, e2]
  | node =>
    have e1 := byte_fwd m.node hf.h6 rest
    simp only [Pt.take, Pt.put, Pt.move, List.cons_append, List.nil_append, e1]
  | turn => have e := bal_fwd m.bn m.br hf.h2 hf.h3 hm rest; simp only [Pt.take, Pt.put, Pt.move, e]
  | floor => have e := num_put_back m.base hf.h4 rest; simp only [Pt.take, Pt.put, Pt.move, e]
  | slot l => have e := num_put_back m.slot hf.h5 rest; simp only [Pt.take, Pt.put, Pt.move, e]
  | value => have e := str_fwd65 m.value h1 rest; simp only [Pt.take, Pt.put, Pt.move, e]
  | votes =>
    have hlen : m.votes.length < 18446744073709551616 ∨ ¬ m.votes.length < 18446744073709551616 := Decidable.em _
    rcases hlen with hlen | hlen
    · have e1 := num_put_back m.votes.length hlen (m.votes.flatMap voB ++ rest)
      have e2 := tkV_fwd rest m.votes a.votes fun v h => ⟨hf.h7 v h, h4 v h, rise_good 0 _ hm v h⟩
      rw [hv rfl] at e2
      simp only [Pt.take, Pt.put, Pt.move, List.append_assoc, e1, hv rfl, e2, List.nil_append]
    · exfalso
      -- a rising row below 2^62 has fewer than 2^62 members
      have hr : ∀ (l : List Vo) (last : Nat), riseV last l = true → last + l.length ≤ 4611686018427387904 ∨ l = [] := by
        intro l
        induction l with
        | nil => intro last _; exact .inr rfl
        | cons x l ih =>
          intro last h
          unfold riseV at h
          simp only [Bool.and_eq_true, decide_eq_true_eq] at h
          obtain ⟨g1, g2, _, g4⟩ := h
          left
          rcases ih x.slot g4 with g | g
          · rw [List.length_cons]; omega
          · rw [g]; simp; omega
      rcases hr m.votes 0 hm with g | g
      · omega
      · rw [g] at hlen; simp at hlen
  | items =>
    have hm : (riseI 0 m.items && decide (0 < m.items.length)) = true := hm
    rw [Bool.and_eq_true] at hm
    have hr : ∀ (l : List Im) (last : Nat), riseI last l = true → last + l.length ≤ 4611686018427387904 ∨ l = [] := by
      intro l
      induction l with
      | nil => intro last _; exact .inr rfl
      | cons x l ih =>
        intro last h
        unfold riseI at h
        simp only [Bool.and_eq_true, decide_eq_true_eq] at h
        obtain ⟨g1, g2, g4⟩ := h
        left
        rcases ih x.slot g4 with g | g
        · rw [List.length_cons]; omega
        · rw [g]; simp; omega
    have hlen : m.items.length < 18446744073709551616 := by
      rcases hr m.items 0 hm.1 with g | g
      · omega
      · rw [g]; decide
    have e1 := num_put_back m.items.length hlen (m.items.flatMap imB ++ rest)
    have e2 := tkI_fwd rest m.items a.items fun v h => ⟨hf.h8 v h, h5 v h⟩
    rw [hi rfl] at e2
    simp only [Pt.take, Pt.put, Pt.move, List.append_assoc, e1, hi rfl, e2, List.nil_append]
theorem move_lists (p : Pt) (a m : Ms) : (p ≠ .votes → (p.move a m).votes = a.votes) ∧ (p ≠ .items → (p.move a m).items = a.items) := by
  cases p <;> exact ⟨fun h => by first | rfl | exact absurd rfl h, fun h => by first | rfl | exact absurd rfl h⟩
theorem fold_fwd (m : Ms) (hf : m.Fits) (h1 : m.value.length ≤ 65536) (h4 : ∀ v ∈ m.votes, v.value.length ≤ 65536) (h5 : ∀ x ∈ m.items, x.value.length ≤ 65536) : ∀ (l : List Pt) (a : Ms) (rest : List UInt8), apart l = true → l.all (fun p => p.may m) = true → (.votes ∈ l → a.votes = []) → (.items ∈ l → a.items = []) →
    l.foldl (fun a q => q.take a) (a, ⟨0, l.flatMap (fun p => p.put m) ++ rest⟩) = (l.foldl (fun a p => p.move a m) a, ⟨0, rest⟩)
  | [], a, rest, _, _, _, _ => rfl
  | p :: l, a, rest, ha, hm, hv, hi => by
    have ha : (l.all (indep p) && apart l) = true := ha
    rw [Bool.and_eq_true] at ha
    rw [List.all_cons, Bool.and_eq_true] at hm
    have e : (p :: l).flatMap (fun p => p.put m) ++ rest = p.put m ++ (l.flatMap (fun p => p.put m) ++ rest) := by rw [List.flatMap_cons, List.append_assoc]
    rw [List.foldl_cons, e, part_fwd p a m _ hf hm.1 (fun e => hv (by rw [e]; exact List.mem_cons_self ..)) (fun e => hi (by rw [e]; exact List.mem_cons_self ..)) h1 h4 h5, List.foldl_cons]
    have k := move_lists p a m
    refine fold_fwd m hf h1 h4 h5 l (p.move a m) rest ha.2 hm.2 (fun hq => ?_) (fun hq => ?_)
    · by_cases e : p = .votes
      · subst e; have := List.all_eq_true.1 ha.1 _ hq; cases this
      · rw [k.1 e]; exact hv (List.mem_cons_of_mem _ hq)
    · by_cases e : p = .items
      · subst e; have := List.all_eq_true.1 ha.1 _ hq; cases this
      · rw [k.2 e]; exact hi (List.mem_cons_of_mem _ hq)
/-- What is short enough to be looked at. -/
structure Ms.Short (m : Ms) : Prop where
  h1 : m.value.length ≤ 65536
  h4 : ∀ v ∈ m.votes, v.value.length ≤ 65536
  h5 : ∀ x ∈ m.items, x.value.length ≤ 65536
theorem check_parts {m : Ms} (h : checkB m = true) : (partsOf m.kind).all (fun p => p.may m) = true ∧ m = moved (partsOf m.kind) m ∧ partsOf m.kind ≠ [] := by
  unfold checkB at h
  simp only [Bool.and_eq_true, Bool.not_eq_true', decide_eq_true_eq] at h
  exact ⟨h.2.1, h.2.2, fun e => by rw [e] at h; cases h.1⟩
theorem takeM_put (m : Ms) (hf : m.Fits) (hs : m.Short) (hc : checkB m = true) (hl : (insideB m).length ≤ 65536) : takeM (Frame.frameB (insideB m)) = (m, 0) := by
  obtain ⟨c1, c2, _⟩ := check_parts hc
  have hF := Frame.take_put (insideB m) [] (by simp [insideB]) hl
  rw [List.append_nil] at hF
  have hk : Rd.byte ⟨0, insideB m⟩ = (m.kind, ⟨0, (partsOf m.kind).flatMap (fun p => p.put m)⟩) := byte_fwd m.kind hf.h1 _
  have hx := fold_fwd m hf hs.h1 hs.h4 hs.h5 (partsOf m.kind) (ms0 m.kind) [] (parts_apart _) c1 (fun _ => rfl) (fun _ => rfl)
  rw [List.append_nil] at hx
  have hx2 : (m, (⟨0, []⟩ : Rd)) = taken (partsOf m.kind) m.kind ⟨0, (partsOf m.kind).flatMap (fun p => p.put m)⟩ := by
    unfold taken
    rw [hx]
    exact congrArg (fun z => (z, (⟨0, []⟩ : Rd))) c2
  rw [takeM_3 hF rfl rfl hk hx2, if_pos ⟨by show (Rd.end_ ⟨0, []⟩).err = 0; rfl, hc⟩]
theorem putM_is_ok {m : Ms} (hc : checkB m = true) (hl : (insideB m).length ≤ 65536) : putM m = (Frame.frameB (insideB m), 0) := by unfold putM; rw [if_pos hc, if_pos hl]
/-- Looked at by a law: not great. -/
structure Ms.Lim (m : Ms) : Prop where
  h1 : m.value.length ≤ 300
  h2 : m.votes.length ≤ 100
  h3 : m.items.length ≤ 100
  h4 : ∀ v ∈ m.votes, v.value.length ≤ 300
  h5 : ∀ x ∈ m.items, x.value.length ≤ 300
  h6 : m.cmd.key.length ≤ 300
  h7 : m.cmd.old.length ≤ 300
  h8 : m.cmd.new.length ≤ 300
  h9 : m.text.length ≤ 300
theorem Ms.Lim.short {m : Ms} (h : m.Lim) : m.Short := ⟨Nat.le_trans h.h1 (by decide), fun v hv => Nat.le_trans (h.h4 v hv) (by decide), fun v hv => Nat.le_trans (h.h5 v hv) (by decide)⟩
theorem Ms.Lim.small {m : Ms} (h : m.Lim) (hf : m.Fits) : m.Small := by
  have v1 := flat_le voB 1028 m.votes fun v hv => voB_len v (hf.h7 v hv) (Nat.le_trans (h.h4 v hv) (by decide))
  have v2 := flat_le imB 1028 m.items fun v hv => imB_len v (hf.h8 v hv) (Nat.le_trans (h.h5 v hv) (by decide))
  have a := h.h2
  have b := h.h3
  exact ⟨Nat.le_trans h.h1 (by decide), by omega, by omega, fun v hv => Nat.le_trans (h.h4 v hv) (by decide), fun v hv => Nat.le_trans (h.h5 v hv) (by decide), Nat.le_trans h.h6 (by decide), Nat.le_trans h.h7 (by decide), Nat.le_trans h.h8 (by decide), Nat.le_trans h.h9 (by decide), by omega, by omega⟩
end Go.Proofs.YteiaiilfekojfaaGreat.Msg
end
section
set_option linter.unusedVariables false
set_option linter.unusedSimpArgs false
namespace Go.Proofs.YteiaiilfekojfaaGreat.Sx
open Go.RowKit DrawInv
section
variable {P : Program} {ρ : Operand → Value} {o : Oper} {w : World} {vs : Vs}
theorem ex_sliceTl {t : TypeId} {x y : Operand} {l r : List UInt8} {k : IntKind} {n : Nat} (E : Env vs ρ) (ho : o.op = .slice t x (some y) none none) (ht : P.underlying t = some .string) (hx : opv vs x = some (.string ⟨l.toArray⟩)) (hy : opv vs y = some (.int k (n : Int))) (hn : n ≤ l.length) (hr : l.drop n = r) : (execOp ρ o).run P w = .ok (.value (.string ⟨r.toArray⟩)) w := by
  subst hr
  unfold execOp; rw [ho]
  have h := run_slice_string_l (P := P) w t ⟨l.toArray⟩ ht k (n : Int) (by omega) (by rw [Wire.size_str]; omega)
  simp only [Int.toNat_natCast, Wire.drop_str] at h
  simp only [E.ev hx, E.ev hy, Option.map_some, Option.map_none, Instr.sliceAt, Sem.run_bind, run_underlying ht, h, Result.andThen_ok, Sem.run_pure]
theorem ex_indexT {t : TypeId} {x y : Operand} {l : List UInt8} {b : UInt8} {k : IntKind} {n : Nat} {z : Int} (E : Env vs ρ) (ho : o.op = .index t x y) (ht : P.underlying t = some .string) (hx : opv vs x = some (.string ⟨l.toArray⟩)) (hy : opv vs y = some (.int k (n : Int))) (hb : l[n]? = some b) (hz : (b.toNat : Int) = z) : (execOp ρ o).run P w = .ok (.value (.int .u8 z)) w := by
  subst hz
  unfold execOp; rw [ho]
  have h1 : (⟨l.toArray⟩ : ByteArray)[n]? = some b := Wire.index_str l n b hb
  simp only [E.ev hx, E.ev hy, Instr.index, asIntOf, run_underlying ht, Sem.run_bind, Sem.run_pure, Result.andThen_ok]
  simp [h1]
end
section
variable {P : Program} {ops : Array Oper} {Q Q' : Exit → Act → World → Prop} {n : Nat} {vs : Vs} {w0 : World} {L : List Ft} {o : Oper} {rest : List Oper}
end
theorem ex_bneq {P : Program} {ρ : Operand → Value} {o : Oper} {w : World} {vs : Vs} {T U : TypeId} {x y : Operand} {a b t : Bool} (E : Env vs ρ) (ho : o.op = .binOp .neq T x y U) (hT : P.underlying T = some .bool) (hx : opv vs x = some (.bool a)) (hy : opv vs y = some (.bool b)) (ht : (a != b) = t) : (execOp ρ o).run P w = .ok (.value (.bool t)) w := by
  subst ht
  unfold execOp; rw [ho]
  simp only [E.ev hx, E.ev hy]
  have h : (Op.equal T (.bool a) (.bool b)).run P w = .ok (a == b) w := by
    unfold Op.equal
    rw [show Op.maxDepth = 9999 + 1 from rfl]
    unfold Op.equalIn
    simp only [run_underlying hT, Sem.run_bind, Result.andThen_ok, Sem.run_pure]
  have h2 : (a != b) = !(a == b) := rfl
  simp only [eqGuard, Sem.run_bind, Sem.run_pure, Result.andThen_ok, ite_self, binOp, h, h2]
theorem rows_cell {α : Type} {w : World} {g t sz : Nat} {cells : α → List Value} {x : α} (h : Blk w g t (cells x).toArray) : Rows w (some ⟨g, 0, none⟩) sz cells [x] := by
  intro k y hk
  have hk0 : k = 0 := by have := (List.getElem?_eq_some_iff.1 hk).1; simp at this; omega
  subst hk0
  obtain rfl : x = y := by simpa using hk
  refine ⟨_, rfl, Blk.lt h, fun j v hj => ?_⟩
  rw [Nat.zero_mul, Nat.zero_add, add_none, Nat.zero_add, h.cell j]
  simpa using hj
end Go.Proofs.YteiaiilfekojfaaGreat.Sx
end
section
set_option linter.unusedVariables false
set_option linter.unusedSimpArgs false
namespace Go.Proofs.YteiaiilfekojfaaGreat.Msg
open Go.RowKit Sx Wire DrawInv
set_option maxRecDepth 100000 in
set_option maxHeartbeats 4000000 in
theorem great_lit (mk mn mr mb ms mo ca cb ck cz mc : Nat) (mv cs ct cu mt : List UInt8) (vl : List Vo) (il : List Im) (A B : Option Addr) (ka kb : Nat) (w : World) (hr : MsRows w ⟨mk, mn, mr, mb, ms, mo, mv, vl, il, ⟨ca, cb, ck, cs, ct, cu, cz⟩, mc, mt⟩ A B) (hl1 : vl.length ≤ 9223372036854775807) (hl2 : il.length ≤ 9223372036854775807) : Calls Tryz.prog 9 #[.agg #[.int .u8 (mk : Int), .int .u64 (mn : Int), .int .u8 (mr : Int), .int .u64 (mb : Int), .int .u64 (ms : Int), .int .u8 (mo : Int), .string ⟨mv.toArray⟩, .slice A vl.length ka, .slice B il.length kb, .int .u8 (ca : Int), .int .u32 (cb : Int), .int .u8 (ck : Int), .string ⟨cs.toArray⟩, .string ⟨ct.toArray⟩, .string ⟨cu.toArray⟩, .int .u8 (cz : Int), .int .u8 (mc : Int), .string ⟨mt.toArray⟩]] w fun e w' => ∃ b, e = .returned (.bool b) ∧ (b = false → Ms.Lim ⟨mk, mn, mr, mb, ms, mo, mv, vl, il, ⟨ca, cb, ck, cs, ct, cu, cz⟩, mc, mt⟩) ∧ Below w.heap.size w w' := by
  refine sx_enter (n := 64) _ Tryz.func9 rfl rfl rfl (Hp.start w) ?_
  refine SxC.seq (SxC.region ?_)
  refine SxL.new (cs := [.int .u8 (mk : Int), .int .u64 (mn : Int), .int .u8 (mr : Int), .int .u64 (mb : Int), .int .u64 (ms : Int), .int .u8 (mo : Int), .string ⟨mv.toArray⟩, .slice A vl.length ka, .slice B il.length kb, .int .u8 (ca : Int), .int .u32 (cb : Int), .int .u8 (ck : Int), .string ⟨cs.toArray⟩, .string ⟨ct.toArray⟩, .string ⟨cu.toArray⟩, .int .u8 (cz : Int), .int .u8 (mc : Int), .string ⟨mt.toArray⟩]) trivial rfl rfl (fun ρ w E H => ex_box E rfl rfl rfl) fun g1 hg1 => ?_
  refine SxL.val trivial rfl rfl (fun ρ w E H => ex_assign E rfl rfl) ?_
  refine SxL.nil (SxN.then_ (SxC.seq (SxC.seq (SxC.region ?_))))
  refine SxL.val (v := .pointer (some ⟨g1, 7, none⟩)) trivial rfl rfl (fun ρ w E H => ex_field E rfl fa_palaver_api_Msg_6 rfl rfl) ?_
  refine SxL.val trivial rfl rfl (fun ρ w E H => ex_load1 E (H.get (i := 0) rfl) rfl rfl Tryz.underlying25 rfl rfl) ?_
  refine SxL.val (v := .int .i64 (vl.length : Int)) trivial rfl rfl (fun ρ w E H => ex_lenS E rfl Tryz.underlying25 rfl) ?_
  refine SxL.valB trivial rfl rfl (fun ρ w E H => ex_cmp E rfl rfl rfl rfl rfl) fun c8 hc8 => ?_
  refine SxL.val trivial rfl rfl (fun ρ w E H => ex_move E rfl rfl) ?_
  cases c8
  · refine SxL.val (v := .pointer (some ⟨g1, 8, none⟩)) ⟨_, _, rfl, rfl, rfl⟩ rfl rfl (fun ρ w E H => ex_field E rfl fa_palaver_api_Msg_7 rfl rfl) ?_
    refine SxL.val ⟨_, _, rfl, rfl, rfl⟩ rfl rfl (fun ρ w E H => ex_load1 E (H.get (i := 0) rfl) rfl rfl Tryz.underlying26 rfl rfl) ?_
    refine SxL.val (v := .int .i64 (il.length : Int)) ⟨_, _, rfl, rfl, rfl⟩ rfl rfl (fun ρ w E H => ex_lenS E rfl Tryz.underlying26 rfl) ?_
    refine SxL.valB ⟨_, _, rfl, rfl, rfl⟩ rfl rfl (fun ρ w E H => ex_cmp E rfl rfl rfl rfl rfl) fun c13 hc13 => ?_
    refine SxL.val trivial rfl rfl (fun ρ w E H => ex_pick E rfl (t := false) rfl rfl) ?_
    refine SxL.val trivial rfl rfl (fun ρ w E H => ex_move E rfl rfl) ?_
    cases c13
    · refine SxL.val (v := .pointer (some ⟨g1, 6, none⟩)) ⟨_, _, rfl, rfl, rfl⟩ rfl rfl (fun ρ w E H => ex_field E rfl fa_palaver_api_Msg_5 rfl rfl) ?_
      refine SxL.val ⟨_, _, rfl, rfl, rfl⟩ rfl rfl (fun ρ w E H => ex_load1 E (H.get (i := 0) rfl) rfl rfl Tryz.underlying9 rfl rfl) ?_
      refine SxL.val (v := .int .i64 (mv.length : Int)) ⟨_, _, rfl, rfl, rfl⟩ rfl rfl (fun ρ w E H => ex_lenT E rfl Tryz.underlying9 rfl) ?_
      refine SxL.valB ⟨_, _, rfl, rfl, rfl⟩ rfl rfl (fun ρ w E H => ex_cmp E rfl rfl rfl rfl rfl) fun c19 hc19 => ?_
      refine SxL.val trivial rfl rfl (fun ρ w E H => ex_pick E rfl (t := false) rfl rfl) ?_
      refine SxL.val trivial rfl rfl (fun ρ w E H => ex_move E rfl rfl) ?_
      cases c19
      · refine SxL.val (v := .pointer (some ⟨g1, 16, none⟩)) ⟨_, _, rfl, rfl, rfl⟩ rfl rfl (fun ρ w E H => ex_field E rfl fa_palaver_api_Msg_9 rfl rfl) ?_
        refine SxL.val (v := .pointer (some ⟨g1, 17, none⟩)) ⟨_, _, rfl, rfl, rfl⟩ rfl rfl (fun ρ w E H => ex_field E rfl fa_palaver_api_Reply_1 rfl rfl) ?_
        refine SxL.val ⟨_, _, rfl, rfl, rfl⟩ rfl rfl (fun ρ w E H => ex_load1 E (H.get (i := 0) rfl) rfl rfl Tryz.underlying9 rfl rfl) ?_
        refine SxL.val (v := .int .i64 (mt.length : Int)) ⟨_, _, rfl, rfl, rfl⟩ rfl rfl (fun ρ w E H => ex_lenT E rfl Tryz.underlying9 rfl) ?_
        refine SxL.valB ⟨_, _, rfl, rfl, rfl⟩ rfl rfl (fun ρ w E H => ex_cmp E rfl rfl rfl rfl rfl) fun c26 hc26 => ?_
        refine SxL.val trivial rfl rfl (fun ρ w E H => ex_pick E rfl (t := false) rfl rfl) ?_
        refine SxL.val trivial rfl rfl (fun ρ w E H => ex_move E rfl rfl) ?_
        cases c26
        · refine SxL.val (v := .pointer (some ⟨g1, 9, none⟩)) ⟨_, _, rfl, rfl, rfl⟩ rfl rfl (fun ρ w E H => ex_field E rfl fa_palaver_api_Msg_8 rfl rfl) ?_
          refine SxL.val ⟨_, _, rfl, rfl, rfl⟩ rfl rfl (fun ρ w E H => ex_load (part := [.int .u8 (ca : Int), .int .u32 (cb : Int), .int .u8 (ck : Int), .string ⟨cs.toArray⟩, .string ⟨ct.toArray⟩, .string ⟨cu.toArray⟩, .int .u8 (cz : Int)]) E (H.get (i := 0) rfl) rfl rfl Tryz.underlying29 rfl sz_palaver_api_Cmd rfl rfl) ?_
          refine SxL.newS (cs := [.int .u8 (ca : Int), .int .u32 (cb : Int), .int .u8 (ck : Int), .string ⟨cs.toArray⟩, .string ⟨ct.toArray⟩, .string ⟨cu.toArray⟩, .int .u8 (cz : Int)]) ⟨_, _, rfl, rfl, rfl⟩ rfl rfl (fun ρ w E H => ex_buildSlice E rfl rfl Tryz.underlying90 sz_palaver_api_Cmd zr_palaver_api_Cmd rfl rfl (by kernel_rfl)) fun g2 hg2 => ?_
          refine SxL.callBB (b := (Cmd.greatB [⟨ca, cb, ck, cs, ct, cu, cz⟩])) ⟨_, _, rfl, rfl, rfl⟩ rfl rfl (fun ρ w E => ex_call E en_palaver_palaverlaw09_Great rfl rfl) (fun w H => Cmd.great_any [⟨ca, cb, ck, cs, ct, cu, cz⟩] (show 1 ≤ 9223372036854775807 by decide) _ _ w (rows_cell (cells := Cmd.cmL) (x := ⟨ca, cb, ck, cs, ct, cu, cz⟩) (H.get (i := 0) rfl))) fun c32 hc32 => ?_
          refine SxL.val trivial rfl rfl (fun ρ w E H => ex_pick E rfl (t := false) rfl rfl) ?_
          refine SxL.nil (SxN.then_ ?_)
          cases c32
          · refine SxC.condF rfl (SxC.skip (SxN.then_ (SxC.seq (SxC.seq (SxC.region ?_)))))
            refine SxL.val trivial rfl rfl (fun ρ w E H => ex_assign E rfl rfl) ?_
            refine SxL.nil (SxN.then_ (SxC.block ?_))
            refine SxC.loop1 (fun (k : Nat) => [(1, .pointer (some ⟨g1, 0, none⟩)), (3, .int .i64 (k : Int))]) (fun (k : Nat) => [cell g2 29 [.int .u8 (ca : Int), .int .u32 (cb : Int), .int .u8 (ck : Int), .string ⟨cs.toArray⟩, .string ⟨ct.toArray⟩, .string ⟨cu.toArray⟩, .int .u8 (cz : Int)], cell g1 33 [.int .u8 (mk : Int), .int .u64 (mn : Int), .int .u8 (mr : Int), .int .u64 (mb : Int), .int .u64 (ms : Int), .int .u8 (mo : Int), .string ⟨mv.toArray⟩, .slice A vl.length ka, .slice B il.length kb, .int .u8 (ca : Int), .int .u32 (cb : Int), .int .u8 (ck : Int), .string ⟨cs.toArray⟩, .string ⟨ct.toArray⟩, .string ⟨cu.toArray⟩, .int .u8 (cz : Int), .int .u8 (mc : Int), .string ⟨mt.toArray⟩]]) (fun (gk : Nat) (k : Nat) => k + gk = vl.length ∧ ∀ v ∈ vl.take k, v.value.length ≤ 300) vl.length 0 ⟨by omega, fun v hv => by cases hv⟩ ⟨rfl, rfl, trivial⟩ [0, 1] rfl (by decide) ⟨.inl rfl, .inl rfl, trivial⟩ fun gk k hF => ?_
            obtain ⟨hkg, hall⟩ := hF
            refine SxC.seq (SxC.seq (SxC.region ?_))
            refine SxL.val trivial rfl rfl (fun ρ w E H => ex_move E rfl rfl) ?_
            refine SxL.val (v := .pointer (some ⟨g1, 7, none⟩)) trivial rfl rfl (fun ρ w E H => ex_field E rfl fa_palaver_api_Msg_6 rfl rfl) ?_
            refine SxL.val trivial rfl rfl (fun ρ w E H => ex_load1 E (H.get (i := 1) rfl) rfl rfl Tryz.underlying25 rfl rfl) ?_
            refine SxL.val (v := .int .i64 (vl.length : Int)) trivial rfl rfl (fun ρ w E H => ex_lenS E rfl Tryz.underlying25 rfl) ?_
            refine SxL.valB trivial rfl rfl (fun ρ w E H => ex_cmp E rfl rfl rfl rfl rfl) fun c38 hc38 => ?_
            refine SxL.nil (SxN.then_ ?_)
            cases c38
            · refine SxC.condF rfl (SxC.exit (SxX.thenE (SxX.thenE (SxX.blockE (SxN.then_ (SxC.seq (SxC.seq ?_)))))))
              have hallV : ∀ v ∈ vl, v.value.length ≤ 300 := by rw [List.take_of_length_le (by have h := hc38; simp [cmpB] at h; omega)] at hall; exact hall
              refine SxC.region ?_
              refine SxL.val trivial rfl rfl (fun ρ w E H => ex_assign E rfl rfl) ?_
              refine SxL.nil (SxN.then_ (SxC.block ?_))
              refine SxC.loop1 (fun (k : Nat) => [(1, .pointer (some ⟨g1, 0, none⟩)), (4, .int .i64 (k : Int))]) (fun (k : Nat) => [cell g2 29 [.int .u8 (ca : Int), .int .u32 (cb : Int), .int .u8 (ck : Int), .string ⟨cs.toArray⟩, .string ⟨ct.toArray⟩, .string ⟨cu.toArray⟩, .int .u8 (cz : Int)], cell g1 33 [.int .u8 (mk : Int), .int .u64 (mn : Int), .int .u8 (mr : Int), .int .u64 (mb : Int), .int .u64 (ms : Int), .int .u8 (mo : Int), .string ⟨mv.toArray⟩, .slice A vl.length ka, .slice B il.length kb, .int .u8 (ca : Int), .int .u32 (cb : Int), .int .u8 (ck : Int), .string ⟨cs.toArray⟩, .string ⟨ct.toArray⟩, .string ⟨cu.toArray⟩, .int .u8 (cz : Int), .int .u8 (mc : Int), .string ⟨mt.toArray⟩]]) (fun (gk : Nat) (k : Nat) => k + gk = il.length ∧ ∀ v ∈ il.take k, v.value.length ≤ 300) il.length 0 ⟨by omega, fun v hv => by cases hv⟩ ⟨rfl, rfl, trivial⟩ [0, 1] rfl (by decide) ⟨.inl rfl, .inl rfl, trivial⟩ fun gk k hF => ?_
              obtain ⟨hkg, hall⟩ := hF
              refine SxC.seq (SxC.seq (SxC.region ?_))
              refine SxL.val trivial rfl rfl (fun ρ w E H => ex_move E rfl rfl) ?_
              refine SxL.val (v := .pointer (some ⟨g1, 8, none⟩)) trivial rfl rfl (fun ρ w E H => ex_field E rfl fa_palaver_api_Msg_7 rfl rfl) ?_
              refine SxL.val trivial rfl rfl (fun ρ w E H => ex_load1 E (H.get (i := 1) rfl) rfl rfl Tryz.underlying26 rfl rfl) ?_
              refine SxL.val (v := .int .i64 (il.length : Int)) trivial rfl rfl (fun ρ w E H => ex_lenS E rfl Tryz.underlying26 rfl) ?_
              refine SxL.valB trivial rfl rfl (fun ρ w E H => ex_cmp E rfl rfl rfl rfl rfl) fun c53 hc53 => ?_
              refine SxL.nil (SxN.then_ ?_)
              cases c53
              · refine SxC.condF rfl (SxC.exit (SxX.thenE (SxX.thenE (SxX.blockE (SxN.then_ (SxC.seq (SxC.region ?_)))))))
                refine SxL.val trivial rfl rfl (fun ρ w E H => ex_assign E rfl rfl) ?_
                refine SxL.nil (SxN.then_ (SxC.ret ?_))
                refine SxX.done (.bool false) (fun a w K H => res1 K rfl rfl) (fun w H => ?_)
                have hallI : ∀ v ∈ il, v.value.length ≤ 300 := by rw [List.take_of_length_le (by have h := hc53; simp [cmpB] at h; omega)] at hall; exact hall
                have n8 := hc8
                have n13 := hc13
                have n19 := hc19
                have n26 := hc26
                simp [cmpB] at n8 n13 n19 n26
                have n32 := hc32
                simp [Cmd.greatB, Cmd.longB] at n32
                exact ⟨_, rfl, fun _ => ⟨(show mv.length ≤ 300 by omega), (show vl.length ≤ 100 by omega), (show il.length ≤ 100 by omega), hallV, hallI, (show cs.length ≤ 300 by omega), (show ct.length ≤ 300 by omega), (show cu.length ≤ 300 by omega), (show mt.length ≤ 300 by omega)⟩, H.toBelow ⟨(fun g hg => by rw [List.mem_singleton.1 hg]; exact hg2), (fun g hg => by rw [List.mem_singleton.1 hg]; exact hg1), trivial⟩⟩
              · refine SxC.condT rfl (SxC.skip (SxN.then_ (SxC.seq (SxC.block (SxC.seq ?_)))))
                have hkl : k < il.length := by have h := hc53; simp [cmpB] at h; omega
                obtain ⟨x, hx⟩ : ∃ x, il[k]? = some x := ⟨_, List.getElem?_eq_getElem hkl⟩
                obtain ⟨ad, rfl, -, -⟩ := hr.hi.row hx
                refine SxC.region ?_
                refine SxL.val (v := .pointer (some ⟨g1, 8, none⟩)) trivial rfl rfl (fun ρ w E H => ex_field E rfl fa_palaver_api_Msg_7 rfl rfl) ?_
                refine SxL.val trivial rfl rfl (fun ρ w E H => ex_load1 E (H.get (i := 1) rfl) rfl rfl Tryz.underlying26 rfl rfl) ?_
                refine SxL.val trivial rfl rfl (fun ρ w E H => ex_move E rfl rfl) ?_
                refine SxL.val (v := .pointer (some (ad.add (k * 2)))) trivial rfl rfl (fun ρ w E H => ex_index (i := k) E rfl Tryz.underlying26 sz_palaver_api_Item rfl rfl hkl) ?_
                refine SxL.val (v := .pointer (some ((ad.add (k * 2)).add 1))) trivial rfl rfl (fun ρ w E H => ex_fieldA E rfl fa_palaver_api_Item_1 rfl) ?_
                refine SxL.val (v := .string ⟨x.value.toArray⟩) trivial rfl rfl (fun ρ w E H => ex_loadXc E ((hr.hi.below (H.toBelow ⟨(fun g hg => by rw [List.mem_singleton.1 hg]; exact hg2), (fun g hg => by rw [List.mem_singleton.1 hg]; exact hg1), trivial⟩)).rowA hx) 1 rfl rfl rfl Tryz.underlying9 rfl) ?_
                refine SxL.val (v := .int .i64 (x.value.length : Int)) trivial rfl rfl (fun ρ w E H => ex_lenT E rfl Tryz.underlying9 rfl) ?_
                refine SxL.valB trivial rfl rfl (fun ρ w E H => ex_cmp E rfl rfl rfl rfl rfl) fun c63 hc63 => ?_
                refine SxL.nil (SxN.then_ ?_)
                cases c63
                · refine SxC.condF rfl (SxC.skip (SxN.block (SxN.then_ (SxC.region ?_))))
                  refine SxL.val trivial rfl rfl (fun ρ w E H => ex_move E rfl rfl) ?_
                  refine SxL.val (v := .int .i64 ((k + 1 : Nat) : Int)) trivial rfl rfl (fun ρ w E H => ex_add E rfl rfl rfl (by rw [IntKind.wrap_i64]; omega)) ?_
                  refine SxL.val trivial rfl rfl (fun ρ w E H => ex_assign E rfl rfl) ?_
                  refine SxL.nil ?_
                  refine SxN.back (gk - 1) (k + 1) (by omega) ⟨by omega, fun v hv => by rw [take_snoc hx] at hv; rcases List.mem_append.1 hv with hv | hv; exact hall v hv; rw [List.mem_singleton.1 hv]; have h := hc63; simp [cmpB] at h; omega⟩ ⟨rfl, rfl, trivial⟩ [0, 1] rfl (by decide) ⟨.inl rfl, .inl rfl, trivial⟩
                · refine SxC.condT rfl (SxC.seq (SxC.region ?_))
                  refine SxL.val trivial rfl rfl (fun ρ w E H => ex_assign E rfl rfl) ?_
                  refine SxL.nil (SxN.then_ (SxC.ret (SxX.blockR (SxX.thenR (SxX.thenR (SxX.blockR (SxX.thenR ?_)))))))
                  refine SxX.done (.bool true) (fun a w K H => res1 K rfl rfl) (fun w H => ?_)
                  exact ⟨_, rfl, (fun h => by cases h), H.toBelow ⟨(fun g hg => by rw [List.mem_singleton.1 hg]; exact hg2), (fun g hg => by rw [List.mem_singleton.1 hg]; exact hg1), trivial⟩⟩
            · refine SxC.condT rfl (SxC.skip (SxN.then_ (SxC.seq (SxC.block (SxC.seq ?_)))))
              have hkl : k < vl.length := by have h := hc38; simp [cmpB] at h; omega
              obtain ⟨x, hx⟩ : ∃ x, vl[k]? = some x := ⟨_, List.getElem?_eq_getElem hkl⟩
              obtain ⟨ad, rfl, -, -⟩ := hr.hv.row hx
              refine SxC.region ?_
              refine SxL.val (v := .pointer (some ⟨g1, 7, none⟩)) trivial rfl rfl (fun ρ w E H => ex_field E rfl fa_palaver_api_Msg_6 rfl rfl) ?_
              refine SxL.val trivial rfl rfl (fun ρ w E H => ex_load1 E (H.get (i := 1) rfl) rfl rfl Tryz.underlying25 rfl rfl) ?_
              refine SxL.val trivial rfl rfl (fun ρ w E H => ex_move E rfl rfl) ?_
              refine SxL.val (v := .pointer (some (ad.add (k * 4)))) trivial rfl rfl (fun ρ w E H => ex_index (i := k) E rfl Tryz.underlying25 sz_palaver_api_Vote rfl rfl hkl) ?_
              refine SxL.val (v := .pointer (some ((ad.add (k * 4)).add 3))) trivial rfl rfl (fun ρ w E H => ex_fieldA E rfl fa_palaver_api_Vote_2 rfl) ?_
              refine SxL.val (v := .string ⟨x.value.toArray⟩) trivial rfl rfl (fun ρ w E H => ex_loadXc E ((hr.hv.below (H.toBelow ⟨(fun g hg => by rw [List.mem_singleton.1 hg]; exact hg2), (fun g hg => by rw [List.mem_singleton.1 hg]; exact hg1), trivial⟩)).rowA hx) 3 rfl rfl rfl Tryz.underlying9 rfl) ?_
              refine SxL.val (v := .int .i64 (x.value.length : Int)) trivial rfl rfl (fun ρ w E H => ex_lenT E rfl Tryz.underlying9 rfl) ?_
              refine SxL.valB trivial rfl rfl (fun ρ w E H => ex_cmp E rfl rfl rfl rfl rfl) fun c48 hc48 => ?_
              refine SxL.nil (SxN.then_ ?_)
              cases c48
              · refine SxC.condF rfl (SxC.skip (SxN.block (SxN.then_ (SxC.region ?_))))
                refine SxL.val trivial rfl rfl (fun ρ w E H => ex_move E rfl rfl) ?_
                refine SxL.val (v := .int .i64 ((k + 1 : Nat) : Int)) trivial rfl rfl (fun ρ w E H => ex_add E rfl rfl rfl (by rw [IntKind.wrap_i64]; omega)) ?_
                refine SxL.val trivial rfl rfl (fun ρ w E H => ex_assign E rfl rfl) ?_
                refine SxL.nil ?_
                refine SxN.back (gk - 1) (k + 1) (by omega) ⟨by omega, fun v hv => by rw [take_snoc hx] at hv; rcases List.mem_append.1 hv with hv | hv; exact hall v hv; rw [List.mem_singleton.1 hv]; have h := hc48; simp [cmpB] at h; omega⟩ ⟨rfl, rfl, trivial⟩ [0, 1] rfl (by decide) ⟨.inl rfl, .inl rfl, trivial⟩
              · refine SxC.condT rfl (SxC.seq (SxC.region ?_))
                refine SxL.val trivial rfl rfl (fun ρ w E H => ex_assign E rfl rfl) ?_
                refine SxL.nil (SxN.then_ (SxC.ret (SxX.blockR (SxX.thenR (SxX.thenR (SxX.blockR (SxX.thenR ?_)))))))
                refine SxX.done (.bool true) (fun a w K H => res1 K rfl rfl) (fun w H => ?_)
                exact ⟨_, rfl, (fun h => by cases h), H.toBelow ⟨(fun g hg => by rw [List.mem_singleton.1 hg]; exact hg2), (fun g hg => by rw [List.mem_singleton.1 hg]; exact hg1), trivial⟩⟩
          · refine SxC.condT rfl (SxC.seq (SxC.region ?_))
            refine SxL.val trivial rfl rfl (fun ρ w E H => ex_assign E rfl rfl) ?_
            refine SxL.nil (SxN.then_ (SxC.ret (SxX.thenR ?_)))
            refine SxX.done (.bool true) (fun a w K H => res1 K rfl rfl) (fun w H => ?_)
            exact ⟨_, rfl, (fun h => by cases h), H.toBelow ⟨(fun g hg => by rw [List.mem_singleton.1 hg]; exact hg2), (fun g hg => by rw [List.mem_singleton.1 hg]; exact hg1), trivial⟩⟩
        · refine SxL.off ⟨_, _, _, rfl, rfl, rfl, nofun⟩ rfl rfl ?_
          iterate 3 refine SxL.off ⟨_, _, _, rfl, rfl, rfl, nofun⟩ rfl rfl ?_
          refine SxL.val trivial rfl rfl (fun ρ w E H => ex_pick E rfl (t := true) rfl rfl) ?_
          refine SxL.nil (SxN.then_ (SxC.condT rfl (SxC.seq (SxC.region ?_))))
          refine SxL.val trivial rfl rfl (fun ρ w E H => ex_assign E rfl rfl) ?_
          refine SxL.nil (SxN.then_ (SxC.ret (SxX.thenR ?_)))
          refine SxX.done (.bool true) (fun a w K H => res1 K rfl rfl) (fun w H => ?_)
          exact ⟨_, rfl, (fun h => by cases h), H.toBelow ⟨(fun g hg => by rw [List.mem_singleton.1 hg]; exact hg1), trivial⟩⟩
      · refine SxL.off ⟨_, _, _, rfl, rfl, rfl, nofun⟩ rfl rfl ?_
        iterate 4 refine SxL.off ⟨_, _, _, rfl, rfl, rfl, nofun⟩ rfl rfl ?_
        refine SxL.val trivial rfl rfl (fun ρ w E H => ex_pick E rfl (t := true) rfl rfl) ?_
        refine SxL.val trivial rfl rfl (fun ρ w E H => ex_move E rfl rfl) ?_
        iterate 4 refine SxL.off ⟨_, _, _, rfl, rfl, rfl, nofun⟩ rfl rfl ?_
        refine SxL.val trivial rfl rfl (fun ρ w E H => ex_pick E rfl (t := true) rfl rfl) ?_
        refine SxL.nil (SxN.then_ (SxC.condT rfl (SxC.seq (SxC.region ?_))))
        refine SxL.val trivial rfl rfl (fun ρ w E H => ex_assign E rfl rfl) ?_
        refine SxL.nil (SxN.then_ (SxC.ret (SxX.thenR ?_)))
        refine SxX.done (.bool true) (fun a w K H => res1 K rfl rfl) (fun w H => ?_)
        exact ⟨_, rfl, (fun h => by cases h), H.toBelow ⟨(fun g hg => by rw [List.mem_singleton.1 hg]; exact hg1), trivial⟩⟩
    · refine SxL.off ⟨_, _, _, rfl, rfl, rfl, nofun⟩ rfl rfl ?_
      iterate 3 refine SxL.off ⟨_, _, _, rfl, rfl, rfl, nofun⟩ rfl rfl ?_
      refine SxL.val trivial rfl rfl (fun ρ w E H => ex_pick E rfl (t := true) rfl rfl) ?_
      refine SxL.val trivial rfl rfl (fun ρ w E H => ex_move E rfl rfl) ?_
      iterate 5 refine SxL.off ⟨_, _, _, rfl, rfl, rfl, nofun⟩ rfl rfl ?_
      refine SxL.val trivial rfl rfl (fun ρ w E H => ex_pick E rfl (t := true) rfl rfl) ?_
      refine SxL.val trivial rfl rfl (fun ρ w E H => ex_move E rfl rfl) ?_
      iterate 4 refine SxL.off ⟨_, _, _, rfl, rfl, rfl, nofun⟩ rfl rfl ?_
      refine SxL.val trivial rfl rfl (fun ρ w E H => ex_pick E rfl (t := true) rfl rfl) ?_
      refine SxL.nil (SxN.then_ (SxC.condT rfl (SxC.seq (SxC.region ?_))))
      refine SxL.val trivial rfl rfl (fun ρ w E H => ex_assign E rfl rfl) ?_
      refine SxL.nil (SxN.then_ (SxC.ret (SxX.thenR ?_)))
      refine SxX.done (.bool true) (fun a w K H => res1 K rfl rfl) (fun w H => ?_)
      exact ⟨_, rfl, (fun h => by cases h), H.toBelow ⟨(fun g hg => by rw [List.mem_singleton.1 hg]; exact hg1), trivial⟩⟩
  · refine SxL.off ⟨_, _, _, rfl, rfl, rfl, nofun⟩ rfl rfl ?_
    iterate 3 refine SxL.off ⟨_, _, _, rfl, rfl, rfl, nofun⟩ rfl rfl ?_
    refine SxL.val trivial rfl rfl (fun ρ w E H => ex_pick E rfl (t := true) rfl rfl) ?_
    refine SxL.val trivial rfl rfl (fun ρ w E H => ex_move E rfl rfl) ?_
    iterate 4 refine SxL.off ⟨_, _, _, rfl, rfl, rfl, nofun⟩ rfl rfl ?_
    refine SxL.val trivial rfl rfl (fun ρ w E H => ex_pick E rfl (t := true) rfl rfl) ?_
    refine SxL.val trivial rfl rfl (fun ρ w E H => ex_move E rfl rfl) ?_
    iterate 5 refine SxL.off ⟨_, _, _, rfl, rfl, rfl, nofun⟩ rfl rfl ?_
    refine SxL.val trivial rfl rfl (fun ρ w E H => ex_pick E rfl (t := true) rfl rfl) ?_
    refine SxL.val trivial rfl rfl (fun ρ w E H => ex_move E rfl rfl) ?_
    iterate 4 refine SxL.off ⟨_, _, _, rfl, rfl, rfl, nofun⟩ rfl rfl ?_
    refine SxL.val trivial rfl rfl (fun ρ w E H => ex_pick E rfl (t := true) rfl rfl) ?_
    refine SxL.nil (SxN.then_ (SxC.condT rfl (SxC.seq (SxC.region ?_))))
    refine SxL.val trivial rfl rfl (fun ρ w E H => ex_assign E rfl rfl) ?_
    refine SxL.nil (SxN.then_ (SxC.ret (SxX.thenR ?_)))
    refine SxX.done (.bool true) (fun a w K H => res1 K rfl rfl) (fun w H => ?_)
    exact ⟨_, rfl, (fun h => by cases h), H.toBelow ⟨(fun g hg => by rw [List.mem_singleton.1 hg]; exact hg1), trivial⟩⟩

theorem great_any (m : Ms) (A B : Option Addr) (ka kb : Nat) (w : World) (hr : MsRows w m A B) (hl1 : m.votes.length ≤ 9223372036854775807) (hl2 : m.items.length ≤ 9223372036854775807) : Calls Tryz.prog 9 #[msV m A ka B kb] w fun e w' => ∃ b, e = .returned (.bool b) ∧ (b = false → m.Lim) ∧ Below w.heap.size w w' := by
  obtain ⟨mk, mn, mr, mb, ms, mo, mv, vl, il, ⟨ca, cb, ck, cs, ct, cu, cz⟩, mc, mt⟩ := m
  exact great_lit _ _ _ _ _ _ _ _ _ _ _ _ _ _ _ _ _ _ _ _ _ _ w hr hl1 hl2
end Go.Proofs.YteiaiilfekojfaaGreat.Msg
end
section
set_option linter.unusedVariables false
set_option linter.unusedSimpArgs false
namespace Go.Proofs.YteiaiilfekojfaaGreat.Msg
open Go.RowKit Wire

def Pt.ch : Pt → Nat
  | .cmd => 99
  | .name => 110
  | .reply => 114
  | .node => 111
  | .turn => 98
  | .floor => 97
  | .slot l => if l = 0 then 117 else 115
  | .value => 118
  | .votes => 116
  | .items => 105
def chars (k : Nat) : List UInt8 := (partsOf k).map fun p => UInt8.ofNat p.ch
def hasS (s : List UInt8) (c : Nat) : Bool := s.any fun b => decide (b.toNat = c)
theorem parts_far (k : Nat) (h : 14 ≤ k) : partsOf k = [] := by
  unfold partsOf
  repeat rw [if_neg (by omega)]
theorem chars_far (k : Nat) (h : 14 ≤ k) : chars k = [] := by unfold chars; rw [parts_far k h]; rfl
def bad1 (hC hN : Bool) (c : Cmd.Cm) : Bool := (hC && !Cmd.mayB c) || (hN && (decide (3 < c.client) || (decide (c.seq < 1) || !decide (c = ⟨c.client, c.seq, 0, [], [], [], 0⟩)))) || (!hC && !hN && !decide (c = Cmd.cm0))
def bad2 (hR : Bool) (code : Nat) (text : List UInt8) : Bool := (hR && (decide (3 < code) || decide (64 < text.length))) || (!hR && !(decide (code = 0) && decide (text = [])))
def bad3 (hO hB : Bool) (node n r : Nat) : Bool := decide (6 < node) || (!hO && decide (0 < node)) || (hB && !goodB n r) || (!hB && !(decide (n = 0) && decide (r = 0)))
def bad4 (hA hU hS : Bool) (base slot : Nat) : Bool := decide (4611686018427387904 < base) || decide (4611686018427387904 < slot) || (!hA && decide (0 < base)) || (!hU && !hS && decide (0 < slot)) || (hS && decide (slot < 1))
def bad5 (hV hT hI : Bool) (value : List UInt8) (nv ni : Nat) : Bool := (!hV && !decide (value = [])) || (!hT && decide (0 < nv)) || (hI != decide (0 < ni))
def docMay (m : Ms) : Bool :=
  let s := chars m.kind
  !decide (s = []) && !bad1 (hasS s 99) (hasS s 110) m.cmd && !bad2 (hasS s 114) m.code m.text && !bad3 (hasS s 111) (hasS s 98) m.node m.bn m.br && !bad4 (hasS s 97) (hasS s 117) (hasS s 115) m.base m.slot
    && !bad5 (hasS s 118) (hasS s 116) (hasS s 105) m.value m.votes.length m.items.length && riseV 0 m.votes && riseI 0 m.items
theorem chars_list : chars 0 = [] ∧ chars 1 = [99] ∧ chars 2 = [110, 114] ∧ chars 3 = [110, 111] ∧ chars 4 = [98, 115] ∧ chars 5 = [98, 97, 117, 116] ∧ chars 6 = [98] ∧ chars 7 = [98, 115, 118] ∧ chars 8 = [98, 115] ∧ chars 9 = [105] ∧ chars 10 = [117] ∧ chars 11 = [98, 117] ∧ chars 12 = [115, 118] ∧ chars 13 = [97, 115, 118] := by decide
theorem len0 {α : Type} (l : List α) : (0 < l.length) ↔ l ≠ [] := List.length_pos_iff
theorem doc_check (m : Ms) : docMay m = checkB m := by
  obtain ⟨mk, mn, mr, mb, ms, mo, mv, vl, il, cm, mc, mt⟩ := m
  obtain ⟨k0, k1, k2, k3, k4, k5, k6, k7, k8, k9, k10, k11, k12, k13⟩ := chars_list
  have p1 : partsOf 1 = [.cmd] := rfl
  have p2 : partsOf 2 = [.name, .reply] := rfl
  have p3 : partsOf 3 = [.name, .node] := rfl
  have p4 : partsOf 4 = [.turn, .slot 1] := rfl
  have p5 : partsOf 5 = [.turn, .floor, .slot 0, .votes] := rfl
  have p6 : partsOf 6 = [.turn] := rfl
  have p7 : partsOf 7 = [.turn, .slot 1, .value] := rfl
  have p8 : partsOf 8 = [.turn, .slot 1] := rfl
  have p9 : partsOf 9 = [.items] := rfl
  have p10 : partsOf 10 = [.slot 0] := rfl
  have p11 : partsOf 11 = [.turn, .slot 0] := rfl
  have p12 : partsOf 12 = [.slot 1, .value] := rfl
  have p13 : partsOf 13 = [.floor, .slot 1, .value] := rfl
  rcases Nat.lt_or_ge mk 14 with h | h
  · have hk : mk = 0 ∨ mk = 1 ∨ mk = 2 ∨ mk = 3 ∨ mk = 4 ∨ mk = 5 ∨ mk = 6 ∨ mk = 7 ∨ mk = 8 ∨ mk = 9 ∨ mk = 10 ∨ mk = 11 ∨ mk = 12 ∨ mk = 13 := by omega
    rcases hk with rfl | rfl | rfl | rfl | rfl | rfl | rfl | rfl | rfl | rfl | rfl | rfl | rfl | rfl
    · rfl
    all_goals (
      simp only [docMay, checkB, moved, ms0, *, Pt.may, Pt.move, List.foldl, List.all_cons, List.all_nil, List.isEmpty, hasS, List.any_cons, List.any_nil, Ms.mk.injEq]
      apply Bool.eq_iff_iff.2
      simp [bad1, bad2, bad3, bad4, bad5, len0]
      grind [riseV, riseI, Cmd.cm0])
  · have hp := parts_far mk h
    simp [docMay, checkB, chars, hp]
end Go.Proofs.YteiaiilfekojfaaGreat.Msg
end
