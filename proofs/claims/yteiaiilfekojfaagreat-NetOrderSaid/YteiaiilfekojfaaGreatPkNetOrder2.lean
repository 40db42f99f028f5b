/- Texts that the proof of NetOrder leans on, put together (2 of 4). Conditions: each theorem states its own. -/
import Derived.Test.YteiaiilfekojfaaGreatPkNetOrder1
section
set_option linter.unusedVariables false
set_option linter.unusedSimpArgs false
namespace Go.Proofs.YteiaiilfekojfaaGreat.Msg
open Go.RowKit Sx Wire DrawInv
set_option maxRecDepth 100000 in
set_option maxHeartbeats 4000000 in
theorem cloneV (vl : List Vo) (A : Option Addr) (ka : Nat) (w : World) (hv : Rows w A 4 voL vl) (hlen : vl.length ≤ 1000000) : Calls Tryz.prog 150 #[.slice A vl.length ka] w fun e w' => ∃ v', e = .returned v' ∧ w'.ownsRow w.heap.size 92 4 v' vl.length (vl.flatMap voL) ∧ Below w.heap.size w w' := by
  have hbz : ∀ W : World, (Instr.buildSlice 25 0 #[]).run Tryz.prog W = .ok (.slice (some ⟨W.heap.size, 0, none⟩) 0 0) (W.alloc (.cells #[] 92)) := fun W => by go_simp
  refine sx_enter (n := 8) _ Tryz.func150 rfl rfl rfl (Hp.start w) ?_
  refine SxC.seq (SxC.region ?_)
  refine SxL.val trivial rfl rfl (fun ρ w E H => ex_assign E rfl rfl) ?_
  refine SxL.nil (SxN.then_ (SxC.seq (SxC.seq (SxC.region ?_))))
  refine SxL.val trivial rfl rfl (fun ρ w E H => ex_move E rfl rfl) ?_
  refine SxL.valB trivial rfl rfl (fun ρ w E H => ex_snil E rfl Tryz.underlying25 (by kernel_rfl) rfl rfl rfl) fun c4 hc4 => ?_
  refine SxL.nil (SxN.then_ ?_)
  cases c4
  · refine SxC.condF rfl (SxC.skip (SxN.then_ (SxC.seq (SxC.region ?_))))
    refine SxL.newS (cs := []) trivial rfl rfl (fun ρ w E H => ex_buildSlice0 rfl hbz) fun g1 hg1 => ?_
    have hvg1 : OwnIn w [] (.slice (some ⟨g1, 0, none⟩) 0 0) := fun b hb => .inr (by simp [Value.ownBlock] at hb; omega)
    refine SxL.hp (fun W H => H.re (i := 0) rfl (rowX [] w.heap.size 92 4 (.slice (some ⟨g1, 0, none⟩) 0 0) 0 []) (rowX_loc _ _ _ _ _ _ _) rfl (fun h => own_new0 h hg1)) ?_
    refine SxL.val trivial rfl rfl (fun ρ w E H => ex_move E rfl rfl) ?_
    refine SxL.append (i := 0) (news := vl.flatMap voL) trivial rfl rfl rfl Tryz.underlying25 nf_palaver_api_Vote rfl rfl rfl rfl hvg1 rfl (fun W H => ⟨_, rows_reads voL_len (by decide) (hv.below (H.toBelow ⟨hvg1.fresh, trivial⟩))⟩) (flat_one voL_one _) (by unfold maxLen; omega) (by omega) (Nat.le_refl _) fun A7 k7 hv7 => ?_
    refine SxL.val trivial rfl rfl (fun ρ w E H => ex_assign E rfl rfl) ?_
    refine SxL.nil (SxN.then_ (SxC.ret ?_))
    refine SxX.done (.slice A7 (0 + vl.length) k7) (fun a w K H => res1 K rfl rfl) (fun w H => ?_)
    refine ⟨_, rfl, ?_, H.toBelow ⟨hv7.fresh, trivial⟩⟩
    exact own_as (H.get (i := 0) rfl) (Nat.zero_add _) (List.nil_append _)
  · refine SxC.condT rfl (SxC.seq (SxC.region ?_))
    refine SxL.val trivial rfl rfl (fun ρ w E H => ex_assign E rfl rfl) ?_
    refine SxL.nil (SxN.then_ (SxC.ret (SxX.thenR ?_)))
    refine SxX.done (.slice none 0 0) (fun a w K H => res1 K rfl rfl) (fun w H => ?_)
    obtain rfl := rows_none hv hc4
    exact ⟨_, rfl, World.ownsRow_nil _ _ _ _, H.toBelow trivial⟩

set_option maxRecDepth 100000 in
set_option maxHeartbeats 4000000 in
theorem cloneI (il : List Im) (B : Option Addr) (ka : Nat) (w : World) (hi : Rows w B 2 imL il) (hlen : il.length ≤ 1000000) : Calls Tryz.prog 159 #[.slice B il.length ka] w fun e w' => ∃ v', e = .returned v' ∧ w'.ownsRow w.heap.size 94 2 v' il.length (il.flatMap imL) ∧ Below w.heap.size w w' := by
  have hbz : ∀ W : World, (Instr.buildSlice 26 0 #[]).run Tryz.prog W = .ok (.slice (some ⟨W.heap.size, 0, none⟩) 0 0) (W.alloc (.cells #[] 94)) := fun W => by go_simp
  refine sx_enter (n := 8) _ Tryz.func159 rfl rfl rfl (Hp.start w) ?_
  refine SxC.seq (SxC.region ?_)
  refine SxL.val trivial rfl rfl (fun ρ w E H => ex_assign E rfl rfl) ?_
  refine SxL.nil (SxN.then_ (SxC.seq (SxC.seq (SxC.region ?_))))
  refine SxL.val trivial rfl rfl (fun ρ w E H => ex_move E rfl rfl) ?_
  refine SxL.valB trivial rfl rfl (fun ρ w E H => ex_snil E rfl Tryz.underlying26 (by kernel_rfl) rfl rfl rfl) fun c4 hc4 => ?_
  refine SxL.nil (SxN.then_ ?_)
  cases c4
  · refine SxC.condF rfl (SxC.skip (SxN.then_ (SxC.seq (SxC.region ?_))))
    refine SxL.newS (cs := []) trivial rfl rfl (fun ρ w E H => ex_buildSlice0 rfl hbz) fun g1 hg1 => ?_
    have hvg1 : OwnIn w [] (.slice (some ⟨g1, 0, none⟩) 0 0) := fun b hb => .inr (by simp [Value.ownBlock] at hb; omega)
    refine SxL.hp (fun W H => H.re (i := 0) rfl (rowX [] w.heap.size 94 2 (.slice (some ⟨g1, 0, none⟩) 0 0) 0 []) (rowX_loc _ _ _ _ _ _ _) rfl (fun h => own_new0 h hg1)) ?_
    refine SxL.val trivial rfl rfl (fun ρ w E H => ex_move E rfl rfl) ?_
    refine SxL.append (i := 0) (news := il.flatMap imL) trivial rfl rfl rfl Tryz.underlying26 nf_palaver_api_Item rfl rfl rfl rfl hvg1 rfl (fun W H => ⟨_, rows_reads imL_len (by decide) (hi.below (H.toBelow ⟨hvg1.fresh, trivial⟩))⟩) (flat_one imL_one _) (by unfold maxLen; omega) (by omega) (Nat.le_refl _) fun A7 k7 hv7 => ?_
    refine SxL.val trivial rfl rfl (fun ρ w E H => ex_assign E rfl rfl) ?_
    refine SxL.nil (SxN.then_ (SxC.ret ?_))
    refine SxX.done (.slice A7 (0 + il.length) k7) (fun a w K H => res1 K rfl rfl) (fun w H => ?_)
    refine ⟨_, rfl, ?_, H.toBelow ⟨hv7.fresh, trivial⟩⟩
    exact own_as (H.get (i := 0) rfl) (Nat.zero_add _) (List.nil_append _)
  · refine SxC.condT rfl (SxC.seq (SxC.region ?_))
    refine SxL.val trivial rfl rfl (fun ρ w E H => ex_assign E rfl rfl) ?_
    refine SxL.nil (SxN.then_ (SxC.ret (SxX.thenR ?_)))
    refine SxX.done (.slice none 0 0) (fun a w K H => res1 K rfl rfl) (fun w H => ?_)
    obtain rfl := rows_none hi hc4
    exact ⟨_, rfl, World.ownsRow_nil _ _ _ _, H.toBelow trivial⟩

set_option maxRecDepth 100000 in
set_option maxHeartbeats 4000000 in
theorem move_cmd (g xk xn xr xb xs xo da db dk dz xc : Nat) (xv ds dt du xt : List UInt8) (wl : List Vo) (jl : List Im) (V I : Value)(mk mn mr mb ms mo ca cb ck cz mc : Nat) (mv cs ct cu mt : List UInt8) (vl : List Vo) (il : List Im) (A B : Option Addr) (ka kb : Nat) (w : World) (hg : Blk w g 33 (msL ⟨xk, xn, xr, xb, xs, xo, xv, wl, jl, ⟨da, db, dk, ds, dt, du, dz⟩, xc, xt⟩ V I).toArray) : Calls Tryz.prog 114 #[.pointer (some ⟨g, 0, none⟩), .agg #[.int .u8 (mk : Int), .int .u64 (mn : Int), .int .u8 (mr : Int), .int .u64 (mb : Int), .int .u64 (ms : Int), .int .u8 (mo : Int), .string ⟨mv.toArray⟩, .slice A vl.length ka, .slice B il.length kb, .int .u8 (ca : Int), .int .u32 (cb : Int), .int .u8 (ck : Int), .string ⟨cs.toArray⟩, .string ⟨ct.toArray⟩, .string ⟨cu.toArray⟩, .int .u8 (cz : Int), .int .u8 (mc : Int), .string ⟨mt.toArray⟩]] w fun e w' => e = .returned (.tuple #[]) ∧ Blk w' g 33 (msL (Pt.move .cmd ⟨xk, xn, xr, xb, xs, xo, xv, wl, jl, ⟨da, db, dk, ds, dt, du, dz⟩, xc, xt⟩ ⟨mk, mn, mr, mb, ms, mo, mv, vl, il, ⟨ca, cb, ck, cs, ct, cu, cz⟩, mc, mt⟩) V I).toArray ∧ Outs [g] w w' := by
  refine sx_enter (n := 9) _ Tryz.func114 rfl rfl rfl (Hp.one hg) ?_
  refine SxC.seq (SxC.region ?_)
  refine SxL.new (cs := [.int .u8 (mk : Int), .int .u64 (mn : Int), .int .u8 (mr : Int), .int .u64 (mb : Int), .int .u64 (ms : Int), .int .u8 (mo : Int), .string ⟨mv.toArray⟩, .slice A vl.length ka, .slice B il.length kb, .int .u8 (ca : Int), .int .u32 (cb : Int), .int .u8 (ck : Int), .string ⟨cs.toArray⟩, .string ⟨ct.toArray⟩, .string ⟨cu.toArray⟩, .int .u8 (cz : Int), .int .u8 (mc : Int), .string ⟨mt.toArray⟩]) trivial rfl rfl (fun ρ w E H => ex_box E rfl rfl rfl) fun g1 hg1 => ?_
  refine SxL.nil (SxN.then_ (SxC.region ?_))
  refine SxL.val trivial rfl rfl (fun ρ w E H => ex_move E rfl rfl) ?_
  refine SxL.val (v := .pointer (some ⟨g1, 9, none⟩)) trivial rfl rfl (fun ρ w E H => ex_field E rfl fa_palaver_api_Msg_8 rfl rfl) ?_
  refine SxL.val trivial rfl rfl (fun ρ w E H => ex_load (part := [.int .u8 (ca : Int), .int .u32 (cb : Int), .int .u8 (ck : Int), .string ⟨cs.toArray⟩, .string ⟨ct.toArray⟩, .string ⟨cu.toArray⟩, .int .u8 (cz : Int)]) E (H.get (i := 0) rfl) rfl rfl Tryz.underlying29 rfl sz_palaver_api_Cmd rfl rfl) ?_
  refine SxL.val (v := .pointer (some ⟨g, 0, none⟩)) trivial rfl rfl (fun ρ w E H => ex_nilCheck E rfl rfl) ?_
  refine SxL.val (v := .pointer (some ⟨g, 9, none⟩)) trivial rfl rfl (fun ρ w E H => ex_field E rfl fa_palaver_api_Msg_8 rfl rfl) ?_
  refine SxL.store (i := 1) trivial rfl rfl rfl rfl rfl sz_palaver_api_Cmd rfl rfl rfl ?_
  refine SxL.nil ?_
  refine SxN.done (.tuple #[]) (fun a w K H => res0 rfl) (fun w H => ?_)
  exact ⟨rfl, H.get (i := 1) rfl, H.toOuts _ ⟨(fun g hg => by rw [List.mem_singleton.1 hg]; exact .inr hg1), (fun g hg => by rw [List.mem_singleton.1 hg]; exact .inl (by simp)), trivial⟩⟩

set_option maxRecDepth 100000 in
set_option maxHeartbeats 4000000 in
theorem move_name (g xk xn xr xb xs xo da db dk dz xc : Nat) (xv ds dt du xt : List UInt8) (wl : List Vo) (jl : List Im) (V I : Value)(mk mn mr mb ms mo ca cb ck cz mc : Nat) (mv cs ct cu mt : List UInt8) (vl : List Vo) (il : List Im) (A B : Option Addr) (ka kb : Nat) (w : World) (hg : Blk w g 33 (msL ⟨xk, xn, xr, xb, xs, xo, xv, wl, jl, ⟨da, db, dk, ds, dt, du, dz⟩, xc, xt⟩ V I).toArray) : Calls Tryz.prog 119 #[.pointer (some ⟨g, 0, none⟩), .agg #[.int .u8 (mk : Int), .int .u64 (mn : Int), .int .u8 (mr : Int), .int .u64 (mb : Int), .int .u64 (ms : Int), .int .u8 (mo : Int), .string ⟨mv.toArray⟩, .slice A vl.length ka, .slice B il.length kb, .int .u8 (ca : Int), .int .u32 (cb : Int), .int .u8 (ck : Int), .string ⟨cs.toArray⟩, .string ⟨ct.toArray⟩, .string ⟨cu.toArray⟩, .int .u8 (cz : Int), .int .u8 (mc : Int), .string ⟨mt.toArray⟩]] w fun e w' => e = .returned (.tuple #[]) ∧ Blk w' g 33 (msL (Pt.move .name ⟨xk, xn, xr, xb, xs, xo, xv, wl, jl, ⟨da, db, dk, ds, dt, du, dz⟩, xc, xt⟩ ⟨mk, mn, mr, mb, ms, mo, mv, vl, il, ⟨ca, cb, ck, cs, ct, cu, cz⟩, mc, mt⟩) V I).toArray ∧ Outs [g] w w' := by
  refine sx_enter (n := 18) _ Tryz.func119 rfl rfl rfl (Hp.one hg) ?_
  refine SxC.seq (SxC.region ?_)
  refine SxL.new (cs := [.int .u8 (mk : Int), .int .u64 (mn : Int), .int .u8 (mr : Int), .int .u64 (mb : Int), .int .u64 (ms : Int), .int .u8 (mo : Int), .string ⟨mv.toArray⟩, .slice A vl.length ka, .slice B il.length kb, .int .u8 (ca : Int), .int .u32 (cb : Int), .int .u8 (ck : Int), .string ⟨cs.toArray⟩, .string ⟨ct.toArray⟩, .string ⟨cu.toArray⟩, .int .u8 (cz : Int), .int .u8 (mc : Int), .string ⟨mt.toArray⟩]) trivial rfl rfl (fun ρ w E H => ex_box E rfl rfl rfl) fun g1 hg1 => ?_
  refine SxL.nil (SxN.then_ ?_)
  refine SxC.drawnK [g] [0] (by kernel_rfl) rfl ⟨(fun g hg => by rw [List.mem_singleton.1 hg]; exact .inr hg1), (fun g hg => by rw [List.mem_singleton.1 hg]; exact .inl (by simp)), trivial⟩ ?_
  refine SxA.take (i := 0) rfl (by kernel_rfl) (by kernel_rfl) (by kernel_rfl) rfl rfl (fun _ _ _ h => h) trivial (fun ρ w E H => ex_move E rfl rfl) ?_
  refine SxA.take (i := 1) rfl (by kernel_rfl) (by kernel_rfl) (by kernel_rfl) rfl rfl (fun _ _ _ h => h) trivial (fun ρ w E H => ex_move E rfl rfl) ?_
  refine SxA.take (i := 2) (v := .pointer (some ⟨g1, 9, none⟩)) rfl (by kernel_rfl) (by kernel_rfl) (by kernel_rfl) rfl rfl (fun _ _ _ h => h) trivial (fun ρ w E H => ex_field E rfl fa_palaver_api_Msg_8 rfl rfl) ?_
  refine SxA.take (i := 3) (v := .pointer (some ⟨g1, 9, none⟩)) rfl (by kernel_rfl) (by kernel_rfl) (by kernel_rfl) rfl rfl (fun _ _ _ h => h) trivial (fun ρ w E H => ex_field E rfl fa_palaver_api_Cmd_0 rfl rfl) ?_
  refine SxA.take (i := 4) rfl (by kernel_rfl) (by kernel_rfl) (by kernel_rfl) rfl rfl (fun _ _ _ h => h) trivial (fun ρ w E H => ex_load1 E (H.get (i := 0) rfl) rfl rfl Tryz.underlying5 rfl rfl) ?_
  refine SxA.take (i := 5) (v := .pointer (some ⟨g1, 9, none⟩)) rfl (by kernel_rfl) (by kernel_rfl) (by kernel_rfl) rfl rfl (fun _ _ _ h => h) trivial (fun ρ w E H => ex_field E rfl fa_palaver_api_Msg_8 rfl rfl) ?_
  refine SxA.take (i := 6) (v := .pointer (some ⟨g1, 10, none⟩)) rfl (by kernel_rfl) (by kernel_rfl) (by kernel_rfl) rfl rfl (fun _ _ _ h => h) trivial (fun ρ w E H => ex_field E rfl fa_palaver_api_Cmd_1 rfl rfl) ?_
  refine SxA.take (i := 7) rfl (by kernel_rfl) (by kernel_rfl) (by kernel_rfl) rfl rfl (fun _ _ _ h => h) trivial (fun ρ w E H => ex_load1 E (H.get (i := 0) rfl) rfl rfl Tryz.underlying27 rfl rfl) ?_
  refine SxA.take (i := 8) (v := .pointer (some ⟨g, 0, none⟩)) rfl (by kernel_rfl) (by kernel_rfl) (by kernel_rfl) rfl rfl (fun _ _ _ h => h) trivial (fun ρ w E H => ex_nilCheck E rfl rfl) ?_
  refine SxA.take (i := 9) (v := .pointer (some ⟨g, 9, none⟩)) rfl (by kernel_rfl) (by kernel_rfl) (by kernel_rfl) rfl rfl (fun _ _ _ h => h) trivial (fun ρ w E H => ex_field E rfl fa_palaver_api_Msg_8 rfl rfl) ?_
  refine SxA.take (i := 10) (v := .pointer (some ⟨g, 9, none⟩)) rfl (by kernel_rfl) (by kernel_rfl) (by kernel_rfl) rfl rfl (fun _ _ _ h => h) trivial (fun ρ w E H => ex_field E rfl fa_palaver_api_Cmd_0 rfl rfl) ?_
  refine SxA.ready [11] (by kernel_rfl) (by simp) ⟨?_, trivial⟩
  refine SxO.store (j := 1) rfl trivial rfl rfl rfl rfl rfl sz_uint8 rfl rfl rfl (fun w H => H.ks [g] [0] rfl ⟨(fun g hg => by rw [List.mem_singleton.1 hg]; exact .inr hg1), (fun g hg => by rw [List.mem_singleton.1 hg]; exact .inl (by simp)), trivial⟩) ?_
  refine SxA.take (i := 12) (v := .pointer (some ⟨g, 0, none⟩)) rfl (by kernel_rfl) (by kernel_rfl) (by kernel_rfl) rfl rfl (fun _ _ _ h => h) trivial (fun ρ w E H => ex_nilCheck E rfl rfl) ?_
  refine SxA.take (i := 13) (v := .pointer (some ⟨g, 9, none⟩)) rfl (by kernel_rfl) (by kernel_rfl) (by kernel_rfl) rfl rfl (fun _ _ _ h => h) trivial (fun ρ w E H => ex_field E rfl fa_palaver_api_Msg_8 rfl rfl) ?_
  refine SxA.take (i := 14) (v := .pointer (some ⟨g, 10, none⟩)) rfl (by kernel_rfl) (by kernel_rfl) (by kernel_rfl) rfl rfl (fun _ _ _ h => h) trivial (fun ρ w E H => ex_field E rfl fa_palaver_api_Cmd_1 rfl rfl) ?_
  refine SxA.ready [15] (by kernel_rfl) (by simp) ⟨?_, trivial⟩
  refine SxO.store (j := 1) rfl trivial rfl rfl rfl rfl rfl sz_uint32 rfl rfl rfl (fun w H => H.ks [g] [0] rfl ⟨(fun g hg => by rw [List.mem_singleton.1 hg]; exact .inr hg1), (fun g hg => by rw [List.mem_singleton.1 hg]; exact .inl (by simp)), trivial⟩) ?_
  refine SxA.done (by kernel_rfl) ?_
  refine SxN.done (.tuple #[]) (fun a w K H => res0 rfl) (fun w H => ?_)
  exact ⟨rfl, H.get (i := 1) rfl, H.toOuts _ ⟨(fun g hg => by rw [List.mem_singleton.1 hg]; exact .inr hg1), (fun g hg => by rw [List.mem_singleton.1 hg]; exact .inl (by simp)), trivial⟩⟩

set_option maxRecDepth 100000 in
set_option maxHeartbeats 4000000 in
theorem move_reply (g xk xn xr xb xs xo da db dk dz xc : Nat) (xv ds dt du xt : List UInt8) (wl : List Vo) (jl : List Im) (V I : Value)(mk mn mr mb ms mo ca cb ck cz mc : Nat) (mv cs ct cu mt : List UInt8) (vl : List Vo) (il : List Im) (A B : Option Addr) (ka kb : Nat) (w : World) (hg : Blk w g 33 (msL ⟨xk, xn, xr, xb, xs, xo, xv, wl, jl, ⟨da, db, dk, ds, dt, du, dz⟩, xc, xt⟩ V I).toArray) : Calls Tryz.prog 125 #[.pointer (some ⟨g, 0, none⟩), .agg #[.int .u8 (mk : Int), .int .u64 (mn : Int), .int .u8 (mr : Int), .int .u64 (mb : Int), .int .u64 (ms : Int), .int .u8 (mo : Int), .string ⟨mv.toArray⟩, .slice A vl.length ka, .slice B il.length kb, .int .u8 (ca : Int), .int .u32 (cb : Int), .int .u8 (ck : Int), .string ⟨cs.toArray⟩, .string ⟨ct.toArray⟩, .string ⟨cu.toArray⟩, .int .u8 (cz : Int), .int .u8 (mc : Int), .string ⟨mt.toArray⟩]] w fun e w' => e = .returned (.tuple #[]) ∧ Blk w' g 33 (msL (Pt.move .reply ⟨xk, xn, xr, xb, xs, xo, xv, wl, jl, ⟨da, db, dk, ds, dt, du, dz⟩, xc, xt⟩ ⟨mk, mn, mr, mb, ms, mo, mv, vl, il, ⟨ca, cb, ck, cs, ct, cu, cz⟩, mc, mt⟩) V I).toArray ∧ Outs [g] w w' := by
  refine sx_enter (n := 9) _ Tryz.func125 rfl rfl rfl (Hp.one hg) ?_
  refine SxC.seq (SxC.region ?_)
  refine SxL.new (cs := [.int .u8 (mk : Int), .int .u64 (mn : Int), .int .u8 (mr : Int), .int .u64 (mb : Int), .int .u64 (ms : Int), .int .u8 (mo : Int), .string ⟨mv.toArray⟩, .slice A vl.length ka, .slice B il.length kb, .int .u8 (ca : Int), .int .u32 (cb : Int), .int .u8 (ck : Int), .string ⟨cs.toArray⟩, .string ⟨ct.toArray⟩, .string ⟨cu.toArray⟩, .int .u8 (cz : Int), .int .u8 (mc : Int), .string ⟨mt.toArray⟩]) trivial rfl rfl (fun ρ w E H => ex_box E rfl rfl rfl) fun g1 hg1 => ?_
  refine SxL.nil (SxN.then_ (SxC.region ?_))
  refine SxL.val trivial rfl rfl (fun ρ w E H => ex_move E rfl rfl) ?_
  refine SxL.val (v := .pointer (some ⟨g1, 16, none⟩)) trivial rfl rfl (fun ρ w E H => ex_field E rfl fa_palaver_api_Msg_9 rfl rfl) ?_
  refine SxL.val trivial rfl rfl (fun ρ w E H => ex_load (part := [.int .u8 (mc : Int), .string ⟨mt.toArray⟩]) E (H.get (i := 0) rfl) rfl rfl Tryz.underlying31 rfl sz_palaver_api_Reply rfl rfl) ?_
  refine SxL.val (v := .pointer (some ⟨g, 0, none⟩)) trivial rfl rfl (fun ρ w E H => ex_nilCheck E rfl rfl) ?_
  refine SxL.val (v := .pointer (some ⟨g, 16, none⟩)) trivial rfl rfl (fun ρ w E H => ex_field E rfl fa_palaver_api_Msg_9 rfl rfl) ?_
  refine SxL.store (i := 1) trivial rfl rfl rfl rfl rfl sz_palaver_api_Reply rfl rfl rfl ?_
  refine SxL.nil ?_
  refine SxN.done (.tuple #[]) (fun a w K H => res0 rfl) (fun w H => ?_)
  exact ⟨rfl, H.get (i := 1) rfl, H.toOuts _ ⟨(fun g hg => by rw [List.mem_singleton.1 hg]; exact .inr hg1), (fun g hg => by rw [List.mem_singleton.1 hg]; exact .inl (by simp)), trivial⟩⟩

set_option maxRecDepth 100000 in
set_option maxHeartbeats 4000000 in
theorem move_node (g xk xn xr xb xs xo da db dk dz xc : Nat) (xv ds dt du xt : List UInt8) (wl : List Vo) (jl : List Im) (V I : Value)(mk mn mr mb ms mo ca cb ck cz mc : Nat) (mv cs ct cu mt : List UInt8) (vl : List Vo) (il : List Im) (A B : Option Addr) (ka kb : Nat) (w : World) (hg : Blk w g 33 (msL ⟨xk, xn, xr, xb, xs, xo, xv, wl, jl, ⟨da, db, dk, ds, dt, du, dz⟩, xc, xt⟩ V I).toArray) : Calls Tryz.prog 129 #[.pointer (some ⟨g, 0, none⟩), .agg #[.int .u8 (mk : Int), .int .u64 (mn : Int), .int .u8 (mr : Int), .int .u64 (mb : Int), .int .u64 (ms : Int), .int .u8 (mo : Int), .string ⟨mv.toArray⟩, .slice A vl.length ka, .slice B il.length kb, .int .u8 (ca : Int), .int .u32 (cb : Int), .int .u8 (ck : Int), .string ⟨cs.toArray⟩, .string ⟨ct.toArray⟩, .string ⟨cu.toArray⟩, .int .u8 (cz : Int), .int .u8 (mc : Int), .string ⟨mt.toArray⟩]] w fun e w' => e = .returned (.tuple #[]) ∧ Blk w' g 33 (msL (Pt.move .node ⟨xk, xn, xr, xb, xs, xo, xv, wl, jl, ⟨da, db, dk, ds, dt, du, dz⟩, xc, xt⟩ ⟨mk, mn, mr, mb, ms, mo, mv, vl, il, ⟨ca, cb, ck, cs, ct, cu, cz⟩, mc, mt⟩) V I).toArray ∧ Outs [g] w w' := by
  refine sx_enter (n := 9) _ Tryz.func129 rfl rfl rfl (Hp.one hg) ?_
  refine SxC.seq (SxC.region ?_)
  refine SxL.new (cs := [.int .u8 (mk : Int), .int .u64 (mn : Int), .int .u8 (mr : Int), .int .u64 (mb : Int), .int .u64 (ms : Int), .int .u8 (mo : Int), .string ⟨mv.toArray⟩, .slice A vl.length ka, .slice B il.length kb, .int .u8 (ca : Int), .int .u32 (cb : Int), .int .u8 (ck : Int), .string ⟨cs.toArray⟩, .string ⟨ct.toArray⟩, .string ⟨cu.toArray⟩, .int .u8 (cz : Int), .int .u8 (mc : Int), .string ⟨mt.toArray⟩]) trivial rfl rfl (fun ρ w E H => ex_box E rfl rfl rfl) fun g1 hg1 => ?_
  refine SxL.nil (SxN.then_ (SxC.region ?_))
  refine SxL.val trivial rfl rfl (fun ρ w E H => ex_move E rfl rfl) ?_
  refine SxL.val (v := .pointer (some ⟨g1, 5, none⟩)) trivial rfl rfl (fun ρ w E H => ex_field E rfl fa_palaver_api_Msg_4 rfl rfl) ?_
  refine SxL.val trivial rfl rfl (fun ρ w E H => ex_load1 E (H.get (i := 0) rfl) rfl rfl Tryz.underlying5 rfl rfl) ?_
  refine SxL.val (v := .pointer (some ⟨g, 0, none⟩)) trivial rfl rfl (fun ρ w E H => ex_nilCheck E rfl rfl) ?_
  refine SxL.val (v := .pointer (some ⟨g, 5, none⟩)) trivial rfl rfl (fun ρ w E H => ex_field E rfl fa_palaver_api_Msg_4 rfl rfl) ?_
  refine SxL.store (i := 1) trivial rfl rfl rfl rfl rfl sz_uint8 rfl rfl rfl ?_
  refine SxL.nil ?_
  refine SxN.done (.tuple #[]) (fun a w K H => res0 rfl) (fun w H => ?_)
  exact ⟨rfl, H.get (i := 1) rfl, H.toOuts _ ⟨(fun g hg => by rw [List.mem_singleton.1 hg]; exact .inr hg1), (fun g hg => by rw [List.mem_singleton.1 hg]; exact .inl (by simp)), trivial⟩⟩

set_option maxRecDepth 100000 in
set_option maxHeartbeats 4000000 in
theorem move_turn (g xk xn xr xb xs xo da db dk dz xc : Nat) (xv ds dt du xt : List UInt8) (wl : List Vo) (jl : List Im) (V I : Value)(mk mn mr mb ms mo ca cb ck cz mc : Nat) (mv cs ct cu mt : List UInt8) (vl : List Vo) (il : List Im) (A B : Option Addr) (ka kb : Nat) (w : World) (hg : Blk w g 33 (msL ⟨xk, xn, xr, xb, xs, xo, xv, wl, jl, ⟨da, db, dk, ds, dt, du, dz⟩, xc, xt⟩ V I).toArray) : Calls Tryz.prog 135 #[.pointer (some ⟨g, 0, none⟩), .agg #[.int .u8 (mk : Int), .int .u64 (mn : Int), .int .u8 (mr : Int), .int .u64 (mb : Int), .int .u64 (ms : Int), .int .u8 (mo : Int), .string ⟨mv.toArray⟩, .slice A vl.length ka, .slice B il.length kb, .int .u8 (ca : Int), .int .u32 (cb : Int), .int .u8 (ck : Int), .string ⟨cs.toArray⟩, .string ⟨ct.toArray⟩, .string ⟨cu.toArray⟩, .int .u8 (cz : Int), .int .u8 (mc : Int), .string ⟨mt.toArray⟩]] w fun e w' => e = .returned (.tuple #[]) ∧ Blk w' g 33 (msL (Pt.move .turn ⟨xk, xn, xr, xb, xs, xo, xv, wl, jl, ⟨da, db, dk, ds, dt, du, dz⟩, xc, xt⟩ ⟨mk, mn, mr, mb, ms, mo, mv, vl, il, ⟨ca, cb, ck, cs, ct, cu, cz⟩, mc, mt⟩) V I).toArray ∧ Outs [g] w w' := by
  refine sx_enter (n := 9) _ Tryz.func135 rfl rfl rfl (Hp.one hg) ?_
  refine SxC.seq (SxC.region ?_)
  refine SxL.new (cs := [.int .u8 (mk : Int), .int .u64 (mn : Int), .int .u8 (mr : Int), .int .u64 (mb : Int), .int .u64 (ms : Int), .int .u8 (mo : Int), .string ⟨mv.toArray⟩, .slice A vl.length ka, .slice B il.length kb, .int .u8 (ca : Int), .int .u32 (cb : Int), .int .u8 (ck : Int), .string ⟨cs.toArray⟩, .string ⟨ct.toArray⟩, .string ⟨cu.toArray⟩, .int .u8 (cz : Int), .int .u8 (mc : Int), .string ⟨mt.toArray⟩]) trivial rfl rfl (fun ρ w E H => ex_box E rfl rfl rfl) fun g1 hg1 => ?_
  refine SxL.nil (SxN.then_ (SxC.region ?_))
  refine SxL.val trivial rfl rfl (fun ρ w E H => ex_move E rfl rfl) ?_
  refine SxL.val (v := .pointer (some ⟨g1, 1, none⟩)) trivial rfl rfl (fun ρ w E H => ex_field E rfl fa_palaver_api_Msg_1 rfl rfl) ?_
  refine SxL.val trivial rfl rfl (fun ρ w E H => ex_load (part := [.int .u64 (mn : Int), .int .u8 (mr : Int)]) E (H.get (i := 0) rfl) rfl rfl Tryz.underlying24 rfl sz_palaver_api_Ballot rfl rfl) ?_
  refine SxL.val (v := .pointer (some ⟨g, 0, none⟩)) trivial rfl rfl (fun ρ w E H => ex_nilCheck E rfl rfl) ?_
  refine SxL.val (v := .pointer (some ⟨g, 1, none⟩)) trivial rfl rfl (fun ρ w E H => ex_field E rfl fa_palaver_api_Msg_1 rfl rfl) ?_
  refine SxL.store (i := 1) trivial rfl rfl rfl rfl rfl sz_palaver_api_Ballot rfl rfl rfl ?_
  refine SxL.nil ?_
  refine SxN.done (.tuple #[]) (fun a w K H => res0 rfl) (fun w H => ?_)
  exact ⟨rfl, H.get (i := 1) rfl, H.toOuts _ ⟨(fun g hg => by rw [List.mem_singleton.1 hg]; exact .inr hg1), (fun g hg => by rw [List.mem_singleton.1 hg]; exact .inl (by simp)), trivial⟩⟩

set_option maxRecDepth 100000 in
set_option maxHeartbeats 4000000 in
theorem move_floor (g xk xn xr xb xs xo da db dk dz xc : Nat) (xv ds dt du xt : List UInt8) (wl : List Vo) (jl : List Im) (V I : Value)(mk mn mr mb ms mo ca cb ck cz mc : Nat) (mv cs ct cu mt : List UInt8) (vl : List Vo) (il : List Im) (A B : Option Addr) (ka kb : Nat) (w : World) (hg : Blk w g 33 (msL ⟨xk, xn, xr, xb, xs, xo, xv, wl, jl, ⟨da, db, dk, ds, dt, du, dz⟩, xc, xt⟩ V I).toArray) : Calls Tryz.prog 145 #[.pointer (some ⟨g, 0, none⟩), .agg #[.int .u8 (mk : Int), .int .u64 (mn : Int), .int .u8 (mr : Int), .int .u64 (mb : Int), .int .u64 (ms : Int), .int .u8 (mo : Int), .string ⟨mv.toArray⟩, .slice A vl.length ka, .slice B il.length kb, .int .u8 (ca : Int), .int .u32 (cb : Int), .int .u8 (ck : Int), .string ⟨cs.toArray⟩, .string ⟨ct.toArray⟩, .string ⟨cu.toArray⟩, .int .u8 (cz : Int), .int .u8 (mc : Int), .string ⟨mt.toArray⟩]] w fun e w' => e = .returned (.tuple #[]) ∧ Blk w' g 33 (msL (Pt.move .floor ⟨xk, xn, xr, xb, xs, xo, xv, wl, jl, ⟨da, db, dk, ds, dt, du, dz⟩, xc, xt⟩ ⟨mk, mn, mr, mb, ms, mo, mv, vl, il, ⟨ca, cb, ck, cs, ct, cu, cz⟩, mc, mt⟩) V I).toArray ∧ Outs [g] w w' := by
  refine sx_enter (n := 9) _ Tryz.func145 rfl rfl rfl (Hp.one hg) ?_
  refine SxC.seq (SxC.region ?_)
  refine SxL.new (cs := [.int .u8 (mk : Int), .int .u64 (mn : Int), .int .u8 (mr : Int), .int .u64 (mb : Int), .int .u64 (ms : Int), .int .u8 (mo : Int), .string ⟨mv.toArray⟩, .slice A vl.length ka, .slice B il.length kb, .int .u8 (ca : Int), .int .u32 (cb : Int), .int .u8 (ck : Int), .string ⟨cs.toArray⟩, .string ⟨ct.toArray⟩, .string ⟨cu.toArray⟩, .int .u8 (cz : Int), .int .u8 (mc : Int), .string ⟨mt.toArray⟩]) trivial rfl rfl (fun ρ w E H => ex_box E rfl rfl rfl) fun g1 hg1 => ?_
  refine SxL.nil (SxN.then_ (SxC.region ?_))
  refine SxL.val trivial rfl rfl (fun ρ w E H => ex_move E rfl rfl) ?_
  refine SxL.val (v := .pointer (some ⟨g1, 3, none⟩)) trivial rfl rfl (fun ρ w E H => ex_field E rfl fa_palaver_api_Msg_2 rfl rfl) ?_
  refine SxL.val trivial rfl rfl (fun ρ w E H => ex_load1 E (H.get (i := 0) rfl) rfl rfl Tryz.underlying22 rfl rfl) ?_
  refine SxL.val (v := .pointer (some ⟨g, 0, none⟩)) trivial rfl rfl (fun ρ w E H => ex_nilCheck E rfl rfl) ?_
  refine SxL.val (v := .pointer (some ⟨g, 3, none⟩)) trivial rfl rfl (fun ρ w E H => ex_field E rfl fa_palaver_api_Msg_2 rfl rfl) ?_
  refine SxL.store (i := 1) trivial rfl rfl rfl rfl rfl sz_uint64 rfl rfl rfl ?_
  refine SxL.nil ?_
  refine SxN.done (.tuple #[]) (fun a w K H => res0 rfl) (fun w H => ?_)
  exact ⟨rfl, H.get (i := 1) rfl, H.toOuts _ ⟨(fun g hg => by rw [List.mem_singleton.1 hg]; exact .inr hg1), (fun g hg => by rw [List.mem_singleton.1 hg]; exact .inl (by simp)), trivial⟩⟩

set_option maxRecDepth 100000 in
set_option maxHeartbeats 4000000 in
theorem move_slot (g xk xn xr xb xs xo da db dk dz xc : Nat) (xv ds dt du xt : List UInt8) (wl : List Vo) (jl : List Im) (V I : Value)(mk mn mr mb ms mo ca cb ck cz mc : Nat) (mv cs ct cu mt : List UInt8) (vl : List Vo) (il : List Im) (least : Nat) (A B : Option Addr) (ka kb : Nat) (w : World) (hg : Blk w g 33 (msL ⟨xk, xn, xr, xb, xs, xo, xv, wl, jl, ⟨da, db, dk, ds, dt, du, dz⟩, xc, xt⟩ V I).toArray) : Calls Tryz.prog 141 #[.pointer (some ⟨g, 0, none⟩), .agg #[.int .u8 (mk : Int), .int .u64 (mn : Int), .int .u8 (mr : Int), .int .u64 (mb : Int), .int .u64 (ms : Int), .int .u8 (mo : Int), .string ⟨mv.toArray⟩, .slice A vl.length ka, .slice B il.length kb, .int .u8 (ca : Int), .int .u32 (cb : Int), .int .u8 (ck : Int), .string ⟨cs.toArray⟩, .string ⟨ct.toArray⟩, .string ⟨cu.toArray⟩, .int .u8 (cz : Int), .int .u8 (mc : Int), .string ⟨mt.toArray⟩]] w fun e w' => e = .returned (.tuple #[]) ∧ Blk w' g 33 (msL (Pt.move (.slot least) ⟨xk, xn, xr, xb, xs, xo, xv, wl, jl, ⟨da, db, dk, ds, dt, du, dz⟩, xc, xt⟩ ⟨mk, mn, mr, mb, ms, mo, mv, vl, il, ⟨ca, cb, ck, cs, ct, cu, cz⟩, mc, mt⟩) V I).toArray ∧ Outs [g] w w' := by
  refine sx_enter (n := 9) _ Tryz.func141 rfl rfl rfl (Hp.one hg) ?_
  refine SxC.seq (SxC.region ?_)
  refine SxL.new (cs := [.int .u8 (mk : Int), .int .u64 (mn : Int), .int .u8 (mr : Int), .int .u64 (mb : Int), .int .u64 (ms : Int), .int .u8 (mo : Int), .string ⟨mv.toArray⟩, .slice A vl.length ka, .slice B il.length kb, .int .u8 (ca : Int), .int .u32 (cb : Int), .int .u8 (ck : Int), .string ⟨cs.toArray⟩, .string ⟨ct.toArray⟩, .string ⟨cu.toArray⟩, .int .u8 (cz : Int), .int .u8 (mc : Int), .string ⟨mt.toArray⟩]) trivial rfl rfl (fun ρ w E H => ex_box E rfl rfl rfl) fun g1 hg1 => ?_
  refine SxL.nil (SxN.then_ (SxC.region ?_))
  refine SxL.val trivial rfl rfl (fun ρ w E H => ex_move E rfl rfl) ?_
  refine SxL.val (v := .pointer (some ⟨g1, 4, none⟩)) trivial rfl rfl (fun ρ w E H => ex_field E rfl fa_palaver_api_Msg_3 rfl rfl) ?_
  refine SxL.val trivial rfl rfl (fun ρ w E H => ex_load1 E (H.get (i := 0) rfl) rfl rfl Tryz.underlying22 rfl rfl) ?_
  refine SxL.val (v := .pointer (some ⟨g, 0, none⟩)) trivial rfl rfl (fun ρ w E H => ex_nilCheck E rfl rfl) ?_
  refine SxL.val (v := .pointer (some ⟨g, 4, none⟩)) trivial rfl rfl (fun ρ w E H => ex_field E rfl fa_palaver_api_Msg_3 rfl rfl) ?_
  refine SxL.store (i := 1) trivial rfl rfl rfl rfl rfl sz_uint64 rfl rfl rfl ?_
  refine SxL.nil ?_
  refine SxN.done (.tuple #[]) (fun a w K H => res0 rfl) (fun w H => ?_)
  exact ⟨rfl, H.get (i := 1) rfl, H.toOuts _ ⟨(fun g hg => by rw [List.mem_singleton.1 hg]; exact .inr hg1), (fun g hg => by rw [List.mem_singleton.1 hg]; exact .inl (by simp)), trivial⟩⟩

set_option maxRecDepth 100000 in
set_option maxHeartbeats 4000000 in
theorem move_value (g xk xn xr xb xs xo da db dk dz xc : Nat) (xv ds dt du xt : List UInt8) (wl : List Vo) (jl : List Im) (V I : Value)(mk mn mr mb ms mo ca cb ck cz mc : Nat) (mv cs ct cu mt : List UInt8) (vl : List Vo) (il : List Im) (A B : Option Addr) (ka kb : Nat) (w : World) (hg : Blk w g 33 (msL ⟨xk, xn, xr, xb, xs, xo, xv, wl, jl, ⟨da, db, dk, ds, dt, du, dz⟩, xc, xt⟩ V I).toArray) : Calls Tryz.prog 154 #[.pointer (some ⟨g, 0, none⟩), .agg #[.int .u8 (mk : Int), .int .u64 (mn : Int), .int .u8 (mr : Int), .int .u64 (mb : Int), .int .u64 (ms : Int), .int .u8 (mo : Int), .string ⟨mv.toArray⟩, .slice A vl.length ka, .slice B il.length kb, .int .u8 (ca : Int), .int .u32 (cb : Int), .int .u8 (ck : Int), .string ⟨cs.toArray⟩, .string ⟨ct.toArray⟩, .string ⟨cu.toArray⟩, .int .u8 (cz : Int), .int .u8 (mc : Int), .string ⟨mt.toArray⟩]] w fun e w' => e = .returned (.tuple #[]) ∧ Blk w' g 33 (msL (Pt.move .value ⟨xk, xn, xr, xb, xs, xo, xv, wl, jl, ⟨da, db, dk, ds, dt, du, dz⟩, xc, xt⟩ ⟨mk, mn, mr, mb, ms, mo, mv, vl, il, ⟨ca, cb, ck, cs, ct, cu, cz⟩, mc, mt⟩) V I).toArray ∧ Outs [g] w w' := by
  refine sx_enter (n := 9) _ Tryz.func154 rfl rfl rfl (Hp.one hg) ?_
  refine SxC.seq (SxC.region ?_)
  refine SxL.new (cs := [.int .u8 (mk : Int), .int .u64 (mn : Int), .int .u8 (mr : Int), .int .u64 (mb : Int), .int .u64 (ms : Int), .int .u8 (mo : Int), .string ⟨mv.toArray⟩, .slice A vl.length ka, .slice B il.length kb, .int .u8 (ca : Int), .int .u32 (cb : Int), .int .u8 (ck : Int), .string ⟨cs.toArray⟩, .string ⟨ct.toArray⟩, .string ⟨cu.toArray⟩, .int .u8 (cz : Int), .int .u8 (mc : Int), .string ⟨mt.toArray⟩]) trivial rfl rfl (fun ρ w E H => ex_box E rfl rfl rfl) fun g1 hg1 => ?_
  refine SxL.nil (SxN.then_ (SxC.region ?_))
  refine SxL.val trivial rfl rfl (fun ρ w E H => ex_move E rfl rfl) ?_
  refine SxL.val (v := .pointer (some ⟨g1, 6, none⟩)) trivial rfl rfl (fun ρ w E H => ex_field E rfl fa_palaver_api_Msg_5 rfl rfl) ?_
  refine SxL.val trivial rfl rfl (fun ρ w E H => ex_load1 E (H.get (i := 0) rfl) rfl rfl Tryz.underlying9 rfl rfl) ?_
  refine SxL.val (v := .pointer (some ⟨g, 0, none⟩)) trivial rfl rfl (fun ρ w E H => ex_nilCheck E rfl rfl) ?_
  refine SxL.val (v := .pointer (some ⟨g, 6, none⟩)) trivial rfl rfl (fun ρ w E H => ex_field E rfl fa_palaver_api_Msg_5 rfl rfl) ?_
  refine SxL.store (i := 1) trivial rfl rfl rfl rfl rfl sz_string rfl rfl rfl ?_
  refine SxL.nil ?_
  refine SxN.done (.tuple #[]) (fun a w K H => res0 rfl) (fun w H => ?_)
  exact ⟨rfl, H.get (i := 1) rfl, H.toOuts _ ⟨(fun g hg => by rw [List.mem_singleton.1 hg]; exact .inr hg1), (fun g hg => by rw [List.mem_singleton.1 hg]; exact .inl (by simp)), trivial⟩⟩

set_option maxRecDepth 100000 in
set_option maxHeartbeats 4000000 in
theorem move_votes (g xk xn xr xb xs xo da db dk dz xc : Nat) (xv ds dt du xt : List UInt8) (wl : List Vo) (jl : List Im) (V I : Value)(mk mn mr mb ms mo ca cb ck cz mc : Nat) (mv cs ct cu mt : List UInt8) (vl : List Vo) (il : List Im) (A B : Option Addr) (ka kb : Nat) (w : World) (hg : Blk w g 33 (msL ⟨xk, xn, xr, xb, xs, xo, xv, wl, jl, ⟨da, db, dk, ds, dt, du, dz⟩, xc, xt⟩ V I).toArray) (hv : Rows w A 4 voL vl) (hne : vl ≠ [] → ∀ ad, A = some ad → ad.block ≠ g) (hlen : vl.length ≤ 1000000) : Calls Tryz.prog 149 #[.pointer (some ⟨g, 0, none⟩), .agg #[.int .u8 (mk : Int), .int .u64 (mn : Int), .int .u8 (mr : Int), .int .u64 (mb : Int), .int .u64 (ms : Int), .int .u8 (mo : Int), .string ⟨mv.toArray⟩, .slice A vl.length ka, .slice B il.length kb, .int .u8 (ca : Int), .int .u32 (cb : Int), .int .u8 (ck : Int), .string ⟨cs.toArray⟩, .string ⟨ct.toArray⟩, .string ⟨cu.toArray⟩, .int .u8 (cz : Int), .int .u8 (mc : Int), .string ⟨mt.toArray⟩]] w fun e w' => ∃ V', e = .returned (.tuple #[]) ∧ Blk w' g 33 (msL (Pt.move .votes ⟨xk, xn, xr, xb, xs, xo, xv, wl, jl, ⟨da, db, dk, ds, dt, du, dz⟩, xc, xt⟩ ⟨mk, mn, mr, mb, ms, mo, mv, vl, il, ⟨ca, cb, ck, cs, ct, cu, cz⟩, mc, mt⟩) V' I).toArray ∧ w'.ownsRow w.heap.size 92 4 V' vl.length (vl.flatMap voL) ∧ Outs [g] w w' := by
  refine sx_enter (n := 10) _ Tryz.func149 rfl rfl rfl (Hp.one hg) ?_
  refine SxC.seq (SxC.region ?_)
  refine SxL.new (cs := [.int .u8 (mk : Int), .int .u64 (mn : Int), .int .u8 (mr : Int), .int .u64 (mb : Int), .int .u64 (ms : Int), .int .u8 (mo : Int), .string ⟨mv.toArray⟩, .slice A vl.length ka, .slice B il.length kb, .int .u8 (ca : Int), .int .u32 (cb : Int), .int .u8 (ck : Int), .string ⟨cs.toArray⟩, .string ⟨ct.toArray⟩, .string ⟨cu.toArray⟩, .int .u8 (cz : Int), .int .u8 (mc : Int), .string ⟨mt.toArray⟩]) trivial rfl rfl (fun ρ w E H => ex_box E rfl rfl rfl) fun g1 hg1 => ?_
  refine SxL.nil (SxN.then_ (SxC.region ?_))
  refine SxL.val trivial rfl rfl (fun ρ w E H => ex_move E rfl rfl) ?_
  refine SxL.val (v := .pointer (some ⟨g1, 7, none⟩)) trivial rfl rfl (fun ρ w E H => ex_field E rfl fa_palaver_api_Msg_6 rfl rfl) ?_
  refine SxL.val trivial rfl rfl (fun ρ w E H => ex_load1 E (H.get (i := 0) rfl) rfl rfl Tryz.underlying25 rfl rfl) ?_
  refine SxL.call (σ := Value) (fun s => s) (fun s => OwnIn w [] s) (fun s => _) trivial rfl rfl (fun ρ w E => ex_call E en_slices_Clone_palaver_api_Vote_palaver_api_Vote rfl rfl) (callOwn (fun w H => cloneV vl A ka w (hv.outs (H.toOuts [g] ⟨(fun g hg => by rw [List.mem_singleton.1 hg]; exact .inr hg1), (fun g hg => by rw [List.mem_singleton.1 hg]; exact .inl (by simp)), trivial⟩) (fun hn ad h hm => hne hn ad h (List.mem_singleton.1 hm))) hlen)) fun v7 hv7 => ?_
  refine SxL.with (fun W H => own_is_slice (H.get (i := 0) rfl)) ?_
  rintro ⟨A7, k7, rfl⟩
  refine SxL.val (v := .pointer (some ⟨g, 0, none⟩)) trivial rfl rfl (fun ρ w E H => ex_nilCheck E rfl rfl) ?_
  refine SxL.val (v := .pointer (some ⟨g, 7, none⟩)) trivial rfl rfl (fun ρ w E H => ex_field E rfl fa_palaver_api_Msg_6 rfl rfl) ?_
  refine SxL.store (i := 2) trivial rfl rfl rfl rfl rfl sz_api_Vote rfl rfl rfl ?_
  refine SxL.nil ?_
  refine SxN.done (.tuple #[]) (fun a w K H => res0 rfl) (fun w H => ?_)
  exact ⟨_, rfl, H.get (i := 2) rfl, H.get (i := 0) rfl, H.toOuts _ ⟨(fun g hg => .inr (hv7.fresh g hg)), (fun g hg => by rw [List.mem_singleton.1 hg]; exact .inr hg1), (fun g hg => by rw [List.mem_singleton.1 hg]; exact .inl (by simp)), trivial⟩⟩

set_option maxRecDepth 100000 in
set_option maxHeartbeats 4000000 in
theorem move_items (g xk xn xr xb xs xo da db dk dz xc : Nat) (xv ds dt du xt : List UInt8) (wl : List Vo) (jl : List Im) (V I : Value)(mk mn mr mb ms mo ca cb ck cz mc : Nat) (mv cs ct cu mt : List UInt8) (vl : List Vo) (il : List Im) (A B : Option Addr) (ka kb : Nat) (w : World) (hg : Blk w g 33 (msL ⟨xk, xn, xr, xb, xs, xo, xv, wl, jl, ⟨da, db, dk, ds, dt, du, dz⟩, xc, xt⟩ V I).toArray) (hi : Rows w B 2 imL il) (hne : il ≠ [] → ∀ ad, B = some ad → ad.block ≠ g) (hlen : il.length ≤ 1000000) : Calls Tryz.prog 158 #[.pointer (some ⟨g, 0, none⟩), .agg #[.int .u8 (mk : Int), .int .u64 (mn : Int), .int .u8 (mr : Int), .int .u64 (mb : Int), .int .u64 (ms : Int), .int .u8 (mo : Int), .string ⟨mv.toArray⟩, .slice A vl.length ka, .slice B il.length kb, .int .u8 (ca : Int), .int .u32 (cb : Int), .int .u8 (ck : Int), .string ⟨cs.toArray⟩, .string ⟨ct.toArray⟩, .string ⟨cu.toArray⟩, .int .u8 (cz : Int), .int .u8 (mc : Int), .string ⟨mt.toArray⟩]] w fun e w' => ∃ V', e = .returned (.tuple #[]) ∧ Blk w' g 33 (msL (Pt.move .items ⟨xk, xn, xr, xb, xs, xo, xv, wl, jl, ⟨da, db, dk, ds, dt, du, dz⟩, xc, xt⟩ ⟨mk, mn, mr, mb, ms, mo, mv, vl, il, ⟨ca, cb, ck, cs, ct, cu, cz⟩, mc, mt⟩) V V').toArray ∧ w'.ownsRow w.heap.size 94 2 V' il.length (il.flatMap imL) ∧ Outs [g] w w' := by
  refine sx_enter (n := 10) _ Tryz.func158 rfl rfl rfl (Hp.one hg) ?_
  refine SxC.seq (SxC.region ?_)
  refine SxL.new (cs := [.int .u8 (mk : Int), .int .u64 (mn : Int), .int .u8 (mr : Int), .int .u64 (mb : Int), .int .u64 (ms : Int), .int .u8 (mo : Int), .string ⟨mv.toArray⟩, .slice A vl.length ka, .slice B il.length kb, .int .u8 (ca : Int), .int .u32 (cb : Int), .int .u8 (ck : Int), .string ⟨cs.toArray⟩, .string ⟨ct.toArray⟩, .string ⟨cu.toArray⟩, .int .u8 (cz : Int), .int .u8 (mc : Int), .string ⟨mt.toArray⟩]) trivial rfl rfl (fun ρ w E H => ex_box E rfl rfl rfl) fun g1 hg1 => ?_
  refine SxL.nil (SxN.then_ (SxC.region ?_))
  refine SxL.val trivial rfl rfl (fun ρ w E H => ex_move E rfl rfl) ?_
  refine SxL.val (v := .pointer (some ⟨g1, 8, none⟩)) trivial rfl rfl (fun ρ w E H => ex_field E rfl fa_palaver_api_Msg_7 rfl rfl) ?_
  refine SxL.val trivial rfl rfl (fun ρ w E H => ex_load1 E (H.get (i := 0) rfl) rfl rfl Tryz.underlying26 rfl rfl) ?_
  refine SxL.call (σ := Value) (fun s => s) (fun s => OwnIn w [] s) (fun s => _) trivial rfl rfl (fun ρ w E => ex_call E en_slices_Clone_palaver_api_Item_palaver_api_Item rfl rfl) (callOwn (fun w H => cloneI il B kb w (hi.outs (H.toOuts [g] ⟨(fun g hg => by rw [List.mem_singleton.1 hg]; exact .inr hg1), (fun g hg => by rw [List.mem_singleton.1 hg]; exact .inl (by simp)), trivial⟩) (fun hn ad h hm => hne hn ad h (List.mem_singleton.1 hm))) hlen)) fun v7 hv7 => ?_
  refine SxL.with (fun W H => own_is_slice (H.get (i := 0) rfl)) ?_
  rintro ⟨A7, k7, rfl⟩
  refine SxL.val (v := .pointer (some ⟨g, 0, none⟩)) trivial rfl rfl (fun ρ w E H => ex_nilCheck E rfl rfl) ?_
  refine SxL.val (v := .pointer (some ⟨g, 8, none⟩)) trivial rfl rfl (fun ρ w E H => ex_field E rfl fa_palaver_api_Msg_7 rfl rfl) ?_
  refine SxL.store (i := 2) trivial rfl rfl rfl rfl rfl sz_api_Item rfl rfl rfl ?_
  refine SxL.nil ?_
  refine SxN.done (.tuple #[]) (fun a w K H => res0 rfl) (fun w H => ?_)
  exact ⟨_, rfl, H.get (i := 2) rfl, H.get (i := 0) rfl, H.toOuts _ ⟨(fun g hg => .inr (hv7.fresh g hg)), (fun g hg => by rw [List.mem_singleton.1 hg]; exact .inr hg1), (fun g hg => by rw [List.mem_singleton.1 hg]; exact .inl (by simp)), trivial⟩⟩
end Go.Proofs.YteiaiilfekojfaaGreat.Msg
end
section
set_option linter.unusedVariables false
set_option linter.unusedSimpArgs false
namespace Go.Proofs.YteiaiilfekojfaaGreat.Msg
open Go.RowKit Sx Wire DrawInv
set_option maxRecDepth 100000 in
set_option maxHeartbeats 4000000 in
theorem take_cmd (gr : Nat) (r : Rd) (g xk xn xr xb xs xo da db dk dz xc : Nat) (xv ds dt du xt : List UInt8) (wl : List Vo) (jl : List Im) (V I : Value)  (w : World) (hr : Blk w gr 157 (rdC r)) (hg : Blk w g 33 (msL ⟨xk, xn, xr, xb, xs, xo, xv, wl, jl, ⟨da, db, dk, ds, dt, du, dz⟩, xc, xt⟩ V I).toArray) (hne : gr ≠ g) (hrl : r.rest.length ≤ 1000000) : Calls Tryz.prog 112 #[.pointer (some ⟨gr, 0, none⟩), .pointer (some ⟨g, 0, none⟩)] w fun e w' => e = .returned (.tuple #[]) ∧ Blk w' gr 157 (rdC (Pt.take .cmd (⟨xk, xn, xr, xb, xs, xo, xv, wl, jl, ⟨da, db, dk, ds, dt, du, dz⟩, xc, xt⟩, r)).2) ∧ Blk w' g 33 (msL (Pt.take .cmd (⟨xk, xn, xr, xb, xs, xo, xv, wl, jl, ⟨da, db, dk, ds, dt, du, dz⟩, xc, xt⟩, r)).1 V I).toArray ∧ Outs [gr, g] w w' := by
  refine sx_enter (n := 9) _ Tryz.func112 rfl rfl rfl (Hp.duo hr hg hne) ?_
  refine SxC.region ?_
  iterate 2 refine SxL.val trivial rfl rfl (fun ρ w E H => ex_move E rfl rfl) ?_
  obtain ⟨p6, hp6⟩ : ∃ p, Cmd.takeC r = p := ⟨_, rfl⟩
  refine SxL.call (σ := Unit) (fun _ => .agg #[.int .u8 (p6.1.client : Int), .int .u32 (p6.1.seq : Int), .int .u8 (p6.1.kind : Int), .string ⟨p6.1.key.toArray⟩, .string ⟨p6.1.old.toArray⟩, .string ⟨p6.1.new.toArray⟩, .int .u8 (p6.1.set : Int)]) (fun _ => True) (fun _ => _) trivial rfl rfl (fun ρ w E => ex_call E en_palaver_cmd_Take rfl rfl) (callTurn (i := 0) (cell gr 157 [.int .i64 (p6.2.err : Int), .string ⟨p6.2.rest.toArray⟩]) rfl (cell_loc _ _ _) rfl (fun w H => (cmd_p hp6 (by skip; omega) w (H.get (i := 0) rfl)).mono fun _ _ h => turn_rd h)) fun _ _ => ?_
  refine SxL.val (v := .pointer (some ⟨g, 0, none⟩)) trivial rfl rfl (fun ρ w E H => ex_nilCheck E rfl rfl) ?_
  refine SxL.val (v := .pointer (some ⟨g, 9, none⟩)) trivial rfl rfl (fun ρ w E H => ex_field E rfl fa_palaver_api_Msg_8 rfl rfl) ?_
  refine SxL.store (i := 1) trivial rfl rfl rfl rfl rfl sz_palaver_api_Cmd rfl rfl rfl ?_
  refine SxL.nil ?_
  refine SxN.done (.tuple #[]) (fun a w K H => res0 rfl) (fun w H => ?_)
  have hR : Blk w gr 157 (rdC p6.2) := H.get (i := 0) rfl
  refine ⟨rfl, ?_⟩
  simp only [Pt.take, hp6]
  exact ⟨hR, H.get (i := 1) rfl, H.toOuts _ ⟨(fun g hg => by rw [List.mem_singleton.1 hg]; exact .inl (by simp)), (fun g hg => by rw [List.mem_singleton.1 hg]; exact .inl (by simp)), trivial⟩⟩

set_option maxRecDepth 100000 in
set_option maxHeartbeats 4000000 in
theorem take_name (gr : Nat) (r : Rd) (g xk xn xr xb xs xo da db dk dz xc : Nat) (xv ds dt du xt : List UInt8) (wl : List Vo) (jl : List Im) (V I : Value)  (w : World) (hr : Blk w gr 157 (rdC r)) (hg : Blk w g 33 (msL ⟨xk, xn, xr, xb, xs, xo, xv, wl, jl, ⟨da, db, dk, ds, dt, du, dz⟩, xc, xt⟩ V I).toArray) (hne : gr ≠ g) (hrl : r.rest.length ≤ 1000000) : Calls Tryz.prog 118 #[.pointer (some ⟨gr, 0, none⟩), .pointer (some ⟨g, 0, none⟩)] w fun e w' => e = .returned (.tuple #[]) ∧ Blk w' gr 157 (rdC (Pt.take .name (⟨xk, xn, xr, xb, xs, xo, xv, wl, jl, ⟨da, db, dk, ds, dt, du, dz⟩, xc, xt⟩, r)).2) ∧ Blk w' g 33 (msL (Pt.take .name (⟨xk, xn, xr, xb, xs, xo, xv, wl, jl, ⟨da, db, dk, ds, dt, du, dz⟩, xc, xt⟩, r)).1 V I).toArray ∧ Outs [gr, g] w w' := by
  refine sx_enter (n := 17) _ Tryz.func118 rfl rfl rfl (Hp.duo hr hg hne) ?_
  refine SxC.seq (SxC.region ?_)
  iterate 2 refine SxL.val trivial rfl rfl (fun ρ w E H => ex_move E rfl rfl) ?_
  obtain ⟨p6, hp6⟩ : ∃ p, Rd.byte r = p := ⟨_, rfl⟩
  refine SxL.call (σ := Unit) (fun _ => .int .u8 (p6.1 : Int)) (fun _ => True) (fun _ => _) trivial rfl rfl (fun ρ w E => ex_call E en_palaver_wire_Reader_Byte rfl rfl) (callTurn (i := 0) (cell gr 157 [.int .i64 (p6.2.err : Int), .string ⟨p6.2.rest.toArray⟩]) rfl (cell_loc _ _ _) rfl (fun w H => (byte_p hp6 (by skip; omega) w (H.get (i := 0) rfl)).mono fun _ _ h => turn_rd h)) fun _ _ => ?_
  refine SxL.val (v := .pointer (some ⟨g, 0, none⟩)) trivial rfl rfl (fun ρ w E H => ex_nilCheck E rfl rfl) ?_
  refine SxL.val (v := .pointer (some ⟨g, 9, none⟩)) trivial rfl rfl (fun ρ w E H => ex_field E rfl fa_palaver_api_Msg_8 rfl rfl) ?_
  refine SxL.val (v := .pointer (some ⟨g, 9, none⟩)) trivial rfl rfl (fun ρ w E H => ex_field E rfl fa_palaver_api_Cmd_0 rfl rfl) ?_
  refine SxL.store (i := 1) trivial rfl rfl rfl rfl rfl sz_uint8 rfl rfl rfl ?_
  refine SxL.nil (SxN.then_ (SxC.region ?_))
  iterate 2 refine SxL.val trivial rfl rfl (fun ρ w E H => ex_move E rfl rfl) ?_
  obtain ⟨p12, hp12⟩ : ∃ p, Rd.below p6.2 4294967296 = p := ⟨_, rfl⟩
  refine SxL.call (σ := Unit) (fun _ => .int .u64 (p12.1 : Int)) (fun _ => True) (fun _ => _) trivial rfl rfl (fun ρ w E => ex_call E en_palaver_wire_Reader_Below rfl rfl) (callTurn (i := 0) (cell gr 157 [.int .i64 (p12.2.err : Int), .string ⟨p12.2.rest.toArray⟩]) rfl (cell_loc _ _ _) rfl (fun w H => (below_p hp12 (by have q0 := rp_byte hp6; omega) w (H.get (i := 0) rfl)).mono fun _ _ h => turn_rd h)) fun _ _ => ?_
  refine SxL.val (v := .int .u32 (p12.1 : Int)) trivial rfl rfl (fun ρ w E H => ex_convInt E rfl Tryz.underlying22 Tryz.underlying27 rfl (by have := lt_below p6.2 4294967296 (by decide); rw [hp12] at this; rw [IntKind.wrap_u32]; omega)) ?_
  refine SxL.val (v := .pointer (some ⟨g, 0, none⟩)) trivial rfl rfl (fun ρ w E H => ex_nilCheck E rfl rfl) ?_
  refine SxL.val (v := .pointer (some ⟨g, 9, none⟩)) trivial rfl rfl (fun ρ w E H => ex_field E rfl fa_palaver_api_Msg_8 rfl rfl) ?_
  refine SxL.val (v := .pointer (some ⟨g, 10, none⟩)) trivial rfl rfl (fun ρ w E H => ex_field E rfl fa_palaver_api_Cmd_1 rfl rfl) ?_
  refine SxL.store (i := 1) trivial rfl rfl rfl rfl rfl sz_uint32 rfl rfl rfl ?_
  refine SxL.nil ?_
  refine SxN.done (.tuple #[]) (fun a w K H => res0 rfl) (fun w H => ?_)
  have hR : Blk w gr 157 (rdC p12.2) := H.get (i := 0) rfl
  refine ⟨rfl, ?_⟩
  simp only [Pt.take, hp6, hp12]
  exact ⟨hR, H.get (i := 1) rfl, H.toOuts _ ⟨(fun g hg => by rw [List.mem_singleton.1 hg]; exact .inl (by simp)), (fun g hg => by rw [List.mem_singleton.1 hg]; exact .inl (by simp)), trivial⟩⟩

set_option maxRecDepth 100000 in
set_option maxHeartbeats 4000000 in
theorem take_reply (gr : Nat) (r : Rd) (g xk xn xr xb xs xo da db dk dz xc : Nat) (xv ds dt du xt : List UInt8) (wl : List Vo) (jl : List Im) (V I : Value)  (w : World) (hr : Blk w gr 157 (rdC r)) (hg : Blk w g 33 (msL ⟨xk, xn, xr, xb, xs, xo, xv, wl, jl, ⟨da, db, dk, ds, dt, du, dz⟩, xc, xt⟩ V I).toArray) (hne : gr ≠ g) (hrl : r.rest.length ≤ 1000000) : Calls Tryz.prog 123 #[.pointer (some ⟨gr, 0, none⟩), .pointer (some ⟨g, 0, none⟩)] w fun e w' => e = .returned (.tuple #[]) ∧ Blk w' gr 157 (rdC (Pt.take .reply (⟨xk, xn, xr, xb, xs, xo, xv, wl, jl, ⟨da, db, dk, ds, dt, du, dz⟩, xc, xt⟩, r)).2) ∧ Blk w' g 33 (msL (Pt.take .reply (⟨xk, xn, xr, xb, xs, xo, xv, wl, jl, ⟨da, db, dk, ds, dt, du, dz⟩, xc, xt⟩, r)).1 V I).toArray ∧ Outs [gr, g] w w' := by
  refine sx_enter (n := 16) _ Tryz.func123 rfl rfl rfl (Hp.duo hr hg hne) ?_
  refine SxC.seq (SxC.region ?_)
  iterate 2 refine SxL.val trivial rfl rfl (fun ρ w E H => ex_move E rfl rfl) ?_
  obtain ⟨p6, hp6⟩ : ∃ p, Rd.byte r = p := ⟨_, rfl⟩
  refine SxL.call (σ := Unit) (fun _ => .int .u8 (p6.1 : Int)) (fun _ => True) (fun _ => _) trivial rfl rfl (fun ρ w E => ex_call E en_palaver_wire_Reader_Byte rfl rfl) (callTurn (i := 0) (cell gr 157 [.int .i64 (p6.2.err : Int), .string ⟨p6.2.rest.toArray⟩]) rfl (cell_loc _ _ _) rfl (fun w H => (byte_p hp6 (by skip; omega) w (H.get (i := 0) rfl)).mono fun _ _ h => turn_rd h)) fun _ _ => ?_
  refine SxL.val (v := .pointer (some ⟨g, 0, none⟩)) trivial rfl rfl (fun ρ w E H => ex_nilCheck E rfl rfl) ?_
  refine SxL.val (v := .pointer (some ⟨g, 16, none⟩)) trivial rfl rfl (fun ρ w E H => ex_field E rfl fa_palaver_api_Msg_9 rfl rfl) ?_
  refine SxL.val (v := .pointer (some ⟨g, 16, none⟩)) trivial rfl rfl (fun ρ w E H => ex_field E rfl fa_palaver_api_Reply_0 rfl rfl) ?_
  refine SxL.store (i := 1) trivial rfl rfl rfl rfl rfl sz_uint8 rfl rfl rfl ?_
  refine SxL.nil (SxN.then_ (SxC.region ?_))
  iterate 2 refine SxL.val trivial rfl rfl (fun ρ w E H => ex_move E rfl rfl) ?_
  obtain ⟨p12, hp12⟩ : ∃ p, Rd.str p6.2 64 = p := ⟨_, rfl⟩
  refine SxL.call (σ := Unit) (fun _ => .string ⟨p12.1.toArray⟩) (fun _ => True) (fun _ => _) trivial rfl rfl (fun ρ w E => ex_call E en_palaver_wire_Reader_Str rfl rfl) (callTurn (i := 0) (cell gr 157 [.int .i64 (p12.2.err : Int), .string ⟨p12.2.rest.toArray⟩]) rfl (cell_loc _ _ _) rfl (fun w H => (str_p hp12 (by decide) (by decide) (by have q0 := rp_byte hp6; omega) w (H.get (i := 0) rfl)).mono fun _ _ h => turn_rd h)) fun _ _ => ?_
  refine SxL.val (v := .pointer (some ⟨g, 0, none⟩)) trivial rfl rfl (fun ρ w E H => ex_nilCheck E rfl rfl) ?_
  refine SxL.val (v := .pointer (some ⟨g, 16, none⟩)) trivial rfl rfl (fun ρ w E H => ex_field E rfl fa_palaver_api_Msg_9 rfl rfl) ?_
  refine SxL.val (v := .pointer (some ⟨g, 17, none⟩)) trivial rfl rfl (fun ρ w E H => ex_field E rfl fa_palaver_api_Reply_1 rfl rfl) ?_
  refine SxL.store (i := 1) trivial rfl rfl rfl rfl rfl sz_string rfl rfl rfl ?_
  refine SxL.nil ?_
  refine SxN.done (.tuple #[]) (fun a w K H => res0 rfl) (fun w H => ?_)
  have hR : Blk w gr 157 (rdC p12.2) := H.get (i := 0) rfl
  refine ⟨rfl, ?_⟩
  simp only [Pt.take, hp6, hp12]
  exact ⟨hR, H.get (i := 1) rfl, H.toOuts _ ⟨(fun g hg => by rw [List.mem_singleton.1 hg]; exact .inl (by simp)), (fun g hg => by rw [List.mem_singleton.1 hg]; exact .inl (by simp)), trivial⟩⟩

set_option maxRecDepth 100000 in
set_option maxHeartbeats 4000000 in
theorem take_node (gr : Nat) (r : Rd) (g xk xn xr xb xs xo da db dk dz xc : Nat) (xv ds dt du xt : List UInt8) (wl : List Vo) (jl : List Im) (V I : Value)  (w : World) (hr : Blk w gr 157 (rdC r)) (hg : Blk w g 33 (msL ⟨xk, xn, xr, xb, xs, xo, xv, wl, jl, ⟨da, db, dk, ds, dt, du, dz⟩, xc, xt⟩ V I).toArray) (hne : gr ≠ g) (hrl : r.rest.length ≤ 1000000) : Calls Tryz.prog 128 #[.pointer (some ⟨gr, 0, none⟩), .pointer (some ⟨g, 0, none⟩)] w fun e w' => e = .returned (.tuple #[]) ∧ Blk w' gr 157 (rdC (Pt.take .node (⟨xk, xn, xr, xb, xs, xo, xv, wl, jl, ⟨da, db, dk, ds, dt, du, dz⟩, xc, xt⟩, r)).2) ∧ Blk w' g 33 (msL (Pt.take .node (⟨xk, xn, xr, xb, xs, xo, xv, wl, jl, ⟨da, db, dk, ds, dt, du, dz⟩, xc, xt⟩, r)).1 V I).toArray ∧ Outs [gr, g] w w' := by
  refine sx_enter (n := 9) _ Tryz.func128 rfl rfl rfl (Hp.duo hr hg hne) ?_
  refine SxC.region ?_
  iterate 2 refine SxL.val trivial rfl rfl (fun ρ w E H => ex_move E rfl rfl) ?_
  obtain ⟨p6, hp6⟩ : ∃ p, Rd.byte r = p := ⟨_, rfl⟩
  refine SxL.call (σ := Unit) (fun _ => .int .u8 (p6.1 : Int)) (fun _ => True) (fun _ => _) trivial rfl rfl (fun ρ w E => ex_call E en_palaver_wire_Reader_Byte rfl rfl) (callTurn (i := 0) (cell gr 157 [.int .i64 (p6.2.err : Int), .string ⟨p6.2.rest.toArray⟩]) rfl (cell_loc _ _ _) rfl (fun w H => (byte_p hp6 (by skip; omega) w (H.get (i := 0) rfl)).mono fun _ _ h => turn_rd h)) fun _ _ => ?_
  refine SxL.val (v := .pointer (some ⟨g, 0, none⟩)) trivial rfl rfl (fun ρ w E H => ex_nilCheck E rfl rfl) ?_
  refine SxL.val (v := .pointer (some ⟨g, 5, none⟩)) trivial rfl rfl (fun ρ w E H => ex_field E rfl fa_palaver_api_Msg_4 rfl rfl) ?_
  refine SxL.store (i := 1) trivial rfl rfl rfl rfl rfl sz_uint8 rfl rfl rfl ?_
  refine SxL.nil ?_
  refine SxN.done (.tuple #[]) (fun a w K H => res0 rfl) (fun w H => ?_)
  have hR : Blk w gr 157 (rdC p6.2) := H.get (i := 0) rfl
  refine ⟨rfl, ?_⟩
  simp only [Pt.take, hp6]
  exact ⟨hR, H.get (i := 1) rfl, H.toOuts _ ⟨(fun g hg => by rw [List.mem_singleton.1 hg]; exact .inl (by simp)), (fun g hg => by rw [List.mem_singleton.1 hg]; exact .inl (by simp)), trivial⟩⟩

set_option maxRecDepth 100000 in
set_option maxHeartbeats 4000000 in
theorem take_turn (gr : Nat) (r : Rd) (g xk xn xr xb xs xo da db dk dz xc : Nat) (xv ds dt du xt : List UInt8) (wl : List Vo) (jl : List Im) (V I : Value)  (w : World) (hr : Blk w gr 157 (rdC r)) (hg : Blk w g 33 (msL ⟨xk, xn, xr, xb, xs, xo, xv, wl, jl, ⟨da, db, dk, ds, dt, du, dz⟩, xc, xt⟩ V I).toArray) (hne : gr ≠ g) (hrl : r.rest.length ≤ 1000000) : Calls Tryz.prog 133 #[.pointer (some ⟨gr, 0, none⟩), .pointer (some ⟨g, 0, none⟩)] w fun e w' => e = .returned (.tuple #[]) ∧ Blk w' gr 157 (rdC (Pt.take .turn (⟨xk, xn, xr, xb, xs, xo, xv, wl, jl, ⟨da, db, dk, ds, dt, du, dz⟩, xc, xt⟩, r)).2) ∧ Blk w' g 33 (msL (Pt.take .turn (⟨xk, xn, xr, xb, xs, xo, xv, wl, jl, ⟨da, db, dk, ds, dt, du, dz⟩, xc, xt⟩, r)).1 V I).toArray ∧ Outs [gr, g] w w' := by
  refine sx_enter (n := 9) _ Tryz.func133 rfl rfl rfl (Hp.duo hr hg hne) ?_
  refine SxC.region ?_
  iterate 2 refine SxL.val trivial rfl rfl (fun ρ w E H => ex_move E rfl rfl) ?_
  obtain ⟨p6, hp6⟩ : ∃ p, Bal.takeB r = p := ⟨_, rfl⟩
  refine SxL.call (σ := Unit) (fun _ => .agg #[.int .u64 (p6.1.n : Int), .int .u8 (p6.1.r : Int)]) (fun _ => True) (fun _ => _) trivial rfl rfl (fun ρ w E => ex_call E en_palaver_ballot_Take rfl rfl) (callTurn (i := 0) (cell gr 157 [.int .i64 (p6.2.err : Int), .string ⟨p6.2.rest.toArray⟩]) rfl (cell_loc _ _ _) rfl (fun w H => (bal_p hp6 (by skip; omega) w (H.get (i := 0) rfl)).mono fun _ _ h => turn_rd h)) fun _ _ => ?_
  refine SxL.val (v := .pointer (some ⟨g, 0, none⟩)) trivial rfl rfl (fun ρ w E H => ex_nilCheck E rfl rfl) ?_
  refine SxL.val (v := .pointer (some ⟨g, 1, none⟩)) trivial rfl rfl (fun ρ w E H => ex_field E rfl fa_palaver_api_Msg_1 rfl rfl) ?_
  refine SxL.store (i := 1) trivial rfl rfl rfl rfl rfl sz_palaver_api_Ballot rfl rfl rfl ?_
  refine SxL.nil ?_
  refine SxN.done (.tuple #[]) (fun a w K H => res0 rfl) (fun w H => ?_)
  have hR : Blk w gr 157 (rdC p6.2) := H.get (i := 0) rfl
  refine ⟨rfl, ?_⟩
  simp only [Pt.take, hp6]
  exact ⟨hR, H.get (i := 1) rfl, H.toOuts _ ⟨(fun g hg => by rw [List.mem_singleton.1 hg]; exact .inl (by simp)), (fun g hg => by rw [List.mem_singleton.1 hg]; exact .inl (by simp)), trivial⟩⟩

set_option maxRecDepth 100000 in
set_option maxHeartbeats 4000000 in
theorem take_floor (gr : Nat) (r : Rd) (g xk xn xr xb xs xo da db dk dz xc : Nat) (xv ds dt du xt : List UInt8) (wl : List Vo) (jl : List Im) (V I : Value)  (w : World) (hr : Blk w gr 157 (rdC r)) (hg : Blk w g 33 (msL ⟨xk, xn, xr, xb, xs, xo, xv, wl, jl, ⟨da, db, dk, ds, dt, du, dz⟩, xc, xt⟩ V I).toArray) (hne : gr ≠ g) (hrl : r.rest.length ≤ 1000000) : Calls Tryz.prog 144 #[.pointer (some ⟨gr, 0, none⟩), .pointer (some ⟨g, 0, none⟩)] w fun e w' => e = .returned (.tuple #[]) ∧ Blk w' gr 157 (rdC (Pt.take .floor (⟨xk, xn, xr, xb, xs, xo, xv, wl, jl, ⟨da, db, dk, ds, dt, du, dz⟩, xc, xt⟩, r)).2) ∧ Blk w' g 33 (msL (Pt.take .floor (⟨xk, xn, xr, xb, xs, xo, xv, wl, jl, ⟨da, db, dk, ds, dt, du, dz⟩, xc, xt⟩, r)).1 V I).toArray ∧ Outs [gr, g] w w' := by
  refine sx_enter (n := 9) _ Tryz.func144 rfl rfl rfl (Hp.duo hr hg hne) ?_
  refine SxC.region ?_
  iterate 2 refine SxL.val trivial rfl rfl (fun ρ w E H => ex_move E rfl rfl) ?_
  obtain ⟨p6, hp6⟩ : ∃ p, Rd.num r = p := ⟨_, rfl⟩
  refine SxL.call (σ := Unit) (fun _ => .int .u64 (p6.1 : Int)) (fun _ => True) (fun _ => _) trivial rfl rfl (fun ρ w E => ex_call E en_palaver_wire_Reader_Num rfl rfl) (callTurn (i := 0) (cell gr 157 [.int .i64 (p6.2.err : Int), .string ⟨p6.2.rest.toArray⟩]) rfl (cell_loc _ _ _) rfl (fun w H => (num_p hp6 (by skip; omega) w (H.get (i := 0) rfl)).mono fun _ _ h => turn_rd h)) fun _ _ => ?_
  refine SxL.val (v := .pointer (some ⟨g, 0, none⟩)) trivial rfl rfl (fun ρ w E H => ex_nilCheck E rfl rfl) ?_
  refine SxL.val (v := .pointer (some ⟨g, 3, none⟩)) trivial rfl rfl (fun ρ w E H => ex_field E rfl fa_palaver_api_Msg_2 rfl rfl) ?_
  refine SxL.store (i := 1) trivial rfl rfl rfl rfl rfl sz_uint64 rfl rfl rfl ?_
  refine SxL.nil ?_
  refine SxN.done (.tuple #[]) (fun a w K H => res0 rfl) (fun w H => ?_)
  have hR : Blk w gr 157 (rdC p6.2) := H.get (i := 0) rfl
  refine ⟨rfl, ?_⟩
  simp only [Pt.take, hp6]
  exact ⟨hR, H.get (i := 1) rfl, H.toOuts _ ⟨(fun g hg => by rw [List.mem_singleton.1 hg]; exact .inl (by simp)), (fun g hg => by rw [List.mem_singleton.1 hg]; exact .inl (by simp)), trivial⟩⟩

set_option maxRecDepth 100000 in
set_option maxHeartbeats 4000000 in
theorem take_slot (gr : Nat) (r : Rd) (g xk xn xr xb xs xo da db dk dz xc : Nat) (xv ds dt du xt : List UInt8) (wl : List Vo) (jl : List Im) (V I : Value) (least : Nat)  (w : World) (hr : Blk w gr 157 (rdC r)) (hg : Blk w g 33 (msL ⟨xk, xn, xr, xb, xs, xo, xv, wl, jl, ⟨da, db, dk, ds, dt, du, dz⟩, xc, xt⟩ V I).toArray) (hne : gr ≠ g) (hrl : r.rest.length ≤ 1000000) : Calls Tryz.prog 139 #[.pointer (some ⟨gr, 0, none⟩), .pointer (some ⟨g, 0, none⟩)] w fun e w' => e = .returned (.tuple #[]) ∧ Blk w' gr 157 (rdC (Pt.take (.slot least) (⟨xk, xn, xr, xb, xs, xo, xv, wl, jl, ⟨da, db, dk, ds, dt, du, dz⟩, xc, xt⟩, r)).2) ∧ Blk w' g 33 (msL (Pt.take (.slot least) (⟨xk, xn, xr, xb, xs, xo, xv, wl, jl, ⟨da, db, dk, ds, dt, du, dz⟩, xc, xt⟩, r)).1 V I).toArray ∧ Outs [gr, g] w w' := by
  refine sx_enter (n := 9) _ Tryz.func139 rfl rfl rfl (Hp.duo hr hg hne) ?_
  refine SxC.region ?_
  iterate 2 refine SxL.val trivial rfl rfl (fun ρ w E H => ex_move E rfl rfl) ?_
  obtain ⟨p6, hp6⟩ : ∃ p, Rd.num r = p := ⟨_, rfl⟩
  refine SxL.call (σ := Unit) (fun _ => .int .u64 (p6.1 : Int)) (fun _ => True) (fun _ => _) trivial rfl rfl (fun ρ w E => ex_call E en_palaver_wire_Reader_Num rfl rfl) (callTurn (i := 0) (cell gr 157 [.int .i64 (p6.2.err : Int), .string ⟨p6.2.rest.toArray⟩]) rfl (cell_loc _ _ _) rfl (fun w H => (num_p hp6 (by skip; omega) w (H.get (i := 0) rfl)).mono fun _ _ h => turn_rd h)) fun _ _ => ?_
  refine SxL.val (v := .pointer (some ⟨g, 0, none⟩)) trivial rfl rfl (fun ρ w E H => ex_nilCheck E rfl rfl) ?_
  refine SxL.val (v := .pointer (some ⟨g, 4, none⟩)) trivial rfl rfl (fun ρ w E H => ex_field E rfl fa_palaver_api_Msg_3 rfl rfl) ?_
  refine SxL.store (i := 1) trivial rfl rfl rfl rfl rfl sz_uint64 rfl rfl rfl ?_
  refine SxL.nil ?_
  refine SxN.done (.tuple #[]) (fun a w K H => res0 rfl) (fun w H => ?_)
  have hR : Blk w gr 157 (rdC p6.2) := H.get (i := 0) rfl
  refine ⟨rfl, ?_⟩
  simp only [Pt.take, hp6]
  exact ⟨hR, H.get (i := 1) rfl, H.toOuts _ ⟨(fun g hg => by rw [List.mem_singleton.1 hg]; exact .inl (by simp)), (fun g hg => by rw [List.mem_singleton.1 hg]; exact .inl (by simp)), trivial⟩⟩

set_option maxRecDepth 100000 in
set_option maxHeartbeats 4000000 in
theorem take_value (gr : Nat) (r : Rd) (g xk xn xr xb xs xo da db dk dz xc : Nat) (xv ds dt du xt : List UInt8) (wl : List Vo) (jl : List Im) (V I : Value)  (w : World) (hr : Blk w gr 157 (rdC r)) (hg : Blk w g 33 (msL ⟨xk, xn, xr, xb, xs, xo, xv, wl, jl, ⟨da, db, dk, ds, dt, du, dz⟩, xc, xt⟩ V I).toArray) (hne : gr ≠ g) (hrl : r.rest.length ≤ 1000000) : Calls Tryz.prog 153 #[.pointer (some ⟨gr, 0, none⟩), .pointer (some ⟨g, 0, none⟩)] w fun e w' => e = .returned (.tuple #[]) ∧ Blk w' gr 157 (rdC (Pt.take .value (⟨xk, xn, xr, xb, xs, xo, xv, wl, jl, ⟨da, db, dk, ds, dt, du, dz⟩, xc, xt⟩, r)).2) ∧ Blk w' g 33 (msL (Pt.take .value (⟨xk, xn, xr, xb, xs, xo, xv, wl, jl, ⟨da, db, dk, ds, dt, du, dz⟩, xc, xt⟩, r)).1 V I).toArray ∧ Outs [gr, g] w w' := by
  refine sx_enter (n := 9) _ Tryz.func153 rfl rfl rfl (Hp.duo hr hg hne) ?_
  refine SxC.region ?_
  iterate 2 refine SxL.val trivial rfl rfl (fun ρ w E H => ex_move E rfl rfl) ?_
  obtain ⟨p6, hp6⟩ : ∃ p, Rd.str r 65536 = p := ⟨_, rfl⟩
  refine SxL.call (σ := Unit) (fun _ => .string ⟨p6.1.toArray⟩) (fun _ => True) (fun _ => _) trivial rfl rfl (fun ρ w E => ex_call E en_palaver_wire_Reader_Str rfl rfl) (callTurn (i := 0) (cell gr 157 [.int .i64 (p6.2.err : Int), .string ⟨p6.2.rest.toArray⟩]) rfl (cell_loc _ _ _) rfl (fun w H => (str_p hp6 (by decide) (by decide) (by skip; omega) w (H.get (i := 0) rfl)).mono fun _ _ h => turn_rd h)) fun _ _ => ?_
  refine SxL.val (v := .pointer (some ⟨g, 0, none⟩)) trivial rfl rfl (fun ρ w E H => ex_nilCheck E rfl rfl) ?_
  refine SxL.val (v := .pointer (some ⟨g, 6, none⟩)) trivial rfl rfl (fun ρ w E H => ex_field E rfl fa_palaver_api_Msg_5 rfl rfl) ?_
  refine SxL.store (i := 1) trivial rfl rfl rfl rfl rfl sz_string rfl rfl rfl ?_
  refine SxL.nil ?_
  refine SxN.done (.tuple #[]) (fun a w K H => res0 rfl) (fun w H => ?_)
  have hR : Blk w gr 157 (rdC p6.2) := H.get (i := 0) rfl
  refine ⟨rfl, ?_⟩
  simp only [Pt.take, hp6]
  exact ⟨hR, H.get (i := 1) rfl, H.toOuts _ ⟨(fun g hg => by rw [List.mem_singleton.1 hg]; exact .inl (by simp)), (fun g hg => by rw [List.mem_singleton.1 hg]; exact .inl (by simp)), trivial⟩⟩

set_option maxRecDepth 100000 in
set_option maxHeartbeats 4000000 in
theorem take_votes (base gr : Nat) (r : Rd) (g xk xn xr xb xs xo da db dk dz xc : Nat) (xv ds dt du xt : List UInt8) (wl : List Vo) (jl : List Im) (V I : Value)  (w : World) (hr : Blk w gr 157 (rdC r)) (hg : Blk w g 33 (msL ⟨xk, xn, xr, xb, xs, xo, xv, wl, jl, ⟨da, db, dk, ds, dt, du, dz⟩, xc, xt⟩ V I).toArray) (hne : gr ≠ g) (hG0 : Grows r wl.length) (hbase : base ≤ w.heap.size) (hown : w.ownsRow base 92 4 V wl.length (wl.flatMap voL)) (hd1 : gr ∉ V.ownBlock.toList) (hd2 : g ∉ V.ownBlock.toList) : Calls Tryz.prog 148 #[.pointer (some ⟨gr, 0, none⟩), .pointer (some ⟨g, 0, none⟩)] w fun e w' => ∃ V', e = .returned (.tuple #[]) ∧ Blk w' gr 157 (rdC (Pt.take .votes (⟨xk, xn, xr, xb, xs, xo, xv, wl, jl, ⟨da, db, dk, ds, dt, du, dz⟩, xc, xt⟩, r)).2) ∧ Blk w' g 33 (msL (Pt.take .votes (⟨xk, xn, xr, xb, xs, xo, xv, wl, jl, ⟨da, db, dk, ds, dt, du, dz⟩, xc, xt⟩, r)).1 V' I).toArray ∧ w'.ownsRow base 92 4 V' (Pt.take .votes (⟨xk, xn, xr, xb, xs, xo, xv, wl, jl, ⟨da, db, dk, ds, dt, du, dz⟩, xc, xt⟩, r)).1.votes.length ((Pt.take .votes (⟨xk, xn, xr, xb, xs, xo, xv, wl, jl, ⟨da, db, dk, ds, dt, du, dz⟩, xc, xt⟩, r)).1.votes.flatMap voL) ∧ OwnIn w V.ownBlock.toList V' ∧ Outs ([gr, g] ++ V.ownBlock.toList) w w' := by
  have hv0 : OwnIn w V.ownBlock.toList V := OwnIn.refl w V
  have hrl := hG0.h1
  refine sx_enter (n := 35) _ Tryz.func148 rfl rfl rfl (Hp.trio hr hg hne hown hd1 hd2) ?_
  refine SxC.seq (SxC.region ?_)
  refine SxL.val trivial rfl rfl (fun ρ w E H => ex_move E rfl rfl) ?_
  obtain ⟨p7, hp7⟩ : ∃ p, Rd.num r = p := ⟨_, rfl⟩
  refine SxL.call (σ := Unit) (fun _ => .int .u64 (p7.1 : Int)) (fun _ => True) (fun _ => _) trivial rfl rfl (fun ρ w E => ex_call E en_palaver_wire_Reader_Num rfl rfl) (callTurn (i := 1) (cell gr 157 [.int .i64 (p7.2.err : Int), .string ⟨p7.2.rest.toArray⟩]) rfl (cell_loc _ _ _) rfl (fun w H => (num_p hp7 (by have q0 := hrl; omega) w (H.get (i := 1) rfl)).mono fun _ _ h => turn_rd h)) fun _ _ => ?_
  refine SxL.val trivial rfl rfl (fun ρ w E H => ex_assign E rfl rfl) ?_
  refine SxL.nil (SxN.then_ (SxC.block ?_))
  refine SxC.loop4 (fun (n : Nat) (r1 : Rd) (w1 : List Vo) (V1 : Value) => [(0, .pointer (some ⟨gr, 0, none⟩)), (1, .pointer (some ⟨g, 0, none⟩)), (4, .int .u64 (n : Int))]) (fun (n : Nat) (r1 : Rd) (w1 : List Vo) (V1 : Value) => [rowX V.ownBlock.toList base 92 4 V1 w1.length (w1.flatMap voL), cell gr 157 [.int .i64 (r1.err : Int), .string ⟨r1.rest.toArray⟩], cell g 33 [.int .u8 (xk : Int), .int .u64 (xn : Int), .int .u8 (xr : Int), .int .u64 (xb : Int), .int .u64 (xs : Int), .int .u8 (xo : Int), .string ⟨xv.toArray⟩, V1, I, .int .u8 (da : Int), .int .u32 (db : Int), .int .u8 (dk : Int), .string ⟨ds.toArray⟩, .string ⟨dt.toArray⟩, .string ⟨du.toArray⟩, .int .u8 (dz : Int), .int .u8 (xc : Int), .string ⟨xt.toArray⟩]]) (fun (gk : Nat) (n : Nat) (r1 : Rd) (w1 : List Vo) (V1 : Value) => n = gk ∧ tkV p7.1 p7.2 wl = tkV n r1 w1 ∧ OwnIn w V.ownBlock.toList V1 ∧ Grows r1 w1.length ∧ n < 18446744073709551616) p7.1 p7.1 p7.2 wl V ⟨rfl, rfl, OwnIn.refl w V, hp7 ▸ hG0.num, hp7 ▸ lt_num r⟩ ⟨rfl, rfl, rfl, trivial⟩ [0, 1, 2] rfl (by decide) ⟨.inl rfl, .inl rfl, .inl rfl, trivial⟩ fun gk n r1 w1 V1 hF => ?_
  obtain ⟨hkg, hrel, hv1, hG, hn64⟩ := hF
  refine SxC.seq (SxC.seq (SxC.region ?_))
  refine SxL.val trivial rfl rfl (fun ρ w E H => ex_move E rfl rfl) ?_
  refine SxL.valB trivial rfl rfl (fun ρ w E H => ex_cmp E rfl rfl rfl rfl rfl) fun c9 hc9 => ?_
  refine SxL.val trivial rfl rfl (fun ρ w E H => ex_move E rfl rfl) ?_
  cases c9
  · refine SxL.off ⟨_, _, _, rfl, rfl, rfl, nofun⟩ rfl rfl ?_
    iterate 2 refine SxL.off ⟨_, _, _, rfl, rfl, rfl, nofun⟩ rfl rfl ?_
    refine SxL.val trivial rfl rfl (fun ρ w E H => ex_pick E rfl (t := false) rfl rfl) ?_
    refine SxL.nil (SxN.then_ (SxC.condF rfl (SxC.exit (SxX.thenE (SxX.thenE (SxX.blockE ?_))))))
    refine SxN.done (.tuple #[]) (fun a w K H => res0 rfl) (fun w H => ?_)
    have hst : tkV p7.1 p7.2 wl = (r1, w1) := by
      rw [hrel]; refine tkV_stop n r1 w1 ?_
      first | (left; have h := hc9; simp [cmpB] at h; omega) | (right; have h := hc13; simp [cmpB] at h; omega)
    have hR : Blk w gr 157 (rdC r1) := H.get (i := 1) rfl
    have e1 : Pt.take .votes (⟨xk, xn, xr, xb, xs, xo, xv, wl, jl, ⟨da, db, dk, ds, dt, du, dz⟩, xc, xt⟩, r) = (⟨xk, xn, xr, xb, xs, xo, xv, w1, jl, ⟨da, db, dk, ds, dt, du, dz⟩, xc, xt⟩, r1) := by simp only [Pt.take, hp7, hst]
    rw [e1]
    exact ⟨V1, rfl, hR, H.get (i := 2) rfl, H.get (i := 0) rfl, hv1, H.toOuts _ ⟨(fun g hg => (hv1.in_ g hg).imp (fun h => by simp [h]) id), (fun g hg => by rw [List.mem_singleton.1 hg]; exact .inl (by simp)), (fun g hg => by rw [List.mem_singleton.1 hg]; exact .inl (by simp)), trivial⟩⟩
  · refine SxL.val ⟨_, _, rfl, rfl, rfl⟩ rfl rfl (fun ρ w E H => ex_move E rfl rfl) ?_
    refine SxL.callB (v := .int .i64 (r1.err : Int)) ⟨_, _, rfl, rfl, rfl⟩ rfl rfl (fun ρ w E => ex_call E en_palaver_wire_Reader_Err rfl rfl) (fun w H => (err_any gr r1 w (H.get (i := 1) rfl)).mono fun _ _ h => ⟨h.1, h.2 ▸ Below.refl _ _⟩) ?_
    refine SxL.valB ⟨_, _, rfl, rfl, rfl⟩ rfl rfl (fun ρ w E H => ex_cmp E rfl rfl rfl rfl rfl) fun c13 hc13 => ?_
    refine SxL.val trivial rfl rfl (fun ρ w E H => ex_pick E rfl (t := true) rfl rfl) ?_
    refine SxL.nil (SxN.then_ ?_)
    cases c13
    · refine SxC.condF rfl (SxC.exit (SxX.thenE (SxX.thenE (SxX.blockE ?_))))
      refine SxN.done (.tuple #[]) (fun a w K H => res0 rfl) (fun w H => ?_)
      have hst : tkV p7.1 p7.2 wl = (r1, w1) := by
        rw [hrel]; refine tkV_stop n r1 w1 ?_
        first | (left; have h := hc9; simp [cmpB] at h; omega) | (right; have h := hc13; simp [cmpB] at h; omega)
      have hR : Blk w gr 157 (rdC r1) := H.get (i := 1) rfl
      have e1 : Pt.take .votes (⟨xk, xn, xr, xb, xs, xo, xv, wl, jl, ⟨da, db, dk, ds, dt, du, dz⟩, xc, xt⟩, r) = (⟨xk, xn, xr, xb, xs, xo, xv, w1, jl, ⟨da, db, dk, ds, dt, du, dz⟩, xc, xt⟩, r1) := by simp only [Pt.take, hp7, hst]
      rw [e1]
      exact ⟨V1, rfl, hR, H.get (i := 2) rfl, H.get (i := 0) rfl, hv1, H.toOuts _ ⟨(fun g hg => (hv1.in_ g hg).imp (fun h => by simp [h]) id), (fun g hg => by rw [List.mem_singleton.1 hg]; exact .inl (by simp)), (fun g hg => by rw [List.mem_singleton.1 hg]; exact .inl (by simp)), trivial⟩⟩
    · refine SxC.condT rfl (SxC.skip (SxN.then_ (SxC.seq (SxC.block (SxC.seq ?_)))))
      have hn0 : 0 < n := by have := hc9; simp [cmpB] at this; omega
      have he0 : r1.err = 0 := by have := hc13; simp [cmpB] at this; omega
      have hgr := hG.vote he0
      have hb1 := hG.h1
      have hb2 := hG.h2
      refine SxC.region ?_
      refine SxL.val trivial rfl rfl (fun ρ w E H => ex_move E rfl rfl) ?_
      obtain ⟨p18, hp18⟩ : ∃ p, Rd.num r1 = p := ⟨_, rfl⟩
      refine SxL.call (σ := Unit) (fun _ => .int .u64 (p18.1 : Int)) (fun _ => True) (fun _ => _) trivial rfl rfl (fun ρ w E => ex_call E en_palaver_wire_Reader_Num rfl rfl) (callTurn (i := 1) (cell gr 157 [.int .i64 (p18.2.err : Int), .string ⟨p18.2.rest.toArray⟩]) rfl (cell_loc _ _ _) rfl (fun w H => (num_p hp18 (by have q0 := hb1; omega) w (H.get (i := 1) rfl)).mono fun _ _ h => turn_rd h)) fun _ _ => ?_
      refine SxL.val trivial rfl rfl (fun ρ w E H => ex_move E rfl rfl) ?_
      obtain ⟨p20, hp20⟩ : ∃ p, Bal.takeB p18.2 = p := ⟨_, rfl⟩
      refine SxL.call (σ := Unit) (fun _ => .agg #[.int .u64 (p20.1.n : Int), .int .u8 (p20.1.r : Int)]) (fun _ => True) (fun _ => _) trivial rfl rfl (fun ρ w E => ex_call E en_palaver_ballot_Take rfl rfl) (callTurn (i := 1) (cell gr 157 [.int .i64 (p20.2.err : Int), .string ⟨p20.2.rest.toArray⟩]) rfl (cell_loc _ _ _) rfl (fun w H => (bal_p hp20 (by have q0 := hb1; have q1 := rp_num hp18; omega) w (H.get (i := 1) rfl)).mono fun _ _ h => turn_rd h)) fun _ _ => ?_
      refine SxL.val trivial rfl rfl (fun ρ w E H => ex_build (cs := [.int .u64 (p18.1 : Int), .int .u64 (p20.1.n : Int), .int .u8 (p20.1.r : Int), .string ⟨[].toArray⟩]) E rfl rfl (by kernel_rfl)) ?_
      refine SxL.new (cs := [.int .u64 0, .int .u64 0, .int .u8 0, .string ⟨[].toArray⟩]) trivial rfl rfl (fun ρ w E H => ex_alloc rfl zr_palaver_api_Vote rfl) fun g1 hg1 => ?_
      refine SxL.store (i := 0) trivial rfl rfl rfl rfl rfl sz_palaver_api_Vote rfl rfl rfl ?_
      refine SxL.nil (SxN.then_ (SxC.seq (SxC.region ?_)))
      refine SxL.val trivial rfl rfl (fun ρ w E H => ex_move E rfl rfl) ?_
      obtain ⟨p23, hp23⟩ : ∃ p, Rd.str p20.2 65536 = p := ⟨_, rfl⟩
      refine SxL.call (σ := Unit) (fun _ => .string ⟨p23.1.toArray⟩) (fun _ => True) (fun _ => _) trivial rfl rfl (fun ρ w E => ex_call E en_palaver_wire_Reader_Str rfl rfl) (callTurn (i := 2) (cell gr 157 [.int .i64 (p23.2.err : Int), .string ⟨p23.2.rest.toArray⟩]) rfl (cell_loc _ _ _) rfl (fun w H => (str_p hp23 (by decide) (by decide) (by have q0 := hb1; have q1 := rp_num hp18; have q2 := rp_bal hp20; omega) w (H.get (i := 2) rfl)).mono fun _ _ h => turn_rd h)) fun _ _ => ?_
      refine SxL.val (v := .pointer (some ⟨g1, 3, none⟩)) trivial rfl rfl (fun ρ w E H => ex_field E rfl fa_palaver_api_Vote_2 rfl rfl) ?_
      refine SxL.store (i := 0) trivial rfl rfl rfl rfl rfl sz_string rfl rfl rfl ?_
      refine SxL.nil (SxN.then_ ?_)
      refine SxC.drawnK (V.ownBlock.toList ++ [gr, g]) [0, 2] (by kernel_rfl) rfl ⟨(fun g hg => by rw [List.mem_singleton.1 hg]; exact .inr hg1), (fun g hg => (hv1.in_ g hg).imp (fun h => by simp only [List.mem_append]; simp [h]) id), (fun g hg => by rw [List.mem_singleton.1 hg]; exact .inl (by simp)), (fun g hg => by rw [List.mem_singleton.1 hg]; exact .inl (by simp)), trivial⟩ ?_
      refine SxA.take (i := 0) rfl (by kernel_rfl) (by kernel_rfl) (by kernel_rfl) rfl rfl (fun _ _ _ h => h) trivial (fun ρ w E H => ex_move E rfl rfl) ?_
      refine SxA.take (i := 1) rfl (by kernel_rfl) (by kernel_rfl) (by kernel_rfl) rfl rfl (fun _ _ _ h => h) trivial (fun ρ w E H => ex_move E rfl rfl) ?_
      refine SxA.take (i := 2) (v := .pointer (some ⟨g, 0, none⟩)) rfl (by kernel_rfl) (by kernel_rfl) (by kernel_rfl) rfl rfl (fun _ _ _ h => h) trivial (fun ρ w E H => ex_nilCheck E rfl rfl) ?_
      refine SxA.take (i := 3) (v := .pointer (some ⟨g, 7, none⟩)) rfl (by kernel_rfl) (by kernel_rfl) (by kernel_rfl) rfl rfl (fun _ _ _ h => h) trivial (fun ρ w E H => ex_field E rfl fa_palaver_api_Msg_6 rfl rfl) ?_
      refine SxA.take (i := 5) rfl (by kernel_rfl) (by kernel_rfl) (by kernel_rfl) rfl rfl (fun _ _ _ h => h) trivial (fun ρ w E H => ex_load (part := [.int .u64 (p18.1 : Int), .int .u64 (p20.1.n : Int), .int .u8 (p20.1.r : Int), .string ⟨p23.1.toArray⟩]) E (H.get (i := 0) rfl) rfl rfl Tryz.underlying92 rfl sz_palaver_api_Vote rfl rfl) ?_
      refine SxA.ready [4, 6] (by kernel_rfl) (by simp) ⟨?_, ?_, trivial⟩
      · refine SxO.val rfl trivial rfl rfl (fun ρ w E H => ex_load1 E (H.get (i := 3) rfl) rfl rfl Tryz.underlying25 rfl rfl) ?_
        refine SxA.ready [6] (by kernel_rfl) (by simp) ⟨?_, trivial⟩
        refine SxO.newS (cs := [.int .u64 (p18.1 : Int), .int .u64 (p20.1.n : Int), .int .u8 (p20.1.r : Int), .string ⟨p23.1.toArray⟩]) rfl trivial rfl rfl (fun ρ w E H => ex_buildSlice E rfl rfl Tryz.underlying25 sz_palaver_api_Vote zr_palaver_api_Vote rfl rfl (by kernel_rfl)) (fun g2 w hg2 H => H.ks (V.ownBlock.toList ++ [gr, g]) [1, 3] rfl ⟨(fun g hg => by rw [List.mem_singleton.1 hg]; exact .inr hg2), (fun g hg => by rw [List.mem_singleton.1 hg]; exact .inr hg1), (fun g hg => (hv1.in_ g hg).imp (fun h => by simp only [List.mem_append]; simp [h]) id), (fun g hg => by rw [List.mem_singleton.1 hg]; exact .inl (by simp)), (fun g hg => by rw [List.mem_singleton.1 hg]; exact .inl (by simp)), trivial⟩) fun g2 hg2 => ?_
        refine SxA.ready [7] (by kernel_rfl) (by simp) ⟨?_, trivial⟩
        refine SxO.append (i := 2) (news := [.int .u64 (p18.1 : Int), .int .u64 (p20.1.n : Int), .int .u8 (p20.1.r : Int), .string ⟨p23.1.toArray⟩]) rfl trivial rfl rfl rfl Tryz.underlying25 nf_palaver_api_Vote rfl rfl rfl rfl hv1 rfl (fun w H => reads_cell H (i := 0) rfl rfl) (one_list rfl) (by unfold maxLen; omega) (by omega) hbase (fun A32 k32 w hv32 H => H.ks (V.ownBlock.toList ++ [gr, g]) [1, 3] rfl ⟨(fun g hg => by rw [List.mem_singleton.1 hg]; exact .inr hg2), (fun g hg => by rw [List.mem_singleton.1 hg]; exact .inr hg1), (fun g hg => (hv32.in_ g hg).imp (fun h => by simp only [List.mem_append]; simp [h]) id), (fun g hg => by rw [List.mem_singleton.1 hg]; exact .inl (by simp)), (fun g hg => by rw [List.mem_singleton.1 hg]; exact .inl (by simp)), trivial⟩) fun A32 k32 hv32 => ?_
        refine SxA.take (i := 8) (v := .pointer (some ⟨g, 0, none⟩)) rfl (by kernel_rfl) (by kernel_rfl) (by kernel_rfl) rfl rfl (fun _ _ _ h => h) trivial (fun ρ w E H => ex_nilCheck E rfl rfl) ?_
        refine SxA.take (i := 9) (v := .pointer (some ⟨g, 7, none⟩)) rfl (by kernel_rfl) (by kernel_rfl) (by kernel_rfl) rfl rfl (fun _ _ _ h => h) trivial (fun ρ w E H => ex_field E rfl fa_palaver_api_Msg_6 rfl rfl) ?_
        refine SxA.ready [10] (by kernel_rfl) (by simp) ⟨?_, trivial⟩
        refine SxO.store (j := 4) rfl trivial rfl rfl rfl rfl rfl sz_api_Vote rfl rfl rfl (fun w H => H.ks (V.ownBlock.toList ++ [gr, g]) [1, 3] rfl ⟨(fun g hg => by rw [List.mem_singleton.1 hg]; exact .inr hg2), (fun g hg => by rw [List.mem_singleton.1 hg]; exact .inr hg1), (fun g hg => (hv32.in_ g hg).imp (fun h => by simp only [List.mem_append]; simp [h]) id), (fun g hg => by rw [List.mem_singleton.1 hg]; exact .inl (by simp)), (fun g hg => by rw [List.mem_singleton.1 hg]; exact .inl (by simp)), trivial⟩) ?_
        refine SxA.done (by kernel_rfl) ?_
        refine SxN.block (SxN.then_ (SxC.region ?_))
        refine SxL.val trivial rfl rfl (fun ρ w E H => ex_move E rfl rfl) ?_
        refine SxL.val (v := .int .u64 ((n - 1 : Nat) : Int)) trivial rfl rfl (fun ρ w E H => ex_sub E rfl rfl rfl (by rw [IntKind.wrap_u64]; omega)) ?_
        refine SxL.val trivial rfl rfl (fun ρ w E H => ex_assign E rfl rfl) ?_
        refine SxL.nil ?_
        refine SxN.hp (fun W H => H.re (i := 2) rfl (rowX V.ownBlock.toList base 92 4 (.slice A32 (w1.length + 1) k32) ((w1 ++ [(⟨p18.1, p20.1.n, p20.1.r, p23.1⟩ : Vo)]).length) ((w1 ++ [(⟨p18.1, p20.1.n, p20.1.r, p23.1⟩ : Vo)]).flatMap voL)) (rowX_loc _ _ _ _ _ _ _) rfl (fun h => own_as h (by simp) (by simp [voL]))) ?_
        refine SxN.back (gk - 1) (n - 1, p23.2, w1 ++ [(⟨p18.1, p20.1.n, p20.1.r, p23.1⟩ : Vo)], .slice A32 (w1.length + 1) k32) (by omega) ⟨by omega, by rw [hrel, tkV_step n r1 w1 hn0 he0]; simp only [hp18, hp20, hp23], hv32, by rw [List.length_append]; simp only [hp18, hp20, hp23] at hgr; exact hgr, by omega⟩ ⟨rfl, rfl, rfl, trivial⟩ [2, 3, 4] rfl (by decide) ⟨.inr (fun g hg => by rw [List.mem_singleton.1 hg]; exact hg2), .inr (fun g hg => by rw [List.mem_singleton.1 hg]; exact hg1), .inl rfl, .inl rfl, .inl rfl, trivial⟩
      · refine SxO.newS (cs := [.int .u64 (p18.1 : Int), .int .u64 (p20.1.n : Int), .int .u8 (p20.1.r : Int), .string ⟨p23.1.toArray⟩]) rfl trivial rfl rfl (fun ρ w E H => ex_buildSlice E rfl rfl Tryz.underlying25 sz_palaver_api_Vote zr_palaver_api_Vote rfl rfl (by kernel_rfl)) (fun g3 w hg3 H => H.ks (V.ownBlock.toList ++ [gr, g]) [1, 3] rfl ⟨(fun g hg => by rw [List.mem_singleton.1 hg]; exact .inr hg3), (fun g hg => by rw [List.mem_singleton.1 hg]; exact .inr hg1), (fun g hg => (hv1.in_ g hg).imp (fun h => by simp only [List.mem_append]; simp [h]) id), (fun g hg => by rw [List.mem_singleton.1 hg]; exact .inl (by simp)), (fun g hg => by rw [List.mem_singleton.1 hg]; exact .inl (by simp)), trivial⟩) fun g3 hg3 => ?_
        refine SxA.ready [4] (by kernel_rfl) (by simp) ⟨?_, trivial⟩
        refine SxO.val rfl trivial rfl rfl (fun ρ w E H => ex_load1 E (H.get (i := 4) rfl) rfl rfl Tryz.underlying25 rfl rfl) ?_
        refine SxA.ready [7] (by kernel_rfl) (by simp) ⟨?_, trivial⟩
        refine SxO.append (i := 2) (news := [.int .u64 (p18.1 : Int), .int .u64 (p20.1.n : Int), .int .u8 (p20.1.r : Int), .string ⟨p23.1.toArray⟩]) rfl trivial rfl rfl rfl Tryz.underlying25 nf_palaver_api_Vote rfl rfl rfl rfl hv1 rfl (fun w H => reads_cell H (i := 0) rfl rfl) (one_list rfl) (by unfold maxLen; omega) (by omega) hbase (fun A32 k32 w hv32 H => H.ks (V.ownBlock.toList ++ [gr, g]) [1, 3] rfl ⟨(fun g hg => by rw [List.mem_singleton.1 hg]; exact .inr hg3), (fun g hg => by rw [List.mem_singleton.1 hg]; exact .inr hg1), (fun g hg => (hv32.in_ g hg).imp (fun h => by simp only [List.mem_append]; simp [h]) id), (fun g hg => by rw [List.mem_singleton.1 hg]; exact .inl (by simp)), (fun g hg => by rw [List.mem_singleton.1 hg]; exact .inl (by simp)), trivial⟩) fun A32 k32 hv32 => ?_
        refine SxA.take (i := 8) (v := .pointer (some ⟨g, 0, none⟩)) rfl (by kernel_rfl) (by kernel_rfl) (by kernel_rfl) rfl rfl (fun _ _ _ h => h) trivial (fun ρ w E H => ex_nilCheck E rfl rfl) ?_
        refine SxA.take (i := 9) (v := .pointer (some ⟨g, 7, none⟩)) rfl (by kernel_rfl) (by kernel_rfl) (by kernel_rfl) rfl rfl (fun _ _ _ h => h) trivial (fun ρ w E H => ex_field E rfl fa_palaver_api_Msg_6 rfl rfl) ?_
        refine SxA.ready [10] (by kernel_rfl) (by simp) ⟨?_, trivial⟩
        refine SxO.store (j := 4) rfl trivial rfl rfl rfl rfl rfl sz_api_Vote rfl rfl rfl (fun w H => H.ks (V.ownBlock.toList ++ [gr, g]) [1, 3] rfl ⟨(fun g hg => by rw [List.mem_singleton.1 hg]; exact .inr hg3), (fun g hg => by rw [List.mem_singleton.1 hg]; exact .inr hg1), (fun g hg => (hv32.in_ g hg).imp (fun h => by simp only [List.mem_append]; simp [h]) id), (fun g hg => by rw [List.mem_singleton.1 hg]; exact .inl (by simp)), (fun g hg => by rw [List.mem_singleton.1 hg]; exact .inl (by simp)), trivial⟩) ?_
        refine SxA.done (by kernel_rfl) ?_
        refine SxN.block (SxN.then_ (SxC.region ?_))
        refine SxL.val trivial rfl rfl (fun ρ w E H => ex_move E rfl rfl) ?_
        refine SxL.val (v := .int .u64 ((n - 1 : Nat) : Int)) trivial rfl rfl (fun ρ w E H => ex_sub E rfl rfl rfl (by rw [IntKind.wrap_u64]; omega)) ?_
        refine SxL.val trivial rfl rfl (fun ρ w E H => ex_assign E rfl rfl) ?_
        refine SxL.nil ?_
        refine SxN.hp (fun W H => H.re (i := 2) rfl (rowX V.ownBlock.toList base 92 4 (.slice A32 (w1.length + 1) k32) ((w1 ++ [(⟨p18.1, p20.1.n, p20.1.r, p23.1⟩ : Vo)]).length) ((w1 ++ [(⟨p18.1, p20.1.n, p20.1.r, p23.1⟩ : Vo)]).flatMap voL)) (rowX_loc _ _ _ _ _ _ _) rfl (fun h => own_as h (by simp) (by simp [voL]))) ?_
        refine SxN.back (gk - 1) (n - 1, p23.2, w1 ++ [(⟨p18.1, p20.1.n, p20.1.r, p23.1⟩ : Vo)], .slice A32 (w1.length + 1) k32) (by omega) ⟨by omega, by rw [hrel, tkV_step n r1 w1 hn0 he0]; simp only [hp18, hp20, hp23], hv32, by rw [List.length_append]; simp only [hp18, hp20, hp23] at hgr; exact hgr, by omega⟩ ⟨rfl, rfl, rfl, trivial⟩ [2, 3, 4] rfl (by decide) ⟨.inr (fun g hg => by rw [List.mem_singleton.1 hg]; exact hg3), .inr (fun g hg => by rw [List.mem_singleton.1 hg]; exact hg1), .inl rfl, .inl rfl, .inl rfl, trivial⟩

set_option maxRecDepth 100000 in
set_option maxHeartbeats 4000000 in
theorem take_items (base gr : Nat) (r : Rd) (g xk xn xr xb xs xo da db dk dz xc : Nat) (xv ds dt du xt : List UInt8) (wl : List Vo) (jl : List Im) (V I : Value)  (w : World) (hr : Blk w gr 157 (rdC r)) (hg : Blk w g 33 (msL ⟨xk, xn, xr, xb, xs, xo, xv, wl, jl, ⟨da, db, dk, ds, dt, du, dz⟩, xc, xt⟩ V I).toArray) (hne : gr ≠ g) (hG0 : Grows r jl.length) (hbase : base ≤ w.heap.size) (hown : w.ownsRow base 94 2 I jl.length (jl.flatMap imL)) (hd1 : gr ∉ I.ownBlock.toList) (hd2 : g ∉ I.ownBlock.toList) : Calls Tryz.prog 157 #[.pointer (some ⟨gr, 0, none⟩), .pointer (some ⟨g, 0, none⟩)] w fun e w' => ∃ V', e = .returned (.tuple #[]) ∧ Blk w' gr 157 (rdC (Pt.take .items (⟨xk, xn, xr, xb, xs, xo, xv, wl, jl, ⟨da, db, dk, ds, dt, du, dz⟩, xc, xt⟩, r)).2) ∧ Blk w' g 33 (msL (Pt.take .items (⟨xk, xn, xr, xb, xs, xo, xv, wl, jl, ⟨da, db, dk, ds, dt, du, dz⟩, xc, xt⟩, r)).1 V V').toArray ∧ w'.ownsRow base 94 2 V' (Pt.take .items (⟨xk, xn, xr, xb, xs, xo, xv, wl, jl, ⟨da, db, dk, ds, dt, du, dz⟩, xc, xt⟩, r)).1.items.length ((Pt.take .items (⟨xk, xn, xr, xb, xs, xo, xv, wl, jl, ⟨da, db, dk, ds, dt, du, dz⟩, xc, xt⟩, r)).1.items.flatMap imL) ∧ OwnIn w I.ownBlock.toList V' ∧ Outs ([gr, g] ++ I.ownBlock.toList) w w' := by
  have hv0 : OwnIn w I.ownBlock.toList I := OwnIn.refl w I
  have hrl := hG0.h1
  refine sx_enter (n := 33) _ Tryz.func157 rfl rfl rfl (Hp.trio hr hg hne hown hd1 hd2) ?_
  refine SxC.seq (SxC.region ?_)
  refine SxL.val trivial rfl rfl (fun ρ w E H => ex_move E rfl rfl) ?_
  obtain ⟨p7, hp7⟩ : ∃ p, Rd.num r = p := ⟨_, rfl⟩
  refine SxL.call (σ := Unit) (fun _ => .int .u64 (p7.1 : Int)) (fun _ => True) (fun _ => _) trivial rfl rfl (fun ρ w E => ex_call E en_palaver_wire_Reader_Num rfl rfl) (callTurn (i := 1) (cell gr 157 [.int .i64 (p7.2.err : Int), .string ⟨p7.2.rest.toArray⟩]) rfl (cell_loc _ _ _) rfl (fun w H => (num_p hp7 (by have q0 := hrl; omega) w (H.get (i := 1) rfl)).mono fun _ _ h => turn_rd h)) fun _ _ => ?_
  refine SxL.val trivial rfl rfl (fun ρ w E H => ex_assign E rfl rfl) ?_
  refine SxL.nil (SxN.then_ (SxC.block ?_))
  refine SxC.loop4 (fun (n : Nat) (r1 : Rd) (w1 : List Im) (V1 : Value) => [(0, .pointer (some ⟨gr, 0, none⟩)), (1, .pointer (some ⟨g, 0, none⟩)), (4, .int .u64 (n : Int))]) (fun (n : Nat) (r1 : Rd) (w1 : List Im) (V1 : Value) => [rowX I.ownBlock.toList base 94 2 V1 w1.length (w1.flatMap imL), cell gr 157 [.int .i64 (r1.err : Int), .string ⟨r1.rest.toArray⟩], cell g 33 [.int .u8 (xk : Int), .int .u64 (xn : Int), .int .u8 (xr : Int), .int .u64 (xb : Int), .int .u64 (xs : Int), .int .u8 (xo : Int), .string ⟨xv.toArray⟩, V, V1, .int .u8 (da : Int), .int .u32 (db : Int), .int .u8 (dk : Int), .string ⟨ds.toArray⟩, .string ⟨dt.toArray⟩, .string ⟨du.toArray⟩, .int .u8 (dz : Int), .int .u8 (xc : Int), .string ⟨xt.toArray⟩]]) (fun (gk : Nat) (n : Nat) (r1 : Rd) (w1 : List Im) (V1 : Value) => n = gk ∧ tkI p7.1 p7.2 jl = tkI n r1 w1 ∧ OwnIn w I.ownBlock.toList V1 ∧ Grows r1 w1.length ∧ n < 18446744073709551616) p7.1 p7.1 p7.2 jl I ⟨rfl, rfl, OwnIn.refl w I, hp7 ▸ hG0.num, hp7 ▸ lt_num r⟩ ⟨rfl, rfl, rfl, trivial⟩ [0, 1, 2] rfl (by decide) ⟨.inl rfl, .inl rfl, .inl rfl, trivial⟩ fun gk n r1 w1 V1 hF => ?_
  obtain ⟨hkg, hrel, hv1, hG, hn64⟩ := hF
  refine SxC.seq (SxC.seq (SxC.region ?_))
  refine SxL.val trivial rfl rfl (fun ρ w E H => ex_move E rfl rfl) ?_
  refine SxL.valB trivial rfl rfl (fun ρ w E H => ex_cmp E rfl rfl rfl rfl rfl) fun c9 hc9 => ?_
  refine SxL.val trivial rfl rfl (fun ρ w E H => ex_move E rfl rfl) ?_
  cases c9
  · refine SxL.off ⟨_, _, _, rfl, rfl, rfl, nofun⟩ rfl rfl ?_
    iterate 2 refine SxL.off ⟨_, _, _, rfl, rfl, rfl, nofun⟩ rfl rfl ?_
    refine SxL.val trivial rfl rfl (fun ρ w E H => ex_pick E rfl (t := false) rfl rfl) ?_
    refine SxL.nil (SxN.then_ (SxC.condF rfl (SxC.exit (SxX.thenE (SxX.thenE (SxX.blockE ?_))))))
    refine SxN.done (.tuple #[]) (fun a w K H => res0 rfl) (fun w H => ?_)
    have hst : tkI p7.1 p7.2 jl = (r1, w1) := by
      rw [hrel]; refine tkI_stop n r1 w1 ?_
      first | (left; have h := hc9; simp [cmpB] at h; omega) | (right; have h := hc13; simp [cmpB] at h; omega)
    have hR : Blk w gr 157 (rdC r1) := H.get (i := 1) rfl
    have e1 : Pt.take .items (⟨xk, xn, xr, xb, xs, xo, xv, wl, jl, ⟨da, db, dk, ds, dt, du, dz⟩, xc, xt⟩, r) = (⟨xk, xn, xr, xb, xs, xo, xv, wl, w1, ⟨da, db, dk, ds, dt, du, dz⟩, xc, xt⟩, r1) := by simp only [Pt.take, hp7, hst]
    rw [e1]
    exact ⟨V1, rfl, hR, H.get (i := 2) rfl, H.get (i := 0) rfl, hv1, H.toOuts _ ⟨(fun g hg => (hv1.in_ g hg).imp (fun h => by simp [h]) id), (fun g hg => by rw [List.mem_singleton.1 hg]; exact .inl (by simp)), (fun g hg => by rw [List.mem_singleton.1 hg]; exact .inl (by simp)), trivial⟩⟩
  · refine SxL.val ⟨_, _, rfl, rfl, rfl⟩ rfl rfl (fun ρ w E H => ex_move E rfl rfl) ?_
    refine SxL.callB (v := .int .i64 (r1.err : Int)) ⟨_, _, rfl, rfl, rfl⟩ rfl rfl (fun ρ w E => ex_call E en_palaver_wire_Reader_Err rfl rfl) (fun w H => (err_any gr r1 w (H.get (i := 1) rfl)).mono fun _ _ h => ⟨h.1, h.2 ▸ Below.refl _ _⟩) ?_
    refine SxL.valB ⟨_, _, rfl, rfl, rfl⟩ rfl rfl (fun ρ w E H => ex_cmp E rfl rfl rfl rfl rfl) fun c13 hc13 => ?_
    refine SxL.val trivial rfl rfl (fun ρ w E H => ex_pick E rfl (t := true) rfl rfl) ?_
    refine SxL.nil (SxN.then_ ?_)
    cases c13
    · refine SxC.condF rfl (SxC.exit (SxX.thenE (SxX.thenE (SxX.blockE ?_))))
      refine SxN.done (.tuple #[]) (fun a w K H => res0 rfl) (fun w H => ?_)
      have hst : tkI p7.1 p7.2 jl = (r1, w1) := by
        rw [hrel]; refine tkI_stop n r1 w1 ?_
        first | (left; have h := hc9; simp [cmpB] at h; omega) | (right; have h := hc13; simp [cmpB] at h; omega)
      have hR : Blk w gr 157 (rdC r1) := H.get (i := 1) rfl
      have e1 : Pt.take .items (⟨xk, xn, xr, xb, xs, xo, xv, wl, jl, ⟨da, db, dk, ds, dt, du, dz⟩, xc, xt⟩, r) = (⟨xk, xn, xr, xb, xs, xo, xv, wl, w1, ⟨da, db, dk, ds, dt, du, dz⟩, xc, xt⟩, r1) := by simp only [Pt.take, hp7, hst]
      rw [e1]
      exact ⟨V1, rfl, hR, H.get (i := 2) rfl, H.get (i := 0) rfl, hv1, H.toOuts _ ⟨(fun g hg => (hv1.in_ g hg).imp (fun h => by simp [h]) id), (fun g hg => by rw [List.mem_singleton.1 hg]; exact .inl (by simp)), (fun g hg => by rw [List.mem_singleton.1 hg]; exact .inl (by simp)), trivial⟩⟩
    · refine SxC.condT rfl (SxC.skip (SxN.then_ (SxC.seq (SxC.block (SxC.seq ?_)))))
      have hn0 : 0 < n := by have := hc9; simp [cmpB] at this; omega
      have he0 : r1.err = 0 := by have := hc13; simp [cmpB] at this; omega
      have hgr := hG.item he0
      have hb1 := hG.h1
      have hb2 := hG.h2
      refine SxC.region ?_
      refine SxL.val trivial rfl rfl (fun ρ w E H => ex_move E rfl rfl) ?_
      obtain ⟨p18, hp18⟩ : ∃ p, Rd.num r1 = p := ⟨_, rfl⟩
      refine SxL.call (σ := Unit) (fun _ => .int .u64 (p18.1 : Int)) (fun _ => True) (fun _ => _) trivial rfl rfl (fun ρ w E => ex_call E en_palaver_wire_Reader_Num rfl rfl) (callTurn (i := 1) (cell gr 157 [.int .i64 (p18.2.err : Int), .string ⟨p18.2.rest.toArray⟩]) rfl (cell_loc _ _ _) rfl (fun w H => (num_p hp18 (by have q0 := hb1; omega) w (H.get (i := 1) rfl)).mono fun _ _ h => turn_rd h)) fun _ _ => ?_
      refine SxL.val trivial rfl rfl (fun ρ w E H => ex_build (cs := [.int .u64 (p18.1 : Int), .string ⟨[].toArray⟩]) E rfl rfl (by kernel_rfl)) ?_
      refine SxL.new (cs := [.int .u64 0, .string ⟨[].toArray⟩]) trivial rfl rfl (fun ρ w E H => ex_alloc rfl zr_palaver_api_Item rfl) fun g1 hg1 => ?_
      refine SxL.store (i := 0) trivial rfl rfl rfl rfl rfl sz_palaver_api_Item rfl rfl rfl ?_
      refine SxL.nil (SxN.then_ (SxC.seq (SxC.region ?_)))
      refine SxL.val trivial rfl rfl (fun ρ w E H => ex_move E rfl rfl) ?_
      obtain ⟨p21, hp21⟩ : ∃ p, Rd.str p18.2 65536 = p := ⟨_, rfl⟩
      refine SxL.call (σ := Unit) (fun _ => .string ⟨p21.1.toArray⟩) (fun _ => True) (fun _ => _) trivial rfl rfl (fun ρ w E => ex_call E en_palaver_wire_Reader_Str rfl rfl) (callTurn (i := 2) (cell gr 157 [.int .i64 (p21.2.err : Int), .string ⟨p21.2.rest.toArray⟩]) rfl (cell_loc _ _ _) rfl (fun w H => (str_p hp21 (by decide) (by decide) (by have q0 := hb1; have q1 := rp_num hp18; omega) w (H.get (i := 2) rfl)).mono fun _ _ h => turn_rd h)) fun _ _ => ?_
      refine SxL.val (v := .pointer (some ⟨g1, 1, none⟩)) trivial rfl rfl (fun ρ w E H => ex_field E rfl fa_palaver_api_Item_1 rfl rfl) ?_
      refine SxL.store (i := 0) trivial rfl rfl rfl rfl rfl sz_string rfl rfl rfl ?_
      refine SxL.nil (SxN.then_ ?_)
      refine SxC.drawnK (I.ownBlock.toList ++ [gr, g]) [0, 2] (by kernel_rfl) rfl ⟨(fun g hg => by rw [List.mem_singleton.1 hg]; exact .inr hg1), (fun g hg => (hv1.in_ g hg).imp (fun h => by simp only [List.mem_append]; simp [h]) id), (fun g hg => by rw [List.mem_singleton.1 hg]; exact .inl (by simp)), (fun g hg => by rw [List.mem_singleton.1 hg]; exact .inl (by simp)), trivial⟩ ?_
      refine SxA.take (i := 0) rfl (by kernel_rfl) (by kernel_rfl) (by kernel_rfl) rfl rfl (fun _ _ _ h => h) trivial (fun ρ w E H => ex_move E rfl rfl) ?_
      refine SxA.take (i := 1) rfl (by kernel_rfl) (by kernel_rfl) (by kernel_rfl) rfl rfl (fun _ _ _ h => h) trivial (fun ρ w E H => ex_move E rfl rfl) ?_
      refine SxA.take (i := 2) (v := .pointer (some ⟨g, 0, none⟩)) rfl (by kernel_rfl) (by kernel_rfl) (by kernel_rfl) rfl rfl (fun _ _ _ h => h) trivial (fun ρ w E H => ex_nilCheck E rfl rfl) ?_
      refine SxA.take (i := 3) (v := .pointer (some ⟨g, 8, none⟩)) rfl (by kernel_rfl) (by kernel_rfl) (by kernel_rfl) rfl rfl (fun _ _ _ h => h) trivial (fun ρ w E H => ex_field E rfl fa_palaver_api_Msg_7 rfl rfl) ?_
      refine SxA.take (i := 5) rfl (by kernel_rfl) (by kernel_rfl) (by kernel_rfl) rfl rfl (fun _ _ _ h => h) trivial (fun ρ w E H => ex_load (part := [.int .u64 (p18.1 : Int), .string ⟨p21.1.toArray⟩]) E (H.get (i := 0) rfl) rfl rfl Tryz.underlying94 rfl sz_palaver_api_Item rfl rfl) ?_
      refine SxA.ready [4, 6] (by kernel_rfl) (by simp) ⟨?_, ?_, trivial⟩
      · refine SxO.val rfl trivial rfl rfl (fun ρ w E H => ex_load1 E (H.get (i := 3) rfl) rfl rfl Tryz.underlying26 rfl rfl) ?_
        refine SxA.ready [6] (by kernel_rfl) (by simp) ⟨?_, trivial⟩
        refine SxO.newS (cs := [.int .u64 (p18.1 : Int), .string ⟨p21.1.toArray⟩]) rfl trivial rfl rfl (fun ρ w E H => ex_buildSlice E rfl rfl Tryz.underlying26 sz_palaver_api_Item zr_palaver_api_Item rfl rfl (by kernel_rfl)) (fun g2 w hg2 H => H.ks (I.ownBlock.toList ++ [gr, g]) [1, 3] rfl ⟨(fun g hg => by rw [List.mem_singleton.1 hg]; exact .inr hg2), (fun g hg => by rw [List.mem_singleton.1 hg]; exact .inr hg1), (fun g hg => (hv1.in_ g hg).imp (fun h => by simp only [List.mem_append]; simp [h]) id), (fun g hg => by rw [List.mem_singleton.1 hg]; exact .inl (by simp)), (fun g hg => by rw [List.mem_singleton.1 hg]; exact .inl (by simp)), trivial⟩) fun g2 hg2 => ?_
        refine SxA.ready [7] (by kernel_rfl) (by simp) ⟨?_, trivial⟩
        refine SxO.append (i := 2) (news := [.int .u64 (p18.1 : Int), .string ⟨p21.1.toArray⟩]) rfl trivial rfl rfl rfl Tryz.underlying26 nf_palaver_api_Item rfl rfl rfl rfl hv1 rfl (fun w H => reads_cell H (i := 0) rfl rfl) (one_list rfl) (by unfold maxLen; omega) (by omega) hbase (fun A30 k30 w hv30 H => H.ks (I.ownBlock.toList ++ [gr, g]) [1, 3] rfl ⟨(fun g hg => by rw [List.mem_singleton.1 hg]; exact .inr hg2), (fun g hg => by rw [List.mem_singleton.1 hg]; exact .inr hg1), (fun g hg => (hv30.in_ g hg).imp (fun h => by simp only [List.mem_append]; simp [h]) id), (fun g hg => by rw [List.mem_singleton.1 hg]; exact .inl (by simp)), (fun g hg => by rw [List.mem_singleton.1 hg]; exact .inl (by simp)), trivial⟩) fun A30 k30 hv30 => ?_
        refine SxA.take (i := 8) (v := .pointer (some ⟨g, 0, none⟩)) rfl (by kernel_rfl) (by kernel_rfl) (by kernel_rfl) rfl rfl (fun _ _ _ h => h) trivial (fun ρ w E H => ex_nilCheck E rfl rfl) ?_
        refine SxA.take (i := 9) (v := .pointer (some ⟨g, 8, none⟩)) rfl (by kernel_rfl) (by kernel_rfl) (by kernel_rfl) rfl rfl (fun _ _ _ h => h) trivial (fun ρ w E H => ex_field E rfl fa_palaver_api_Msg_7 rfl rfl) ?_
        refine SxA.ready [10] (by kernel_rfl) (by simp) ⟨?_, trivial⟩
        refine SxO.store (j := 4) rfl trivial rfl rfl rfl rfl rfl sz_api_Item rfl rfl rfl (fun w H => H.ks (I.ownBlock.toList ++ [gr, g]) [1, 3] rfl ⟨(fun g hg => by rw [List.mem_singleton.1 hg]; exact .inr hg2), (fun g hg => by rw [List.mem_singleton.1 hg]; exact .inr hg1), (fun g hg => (hv30.in_ g hg).imp (fun h => by simp only [List.mem_append]; simp [h]) id), (fun g hg => by rw [List.mem_singleton.1 hg]; exact .inl (by simp)), (fun g hg => by rw [List.mem_singleton.1 hg]; exact .inl (by simp)), trivial⟩) ?_
        refine SxA.done (by kernel_rfl) ?_
        refine SxN.block (SxN.then_ (SxC.region ?_))
        refine SxL.val trivial rfl rfl (fun ρ w E H => ex_move E rfl rfl) ?_
        refine SxL.val (v := .int .u64 ((n - 1 : Nat) : Int)) trivial rfl rfl (fun ρ w E H => ex_sub E rfl rfl rfl (by rw [IntKind.wrap_u64]; omega)) ?_
        refine SxL.val trivial rfl rfl (fun ρ w E H => ex_assign E rfl rfl) ?_
        refine SxL.nil ?_
        refine SxN.hp (fun W H => H.re (i := 2) rfl (rowX I.ownBlock.toList base 94 2 (.slice A30 (w1.length + 1) k30) ((w1 ++ [(⟨p18.1, p21.1⟩ : Im)]).length) ((w1 ++ [(⟨p18.1, p21.1⟩ : Im)]).flatMap imL)) (rowX_loc _ _ _ _ _ _ _) rfl (fun h => own_as h (by simp) (by simp [imL]))) ?_
        refine SxN.back (gk - 1) (n - 1, p21.2, w1 ++ [(⟨p18.1, p21.1⟩ : Im)], .slice A30 (w1.length + 1) k30) (by omega) ⟨by omega, by rw [hrel, tkI_step n r1 w1 hn0 he0]; simp only [hp18, hp21], hv30, by rw [List.length_append]; simp only [hp18, hp21] at hgr; exact hgr, by omega⟩ ⟨rfl, rfl, rfl, trivial⟩ [2, 3, 4] rfl (by decide) ⟨.inr (fun g hg => by rw [List.mem_singleton.1 hg]; exact hg2), .inr (fun g hg => by rw [List.mem_singleton.1 hg]; exact hg1), .inl rfl, .inl rfl, .inl rfl, trivial⟩
      · refine SxO.newS (cs := [.int .u64 (p18.1 : Int), .string ⟨p21.1.toArray⟩]) rfl trivial rfl rfl (fun ρ w E H => ex_buildSlice E rfl rfl Tryz.underlying26 sz_palaver_api_Item zr_palaver_api_Item rfl rfl (by kernel_rfl)) (fun g3 w hg3 H => H.ks (I.ownBlock.toList ++ [gr, g]) [1, 3] rfl ⟨(fun g hg => by rw [List.mem_singleton.1 hg]; exact .inr hg3), (fun g hg => by rw [List.mem_singleton.1 hg]; exact .inr hg1), (fun g hg => (hv1.in_ g hg).imp (fun h => by simp only [List.mem_append]; simp [h]) id), (fun g hg => by rw [List.mem_singleton.1 hg]; exact .inl (by simp)), (fun g hg => by rw [List.mem_singleton.1 hg]; exact .inl (by simp)), trivial⟩) fun g3 hg3 => ?_
        refine SxA.ready [4] (by kernel_rfl) (by simp) ⟨?_, trivial⟩
        refine SxO.val rfl trivial rfl rfl (fun ρ w E H => ex_load1 E (H.get (i := 4) rfl) rfl rfl Tryz.underlying26 rfl rfl) ?_
        refine SxA.ready [7] (by kernel_rfl) (by simp) ⟨?_, trivial⟩
        refine SxO.append (i := 2) (news := [.int .u64 (p18.1 : Int), .string ⟨p21.1.toArray⟩]) rfl trivial rfl rfl rfl Tryz.underlying26 nf_palaver_api_Item rfl rfl rfl rfl hv1 rfl (fun w H => reads_cell H (i := 0) rfl rfl) (one_list rfl) (by unfold maxLen; omega) (by omega) hbase (fun A30 k30 w hv30 H => H.ks (I.ownBlock.toList ++ [gr, g]) [1, 3] rfl ⟨(fun g hg => by rw [List.mem_singleton.1 hg]; exact .inr hg3), (fun g hg => by rw [List.mem_singleton.1 hg]; exact .inr hg1), (fun g hg => (hv30.in_ g hg).imp (fun h => by simp only [List.mem_append]; simp [h]) id), (fun g hg => by rw [List.mem_singleton.1 hg]; exact .inl (by simp)), (fun g hg => by rw [List.mem_singleton.1 hg]; exact .inl (by simp)), trivial⟩) fun A30 k30 hv30 => ?_
        refine SxA.take (i := 8) (v := .pointer (some ⟨g, 0, none⟩)) rfl (by kernel_rfl) (by kernel_rfl) (by kernel_rfl) rfl rfl (fun _ _ _ h => h) trivial (fun ρ w E H => ex_nilCheck E rfl rfl) ?_
        refine SxA.take (i := 9) (v := .pointer (some ⟨g, 8, none⟩)) rfl (by kernel_rfl) (by kernel_rfl) (by kernel_rfl) rfl rfl (fun _ _ _ h => h) trivial (fun ρ w E H => ex_field E rfl fa_palaver_api_Msg_7 rfl rfl) ?_
        refine SxA.ready [10] (by kernel_rfl) (by simp) ⟨?_, trivial⟩
        refine SxO.store (j := 4) rfl trivial rfl rfl rfl rfl rfl sz_api_Item rfl rfl rfl (fun w H => H.ks (I.ownBlock.toList ++ [gr, g]) [1, 3] rfl ⟨(fun g hg => by rw [List.mem_singleton.1 hg]; exact .inr hg3), (fun g hg => by rw [List.mem_singleton.1 hg]; exact .inr hg1), (fun g hg => (hv30.in_ g hg).imp (fun h => by simp only [List.mem_append]; simp [h]) id), (fun g hg => by rw [List.mem_singleton.1 hg]; exact .inl (by simp)), (fun g hg => by rw [List.mem_singleton.1 hg]; exact .inl (by simp)), trivial⟩) ?_
        refine SxA.done (by kernel_rfl) ?_
        refine SxN.block (SxN.then_ (SxC.region ?_))
        refine SxL.val trivial rfl rfl (fun ρ w E H => ex_move E rfl rfl) ?_
        refine SxL.val (v := .int .u64 ((n - 1 : Nat) : Int)) trivial rfl rfl (fun ρ w E H => ex_sub E rfl rfl rfl (by rw [IntKind.wrap_u64]; omega)) ?_
        refine SxL.val trivial rfl rfl (fun ρ w E H => ex_assign E rfl rfl) ?_
        refine SxL.nil ?_
        refine SxN.hp (fun W H => H.re (i := 2) rfl (rowX I.ownBlock.toList base 94 2 (.slice A30 (w1.length + 1) k30) ((w1 ++ [(⟨p18.1, p21.1⟩ : Im)]).length) ((w1 ++ [(⟨p18.1, p21.1⟩ : Im)]).flatMap imL)) (rowX_loc _ _ _ _ _ _ _) rfl (fun h => own_as h (by simp) (by simp [imL]))) ?_
        refine SxN.back (gk - 1) (n - 1, p21.2, w1 ++ [(⟨p18.1, p21.1⟩ : Im)], .slice A30 (w1.length + 1) k30) (by omega) ⟨by omega, by rw [hrel, tkI_step n r1 w1 hn0 he0]; simp only [hp18, hp21], hv30, by rw [List.length_append]; simp only [hp18, hp21] at hgr; exact hgr, by omega⟩ ⟨rfl, rfl, rfl, trivial⟩ [2, 3, 4] rfl (by decide) ⟨.inr (fun g hg => by rw [List.mem_singleton.1 hg]; exact hg3), .inr (fun g hg => by rw [List.mem_singleton.1 hg]; exact hg1), .inl rfl, .inl rfl, .inl rfl, trivial⟩
end Go.Proofs.YteiaiilfekojfaaGreat.Msg
end
section
set_option linter.unusedVariables false
set_option linter.unusedSimpArgs false
namespace Go.Proofs.YteiaiilfekojfaaGreat.Msg
open Go.RowKit Wire Sx DrawInv

def Pt.cap : Pt → Nat → List Value
  | .slot _, g => [.pointer (some ⟨g, 0, none⟩)]
  | _, _ => []
def Pt.caps : Pt → Nat → List Nat
  | .slot _, g => [g]
  | _, _ => []
def CapOk (w : World) : Pt → Nat → Prop
  | .slot l, g => Blk w g 22 #[.int .u64 (l : Int)]
  | _, _ => True
def ptL (p : Pt) (g : Nat) : List Value := [.func (.func p.putF) #[] #[], .func (.func p.takeF) #[] #[], .func (.func p.moveF) #[] #[], .func (.func p.mayF) #[] (p.cap g).toArray]
def ptsL (q : List (Pt × Nat)) : List Value := q.flatMap fun x => ptL x.1 x.2
def capsOf (q : List (Pt × Nat)) : List Nat := q.flatMap fun x => x.1.caps x.2
/-- The parts of a kind, in memory. -/
def PartsAt (w : World) (gb : Nat) (q : List (Pt × Nat)) : Prop := (q ≠ [] → Blk w gb 101 (ptsL q).toArray) ∧ ∀ x ∈ q, CapOk w x.1 x.2
def partsF (gb : Nat) (q : List (Pt × Nat)) : Ft := ⟨(if q = [] then [] else [gb]) ++ capsOf q, fun w => PartsAt w gb q⟩
theorem caps_loc {w w' : World} {p : Pt} {g : Nat} (h : ∀ b ∈ p.caps g, w'.heap[b]? = w.heap[b]?) (hc : CapOk w p g) : CapOk w' p g := by
  cases p with
  | slot l => exact (h g (List.mem_singleton.2 rfl)).trans hc
  | _ => trivial
theorem partsF_loc (gb : Nat) (q : List (Pt × Nat)) : (partsF gb q).Loc := by
  intro w w' h hp
  refine ⟨fun hq => ?_, fun x hx => caps_loc (fun b hb => h b ?_) (hp.2 x hx)⟩
  · refine (h gb ?_).trans (hp.1 hq)
    simp [partsF, hq]
  · exact List.mem_append.2 (.inr (List.mem_flatMap.2 ⟨x, hx, hb⟩))
theorem parts_row {w : World} {gb : Nat} {q : List (Pt × Nat)} (h : (partsF gb q).φ w) {k : Nat} {p : Pt} {gc : Nat} (hk : q[k]? = some (p, gc)) : RowAt w ((⟨gb, 0, none⟩ : Addr).add (k * 4)) (ptL p gc) := by
  intro j v hj
  have hne : q ≠ [] := by rintro rfl; cases hk
  have hb := (h.1 hne).cell (k * 4 + j)
  rw [add_add, add_none, Nat.zero_add, hb]
  have hj4 : j < 4 := (List.getElem?_eq_some_iff.1 hj).1
  have := flat_get (cells := fun x : Pt × Nat => ptL x.1 x.2) (sz := 4) (fun _ => rfl) q k j hj4
  rw [hk] at this
  simpa [ptsL, this] using hj
theorem parts_cap {w : World} {gb : Nat} {q : List (Pt × Nat)} (h : (partsF gb q).φ w) {k : Nat} {p : Pt} {gc : Nat} (hk : q[k]? = some (p, gc)) : CapOk w p gc := h.2 _ (List.mem_of_getElem? hk)
set_option maxRecDepth 100000 in
theorem enters_may (p : Pt) : Enters Tryz.prog p.mayF := by
  cases p with
  | cmd => exact enters_of Tryz.func115 (by kernel_rfl) rfl
  | name => exact enters_of Tryz.func120 (by kernel_rfl) rfl
  | reply => exact enters_of Tryz.func126 (by kernel_rfl) rfl
  | node => exact enters_of Tryz.func130 (by kernel_rfl) rfl
  | turn => exact enters_of Tryz.func136 (by kernel_rfl) rfl
  | floor => exact enters_of Tryz.func146 (by kernel_rfl) rfl
  | slot _ => exact enters_of Tryz.func142 (by kernel_rfl) rfl
  | value => exact enters_of Tryz.func155 (by kernel_rfl) rfl
  | votes => exact enters_of Tryz.func151 (by kernel_rfl) rfl
  | items => exact enters_of Tryz.func160 (by kernel_rfl) rfl
set_option maxRecDepth 100000 in
theorem enters_put (p : Pt) : Enters Tryz.prog p.putF := by
  cases p with
  | cmd => exact enters_of Tryz.func110 (by kernel_rfl) rfl
  | name => exact enters_of Tryz.func117 (by kernel_rfl) rfl
  | reply => exact enters_of Tryz.func121 (by kernel_rfl) rfl
  | node => exact enters_of Tryz.func127 (by kernel_rfl) rfl
  | turn => exact enters_of Tryz.func131 (by kernel_rfl) rfl
  | floor => exact enters_of Tryz.func143 (by kernel_rfl) rfl
  | slot _ => exact enters_of Tryz.func138 (by kernel_rfl) rfl
  | value => exact enters_of Tryz.func152 (by kernel_rfl) rfl
  | votes => exact enters_of Tryz.func147 (by kernel_rfl) rfl
  | items => exact enters_of Tryz.func156 (by kernel_rfl) rfl
set_option maxRecDepth 100000 in
theorem enters_take (p : Pt) : Enters Tryz.prog p.takeF := by
  cases p with
  | cmd => exact enters_of Tryz.func112 (by kernel_rfl) rfl
  | name => exact enters_of Tryz.func118 (by kernel_rfl) rfl
  | reply => exact enters_of Tryz.func123 (by kernel_rfl) rfl
  | node => exact enters_of Tryz.func128 (by kernel_rfl) rfl
  | turn => exact enters_of Tryz.func133 (by kernel_rfl) rfl
  | floor => exact enters_of Tryz.func144 (by kernel_rfl) rfl
  | slot _ => exact enters_of Tryz.func139 (by kernel_rfl) rfl
  | value => exact enters_of Tryz.func153 (by kernel_rfl) rfl
  | votes => exact enters_of Tryz.func148 (by kernel_rfl) rfl
  | items => exact enters_of Tryz.func157 (by kernel_rfl) rfl
set_option maxRecDepth 100000 in
theorem enters_move (p : Pt) : Enters Tryz.prog p.moveF := by
  cases p with
  | cmd => exact enters_of Tryz.func114 (by kernel_rfl) rfl
  | name => exact enters_of Tryz.func119 (by kernel_rfl) rfl
  | reply => exact enters_of Tryz.func125 (by kernel_rfl) rfl
  | node => exact enters_of Tryz.func129 (by kernel_rfl) rfl
  | turn => exact enters_of Tryz.func135 (by kernel_rfl) rfl
  | floor => exact enters_of Tryz.func145 (by kernel_rfl) rfl
  | slot _ => exact enters_of Tryz.func141 (by kernel_rfl) rfl
  | value => exact enters_of Tryz.func154 (by kernel_rfl) rfl
  | votes => exact enters_of Tryz.func149 (by kernel_rfl) rfl
  | items => exact enters_of Tryz.func158 (by kernel_rfl) rfl
def msV (m : Ms) (A : Option Addr) (ka : Nat) (B : Option Addr) (kb : Nat) : Value := .agg (msL m (.slice A m.votes.length ka) (.slice B m.items.length kb)).toArray
/-- A message's lists can be read. -/
structure MsRows (w : World) (m : Ms) (A B : Option Addr) : Prop where
  hv : Rows w A 4 voL m.votes
  hi : Rows w B 2 imL m.items
theorem MsRows.below {w w' : World} {m : Ms} {A B : Option Addr} (h : MsRows w m A B) (hb : Below w.heap.size w w') : MsRows w' m A B := ⟨h.hv.below hb, h.hi.below hb⟩
theorem may_all (p : Pt) (m : Ms) (hf : m.Fits) (hs : m.Small) (A B : Option Addr) (ka kb gc : Nat) (w : World) (hr : MsRows w m A B) (hc : CapOk w p gc) :
    Calls Tryz.prog p.mayF (msV m A ka B kb :: p.cap gc).toArray w fun e w' => e = .returned (.bool (p.may m)) ∧ Below w.heap.size w w' := by
  obtain ⟨hv, hi⟩ := hr
  have h2 := hs.h2
  have h3 := hs.h3
  obtain ⟨mk, mn, mr, mb, ms, mo, mv, vl, il, ⟨ca, cb, ck, cs, ct, cu, cz⟩, mc, mt⟩ := m
  dsimp only at h2 h3
  cases p with
  | cmd => exact may_cmd _ _ _ _ _ _ _ _ _ _ _ _ _ _ _ _ _ _ _ _ _ _ w hf.h9
  | name => exact may_name _ _ _ _ _ _ _ _ _ _ _ _ _ _ _ _ _ _ _ _ _ _ w
  | reply => exact may_reply _ _ _ _ _ _ _ _ _ _ _ _ _ _ _ _ _ _ _ _ _ _ w
  | node => exact may_node _ _ _ _ _ _ _ _ _ _ _ _ _ _ _ _ _ _ _ _ _ _ w
  | turn => exact may_turn _ _ _ _ _ _ _ _ _ _ _ _ _ _ _ _ _ _ _ _ _ _ w
  | floor => exact may_floor _ _ _ _ _ _ _ _ _ _ _ _ _ _ _ _ _ _ _ _ _ _ w
  | slot l => exact may_slot _ _ _ _ _ _ _ _ _ _ _ _ _ _ _ _ _ _ _ _ _ _ _ _ w hc
  | value => exact may_value _ _ _ _ _ _ _ _ _ _ _ _ _ _ _ _ _ _ _ _ _ _ w
  | votes => exact may_votes _ _ _ _ _ _ _ _ _ _ _ _ _ _ _ _ _ _ _ _ _ _ w hv (Nat.le_trans h2 (by decide))
  | items => exact may_items _ _ _ _ _ _ _ _ _ _ _ _ _ _ _ _ _ _ _ _ _ _ w hi (Nat.le_trans h3 (by decide))
theorem put_all (p : Pt) (m : Ms) (hf : m.Fits) (hs : m.Small) (A B : Option Addr) (ka kb : Nat) (base : Nat) (v : Value) (l : List UInt8) (w : World) (hr : MsRows w m A B) (hl : l.length ≤ 1000000) (hbase : base ≤ w.heap.size) (hown : w.ownsRow base 5 1 v l.length (bv l))
    (hA : m.votes ≠ [] → ∀ ad, A = some ad → ad.block < base) (hB : m.items ≠ [] → ∀ ad, B = some ad → ad.block < base) : Calls Tryz.prog p.putF #[v, msV m A ka B kb] w fun e w' => PutRet base v w (l ++ p.put m) e w' := by
  obtain ⟨hv, hi⟩ := hr
  obtain ⟨mk, mn, mr, mb, ms, mo, mv, vl, il, ⟨ca, cb, ck, cs, ct, cu, cz⟩, mc, mt⟩ := m
  cases p with
  | cmd => exact put_cmd _ _ _ _ _ _ _ _ _ _ _ _ _ _ _ _ _ _ _ _ _ _ _ _ _ w hf hs hl hbase hown
  | name => exact put_name _ _ _ _ _ _ _ _ _ _ _ _ _ _ _ _ _ _ _ _ _ _ _ _ _ w hf hs hl hbase hown
  | reply => exact put_reply _ _ _ _ _ _ _ _ _ _ _ _ _ _ _ _ _ _ _ _ _ _ _ _ _ w hf hs hl hbase hown
  | node => exact put_node _ _ _ _ _ _ _ _ _ _ _ _ _ _ _ _ _ _ _ _ _ _ _ _ _ w hf hs hl hbase hown
  | turn => exact put_turn _ _ _ _ _ _ _ _ _ _ _ _ _ _ _ _ _ _ _ _ _ _ _ _ _ w hf hs hl hbase hown
  | floor => exact put_floor _ _ _ _ _ _ _ _ _ _ _ _ _ _ _ _ _ _ _ _ _ _ _ _ _ w hf hs hl hbase hown
  | slot x => exact put_slot _ _ _ _ _ _ _ _ _ _ _ _ _ _ _ _ _ _ _ _ _ x _ _ _ _ w hf hs hl hbase hown
  | value => exact put_value _ _ _ _ _ _ _ _ _ _ _ _ _ _ _ _ _ _ _ _ _ _ _ _ _ w hf hs hl hbase hown
  | votes => exact put_votes _ _ _ _ _ _ _ _ _ _ _ _ _ _ _ _ _ _ _ _ _ _ _ _ _ w hf hs hl hbase hown hv hA
  | items => exact put_items _ _ _ _ _ _ _ _ _ _ _ _ _ _ _ _ _ _ _ _ _ _ _ _ _ w hf hs hl hbase hown hi hB
/-- A message being made: its lists are rows of its own. -/
def Made (base g : Nat) (a : Ms) (V I : Value) (w : World) : Prop := Blk w g 33 (msL a V I).toArray ∧ w.ownsRow base 92 4 V a.votes.length (a.votes.flatMap voL) ∧ w.ownsRow base 94 2 I a.items.length (a.items.flatMap imL)
theorem own_kept {w w' : World} {base e sz n : Nat} {v : Value} {xs : List Value} {G : List Nat} (h : w.ownsRow base e sz v n xs) (ho : Outs G w w') (hd : ∀ g ∈ v.ownBlock.toList, g ∉ G) : w'.ownsRow base e sz v n xs :=
  rowX_loc [] base e sz v n xs w w' (fun g hg => ho.block g (own_lt h g (by simpa [rowX] using hg)).2 (hd g (by simpa [rowX] using hg))) h
theorem own_blk {w : World} {base e sz n g t : Nat} {v : Value} {xs : List Value} {cs : Array Value} (h : w.ownsRow base e sz v n xs) (hb : Blk w g t cs) (hne : e ≠ t) : g ∉ v.ownBlock.toList := by
  intro hg
  rcases h.2 with ⟨rfl, _⟩ | ⟨g', cap, cur, rfl, _, hh, _⟩
  · cases hg
  · have : g = g' := by simpa [Value.ownBlock] using hg
    subst this
    have hb : w.heap[g]? = some (.cells cs t (0, 0)) := hb
    rw [hh] at hb
    injection hb with hb
    injection hb with h1 h2
    exact hne h2
theorem own_own {w : World} {b1 b2 e1 e2 s1 s2 n1 n2 : Nat} {v1 v2 : Value} {x1 x2 : List Value} (h1 : w.ownsRow b1 e1 s1 v1 n1 x1) (h2 : w.ownsRow b2 e2 s2 v2 n2 x2) (hne : e1 ≠ e2) : ∀ g ∈ v1.ownBlock.toList, g ∉ v2.ownBlock.toList := by
  intro g hg
  rcases h1.2 with ⟨rfl, _⟩ | ⟨g', cap, cur, rfl, _, hh, _⟩
  · cases hg
  · have : g = g' := by simpa [Value.ownBlock] using hg
    subst this
    exact own_blk h2 hh (fun e => hne e.symm)
/-- What moving or taking a part does to a message being made. -/
theorem move_all (p : Pt) (m : Ms) (hs : m.Small) (A B : Option Addr) (ka kb : Nat) (base g : Nat) (a : Ms) (V I : Value) (w : World) (hr : MsRows w m A B) (hM : Made base g a V I w) (hb : base ≤ w.heap.size) (hA : m.votes ≠ [] → ∀ ad, A = some ad → ad.block ≠ g) (hB : m.items ≠ [] → ∀ ad, B = some ad → ad.block ≠ g) :
    Calls Tryz.prog p.moveF #[.pointer (some ⟨g, 0, none⟩), msV m A ka B kb] w fun e w' => ∃ V' I', e = .returned (.tuple #[]) ∧ Made base g (p.move a m) V' I' w' ∧ (OwnIn w V.ownBlock.toList V' ∧ OwnIn w I.ownBlock.toList I') ∧ Outs [g] w w' := by
  obtain ⟨hv, hi⟩ := hr
  obtain ⟨hg, hV, hI⟩ := hM
  have d1 := own_blk hV hg (by decide)
  have d2 := own_blk hI hg (by decide)
  have h2 := hs.h2
  have h3 := hs.h3
  obtain ⟨mk, mn, mr, mb, ms, mo, mv, vl, il, ⟨ca, cb, ck, cs, ct, cu, cz⟩, mc, mt⟩ := m
  obtain ⟨xk, xn, xr, xb, xs, xo, xv, wl, jl, ⟨da, db, dk, ds, dt, du, dz⟩, xc, xt⟩ := a
  dsimp only at h2 h3
  have hkV : ∀ w', Outs [g] w w' → w'.ownsRow base 92 4 V wl.length (wl.flatMap voL) := fun w' ho => own_kept hV ho fun b hb hm => d1 (by rw [List.mem_singleton.1 hm] at hb; exact hb)
  have hkI : ∀ w', Outs [g] w w' → w'.ownsRow base 94 2 I jl.length (jl.flatMap imL) := fun w' ho => own_kept hI ho fun b hb hm => d2 (by rw [List.mem_singleton.1 hm] at hb; exact hb)
  have same : ∀ {e : Ending} {w' : World} {a' : Ms}, a'.votes = wl → a'.items = jl → e = .returned (.tuple #[]) ∧ Blk w' g 33 (msL a' V I).toArray ∧ Outs [g] w w' → ∃ V' I', e = .returned (.tuple #[]) ∧ Made base g a' V' I' w' ∧ (OwnIn w V.ownBlock.toList V' ∧ OwnIn w I.ownBlock.toList I') ∧ Outs [g] w w' := by
    intro e w' a' e1 e2 ⟨r1, r2, r3⟩
    exact ⟨V, I, r1, ⟨r2, by rw [e1]; exact hkV w' r3, by rw [e2]; exact hkI w' r3⟩, ⟨OwnIn.refl w V, OwnIn.refl w I⟩, r3⟩
  cases p with
  | cmd => exact (move_cmd _ _ _ _ _ _ _ _ _ _ _ _ _ _ _ _ _ _ _ _ _ _ _ _ _ _ _ _ _ _ _ _ _ _ _ _ _ _ _ _ _ _ _ w hg).mono fun _ _ h => same rfl rfl h
  | name => exact (move_name _ _ _ _ _ _ _ _ _ _ _ _ _ _ _ _ _ _ _ _ _ _ _ _ _ _ _ _ _ _ _ _ _ _ _ _ _ _ _ _ _ _ _ w hg).mono fun _ _ h => same rfl rfl h
  | reply => exact (move_reply _ _ _ _ _ _ _ _ _ _ _ _ _ _ _ _ _ _ _ _ _ _ _ _ _ _ _ _ _ _ _ _ _ _ _ _ _ _ _ _ _ _ _ w hg).mono fun _ _ h => same rfl rfl h
  | node => exact (move_node _ _ _ _ _ _ _ _ _ _ _ _ _ _ _ _ _ _ _ _ _ _ _ _ _ _ _ _ _ _ _ _ _ _ _ _ _ _ _ _ _ _ _ w hg).mono fun _ _ h => same rfl rfl h
  | turn => exact (move_turn _ _ _ _ _ _ _ _ _ _ _ _ _ _ _ _ _ _ _ _ _ _ _ _ _ _ _ _ _ _ _ _ _ _ _ _ _ _ _ _ _ _ _ w hg).mono fun _ _ h => same rfl rfl h
  | floor => exact (move_floor _ _ _ _ _ _ _ _ _ _ _ _ _ _ _ _ _ _ _ _ _ _ _ _ _ _ _ _ _ _ _ _ _ _ _ _ _ _ _ _ _ _ _ w hg).mono fun _ _ h => same rfl rfl h
  | slot l => exact (move_slot _ _ _ _ _ _ _ _ _ _ _ _ _ _ _ _ _ _ _ _ _ _ _ _ _ _ _ _ _ _ _ _ _ _ _ _ _ _ _ l _ _ _ _ w hg).mono fun _ _ h => same rfl rfl h
  | value => exact (move_value _ _ _ _ _ _ _ _ _ _ _ _ _ _ _ _ _ _ _ _ _ _ _ _ _ _ _ _ _ _ _ _ _ _ _ _ _ _ _ _ _ _ _ w hg).mono fun _ _ h => same rfl rfl h
  | votes =>
    refine (move_votes _ _ _ _ _ _ _ _ _ _ _ _ _ _ _ _ _ _ _ _ _ _ _ _ _ _ _ _ _ _ _ _ _ _ _ _ _ _ _ _ _ _ _ w hg hv hA (Nat.le_trans h2 (by decide))).mono fun e w' h => ?_
    obtain ⟨V', r1, r2, r3, r4⟩ := h
    exact ⟨V', I, r1, ⟨r2, own_base r3 hb, hkI w' r4⟩, ⟨fun b hb => .inr (own_lt r3 b hb).1, OwnIn.refl w I⟩, r4⟩
  | items =>
    refine (move_items _ _ _ _ _ _ _ _ _ _ _ _ _ _ _ _ _ _ _ _ _ _ _ _ _ _ _ _ _ _ _ _ _ _ _ _ _ _ _ _ _ _ _ w hg hi hB (Nat.le_trans h3 (by decide))).mono fun e w' h => ?_
    obtain ⟨I', r1, r2, r3, r4⟩ := h
    exact ⟨V, I', r1, ⟨r2, hkV w' r4, own_base r3 hb⟩, ⟨OwnIn.refl w V, fun b hb => .inr (own_lt r3 b hb).1⟩, r4⟩
end Go.Proofs.YteiaiilfekojfaaGreat.Msg
end
section
set_option linter.unusedVariables false
set_option linter.unusedSimpArgs false
namespace Go.Proofs.YteiaiilfekojfaaGreat.Net
open Go.RowKit Sx DrawInv Wire

structure Pa where
  src : Nat
  dst : Nat
  bytes : List UInt8
  deriving DecidableEq
def paL (p : Pa) : List Value := [.int .u8 (p.src : Int), .int .u8 (p.dst : Int), .string ⟨p.bytes.toArray⟩]
theorem paL_len (p : Pa) : (paL p).length = 3 := rfl
theorem paL_one (p : Pa) : ∀ u ∈ paL p, u.oneCell' = true := by
  intro u hu
  simp only [paL, List.mem_cons, List.not_mem_nil, or_false] at hu
  rcases hu with rfl | rfl | rfl <;> rfl
def twoV (p : Nat × Nat) : Value := .agg #[.int .u8 (p.1 : Int), .int .u8 (p.2 : Int)]
def addrB (a : Nat) : Bool := decide (a < 7) || (decide (16 ≤ a) && decide (a < 20))
def apartB (a b : Nat) : Bool := addrB a && (addrB b && decide (a ≠ b))
def bothN (a b : Nat) : Nat × Nat := (min a b, max a b)
abbrev CutM := List ((Nat × Nat) × Value)
def cutB (M : CutM) (a b : Nat) : Bool := (findM M (bothN a b) 0).isSome
/-- All entries say true. -/
def AllT (M : CutM) : Prop := ∀ p ∈ M, p.2 = .bool true
theorem allT_find : ∀ (M : CutM) (x : Nat × Nat) (k : Nat), AllT M → (((findM M x k).map (·.2)).getD (.bool false)) = .bool (findM M x k).isSome
  | [], _, _, _ => rfl
  | p :: M, x, k, h => by
    unfold findM
    by_cases e : x = p.1
    · rw [if_pos e]
      have := h p (List.mem_cons_self ..)
      simp [this]
    · rw [if_neg e]
      exact allT_find M x (k + 1) fun q hq => h q (List.mem_cons_of_mem _ hq)
theorem allT_set : ∀ (M : CutM) (x : Nat × Nat), AllT M → AllT (setM M x (.bool true))
  | [], x, _ => fun p hp => by rw [List.mem_singleton.1 hp]
  | q :: M, x, h => by
    unfold setM
    by_cases e : x = q.1
    · rw [if_pos e]
      intro p hp
      rcases List.mem_cons.1 hp with rfl | hp
      · rfl
      · exact h p (List.mem_cons_of_mem _ hp)
    · rw [if_neg e]
      intro p hp
      rcases List.mem_cons.1 hp with rfl | hp
      · exact h p (List.mem_cons_self ..)
      · exact allT_set M x (fun r hr => h r (List.mem_cons_of_mem _ hr)) p hp
/-- A net in memory: its block, its bag's row, its map. -/
def netF (base g gm : Nat) (V : Value) (bag : List Pa) (M : CutM) : Ft :=
  ⟨g :: gm :: V.ownBlock.toList, fun w => Blk w g 130 #[V, .map (some gm)] ∧ w.ownsRow base 134 3 V bag.length (bag.flatMap paL) ∧ MapE w gm twoV M⟩
theorem netF_loc (base g gm : Nat) (V : Value) (bag : List Pa) (M : CutM) : (netF base g gm V bag M).Loc := by
  intro w w' h ⟨h1, h2, h3⟩
  refine ⟨(h g (by simp [netF])).trans h1, ?_, mapF_loc gm twoV M w w' (fun b hb => h b (by rw [List.mem_singleton.1 hb]; simp [netF])) h3⟩
  exact rowX_loc [] base _ 3 V bag.length (bag.flatMap paL) w w' (fun b hb => h b (by
    have hb : b ∈ V.ownBlock.toList := by simpa [rowX] using hb
    show b ∈ g :: gm :: V.ownBlock.toList
    exact List.mem_cons_of_mem _ (List.mem_cons_of_mem _ hb))) h2
theorem netF_apart {base g gm : Nat} {V : Value} {bag : List Pa} {M : CutM} {w : World} (h : (netF base g gm V bag M).φ w) : g ≠ gm ∧ g ∉ V.ownBlock.toList ∧ gm ∉ V.ownBlock.toList := by
  obtain ⟨h1, h2, es, c, h3, h4⟩ := h
  have h1 : w.heap[g]? = some (.cells #[V, .map (some gm)] 130 (0, 0)) := h1
  refine ⟨fun e => ?_, fun hm => ?_, fun hm => ?_⟩
  · rw [← e, h1] at h3; cases h3
  · rcases h2.2 with ⟨rfl, _⟩ | ⟨b, cap, cur, rfl, _, hb, _⟩
    · simp [Value.ownBlock] at hm
    · have e : g = b := by simpa [Value.ownBlock] using hm
      rw [← e, h1] at hb
      injection hb with hb
      injection hb with _ hb _
      exact absurd hb (by decide)
  · rcases h2.2 with ⟨rfl, _⟩ | ⟨b, cap, cur, rfl, _, hb, _⟩
    · simp [Value.ownBlock] at hm
    · have e : gm = b := by simpa [Value.ownBlock] using hm
      rw [← e, h3] at hb
      cases hb
theorem netF_hp {base g gm : Nat} {V : Value} {bag : List Pa} {M : CutM} {w : World} (h : (netF base g gm V bag M).φ w) : Hp w [cell g 130 [V, .map (some gm)], rowX V.ownBlock.toList base 134 3 V bag.length (bag.flatMap paL), mapF gm twoV M] w := by
  obtain ⟨a1, a2, a3⟩ := netF_apart h
  obtain ⟨h1, h2, h3⟩ := h
  have H0 := (Hp.start w).know (mapF gm twoV M) (mapF_loc _ _ _) (fun b hb => ⟨by rw [List.mem_singleton.1 hb]; exact h3.lt, fun q hq => by cases hq⟩) h3
  have H1 := H0.know (rowX V.ownBlock.toList base 134 3 V bag.length (bag.flatMap paL)) (rowX_loc _ _ _ _ _ _ _) (fun b hb => by
    have hb : b ∈ V.ownBlock.toList := by simpa [rowX] using hb
    refine ⟨(own_lt h2 b hb).2, fun q hq hbq => ?_⟩
    obtain rfl := List.mem_singleton.1 hq
    obtain rfl := List.mem_singleton.1 hbq
    exact a3 hb) h2
  refine H1.know _ (cell_loc _ _ _) (fun b hb => ?_) h1
  obtain rfl := List.mem_singleton.1 hb
  refine ⟨Blk.lt h1, fun q hq hbq => ?_⟩
  rcases List.mem_cons.1 hq with rfl | hq
  · exact a2 (by simpa [rowX] using hbq)
  · obtain rfl := List.mem_singleton.1 hq
    exact a1 (List.mem_singleton.1 hbq)
/-- What a method makes of a net. -/
def NetTo (base g gm : Nat) (V : Value) (bag : List Pa) (M : CutM) (w w' : World) : Prop := ∃ V', (netF base g gm V' bag M).φ w' ∧ OwnIn w V.ownBlock.toList V' ∧ Outs (g :: gm :: V.ownBlock.toList) w w'
theorem callNet {P : Program} {f : Nat} {args : Array Value} {v V : Value} {i base g gm : Nat} {bag bag' : List Pa} {M M' : CutM} {w0 : World} {L : List Ft} (hL : nth L i = some (netF base g gm V bag M)) (hV : OwnIn w0 [] V)
    (hc : ∀ w, Hp w0 L w → Calls P f args w fun E w' => E = .returned v ∧ NetTo base g gm V bag' M' w w') :
    ∀ w, Hp w0 L w → Calls P f args w fun E w' => ∃ s : Value, E = .returned v ∧ OwnIn w0 [] s ∧ Hp w0 (putF L i (netF base g gm s bag' M')) w' := fun w H => (hc w H).mono fun E w' ⟨he, V', hn, hin, hos⟩ => by
  have hsz : ∀ b ∈ V'.ownBlock.toList, w0.heap.size ≤ b := fun b hb => (hin b hb).elim (fun h => (hV b h).elim (fun h => by cases h) id) (fun h => Nat.le_trans H.os.size h)
  refine ⟨V', he, fun b hb => .inr (hsz b hb), H.chg hL _ hos (netF_loc _ _ _ _ _ _) (fun b hb => ?_) (fun b hb => ?_) hn⟩
  · rcases List.mem_cons.1 hb with rfl | hb
    · exact ⟨Blk.lt hn.1, .inl (List.mem_cons_self ..)⟩
    rcases List.mem_cons.1 hb with rfl | hb
    · exact ⟨hn.2.2.lt, .inl (List.mem_cons_of_mem _ (List.mem_cons_self ..))⟩
    · exact ⟨(own_lt hn.2.1 b hb).2, (hin b hb).imp (fun h => List.mem_cons_of_mem _ (List.mem_cons_of_mem _ h)) id⟩
  · rcases List.mem_cons.1 hb with rfl | hb
    · exact .inl (List.mem_cons_self ..)
    rcases List.mem_cons.1 hb with rfl | hb
    · exact .inl (List.mem_cons_of_mem _ (List.mem_cons_self ..))
    · exact .inr ((hV b hb).elim (fun h => by cases h) id)
/-- How pairs are compared as keys. -/
theorem eq_two_n (k : Nat) (a b c d : Nat) (w : World) : (Op.equalIn (k + 2) 57 (twoV (a, b)) (twoV (c, d))).run Tryz.prog w = .ok (((a : Int) == (c : Int)) && (((b : Int) == (d : Int)) && true)) w := by
  have e1 := run_equalIn_int (P := Tryz.prog) w k 5 .u8 .u8 (a : Int) (c : Int) Tryz.underlying5
  have e2 := run_equalIn_int (P := Tryz.prog) w k 5 .u8 .u8 (b : Int) (d : Int) Tryz.underlying5
  obtain ⟨h1, h2⟩ := fields_of Tryz.underlying57
  unfold twoV
  rw [run_equalIn_agg w (k + 1) _ _ _ h1 (by kernel_rfl), h2]
  exact eqFields_step (by decide) (by kernel_rfl) (by kernel_rfl) e1 (eqFields_step (by decide) (by kernel_rfl) (by kernel_rfl) e2 (eqFields_nil _ _ _ _ _))
theorem eq_pair (x y : Nat × Nat) (w : World) : (Op.equal 57 (twoV x) (twoV y)).run Tryz.prog w = .ok (decide (x = y)) w := by
  obtain ⟨a, b⟩ := x
  obtain ⟨c, d⟩ := y
  have h4 : (((a : Int) == (c : Int)) && (((b : Int) == (d : Int)) && true)) = decide ((a, b) = (c, d)) := by
    rw [Bool.and_true]
    apply Bool.eq_iff_iff.2
    simp [Prod.mk.injEq]
    omega
  rw [← h4]
  exact eq_two_n 9998 a b c d w
end Go.Proofs.YteiaiilfekojfaaGreat.Net
end
section
set_option linter.unusedVariables false
set_option linter.unusedSimpArgs false
namespace Go.Proofs.YteiaiilfekojfaaGreat.Net
open Go.RowKit Sx DrawInv Wire

theorem check_u8 (b : Bool) (k : Nat) (v : Value) (w : World) : (Instr.checkKey b (k + 1) 5 v).run Tryz.prog w = .ok () w := by
  unfold Instr.checkKey
  simp only [Sem.run_bind, run_underlying Tryz.underlying5, Result.andThen_ok]
  cases v <;> rfl
theorem check_arr (x : Nat × Nat) (b : Bool) (w : World) : (Instr.checkKey b 10000 136 (twoV x)).run Tryz.prog w = .ok () w := by
  obtain ⟨i, hi⟩ := info_of_underlying Tryz.underlying5
  have hc : Tryz.prog.cellsOf 5 = 1 := by kernel_rfl
  have p0 : (part 5 #[.int .u8 (x.1 : Int), .int .u8 (x.2 : Int)] (0 * 1)).run Tryz.prog w = .ok (.int .u8 (x.1 : Int)) w := by kernel_rfl
  have p1 : (part 5 #[.int .u8 (x.1 : Int), .int .u8 (x.2 : Int)] (1 * 1)).run Tryz.prog w = .ok (.int .u8 (x.2 : Int)) w := by kernel_rfl
  rw [show (10000 : Nat) = 9998 + 1 + 1 from rfl]
  unfold Instr.checkKey
  simp only [twoV, Sem.run_bind, run_underlying Tryz.underlying136, Result.andThen_ok]
  simp only [Std.Legacy.Range.forIn_eq_forIn_range', Std.Legacy.Range.size, Nat.sub_zero, Nat.add_one_sub_one, Nat.div_one]
  rw [show List.range' 0 (2 - 0 + 1 - 1) 1 = [0, 1] from rfl]
  simp only [List.forIn_cons, List.forIn_nil, Sem.run_bind, run_sizeOf w hi, hc, p0, p1, check_u8, Result.andThen_ok, Sem.run_pure]
theorem eq_arr (x y : Nat × Nat) (w : World) : (Op.equal 136 (twoV x) (twoV y)).run Tryz.prog w = .ok (decide (x = y)) w := by
  obtain ⟨a, b⟩ := x
  obtain ⟨c, d⟩ := y
  have h4 : (((a : Int) == (c : Int)) && (((b : Int) == (d : Int)) && true)) = decide ((a, b) = (c, d)) := by
    rw [Bool.and_true]
    apply Bool.eq_iff_iff.2
    simp [Prod.mk.injEq]
    omega
  rw [← h4]
  have hc : Tryz.prog.cellsOf 5 = 1 := by kernel_rfl
  obtain ⟨i, hi⟩ := info_of_underlying Tryz.underlying5
  have e := run_equalIn_array (P := Tryz.prog) w 9999 #[.int .u8 (a : Int), .int .u8 (b : Int)] #[.int .u8 (c : Int), .int .u8 (d : Int)] Tryz.underlying136 hi
  rw [hc] at e
  refine Eq.trans e ?_
  exact eqItems_step (by kernel_rfl) (by kernel_rfl) (run_equalIn_int (P := Tryz.prog) w 9998 5 .u8 .u8 (a : Int) (c : Int) Tryz.underlying5) (eqItems_step (by kernel_rfl) (by kernel_rfl) (run_equalIn_int (P := Tryz.prog) w 9998 5 .u8 .u8 (b : Int) (d : Int) Tryz.underlying5) (eqItems_nil _ _ _ _ _ _ _))
theorem same_two (x : Nat × Nat) : Instr.sameBits 10000 (twoV x) (twoV x) = true := by
  obtain ⟨a, b⟩ := x
  rw [show (10000 : Nat) = 9998 + 1 + 1 from rfl]
  simp [twoV, Instr.sameBits]
theorem key_arr : KeyT Tryz.prog 136 twoV := ⟨⟨_, Tryz.underlying136, fun _ _ => rfl⟩, fun x b w => check_arr x b w, fun x y w => eq_arr x y w, same_two⟩
theorem ex_pnil {P : Program} {ρ : Operand → Value} {o : Oper} {w : World} {vs : Vs} {T U e : TypeId} {x y : Operand} {a : Option Addr} (E : Env vs ρ) (ho : o.op = .binOp .eql T x y U) (hT : P.underlying T = some (.pointer e)) (hx : opv vs x = some (.pointer a)) (hy : opv vs y = some (.pointer none)) {t : Bool} (ht : a.isNone = t) : (execOp ρ o).run P w = .ok (.value (.bool t)) w := by
  subst ht
  unfold execOp; rw [ho]
  simp only [E.ev hx, E.ev hy]
  have h : (Op.equal T (.pointer a) (.pointer none)).run P w = .ok a.isNone w := by
    unfold Op.equal
    rw [show Op.maxDepth = 9999 + 1 from rfl]
    unfold Op.equalIn
    cases a <;> simp [run_underlying hT]
  simp only [eqGuard, Sem.run_bind, Sem.run_pure, Result.andThen_ok, ite_self, binOp, h]
theorem ex_pnn {P : Program} {ρ : Operand → Value} {o : Oper} {w : World} {vs : Vs} {T U e : TypeId} {x y : Operand} {a : Option Addr} (E : Env vs ρ) (ho : o.op = .binOp .neq T x y U) (hT : P.underlying T = some (.pointer e)) (hx : opv vs x = some (.pointer a)) (hy : opv vs y = some (.pointer none)) {t : Bool} (ht : a.isSome = t) : (execOp ρ o).run P w = .ok (.value (.bool t)) w := by
  subst ht
  unfold execOp; rw [ho]
  simp only [E.ev hx, E.ev hy]
  have h : (Op.equal T (.pointer a) (.pointer none)).run P w = .ok a.isNone w := by
    unfold Op.equal
    rw [show Op.maxDepth = 9999 + 1 from rfl]
    unfold Op.equalIn
    cases a <;> simp [run_underlying hT]
  simp only [eqGuard, Sem.run_bind, Sem.run_pure, Result.andThen_ok, ite_self, binOp, h]
  cases a <;> rfl
theorem ex_min {P : Program} {ρ : Operand → Value} {o : Oper} {w : World} {vs : Vs} {ts : Array TypeId} {x y : Operand} {k : IntKind} {a b : Int} {z : Int} (E : Env vs ρ) (ho : o.op = .call { callee := .builtin .min, args := #[x, y], argTypes := ts }) (hx : opv vs x = some (.int k a)) (hy : opv vs y = some (.int k b)) (hz : (if b < a then b else a) = z) : (execOp ρ o).run P w = .ok (.value (.int k z)) w := by
  subst hz
  unfold execOp; rw [ho]
  simp [E.ev hx, E.ev hy, resolve, invoke, builtin, run_min_int2]
theorem ex_max {P : Program} {ρ : Operand → Value} {o : Oper} {w : World} {vs : Vs} {ts : Array TypeId} {x y : Operand} {k : IntKind} {a b : Int} {z : Int} (E : Env vs ρ) (ho : o.op = .call { callee := .builtin .max, args := #[x, y], argTypes := ts }) (hx : opv vs x = some (.int k a)) (hy : opv vs y = some (.int k b)) (hz : (if a < b then b else a) = z) : (execOp ρ o).run P w = .ok (.value (.int k z)) w := by
  subst hz
  unfold execOp; rw [ho]
  simp [E.ev hx, E.ev hy, resolve, invoke, builtin, run_max_int2]
theorem doneG {P : Program} {ops : Array Oper} {Q : Exit → Act → World → Prop} {n : Nat} {vs : Vs} {w0 : World} {L : List Ft} {o : Oper} {rest : List Oper} (v : Value) (L' : List Ft) (hon : GOn ops vs o.guard) (hd : o.dst = none)
    (hr : ∀ ρ w, Env vs ρ → Hp w0 L w → ∃ (_ : Unit) (w' : World), (execOp ρ o).run P w = .ok (.value v) w' ∧ True ∧ Hp w0 L' w') (h : SxL P ops Q rest n vs w0 L') : SxL P ops Q (o :: rest) n vs w0 L := fun a w K H => by
  refine on_list (hon.on K.env) ?_
  unfold Oper.wp
  obtain ⟨_, w', hr, _, H'⟩ := hr a.eval w K.env H
  rw [hr]
  show wpList P ops Q rest (a.put o.dst _) _
  rw [hd]
  exact h _ _ K H'
theorem min_n (a b : Nat) : (if (b : Int) < (a : Int) then (b : Int) else (a : Int)) = ((min a b : Nat) : Int) := by
  rw [Nat.min_def]
  split <;> split <;> omega
theorem max_n (a b : Nat) : (if (a : Int) < (b : Int) then (b : Int) else (a : Int)) = ((max a b : Nat) : Int) := by
  rw [Nat.max_def]
  split <;> split <;> omega
theorem mapE_below {w0 w : World} {g : Nat} {enc : Nat × Nat → Value} {M : CutM} (h : MapE w0 g enc M) (hb : Below w0.heap.size w0 w) : MapE w g enc M := mapF_loc g enc M w0 w (fun b hm => hb.block b (by obtain rfl := List.mem_singleton.1 hm; exact h.lt)) h
end Go.Proofs.YteiaiilfekojfaaGreat.Net
end
section
set_option linter.unusedVariables false
set_option linter.unusedSimpArgs false
namespace Go.Proofs.YteiaiilfekojfaaGreat.Net
open Go.RowKit Sx Wire DrawInv
set_option maxRecDepth 100000 in
set_option maxHeartbeats 4000000 in
theorem addr_any (x : Nat)  (w : World) : Calls Tryz.prog 104 #[.int .u8 (x : Int)] w fun e w' => e = .returned (.bool (addrB x)) ∧ Below w.heap.size w w' := by
  refine sx_enter (n := 13) _ Tryz.func104 rfl rfl rfl (Hp.start w) ?_
  refine SxC.seq (SxC.region ?_)
  refine SxL.val trivial rfl rfl (fun ρ w E H => ex_assign E rfl rfl) ?_
  refine SxL.nil (SxN.then_ (SxC.seq (SxC.region ?_)))
  refine SxL.val trivial rfl rfl (fun ρ w E H => ex_move E rfl rfl) ?_
  refine SxL.valB trivial rfl rfl (fun ρ w E H => ex_cmp E rfl rfl rfl rfl rfl) fun c4 hc4 => ?_
  refine SxL.val trivial rfl rfl (fun ρ w E H => ex_move E rfl rfl) ?_
  cases c4
  · refine SxL.val ⟨_, _, rfl, rfl, rfl⟩ rfl rfl (fun ρ w E H => ex_move E rfl rfl) ?_
    refine SxL.valB ⟨_, _, rfl, rfl, rfl⟩ rfl rfl (fun ρ w E H => ex_cmp E rfl rfl rfl rfl rfl) fun c7 hc7 => ?_
    refine SxL.val ⟨_, _, rfl, rfl, rfl⟩ rfl rfl (fun ρ w E H => ex_move E rfl rfl) ?_
    cases c7
    · refine SxL.off ⟨_, _, _, rfl, rfl, rfl, nofun⟩ rfl rfl ?_
      refine SxL.off ⟨_, _, _, rfl, rfl, rfl, nofun⟩ rfl rfl ?_
      refine SxL.val ⟨_, _, rfl, rfl, rfl⟩ rfl rfl (fun ρ w E H => ex_pick E rfl (t := false) rfl rfl) ?_
      refine SxL.val trivial rfl rfl (fun ρ w E H => ex_pick E rfl (t := false) rfl rfl) ?_
      refine SxL.val trivial rfl rfl (fun ρ w E H => ex_assign E rfl rfl) ?_
      refine SxL.nil (SxN.then_ (SxC.ret ?_))
      refine SxX.done (.bool false) (fun a w K H => res1 K rfl rfl) (fun w H => ?_)
      have hq : false = addrB x := by clear H; first | rfl | grind [cmpB, addrB]
      exact ⟨by rw [hq], H.toBelow trivial⟩
    · refine SxL.val ⟨_, _, rfl, rfl, rfl⟩ rfl rfl (fun ρ w E H => ex_move E rfl rfl) ?_
      refine SxL.valB ⟨_, _, rfl, rfl, rfl⟩ rfl rfl (fun ρ w E H => ex_cmp E rfl rfl rfl rfl rfl) fun c10 hc10 => ?_
      refine SxL.val ⟨_, _, rfl, rfl, rfl⟩ rfl rfl (fun ρ w E H => ex_pick E rfl (t := true) rfl rfl) ?_
      refine SxL.val trivial rfl rfl (fun ρ w E H => ex_pick E rfl (t := false) rfl rfl) ?_
      refine SxL.val trivial rfl rfl (fun ρ w E H => ex_assign E rfl rfl) ?_
      refine SxL.nil (SxN.then_ (SxC.ret ?_))
      refine SxX.done (.bool c10) (fun a w K H => res1 K rfl rfl) (fun w H => ?_)
      have hq : c10 = addrB x := by clear H; first | rfl | grind [cmpB, addrB]
      exact ⟨by rw [hq], H.toBelow trivial⟩
  · refine SxL.off ⟨_, _, _, rfl, rfl, rfl, nofun⟩ rfl rfl ?_
    iterate 5 refine SxL.off ⟨_, _, _, rfl, rfl, rfl, nofun⟩ rfl rfl ?_
    refine SxL.val trivial rfl rfl (fun ρ w E H => ex_pick E rfl (t := true) rfl rfl) ?_
    refine SxL.val trivial rfl rfl (fun ρ w E H => ex_assign E rfl rfl) ?_
    refine SxL.nil (SxN.then_ (SxC.ret ?_))
    refine SxX.done (.bool true) (fun a w K H => res1 K rfl rfl) (fun w H => ?_)
    have hq : true = addrB x := by clear H; first | rfl | grind [cmpB, addrB]
    exact ⟨by rw [hq], H.toBelow trivial⟩

set_option maxRecDepth 100000 in
set_option maxHeartbeats 4000000 in
theorem apart_any (x y : Nat)  (w : World) : Calls Tryz.prog 64 #[.int .u8 (x : Int), .int .u8 (y : Int)] w fun e w' => e = .returned (.bool (apartB x y)) ∧ Below w.heap.size w w' := by
  refine sx_enter (n := 16) _ Tryz.func64 rfl rfl rfl (Hp.start w) ?_
  refine SxC.seq (SxC.region ?_)
  refine SxL.val trivial rfl rfl (fun ρ w E H => ex_assign E rfl rfl) ?_
  refine SxL.nil (SxN.then_ (SxC.seq (SxC.region ?_)))
  refine SxL.val trivial rfl rfl (fun ρ w E H => ex_move E rfl rfl) ?_
  refine SxL.callBB (b := (addrB x)) trivial rfl rfl (fun ρ w E => ex_call E en_palaver_net_address rfl rfl) (fun w H => addr_any x w) fun c6 hc6 => ?_
  refine SxL.val trivial rfl rfl (fun ρ w E H => ex_move E rfl rfl) ?_
  cases c6
  · refine SxL.off ⟨_, _, _, rfl, rfl, rfl, nofun⟩ rfl rfl ?_
    refine SxL.off ⟨_, _, _, rfl, rfl, rfl, nofun⟩ rfl rfl ?_
    refine SxL.val trivial rfl rfl (fun ρ w E H => ex_pick E rfl (t := false) rfl rfl) ?_
    refine SxL.val trivial rfl rfl (fun ρ w E H => ex_move E rfl rfl) ?_
    iterate 3 refine SxL.off ⟨_, _, _, rfl, rfl, rfl, nofun⟩ rfl rfl ?_
    refine SxL.val trivial rfl rfl (fun ρ w E H => ex_pick E rfl (t := false) rfl rfl) ?_
    refine SxL.val trivial rfl rfl (fun ρ w E H => ex_assign E rfl rfl) ?_
    refine SxL.nil (SxN.then_ (SxC.ret ?_))
    refine SxX.done (.bool false) (fun a w K H => res1 K rfl rfl) (fun w H => ?_)
    have hq : false = apartB x y := by clear H; first | rfl | grind [cmpB, apartB]
    exact ⟨by rw [hq], H.toBelow trivial⟩
  · refine SxL.val ⟨_, _, rfl, rfl, rfl⟩ rfl rfl (fun ρ w E H => ex_move E rfl rfl) ?_
    refine SxL.callBB (b := (addrB y)) ⟨_, _, rfl, rfl, rfl⟩ rfl rfl (fun ρ w E => ex_call E en_palaver_net_address rfl rfl) (fun w H => addr_any y w) fun c9 hc9 => ?_
    refine SxL.val trivial rfl rfl (fun ρ w E H => ex_pick E rfl (t := true) rfl rfl) ?_
    refine SxL.val trivial rfl rfl (fun ρ w E H => ex_move E rfl rfl) ?_
    cases c9
    · refine SxL.off ⟨_, _, _, rfl, rfl, rfl, nofun⟩ rfl rfl ?_
      iterate 2 refine SxL.off ⟨_, _, _, rfl, rfl, rfl, nofun⟩ rfl rfl ?_
      refine SxL.val trivial rfl rfl (fun ρ w E H => ex_pick E rfl (t := false) rfl rfl) ?_
      refine SxL.val trivial rfl rfl (fun ρ w E H => ex_assign E rfl rfl) ?_
      refine SxL.nil (SxN.then_ (SxC.ret ?_))
      refine SxX.done (.bool false) (fun a w K H => res1 K rfl rfl) (fun w H => ?_)
      have hq : false = apartB x y := by clear H; first | rfl | grind [cmpB, apartB]
      exact ⟨by rw [hq], H.toBelow trivial⟩
    · refine SxL.val ⟨_, _, rfl, rfl, rfl⟩ rfl rfl (fun ρ w E H => ex_move E rfl rfl) ?_
      refine SxL.val ⟨_, _, rfl, rfl, rfl⟩ rfl rfl (fun ρ w E H => ex_move E rfl rfl) ?_
      refine SxL.valB ⟨_, _, rfl, rfl, rfl⟩ rfl rfl (fun ρ w E H => ex_cmp E rfl rfl rfl rfl rfl) fun c14 hc14 => ?_
      refine SxL.val trivial rfl rfl (fun ρ w E H => ex_pick E rfl (t := true) rfl rfl) ?_
      refine SxL.val trivial rfl rfl (fun ρ w E H => ex_assign E rfl rfl) ?_
      refine SxL.nil (SxN.then_ (SxC.ret ?_))
      refine SxX.done (.bool c14) (fun a w K H => res1 K rfl rfl) (fun w H => ?_)
      have hq : c14 = apartB x y := by clear H; first | rfl | grind [cmpB, apartB]
      exact ⟨by rw [hq], H.toBelow trivial⟩

set_option maxRecDepth 100000 in
set_option maxHeartbeats 4000000 in
theorem both_any (x y : Nat)  (w : World) : Calls Tryz.prog 67 #[.int .u8 (x : Int), .int .u8 (y : Int)] w fun e w' => e = .returned (.agg #[.int .u8 ((min x y : Nat) : Int), .int .u8 ((max x y : Nat) : Int)]) ∧ Below w.heap.size w w' := by
  refine sx_enter (n := 12) _ Tryz.func67 rfl rfl rfl (Hp.start w) ?_
  refine SxC.seq (SxC.region ?_)
  refine SxL.new (cs := [.int .u8 0, .int .u8 0]) trivial rfl rfl (fun ρ w E H => ex_alloc rfl zr_2_uint8 rfl) fun g1 hg1 => ?_
  refine SxL.nil (SxN.then_ (SxC.seq (SxC.region ?_)))
  iterate 2 refine SxL.val trivial rfl rfl (fun ρ w E H => ex_move E rfl rfl) ?_
  refine SxL.val (v := .int .u8 ((min x y : Nat) : Int)) trivial rfl rfl (fun ρ w E H => ex_min E rfl rfl rfl (min_n _ _)) ?_
  iterate 2 refine SxL.val trivial rfl rfl (fun ρ w E H => ex_move E rfl rfl) ?_
  refine SxL.val (v := .int .u8 ((max x y : Nat) : Int)) trivial rfl rfl (fun ρ w E H => ex_max E rfl rfl rfl (max_n _ _)) ?_
  refine SxL.val trivial rfl rfl (fun ρ w E H => ex_build (cs := [.int .u8 ((min x y : Nat) : Int), .int .u8 ((max x y : Nat) : Int)]) E rfl rfl (by kernel_rfl)) ?_
  refine SxL.storeX (i := 0) [.int .u8 ((min x y : Nat) : Int), .int .u8 ((max x y : Nat) : Int)] trivial rfl rfl rfl rfl rfl sz_2_uint8 rfl rfl rfl (putL_all _ _ rfl) ?_
  refine SxL.nil (SxN.then_ (SxC.ret ?_))
  refine SxX.done _ (fun a w K H => resN K [.agg #[.int .u8 ((min x y : Nat) : Int), .int .u8 ((max x y : Nat) : Int)]] rfl ⟨⟨_, rfl, blk_loadVar (H.get (i := 0) rfl) Tryz.underlying136 rfl sz_2_uint8⟩, trivial⟩) (fun w H => ?_)
  exact ⟨rfl, H.toBelow ⟨(fun g hg => by rw [List.mem_singleton.1 hg]; exact hg1), trivial⟩⟩

set_option maxRecDepth 100000 in
set_option maxHeartbeats 4000000 in
theorem iscut_any (base g gm : Nat) (V : Value) (bag : List Pa) (M : CutM) (x y : Nat) (w : World) (hn : (netF base g gm V bag M).φ w) (hT : AllT M) : Calls Tryz.prog 39 #[.pointer (some ⟨g, 0, none⟩), .int .u8 (x : Int), .int .u8 (y : Int)] w fun e w' => e = .returned (.bool (cutB M x y)) ∧ Below w.heap.size w w' := by
  refine sx_enter (n := 19) _ Tryz.func39 rfl rfl rfl (Hp.start w) ?_
  refine SxC.seq (SxC.region ?_)
  refine SxL.val trivial rfl rfl (fun ρ w E H => ex_assign E rfl rfl) ?_
  refine SxL.nil (SxN.then_ (SxC.seq ?_))
  refine SxC.drawnK [] [] (by kernel_rfl) rfl trivial ?_
  refine SxA.take (i := 0) rfl (by kernel_rfl) (by kernel_rfl) (by kernel_rfl) rfl rfl (fun _ _ _ h => h) trivial (fun ρ w E H => ex_move E rfl rfl) ?_
  refine SxA.take (i := 1) (v := .bool true) rfl (by kernel_rfl) (by kernel_rfl) (by kernel_rfl) rfl rfl (fun _ _ _ h => h) trivial (fun ρ w E H => ex_pnn E rfl Tryz.underlying48 rfl rfl rfl) ?_
  refine SxA.take (i := 2) rfl (by kernel_rfl) (by kernel_rfl) (by kernel_rfl) rfl rfl (fun _ _ _ h => h) trivial (fun ρ w E H => ex_move E rfl rfl) ?_
  refine SxA.take (i := 3) rfl (by kernel_rfl) (by kernel_rfl) (by kernel_rfl) rfl rfl (fun _ _ _ h => h) ⟨_, _, rfl, rfl, rfl⟩ (fun ρ w E H => ex_move E rfl rfl) ?_
  refine SxA.take (i := 4) (v := .pointer (some ⟨g, 0, none⟩)) rfl (by kernel_rfl) (by kernel_rfl) (by kernel_rfl) rfl rfl (fun _ _ _ h => h) ⟨_, _, rfl, rfl, rfl⟩ (fun ρ w E H => ex_nilCheck E rfl rfl) ?_
  refine SxA.take (i := 5) (v := .pointer (some ⟨g, 1, none⟩)) rfl (by kernel_rfl) (by kernel_rfl) (by kernel_rfl) rfl rfl (fun _ _ _ h => h) ⟨_, _, rfl, rfl, rfl⟩ (fun ρ w E H => ex_field E rfl fa_palaver_net_Net_1 rfl rfl) ?_
  refine SxA.take (i := 6) rfl (by kernel_rfl) (by kernel_rfl) (by kernel_rfl) rfl rfl (fun _ _ _ h => h) ⟨_, _, rfl, rfl, rfl⟩ (fun ρ w E H => ex_load1 (cs := [V, .map (some gm)]) E (Blk.below hn.1 (H.os.below (Nat.le_refl _) (by simp)) (Blk.lt hn.1)) rfl rfl Tryz.underlying127 rfl rfl) ?_
  refine SxA.take (i := 7) rfl (by kernel_rfl) (by kernel_rfl) (by kernel_rfl) rfl rfl (fun _ _ _ h => h) ⟨_, _, rfl, rfl, rfl⟩ (fun ρ w E H => ex_move E rfl rfl) ?_
  refine SxA.take (i := 8) rfl (by kernel_rfl) (by kernel_rfl) (by kernel_rfl) rfl rfl (fun _ _ _ h => h) ⟨_, _, rfl, rfl, rfl⟩ (fun ρ w E H => ex_move E rfl rfl) ?_
  refine SxA.ready [9] (by kernel_rfl) (by simp) ⟨?_, trivial⟩
  refine SxO.callB (v := .agg #[.int .u8 ((min x y : Nat) : Int), .int .u8 ((max x y : Nat) : Int)]) rfl ⟨_, _, rfl, rfl, rfl⟩ rfl rfl (fun ρ w E => ex_call E en_palaver_net_both rfl rfl) (fun w H => both_any x y w) (fun w H => H.ks [] [] rfl trivial) ?_
  refine SxA.takeB (i := 10) rfl (by kernel_rfl) (by kernel_rfl) (by kernel_rfl) rfl rfl (fun _ _ _ h => h) ⟨_, _, rfl, rfl, rfl⟩ (fun ρ w E H => ex_lookup (k := bothN x y) (z := .bool false) E key_arr (mapE_below hn.2.2 (H.os.below (Nat.le_refl _) (by simp))) rfl Tryz.underlying127 zr_bool rfl rfl (allT_find M _ 0 hT)) fun c17 hc17 => ?_
  refine SxA.take (i := 11) rfl (by kernel_rfl) (by kernel_rfl) (by kernel_rfl) rfl rfl (fun _ _ _ h => h) trivial (fun ρ w E H => ex_pick E rfl (t := true) rfl rfl) ?_
  refine SxA.take (i := 12) rfl (by kernel_rfl) (by kernel_rfl) (by kernel_rfl) rfl rfl (fun _ _ _ h => h) trivial (fun ρ w E H => ex_assign E rfl rfl) ?_
  refine SxA.done (by kernel_rfl) ?_
  refine SxN.then_ (SxC.ret ?_)
  refine SxX.done (.bool c17) (fun a w K H => res1 K rfl rfl) (fun w H => ?_)
  have hq : c17 = cutB M x y := by clear H; first | rfl | grind [cmpB, cutB]
  exact ⟨by rw [hq], H.toBelow trivial⟩

set_option maxRecDepth 100000 in
set_option maxHeartbeats 4000000 in
theorem len_any (base g gm : Nat) (V : Value) (bag : List Pa) (M : CutM)  (w : World) (hn : (netF base g gm V bag M).φ w) : Calls Tryz.prog 31 #[.pointer (some ⟨g, 0, none⟩)] w fun e w' => e = .returned (.int .i64 (bag.length : Int)) ∧ Below w.heap.size w w' := by
  obtain ⟨Ab, cb, rfl⟩ := own_is_slice hn.2.1
  refine sx_enter (n := 10) _ Tryz.func31 rfl rfl rfl (Hp.start w) ?_
  refine SxC.seq (SxC.region ?_)
  refine SxL.val trivial rfl rfl (fun ρ w E H => ex_assign E rfl rfl) ?_
  refine SxL.nil (SxN.then_ (SxC.seq (SxC.seq (SxC.region ?_))))
  refine SxL.val trivial rfl rfl (fun ρ w E H => ex_move E rfl rfl) ?_
  refine SxL.val (v := .bool false) trivial rfl rfl (fun ρ w E H => ex_pnil E rfl Tryz.underlying48 rfl rfl rfl) ?_
  refine SxL.nil (SxN.then_ (SxC.condF rfl (SxC.skip (SxN.then_ (SxC.seq (SxC.region ?_))))))
  refine SxL.val trivial rfl rfl (fun ρ w E H => ex_move E rfl rfl) ?_
  refine SxL.val (v := .pointer (some ⟨g, 0, none⟩)) trivial rfl rfl (fun ρ w E H => ex_nilCheck E rfl rfl) ?_
  refine SxL.val (v := .pointer (some ⟨g, 0, none⟩)) trivial rfl rfl (fun ρ w E H => ex_field E rfl fa_palaver_net_Net_0 rfl rfl) ?_
  refine SxL.val trivial rfl rfl (fun ρ w E H => ex_load1 (cs := [.slice Ab bag.length cb, .map (some gm)]) E (Blk.below hn.1 (H.toBelow trivial) (Blk.lt hn.1)) rfl rfl Tryz.underlying128 rfl rfl) ?_
  refine SxL.val (v := .int .i64 (bag.length : Int)) trivial rfl rfl (fun ρ w E H => ex_lenS E rfl Tryz.underlying128 rfl) ?_
  refine SxL.val trivial rfl rfl (fun ρ w E H => ex_assign E rfl rfl) ?_
  refine SxL.nil (SxN.then_ (SxC.ret ?_))
  refine SxX.done (.int .i64 (bag.length : Int)) (fun a w K H => res1 K rfl rfl) (fun w H => ?_)
  exact ⟨rfl, H.toBelow trivial⟩

set_option maxRecDepth 100000 in
set_option maxHeartbeats 4000000 in
theorem cut_any (base g gm : Nat) (V : Value) (bag : List Pa) (M : CutM) (x y : Nat) (w : World) (hn : (netF base g gm V bag M).φ w) : Calls Tryz.prog 28 #[.pointer (some ⟨g, 0, none⟩), .int .u8 (x : Int), .int .u8 (y : Int)] w fun e w' => e = .returned (.int .i64 (if apartB x y = true then 0 else 2)) ∧ NetTo base g gm V bag (if apartB x y = true then setM M (bothN x y) (.bool true) else M) w w' := by
  have hv0 : OwnIn w V.ownBlock.toList V := fun b hb => .inl hb
  refine sx_enter (n := 20) _ Tryz.func28 rfl rfl rfl (netF_hp hn) ?_
  refine SxC.seq (SxC.region ?_)
  refine SxL.val trivial rfl rfl (fun ρ w E H => ex_assign E rfl rfl) ?_
  refine SxL.nil (SxN.then_ (SxC.seq (SxC.seq (SxC.region ?_))))
  refine SxL.val trivial rfl rfl (fun ρ w E H => ex_move E rfl rfl) ?_
  refine SxL.val (v := .bool false) trivial rfl rfl (fun ρ w E H => ex_pnil E rfl Tryz.underlying48 rfl rfl rfl) ?_
  refine SxL.nil (SxN.then_ (SxC.condF rfl (SxC.skip (SxN.then_ (SxC.seq (SxC.seq (SxC.region ?_)))))))
  iterate 2 refine SxL.val trivial rfl rfl (fun ρ w E H => ex_move E rfl rfl) ?_
  refine SxL.callBB (b := (apartB x y)) trivial rfl rfl (fun ρ w E => ex_call E en_palaver_net_apart rfl rfl) (fun w H => apart_any x y w) fun c11 hc11 => ?_
  cases c11
  · refine SxL.val (v := .bool true) trivial rfl rfl (fun ρ w E H => ex_not (t := false) E rfl rfl) ?_
    refine SxL.nil (SxN.then_ (SxC.condT rfl (SxC.seq (SxC.region ?_))))
    refine SxL.val trivial rfl rfl (fun ρ w E H => ex_assign E rfl rfl) ?_
    refine SxL.nil (SxN.then_ (SxC.ret (SxX.thenR ?_)))
    refine SxX.done (.int .i64 2) (fun a w K H => res1 K rfl rfl) (fun w H => ?_)
    rw [if_neg (by rw [hc11]; decide), if_neg (by rw [hc11]; decide)]
    exact ⟨rfl, ⟨_, ⟨H.get (i := 0) rfl, H.get (i := 1) rfl, H.get (i := 2) rfl⟩, hv0, H.toOuts _ ⟨(fun b hb => by rw [List.mem_singleton.1 hb]; exact .inl (by simp)), (fun b hb => (hv0.in_ b hb).imp (fun h => by simp [h]) id), (fun b hb => .inl (by rw [List.mem_singleton.1 hb]; simp)), trivial⟩⟩⟩
  · refine SxL.val (v := .bool false) trivial rfl rfl (fun ρ w E H => ex_not (t := true) E rfl rfl) ?_
    refine SxL.nil (SxN.then_ (SxC.condF rfl (SxC.skip (SxN.then_ (SxC.seq ?_)))))
    refine SxC.drawnK (V.ownBlock.toList ++ [g, gm]) [0, 1] (by kernel_rfl) rfl ⟨(fun g hg => by rw [List.mem_singleton.1 hg]; exact .inl (by simp)), (fun g hg => (hv0.in_ g hg).imp (fun h => by simp only [List.mem_append]; simp [h]) id), (fun g hg => by rw [List.mem_singleton.1 hg]; exact .inl (by simp)), trivial⟩ ?_
    refine SxA.take (i := 0) rfl (by kernel_rfl) (by kernel_rfl) (by kernel_rfl) rfl rfl (fun _ _ _ h => h) trivial (fun ρ w E H => ex_move E rfl rfl) ?_
    refine SxA.take (i := 1) (v := .pointer (some ⟨g, 0, none⟩)) rfl (by kernel_rfl) (by kernel_rfl) (by kernel_rfl) rfl rfl (fun _ _ _ h => h) trivial (fun ρ w E H => ex_nilCheck E rfl rfl) ?_
    refine SxA.take (i := 2) (v := .pointer (some ⟨g, 1, none⟩)) rfl (by kernel_rfl) (by kernel_rfl) (by kernel_rfl) rfl rfl (fun _ _ _ h => h) trivial (fun ρ w E H => ex_field E rfl fa_palaver_net_Net_1 rfl rfl) ?_
    refine SxA.take (i := 3) rfl (by kernel_rfl) (by kernel_rfl) (by kernel_rfl) rfl rfl (fun _ _ _ h => h) trivial (fun ρ w E H => ex_load1 E (H.get (i := 0) rfl) rfl rfl Tryz.underlying127 rfl rfl) ?_
    refine SxA.take (i := 4) rfl (by kernel_rfl) (by kernel_rfl) (by kernel_rfl) rfl rfl (fun _ _ _ h => h) trivial (fun ρ w E H => ex_move E rfl rfl) ?_
    refine SxA.take (i := 5) rfl (by kernel_rfl) (by kernel_rfl) (by kernel_rfl) rfl rfl (fun _ _ _ h => h) trivial (fun ρ w E H => ex_move E rfl rfl) ?_
    refine SxA.ready [6] (by kernel_rfl) (by simp) ⟨?_, trivial⟩
    refine SxO.callB (v := .agg #[.int .u8 ((min x y : Nat) : Int), .int .u8 ((max x y : Nat) : Int)]) rfl trivial rfl rfl (fun ρ w E => ex_call E en_palaver_net_both rfl rfl) (fun w H => both_any x y w) (fun w H => H.ks (V.ownBlock.toList ++ [g, gm]) [0, 1] rfl ⟨(fun g hg => by rw [List.mem_singleton.1 hg]; exact .inl (by simp)), (fun g hg => (hv0.in_ g hg).imp (fun h => by simp only [List.mem_append]; simp [h]) id), (fun g hg => by rw [List.mem_singleton.1 hg]; exact .inl (by simp)), trivial⟩) ?_
    refine SxA.ready [7] (by kernel_rfl) (by simp) ⟨?_, trivial⟩
    refine SxO.skipG _ rfl trivial rfl (fun ρ w E H => Hp.putM (i := 2) (k := bothN x y) (v := .bool true) E H key_arr rfl rfl Tryz.underlying127 rfl rfl rfl) (fun w H => H.ks (V.ownBlock.toList ++ [g, gm]) [0, 1] rfl ⟨(fun g hg => by rw [List.mem_singleton.1 hg]; exact .inl (by simp)), (fun g hg => (hv0.in_ g hg).imp (fun h => by simp only [List.mem_append]; simp [h]) id), (fun g hg => by rw [List.mem_singleton.1 hg]; exact .inl (by simp)), trivial⟩) ?_
    refine SxA.done (by kernel_rfl) ?_
    refine SxN.then_ (SxC.seq (SxC.region ?_))
    refine SxL.val trivial rfl rfl (fun ρ w E H => ex_assign E rfl rfl) ?_
    refine SxL.nil (SxN.then_ (SxC.ret ?_))
    refine SxX.done (.int .i64 0) (fun a w K H => res1 K rfl rfl) (fun w H => ?_)
    rw [if_pos hc11, if_pos hc11]
    exact ⟨rfl, ⟨_, ⟨H.get (i := 0) rfl, H.get (i := 1) rfl, H.get (i := 2) rfl⟩, hv0, H.toOuts _ ⟨(fun b hb => by rw [List.mem_singleton.1 hb]; exact .inl (by simp)), (fun b hb => (hv0.in_ b hb).imp (fun h => by simp [h]) id), (fun b hb => .inl (by rw [List.mem_singleton.1 hb]; simp)), trivial⟩⟩⟩

set_option maxRecDepth 100000 in
set_option maxHeartbeats 4000000 in
theorem heal_any (base g gm : Nat) (V : Value) (bag : List Pa) (M : CutM)  (w : World) (hn : (netF base g gm V bag M).φ w) : Calls Tryz.prog 29 #[.pointer (some ⟨g, 0, none⟩)] w fun e w' => e = .returned (.int .i64 0) ∧ NetTo base g gm V bag [] w w' := by
  have hv0 : OwnIn w V.ownBlock.toList V := fun b hb => .inl hb
  refine sx_enter (n := 9) _ Tryz.func29 rfl rfl rfl (netF_hp hn) ?_
  refine SxC.seq (SxC.region ?_)
  refine SxL.val trivial rfl rfl (fun ρ w E H => ex_assign E rfl rfl) ?_
  refine SxL.nil (SxN.then_ (SxC.seq (SxC.seq (SxC.region ?_))))
  refine SxL.val trivial rfl rfl (fun ρ w E H => ex_move E rfl rfl) ?_
  refine SxL.val (v := .bool false) trivial rfl rfl (fun ρ w E H => ex_pnil E rfl Tryz.underlying48 rfl rfl rfl) ?_
  refine SxL.nil (SxN.then_ (SxC.condF rfl (SxC.skip (SxN.then_ (SxC.seq (SxC.region ?_))))))
  refine SxL.val trivial rfl rfl (fun ρ w E H => ex_move E rfl rfl) ?_
  refine SxL.val (v := .pointer (some ⟨g, 0, none⟩)) trivial rfl rfl (fun ρ w E H => ex_nilCheck E rfl rfl) ?_
  refine SxL.val (v := .pointer (some ⟨g, 1, none⟩)) trivial rfl rfl (fun ρ w E H => ex_field E rfl fa_palaver_net_Net_1 rfl rfl) ?_
  refine SxL.val trivial rfl rfl (fun ρ w E H => ex_load1 E (H.get (i := 0) rfl) rfl rfl Tryz.underlying127 rfl rfl) ?_
  refine doneG (.tuple #[]) _ trivial rfl (fun ρ w E H => Hp.clearM (i := 2) E H rfl rfl Tryz.underlying127 rfl) ?_
  refine SxL.nil (SxN.then_ (SxC.seq (SxC.region ?_)))
  refine SxL.val trivial rfl rfl (fun ρ w E H => ex_assign E rfl rfl) ?_
  refine SxL.nil (SxN.then_ (SxC.ret ?_))
  refine SxX.done (.int .i64 0) (fun a w K H => res1 K rfl rfl) (fun w H => ?_)
  exact ⟨rfl, ⟨_, ⟨H.get (i := 0) rfl, H.get (i := 1) rfl, H.get (i := 2) rfl⟩, hv0, H.toOuts _ ⟨(fun b hb => by rw [List.mem_singleton.1 hb]; exact .inl (by simp)), (fun b hb => (hv0.in_ b hb).imp (fun h => by simp [h]) id), (fun b hb => .inl (by rw [List.mem_singleton.1 hb]; simp)), trivial⟩⟩⟩

end Go.Proofs.YteiaiilfekojfaaGreat.Net
end
section
set_option linter.unusedVariables false
set_option linter.unusedSimpArgs false
namespace Go.Proofs.YteiaiilfekojfaaGreat.Sx
open Go.RowKit DrawInv
theorem elem_of {P : Program} {t e : TypeId} (h : P.underlying t = some (.slice e)) : P.underlying t = some (.slice (P.elem t)) ∧ P.elem t = e := by
  have e1 : P.elem t = e := by unfold Program.elem; rw [h]
  rw [e1]
  exact ⟨h, rfl⟩
theorem sliced_zero (b i n : Nat) : sliced (some ⟨b, 0, none⟩) 0 i n 3 = .slice (some ⟨b, 0, none⟩) i n := by
  unfold sliced
  split
  · simp
  · simp [Addr.add_lit]
section
variable {P : Program} {ρ : Operand → Value} {o : Oper} {w : World} {vs : Vs} {t e : TypeId} {x y z u : Operand} {A : Option Addr} {n cap l h m : Nat} {v : Value} {i : TypeInfo}
theorem ex_slLHM (E : Env vs ρ) (ho : o.op = .slice t x (some y) (some z) (some u)) (ht : P.underlying t = some (.slice e)) (hi : (P.info? e).map (·.size) = some 3) (hx : opv vs x = some (.slice A n cap)) (hy : opv vs y = some (.int .i64 (l : Int))) (hz : opv vs z = some (.int .i64 (h : Int))) (hu : opv vs u = some (.int .i64 (m : Int))) (h1 : l ≤ h) (h2 : h ≤ m) (h3 : m ≤ cap) :
    (execOp ρ o).run P w = .ok (.value (sliced A l h m 3)) w := by
  obtain ⟨he, hee⟩ := elem_of ht
  unfold execOp; rw [ho]
  have h := run_slice_lhm (P := P) w t A n cap he .i64 .i64 .i64 (l : Int) (h : Int) (m : Int) (by omega) (by omega) (by omega) (by omega)
  have hs : (sizeOf e).run P w = .ok 3 w := by
    cases hj : P.info? e with
    | none => rw [hj] at hi; cases hi
    | some i => rw [hj] at hi; injection hi with hi; simp [sizeOf, typeInfo, hj, hi]
  simp only [Int.toNat_natCast, hee, hs, Result.andThen_ok] at h
  simp only [E.ev hx, E.ev hy, E.ev hz, E.ev hu, Option.map_some, Option.map_none, Instr.sliceAt, Sem.run_bind, run_underlying ht, h, Result.andThen_ok, Sem.run_pure]
theorem ex_slLH (E : Env vs ρ) (ho : o.op = .slice t x (some y) (some z) none) (ht : P.underlying t = some (.slice e)) (hi : (P.info? e).map (·.size) = some 3) (hx : opv vs x = some (.slice A n cap)) (hy : opv vs y = some (.int .i64 (l : Int))) (hz : opv vs z = some (.int .i64 (h : Int))) (h1 : l ≤ h) (h2 : h ≤ cap) (hv : sliced A l h cap 3 = v) :
    (execOp ρ o).run P w = .ok (.value v) w := by
  subst hv
  obtain ⟨he, hee⟩ := elem_of ht
  unfold execOp; rw [ho]
  have h := run_slice_lh (P := P) w t A n cap he .i64 .i64 (l : Int) (h : Int) (by omega) (by omega) (by omega)
  have hs : (sizeOf e).run P w = .ok 3 w := by
    cases hj : P.info? e with
    | none => rw [hj] at hi; cases hi
    | some i => rw [hj] at hi; injection hi with hi; simp [sizeOf, typeInfo, hj, hi]
  simp only [Int.toNat_natCast, hee, hs, Result.andThen_ok] at h
  simp only [E.ev hx, E.ev hy, E.ev hz, Option.map_some, Option.map_none, Instr.sliceAt, Sem.run_bind, run_underlying ht, h, Result.andThen_ok, Sem.run_pure]
theorem ex_slH (E : Env vs ρ) (ho : o.op = .slice t x none (some z) none) (ht : P.underlying t = some (.slice e)) (hi : (P.info? e).map (·.size) = some 3) (hx : opv vs x = some (.slice A n cap)) (hz : opv vs z = some (.int .i64 (h : Int))) (h2 : h ≤ cap) (hv : sliced A 0 h cap 3 = v) :
    (execOp ρ o).run P w = .ok (.value v) w := by
  subst hv
  obtain ⟨he, hee⟩ := elem_of ht
  unfold execOp; rw [ho]
  have h := run_slice_h (P := P) w t A n cap he .i64 (h : Int) (by omega) (by omega)
  have hs : (sizeOf e).run P w = .ok 3 w := by
    cases hj : P.info? e with
    | none => rw [hj] at hi; cases hi
    | some i => rw [hj] at hi; injection hi with hi; simp [sizeOf, typeInfo, hj, hi]
  simp only [Int.toNat_natCast, hee, hs, Result.andThen_ok] at h
  simp only [E.ev hx, E.ev hz, Option.map_some, Option.map_none, Instr.sliceAt, Sem.run_bind, run_underlying ht, h, Result.andThen_ok, Sem.run_pure]
theorem ex_slL (E : Env vs ρ) (ho : o.op = .slice t x (some y) none none) (ht : P.underlying t = some (.slice e)) (hi : (P.info? e).map (·.size) = some 3) (hx : opv vs x = some (.slice A n cap)) (hy : opv vs y = some (.int .i64 (l : Int))) (h1 : l ≤ n) (hv : sliced A l n cap 3 = v) :
    (execOp ρ o).run P w = .ok (.value v) w := by
  subst hv
  obtain ⟨he, hee⟩ := elem_of ht
  unfold execOp; rw [ho]
  have h := run_slice_l (P := P) w t A n cap he .i64 (l : Int) (by omega) (by omega)
  have hs : (sizeOf e).run P w = .ok 3 w := by
    cases hj : P.info? e with
    | none => rw [hj] at hi; cases hi
    | some i => rw [hj] at hi; injection hi with hi; simp [sizeOf, typeInfo, hj, hi]
  simp only [Int.toNat_natCast, hee, hs, Result.andThen_ok] at h
  simp only [E.ev hx, E.ev hy, Option.map_some, Option.map_none, Instr.sliceAt, Sem.run_bind, run_underlying ht, h, Result.andThen_ok, Sem.run_pure]
end
theorem putL_at : ∀ (l pre rest suf : List Value), rest.length = l.length → putL (pre ++ (rest ++ suf)) pre.length l = pre ++ (l ++ suf)
  | [], pre, rest, suf, h => by
    cases rest with
    | nil => rfl
    | cons a b => simp at h
  | v :: l, pre, rest, suf, h => by
    cases rest with
    | nil => simp at h
    | cons a rest =>
      unfold putL
      have e : (pre ++ (a :: rest ++ suf)).set pre.length v = (pre ++ [v]) ++ (rest ++ suf) := by simp
      have ih := putL_at l (pre ++ [v]) rest suf (by simpa using h)
      rw [List.length_append, List.length_singleton] at ih
      rw [e, ih]
      simp
section
variable {P : Program} {ops : Array Oper} {Q : Exit → Act → World → Prop} {n : Nat} {vs : Vs} {w0 : World} {L : List Ft} {o : Oper} {rest : List Oper} {S : World → Prop} {fuel : Nat} {listed : Array Bool}
theorem Hp.turned {w w' : World} (H : Hp w0 L w) {j g : Nat} {t : TypeId} {cs cs' : List Value} (hj : nth L j = some (cell g t cs)) (hb : Blk w' g t cs'.toArray) (hg : w.grownBy w' (some g)) : Hp w0 (putF L j (cell g t cs')) w' :=
  H.chg hj (cell g t cs') (Outs.of_grown hg (List.mem_singleton.2 rfl)) (cell_loc _ _ _) (fun g' hg' => by
    obtain rfl := List.mem_singleton.1 hg'
    exact ⟨hb.lt, .inl (List.mem_singleton.2 rfl)⟩) (fun g' hg' => .inl hg') hb
theorem run_clear_three {P : Program} (w : World) (t e ty : TypeId) (z : Value) (zs : List Value) (ht : P.underlying t = some (.slice e)) (hv : (P.info? e).bind (·.zero) = some z) (hz : z.cells.toList = zs) (h1 : ∀ u ∈ zs, u.oneCell' = true) (b o c : Nat)
    (hc : ∀ j, j < zs.length → (w.cell? ⟨b, o + j, none⟩).isSome = true) (hf : ∀ j, j < zs.length → w.frozen? ⟨b, o + j, none⟩ = false) :
    (Builtin.clear_ #[t] ty #[.slice (some ⟨b, o, none⟩) 1 c]).run P w = .ok (.tuple #[]) (w.setCells b o zs) := by
  have hzc : (Builtin.zeroCells z.cells 1).toList = zs := by
    rw [← hz]
    simp only [Builtin.zeroCells]
    apply List.ext_getElem
    · simp
    · intro i h1 h2
      simp at h1 h2 ⊢
      rw [Nat.mod_eq_of_lt h1]
      exact getElem!_pos z.cells i h1
  have hst := run_storeCells_cells (P := P) b o zs 0 w (by simpa using hc) (by simpa using hf) h1
  simp only [Nat.add_zero] at hst
  have hzv : (zeroValue e).run P w = .ok z w := by
    cases hi : P.info? e with
    | none => rw [hi] at hv; cases hv
    | some i =>
      rw [hi] at hv
      have hz : i.zero = some z := hv
      simp [zeroValue, typeInfo, hi, hz]
  simp [Builtin.clear_, run_underlying ht, hzv, hzc, hst]
theorem Hp.clear3 {P : Program} {ρ : Operand → Value} {vs : Vs} {w0 w : World} {L : List Ft} {o : Oper} {j g t et off c : Nat} {x : Operand} {z : Value} {cs cs' zs : List Value} (E : Env vs ρ) (H : Hp w0 L w) (hj : nth L j = some (cell g et cs)) (ho : o.op = .call { callee := .builtin .clear, args := #[x], argTypes := #[t] }) (ht : P.underlying t = some (.slice et)) (hv : (P.info? et).bind (·.zero) = some z) (hz : z.cells.toList = zs) (h1 : ∀ u ∈ zs, u.oneCell' = true) (hx : opv vs x = some (.slice (some ⟨g, off, none⟩) 1 c)) (hlen : off + zs.length ≤ cs.length) (hput : putL cs off zs = cs') :
    ∃ (_ : Unit) (w' : World), (execOp ρ o).run P w = .ok (.value (.tuple #[])) w' ∧ True ∧ Hp w0 (putF L j (cell g et cs')) w' := by
  subst hput
  have hb : Blk w g et cs.toArray := H.get hj
  have hr := run_clear_three (P := P) w t et o.type z zs ht hv hz h1 g off c (fun k hk => by
    rw [hb.cell, List.getElem?_toArray, List.getElem?_eq_getElem (by omega)]; rfl) (fun k _ => hb.frozen _)
  have hb2 : Blk (w.setCells g off zs) g et (putL cs off zs).toArray := by rw [← putL_is]; exact Blk.setCells zs off hb
  refine ⟨(), w.setCells g off zs, ?_, trivial, H.turned hj hb2 (grown_setCells zs off (World.grownBy.refl w _))⟩
  unfold execOp
  rw [ho]
  simp [E.ev hx, resolve, invoke, builtin, hr]
/-- An append that has room: the new elements are laid behind. -/
theorem SxO.appRoom {i j d g t et l m cap c : Nat} {o : Oper} {s x : Operand} {cs cs' news : List Value} {A : Option Addr} (hi : ops[i]? = some o) (hon : GOn ops vs o.guard) (hd : o.dst = some d) (hdn : Nat.blt d n = true) (ho : o.op = .call { callee := .builtin .append, args := #[s, x], argTypes := #[t, t] }) (ht : P.underlying t = some (.slice et)) (hz : (P.info? et).map (·.size) = some 3)
    (hs : opv vs s = some (.slice (some ⟨g, 0, none⟩) l cap)) (hx : opv vs x = some (.slice A m c)) (hj : nth L j = some (cell g et cs)) (hnl : news.length = m * 3) (hA : ∃ ad, A = some ad ∧ ∀ w, Blk w g et cs.toArray → ∀ k u, news[k]? = some u → w.cell? (ad.add k) = some u) (h1 : ∀ u ∈ news, u.oneCell' = true) (hroom : l + m ≤ cap) (hcl : (l + m) * 3 ≤ cs.length) (hput : putL cs (l * 3) news = cs')
    (hS : ∀ w, Hp w0 (putF L j (cell g et cs')) w → S w) (h : SxA P ops Q S fuel (listed.setIfInBounds i true) n ((d, .slice (some ⟨g, 0, none⟩) (l + m) cap) :: vs) w0 (putF L j (cell g et cs'))) : SxO P ops Q S fuel listed i n vs w0 L := fun a w K H _ => by
  subst hput
  obtain ⟨ad, rfl, hA⟩ := hA
  refine op_on hi (hon.on K.env) ?_
  unfold Oper.wp
  have hb : Blk w g et cs.toArray := H.get hj
  have hrun : (execOp a.eval o).run P w = .ok (.value (.slice (some ⟨g, 0, none⟩) (l + m) cap)) (w.setCells g (l * 3) news) := by
    cases hinf : P.info? et with
    | none => rw [hinf] at hz; cases hz
    | some i =>
      rw [hinf] at hz
      injection hz with hz
      have hz : i.size = 3 := hz
      have hr := run_append_room_cells (P := P) (w := w) t o.type et i ht hinf g 0 l cap ad m c news (by rw [hz]; exact hnl) (hA w hb) h1 hroom (fun k hk => by
        have := hb.cell (0 + l * i.size + k)
        rw [this, hz, List.getElem?_toArray, List.getElem?_eq_getElem (by omega)]; rfl) (fun k _ => hb.frozen _)
      rw [hz, Nat.zero_add] at hr
      unfold execOp
      rw [ho]
      simp [K.env.ev hs, K.env.ev hx, resolve, invoke, builtin, hr]
  rw [hrun]
  show S _ ∧ wpAnyH _ _ _ _ _ _ _ (a.put o.dst _) _
  rw [hd]
  have hb2 : Blk (w.setCells g (l * 3) news) g et (putL cs (l * 3) news).toArray := by rw [← putL_is]; exact Blk.setCells news (l * 3) hb
  have H2 := H.turned hj hb2 (grown_setCells news (l * 3) (World.grownBy.refl w _))
  exact ⟨hS _ H2, h _ _ (K.put hdn _) H2 (hS _ H2)⟩
end
end Go.Proofs.YteiaiilfekojfaaGreat.Sx
end
section
set_option linter.unusedVariables false
set_option linter.unusedSimpArgs false
namespace Go.Proofs.YteiaiilfekojfaaGreat.Net
open Go.RowKit Sx Wire DrawInv
set_option maxRecDepth 100000 in
set_option maxHeartbeats 4000000 in
theorem del_lit (b n cap i : Nat) (cA cX cD cT : List Value)  (w : World) (hb0 : Blk w b 134 (cA ++ ((cX ++ cD) ++ cT)).toArray) (hi : i < n) (hn : n ≤ cap) (hc2 : cap ≤ 9223372036854775807) (hA : cA.length = i * 3) (hX : cX.length = 3) (hD : cD.length = (n - 1 - i) * 3) (hone : ∀ u ∈ cD, u.oneCell' = true) : Calls Tryz.prog 66 #[.slice (some ⟨b, 0, none⟩) n cap, .int .i64 (i : Int), .int .i64 ((i + 1 : Nat) : Int)] w fun e w' => e = .returned (.slice (some ⟨b, 0, none⟩) (n - 1) cap) ∧ Blk w' b 134 (cA ++ ((cD ++ ([.int .u8 0, .int .u8 0, .string ⟨[].toArray⟩] : List Value)) ++ cT)).toArray ∧ w.grownBy w' (some b) := by
  have hput1 : putL (cA ++ ((cX ++ cD) ++ cT)) (i * 3) cD = (cA ++ ((cD ++ (cX ++ cD).drop cD.length) ++ cT)) := by
    have e : cX ++ cD = (cX ++ cD).take cD.length ++ (cX ++ cD).drop cD.length := (List.take_append_drop _ _).symm
    have h := putL_at cD cA ((cX ++ cD).take cD.length) ((cX ++ cD).drop cD.length ++ cT) (by rw [List.length_take, List.length_append]; omega)
    rw [hA, ← List.append_assoc ((cX ++ cD).take cD.length), ← e] at h
    rw [h, ← List.append_assoc cD]
  have hput2 : putL (cA ++ ((cD ++ (cX ++ cD).drop cD.length) ++ cT)) ((n - 1) * 3) [.int .u8 0, .int .u8 0, .string ⟨[].toArray⟩] = (cA ++ ((cD ++ ([.int .u8 0, .int .u8 0, .string ⟨[].toArray⟩] : List Value)) ++ cT)) := by
    have h := putL_at [.int .u8 0, .int .u8 0, .string ⟨[].toArray⟩] (cA ++ cD) ((cX ++ cD).drop cD.length) cT (by simp [hX])
    have hl : (cA ++ cD).length = (n - 1) * 3 := by rw [List.length_append, hA, hD]; omega
    rw [hl] at h
    simp only [List.append_assoc] at h ⊢
    exact h
  have hsrc : ∃ ad : Addr, (if cap = i + 1 then some (⟨b, 0, none⟩ : Addr) else some ⟨b, (i + 1) * 3, none⟩) = some ad ∧ ∀ w, Blk w b 134 (cA ++ ((cX ++ cD) ++ cT)).toArray → ∀ k u, cD[k]? = some u → w.cell? (ad.add k) = some u := by
    by_cases hc : cap = i + 1
    · refine ⟨_, by rw [if_pos hc], fun w _ k u hu => ?_⟩
      have : cD.length = 0 := by rw [hD]; omega
      rw [List.length_eq_zero_iff.1 this] at hu
      simp at hu
    · refine ⟨_, by rw [if_neg hc], fun w hb k u hu => ?_⟩
      have hk : k < cD.length := (List.getElem?_eq_some_iff.1 hu).1
      rw [Addr.add_lit, hb.cell, List.getElem?_toArray, List.getElem?_append_right (by omega), List.append_assoc, List.getElem?_append_right (by omega), List.getElem?_append_left (by omega), ← hu]
      congr 1
      omega
  have hzo : ∀ u ∈ ([.int .u8 0, .int .u8 0, .string ⟨[].toArray⟩] : List Value), u.oneCell' = true := by
    intro u hu
    simp only [List.mem_cons, List.not_mem_nil, or_false] at hu
    rcases hu with rfl | rfl | rfl <;> rfl
  refine sx_enter (n := 33) _ Tryz.func66 rfl rfl rfl ((Hp.start w).know _ (cell_loc b _ _) (fun g hg => by obtain rfl := List.mem_singleton.1 hg; exact ⟨Blk.lt hb0, fun q hq => by cases hq⟩) hb0) ?_
  refine SxC.seq (SxC.region ?_)
  refine SxL.val trivial rfl rfl (fun ρ w E H => ex_assign E rfl rfl) ?_
  refine SxL.nil (SxN.then_ (SxC.seq (SxC.region ?_)))
  iterate 4 refine SxL.val trivial rfl rfl (fun ρ w E H => ex_move E rfl rfl) ?_
  refine SxL.val (v := .int .i64 (n : Int)) trivial rfl rfl (fun ρ w E H => ex_lenS E rfl Tryz.underlying128 rfl) ?_
  refine SxL.val (v := sliced (some ⟨b, 0, none⟩) i (i + 1) n 3) trivial rfl rfl (fun ρ w E H => ex_slLHM E rfl Tryz.underlying128 sz_palaver_net_parcel rfl rfl rfl rfl (by omega) (by omega) (by omega)) ?_
  refine SxL.nil (SxN.then_ (SxC.seq (SxC.seq (SxC.region ?_))))
  iterate 2 refine SxL.val trivial rfl rfl (fun ρ w E H => ex_move E rfl rfl) ?_
  refine SxL.val (v := .bool false) trivial rfl rfl (fun ρ w E H => ex_cmp E rfl rfl rfl rfl (by simp [cmpB]; omega)) ?_
  refine SxL.nil (SxN.then_ (SxC.condF rfl (SxC.skip (SxN.then_ (SxC.seq (SxC.region ?_))))))
  refine SxL.val trivial rfl rfl (fun ρ w E H => ex_move E rfl rfl) ?_
  refine SxL.val (v := .int .i64 (n : Int)) trivial rfl rfl (fun ρ w E H => ex_lenS E rfl Tryz.underlying128 rfl) ?_
  refine SxL.val trivial rfl rfl (fun ρ w E H => ex_assign E rfl rfl) ?_
  refine SxL.nil (SxN.then_ (SxC.seq ?_))
  refine SxC.drawnK [b] [] (by kernel_rfl) rfl ⟨(fun g hg => by rw [List.mem_singleton.1 hg]; exact .inl (by simp)), trivial⟩ ?_
  refine SxA.take (i := 0) rfl (by kernel_rfl) (by kernel_rfl) (by kernel_rfl) rfl rfl (fun _ _ _ h => h) trivial (fun ρ w E H => ex_move E rfl rfl) ?_
  refine SxA.take (i := 1) rfl (by kernel_rfl) (by kernel_rfl) (by kernel_rfl) rfl rfl (fun _ _ _ h => h) trivial (fun ρ w E H => ex_move E rfl rfl) ?_
  refine SxA.take (i := 2) (v := .slice (some ⟨b, 0, none⟩) i cap) rfl (by kernel_rfl) (by kernel_rfl) (by kernel_rfl) rfl rfl (fun _ _ _ h => h) trivial (fun ρ w E H => ex_slH E rfl Tryz.underlying128 sz_palaver_net_parcel rfl rfl (by omega) (sliced_zero b i cap)) ?_
  refine SxA.take (i := 3) rfl (by kernel_rfl) (by kernel_rfl) (by kernel_rfl) rfl rfl (fun _ _ _ h => h) trivial (fun ρ w E H => ex_move E rfl rfl) ?_
  refine SxA.take (i := 4) rfl (by kernel_rfl) (by kernel_rfl) (by kernel_rfl) rfl rfl (fun _ _ _ h => h) trivial (fun ρ w E H => ex_move E rfl rfl) ?_
  refine SxA.take (i := 5) (v := .slice (if cap = i + 1 then some (⟨b, 0, none⟩ : Addr) else some ⟨b, (i + 1) * 3, none⟩) (n - (i + 1)) (cap - (i + 1))) rfl (by kernel_rfl) (by kernel_rfl) (by kernel_rfl) rfl rfl (fun _ _ _ h => h) trivial (fun ρ w E H => ex_slL E rfl Tryz.underlying128 sz_palaver_net_parcel rfl rfl (by omega) (by unfold sliced; split <;> rename_i hh <;> simp [hh, Addr.add_lit])) ?_
  refine SxA.ready [6] (by kernel_rfl) (by simp) ⟨?_, trivial⟩
  refine SxO.appRoom (j := 0) (m := n - (i + 1)) (news := cD) (cs' := (cA ++ ((cD ++ (cX ++ cD).drop cD.length) ++ cT))) rfl trivial rfl rfl rfl Tryz.underlying128 sz_palaver_net_parcel rfl rfl rfl (by rw [hD]; omega) hsrc hone (by omega) (by simp only [List.length_append, hA, hX, hD]; omega) hput1 (fun w H => H.ks [b] [] rfl ⟨(fun g hg => by rw [List.mem_singleton.1 hg]; exact .inl (by simp)), trivial⟩) ?_
  rw [show i + (n - (i + 1)) = n - 1 by omega]
  refine SxA.take (i := 7) rfl (by kernel_rfl) (by kernel_rfl) (by kernel_rfl) rfl rfl (fun _ _ _ h => h) trivial (fun ρ w E H => ex_assign E rfl rfl) ?_
  refine SxA.done (by kernel_rfl) ?_
  refine SxN.then_ (SxC.seq (SxC.region ?_))
  iterate 2 refine SxL.val trivial rfl rfl (fun ρ w E H => ex_move E rfl rfl) ?_
  refine SxL.val (v := .int .i64 ((n - 1 : Nat) : Int)) trivial rfl rfl (fun ρ w E H => ex_lenS E rfl Tryz.underlying128 rfl) ?_
  refine SxL.val trivial rfl rfl (fun ρ w E H => ex_move E rfl rfl) ?_
  refine SxL.val (v := .slice (some ⟨b, (n - 1) * 3, none⟩) 1 (cap - (n - 1))) trivial rfl rfl (fun ρ w E H => ex_slLH (l := n - 1) (h := n) E rfl Tryz.underlying128 sz_palaver_net_parcel rfl rfl rfl (by omega) (by omega) (by unfold sliced; rw [if_neg (by omega), show n - (n - 1) = 1 by omega]; simp [Addr.add_lit])) ?_
  refine doneG (.tuple #[]) _ trivial rfl (fun ρ w E H => Hp.clear3 (j := 0) (zs := [.int .u8 0, .int .u8 0, .string ⟨[].toArray⟩]) (cs' := (cA ++ ((cD ++ ([.int .u8 0, .int .u8 0, .string ⟨[].toArray⟩] : List Value)) ++ cT))) E H rfl rfl Tryz.underlying128 zr_palaver_net_parcel rfl hzo rfl (by simp only [List.length_append, List.length_drop, hA, hX, hD, List.length_cons, List.length_nil]; omega) hput2) ?_
  refine SxL.nil (SxN.then_ (SxC.seq (SxC.region ?_)))
  refine SxL.val trivial rfl rfl (fun ρ w E H => ex_move E rfl rfl) ?_
  refine SxL.val trivial rfl rfl (fun ρ w E H => ex_assign E rfl rfl) ?_
  refine SxL.nil (SxN.then_ (SxC.ret ?_))
  refine SxX.done (.slice (some ⟨b, 0, none⟩) (n - 1) cap) (fun a w K H => res1 K rfl rfl) (fun w H => ?_)
  exact ⟨rfl, H.get (i := 0) rfl, H.toGrown b ⟨(fun g hg => .inl (List.mem_singleton.1 hg)), trivial⟩⟩
end Go.Proofs.YteiaiilfekojfaaGreat.Net
end
section
set_option linter.unusedVariables false
set_option linter.unusedSimpArgs false
namespace Go.Proofs.YteiaiilfekojfaaGreat.Net
open Go.RowKit Sx Wire DrawInv
def KpL (Lp : Nat → Prop) (A B : World) : Prop := ∀ i, Lp i → B.heap[i]? = A.heap[i]?
theorem KpL.trans {Lp : Nat → Prop} {A B C : World} (h : KpL Lp A B) (k : KpL Lp B C) : KpL Lp A C := fun i hi => (k i hi).trans (h i hi)
theorem KpL.lt {Lp : Nat → Prop} {A B : World} (h : KpL Lp A B) {i : Nat} (hi : Lp i) (hl : i < A.heap.size) : i < B.heap.size := by
  rcases Nat.lt_or_ge i B.heap.size with h' | h'
  · exact h'
  · have := h i hi
    rw [Array.getElem?_eq_none h', Array.getElem?_eq_getElem hl] at this
    cases this
theorem KpL.below {Lp : Nat → Prop} {A B C : World} (h : KpL Lp A B) (hL : ∀ i, Lp i → i < A.heap.size) (hb : Below B.heap.size B C) : KpL Lp A C := h.trans fun i hi => hb.block i (h.lt hi (hL i hi))
theorem own_read {w : World} {base e n c : Nat} {A : Option Addr} {l : List Pa} (h : w.ownsRow base e 3 (.slice A n c) l.length (l.flatMap paL)) : Rows w A 3 paL l := by
  obtain ⟨A', c', e', _, hr⟩ := own_rows paL_len (by decide) h
  injection e' with e1 e2 e3
  subst e1
  exact hr
def hasB (bag : List Pa) (f t i : Nat) : Bool := match bag[i]? with | some p => decide ((p.src, p.dst) = (f, t)) | none => false
def idxs (bag : List Pa) (f t k : Nat) : List Nat := (List.range k).filter (hasB bag f t)
theorem idxs_succ (bag : List Pa) (f t k : Nat) : idxs bag f t (k + 1) = idxs bag f t k ++ (if hasB bag f t k = true then [k] else []) := by
  unfold idxs
  rw [List.range_succ, List.filter_append]
  simp [List.filter_cons]
theorem idxs_pre (bag : List Pa) (f t : Nat) : ∀ d k, idxs bag f t k <+: idxs bag f t (k + d)
  | 0, k => List.prefix_refl _
  | d + 1, k => by
    refine (idxs_pre bag f t d k).trans ?_
    rw [show k + (d + 1) = k + d + 1 from rfl, idxs_succ]
    exact List.prefix_append _ _
theorem idxs_len (bag : List Pa) (f t k : Nat) : (idxs bag f t k).length ≤ k := Nat.le_trans (List.length_filter_le _ _) (by simp)
theorem idxs_lt (bag : List Pa) (f t k x : Nat) (h : x ∈ idxs bag f t k) : x < k ∧ hasB bag f t x = true := by
  unfold idxs at h
  rw [List.mem_filter, List.mem_range] at h
  exact h
theorem netF_kpl {base g gm : Nat} {Ab : Option Addr} {cb : Nat} {bag : List Pa} {M : CutM} {W0 w : World} {Lp : Nat → Prop} (hn : (netF base g gm (.slice Ab bag.length cb) bag M).φ W0) (hLg : Lp g) (hLr : ∀ r ∈ (Value.slice Ab bag.length cb).ownBlock.toList, Lp r) (hk : KpL Lp W0 w) :
    Blk w g 130 #[.slice Ab bag.length cb, .map (some gm)] ∧ Rows w Ab 3 paL bag := by
  refine ⟨(hk g hLg).trans hn.1, own_read (rowX_loc [] base _ 3 _ _ _ W0 w (fun b hb => ?_) hn.2.1)⟩
  exact hk b (hLr b (by simpa [rowX] using hb))

/-- What of hands back. -/
def OfRet (w : World) (g f t : Nat) (e : Ending) (w' : World) : Prop :=
  ∃ bn bf bt, e = .returned (.func (.func 109) #[] #[.pointer (some ⟨bn, 0, none⟩), .pointer (some ⟨bf, 0, none⟩), .pointer (some ⟨bt, 0, none⟩)]) ∧ Blk w' bn 48 #[.pointer (some ⟨g, 0, none⟩)] ∧ Blk w' bf 5 #[.int .u8 (f : Int)] ∧ Blk w' bt 5 #[.int .u8 (t : Int)] ∧
    w.heap.size ≤ bn ∧ w.heap.size ≤ bf ∧ w.heap.size ≤ bt ∧ Below w.heap.size w w'

set_option maxRecDepth 100000 in
set_option maxHeartbeats 4000000 in
theorem of_any (g f t : Nat)  (w : World) : Calls Tryz.prog 76 #[.pointer (some ⟨g, 0, none⟩), .int .u8 (f : Int), .int .u8 (t : Int)] w fun e w' => OfRet w g f t e w' := by
  refine sx_enter (n := 8) _ Tryz.func76 rfl rfl rfl (Hp.start w) ?_
  refine SxC.seq (SxC.region ?_)
  refine SxL.new (cs := [.pointer (some ⟨g, 0, none⟩)]) trivial rfl rfl (fun ρ w E H => ex_box E rfl rfl rfl) fun g1 hg1 => ?_
  refine SxL.new (cs := [.int .u8 (f : Int)]) trivial rfl rfl (fun ρ w E H => ex_box E rfl rfl rfl) fun g2 hg2 => ?_
  refine SxL.new (cs := [.int .u8 (t : Int)]) trivial rfl rfl (fun ρ w E H => ex_box E rfl rfl rfl) fun g3 hg3 => ?_
  refine SxL.val trivial rfl rfl (fun ρ w E H => ex_assign E rfl rfl) ?_
  refine SxL.nil (SxN.then_ (SxC.seq (SxC.region ?_)))
  refine SxL.val (v := .func (.func 109) #[] #[.pointer (some ⟨g1, 0, none⟩), .pointer (some ⟨g2, 0, none⟩), .pointer (some ⟨g3, 0, none⟩)]) trivial rfl rfl (fun ρ w E H => ex_makeFunc E rfl rfl rfl) ?_
  refine SxL.val trivial rfl rfl (fun ρ w E H => ex_assign E rfl rfl) ?_
  refine SxL.nil (SxN.then_ (SxC.ret ?_))
  refine SxX.done (.func (.func 109) #[] #[.pointer (some ⟨g1, 0, none⟩), .pointer (some ⟨g2, 0, none⟩), .pointer (some ⟨g3, 0, none⟩)]) (fun a w K H => res1 K rfl rfl) (fun w H => ?_)
  exact ⟨_, _, _, rfl, H.get (i := 2) rfl, H.get (i := 1) rfl, H.get (i := 0) rfl, hg1, hg2, hg3, H.toBelow ⟨(fun g hg => by rw [List.mem_singleton.1 hg]; exact hg3), (fun g hg => by rw [List.mem_singleton.1 hg]; exact hg2), (fun g hg => by rw [List.mem_singleton.1 hg]; exact hg1), trivial⟩⟩

set_option maxRecDepth 100000 in
set_option maxHeartbeats 4000000 in
theorem of_in (m base g gm : Nat) (Ab : Option Addr) (cb : Nat) (bag : List Pa) (M : CutM) (bn bf bt f t l : Nat) (W0 : World) (Lp : Nat → Prop) (J Jx : List Nat → World → Prop)  (w : World) (hn : (netF base g gm (.slice Ab bag.length cb) bag M).φ W0) (hLg : Lp g) (hLr : ∀ r ∈ (Value.slice Ab bag.length cb).ownBlock.toList, Lp r) (kn : Blk W0 bn 48 #[.pointer (some ⟨g, 0, none⟩)]) (kf : Blk W0 bf 5 #[.int .u8 (f : Int)]) (kt : Blk W0 bt 5 #[.int .u8 (t : Int)]) (h1 : Lp bn) (h2 : Lp bf) (h3 : Lp bt) (hL : ∀ i, Lp i → i < W0.heap.size) (hb : bag.length ≤ 512) (hk : KpL Lp W0 w) (hJ : ∀ (X Y : World) (pre : List Nat), J pre X → Below X.heap.size X Y → J pre Y) (hJx : ∀ (X Y : World) (pre : List Nat), Jx pre X → Below X.heap.size X Y → Jx pre Y) (hY : ∀ (pre : List Nat) (x : Nat) (W1 : World), x < bag.length → J pre W1 → pre.length < 513 → YieldAt Fence.wide (m - 1) Tryz.prog l #[.int .i64 (x : Int)] W1 fun e W' => (e = .returned (.bool true) ∧ J (pre ++ [x]) W' ∧ KpL Lp W1 W') ∨ (e = .returned (.bool false) ∧ Jx (pre ++ [x]) W')) (h0 : J [] w) : Calls Tryz.prog 109 #[.func (.yield l) #[] #[], .pointer (some ⟨bn, 0, none⟩), .pointer (some ⟨bf, 0, none⟩), .pointer (some ⟨bt, 0, none⟩)] w fun e w' => (∃ v, e = .returned v) ∧ (J (idxs bag f t bag.length) w' ∨ ∃ pre, pre <+: idxs bag f t bag.length ∧ Jx pre w') := by
  have kn0 : Blk w bn _ _ := (hk bn h1).trans kn
  have kf0 : Blk w bf _ _ := (hk bf h2).trans kf
  have kt0 : Blk w bt _ _ := (hk bt h3).trans kt
  have kg0 := (netF_kpl hn hLg hLr hk).1
  refine sx_enter (n := 30) _ Tryz.func109 rfl rfl rfl (Hp.start w) ?_
  refine SxC.seq (SxC.region ?_)
  refine SxL.val trivial rfl rfl (fun ρ w E H => ex_load1 (cs := [.pointer (some ⟨g, 0, none⟩)]) E (Blk.below kn0 (H.toBelow trivial) (Blk.lt kn0)) rfl rfl Tryz.underlying48 rfl rfl) ?_
  refine SxL.val (v := .pointer (some ⟨g, 0, none⟩)) trivial rfl rfl (fun ρ w E H => ex_nilCheck E rfl rfl) ?_
  refine SxL.val (v := .pointer (some ⟨g, 0, none⟩)) trivial rfl rfl (fun ρ w E H => ex_field E rfl fa_palaver_net_Net_0 rfl rfl) ?_
  refine SxL.val trivial rfl rfl (fun ρ w E H => ex_load1 (cs := [.slice Ab bag.length cb, .map (some gm)]) E (Blk.below kg0 (H.toBelow trivial) (Blk.lt kg0)) rfl rfl Tryz.underlying128 rfl rfl) ?_
  refine SxL.val (v := .int .i64 (bag.length : Int)) trivial rfl rfl (fun ρ w E H => ex_lenS E rfl Tryz.underlying128 rfl) ?_
  refine SxL.val trivial rfl rfl (fun ρ w E H => ex_move E rfl rfl) ?_
  refine SxL.nil (SxN.then_ (SxC.block ?_))
  refine SxC.loopW (fun (i : Nat) => [(0, .func (.yield l) #[] #[]), (1, .pointer (some ⟨bn, 0, none⟩)), (2, .pointer (some ⟨bf, 0, none⟩)), (3, .pointer (some ⟨bt, 0, none⟩)), (10, .slice Ab bag.length cb), (11, .int .i64 (bag.length : Int)), (12, .int .i64 (i : Int))]) (fun gk i w => i + gk = bag.length ∧ J (idxs bag f t i) w ∧ KpL Lp W0 w) bag.length 0 (fun w H => ⟨by omega, hJ _ _ _ h0 (H.toBelow trivial), hk.below hL (H.toBelow trivial)⟩) ⟨rfl, rfl, rfl, rfl, rfl, rfl, rfl, trivial⟩ fun gk i w1 hF => ?_
  obtain ⟨hgk, hJ1, hK1⟩ := hF
  have kn1 : Blk w1 bn _ _ := (hK1 bn h1).trans kn
  have kf1 : Blk w1 bf _ _ := (hK1 bf h2).trans kf
  have kt1 : Blk w1 bt _ _ := (hK1 bt h3).trans kt
  obtain ⟨kg1, hrows⟩ := netF_kpl hn hLg hLr hK1
  have hpl : (idxs bag f t i).length < 513 := by have := idxs_len bag f t i; omega
  refine SxC.seq (SxC.region ?_)
  refine SxL.valB trivial rfl rfl (fun ρ w E H => ex_cmp E rfl rfl rfl rfl rfl) fun c13 hc13 => ?_
  refine SxL.nil (SxN.then_ (SxC.seq ?_))
  cases c13
  · refine SxC.condF rfl (SxC.exit (SxX.thenE (SxX.thenE (SxX.blockE ?_))))
    refine SxN.done (.tuple #[]) (fun a w K H => res0 rfl) (fun w H => ?_)
    have hle : bag.length ≤ i := by have h := hc13; simp [cmpB] at h; omega
    have e : i = bag.length := by omega
    subst e
    exact ⟨⟨_, rfl⟩, .inl (hJ _ _ _ hJ1 (H.toBelow trivial))⟩
  · refine SxC.condT rfl (SxC.skip (SxN.then_ (SxC.seq (SxC.block (SxC.seq ?_)))))
    have hkl : i < bag.length := by simpa [cmpB] using hc13
    obtain ⟨⟨ps, pd, pb⟩, hx⟩ : ∃ x, bag[i]? = some x := ⟨_, List.getElem?_eq_getElem hkl⟩
    obtain ⟨ad, rfl, -, -⟩ := hrows.row hx
    have hhas : hasB bag f t i = decide ((ps, pd) = (f, t)) := by unfold hasB; rw [hx]
    refine SxC.region ?_
    refine SxL.val trivial rfl rfl (fun ρ w E H => ex_move E rfl rfl) ?_
    refine SxL.val (v := .pointer (some (ad.add (i * 3)))) trivial rfl rfl (fun ρ w E H => ex_index (i := i) E rfl Tryz.underlying128 sz_palaver_net_parcel rfl rfl hkl) ?_
    refine SxL.val (v := .agg #[.int .u8 (ps : Int), .int .u8 (pd : Int), .string ⟨pb.toArray⟩]) trivial rfl rfl (fun ρ w E H => ex_loadX (cs := [.int .u8 (ps : Int), .int .u8 (pd : Int), .string ⟨pb.toArray⟩]) E ((hrows.below (H.toBelow trivial)).rowA hx) rfl rfl Tryz.underlying134 rfl sz_palaver_net_parcel) ?_
    refine SxL.new (cs := [.int .u8 0, .int .u8 0, .string ⟨[].toArray⟩]) trivial rfl rfl (fun ρ w E H => ex_alloc rfl zr_palaver_net_parcel rfl) fun g1 hg1 => ?_
    refine SxL.val trivial rfl rfl (fun ρ w E H => ex_assign E rfl rfl) ?_
    refine SxL.storeX (i := 0) [.int .u8 (ps : Int), .int .u8 (pd : Int), .string ⟨pb.toArray⟩] trivial rfl rfl rfl rfl rfl sz_palaver_net_parcel rfl rfl rfl (putL_all _ _ rfl) ?_
    refine SxL.nil (SxN.then_ (SxC.seq ?_))
    refine SxC.regionI m ?_
    refine SxI.val (v := .pointer (some ⟨g1, 0, none⟩)) trivial rfl rfl (fun ρ w E H => ex_field E rfl fa_palaver_net_parcel_0 rfl rfl) ?_
    refine SxI.val (v := .agg #[.int .u8 (ps : Int), .int .u8 (pd : Int)]) trivial rfl rfl (fun ρ w E H => ex_load (part := [.int .u8 (ps : Int), .int .u8 (pd : Int)]) E (H.get (i := 0) rfl) rfl rfl Tryz.underlying57 rfl sz_palaver_net_Pair rfl rfl) ?_
    refine SxI.val (v := .int .u8 (f : Int)) trivial rfl rfl (fun ρ w E H => ex_load1 (cs := [.int .u8 (f : Int)]) E (Blk.below kf1 (H.toBelow ⟨(fun g hg => by rw [List.mem_singleton.1 hg]; exact hg1), trivial⟩) (Blk.lt kf1)) rfl rfl Tryz.underlying5 rfl rfl) ?_
    refine SxI.val (v := .int .u8 (t : Int)) trivial rfl rfl (fun ρ w E H => ex_load1 (cs := [.int .u8 (t : Int)]) E (Blk.below kt1 (H.toBelow ⟨(fun g hg => by rw [List.mem_singleton.1 hg]; exact hg1), trivial⟩) (Blk.lt kt1)) rfl rfl Tryz.underlying5 rfl rfl) ?_
    refine SxI.val (v := .agg #[.int .u8 (f : Int), .int .u8 (t : Int)]) trivial rfl rfl (fun ρ w E H => ex_build (cs := [.int .u8 (f : Int), .int .u8 (t : Int)]) E rfl rfl (by kernel_rfl)) ?_
    refine SxI.valB trivial rfl rfl (fun ρ w E H => ex_aeql E rfl (by kernel_rfl) rfl rfl (fun w => eq_pair (ps, pd) (f, t) w)) fun c22 hc22 => ?_
    refine SxI.val (v := .bool c22) trivial rfl rfl (fun ρ w E H => ex_move E rfl rfl) ?_
    cases c22
    · refine SxI.off ⟨_, _, _, rfl, rfl, rfl, nofun⟩ rfl rfl ?_
      iterate 3 refine SxI.off ⟨_, _, _, rfl, rfl, rfl, nofun⟩ rfl rfl ?_
      refine SxI.val (v := .bool false) trivial rfl rfl (fun ρ w E H => ex_pick E rfl (t := false) rfl rfl) ?_
      refine SxI.nil ?_
      refine SxN.then_ (SxC.condF rfl (SxC.skip (SxN.block (SxN.then_ (SxC.region ?_)))))
      refine SxL.val (v := .int .i64 ((i + 1 : Nat) : Int)) trivial rfl rfl (fun ρ w E H => ex_add E rfl rfl rfl (by rw [IntKind.wrap_i64]; omega)) ?_
      refine SxL.val trivial rfl rfl (fun ρ w E H => ex_move E rfl rfl) ?_
      refine SxL.nil ?_
      refine SxN.backW (gk - 1) (i + 1) (by omega) (fun w H => ?_) ⟨rfl, rfl, rfl, rfl, rfl, rfl, rfl, trivial⟩
      have hB := H.toBelow ⟨(fun g hg => by rw [List.mem_singleton.1 hg]; exact hg1), trivial⟩
      exact ⟨by omega, by rw [idxs_succ, if_neg (by rw [hhas, hc22]; decide), List.append_nil]; exact hJ _ _ _ hJ1 hB, hK1.below hL hB⟩
    · refine SxI.val (v := .func (.yield l) #[] #[]) ⟨_, _, rfl, rfl, rfl⟩ rfl rfl (fun ρ w E H => ex_move E rfl rfl) ?_
      refine SxI.val (v := .int .i64 (i : Int)) ⟨_, _, rfl, rfl, rfl⟩ rfl rfl (fun ρ w E H => ex_move E rfl rfl) ?_
      refine SxI.yield (xs := [.int .i64 (i : Int)]) (R := fun b w' => (b = true ∧ J (idxs bag f t i ++ [i]) w' ∧ KpL Lp W0 w') ∨ (b = false ∧ Jx (idxs bag f t i ++ [i]) w')) ⟨_, _, rfl, rfl, rfl⟩ rfl rfl rfl rfl rfl (fun w H => ?_) (fun bb w3 hR => ?_)
      · have hB := H.toBelow ⟨(fun g hg => by rw [List.mem_singleton.1 hg]; exact hg1), trivial⟩
        have hJw := hJ _ _ _ hJ1 hB
        have hKw := hK1.below hL hB
        obtain ⟨fn, tmps, assign, body, hr, hR⟩ := hY _ i w hkl hJw hpl
        refine ⟨fn, tmps, assign, body, hr, hR.mono ?_⟩
        rintro e W' (⟨rfl, h4, h5⟩ | ⟨rfl, h4⟩)
        · exact ⟨true, rfl, .inl ⟨rfl, h4, hKw.trans h5⟩⟩
        · exact ⟨false, rfl, .inr ⟨rfl, h4⟩⟩
      cases bb
      · refine SxI.val (v := .bool true) ⟨_, _, rfl, rfl, rfl⟩ rfl rfl (fun ρ w E H => ex_not (t := false) E rfl rfl) ?_
        refine SxI.val (v := .bool true) trivial rfl rfl (fun ρ w E H => ex_pick E rfl (t := true) rfl rfl) ?_
        refine SxI.nil ?_
        refine SxN.then_ (SxC.condT rfl (SxC.ret (SxX.blockR (SxX.thenR (SxX.thenR (SxX.blockR ?_))))))
        refine SxX.done (.tuple #[]) (fun a w K H => res0 rfl) (fun w H => ?_)
        rcases hR with ⟨h, _⟩ | ⟨_, h4⟩
        · cases h
        · refine ⟨⟨_, rfl⟩, .inr ⟨_, ?_, hJx _ _ _ h4 (H.toBelow trivial)⟩⟩
          have e := idxs_succ bag f t i
          rw [if_pos (by rw [hhas]; exact hc22)] at e
          rw [← e]
          have := idxs_pre bag f t (bag.length - (i + 1)) (i + 1)
          rwa [show i + 1 + (bag.length - (i + 1)) = bag.length by omega] at this
      · refine SxI.val (v := .bool false) ⟨_, _, rfl, rfl, rfl⟩ rfl rfl (fun ρ w E H => ex_not (t := true) E rfl rfl) ?_
        refine SxI.val (v := .bool false) trivial rfl rfl (fun ρ w E H => ex_pick E rfl (t := true) rfl rfl) ?_
        refine SxI.nil ?_
        refine SxN.then_ (SxC.condF rfl (SxC.skip (SxN.block (SxN.then_ (SxC.region ?_)))))
        refine SxL.val (v := .int .i64 ((i + 1 : Nat) : Int)) trivial rfl rfl (fun ρ w E H => ex_add E rfl rfl rfl (by rw [IntKind.wrap_i64]; omega)) ?_
        refine SxL.val trivial rfl rfl (fun ρ w E H => ex_move E rfl rfl) ?_
        refine SxL.nil ?_
        refine SxN.backW (gk - 1) (i + 1) (by omega) (fun w H => ?_) ⟨rfl, rfl, rfl, rfl, rfl, rfl, rfl, trivial⟩
        rcases hR with ⟨_, h4, h5⟩ | ⟨h, _⟩
        · have hB := H.toBelow trivial
          have hL3 : ∀ i, Lp i → i < w3.heap.size := fun i hi => h5.lt hi (hL i hi)
          exact ⟨by omega, by rw [idxs_succ, if_pos (by rw [hhas]; exact hc22)]; exact hJ _ _ _ h4 hB, h5.below hL hB⟩
        · cases h
end Go.Proofs.YteiaiilfekojfaaGreat.Net
end
section
set_option linter.unusedVariables false
set_option linter.unusedSimpArgs false
namespace Go.Proofs.YteiaiilfekojfaaGreat.Net
open Go Go.RowKit DrawInv Sx Wire

attribute [local go_sem] Oper.semAt_some
theorem of_stops (m base g gm : Nat) (Ab : Option Addr) (cb : Nat) (bag : List Pa) (M : CutM) (bn bf bt f t : Nat) (w0 : World) (Lp : Nat → Prop) (hn : (netF base g gm (.slice Ab bag.length cb) bag M).φ w0) (hLg : Lp g) (hLr : ∀ r ∈ (Value.slice Ab bag.length cb).ownBlock.toList, Lp r)
    (kn : Blk w0 bn 48 #[.pointer (some ⟨g, 0, none⟩)]) (kf : Blk w0 bf 5 #[.int .u8 (f : Int)]) (kt : Blk w0 bt 5 #[.int .u8 (t : Int)]) (h1 : Lp bn) (h2 : Lp bf) (h3 : Lp bt) (hL : ∀ i, Lp i → i < w0.heap.size) (hb : bag.length ≤ 512) :
    SeqStopsB Fence.wide m Tryz.prog 109 #[] #[.pointer (some ⟨bn, 0, none⟩), .pointer (some ⟨bf, 0, none⟩), .pointer (some ⟨bt, 0, none⟩)] (fun x : Nat => #[Value.int .i64 (x : Int)]) (KpL Lp) (fun xs => xs = idxs bag f t bag.length) (fun pre => pre <+: idxs bag f t bag.length) 513 w0 := by
  intro l J Jx W hbW hJ hJx hY h0
  have h := of_in m base g gm Ab cb bag M bn bf bt f t l w0 Lp J Jx W hn hLg hLr kn kf kt h1 h2 h3 hL hb (fun i hi => hbW.block i (hL i hi))
    (fun X Y pre hx hXY => hJ pre X Y none hx (only_of_below hXY none) (fun r e => by cases e)) (fun X Y pre hx hXY => hJx pre X Y none hx (only_of_below hXY none) (fun r e => by cases e))
    (fun pre x W1 _ hp hl => hY pre x W1 hp hl) h0
  have h2 : CallsIn Fence.wide m Tryz.prog 109 #[.func (.yield l) #[] #[], .pointer (some ⟨bn, 0, none⟩), .pointer (some ⟨bf, 0, none⟩), .pointer (some ⟨bt, 0, none⟩)] W (fun e W' => (∃ v, e = .returned v) ∧ ((∃ xs, xs = idxs bag f t bag.length ∧ J xs W') ∨ (∃ pre, pre <+: idxs bag f t bag.length ∧ Jx pre W'))) :=
    callsIn_wide.2 (h.mono fun e W' ⟨hv, hr⟩ => ⟨hv, hr.imp (fun h => ⟨_, rfl, h⟩) id⟩)
  exact h2
theorem ownFrom_kpl {β : Type} {L : Nat → Prop} {w : World} (hL : ∀ i, L i → i < w.heap.size) : OwnFrom w.heap.size (fun (_ : β) W => KpL L w W ∧ w.heap.size ≤ W.heap.size) :=
  fun _ X Y row hs hg hr => ⟨fun i hi => (hg.block i (Nat.lt_of_lt_of_le (hL i hi) hs.2) (fun e => by have := (hr i e.symm).1; have := hL i hi; omega)).trans (hs.1 i hi), Nat.le_trans hs.2 hg.size⟩
end Go.Proofs.YteiaiilfekojfaaGreat.Net
end
section
set_option linter.unusedVariables false
set_option linter.unusedSimpArgs false
namespace Go.Proofs.YteiaiilfekojfaaGreat.Net
open Go Go.RowKit DrawInv Sx Wire

attribute [local go_sem] Oper.semAt_some
def findO (bag : List Pa) (f t : Nat) (k : Int) : Option Nat := if 0 ≤ k then (idxs bag f t bag.length)[k.toNat]? else none
def findR (o : Option Nat) : Nat × Nat := match o with | some i => (i, 0) | none => (0, 11)
def FindI (w W0 : World) (L : Nat → Prop) (b8 b9 ba : Nat) (k : Int) (pre : List Nat) (W : World) : Prop :=
  (KpL L W0 W ∧ W0.heap.size ≤ W.heap.size) ∧ (Boxed W ba 3 (.int .i64 (pre.length : Int)) ∧ (Boxed W b8 3 (.int .i64 0) ∧ (Boxed W b9 37 (.int .i64 0) ∧ (Below w.heap.size w W ∧ ∀ j : Nat, j < pre.length → (j : Int) ≠ k))))
def FindX (w : World) (b8 b9 : Nat) (k : Int) (c : Code) (pre : List Nat) (W : World) : Prop :=
  Boxed W b8 3 (.int .i64 ((pre.getLastD 0 : Nat) : Int)) ∧ (Boxed W b9 37 (.int .i64 0) ∧ (Below w.heap.size w W ∧ (c = .ret ∧ (pre.length : Int) = k + 1 ∧ pre ≠ [])))
theorem ownFrom_const {β : Type} (B : Nat) (p : β → Prop) : OwnFrom B (fun (s : β) (_ : World) => p s) := fun _ _ _ _ h _ _ => h
theorem find_own (w W0 : World) (L : Nat → Prop) (hL : ∀ i, L i → i < W0.heap.size) (b8 b9 ba : Nat) (k : Int) (hB : w.heap.size ≤ W0.heap.size) : OwnFrom W0.heap.size (FindI w W0 L b8 b9 ba k) :=
  OwnFrom.and (ownFrom_kpl hL) (OwnFrom.and (Own.from (boxed_own ba 3 (fun pre : List Nat => Value.int .i64 (pre.length : Int))) _) (OwnFrom.and (Own.from (boxed_own b8 3 (fun pre : List Nat => Value.int .i64 0)) _) (OwnFrom.and (Own.from (boxed_own b9 37 (fun pre : List Nat => Value.int .i64 0)) _) (OwnFrom.and (ownFrom_below (Nat.le_refl _) hB) (ownFrom_const _ (fun pre : List Nat => ∀ j : Nat, j < pre.length → (j : Int) ≠ k))))))
theorem findX_own (w W0 : World) (b8 b9 : Nat) (k : Int) (hB : w.heap.size ≤ W0.heap.size) (c : Code) : OwnFrom W0.heap.size (FindX w b8 b9 k c) :=
  OwnFrom.and (Own.from (boxed_own b8 3 (fun pre : List Nat => Value.int .i64 ((pre.getLastD 0 : Nat) : Int))) _) (OwnFrom.and (Own.from (boxed_own b9 37 (fun pre : List Nat => Value.int .i64 0)) _) (OwnFrom.and (ownFrom_below (Nat.le_refl _) hB) (ownFrom_const _ (fun pre : List Nat => c = .ret ∧ (pre.length : Int) = k + 1 ∧ pre ≠ []))))
theorem results_two {fn : Func} {p q : Tmp} (h : fn.results = #[.cell p 3, .cell q 37]) (tmps : Array Value) (w : World) (g1 g2 : Nat) (x y : Int) (hp : tmps.getD p undef = .pointer (some ⟨g1, 0, none⟩)) (hq : tmps.getD q undef = .pointer (some ⟨g2, 0, none⟩)) (h1 : Boxed w g1 3 (.int .i64 x)) (h2 : Boxed w g2 37 (.int .i64 y)) :
    (results fn tmps).run Tryz.prog w = .ok (.tuple #[.int .i64 x, .int .i64 y]) w := by
  have hp' : tmps[p]?.getD undef = .pointer (some ⟨g1, 0, none⟩) := by simpa using hp
  have hq' : tmps[q]?.getD undef = .pointer (some ⟨g2, 0, none⟩) := by simpa using hq
  have c1 := h1.cell
  have c2 := h2.cell
  have ha : ∀ w : World, (isAgg 3).run Tryz.prog w = .ok false w := fun _ => by kernel_rfl
  have hb : ∀ w : World, (isAgg 37).run Tryz.prog w = .ok false w := fun _ => by kernel_rfl
  simp [results, h, hp', hq', asAddr, loadVar, go_sem, c1, c2, ha, hb]
theorem findO_none {bag : List Pa} {f t : Nat} {k : Int} (h : ∀ j : Nat, j < (idxs bag f t bag.length).length → (j : Int) ≠ k) : findO bag f t k = none := by
  unfold findO
  split
  · exact List.getElem?_eq_none (by
      rcases Nat.lt_or_ge k.toNat (idxs bag f t bag.length).length with h' | h'
      · exact absurd (by omega) (h _ h')
      · exact h')
  · rfl
theorem findO_some {bag : List Pa} {f t : Nat} {k : Int} {pre : List Nat} (h : pre <+: idxs bag f t bag.length) (hk : (pre.length : Int) = k + 1) (hne : pre ≠ []) : findO bag f t k = some (pre.getLastD 0) := by
  obtain ⟨s, hs⟩ := h
  have hl : 0 < pre.length := List.length_pos_iff.2 hne
  unfold findO
  rw [if_pos (by omega), ← hs, show k.toNat = pre.length - 1 by omega, List.getElem?_append_left (by omega), List.getElem?_eq_getElem (by omega), ← List.getLast_eq_getElem hne]
  cases pre with
  | nil => exact absurd rfl hne
  | cons x l => rfl
set_option maxRecDepth 100000 in
set_option maxHeartbeats 2000000 in
theorem find_any (base g gm : Nat) (Ab : Option Addr) (cb : Nat) (bag : List Pa) (M : CutM) (f t : Nat) (k : Int) (w : World) (hn : (netF base g gm (.slice Ab bag.length cb) bag M).φ w) (hb : bag.length ≤ 512) :
    Calls Tryz.prog 65 #[.pointer (some ⟨g, 0, none⟩), .int .u8 (f : Int), .int .u8 (t : Int), .int .i64 k] w fun e w' => e = .returned (.tuple #[.int .i64 ((findR (findO bag f t k)).1 : Int), .int .i64 ((findR (findO bag f t k)).2 : Int)]) ∧ Below w.heap.size w w' := by
  have kk0 := (((Boxed.new w 3 (.int .i64 k)).alloc (.cells #[.int .i64 0] 3)).alloc (.cells #[.int .i64 0] 37)).alloc (.cells #[.int .i64 0] 3)
  have k80 := ((Boxed.new (w.alloc (.cells #[.int .i64 k] 3)) 3 (.int .i64 0)).alloc (.cells #[.int .i64 0] 37)).alloc (.cells #[.int .i64 0] 3)
  have k90 := (Boxed.new ((w.alloc (.cells #[.int .i64 k] 3)).alloc (.cells #[.int .i64 0] 3)) 37 (.int .i64 0)).alloc (.cells #[.int .i64 0] 3)
  have ka0 := Boxed.new (((w.alloc (.cells #[.int .i64 k] 3)).alloc (.cells #[.int .i64 0] 3)).alloc (.cells #[.int .i64 0] 37)) 3 (.int .i64 0)
  have b0 : Below w.heap.size w ((((w.alloc (.cells #[.int .i64 k] 3)).alloc (.cells #[.int .i64 0] 3)).alloc (.cells #[.int .i64 0] 37)).alloc (.cells #[.int .i64 0] 3)) := ((((Below.refl _ w).alloc (Nat.le_refl _) _).alloc (by simp) _).alloc (by simp; omega) _).alloc (by simp; omega) _
  simp only [World.size_alloc] at k80 k90 ka0
  have hsz0 : ((((w.alloc (.cells #[.int .i64 k] 3)).alloc (.cells #[.int .i64 0] 3)).alloc (.cells #[.int .i64 0] 37)).alloc (.cells #[.int .i64 0] 3)).heap.size = w.heap.size + 4 := by simp
  have HK := Lib.hid (of_any g f t ((((w.alloc (.cells #[.int .i64 k] 3)).alloc (.cells #[.int .i64 0] 3)).alloc (.cells #[.int .i64 0] 37)).alloc (.cells #[.int .i64 0] 3)))
  have HN := Lib.hid hn
  have HB := Lib.hid hb
  have HG := Lib.hid (Blk.lt hn.1)
  have HRL : Hid (∀ r ∈ (Value.slice Ab bag.length cb).ownBlock.toList, r < w.heap.size) := fun r hr => (own_lt hn.2.1 r hr).2
  clear hn hb
  refine (callsIn_wide (n := 5)).1 ?_
  refine callsIn_of_wp_marks Tryz.func65 rfl trivial ?_ rfl
  simp only [Tryz.ntmps65, List.size_toArray, List.length_cons, List.length_nil, Nat.reduceAdd, Nat.reduceSub, Array.replicate_succ, Array.replicate_zero, List.push_toArray, List.append_toArray, List.nil_append, List.cons_append]
  gi_wp2
  refine ⟨trivial, ?_⟩
  refine (callsIn_wide.2 HK.out).mono ?_; rintro e w2 ⟨bn, bf, bt, rfl, kn, kf, kt, h1, h2, h3, B2⟩
  rw [hsz0] at h1 h2 h3
  have bw := b0.trans (B2.mono b0.size)
  have kk2 : Boxed w2 w.heap.size 3 (.int .i64 k) := (B2.block _ (by omega)).trans kk0
  have k82 : Boxed w2 (w.heap.size + 1) 3 (.int .i64 0) := (B2.block _ (by omega)).trans k80
  have k92 : Boxed w2 (w.heap.size + 1 + 1) 37 (.int .i64 0) := (B2.block _ (by omega)).trans k90
  have ka2 : Boxed w2 (w.heap.size + 1 + 1 + 1) 3 (.int .i64 0) := (B2.block _ (by omega)).trans ka0
  obtain ⟨b8, e8⟩ : ∃ x, x = w.heap.size + 1 := ⟨_, rfl⟩
  obtain ⟨b9, e9⟩ : ∃ x, x = w.heap.size + 1 + 1 := ⟨_, rfl⟩
  obtain ⟨ba, ea⟩ : ∃ x, x = w.heap.size + 1 + 1 + 1 := ⟨_, rfl⟩
  have hn2 : (netF base g gm (.slice Ab bag.length cb) bag M).φ w2 := netF_loc base g gm _ bag M w w2 (fun i hi => bw.block i (by
    rcases List.mem_cons.1 hi with rfl | hi
    · exact HG.out
    rcases List.mem_cons.1 hi with rfl | hi
    · exact HN.out.2.2.lt
    · exact HRL.out i hi)) HN.out
  have hne : b8 ≠ b9 ∧ b8 ≠ ba ∧ b9 ≠ ba ∧ w.heap.size ≠ b8 ∧ w.heap.size ≠ b9 ∧ w.heap.size ≠ ba := by omega
  have hle : w.heap.size ≤ b8 ∧ w.heap.size ≤ b9 ∧ w.heap.size ≤ ba := by omega
  have hlx : w.heap.size + 4 = ba + 1 ∧ w.heap.size + 4 = b9 + 2 ∧ w.heap.size + 4 = b8 + 3 := by omega
  rw [← e8] at k82
  rw [← e9] at k92
  rw [← ea] at ka2
  have hfn : ∀ W : World, (binOp .eql 145 (.func (.func 109) #[] #[.pointer (some ⟨bn, 0, none⟩), .pointer (some ⟨bf, 0, none⟩), .pointer (some ⟨bt, 0, none⟩)]) .nilFunc).run Tryz.prog W = .ok (.bool false) W := fun _ => by kernel_rfl
  obtain ⟨L, hLd⟩ : ∃ L : Nat → Prop, L = fun i => i < w2.heap.size ∧ i ≠ b8 ∧ i ≠ b9 ∧ i ≠ ba := ⟨_, rfl⟩
  have hL : ∀ i, L i → i < w2.heap.size := fun i hi => by rw [hLd] at hi; exact hi.1
  have hL1 : ∀ i, i < w2.heap.size → i ≠ b8 → i ≠ b9 → i ≠ ba → L i := fun i hi h1 h2 h3 => by rw [hLd]; exact ⟨hi, h1, h2, h3⟩
  have hLn8 : ¬ L b8 := fun h => by rw [hLd] at h; exact h.2.1 rfl
  have hLn9 : ¬ L b9 := fun h => by rw [hLd] at h; exact h.2.2.1 rfl
  have hLna : ¬ L ba := fun h => by rw [hLd] at h; exact h.2.2.2 rfl
  have hLk : L w.heap.size := hL1 _ kk2.lt hne.2.2.2.1 hne.2.2.2.2.1 hne.2.2.2.2.2
  have knl : bn < w2.heap.size := Blk.lt kn
  have kfl : bf < w2.heap.size := Blk.lt kf
  have ktl : bt < w2.heap.size := Blk.lt kt
  have hw2 : w.heap.size < w2.heap.size := kk2.lt
  have HS := Lib.hid (of_stops 4 base g gm Ab cb bag M bn bf bt f t w2 L hn2 (by have := HG.out; exact hL1 g (by omega) (by omega) (by omega) (by omega)) (fun r hr => by have := HRL.out r hr; exact hL1 r (by omega) (by omega) (by omega) (by omega)) kn kf kt (hL1 bn knl (by omega) (by omega) (by omega)) (hL1 bf kfl (by omega) (by omega) (by omega)) (hL1 bt ktl (by omega) (by omega) (by omega)) hL HB.out)
  have HNE := Lib.hid hne
  have HLE := Lib.hid hle
  have HLT := Lib.hid (And.intro k82.lt k92.lt)
  rw [← ea, ← e9, ← e8]
  clear hLd kk0 k80 k90 ka0 b0 B2 e8 e9 ea hne hle hlx h1 h2 h3 hsz0 HK knl kfl ktl
  gi_wp2
  refine range_bound rfl (by omega) (gf := 109) (bd := #[]) (lb := #[.pointer (some ⟨bn, 0, none⟩), .pointer (some ⟨bf, 0, none⟩), .pointer (some ⟨bt, 0, none⟩)]) rfl trivial (enters_of Tryz.func109 (by kernel_rfl) rfl)
    HS.out (fun h k => h.trans k)
    (fun W l o o' hl _ _ _ i hi => World.putObj_heap_other (by have := hL i hi; omega)) (Below.refl _ _) (fun _ => rfl)
    (FindI w w2 L b8 b9 ba k) (FindX w b8 b9 k) (find_own w w2 L hL b8 b9 ba k bw.size) (findX_own w w2 b8 b9 k bw.size)
    ⟨⟨fun _ _ => rfl, Nat.le_refl _⟩, ka2, k82, k92, bw, fun j hj => by cases hj⟩
    ?a1 ?assign ?body ?done ?stop
  case assign =>
    intro l x W K hK
    gi_wp2
    exact hK
  case body =>
    rintro l pre x W ⟨⟨hkp, hs⟩, hA, h8, h9, hB, hall⟩ hlt
    have kkW : Boxed W w.heap.size 3 (.int .i64 k) := (hkp _ hLk).trans kk2
    have cA := hA.cell
    have fA := hA.frozen
    have cK := kkW.cell
    have c8 := h8.cell
    have f8 := h8.frozen
    have c9 := h9.cell
    have f9 := h9.frozen
    by_cases hk : (pre.length : Int) = k
    · have ho8 := (grownBy_setCell' W b8 (.int .i64 (x : Int)))
      have h81 := h8.set (.int .i64 (x : Int))
      have h91 := h9.other (B' := b8) (fun e => HNE.out.1 e.symm) (.int .i64 (x : Int))
      have hB1 := hB.setCell (p := ⟨b8, 0, none⟩) HLE.out.1 (.int .i64 (x : Int))
      have h92 := h91.set (.int .i64 0)
      have h82 := h81.other (B' := b9) HNE.out.1 (.int .i64 0)
      have hB2 := hB1.setCell (p := ⟨b9, 0, none⟩) HLE.out.2.1 (.int .i64 0)
      have c91 := h91.cell
      have f91 := h91.frozen
      gi_wp2
      refine ⟨((KeepsOthers.setCell W _ _).trans (KeepsOthers.setCell _ _ _)).from _, ?_⟩
      refine ⟨by simpa using h82, h92, hB2, rfl, by simp; omega, by simp⟩
    · have hA2 := hA.set (.int .i64 ((pre ++ [x]).length : Int))
      have hB2 := hB.setCell (p := ⟨ba, 0, none⟩) HLE.out.2.2 (.int .i64 ((pre ++ [x]).length : Int))
      have h82 := h8.other (B' := ba) HNE.out.2.1 (.int .i64 ((pre ++ [x]).length : Int))
      have h92 := h9.other (B' := ba) HNE.out.2.2.1 (.int .i64 ((pre ++ [x]).length : Int))
      have hK2 : KpL L W (W.setCell ⟨ba, 0, none⟩ (.int .i64 ((pre ++ [x]).length : Int))) := fun i hi => Below.heap_setCell W _ _ i (fun e => hLna (by rw [← show i = ba from e]; exact hi))
      have hln : ((pre ++ [x]).length : Int) = (pre.length : Int) + 1 := by simp
      have hall2 : ∀ j : Nat, j < (pre ++ [x]).length → (j : Int) ≠ k := fun j hj => by
        rw [List.length_append, List.length_singleton] at hj
        rcases Nat.lt_or_ge j pre.length with h | h
        · exact hall j h
        · rw [show j = pre.length by omega]; exact hk
      have hwr : IntKind.i64.wrap ((pre.length : Int) + 1) = (pre.length : Int) + 1 := by rw [IntKind.wrap_i64]; omega
      rw [hln] at hA2 hB2 hK2 h82 h92
      gi_wp2
      exact ⟨(KeepsOthers.setCell W _ _).from _, hK2, ⟨hkp.trans hK2, by simpa using hs⟩, by rw [hln]; exact hA2, h82, h92, hB2, hall2⟩
  case done =>
    rintro D ys W hD hys ⟨⟨hkp, hs⟩, hA, h8, h9, hB, hall⟩ hK
    have c8 := h8.cell
    have f8 := h8.frozen
    have c9 := h9.cell
    have f9 := h9.frozen
    rw [hys] at hall
    have hno := findO_none hall
    have HD8 : Hid (D ≠ b8 ∧ D ≠ b9) := by show _ ∧ _; have := HLT.out; omega
    have h81 := h8.set (.int .i64 0)
    have h91 := h9.other (B' := b8) (fun e => HNE.out.1 e.symm) (.int .i64 0)
    have hB1 := hB.setCell (p := ⟨b8, 0, none⟩) HLE.out.1 (.int .i64 0)
    have hK1 : (W.setCell ⟨b8, 0, none⟩ (.int .i64 0)).heap[D]? = some (.deferred (some [])) := (Below.heap_setCell W _ _ D HD8.out.1).trans hK
    have c91 := h91.cell
    have f91 := h91.frozen
    have h92 := h91.set (.int .i64 11)
    have h82 := h81.other (B' := b9) HNE.out.1 (.int .i64 11)
    have hB2 := hB1.setCell (p := ⟨b9, 0, none⟩) HLE.out.2.1 (.int .i64 11)
    have hK2 : ((W.setCell ⟨b8, 0, none⟩ (.int .i64 0)).setCell ⟨b9, 0, none⟩ (.int .i64 11)).heap[D]? = some (.deferred (some [])) := (Below.heap_setCell _ _ _ D HD8.out.2).trans hK1
    have hb := hB2.trans (belowK_b (w := w) (Nat.le_refl _) _ D (.deferred (some [])) (.deferred none) (by omega) hK2 rfl rfl)
    have h83 := (World.putObj_heap_other (w := (W.setCell ⟨b8, 0, none⟩ (.int .i64 0)).setCell ⟨b9, 0, none⟩ (.int .i64 11)) (o := .deferred none) (r := D) (k := b8) HD8.out.1.symm).trans h82
    have h93 := (World.putObj_heap_other (w := (W.setCell ⟨b8, 0, none⟩ (.int .i64 0)).setCell ⟨b9, 0, none⟩ (.int .i64 11)) (o := .deferred none) (r := D) (k := b9) HD8.out.2.symm).trans h92
    have HNO := Lib.hid hno
    clear hys hall hno hA hs hkp
    gi_wp2
    exact ⟨by simp, .inl ⟨_, _, rfl, run_takeDeferred hK2, _, results_two rfl _ _ b8 b9 _ _ rfl rfl h83 h93, by rw [HNO.out]; rfl, hb⟩⟩
  case stop =>
    rintro D c pre W hD hpre ⟨h8, h9, hB, rfl, hlen, hne2⟩ hK
    have hso := findO_some hpre hlen hne2
    have HD8 : Hid (D ≠ b8 ∧ D ≠ b9) := by show _ ∧ _; have := HLT.out; omega
    have hb := hB.trans (belowK_b (w := w) (Nat.le_refl _) _ D (.deferred (some [])) (.deferred none) (by omega) hK rfl rfl)
    have h83 := (World.putObj_heap_other (w := W) (o := .deferred none) (r := D) (k := b8) HD8.out.1.symm).trans h8
    have h93 := (World.putObj_heap_other (w := W) (o := .deferred none) (r := D) (k := b9) HD8.out.2.symm).trans h9
    rw [hso]
    clear hso hlen hne2 hpre
    gi_wp2
    exact ⟨by simp, .inl ⟨_, _, rfl, run_takeDeferred hK, _, results_two rfl _ _ b8 b9 _ _ rfl rfl h83 h93, rfl, hb⟩⟩
end Go.Proofs.YteiaiilfekojfaaGreat.Net
end
section
set_option linter.unusedVariables false
set_option linter.unusedSimpArgs false
namespace Go.Proofs.YteiaiilfekojfaaGreat.Net
open Go Go.RowKit DrawInv Sx Wire
theorem flat_len (l : List Pa) : (l.flatMap paL).length = l.length * 3 := by
  induction l with
  | nil => rfl
  | cons p l ih => rw [List.flatMap_cons, List.length_append, ih, paL_len, List.length_cons]; omega
theorem flat_one (l : List Pa) : ∀ u ∈ l.flatMap paL, u.oneCell' = true := by
  intro u hu
  obtain ⟨p, _, h⟩ := List.mem_flatMap.1 hu
  exact paL_one p u h
theorem del_any {w : World} {base i : Nat} {V : Value} {bag : List Pa} (h : w.ownsRow base 134 3 V bag.length (bag.flatMap paL)) (hi : i < bag.length) :
    Calls Tryz.prog 66 #[V, .int .i64 (i : Int), .int .i64 ((i + 1 : Nat) : Int)] w fun e w' => ∃ V', e = .returned V' ∧ w'.ownsRow base 134 3 V' (bag.length - 1) ((bag.eraseIdx i).flatMap paL) ∧ OwnIn w V.ownBlock.toList V' ∧ Outs V.ownBlock.toList w w' := by
  rcases h.2 with ⟨-, h0⟩ | ⟨b, cap, cur, rfl, hbase, hb, hn, hcap, hsize, htake⟩
  · omega
  have hbag : bag.take i ++ bag[i] :: bag.drop (i + 1) = bag := by rw [← List.drop_eq_getElem_cons hi, List.take_append_drop]
  have hflat : (bag.take i).flatMap paL ++ (paL bag[i] ++ (bag.drop (i + 1)).flatMap paL) = bag.flatMap paL := by
    rw [← List.flatMap_cons, ← List.flatMap_append, hbag]
  have hcur : cur = ((bag.take i).flatMap paL ++ (paL bag[i] ++ (bag.drop (i + 1)).flatMap paL ++ cur.toList.drop (bag.length * 3))).toArray := by
    rw [← List.append_assoc, hflat, ← htake, List.take_append_drop]
  have hb0 : Blk w b 134 ((bag.take i).flatMap paL ++ (paL bag[i] ++ (bag.drop (i + 1)).flatMap paL ++ cur.toList.drop (bag.length * 3))).toArray := by rw [← hcur]; exact hb
  have hA : ((bag.take i).flatMap paL).length = i * 3 := by rw [flat_len, List.length_take]; congr 1; omega
  have hD : ((bag.drop (i + 1)).flatMap paL).length = (bag.length - 1 - i) * 3 := by rw [flat_len, List.length_drop]; congr 1; omega
  refine (del_lit b bag.length cap i _ _ _ _ w hb0 hi hn hcap hA (paL_len _) hD (flat_one _)).mono fun e w' ⟨he, hb', hg⟩ => ⟨_, he, ?_, ?_, ?_⟩
  · have hl : ((bag.eraseIdx i).flatMap paL).length = (bag.length - 1) * 3 := by rw [flat_len, List.length_eraseIdx, if_pos hi]
    refine ⟨hl, .inr ⟨b, cap, _, rfl, hbase, hb', by omega, hcap, ?_, ?_⟩⟩
    · have : cur.toList.length = cap * 3 := by simpa using hsize
      simp only [List.size_toArray, List.length_append, hA, hD, List.length_drop, List.length_cons, List.length_nil, this]
      omega
    · have e : (bag.eraseIdx i).flatMap paL = (bag.take i).flatMap paL ++ (bag.drop (i + 1)).flatMap paL := by rw [List.eraseIdx_eq_take_drop_succ, List.flatMap_append]
      rw [e] at hl ⊢
      simp only [List.append_assoc]
      rw [← List.append_assoc, ← hl, List.take_left']
      rfl
  · intro g hg'
    exact .inl (by simpa [Value.ownBlock] using hg')
  · exact Outs.of_grown hg (by simp [Value.ownBlock])
end Go.Proofs.YteiaiilfekojfaaGreat.Net
end
section
set_option linter.unusedVariables false
set_option linter.unusedSimpArgs false
namespace Go.Proofs.YteiaiilfekojfaaGreat.Sx
open Go.RowKit DrawInv
section
variable {P : Program} {ops : Array Oper} {Q Q' : Exit → Act → World → Prop} {n : Nat} {vs : Vs} {w0 : World} {L : List Ft} {o : Oper} {rest : List Oper}
theorem SxL.call2 {α β : Type} {d f : Nat} {args : Array Value} (v : α → β → Value) (F : α → β → Prop) (L' : α → β → List Ft) (hon : GOn ops vs o.guard) (hd : o.dst = some d) (hdn : Nat.blt d n = true)
    (hr : ∀ ρ w, Env vs ρ → (execOp ρ o).run P w = .ok (.enter f args) w) (hc : ∀ w, Hp w0 L w → Calls P f args w fun e w' => ∃ a b, e = .returned (v a b) ∧ F a b ∧ Hp w0 (L' a b) w')
    (h : ∀ a b, F a b → SxL P ops Q rest n ((d, v a b) :: vs) w0 (L' a b)) : SxL P ops Q (o :: rest) n vs w0 L :=
  SxL.call (σ := α × β) (fun s => v s.1 s.2) (fun s => F s.1 s.2) (fun s => L' s.1 s.2) hon hd hdn hr (fun w H => (hc w H).mono fun _ _ ⟨a, b, h⟩ => ⟨(a, b), h⟩) (fun s hF => h s.1 s.2 hF)
/-- A call that makes new memory, told as one fact. -/
theorem callNew {σ : Type} {f : Nat} {args : Array Value} (v : σ → Value) (F : σ → Prop) (fF : σ → Ft) (hl : ∀ s, (fF s).Loc) (hc : ∀ w, Hp w0 L w → Calls P f args w fun E w' => ∃ s, E = .returned (v s) ∧ F s ∧ (∀ g ∈ (fF s).fp, w.heap.size ≤ g ∧ g < w'.heap.size) ∧ (fF s).φ w' ∧ Below w.heap.size w w') :
    ∀ w, Hp w0 L w → Calls P f args w fun E w' => ∃ s, E = .returned (v s) ∧ (F s ∧ ∀ g ∈ (fF s).fp, w0.heap.size ≤ g) ∧ Hp w0 (fF s :: L) w' := fun w H => (hc w H).mono fun E w' ⟨s, h1, h2, h3, h4, h5⟩ =>
  ⟨s, h1, ⟨h2, fun g hg => Nat.le_trans H.os.size (h3 g hg).1⟩, H.add h5 _ (hl s) (fun g hg => ⟨(h3 g hg).2, (h3 g hg).1⟩) h4⟩
end
end Go.Proofs.YteiaiilfekojfaaGreat.Sx
namespace Go.Proofs.YteiaiilfekojfaaGreat.Msg
open Go.RowKit Wire Sx DrawInv
def madeF (base g : Nat) (a : Ms) (V I : Value) : Ft := ⟨g :: (V.ownBlock.toList ++ I.ownBlock.toList), Made base g a V I⟩
theorem own_loc {w w' : World} {base e sz n : Nat} {v : Value} {xs : List Value} (h : w.ownsRow base e sz v n xs) (hs : ∀ g ∈ v.ownBlock.toList, w'.heap[g]? = w.heap[g]?) : w'.ownsRow base e sz v n xs :=
  rowX_loc [] base e sz v n xs w w' (fun g hg => hs g (by simpa [rowX] using hg)) h
theorem madeF_loc (base g : Nat) (a : Ms) (V I : Value) : (madeF base g a V I).Loc := by
  intro w w' h hM
  obtain ⟨h1, h2, h3⟩ := hM
  exact ⟨(h g (List.mem_cons_self ..)).trans h1, own_loc h2 fun b hb => h b (List.mem_cons_of_mem _ (List.mem_append.2 (.inl hb))), own_loc h3 fun b hb => h b (List.mem_cons_of_mem _ (List.mem_append.2 (.inr hb)))⟩
theorem made_fresh {w0 : World} {base g : Nat} {a : Ms} {V I : Value} (hg : w0.heap.size ≤ g) (hV : OwnIn w0 [] V) (hI : OwnIn w0 [] I) : ∀ b ∈ (madeF base g a V I).fp, w0.heap.size ≤ b := by
  intro b hb
  rcases List.mem_cons.1 hb with rfl | hb
  · exact hg
  · rcases List.mem_append.1 hb with hb | hb
    · exact (hV b hb).resolve_left (by simp)
    · exact (hI b hb).resolve_left (by simp)
theorem own_none (w : World) : OwnIn w [] (.slice none 0 0) := fun g hg => by cases hg
theorem own_trans {w0 w : World} {V V' : Value} (hs : w0.heap.size ≤ w.heap.size) (h : OwnIn w0 [] V) (h' : OwnIn w V.ownBlock.toList V') : OwnIn w0 [] V' := fun g hg => (h' g hg).elim (h g) fun h => .inr (Nat.le_trans hs h)
section
variable {w0 : World} {L : List Ft}
theorem made_chg {w w' : World} {i base g : Nat} {a a' : Ms} {V I V' I' : Value} {G : List Nat} (H : Hp w0 L w) (hi : nth L i = some (madeF base g a V I)) (hg : w0.heap.size ≤ g) (hV : OwnIn w0 [] V) (hI : OwnIn w0 [] I) (hM : Made base g a' V' I' w') (hV' : OwnIn w V.ownBlock.toList V') (hI' : OwnIn w I.ownBlock.toList I')
    (ho : Outs G w w') (hG : ∀ b ∈ G, b ∈ (madeF base g a V I).fp) : Hp w0 (putF L i (madeF base g a' V' I')) w' := by
  refine H.chg hi _ (ho.mono fun b hb _ => hG b hb) (madeF_loc _ _ _ _ _) (fun b hb => ?_) (fun b hb => .inr (made_fresh hg hV hI b hb)) hM
  rcases List.mem_cons.1 hb with rfl | hb
  · exact ⟨Blk.lt hM.1, .inl (List.mem_cons_self ..)⟩
  · rcases List.mem_append.1 hb with hb | hb
    · exact ⟨(own_lt hM.2.1 b hb).2, (hV' b hb).imp (fun h => List.mem_cons_of_mem _ (List.mem_append.2 (.inl h))) id⟩
    · exact ⟨(own_lt hM.2.2 b hb).2, (hI' b hb).imp (fun h => List.mem_cons_of_mem _ (List.mem_append.2 (.inr h))) id⟩
theorem call_made {f : Nat} {args : Array Value} {P : Program} {i base g : Nat} {a a' : Ms} {V I v : Value} (hi : nth L i = some (madeF base g a V I)) (hg : w0.heap.size ≤ g) (hV : OwnIn w0 [] V) (hI : OwnIn w0 [] I)
    (hc : ∀ w, Hp w0 L w → Calls P f args w fun e w' => ∃ V' I', e = .returned v ∧ Made base g a' V' I' w' ∧ (OwnIn w V.ownBlock.toList V' ∧ OwnIn w I.ownBlock.toList I') ∧ Outs [g] w w') :
    ∀ w, Hp w0 L w → Calls P f args w fun E w' => ∃ V' I', E = .returned v ∧ (OwnIn w0 [] V' ∧ OwnIn w0 [] I') ∧ Hp w0 (putF L i (madeF base g a' V' I')) w' := fun w H => (hc w H).mono fun E w' ⟨V', I', h1, h2, h3, h4⟩ =>
  ⟨V', I', h1, ⟨own_trans H.os.size hV h3.1, own_trans H.os.size hI h3.2⟩, made_chg H hi hg hV hI h2 h3.1 h3.2 h4 (fun b hb => by rw [List.mem_singleton.1 hb]; exact List.mem_cons_self ..)⟩
end
theorem made_new {w : World} {base g k : Nat} (h : (cell g 33 (msL (ms0 k) (.slice none 0 0) (.slice none 0 0))).φ w) : Made base g (ms0 k) (.slice none 0 0) (.slice none 0 0) w :=
  ⟨h, World.ownsRow_nil _ _ _ _, World.ownsRow_nil _ _ _ _⟩
/-- What taking a part does. -/
theorem take_all (p : Pt) (base gr g : Nat) (r : Rd) (a : Ms) (V I : Value) (w : World) (hr : Blk w gr 157 (rdC r)) (hM : Made base g a V I w) (hne : gr ≠ g) (hb : base ≤ w.heap.size) (hG : Grows r a.votes.length ∧ Grows r a.items.length) :
    Calls Tryz.prog p.takeF #[.pointer (some ⟨gr, 0, none⟩), .pointer (some ⟨g, 0, none⟩)] w fun e w' => ∃ V' I', e = .returned (.tuple #[]) ∧ Blk w' gr 157 (rdC (p.take (a, r)).2) ∧ Made base g (p.take (a, r)).1 V' I' w' ∧ (OwnIn w V.ownBlock.toList V' ∧ OwnIn w I.ownBlock.toList I') ∧ Outs ([gr, g] ++ (V.ownBlock.toList ++ I.ownBlock.toList)) w w' := by
  obtain ⟨hg, hV, hI⟩ := hM
  have d1 := own_blk hV hg (by decide)
  have d2 := own_blk hI hg (by decide)
  have d3 := own_blk hV hr (by decide)
  have d4 := own_blk hI hr (by decide)
  have hrl : r.rest.length ≤ 1000000 := Nat.le_trans hG.1.h1 (by decide)
  obtain ⟨xk, xn, xr, xb, xs, xo, xv, wl, jl, ⟨da, db, dk, ds, dt, du, dz⟩, xc, xt⟩ := a
  dsimp only at hG
  have hkV : ∀ w', Outs [gr, g] w w' → w'.ownsRow base 92 4 V wl.length (wl.flatMap voL) := fun w' ho => own_kept hV ho fun b hb hm => by
    simp only [List.mem_cons, List.not_mem_nil, or_false] at hm
    rcases hm with rfl | rfl
    · exact d3 hb
    · exact d1 hb
  have hkI : ∀ w', Outs [gr, g] w w' → w'.ownsRow base 94 2 I jl.length (jl.flatMap imL) := fun w' ho => own_kept hI ho fun b hb hm => by
    simp only [List.mem_cons, List.not_mem_nil, or_false] at hm
    rcases hm with rfl | rfl
    · exact d4 hb
    · exact d2 hb
  have same : ∀ {e : Ending} {w' : World} {q : Ms × Rd}, q.1.votes = wl → q.1.items = jl → e = .returned (.tuple #[]) ∧ Blk w' gr 157 (rdC q.2) ∧ Blk w' g 33 (msL q.1 V I).toArray ∧ Outs [gr, g] w w' →
      ∃ V' I', e = .returned (.tuple #[]) ∧ Blk w' gr 157 (rdC q.2) ∧ Made base g q.1 V' I' w' ∧ (OwnIn w V.ownBlock.toList V' ∧ OwnIn w I.ownBlock.toList I') ∧ Outs ([gr, g] ++ (V.ownBlock.toList ++ I.ownBlock.toList)) w w' := by
    intro e w' q e1 e2 ⟨r1, r2, r3, r4⟩
    exact ⟨V, I, r1, r2, ⟨r3, by rw [e1]; exact hkV w' r4, by rw [e2]; exact hkI w' r4⟩, ⟨OwnIn.refl w V, OwnIn.refl w I⟩, r4.mono fun b hb _ => List.mem_append.2 (.inl hb)⟩
  cases p with
  | cmd => exact (take_cmd _ _ _ _ _ _ _ _ _ _ _ _ _ _ _ _ _ _ _ _ _ _ _ w hr hg hne hrl).mono fun _ _ h => same rfl rfl h
  | name => exact (take_name _ _ _ _ _ _ _ _ _ _ _ _ _ _ _ _ _ _ _ _ _ _ _ w hr hg hne hrl).mono fun _ _ h => same rfl rfl h
  | reply => exact (take_reply _ _ _ _ _ _ _ _ _ _ _ _ _ _ _ _ _ _ _ _ _ _ _ w hr hg hne hrl).mono fun _ _ h => same rfl rfl h
  | node => exact (take_node _ _ _ _ _ _ _ _ _ _ _ _ _ _ _ _ _ _ _ _ _ _ _ w hr hg hne hrl).mono fun _ _ h => same rfl rfl h
  | turn => exact (take_turn _ _ _ _ _ _ _ _ _ _ _ _ _ _ _ _ _ _ _ _ _ _ _ w hr hg hne hrl).mono fun _ _ h => same rfl rfl h
  | floor => exact (take_floor _ _ _ _ _ _ _ _ _ _ _ _ _ _ _ _ _ _ _ _ _ _ _ w hr hg hne hrl).mono fun _ _ h => same rfl rfl h
  | slot l => exact (take_slot _ _ _ _ _ _ _ _ _ _ _ _ _ _ _ _ _ _ _ _ _ _ _ l w hr hg hne hrl).mono fun _ _ h => same rfl rfl h
  | value => exact (take_value _ _ _ _ _ _ _ _ _ _ _ _ _ _ _ _ _ _ _ _ _ _ _ w hr hg hne hrl).mono fun _ _ h => same rfl rfl h
  | votes =>
    refine (take_votes base _ _ _ _ _ _ _ _ _ _ _ _ _ _ _ _ _ _ _ _ _ _ _ w hr hg hne hG.1 hb hV d3 d1).mono fun e w' h => ?_
    obtain ⟨V', r1, r2, r3, r4, r5, r6⟩ := h
    refine ⟨V', I, r1, r2, ⟨r3, r4, own_kept hI r6 fun b hbm hm => ?_⟩, ⟨r5, OwnIn.refl w I⟩, r6.mono fun b hb _ => ?_⟩
    · simp only [List.mem_append, List.mem_cons, List.not_mem_nil, or_false] at hm
      rcases hm with (rfl | rfl) | hm
      · exact d4 hbm
      · exact d2 hbm
      · exact own_own hV hI (by decide) b hm hbm
    · rcases List.mem_append.1 hb with h | h
      · exact List.mem_append.2 (.inl h)
      · exact List.mem_append.2 (.inr (List.mem_append.2 (.inl h)))
  | items =>
    refine (take_items base _ _ _ _ _ _ _ _ _ _ _ _ _ _ _ _ _ _ _ _ _ _ _ w hr hg hne hG.2 hb hI d4 d2).mono fun e w' h => ?_
    obtain ⟨I', r1, r2, r3, r4, r5, r6⟩ := h
    refine ⟨V, I', r1, r2, ⟨r3, own_kept hV r6 fun b hbm hm => ?_, r4⟩, ⟨OwnIn.refl w V, r5⟩, r6.mono fun b hb _ => ?_⟩
    · simp only [List.mem_append, List.mem_cons, List.not_mem_nil, or_false] at hm
      rcases hm with (rfl | rfl) | hm
      · exact d3 hbm
      · exact d1 hbm
      · exact own_own hV hI (by decide) b hbm hm
    · rcases List.mem_append.1 hb with h | h
      · exact List.mem_append.2 (.inl h)
      · exact List.mem_append.2 (.inr (List.mem_append.2 (.inr h)))
end Go.Proofs.YteiaiilfekojfaaGreat.Msg
end
section
set_option linter.unusedVariables false
set_option linter.unusedSimpArgs false
namespace Go.Proofs.YteiaiilfekojfaaGreat.Msg
open Go.RowKit Sx Wire DrawInv
set_option maxRecDepth 100000 in
set_option maxHeartbeats 4000000 in
theorem mk_cmd   (w : World) : Calls Tryz.prog 78 #[] w fun e w' => e = .returned (.agg (ptL .cmd 0).toArray) ∧ Below w.heap.size w w' := by
  refine sx_enter (n := 2) _ Tryz.func78 rfl rfl rfl (Hp.start w) ?_
  refine SxC.seq (SxC.region ?_)
  refine SxL.new (cs := [.nilFunc, .nilFunc, .nilFunc, .nilFunc]) trivial rfl rfl (fun ρ w E H => ex_alloc rfl zr_palaver_msg_part rfl) fun g1 hg1 => ?_
  refine SxL.nil (SxN.then_ (SxC.seq (SxC.region ?_)))
  refine SxL.val trivial rfl rfl (fun ρ w E H => ex_build (cs := [.func (.func 110) #[] #[], .func (.func 112) #[] #[], .func (.func 114) #[] #[], .func (.func 115) #[] #[]]) E rfl rfl (by kernel_rfl)) ?_
  refine SxL.store (i := 0) trivial rfl rfl rfl rfl rfl sz_palaver_msg_part rfl rfl rfl ?_
  refine SxL.nil (SxN.then_ (SxC.ret ?_))
  refine SxX.done _ (fun a w K H => resN K [.agg #[.func (.func 110) #[] #[], .func (.func 112) #[] #[], .func (.func 114) #[] #[], .func (.func 115) #[] #[]]] rfl ⟨⟨_, rfl, blk_loadVar (H.get (i := 0) rfl) Tryz.underlying101 rfl sz_palaver_msg_part⟩, trivial⟩) (fun w H => ?_)
  exact ⟨rfl, H.toBelow ⟨(fun g hg => by rw [List.mem_singleton.1 hg]; exact hg1), trivial⟩⟩

set_option maxRecDepth 100000 in
set_option maxHeartbeats 4000000 in
theorem mk_name   (w : World) : Calls Tryz.prog 79 #[] w fun e w' => e = .returned (.agg (ptL .name 0).toArray) ∧ Below w.heap.size w w' := by
  refine sx_enter (n := 2) _ Tryz.func79 rfl rfl rfl (Hp.start w) ?_
  refine SxC.seq (SxC.region ?_)
  refine SxL.new (cs := [.nilFunc, .nilFunc, .nilFunc, .nilFunc]) trivial rfl rfl (fun ρ w E H => ex_alloc rfl zr_palaver_msg_part rfl) fun g1 hg1 => ?_
  refine SxL.nil (SxN.then_ (SxC.seq (SxC.region ?_)))
  refine SxL.val trivial rfl rfl (fun ρ w E H => ex_build (cs := [.func (.func 117) #[] #[], .func (.func 118) #[] #[], .func (.func 119) #[] #[], .func (.func 120) #[] #[]]) E rfl rfl (by kernel_rfl)) ?_
  refine SxL.store (i := 0) trivial rfl rfl rfl rfl rfl sz_palaver_msg_part rfl rfl rfl ?_
  refine SxL.nil (SxN.then_ (SxC.ret ?_))
  refine SxX.done _ (fun a w K H => resN K [.agg #[.func (.func 117) #[] #[], .func (.func 118) #[] #[], .func (.func 119) #[] #[], .func (.func 120) #[] #[]]] rfl ⟨⟨_, rfl, blk_loadVar (H.get (i := 0) rfl) Tryz.underlying101 rfl sz_palaver_msg_part⟩, trivial⟩) (fun w H => ?_)
  exact ⟨rfl, H.toBelow ⟨(fun g hg => by rw [List.mem_singleton.1 hg]; exact hg1), trivial⟩⟩

set_option maxRecDepth 100000 in
set_option maxHeartbeats 4000000 in
theorem mk_reply   (w : World) : Calls Tryz.prog 80 #[] w fun e w' => e = .returned (.agg (ptL .reply 0).toArray) ∧ Below w.heap.size w w' := by
  refine sx_enter (n := 2) _ Tryz.func80 rfl rfl rfl (Hp.start w) ?_
  refine SxC.seq (SxC.region ?_)
  refine SxL.new (cs := [.nilFunc, .nilFunc, .nilFunc, .nilFunc]) trivial rfl rfl (fun ρ w E H => ex_alloc rfl zr_palaver_msg_part rfl) fun g1 hg1 => ?_
  refine SxL.nil (SxN.then_ (SxC.seq (SxC.region ?_)))
  refine SxL.val trivial rfl rfl (fun ρ w E H => ex_build (cs := [.func (.func 121) #[] #[], .func (.func 123) #[] #[], .func (.func 125) #[] #[], .func (.func 126) #[] #[]]) E rfl rfl (by kernel_rfl)) ?_
  refine SxL.store (i := 0) trivial rfl rfl rfl rfl rfl sz_palaver_msg_part rfl rfl rfl ?_
  refine SxL.nil (SxN.then_ (SxC.ret ?_))
  refine SxX.done _ (fun a w K H => resN K [.agg #[.func (.func 121) #[] #[], .func (.func 123) #[] #[], .func (.func 125) #[] #[], .func (.func 126) #[] #[]]] rfl ⟨⟨_, rfl, blk_loadVar (H.get (i := 0) rfl) Tryz.underlying101 rfl sz_palaver_msg_part⟩, trivial⟩) (fun w H => ?_)
  exact ⟨rfl, H.toBelow ⟨(fun g hg => by rw [List.mem_singleton.1 hg]; exact hg1), trivial⟩⟩

set_option maxRecDepth 100000 in
set_option maxHeartbeats 4000000 in
theorem mk_node   (w : World) : Calls Tryz.prog 81 #[] w fun e w' => e = .returned (.agg (ptL .node 0).toArray) ∧ Below w.heap.size w w' := by
  refine sx_enter (n := 2) _ Tryz.func81 rfl rfl rfl (Hp.start w) ?_
  refine SxC.seq (SxC.region ?_)
  refine SxL.new (cs := [.nilFunc, .nilFunc, .nilFunc, .nilFunc]) trivial rfl rfl (fun ρ w E H => ex_alloc rfl zr_palaver_msg_part rfl) fun g1 hg1 => ?_
  refine SxL.nil (SxN.then_ (SxC.seq (SxC.region ?_)))
  refine SxL.val trivial rfl rfl (fun ρ w E H => ex_build (cs := [.func (.func 127) #[] #[], .func (.func 128) #[] #[], .func (.func 129) #[] #[], .func (.func 130) #[] #[]]) E rfl rfl (by kernel_rfl)) ?_
  refine SxL.store (i := 0) trivial rfl rfl rfl rfl rfl sz_palaver_msg_part rfl rfl rfl ?_
  refine SxL.nil (SxN.then_ (SxC.ret ?_))
  refine SxX.done _ (fun a w K H => resN K [.agg #[.func (.func 127) #[] #[], .func (.func 128) #[] #[], .func (.func 129) #[] #[], .func (.func 130) #[] #[]]] rfl ⟨⟨_, rfl, blk_loadVar (H.get (i := 0) rfl) Tryz.underlying101 rfl sz_palaver_msg_part⟩, trivial⟩) (fun w H => ?_)
  exact ⟨rfl, H.toBelow ⟨(fun g hg => by rw [List.mem_singleton.1 hg]; exact hg1), trivial⟩⟩

set_option maxRecDepth 100000 in
set_option maxHeartbeats 4000000 in
theorem mk_turn   (w : World) : Calls Tryz.prog 82 #[] w fun e w' => e = .returned (.agg (ptL .turn 0).toArray) ∧ Below w.heap.size w w' := by
  refine sx_enter (n := 2) _ Tryz.func82 rfl rfl rfl (Hp.start w) ?_
  refine SxC.seq (SxC.region ?_)
  refine SxL.new (cs := [.nilFunc, .nilFunc, .nilFunc, .nilFunc]) trivial rfl rfl (fun ρ w E H => ex_alloc rfl zr_palaver_msg_part rfl) fun g1 hg1 => ?_
  refine SxL.nil (SxN.then_ (SxC.seq (SxC.region ?_)))
  refine SxL.val trivial rfl rfl (fun ρ w E H => ex_build (cs := [.func (.func 131) #[] #[], .func (.func 133) #[] #[], .func (.func 135) #[] #[], .func (.func 136) #[] #[]]) E rfl rfl (by kernel_rfl)) ?_
  refine SxL.store (i := 0) trivial rfl rfl rfl rfl rfl sz_palaver_msg_part rfl rfl rfl ?_
  refine SxL.nil (SxN.then_ (SxC.ret ?_))
  refine SxX.done _ (fun a w K H => resN K [.agg #[.func (.func 131) #[] #[], .func (.func 133) #[] #[], .func (.func 135) #[] #[], .func (.func 136) #[] #[]]] rfl ⟨⟨_, rfl, blk_loadVar (H.get (i := 0) rfl) Tryz.underlying101 rfl sz_palaver_msg_part⟩, trivial⟩) (fun w H => ?_)
  exact ⟨rfl, H.toBelow ⟨(fun g hg => by rw [List.mem_singleton.1 hg]; exact hg1), trivial⟩⟩

set_option maxRecDepth 100000 in
set_option maxHeartbeats 4000000 in
theorem mk_floor   (w : World) : Calls Tryz.prog 84 #[] w fun e w' => e = .returned (.agg (ptL .floor 0).toArray) ∧ Below w.heap.size w w' := by
  refine sx_enter (n := 2) _ Tryz.func84 rfl rfl rfl (Hp.start w) ?_
  refine SxC.seq (SxC.region ?_)
  refine SxL.new (cs := [.nilFunc, .nilFunc, .nilFunc, .nilFunc]) trivial rfl rfl (fun ρ w E H => ex_alloc rfl zr_palaver_msg_part rfl) fun g1 hg1 => ?_
  refine SxL.nil (SxN.then_ (SxC.seq (SxC.region ?_)))
  refine SxL.val trivial rfl rfl (fun ρ w E H => ex_build (cs := [.func (.func 143) #[] #[], .func (.func 144) #[] #[], .func (.func 145) #[] #[], .func (.func 146) #[] #[]]) E rfl rfl (by kernel_rfl)) ?_
  refine SxL.store (i := 0) trivial rfl rfl rfl rfl rfl sz_palaver_msg_part rfl rfl rfl ?_
  refine SxL.nil (SxN.then_ (SxC.ret ?_))
  refine SxX.done _ (fun a w K H => resN K [.agg #[.func (.func 143) #[] #[], .func (.func 144) #[] #[], .func (.func 145) #[] #[], .func (.func 146) #[] #[]]] rfl ⟨⟨_, rfl, blk_loadVar (H.get (i := 0) rfl) Tryz.underlying101 rfl sz_palaver_msg_part⟩, trivial⟩) (fun w H => ?_)
  exact ⟨rfl, H.toBelow ⟨(fun g hg => by rw [List.mem_singleton.1 hg]; exact hg1), trivial⟩⟩

set_option maxRecDepth 100000 in
set_option maxHeartbeats 4000000 in
theorem mk_slot (least : Nat)  (w : World) : Calls Tryz.prog 83 #[.int .u64 (least : Int)] w fun e w' => ∃ g, e = .returned (.agg (ptL (.slot least) g).toArray) ∧ w.heap.size ≤ g ∧ g < w'.heap.size ∧ Blk w' g 22 #[.int .u64 (least : Int)] ∧ Below w.heap.size w w' := by
  refine sx_enter (n := 5) _ Tryz.func83 rfl rfl rfl (Hp.start w) ?_
  refine SxC.seq (SxC.region ?_)
  refine SxL.new (cs := [.int .u64 (least : Int)]) trivial rfl rfl (fun ρ w E H => ex_box E rfl rfl rfl) fun g1 hg1 => ?_
  refine SxL.new (cs := [.nilFunc, .nilFunc, .nilFunc, .nilFunc]) trivial rfl rfl (fun ρ w E H => ex_alloc rfl zr_palaver_msg_part rfl) fun g2 hg2 => ?_
  refine SxL.nil (SxN.then_ (SxC.seq (SxC.region ?_)))
  refine SxL.val (v := .func (.func 142) #[] #[.pointer (some ⟨g1, 0, none⟩)]) trivial rfl rfl (fun ρ w E H => ex_makeFunc E rfl rfl rfl) ?_
  refine SxL.val trivial rfl rfl (fun ρ w E H => ex_build (cs := [.func (.func 138) #[] #[], .func (.func 139) #[] #[], .func (.func 141) #[] #[], .func (.func 142) #[] #[.pointer (some ⟨g1, 0, none⟩)]]) E rfl rfl (by kernel_rfl)) ?_
  refine SxL.store (i := 0) trivial rfl rfl rfl rfl rfl sz_palaver_msg_part rfl rfl rfl ?_
  refine SxL.nil (SxN.then_ (SxC.ret ?_))
  refine SxX.done _ (fun a w K H => resN K [.agg #[.func (.func 138) #[] #[], .func (.func 139) #[] #[], .func (.func 141) #[] #[], .func (.func 142) #[] #[.pointer (some ⟨g1, 0, none⟩)]]] rfl ⟨⟨_, rfl, blk_loadVar (H.get (i := 0) rfl) Tryz.underlying101 rfl sz_palaver_msg_part⟩, trivial⟩) (fun w H => ?_)
  have hb : Blk w g1 22 _ := H.get (i := 1) rfl
  exact ⟨g1, rfl, hg1, Blk.lt hb, hb, H.toBelow ⟨(fun g hg => by rw [List.mem_singleton.1 hg]; exact hg2), (fun g hg => by rw [List.mem_singleton.1 hg]; exact hg1), trivial⟩⟩

set_option maxRecDepth 100000 in
set_option maxHeartbeats 4000000 in
theorem mk_value   (w : World) : Calls Tryz.prog 86 #[] w fun e w' => e = .returned (.agg (ptL .value 0).toArray) ∧ Below w.heap.size w w' := by
  refine sx_enter (n := 2) _ Tryz.func86 rfl rfl rfl (Hp.start w) ?_
  refine SxC.seq (SxC.region ?_)
  refine SxL.new (cs := [.nilFunc, .nilFunc, .nilFunc, .nilFunc]) trivial rfl rfl (fun ρ w E H => ex_alloc rfl zr_palaver_msg_part rfl) fun g1 hg1 => ?_
  refine SxL.nil (SxN.then_ (SxC.seq (SxC.region ?_)))
  refine SxL.val trivial rfl rfl (fun ρ w E H => ex_build (cs := [.func (.func 152) #[] #[], .func (.func 153) #[] #[], .func (.func 154) #[] #[], .func (.func 155) #[] #[]]) E rfl rfl (by kernel_rfl)) ?_
  refine SxL.store (i := 0) trivial rfl rfl rfl rfl rfl sz_palaver_msg_part rfl rfl rfl ?_
  refine SxL.nil (SxN.then_ (SxC.ret ?_))
  refine SxX.done _ (fun a w K H => resN K [.agg #[.func (.func 152) #[] #[], .func (.func 153) #[] #[], .func (.func 154) #[] #[], .func (.func 155) #[] #[]]] rfl ⟨⟨_, rfl, blk_loadVar (H.get (i := 0) rfl) Tryz.underlying101 rfl sz_palaver_msg_part⟩, trivial⟩) (fun w H => ?_)
  exact ⟨rfl, H.toBelow ⟨(fun g hg => by rw [List.mem_singleton.1 hg]; exact hg1), trivial⟩⟩

set_option maxRecDepth 100000 in
set_option maxHeartbeats 4000000 in
theorem mk_votes   (w : World) : Calls Tryz.prog 85 #[] w fun e w' => e = .returned (.agg (ptL .votes 0).toArray) ∧ Below w.heap.size w w' := by
  refine sx_enter (n := 2) _ Tryz.func85 rfl rfl rfl (Hp.start w) ?_
  refine SxC.seq (SxC.region ?_)
  refine SxL.new (cs := [.nilFunc, .nilFunc, .nilFunc, .nilFunc]) trivial rfl rfl (fun ρ w E H => ex_alloc rfl zr_palaver_msg_part rfl) fun g1 hg1 => ?_
  refine SxL.nil (SxN.then_ (SxC.seq (SxC.region ?_)))
  refine SxL.val trivial rfl rfl (fun ρ w E H => ex_build (cs := [.func (.func 147) #[] #[], .func (.func 148) #[] #[], .func (.func 149) #[] #[], .func (.func 151) #[] #[]]) E rfl rfl (by kernel_rfl)) ?_
  refine SxL.store (i := 0) trivial rfl rfl rfl rfl rfl sz_palaver_msg_part rfl rfl rfl ?_
  refine SxL.nil (SxN.then_ (SxC.ret ?_))
  refine SxX.done _ (fun a w K H => resN K [.agg #[.func (.func 147) #[] #[], .func (.func 148) #[] #[], .func (.func 149) #[] #[], .func (.func 151) #[] #[]]] rfl ⟨⟨_, rfl, blk_loadVar (H.get (i := 0) rfl) Tryz.underlying101 rfl sz_palaver_msg_part⟩, trivial⟩) (fun w H => ?_)
  exact ⟨rfl, H.toBelow ⟨(fun g hg => by rw [List.mem_singleton.1 hg]; exact hg1), trivial⟩⟩

set_option maxRecDepth 100000 in
set_option maxHeartbeats 4000000 in
theorem mk_items   (w : World) : Calls Tryz.prog 87 #[] w fun e w' => e = .returned (.agg (ptL .items 0).toArray) ∧ Below w.heap.size w w' := by
  refine sx_enter (n := 2) _ Tryz.func87 rfl rfl rfl (Hp.start w) ?_
  refine SxC.seq (SxC.region ?_)
  refine SxL.new (cs := [.nilFunc, .nilFunc, .nilFunc, .nilFunc]) trivial rfl rfl (fun ρ w E H => ex_alloc rfl zr_palaver_msg_part rfl) fun g1 hg1 => ?_
  refine SxL.nil (SxN.then_ (SxC.seq (SxC.region ?_)))
  refine SxL.val trivial rfl rfl (fun ρ w E H => ex_build (cs := [.func (.func 156) #[] #[], .func (.func 157) #[] #[], .func (.func 158) #[] #[], .func (.func 160) #[] #[]]) E rfl rfl (by kernel_rfl)) ?_
  refine SxL.store (i := 0) trivial rfl rfl rfl rfl rfl sz_palaver_msg_part rfl rfl rfl ?_
  refine SxL.nil (SxN.then_ (SxC.ret ?_))
  refine SxX.done _ (fun a w K H => resN K [.agg #[.func (.func 156) #[] #[], .func (.func 157) #[] #[], .func (.func 158) #[] #[], .func (.func 160) #[] #[]]] rfl ⟨⟨_, rfl, blk_loadVar (H.get (i := 0) rfl) Tryz.underlying101 rfl sz_palaver_msg_part⟩, trivial⟩) (fun w H => ?_)
  exact ⟨rfl, H.toBelow ⟨(fun g hg => by rw [List.mem_singleton.1 hg]; exact hg1), trivial⟩⟩

set_option maxRecDepth 100000 in
set_option maxHeartbeats 4000000 in
theorem row_any (v : Value)  (w : World) : Calls Tryz.prog 77 #[v] w fun e w' => e = .returned v ∧ Below w.heap.size w w' := by
  refine sx_enter (n := 4) _ Tryz.func77 rfl rfl rfl (Hp.start w) ?_
  refine SxC.seq (SxC.region ?_)
  refine SxL.val trivial rfl rfl (fun ρ w E H => ex_assign E rfl rfl) ?_
  refine SxL.nil (SxN.then_ (SxC.seq (SxC.region ?_)))
  refine SxL.val trivial rfl rfl (fun ρ w E H => ex_move E rfl rfl) ?_
  refine SxL.val trivial rfl rfl (fun ρ w E H => ex_assign E rfl rfl) ?_
  refine SxL.nil (SxN.then_ (SxC.ret ?_))
  refine SxX.done (v) (fun a w K H => res1 K rfl rfl) (fun w H => ?_)
  exact ⟨rfl, H.toBelow trivial⟩

set_option maxRecDepth 100000 in
set_option maxHeartbeats 4000000 in
theorem parts_any (k : Nat)  (w : World) : Calls Tryz.prog 43 #[.int .u8 (k : Int)] w fun e w' => ∃ A c gb q, e = .returned (.slice A (List.length q) c) ∧ q.map (·.1) = partsOf k ∧ (q ≠ [] → A = some ⟨gb, 0, none⟩) ∧ (∀ g ∈ (partsF gb q).fp, w.heap.size ≤ g ∧ g < w'.heap.size) ∧ (partsF gb q).φ w' ∧ Below w.heap.size w w' := by
  refine sx_enter (n := 77) _ Tryz.func43 rfl rfl rfl (Hp.start w) ?_
  refine SxC.seq (SxC.region ?_)
  refine SxL.val trivial rfl rfl (fun ρ w E H => ex_assign E rfl rfl) ?_
  refine SxL.nil (SxN.then_ (SxC.seq (SxC.seq (SxC.region ?_))))
  refine SxL.val trivial rfl rfl (fun ρ w E H => ex_move E rfl rfl) ?_
  refine SxL.nil (SxN.then_ (SxC.block (SxC.seq (SxC.region ?_))))
  refine SxL.valB trivial rfl rfl (fun ρ w E H => ex_cmp E rfl rfl rfl rfl rfl) fun c5 hc5 => ?_
  refine SxL.val trivial rfl rfl (fun ρ w E H => ex_assign E rfl rfl) ?_
  refine SxL.nil (SxN.then_ ?_)
  cases c5
  · refine SxC.condF rfl (SxC.seq (SxC.region ?_))
    refine SxL.valB trivial rfl rfl (fun ρ w E H => ex_cmp E rfl rfl rfl rfl rfl) fun c10 hc10 => ?_
    refine SxL.val trivial rfl rfl (fun ρ w E H => ex_assign E rfl rfl) ?_
    refine SxL.nil (SxN.then_ ?_)
    cases c10
    · refine SxC.condF rfl (SxC.seq (SxC.region ?_))
      refine SxL.valB trivial rfl rfl (fun ρ w E H => ex_cmp E rfl rfl rfl rfl rfl) fun c16 hc16 => ?_
      refine SxL.val trivial rfl rfl (fun ρ w E H => ex_assign E rfl rfl) ?_
      refine SxL.nil (SxN.then_ ?_)
      cases c16
      · refine SxC.condF rfl (SxC.seq (SxC.seq (SxC.region ?_)))
        refine SxL.valB trivial rfl rfl (fun ρ w E H => ex_cmp E rfl rfl rfl rfl rfl) fun c22 hc22 => ?_
        refine SxL.val trivial rfl rfl (fun ρ w E H => ex_assign E rfl rfl) ?_
        refine SxL.nil (SxN.then_ ?_)
        cases c22
        · refine SxC.condF rfl (SxC.region ?_)
          refine SxL.valB trivial rfl rfl (fun ρ w E H => ex_cmp E rfl rfl rfl rfl rfl) fun c23 hc23 => ?_
          refine SxL.val trivial rfl rfl (fun ρ w E H => ex_assign E rfl rfl) ?_
          refine SxL.nil (SxN.then_ ?_)
          cases c23
          · refine SxC.condF rfl (SxC.seq (SxC.region ?_))
            refine SxL.valB trivial rfl rfl (fun ρ w E H => ex_cmp E rfl rfl rfl rfl rfl) fun c29 hc29 => ?_
            refine SxL.val trivial rfl rfl (fun ρ w E H => ex_assign E rfl rfl) ?_
            refine SxL.nil (SxN.then_ ?_)
            cases c29
            · refine SxC.condF rfl (SxC.seq (SxC.region ?_))
              refine SxL.valB trivial rfl rfl (fun ρ w E H => ex_cmp E rfl rfl rfl rfl rfl) fun c37 hc37 => ?_
              refine SxL.val trivial rfl rfl (fun ρ w E H => ex_assign E rfl rfl) ?_
              refine SxL.nil (SxN.then_ ?_)
              cases c37
              · refine SxC.condF rfl (SxC.seq (SxC.region ?_))
                refine SxL.valB trivial rfl rfl (fun ρ w E H => ex_cmp E rfl rfl rfl rfl rfl) fun c42 hc42 => ?_
                refine SxL.val trivial rfl rfl (fun ρ w E H => ex_assign E rfl rfl) ?_
                refine SxL.nil (SxN.then_ ?_)
                cases c42
                · refine SxC.condF rfl (SxC.seq (SxC.region ?_))
                  refine SxL.valB trivial rfl rfl (fun ρ w E H => ex_cmp E rfl rfl rfl rfl rfl) fun c49 hc49 => ?_
                  refine SxL.val trivial rfl rfl (fun ρ w E H => ex_assign E rfl rfl) ?_
                  refine SxL.nil (SxN.then_ ?_)
                  cases c49
                  · refine SxC.condF rfl (SxC.seq (SxC.region ?_))
                    refine SxL.valB trivial rfl rfl (fun ρ w E H => ex_cmp E rfl rfl rfl rfl rfl) fun c54 hc54 => ?_
                    refine SxL.val trivial rfl rfl (fun ρ w E H => ex_assign E rfl rfl) ?_
                    refine SxL.nil (SxN.then_ ?_)
                    cases c54
                    · refine SxC.condF rfl (SxC.seq (SxC.region ?_))
                      refine SxL.valB trivial rfl rfl (fun ρ w E H => ex_cmp E rfl rfl rfl rfl rfl) fun c59 hc59 => ?_
                      refine SxL.val trivial rfl rfl (fun ρ w E H => ex_assign E rfl rfl) ?_
                      refine SxL.nil (SxN.then_ ?_)
                      cases c59
                      · refine SxC.condF rfl (SxC.seq (SxC.region ?_))
                        refine SxL.valB trivial rfl rfl (fun ρ w E H => ex_cmp E rfl rfl rfl rfl rfl) fun c65 hc65 => ?_
                        refine SxL.val trivial rfl rfl (fun ρ w E H => ex_assign E rfl rfl) ?_
                        refine SxL.nil (SxN.then_ ?_)
                        cases c65
                        · refine SxC.condF rfl (SxC.seq (SxC.region ?_))
                          refine SxL.valB trivial rfl rfl (fun ρ w E H => ex_cmp E rfl rfl rfl rfl rfl) fun c71 hc71 => ?_
                          refine SxL.val trivial rfl rfl (fun ρ w E H => ex_assign E rfl rfl) ?_
                          refine SxL.nil (SxN.then_ ?_)
                          cases c71
                          · refine SxC.condF rfl (SxC.skip (SxN.block (SxN.then_ (SxC.seq (SxC.region ?_)))))
                            refine SxL.val trivial rfl rfl (fun ρ w E H => ex_assign E rfl rfl) ?_
                            refine SxL.nil (SxN.then_ (SxC.ret ?_))
                            refine SxX.done (.slice none 0 0) (fun a w K H => res1 K rfl rfl) (fun w H => ?_)
                            refine ⟨none, 0, 0, [], rfl, ?_, fun h => absurd rfl h, by simp [partsF, capsOf], ⟨fun h => absurd rfl h, by simp⟩, H.toBelow trivial⟩
                            have n0 := hc5
                            have n1 := hc10
                            have n2 := hc16
                            have n3 := hc22
                            have n4 := hc23
                            have n5 := hc29
                            have n6 := hc37
                            have n7 := hc42
                            have n8 := hc49
                            have n9 := hc54
                            have n10 := hc59
                            have n11 := hc65
                            have n12 := hc71
                            simp [cmpB] at n0 n1 n2 n3 n4 n5 n6 n7 n8 n9 n10 n11 n12
                            show [] = partsOf k
                            unfold partsOf
                            repeat rw [if_neg (by omega)]
                          · refine SxC.condT rfl (SxC.seq (SxC.region ?_))
                            refine SxL.callB (v := .agg #[.func (.func 143) #[] #[], .func (.func 144) #[] #[], .func (.func 145) #[] #[], .func (.func 146) #[] #[]]) trivial rfl rfl (fun ρ w E => ex_call E en_palaver_msg_floor rfl rfl) (fun w H => mk_floor w) ?_
                            refine SxL.call (σ := Nat) (fun s73 => .agg #[.func (.func 138) #[] #[], .func (.func 139) #[] #[], .func (.func 141) #[] #[], .func (.func 142) #[] #[.pointer (some ⟨s73, 0, none⟩)]]) (fun s73 => True ∧ ∀ b ∈ (cell s73 22 [.int .u64 ((1 : Nat) : Int)]).fp, w.heap.size ≤ b) (fun s73 => _) trivial rfl rfl (fun ρ w E => ex_call E en_palaver_msg_slot rfl rfl) (callNew (fun s73 => .agg #[.func (.func 138) #[] #[], .func (.func 139) #[] #[], .func (.func 141) #[] #[], .func (.func 142) #[] #[.pointer (some ⟨s73, 0, none⟩)]]) (fun _ => True) (fun s73 => cell s73 22 [.int .u64 ((1 : Nat) : Int)]) (fun _ => cell_loc _ _ _) (fun w H => (mk_slot 1 w).mono fun _ _ ⟨g, h1, h2, h3, h4, h5⟩ => ⟨g, h1, trivial, fun b hb => by rw [List.mem_singleton.1 hb]; exact ⟨h2, h3⟩, h4, h5⟩)) fun s73 hs73 => ?_
                            have fs73 : w.heap.size ≤ s73 := hs73.2 _ (List.mem_singleton.2 rfl)
                            refine SxL.callB (v := .agg #[.func (.func 152) #[] #[], .func (.func 153) #[] #[], .func (.func 154) #[] #[], .func (.func 155) #[] #[]]) trivial rfl rfl (fun ρ w E => ex_call E en_palaver_msg_value rfl rfl) (fun w H => mk_value w) ?_
                            refine SxL.newS (cs := [.func (.func 143) #[] #[], .func (.func 144) #[] #[], .func (.func 145) #[] #[], .func (.func 146) #[] #[], .func (.func 138) #[] #[], .func (.func 139) #[] #[], .func (.func 141) #[] #[], .func (.func 142) #[] #[.pointer (some ⟨s73, 0, none⟩)], .func (.func 152) #[] #[], .func (.func 153) #[] #[], .func (.func 154) #[] #[], .func (.func 155) #[] #[]]) trivial rfl rfl (fun ρ w E H => ex_buildSlice E rfl rfl Tryz.underlying95 sz_palaver_msg_part zr_palaver_msg_part rfl rfl (by kernel_rfl)) fun g1 hg1 => ?_
                            refine SxL.callB (v := .slice (some ⟨g1, 0, none⟩) 3 3) trivial rfl rfl (fun ρ w E => ex_call E en_palaver_msg_row rfl rfl) (fun w H => row_any _ w) ?_
                            refine SxL.val trivial rfl rfl (fun ρ w E H => ex_assign E rfl rfl) ?_
                            refine SxL.nil (SxN.then_ (SxC.ret (SxX.blockR (SxX.thenR ?_))))
                            refine SxX.done (.slice (some ⟨g1, 0, none⟩) 3 3) (fun a w K H => res1 K rfl rfl) (fun w H => ?_)
                            have hk := hc71
                            simp [cmpB] at hk
                            refine ⟨_, _, g1, [(.floor, 0), (.slot 1, s73), (.value, 0)], rfl, ?_, fun _ => rfl, ?_, ⟨fun _ => H.get (i := 0) rfl, ?_⟩, H.toBelow ⟨(fun g hg => by rw [List.mem_singleton.1 hg]; exact hg1), (fun g hg => by rw [List.mem_singleton.1 hg]; exact fs73), trivial⟩⟩
                            · obtain rfl : k = 13 := by omega
                              rfl
                            · have l0 := Blk.lt (show Blk _ g1 _ _ from H.get (i := 0) rfl)
                              have ls73 := Blk.lt (show Blk _ s73 _ _ from H.get (i := 1) rfl)
                              intro b hb
                              simp [partsF, capsOf, Pt.caps] at hb
                              omega
                            · intro x hx
                              simp only [List.mem_cons, List.not_mem_nil, or_false] at hx
                              rcases hx with rfl | rfl | rfl
                              · exact trivial
                              · exact H.get (i := 1) rfl
                              · exact trivial
                        · refine SxC.condT rfl (SxC.seq (SxC.region ?_))
                          refine SxL.call (σ := Nat) (fun s66 => .agg #[.func (.func 138) #[] #[], .func (.func 139) #[] #[], .func (.func 141) #[] #[], .func (.func 142) #[] #[.pointer (some ⟨s66, 0, none⟩)]]) (fun s66 => True ∧ ∀ b ∈ (cell s66 22 [.int .u64 ((1 : Nat) : Int)]).fp, w.heap.size ≤ b) (fun s66 => _) trivial rfl rfl (fun ρ w E => ex_call E en_palaver_msg_slot rfl rfl) (callNew (fun s66 => .agg #[.func (.func 138) #[] #[], .func (.func 139) #[] #[], .func (.func 141) #[] #[], .func (.func 142) #[] #[.pointer (some ⟨s66, 0, none⟩)]]) (fun _ => True) (fun s66 => cell s66 22 [.int .u64 ((1 : Nat) : Int)]) (fun _ => cell_loc _ _ _) (fun w H => (mk_slot 1 w).mono fun _ _ ⟨g, h1, h2, h3, h4, h5⟩ => ⟨g, h1, trivial, fun b hb => by rw [List.mem_singleton.1 hb]; exact ⟨h2, h3⟩, h4, h5⟩)) fun s66 hs66 => ?_
                          have fs66 : w.heap.size ≤ s66 := hs66.2 _ (List.mem_singleton.2 rfl)
                          refine SxL.callB (v := .agg #[.func (.func 152) #[] #[], .func (.func 153) #[] #[], .func (.func 154) #[] #[], .func (.func 155) #[] #[]]) trivial rfl rfl (fun ρ w E => ex_call E en_palaver_msg_value rfl rfl) (fun w H => mk_value w) ?_
                          refine SxL.newS (cs := [.func (.func 138) #[] #[], .func (.func 139) #[] #[], .func (.func 141) #[] #[], .func (.func 142) #[] #[.pointer (some ⟨s66, 0, none⟩)], .func (.func 152) #[] #[], .func (.func 153) #[] #[], .func (.func 154) #[] #[], .func (.func 155) #[] #[]]) trivial rfl rfl (fun ρ w E H => ex_buildSlice E rfl rfl Tryz.underlying95 sz_palaver_msg_part zr_palaver_msg_part rfl rfl (by kernel_rfl)) fun g2 hg2 => ?_
                          refine SxL.callB (v := .slice (some ⟨g2, 0, none⟩) 2 2) trivial rfl rfl (fun ρ w E => ex_call E en_palaver_msg_row rfl rfl) (fun w H => row_any _ w) ?_
                          refine SxL.val trivial rfl rfl (fun ρ w E H => ex_assign E rfl rfl) ?_
                          refine SxL.nil (SxN.then_ (SxC.ret (SxX.blockR (SxX.thenR ?_))))
                          refine SxX.done (.slice (some ⟨g2, 0, none⟩) 2 2) (fun a w K H => res1 K rfl rfl) (fun w H => ?_)
                          have hk := hc65
                          simp [cmpB] at hk
                          refine ⟨_, _, g2, [(.slot 1, s66), (.value, 0)], rfl, ?_, fun _ => rfl, ?_, ⟨fun _ => H.get (i := 0) rfl, ?_⟩, H.toBelow ⟨(fun g hg => by rw [List.mem_singleton.1 hg]; exact hg2), (fun g hg => by rw [List.mem_singleton.1 hg]; exact fs66), trivial⟩⟩
                          · obtain rfl : k = 12 := by omega
                            rfl
                          · have l0 := Blk.lt (show Blk _ g2 _ _ from H.get (i := 0) rfl)
                            have ls66 := Blk.lt (show Blk _ s66 _ _ from H.get (i := 1) rfl)
                            intro b hb
                            simp [partsF, capsOf, Pt.caps] at hb
                            omega
                          · intro x hx
                            simp only [List.mem_cons, List.not_mem_nil, or_false] at hx
                            rcases hx with rfl | rfl
                            · exact H.get (i := 1) rfl
                            · exact trivial
                      · refine SxC.condT rfl (SxC.seq (SxC.region ?_))
                        refine SxL.callB (v := .agg #[.func (.func 131) #[] #[], .func (.func 133) #[] #[], .func (.func 135) #[] #[], .func (.func 136) #[] #[]]) trivial rfl rfl (fun ρ w E => ex_call E en_palaver_msg_turn rfl rfl) (fun w H => mk_turn w) ?_
                        refine SxL.call (σ := Nat) (fun s61 => .agg #[.func (.func 138) #[] #[], .func (.func 139) #[] #[], .func (.func 141) #[] #[], .func (.func 142) #[] #[.pointer (some ⟨s61, 0, none⟩)]]) (fun s61 => True ∧ ∀ b ∈ (cell s61 22 [.int .u64 ((0 : Nat) : Int)]).fp, w.heap.size ≤ b) (fun s61 => _) trivial rfl rfl (fun ρ w E => ex_call E en_palaver_msg_slot rfl rfl) (callNew (fun s61 => .agg #[.func (.func 138) #[] #[], .func (.func 139) #[] #[], .func (.func 141) #[] #[], .func (.func 142) #[] #[.pointer (some ⟨s61, 0, none⟩)]]) (fun _ => True) (fun s61 => cell s61 22 [.int .u64 ((0 : Nat) : Int)]) (fun _ => cell_loc _ _ _) (fun w H => (mk_slot 0 w).mono fun _ _ ⟨g, h1, h2, h3, h4, h5⟩ => ⟨g, h1, trivial, fun b hb => by rw [List.mem_singleton.1 hb]; exact ⟨h2, h3⟩, h4, h5⟩)) fun s61 hs61 => ?_
                        have fs61 : w.heap.size ≤ s61 := hs61.2 _ (List.mem_singleton.2 rfl)
                        refine SxL.newS (cs := [.func (.func 131) #[] #[], .func (.func 133) #[] #[], .func (.func 135) #[] #[], .func (.func 136) #[] #[], .func (.func 138) #[] #[], .func (.func 139) #[] #[], .func (.func 141) #[] #[], .func (.func 142) #[] #[.pointer (some ⟨s61, 0, none⟩)]]) trivial rfl rfl (fun ρ w E H => ex_buildSlice E rfl rfl Tryz.underlying95 sz_palaver_msg_part zr_palaver_msg_part rfl rfl (by kernel_rfl)) fun g3 hg3 => ?_
                        refine SxL.callB (v := .slice (some ⟨g3, 0, none⟩) 2 2) trivial rfl rfl (fun ρ w E => ex_call E en_palaver_msg_row rfl rfl) (fun w H => row_any _ w) ?_
                        refine SxL.val trivial rfl rfl (fun ρ w E H => ex_assign E rfl rfl) ?_
                        refine SxL.nil (SxN.then_ (SxC.ret (SxX.blockR (SxX.thenR ?_))))
                        refine SxX.done (.slice (some ⟨g3, 0, none⟩) 2 2) (fun a w K H => res1 K rfl rfl) (fun w H => ?_)
                        have hk := hc59
                        simp [cmpB] at hk
                        refine ⟨_, _, g3, [(.turn, 0), (.slot 0, s61)], rfl, ?_, fun _ => rfl, ?_, ⟨fun _ => H.get (i := 0) rfl, ?_⟩, H.toBelow ⟨(fun g hg => by rw [List.mem_singleton.1 hg]; exact hg3), (fun g hg => by rw [List.mem_singleton.1 hg]; exact fs61), trivial⟩⟩
                        · obtain rfl : k = 11 := by omega
                          rfl
                        · have l0 := Blk.lt (show Blk _ g3 _ _ from H.get (i := 0) rfl)
                          have ls61 := Blk.lt (show Blk _ s61 _ _ from H.get (i := 1) rfl)
                          intro b hb
                          simp [partsF, capsOf, Pt.caps] at hb
                          omega
                        · intro x hx
                          simp only [List.mem_cons, List.not_mem_nil, or_false] at hx
                          rcases hx with rfl | rfl
                          · exact trivial
                          · exact H.get (i := 1) rfl
                    · refine SxC.condT rfl (SxC.seq (SxC.region ?_))
                      refine SxL.call (σ := Nat) (fun s55 => .agg #[.func (.func 138) #[] #[], .func (.func 139) #[] #[], .func (.func 141) #[] #[], .func (.func 142) #[] #[.pointer (some ⟨s55, 0, none⟩)]]) (fun s55 => True ∧ ∀ b ∈ (cell s55 22 [.int .u64 ((0 : Nat) : Int)]).fp, w.heap.size ≤ b) (fun s55 => _) trivial rfl rfl (fun ρ w E => ex_call E en_palaver_msg_slot rfl rfl) (callNew (fun s55 => .agg #[.func (.func 138) #[] #[], .func (.func 139) #[] #[], .func (.func 141) #[] #[], .func (.func 142) #[] #[.pointer (some ⟨s55, 0, none⟩)]]) (fun _ => True) (fun s55 => cell s55 22 [.int .u64 ((0 : Nat) : Int)]) (fun _ => cell_loc _ _ _) (fun w H => (mk_slot 0 w).mono fun _ _ ⟨g, h1, h2, h3, h4, h5⟩ => ⟨g, h1, trivial, fun b hb => by rw [List.mem_singleton.1 hb]; exact ⟨h2, h3⟩, h4, h5⟩)) fun s55 hs55 => ?_
                      have fs55 : w.heap.size ≤ s55 := hs55.2 _ (List.mem_singleton.2 rfl)
                      refine SxL.newS (cs := [.func (.func 138) #[] #[], .func (.func 139) #[] #[], .func (.func 141) #[] #[], .func (.func 142) #[] #[.pointer (some ⟨s55, 0, none⟩)]]) trivial rfl rfl (fun ρ w E H => ex_buildSlice E rfl rfl Tryz.underlying95 sz_palaver_msg_part zr_palaver_msg_part rfl rfl (by kernel_rfl)) fun g4 hg4 => ?_
                      refine SxL.callB (v := .slice (some ⟨g4, 0, none⟩) 1 1) trivial rfl rfl (fun ρ w E => ex_call E en_palaver_msg_row rfl rfl) (fun w H => row_any _ w) ?_
                      refine SxL.val trivial rfl rfl (fun ρ w E H => ex_assign E rfl rfl) ?_
                      refine SxL.nil (SxN.then_ (SxC.ret (SxX.blockR (SxX.thenR ?_))))
                      refine SxX.done (.slice (some ⟨g4, 0, none⟩) 1 1) (fun a w K H => res1 K rfl rfl) (fun w H => ?_)
                      have hk := hc54
                      simp [cmpB] at hk
                      refine ⟨_, _, g4, [(.slot 0, s55)], rfl, ?_, fun _ => rfl, ?_, ⟨fun _ => H.get (i := 0) rfl, ?_⟩, H.toBelow ⟨(fun g hg => by rw [List.mem_singleton.1 hg]; exact hg4), (fun g hg => by rw [List.mem_singleton.1 hg]; exact fs55), trivial⟩⟩
                      · obtain rfl : k = 10 := by omega
                        rfl
                      · have l0 := Blk.lt (show Blk _ g4 _ _ from H.get (i := 0) rfl)
                        have ls55 := Blk.lt (show Blk _ s55 _ _ from H.get (i := 1) rfl)
                        intro b hb
                        simp [partsF, capsOf, Pt.caps] at hb
                        omega
                      · intro x hx
                        simp only [List.mem_cons, List.not_mem_nil, or_false] at hx
                        subst hx
                        exact H.get (i := 1) rfl
                  · refine SxC.condT rfl (SxC.seq (SxC.region ?_))
                    refine SxL.callB (v := .agg #[.func (.func 156) #[] #[], .func (.func 157) #[] #[], .func (.func 158) #[] #[], .func (.func 160) #[] #[]]) trivial rfl rfl (fun ρ w E => ex_call E en_palaver_msg_items rfl rfl) (fun w H => mk_items w) ?_
                    refine SxL.newS (cs := [.func (.func 156) #[] #[], .func (.func 157) #[] #[], .func (.func 158) #[] #[], .func (.func 160) #[] #[]]) trivial rfl rfl (fun ρ w E H => ex_buildSlice E rfl rfl Tryz.underlying95 sz_palaver_msg_part zr_palaver_msg_part rfl rfl (by kernel_rfl)) fun g5 hg5 => ?_
                    refine SxL.callB (v := .slice (some ⟨g5, 0, none⟩) 1 1) trivial rfl rfl (fun ρ w E => ex_call E en_palaver_msg_row rfl rfl) (fun w H => row_any _ w) ?_
                    refine SxL.val trivial rfl rfl (fun ρ w E H => ex_assign E rfl rfl) ?_
                    refine SxL.nil (SxN.then_ (SxC.ret (SxX.blockR (SxX.thenR ?_))))
                    refine SxX.done (.slice (some ⟨g5, 0, none⟩) 1 1) (fun a w K H => res1 K rfl rfl) (fun w H => ?_)
                    have hk := hc49
                    simp [cmpB] at hk
                    refine ⟨_, _, g5, [(.items, 0)], rfl, ?_, fun _ => rfl, ?_, ⟨fun _ => H.get (i := 0) rfl, ?_⟩, H.toBelow ⟨(fun g hg => by rw [List.mem_singleton.1 hg]; exact hg5), trivial⟩⟩
                    · obtain rfl : k = 9 := by omega
                      rfl
                    · have l0 := Blk.lt (show Blk _ g5 _ _ from H.get (i := 0) rfl)
                      intro b hb
                      simp [partsF, capsOf, Pt.caps] at hb
                      omega
                    · intro x hx
                      simp only [List.mem_cons, List.not_mem_nil, or_false] at hx
                      subst hx
                      exact trivial
                · refine SxC.condT rfl (SxC.seq (SxC.region ?_))
                  refine SxL.callB (v := .agg #[.func (.func 131) #[] #[], .func (.func 133) #[] #[], .func (.func 135) #[] #[], .func (.func 136) #[] #[]]) trivial rfl rfl (fun ρ w E => ex_call E en_palaver_msg_turn rfl rfl) (fun w H => mk_turn w) ?_
                  refine SxL.call (σ := Nat) (fun s44 => .agg #[.func (.func 138) #[] #[], .func (.func 139) #[] #[], .func (.func 141) #[] #[], .func (.func 142) #[] #[.pointer (some ⟨s44, 0, none⟩)]]) (fun s44 => True ∧ ∀ b ∈ (cell s44 22 [.int .u64 ((1 : Nat) : Int)]).fp, w.heap.size ≤ b) (fun s44 => _) trivial rfl rfl (fun ρ w E => ex_call E en_palaver_msg_slot rfl rfl) (callNew (fun s44 => .agg #[.func (.func 138) #[] #[], .func (.func 139) #[] #[], .func (.func 141) #[] #[], .func (.func 142) #[] #[.pointer (some ⟨s44, 0, none⟩)]]) (fun _ => True) (fun s44 => cell s44 22 [.int .u64 ((1 : Nat) : Int)]) (fun _ => cell_loc _ _ _) (fun w H => (mk_slot 1 w).mono fun _ _ ⟨g, h1, h2, h3, h4, h5⟩ => ⟨g, h1, trivial, fun b hb => by rw [List.mem_singleton.1 hb]; exact ⟨h2, h3⟩, h4, h5⟩)) fun s44 hs44 => ?_
                  have fs44 : w.heap.size ≤ s44 := hs44.2 _ (List.mem_singleton.2 rfl)
                  refine SxL.callB (v := .agg #[.func (.func 152) #[] #[], .func (.func 153) #[] #[], .func (.func 154) #[] #[], .func (.func 155) #[] #[]]) trivial rfl rfl (fun ρ w E => ex_call E en_palaver_msg_value rfl rfl) (fun w H => mk_value w) ?_
                  refine SxL.newS (cs := [.func (.func 131) #[] #[], .func (.func 133) #[] #[], .func (.func 135) #[] #[], .func (.func 136) #[] #[], .func (.func 138) #[] #[], .func (.func 139) #[] #[], .func (.func 141) #[] #[], .func (.func 142) #[] #[.pointer (some ⟨s44, 0, none⟩)], .func (.func 152) #[] #[], .func (.func 153) #[] #[], .func (.func 154) #[] #[], .func (.func 155) #[] #[]]) trivial rfl rfl (fun ρ w E H => ex_buildSlice E rfl rfl Tryz.underlying95 sz_palaver_msg_part zr_palaver_msg_part rfl rfl (by kernel_rfl)) fun g6 hg6 => ?_
                  refine SxL.callB (v := .slice (some ⟨g6, 0, none⟩) 3 3) trivial rfl rfl (fun ρ w E => ex_call E en_palaver_msg_row rfl rfl) (fun w H => row_any _ w) ?_
                  refine SxL.val trivial rfl rfl (fun ρ w E H => ex_assign E rfl rfl) ?_
                  refine SxL.nil (SxN.then_ (SxC.ret (SxX.blockR (SxX.thenR ?_))))
                  refine SxX.done (.slice (some ⟨g6, 0, none⟩) 3 3) (fun a w K H => res1 K rfl rfl) (fun w H => ?_)
                  have hk := hc42
                  simp [cmpB] at hk
                  refine ⟨_, _, g6, [(.turn, 0), (.slot 1, s44), (.value, 0)], rfl, ?_, fun _ => rfl, ?_, ⟨fun _ => H.get (i := 0) rfl, ?_⟩, H.toBelow ⟨(fun g hg => by rw [List.mem_singleton.1 hg]; exact hg6), (fun g hg => by rw [List.mem_singleton.1 hg]; exact fs44), trivial⟩⟩
                  · obtain rfl : k = 7 := by omega
                    rfl
                  · have l0 := Blk.lt (show Blk _ g6 _ _ from H.get (i := 0) rfl)
                    have ls44 := Blk.lt (show Blk _ s44 _ _ from H.get (i := 1) rfl)
                    intro b hb
                    simp [partsF, capsOf, Pt.caps] at hb
                    omega
                  · intro x hx
                    simp only [List.mem_cons, List.not_mem_nil, or_false] at hx
                    rcases hx with rfl | rfl | rfl
                    · exact trivial
                    · exact H.get (i := 1) rfl
                    · exact trivial
              · refine SxC.condT rfl (SxC.seq (SxC.region ?_))
                refine SxL.callB (v := .agg #[.func (.func 131) #[] #[], .func (.func 133) #[] #[], .func (.func 135) #[] #[], .func (.func 136) #[] #[]]) trivial rfl rfl (fun ρ w E => ex_call E en_palaver_msg_turn rfl rfl) (fun w H => mk_turn w) ?_
                refine SxL.newS (cs := [.func (.func 131) #[] #[], .func (.func 133) #[] #[], .func (.func 135) #[] #[], .func (.func 136) #[] #[]]) trivial rfl rfl (fun ρ w E H => ex_buildSlice E rfl rfl Tryz.underlying95 sz_palaver_msg_part zr_palaver_msg_part rfl rfl (by kernel_rfl)) fun g7 hg7 => ?_
                refine SxL.callB (v := .slice (some ⟨g7, 0, none⟩) 1 1) trivial rfl rfl (fun ρ w E => ex_call E en_palaver_msg_row rfl rfl) (fun w H => row_any _ w) ?_
                refine SxL.val trivial rfl rfl (fun ρ w E H => ex_assign E rfl rfl) ?_
                refine SxL.nil (SxN.then_ (SxC.ret (SxX.blockR (SxX.thenR ?_))))
                refine SxX.done (.slice (some ⟨g7, 0, none⟩) 1 1) (fun a w K H => res1 K rfl rfl) (fun w H => ?_)
                have hk := hc37
                simp [cmpB] at hk
                refine ⟨_, _, g7, [(.turn, 0)], rfl, ?_, fun _ => rfl, ?_, ⟨fun _ => H.get (i := 0) rfl, ?_⟩, H.toBelow ⟨(fun g hg => by rw [List.mem_singleton.1 hg]; exact hg7), trivial⟩⟩
                · obtain rfl : k = 6 := by omega
                  rfl
                · have l0 := Blk.lt (show Blk _ g7 _ _ from H.get (i := 0) rfl)
                  intro b hb
                  simp [partsF, capsOf, Pt.caps] at hb
                  omega
                · intro x hx
                  simp only [List.mem_cons, List.not_mem_nil, or_false] at hx
                  subst hx
                  exact trivial
            · refine SxC.condT rfl (SxC.seq (SxC.region ?_))
              refine SxL.callB (v := .agg #[.func (.func 131) #[] #[], .func (.func 133) #[] #[], .func (.func 135) #[] #[], .func (.func 136) #[] #[]]) trivial rfl rfl (fun ρ w E => ex_call E en_palaver_msg_turn rfl rfl) (fun w H => mk_turn w) ?_
              refine SxL.callB (v := .agg #[.func (.func 143) #[] #[], .func (.func 144) #[] #[], .func (.func 145) #[] #[], .func (.func 146) #[] #[]]) trivial rfl rfl (fun ρ w E => ex_call E en_palaver_msg_floor rfl rfl) (fun w H => mk_floor w) ?_
              refine SxL.call (σ := Nat) (fun s32 => .agg #[.func (.func 138) #[] #[], .func (.func 139) #[] #[], .func (.func 141) #[] #[], .func (.func 142) #[] #[.pointer (some ⟨s32, 0, none⟩)]]) (fun s32 => True ∧ ∀ b ∈ (cell s32 22 [.int .u64 ((0 : Nat) : Int)]).fp, w.heap.size ≤ b) (fun s32 => _) trivial rfl rfl (fun ρ w E => ex_call E en_palaver_msg_slot rfl rfl) (callNew (fun s32 => .agg #[.func (.func 138) #[] #[], .func (.func 139) #[] #[], .func (.func 141) #[] #[], .func (.func 142) #[] #[.pointer (some ⟨s32, 0, none⟩)]]) (fun _ => True) (fun s32 => cell s32 22 [.int .u64 ((0 : Nat) : Int)]) (fun _ => cell_loc _ _ _) (fun w H => (mk_slot 0 w).mono fun _ _ ⟨g, h1, h2, h3, h4, h5⟩ => ⟨g, h1, trivial, fun b hb => by rw [List.mem_singleton.1 hb]; exact ⟨h2, h3⟩, h4, h5⟩)) fun s32 hs32 => ?_
              have fs32 : w.heap.size ≤ s32 := hs32.2 _ (List.mem_singleton.2 rfl)
              refine SxL.callB (v := .agg #[.func (.func 147) #[] #[], .func (.func 148) #[] #[], .func (.func 149) #[] #[], .func (.func 151) #[] #[]]) trivial rfl rfl (fun ρ w E => ex_call E en_palaver_msg_votes rfl rfl) (fun w H => mk_votes w) ?_
              refine SxL.newS (cs := [.func (.func 131) #[] #[], .func (.func 133) #[] #[], .func (.func 135) #[] #[], .func (.func 136) #[] #[], .func (.func 143) #[] #[], .func (.func 144) #[] #[], .func (.func 145) #[] #[], .func (.func 146) #[] #[], .func (.func 138) #[] #[], .func (.func 139) #[] #[], .func (.func 141) #[] #[], .func (.func 142) #[] #[.pointer (some ⟨s32, 0, none⟩)], .func (.func 147) #[] #[], .func (.func 148) #[] #[], .func (.func 149) #[] #[], .func (.func 151) #[] #[]]) trivial rfl rfl (fun ρ w E H => ex_buildSlice E rfl rfl Tryz.underlying95 sz_palaver_msg_part zr_palaver_msg_part rfl rfl (by kernel_rfl)) fun g8 hg8 => ?_
              refine SxL.callB (v := .slice (some ⟨g8, 0, none⟩) 4 4) trivial rfl rfl (fun ρ w E => ex_call E en_palaver_msg_row rfl rfl) (fun w H => row_any _ w) ?_
              refine SxL.val trivial rfl rfl (fun ρ w E H => ex_assign E rfl rfl) ?_
              refine SxL.nil (SxN.then_ (SxC.ret (SxX.blockR (SxX.thenR ?_))))
              refine SxX.done (.slice (some ⟨g8, 0, none⟩) 4 4) (fun a w K H => res1 K rfl rfl) (fun w H => ?_)
              have hk := hc29
              simp [cmpB] at hk
              refine ⟨_, _, g8, [(.turn, 0), (.floor, 0), (.slot 0, s32), (.votes, 0)], rfl, ?_, fun _ => rfl, ?_, ⟨fun _ => H.get (i := 0) rfl, ?_⟩, H.toBelow ⟨(fun g hg => by rw [List.mem_singleton.1 hg]; exact hg8), (fun g hg => by rw [List.mem_singleton.1 hg]; exact fs32), trivial⟩⟩
              · obtain rfl : k = 5 := by omega
                rfl
              · have l0 := Blk.lt (show Blk _ g8 _ _ from H.get (i := 0) rfl)
                have ls32 := Blk.lt (show Blk _ s32 _ _ from H.get (i := 1) rfl)
                intro b hb
                simp [partsF, capsOf, Pt.caps] at hb
                omega
              · intro x hx
                simp only [List.mem_cons, List.not_mem_nil, or_false] at hx
                rcases hx with rfl | rfl | rfl | rfl
                · exact trivial
                · exact trivial
                · exact H.get (i := 1) rfl
                · exact trivial
          · refine SxC.condT rfl (SxC.seq (SxC.region ?_))
            refine SxL.callB (v := .agg #[.func (.func 131) #[] #[], .func (.func 133) #[] #[], .func (.func 135) #[] #[], .func (.func 136) #[] #[]]) trivial rfl rfl (fun ρ w E => ex_call E en_palaver_msg_turn rfl rfl) (fun w H => mk_turn w) ?_
            refine SxL.call (σ := Nat) (fun s25 => .agg #[.func (.func 138) #[] #[], .func (.func 139) #[] #[], .func (.func 141) #[] #[], .func (.func 142) #[] #[.pointer (some ⟨s25, 0, none⟩)]]) (fun s25 => True ∧ ∀ b ∈ (cell s25 22 [.int .u64 ((1 : Nat) : Int)]).fp, w.heap.size ≤ b) (fun s25 => _) trivial rfl rfl (fun ρ w E => ex_call E en_palaver_msg_slot rfl rfl) (callNew (fun s25 => .agg #[.func (.func 138) #[] #[], .func (.func 139) #[] #[], .func (.func 141) #[] #[], .func (.func 142) #[] #[.pointer (some ⟨s25, 0, none⟩)]]) (fun _ => True) (fun s25 => cell s25 22 [.int .u64 ((1 : Nat) : Int)]) (fun _ => cell_loc _ _ _) (fun w H => (mk_slot 1 w).mono fun _ _ ⟨g, h1, h2, h3, h4, h5⟩ => ⟨g, h1, trivial, fun b hb => by rw [List.mem_singleton.1 hb]; exact ⟨h2, h3⟩, h4, h5⟩)) fun s25 hs25 => ?_
            have fs25 : w.heap.size ≤ s25 := hs25.2 _ (List.mem_singleton.2 rfl)
            refine SxL.newS (cs := [.func (.func 131) #[] #[], .func (.func 133) #[] #[], .func (.func 135) #[] #[], .func (.func 136) #[] #[], .func (.func 138) #[] #[], .func (.func 139) #[] #[], .func (.func 141) #[] #[], .func (.func 142) #[] #[.pointer (some ⟨s25, 0, none⟩)]]) trivial rfl rfl (fun ρ w E H => ex_buildSlice E rfl rfl Tryz.underlying95 sz_palaver_msg_part zr_palaver_msg_part rfl rfl (by kernel_rfl)) fun g9 hg9 => ?_
            refine SxL.callB (v := .slice (some ⟨g9, 0, none⟩) 2 2) trivial rfl rfl (fun ρ w E => ex_call E en_palaver_msg_row rfl rfl) (fun w H => row_any _ w) ?_
            refine SxL.val trivial rfl rfl (fun ρ w E H => ex_assign E rfl rfl) ?_
            refine SxL.nil (SxN.then_ (SxC.ret (SxX.blockR (SxX.thenR ?_))))
            refine SxX.done (.slice (some ⟨g9, 0, none⟩) 2 2) (fun a w K H => res1 K rfl rfl) (fun w H => ?_)
            have hk := hc23
            simp [cmpB] at hk
            refine ⟨_, _, g9, [(.turn, 0), (.slot 1, s25)], rfl, ?_, fun _ => rfl, ?_, ⟨fun _ => H.get (i := 0) rfl, ?_⟩, H.toBelow ⟨(fun g hg => by rw [List.mem_singleton.1 hg]; exact hg9), (fun g hg => by rw [List.mem_singleton.1 hg]; exact fs25), trivial⟩⟩
            · obtain rfl : k = 8 := by omega
              rfl
            · have l0 := Blk.lt (show Blk _ g9 _ _ from H.get (i := 0) rfl)
              have ls25 := Blk.lt (show Blk _ s25 _ _ from H.get (i := 1) rfl)
              intro b hb
              simp [partsF, capsOf, Pt.caps] at hb
              omega
            · intro x hx
              simp only [List.mem_cons, List.not_mem_nil, or_false] at hx
              rcases hx with rfl | rfl
              · exact trivial
              · exact H.get (i := 1) rfl
        · refine SxC.condT rfl (SxC.skip (SxN.then_ (SxC.condT rfl (SxC.seq (SxC.region ?_)))))
          refine SxL.callB (v := .agg #[.func (.func 131) #[] #[], .func (.func 133) #[] #[], .func (.func 135) #[] #[], .func (.func 136) #[] #[]]) trivial rfl rfl (fun ρ w E => ex_call E en_palaver_msg_turn rfl rfl) (fun w H => mk_turn w) ?_
          refine SxL.call (σ := Nat) (fun s25 => .agg #[.func (.func 138) #[] #[], .func (.func 139) #[] #[], .func (.func 141) #[] #[], .func (.func 142) #[] #[.pointer (some ⟨s25, 0, none⟩)]]) (fun s25 => True ∧ ∀ b ∈ (cell s25 22 [.int .u64 ((1 : Nat) : Int)]).fp, w.heap.size ≤ b) (fun s25 => _) trivial rfl rfl (fun ρ w E => ex_call E en_palaver_msg_slot rfl rfl) (callNew (fun s25 => .agg #[.func (.func 138) #[] #[], .func (.func 139) #[] #[], .func (.func 141) #[] #[], .func (.func 142) #[] #[.pointer (some ⟨s25, 0, none⟩)]]) (fun _ => True) (fun s25 => cell s25 22 [.int .u64 ((1 : Nat) : Int)]) (fun _ => cell_loc _ _ _) (fun w H => (mk_slot 1 w).mono fun _ _ ⟨g, h1, h2, h3, h4, h5⟩ => ⟨g, h1, trivial, fun b hb => by rw [List.mem_singleton.1 hb]; exact ⟨h2, h3⟩, h4, h5⟩)) fun s25 hs25 => ?_
          have fs25 : w.heap.size ≤ s25 := hs25.2 _ (List.mem_singleton.2 rfl)
          refine SxL.newS (cs := [.func (.func 131) #[] #[], .func (.func 133) #[] #[], .func (.func 135) #[] #[], .func (.func 136) #[] #[], .func (.func 138) #[] #[], .func (.func 139) #[] #[], .func (.func 141) #[] #[], .func (.func 142) #[] #[.pointer (some ⟨s25, 0, none⟩)]]) trivial rfl rfl (fun ρ w E H => ex_buildSlice E rfl rfl Tryz.underlying95 sz_palaver_msg_part zr_palaver_msg_part rfl rfl (by kernel_rfl)) fun g10 hg10 => ?_
          refine SxL.callB (v := .slice (some ⟨g10, 0, none⟩) 2 2) trivial rfl rfl (fun ρ w E => ex_call E en_palaver_msg_row rfl rfl) (fun w H => row_any _ w) ?_
          refine SxL.val trivial rfl rfl (fun ρ w E H => ex_assign E rfl rfl) ?_
          refine SxL.nil (SxN.then_ (SxC.ret (SxX.blockR (SxX.thenR ?_))))
          refine SxX.done (.slice (some ⟨g10, 0, none⟩) 2 2) (fun a w K H => res1 K rfl rfl) (fun w H => ?_)
          have hk := hc22
          simp [cmpB] at hk
          refine ⟨_, _, g10, [(.turn, 0), (.slot 1, s25)], rfl, ?_, fun _ => rfl, ?_, ⟨fun _ => H.get (i := 0) rfl, ?_⟩, H.toBelow ⟨(fun g hg => by rw [List.mem_singleton.1 hg]; exact hg10), (fun g hg => by rw [List.mem_singleton.1 hg]; exact fs25), trivial⟩⟩
          · obtain rfl : k = 4 := by omega
            rfl
          · have l0 := Blk.lt (show Blk _ g10 _ _ from H.get (i := 0) rfl)
            have ls25 := Blk.lt (show Blk _ s25 _ _ from H.get (i := 1) rfl)
            intro b hb
            simp [partsF, capsOf, Pt.caps] at hb
            omega
          · intro x hx
            simp only [List.mem_cons, List.not_mem_nil, or_false] at hx
            rcases hx with rfl | rfl
            · exact trivial
            · exact H.get (i := 1) rfl
      · refine SxC.condT rfl (SxC.seq (SxC.region ?_))
        refine SxL.callB (v := .agg #[.func (.func 117) #[] #[], .func (.func 118) #[] #[], .func (.func 119) #[] #[], .func (.func 120) #[] #[]]) trivial rfl rfl (fun ρ w E => ex_call E en_palaver_msg_name rfl rfl) (fun w H => mk_name w) ?_
        refine SxL.callB (v := .agg #[.func (.func 127) #[] #[], .func (.func 128) #[] #[], .func (.func 129) #[] #[], .func (.func 130) #[] #[]]) trivial rfl rfl (fun ρ w E => ex_call E en_palaver_msg_node rfl rfl) (fun w H => mk_node w) ?_
        refine SxL.newS (cs := [.func (.func 117) #[] #[], .func (.func 118) #[] #[], .func (.func 119) #[] #[], .func (.func 120) #[] #[], .func (.func 127) #[] #[], .func (.func 128) #[] #[], .func (.func 129) #[] #[], .func (.func 130) #[] #[]]) trivial rfl rfl (fun ρ w E H => ex_buildSlice E rfl rfl Tryz.underlying95 sz_palaver_msg_part zr_palaver_msg_part rfl rfl (by kernel_rfl)) fun g11 hg11 => ?_
        refine SxL.callB (v := .slice (some ⟨g11, 0, none⟩) 2 2) trivial rfl rfl (fun ρ w E => ex_call E en_palaver_msg_row rfl rfl) (fun w H => row_any _ w) ?_
        refine SxL.val trivial rfl rfl (fun ρ w E H => ex_assign E rfl rfl) ?_
        refine SxL.nil (SxN.then_ (SxC.ret (SxX.blockR (SxX.thenR ?_))))
        refine SxX.done (.slice (some ⟨g11, 0, none⟩) 2 2) (fun a w K H => res1 K rfl rfl) (fun w H => ?_)
        have hk := hc16
        simp [cmpB] at hk
        refine ⟨_, _, g11, [(.name, 0), (.node, 0)], rfl, ?_, fun _ => rfl, ?_, ⟨fun _ => H.get (i := 0) rfl, ?_⟩, H.toBelow ⟨(fun g hg => by rw [List.mem_singleton.1 hg]; exact hg11), trivial⟩⟩
        · obtain rfl : k = 3 := by omega
          rfl
        · have l0 := Blk.lt (show Blk _ g11 _ _ from H.get (i := 0) rfl)
          intro b hb
          simp [partsF, capsOf, Pt.caps] at hb
          omega
        · intro x hx
          simp only [List.mem_cons, List.not_mem_nil, or_false] at hx
          rcases hx with rfl | rfl
          · exact trivial
          · exact trivial
    · refine SxC.condT rfl (SxC.seq (SxC.region ?_))
      refine SxL.callB (v := .agg #[.func (.func 117) #[] #[], .func (.func 118) #[] #[], .func (.func 119) #[] #[], .func (.func 120) #[] #[]]) trivial rfl rfl (fun ρ w E => ex_call E en_palaver_msg_name rfl rfl) (fun w H => mk_name w) ?_
      refine SxL.callB (v := .agg #[.func (.func 121) #[] #[], .func (.func 123) #[] #[], .func (.func 125) #[] #[], .func (.func 126) #[] #[]]) trivial rfl rfl (fun ρ w E => ex_call E en_palaver_msg_reply rfl rfl) (fun w H => mk_reply w) ?_
      refine SxL.newS (cs := [.func (.func 117) #[] #[], .func (.func 118) #[] #[], .func (.func 119) #[] #[], .func (.func 120) #[] #[], .func (.func 121) #[] #[], .func (.func 123) #[] #[], .func (.func 125) #[] #[], .func (.func 126) #[] #[]]) trivial rfl rfl (fun ρ w E H => ex_buildSlice E rfl rfl Tryz.underlying95 sz_palaver_msg_part zr_palaver_msg_part rfl rfl (by kernel_rfl)) fun g12 hg12 => ?_
      refine SxL.callB (v := .slice (some ⟨g12, 0, none⟩) 2 2) trivial rfl rfl (fun ρ w E => ex_call E en_palaver_msg_row rfl rfl) (fun w H => row_any _ w) ?_
      refine SxL.val trivial rfl rfl (fun ρ w E H => ex_assign E rfl rfl) ?_
      refine SxL.nil (SxN.then_ (SxC.ret (SxX.blockR (SxX.thenR ?_))))
      refine SxX.done (.slice (some ⟨g12, 0, none⟩) 2 2) (fun a w K H => res1 K rfl rfl) (fun w H => ?_)
      have hk := hc10
      simp [cmpB] at hk
      refine ⟨_, _, g12, [(.name, 0), (.reply, 0)], rfl, ?_, fun _ => rfl, ?_, ⟨fun _ => H.get (i := 0) rfl, ?_⟩, H.toBelow ⟨(fun g hg => by rw [List.mem_singleton.1 hg]; exact hg12), trivial⟩⟩
      · obtain rfl : k = 2 := by omega
        rfl
      · have l0 := Blk.lt (show Blk _ g12 _ _ from H.get (i := 0) rfl)
        intro b hb
        simp [partsF, capsOf, Pt.caps] at hb
        omega
      · intro x hx
        simp only [List.mem_cons, List.not_mem_nil, or_false] at hx
        rcases hx with rfl | rfl
        · exact trivial
        · exact trivial
  · refine SxC.condT rfl (SxC.seq (SxC.region ?_))
    refine SxL.callB (v := .agg #[.func (.func 110) #[] #[], .func (.func 112) #[] #[], .func (.func 114) #[] #[], .func (.func 115) #[] #[]]) trivial rfl rfl (fun ρ w E => ex_call E en_palaver_msg_command rfl rfl) (fun w H => mk_cmd w) ?_
    refine SxL.newS (cs := [.func (.func 110) #[] #[], .func (.func 112) #[] #[], .func (.func 114) #[] #[], .func (.func 115) #[] #[]]) trivial rfl rfl (fun ρ w E H => ex_buildSlice E rfl rfl Tryz.underlying95 sz_palaver_msg_part zr_palaver_msg_part rfl rfl (by kernel_rfl)) fun g13 hg13 => ?_
    refine SxL.callB (v := .slice (some ⟨g13, 0, none⟩) 1 1) trivial rfl rfl (fun ρ w E => ex_call E en_palaver_msg_row rfl rfl) (fun w H => row_any _ w) ?_
    refine SxL.val trivial rfl rfl (fun ρ w E H => ex_assign E rfl rfl) ?_
    refine SxL.nil (SxN.then_ (SxC.ret (SxX.blockR (SxX.thenR ?_))))
    refine SxX.done (.slice (some ⟨g13, 0, none⟩) 1 1) (fun a w K H => res1 K rfl rfl) (fun w H => ?_)
    have hk := hc5
    simp [cmpB] at hk
    refine ⟨_, _, g13, [(.cmd, 0)], rfl, ?_, fun _ => rfl, ?_, ⟨fun _ => H.get (i := 0) rfl, ?_⟩, H.toBelow ⟨(fun g hg => by rw [List.mem_singleton.1 hg]; exact hg13), trivial⟩⟩
    · obtain rfl : k = 1 := by omega
      rfl
    · have l0 := Blk.lt (show Blk _ g13 _ _ from H.get (i := 0) rfl)
      intro b hb
      simp [partsF, capsOf, Pt.caps] at hb
      omega
    · intro x hx
      simp only [List.mem_cons, List.not_mem_nil, or_false] at hx
      subst hx
      exact trivial
end Go.Proofs.YteiaiilfekojfaaGreat.Msg
end
section
set_option linter.unusedVariables false
set_option linter.unusedSimpArgs false
namespace Go.Proofs.YteiaiilfekojfaaGreat.Msg
open Go.RowKit Wire

theorem num_bk {r : Rd} (h : r.num.2.err = 0) : r.err = 0 ∧ r.rest = numB r.num.1 ++ r.num.2.rest := by
  have h0 := num_err h
  refine ⟨h0, ?_⟩
  obtain ⟨e, l⟩ := r
  obtain rfl : e = 0 := h0
  exact num_back l (Rd.num ⟨0, l⟩).1 (Rd.num ⟨0, l⟩).2.rest (by rw [← Cmd.rd_zero h])
theorem byte_bk {r : Rd} (h : r.byte.2.err = 0) : r.err = 0 ∧ r.rest = UInt8.ofNat r.byte.1 :: r.byte.2.rest := by
  have h0 := Cmd.byte_err h
  refine ⟨h0, ?_⟩
  obtain ⟨e, l⟩ := r
  obtain rfl : e = 0 := h0
  exact Cmd.byte_back rfl h
theorem below_bk {r : Rd} {n : Nat} (h : (r.below n).2.err = 0) : r.err = 0 ∧ r.rest = numB (r.below n).1 ++ (r.below n).2.rest := by
  have h0 := Cmd.below_err h
  refine ⟨h0, ?_⟩
  obtain ⟨e, l⟩ := r
  obtain rfl : e = 0 := h0
  exact (Cmd.below_back rfl h).1
theorem str_bk {r : Rd} {m : Int} (h : (r.str m).2.err = 0) : r.err = 0 ∧ r.rest = strB (r.str m).1 ++ (r.str m).2.rest := by
  have h0 := Cmd.str_err h
  refine ⟨h0, ?_⟩
  obtain ⟨e, l⟩ := r
  obtain rfl : e = 0 := h0
  exact Cmd.str_back rfl h
theorem bal_bk {r : Rd} (h : (Bal.takeB r).2.err = 0) : r.err = 0 ∧ r.rest = Bal.balB (Bal.takeB r).1 ++ (Bal.takeB r).2.rest ∧ Bal.mayB (Bal.takeB r).1 = true := by
  have h1 := takeB_err h
  refine ⟨h1.1, ?_⟩
  unfold Bal.takeB at h ⊢
  dsimp only at h ⊢
  by_cases hm : Bal.mayB ⟨r.num.1, r.num.2.byte.1⟩ = true
  · rw [if_pos hm] at h ⊢
    rw [if_pos h]
    have a := num_bk h1.2
    have b := byte_bk h
    refine ⟨?_, hm⟩
    unfold Bal.balB
    rw [a.2, b.2]
    simp
  · rw [if_neg hm] at h
    exact absurd h (Bal.bad_err _)
theorem ite_lt {b : Prop} [Decidable b] {n r : Nat} (hn : n < 18446744073709551616) (hr : r < 256) : (if b then (⟨n, r⟩ : Bal.B) else ⟨0, 0⟩).n < 18446744073709551616 ∧ (if b then (⟨n, r⟩ : Bal.B) else ⟨0, 0⟩).r < 256 := by
  split
  · exact ⟨hn, hr⟩
  · exact ⟨by decide, by decide⟩
theorem takeB_lt (r : Rd) : (Bal.takeB r).1.n < 18446744073709551616 ∧ (Bal.takeB r).1.r < 256 := by
  unfold Bal.takeB
  dsimp only
  have a := lt_num r
  have b := lt_byte r.num.2
  exact ite_lt a b
theorem str_le (r : Rd) (m : Nat) : (r.str (m : Int)).1.length ≤ m := Cmd.str_most (r' := (r.str (m : Int)).2) rfl
theorem str65 (r : Rd) : (r.str 65536).1.length ≤ 65536 := by
  have h := str_le r 65536
  rw [show ((65536 : Nat) : Int) = 65536 from rfl] at h
  exact h
theorem str64 (r : Rd) : (r.str 64).1.length ≤ 1000 := by
  have h := str_le r 64
  rw [show ((64 : Nat) : Int) = 64 from rfl] at h
  omega
/-- Votes read one by one. -/
structure TkV (n : Nat) (r : Rd) (l : List Vo) : Prop where
  gr : Grows r l.length → Grows (tkV n r l).1 (tkV n r l).2.length
  rest : (tkV n r l).1.rest.length ≤ r.rest.length
  err : (tkV n r l).1.err = 0 → r.err = 0
  fits : (∀ v ∈ l, v.Fits ∧ v.value.length ≤ 65536) → ∀ v ∈ (tkV n r l).2, v.Fits ∧ v.value.length ≤ 65536
  back : (tkV n r l).1.err = 0 → ∃ l2, (tkV n r l).2 = l ++ l2 ∧ l2.length = n ∧ r.rest = l2.flatMap voB ++ (tkV n r l).1.rest
theorem tkV_all (n : Nat) : ∀ (r : Rd) (l : List Vo), TkV n r l := by
  induction n with
  | zero => intro r l; exact ⟨fun h => h, Nat.le_refl _, fun h => h, fun h => h, fun h => ⟨[], by simp [tkV], rfl, by simp [tkV]⟩⟩
  | succ n ih =>
    intro r l
    by_cases h0 : r.err = 0
    · have e := tkV_step (n + 1) r l (by omega) h0
      simp only [Nat.add_sub_cancel] at e
      have a := rest_num r
      have b := rest_takeB r.num.2
      have c := rest_str (Bal.takeB r.num.2).2 65536
      have h65 := str65 (Bal.takeB r.num.2).2
      have hgr : Grows r l.length → Grows ((Bal.takeB r.num.2).2.str 65536).2 (l.length + 1) := fun h => h.vote h0
      have hsb : ((Bal.takeB r.num.2).2.str 65536).2.err = 0 → (Bal.takeB r.num.2).2.err = 0 ∧ (Bal.takeB r.num.2).2.rest = strB ((Bal.takeB r.num.2).2.str 65536).1 ++ ((Bal.takeB r.num.2).2.str 65536).2.rest := str_bk
      generalize (Bal.takeB r.num.2).2.str 65536 = p at e c h65 hgr hsb
      have i := ih p.2 (l ++ [⟨r.num.1, (Bal.takeB r.num.2).1.n, (Bal.takeB r.num.2).1.r, p.1⟩])
      refine ⟨fun h => ?_, ?_, fun _ => h0, fun h => ?_, fun h => ?_⟩
      · rw [e]; exact i.gr (by rw [List.length_append]; exact hgr h)
      · rw [e]; have := i.rest; omega
      · rw [e]
        refine i.fits fun v hv => ?_
        rcases List.mem_append.1 hv with hv | hv
        · exact h v hv
        · rw [List.mem_singleton.1 hv]
          exact ⟨⟨lt_num r, (takeB_lt _).1, (takeB_lt _).2⟩, h65⟩
      · rw [e] at h
        obtain ⟨l2, h1, h2, h3⟩ := i.back h
        have e3 := hsb (i.err h)
        have e2 := bal_bk e3.1
        have e1 := num_bk e2.1
        refine ⟨_ :: l2, by rw [e, h1, List.append_assoc]; rfl, by rw [List.length_cons, h2], ?_⟩
        rw [e, e1.2, e2.2.1, e3.2, h3, List.flatMap_cons]
        simp [voB]
    · have e := tkV_stop (n + 1) r l (.inr h0)
      rw [show TkV (n + 1) r l = TkV (n + 1) r l from rfl]
      exact ⟨fun h => by rw [e]; exact h, by rw [e]; exact Nat.le_refl _, fun h => by rw [e] at h; exact h, fun h => by rw [e]; exact h, fun h => by rw [e] at h; exact absurd h h0⟩
structure TkI (n : Nat) (r : Rd) (l : List Im) : Prop where
  gr : Grows r l.length → Grows (tkI n r l).1 (tkI n r l).2.length
  rest : (tkI n r l).1.rest.length ≤ r.rest.length
  err : (tkI n r l).1.err = 0 → r.err = 0
  fits : (∀ v ∈ l, v.slot < 18446744073709551616 ∧ v.value.length ≤ 65536) → ∀ v ∈ (tkI n r l).2, v.slot < 18446744073709551616 ∧ v.value.length ≤ 65536
  back : (tkI n r l).1.err = 0 → ∃ l2, (tkI n r l).2 = l ++ l2 ∧ l2.length = n ∧ r.rest = l2.flatMap imB ++ (tkI n r l).1.rest
theorem tkI_all (n : Nat) : ∀ (r : Rd) (l : List Im), TkI n r l := by
  induction n with
  | zero => intro r l; exact ⟨fun h => h, Nat.le_refl _, fun h => h, fun h => h, fun h => ⟨[], by simp [tkI], rfl, by simp [tkI]⟩⟩
  | succ n ih =>
    intro r l
    by_cases h0 : r.err = 0
    · have e := tkI_step (n + 1) r l (by omega) h0
      simp only [Nat.add_sub_cancel] at e
      have a := rest_num r
      have c := rest_str r.num.2 65536
      have h65 := str65 r.num.2
      have hgr : Grows r l.length → Grows (r.num.2.str 65536).2 (l.length + 1) := fun h => h.item h0
      have hsb : (r.num.2.str 65536).2.err = 0 → r.num.2.err = 0 ∧ r.num.2.rest = strB (r.num.2.str 65536).1 ++ (r.num.2.str 65536).2.rest := str_bk
      generalize r.num.2.str 65536 = p at e c h65 hgr hsb
      have i := ih p.2 (l ++ [⟨r.num.1, p.1⟩])
      refine ⟨fun h => ?_, ?_, fun _ => h0, fun h => ?_, fun h => ?_⟩
      · rw [e]; exact i.gr (by rw [List.length_append]; exact hgr h)
      · rw [e]; have := i.rest; omega
      · rw [e]
        refine i.fits fun v hv => ?_
        rcases List.mem_append.1 hv with hv | hv
        · exact h v hv
        · rw [List.mem_singleton.1 hv]
          exact ⟨lt_num r, h65⟩
      · rw [e] at h
        obtain ⟨l2, h1, h2, h3⟩ := i.back h
        have e3 := hsb (i.err h)
        have e1 := num_bk e3.1
        refine ⟨_ :: l2, by rw [e, h1, List.append_assoc]; rfl, by rw [List.length_cons, h2], ?_⟩
        rw [e, e1.2, e3.2, h3, List.flatMap_cons]
        simp [imB]
    · have e := tkI_stop (n + 1) r l (.inr h0)
      exact ⟨fun h => by rw [e]; exact h, by rw [e]; exact Nat.le_refl _, fun h => by rw [e] at h; exact h, fun h => by rw [e]; exact h, fun h => by rw [e] at h; exact absurd h h0⟩
/-- A part: what it leaves. -/
theorem take_mono (p : Pt) (a : Ms) (r : Rd) : (p.take (a, r)).2.rest.length ≤ r.rest.length ∧ ((p.take (a, r)).2.err = 0 → r.err = 0) := by
  cases p with
  | cmd => exact ⟨rest_takeC r, fun h => (Cmd.takeC_back h).1⟩
  | name => exact ⟨Nat.le_trans (rest_below _ _) (rest_byte r), fun h => Cmd.byte_err (Cmd.below_err h)⟩
  | reply => exact ⟨Nat.le_trans (rest_str _ _) (rest_byte r), fun h => Cmd.byte_err (Cmd.str_err h)⟩
  | node => exact ⟨rest_byte r, fun h => Cmd.byte_err h⟩
  | turn => exact ⟨rest_takeB r, fun h => (takeB_err h).1⟩
  | floor => exact ⟨rest_num r, fun h => num_err h⟩
  | slot l => exact ⟨rest_num r, fun h => num_err h⟩
  | value => exact ⟨rest_str r _, fun h => Cmd.str_err h⟩
  | votes => exact ⟨Nat.le_trans (tkV_all _ _ _).rest (rest_num r), fun h => num_err ((tkV_all _ _ _).err h)⟩
  | items => exact ⟨Nat.le_trans (tkI_all _ _ _).rest (rest_num r), fun h => num_err ((tkI_all _ _ _).err h)⟩
theorem Grows.mono {r r' : Rd} {n : Nat} (h : Grows r n) (h1 : r'.rest.length ≤ r.rest.length) (h2 : r'.err = 0 → r.err = 0) : Grows r' n :=
  ⟨Nat.le_trans h1 h.h1, h.h2, fun e => by have := h.h3 (h2 e); omega⟩
def GG (x : Ms × Rd) : Prop := Grows x.2 x.1.votes.length ∧ Grows x.2 x.1.items.length
theorem take_grows (p : Pt) (x : Ms × Rd) (h : GG x) : GG (p.take x) := by
  obtain ⟨a, r⟩ := x
  have hm := take_mono p a r
  have k : Grows (p.take (a, r)).2 a.votes.length ∧ Grows (p.take (a, r)).2 a.items.length := ⟨h.1.mono hm.1 hm.2, h.2.mono hm.1 hm.2⟩
  cases p with
  | votes => exact ⟨(tkV_all _ _ _).gr h.1.num, k.2⟩
  | items => exact ⟨k.1, (tkI_all _ _ _).gr h.2.num⟩
  | _ => exact k
/-- What is taken fits its types; how long its texts are. -/
structure Ok (a : Ms) : Prop where
  fits : a.Fits
  h1 : a.value.length ≤ 65536
  h4 : ∀ v ∈ a.votes, v.value.length ≤ 65536
  h5 : ∀ x ∈ a.items, x.value.length ≤ 65536
  h6 : a.cmd.key.length ≤ 1000
  h7 : a.cmd.old.length ≤ 1000
  h8 : a.cmd.new.length ≤ 1000
  h9 : a.text.length ≤ 1000
theorem takeC_small (r : Rd) : (Cmd.takeC r).1.key.length ≤ 1000 ∧ (Cmd.takeC r).1.old.length ≤ 1000 ∧ (Cmd.takeC r).1.new.length ≤ 1000 := by
  obtain ⟨r1, r2, r3, r4, r5, r6, r7, a, b, k, z, s, t, u, e1, e2, e3, e4, e5, e6, e7, _⟩ := Cmd.takeC_parts r
  rw [Cmd.takeC_eq e1 e2 e3 e4 e5 e6 e7]
  have h4 := Cmd.str_most (m := 16) e4
  have h5 := Cmd.str_most (m := 64) e5
  have h6 := Cmd.str_most (m := 64) e6
  by_cases h : (if Cmd.mayB ⟨a, b, k, s, t, u, z⟩ then r7 else r7.bad).err = 0
  · rw [if_pos h]; exact ⟨by show s.length ≤ _; omega, by show t.length ≤ _; omega, by show u.length ≤ _; omega⟩
  · rw [if_neg h]; exact ⟨by show Cmd.cm0.key.length ≤ 1000; decide, by show Cmd.cm0.old.length ≤ 1000; decide, by show Cmd.cm0.new.length ≤ 1000; decide⟩
theorem take_ok (p : Pt) (x : Ms × Rd) (h : Ok x.1) : Ok (p.take x).1 := by
  obtain ⟨a, r⟩ := x
  obtain ⟨⟨f1, f2, f3, f4, f5, f6, f7, f8, f9, f10⟩, g1, g4, g5, g6, g7, g8, g9⟩ := h
  cases p with
  | cmd => exact ⟨⟨f1, f2, f3, f4, f5, f6, f7, f8, Cmd.takeC_fits r, f10⟩, g1, g4, g5, (takeC_small r).1, (takeC_small r).2.1, (takeC_small r).2.2, g9⟩
  | name => exact ⟨⟨f1, f2, f3, f4, f5, f6, f7, f8, ⟨lt_byte r, lt_below _ _ (by decide), f9.h3, f9.h4, f9.h5, f9.h6, f9.h7⟩, f10⟩, g1, g4, g5, g6, g7, g8, g9⟩
  | reply => exact ⟨⟨f1, f2, f3, f4, f5, f6, f7, f8, f9, lt_byte r⟩, g1, g4, g5, g6, g7, g8, str64 r.byte.2⟩
  | node => exact ⟨⟨f1, f2, f3, f4, f5, lt_byte r, f7, f8, f9, f10⟩, g1, g4, g5, g6, g7, g8, g9⟩
  | turn => exact ⟨⟨f1, (takeB_lt r).1, (takeB_lt r).2, f4, f5, f6, f7, f8, f9, f10⟩, g1, g4, g5, g6, g7, g8, g9⟩
  | floor => exact ⟨⟨f1, f2, f3, lt_num r, f5, f6, f7, f8, f9, f10⟩, g1, g4, g5, g6, g7, g8, g9⟩
  | slot l => exact ⟨⟨f1, f2, f3, f4, lt_num r, f6, f7, f8, f9, f10⟩, g1, g4, g5, g6, g7, g8, g9⟩
  | value => exact ⟨⟨f1, f2, f3, f4, f5, f6, f7, f8, f9, f10⟩, str65 r, g4, g5, g6, g7, g8, g9⟩
  | votes =>
    have hv := (tkV_all r.num.1 r.num.2 a.votes).fits fun v hv => ⟨f7 v hv, g4 v hv⟩
    exact ⟨⟨f1, f2, f3, f4, f5, f6, fun v hm => (hv v hm).1, f8, f9, f10⟩, g1, fun v hm => (hv v hm).2, g5, g6, g7, g8, g9⟩
  | items =>
    have hv := (tkI_all r.num.1 r.num.2 a.items).fits fun v hv => ⟨f8 v hv, g5 v hv⟩
    exact ⟨⟨f1, f2, f3, f4, f5, f6, f7, fun v hm => (hv v hm).1, f9, f10⟩, g1, g4, fun v hm => (hv v hm).2, g6, g7, g8, g9⟩
/-- A part that was read was put so. -/
theorem part_back (p : Pt) (a : Ms) (r : Rd) (hv : p = .votes → a.votes = []) (hi : p = .items → a.items = []) (h : (p.take (a, r)).2.err = 0) : r.err = 0 ∧ r.rest = p.put (p.take (a, r)).1 ++ (p.take (a, r)).2.rest := by
  cases p with
  | cmd => have := Cmd.takeC_back h; exact ⟨this.1, this.2.1⟩
  | name =>
    have b := below_bk h
    have c := byte_bk b.1
    refine ⟨c.1, ?_⟩
    rw [c.2, b.2]
    rfl
  | reply =>
    have b := str_bk h
    have c := byte_bk b.1
    refine ⟨c.1, ?_⟩
    rw [c.2, b.2]
    rfl
  | node => have b := byte_bk h; exact ⟨b.1, b.2⟩
  | turn => have b := bal_bk h; exact ⟨b.1, b.2.1⟩
  | floor => exact num_bk h
  | slot l => exact num_bk h
  | value => exact str_bk h
  | votes =>
    have t := tkV_all r.num.1 r.num.2 a.votes
    obtain ⟨l2, h1, h2, h3⟩ := t.back h
    have b := num_bk (t.err h)
    refine ⟨b.1, ?_⟩
    show r.rest = (numB (tkV r.num.1 r.num.2 a.votes).2.length ++ (tkV r.num.1 r.num.2 a.votes).2.flatMap voB) ++ (tkV r.num.1 r.num.2 a.votes).1.rest
    rw [h1, show a.votes ++ l2 = l2 by rw [hv rfl]; rfl, h2, b.2]
    conv => lhs; rw [h3]
    simp
  | items =>
    have t := tkI_all r.num.1 r.num.2 a.items
    obtain ⟨l2, h1, h2, h3⟩ := t.back h
    have b := num_bk (t.err h)
    refine ⟨b.1, ?_⟩
    show r.rest = (numB (tkI r.num.1 r.num.2 a.items).2.length ++ (tkI r.num.1 r.num.2 a.items).2.flatMap imB) ++ (tkI r.num.1 r.num.2 a.items).1.rest
    rw [h1, show a.items ++ l2 = l2 by rw [hi rfl]; rfl, h2, b.2]
    conv => lhs; rw [h3]
    simp
/-- Parts that do not touch one another. -/
def indep : Pt → Pt → Bool
  | .cmd, .cmd | .cmd, .name | .name, .cmd | .name, .name | .reply, .reply | .node, .node | .turn, .turn | .floor, .floor | .slot _, .slot _ | .value, .value | .votes, .votes | .items, .items => false
  | _, _ => true
theorem put_indep (p q : Pt) (h : indep p q = true) (x : Ms × Rd) : p.put (q.take x).1 = p.put x.1 := by
  obtain ⟨a, r⟩ := x
  cases p <;> cases q <;> first | rfl | cases h
def apart : List Pt → Bool
  | [] => true
  | p :: l => l.all (indep p) && apart l
theorem parts_apart (k : Nat) : apart (partsOf k) = true := by
  by_cases h : k < 14
  · have hd : ∀ k : Nat, k < 14 → apart (partsOf k) = true := by decide
    exact hd k h
  · have e : partsOf k = [] := by unfold partsOf; repeat rw [if_neg (by omega)]
    rw [e]; rfl
theorem put_fold (p : Pt) : ∀ (l : List Pt) (x : Ms × Rd), l.all (indep p) = true → p.put (l.foldl (fun a q => q.take a) x).1 = p.put x.1
  | [], _, _ => rfl
  | q :: l, x, h => by
    rw [List.all_cons, Bool.and_eq_true] at h
    rw [List.foldl_cons, put_fold p l _ h.2, put_indep p q h.1]
theorem lists_keep (p : Pt) (x : Ms × Rd) : (p ≠ .votes → (p.take x).1.votes = x.1.votes) ∧ (p ≠ .items → (p.take x).1.items = x.1.items) ∧ (p.take x).1.kind = x.1.kind := by
  obtain ⟨a, r⟩ := x
  cases p <;> exact ⟨fun h => by first | rfl | exact absurd rfl h, fun h => by first | rfl | exact absurd rfl h, rfl⟩
theorem fold_back : ∀ (l : List Pt) (x : Ms × Rd), apart l = true → (.votes ∈ l → x.1.votes = []) → (.items ∈ l → x.1.items = []) → (l.foldl (fun a q => q.take a) x).2.err = 0 →
    x.2.err = 0 ∧ x.2.rest = l.flatMap (fun p => p.put (l.foldl (fun a q => q.take a) x).1) ++ (l.foldl (fun a q => q.take a) x).2.rest
  | [], _, _, _, _, h => ⟨h, rfl⟩
  | p :: l, x, ha, hv, hi, h => by
    have ha : (l.all (indep p) && apart l) = true := ha
    rw [Bool.and_eq_true] at ha
    have hnv : p = .votes → .votes ∉ l := fun e hm => by
      subst e
      have := List.all_eq_true.1 ha.1 _ hm
      cases this
    have hni : p = .items → .items ∉ l := fun e hm => by
      subst e
      have := List.all_eq_true.1 ha.1 _ hm
      cases this
    have hk := lists_keep p x
    obtain ⟨b1, b2⟩ := fold_back l (p.take x) ha.2 (fun hm => by
      by_cases e : p = .votes
      · exact absurd hm (hnv e)
      · rw [hk.1 e]; exact hv (List.mem_cons_of_mem _ hm)) (fun hm => by
      by_cases e : p = .items
      · exact absurd hm (hni e)
      · rw [hk.2.1 e]; exact hi (List.mem_cons_of_mem _ hm)) h
    obtain ⟨c1, c2⟩ := part_back p x.1 x.2 (fun e => hv (by rw [e]; exact List.mem_cons_self ..)) (fun e => hi (by rw [e]; exact List.mem_cons_self ..)) b1
    refine ⟨c1, ?_⟩
    rw [c2, show ((p.take (x.1, x.2)).2.rest) = (p.take x).2.rest from rfl, b2, List.flatMap_cons, List.foldl_cons, put_fold p l _ ha.1]
    simp
theorem fold_kind : ∀ (l : List Pt) (x : Ms × Rd), (l.foldl (fun a q => q.take a) x).1.kind = x.1.kind
  | [], _ => rfl
  | p :: l, x => by rw [List.foldl_cons, fold_kind l, (lists_keep p x).2.2]
theorem fold_ok : ∀ (l : List Pt) (x : Ms × Rd), Ok x.1 → Ok (l.foldl (fun a q => q.take a) x).1
  | [], _, h => h
  | p :: l, x, h => fold_ok l (p.take x) (take_ok p x h)
theorem fold_grows : ∀ (l : List Pt) (x : Ms × Rd), GG x → GG (l.foldl (fun a q => q.take a) x)
  | [], _, h => h
  | p :: l, x, h => fold_grows l (p.take x) (take_grows p x h)
theorem ms0_ok (k : Nat) (hk : k < 256) : Ok (ms0 k) :=
  ⟨⟨hk, (show 0 < 18446744073709551616 by decide), (show 0 < 256 by decide), (show 0 < 18446744073709551616 by decide), (show 0 < 18446744073709551616 by decide), (show 0 < 256 by decide), (fun v h => by cases h), (fun v h => by cases h), Cmd.cm0_fits, (show 0 < 256 by decide)⟩, (show 0 ≤ 65536 by decide), (fun v h => by cases h), (fun v h => by cases h), (show 0 ≤ 1000 by decide), (show 0 ≤ 1000 by decide), (show 0 ≤ 1000 by decide), (show 0 ≤ 1000 by decide)⟩
theorem taken_kind (l : List Pt) (k : Nat) (r : Rd) : (taken l k r).1.kind = k := fold_kind l (ms0 k, r)
theorem taken_back {k : Nat} {r : Rd} (h : (taken (partsOf k) k r).2.err = 0) : r.err = 0 ∧ r.rest = (partsOf k).flatMap (fun p => p.put (taken (partsOf k) k r).1) ++ (taken (partsOf k) k r).2.rest :=
  fold_back (partsOf k) (ms0 k, r) (parts_apart k) (fun _ => rfl) (fun _ => rfl) h
/-- What was taken without an error is small. -/
theorem votes_in {k : Nat} (m : Ms) (hk : m.kind = k) : (.votes ∈ partsOf k → (m.votes.flatMap voB).length ≤ ((partsOf k).flatMap (fun p => p.put m)).length) ∧ (.items ∈ partsOf k → (m.items.flatMap imB).length ≤ ((partsOf k).flatMap (fun p => p.put m)).length) := by
  have g : ∀ (l : List Pt) (p : Pt), p ∈ l → (p.put m).length ≤ (l.flatMap (fun p => p.put m)).length := by
    intro l p hp
    obtain ⟨s, t, rfl⟩ := List.append_of_mem hp
    simp only [List.flatMap_append, List.flatMap_cons, List.length_append]
    omega
  refine ⟨fun h => Nat.le_trans ?_ (g _ _ h), fun h => Nat.le_trans ?_ (g _ _ h)⟩
  · show _ ≤ (numB m.votes.length ++ m.votes.flatMap voB).length
    rw [List.length_append]; omega
  · show _ ≤ (numB m.items.length ++ m.items.flatMap imB).length
    rw [List.length_append]; omega
theorem fold_lists : ∀ (l : List Pt) (x : Ms × Rd), (.votes ∉ l → (l.foldl (fun a q => q.take a) x).1.votes = x.1.votes) ∧ (.items ∉ l → (l.foldl (fun a q => q.take a) x).1.items = x.1.items)
  | [], _ => ⟨fun _ => rfl, fun _ => rfl⟩
  | p :: l, x => by
    have i := fold_lists l (p.take x)
    have k := lists_keep p x
    refine ⟨fun h => ?_, fun h => ?_⟩
    · rw [List.foldl_cons, i.1 (fun hm => h (List.mem_cons_of_mem _ hm)), k.1 (fun e => h (by rw [e]; exact List.mem_cons_self ..))]
    · rw [List.foldl_cons, i.2 (fun hm => h (List.mem_cons_of_mem _ hm)), k.2.1 (fun e => h (by rw [e]; exact List.mem_cons_self ..))]
theorem taken_small {k : Nat} (hk : k < 256) {r : Rd} (hr : r.rest.length ≤ 100000) (h : (taken (partsOf k) k r).2.err = 0) : (taken (partsOf k) k r).1.Fits ∧ (taken (partsOf k) k r).1.Small := by
  have o := fold_ok (partsOf k) (ms0 k, r) (ms0_ok k hk)
  have g := fold_grows (partsOf k) (ms0 k, r) ⟨⟨hr, by show 0 ≤ 100001; omega, fun _ => by show 0 + r.rest.length ≤ _; omega⟩, ⟨hr, by show 0 ≤ 100001; omega, fun _ => by show 0 + r.rest.length ≤ _; omega⟩⟩
  have b := (taken_back h).2
  have fl := fold_lists (partsOf k) (ms0 k, r)
  have vi := votes_in (taken (partsOf k) k r).1 (taken_kind _ _ _)
  change Ok (taken (partsOf k) k r).1 at o
  change GG (taken (partsOf k) k r) at g
  change (.votes ∉ partsOf k → (taken (partsOf k) k r).1.votes = []) ∧ (.items ∉ partsOf k → (taken (partsOf k) k r).1.items = []) at fl
  generalize taken (partsOf k) k r = x at *
  have hb := congrArg List.length b
  rw [List.length_append] at hb
  have v3 := g.1.h3 h
  have i3 := g.2.h3 h
  refine ⟨o.fits, Nat.le_trans o.h1 (by decide), by omega, by omega, fun v hv => Nat.le_trans (o.h4 v hv) (by decide), fun v hv => Nat.le_trans (o.h5 v hv) (by decide), o.h6, o.h7, o.h8, o.h9, ?_, ?_⟩
  · by_cases hm : .votes ∈ partsOf k
    · have := vi.1 hm; omega
    · rw [fl.1 hm]; simp
  · by_cases hm : .items ∈ partsOf k
    · have := vi.2 hm; omega
    · rw [fl.2 hm]; simp
end Go.Proofs.YteiaiilfekojfaaGreat.Msg
end
