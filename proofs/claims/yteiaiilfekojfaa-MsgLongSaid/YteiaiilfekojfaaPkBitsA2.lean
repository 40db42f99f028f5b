/- Texts that the proof of MsgBits and MsgLong leans on, put together (2 of 5). Conditions: each theorem states its own. -/
import Derived.Test.YteiaiilfekojfaaPkBitsA1
section
set_option linter.unusedVariables false
set_option linter.unusedSimpArgs false
namespace Go.Proofs.Yteiaiilfekojfaa.Msg
open Go.RowKit Sx Wire DrawInv
theorem own_eq {w : World} {base n : Nat} {v : Value} {xs : List Value} {l : List UInt8} (h : w.ownsRow base 5 1 v n xs) (hn : n = l.length) (hx : xs = bv l) : w.ownsRow base 5 1 v l.length (bv l) := by subst hn hx; exact h

set_option maxRecDepth 100000 in
set_option maxHeartbeats 4000000 in
theorem put_cmd (base : Nat) (v : Value) (l : List UInt8) (mk mn mr mb ms mo ca cb ck cz mc : Nat) (mv cs ct cu mt : List UInt8) (vl : List Vo) (il : List Im) (A B : Option Addr) (ka kb : Nat) (w : World) (hf : Ms.Fits ⟨mk, mn, mr, mb, ms, mo, mv, vl, il, ⟨ca, cb, ck, cs, ct, cu, cz⟩, mc, mt⟩) (hs : Ms.Small ⟨mk, mn, mr, mb, ms, mo, mv, vl, il, ⟨ca, cb, ck, cs, ct, cu, cz⟩, mc, mt⟩) (hl : l.length ≤ 1000000) (hbase : base ≤ w.heap.size) (hown : w.ownsRow base 5 1 v l.length (bv l)) : Calls Try.prog 66 #[v, .agg #[.int .u8 (mk : Int), .int .u64 (mn : Int), .int .u8 (mr : Int), .int .u64 (mb : Int), .int .u64 (ms : Int), .int .u8 (mo : Int), .string ⟨mv.toArray⟩, .slice A vl.length ka, .slice B il.length kb, .int .u8 (ca : Int), .int .u32 (cb : Int), .int .u8 (ck : Int), .string ⟨cs.toArray⟩, .string ⟨ct.toArray⟩, .string ⟨cu.toArray⟩, .int .u8 (cz : Int), .int .u8 (mc : Int), .string ⟨mt.toArray⟩]] w fun e w' => PutRet base v w (l ++ Pt.put .cmd ⟨mk, mn, mr, mb, ms, mo, mv, vl, il, ⟨ca, cb, ck, cs, ct, cu, cz⟩, mc, mt⟩) e w' := by
  have hv0 : OwnIn w v.ownBlock.toList v := OwnIn.refl w v
  obtain ⟨f1, f2, f3, f4, f5, f6, f7, f8, f9, f10⟩ := hf
  obtain ⟨s1, s2, s3, s4, s5, s6, s7, s8, s9, s10, s11⟩ := hs
  have hf := f9
  dsimp only at f1 f2 f3 f4 f5 f6 f7 f8 f10 s1 s2 s3 s4 s5 s6 s7 s8 s9 s10 s11
  have hfc := f9.h1
  have hfs := f9.h2
  dsimp only at hfc hfs
  refine sx_enter (n := 9) [v, .agg #[.int .u8 (mk : Int), .int .u64 (mn : Int), .int .u8 (mr : Int), .int .u64 (mb : Int), .int .u64 (ms : Int), .int .u8 (mo : Int), .string ⟨mv.toArray⟩, .slice A vl.length ka, .slice B il.length kb, .int .u8 (ca : Int), .int .u32 (cb : Int), .int .u8 (ck : Int), .string ⟨cs.toArray⟩, .string ⟨ct.toArray⟩, .string ⟨cu.toArray⟩, .int .u8 (cz : Int), .int .u8 (mc : Int), .string ⟨mt.toArray⟩]] Try.func66 rfl rfl rfl (Hp.row hown) ?_
  refine SxC.seq ?_
  refine SxC.region ?_
  refine SxL.new (cs := [.int .u8 (mk : Int), .int .u64 (mn : Int), .int .u8 (mr : Int), .int .u64 (mb : Int), .int .u64 (ms : Int), .int .u8 (mo : Int), .string ⟨mv.toArray⟩, .slice A vl.length ka, .slice B il.length kb, .int .u8 (ca : Int), .int .u32 (cb : Int), .int .u8 (ck : Int), .string ⟨cs.toArray⟩, .string ⟨ct.toArray⟩, .string ⟨cu.toArray⟩, .int .u8 (cz : Int), .int .u8 (mc : Int), .string ⟨mt.toArray⟩]) trivial rfl rfl (fun ρ w E H => ex_box E rfl rfl rfl) fun g1 hg1 => ?_
  refine SxL.val (v := .slice none 0 0) trivial rfl rfl (fun ρ w E H => ex_assign E rfl rfl) ?_
  refine SxL.nil ?_
  refine SxN.then_ ?_
  refine SxC.seq ?_
  refine SxC.region ?_
  refine SxL.val (v := v) trivial rfl rfl (fun ρ w E H => ex_move E rfl rfl) ?_
  refine SxL.val (v := .pointer (some ⟨g1, 9, none⟩)) trivial rfl rfl (fun ρ w E H => ex_field E rfl fa_palaver_api_Msg_8 rfl rfl) ?_
  refine SxL.val (v := .agg #[.int .u8 (ca : Int), .int .u32 (cb : Int), .int .u8 (ck : Int), .string ⟨cs.toArray⟩, .string ⟨ct.toArray⟩, .string ⟨cu.toArray⟩, .int .u8 (cz : Int)]) trivial rfl rfl (fun ρ w E H => ex_load (part := [.int .u8 (ca : Int), .int .u32 (cb : Int), .int .u8 (ck : Int), .string ⟨cs.toArray⟩, .string ⟨ct.toArray⟩, .string ⟨cu.toArray⟩, .int .u8 (cz : Int)]) E (H.get (i := 0) rfl) rfl rfl Try.underlying36 rfl sz_palaver_api_Cmd rfl rfl) ?_
  refine SxL.call (σ := Value) (fun s => s) (fun s => OwnIn w [] s) (fun s => _) trivial rfl rfl (fun ρ w E => ex_call E en_palaver_cmd_Put rfl rfl) (callOwn (fun w H => cmd_own l ⟨ca, cb, ck, cs, ct, cu, cz⟩ f9 (by omega) s6 s7 s8 (H.get (i := 1) rfl) rfl rfl)) fun v8 hv8 => ?_
  refine SxL.val (v := v8) trivial rfl rfl (fun ρ w E H => ex_assign E rfl rfl) ?_
  refine SxL.nil ?_
  refine SxN.then_ ?_
  refine SxC.ret ?_
  refine SxX.done (v8) (fun a w K H => res1 K rfl rfl) (fun w H => ?_)
  exact ⟨_, rfl, own_conv (own_base (H.get (i := 0) rfl) hbase) (by simp [Pt.put, voB, imB]), hv8.wid, H.toOuts _ ⟨(fun g hg => .inr (hv8.fresh g hg)), (fun g hg => by rw [List.mem_singleton.1 hg]; exact .inr hg1), (fun g hg => (hv0.in_ g hg).imp (fun h => by simp [h]) id), trivial⟩⟩

set_option maxRecDepth 100000 in
set_option maxHeartbeats 4000000 in
theorem put_name (base : Nat) (v : Value) (l : List UInt8) (mk mn mr mb ms mo ca cb ck cz mc : Nat) (mv cs ct cu mt : List UInt8) (vl : List Vo) (il : List Im) (A B : Option Addr) (ka kb : Nat) (w : World) (hf : Ms.Fits ⟨mk, mn, mr, mb, ms, mo, mv, vl, il, ⟨ca, cb, ck, cs, ct, cu, cz⟩, mc, mt⟩) (hs : Ms.Small ⟨mk, mn, mr, mb, ms, mo, mv, vl, il, ⟨ca, cb, ck, cs, ct, cu, cz⟩, mc, mt⟩) (hl : l.length ≤ 1000000) (hbase : base ≤ w.heap.size) (hown : w.ownsRow base 5 1 v l.length (bv l)) : Calls Try.prog 72 #[v, .agg #[.int .u8 (mk : Int), .int .u64 (mn : Int), .int .u8 (mr : Int), .int .u64 (mb : Int), .int .u64 (ms : Int), .int .u8 (mo : Int), .string ⟨mv.toArray⟩, .slice A vl.length ka, .slice B il.length kb, .int .u8 (ca : Int), .int .u32 (cb : Int), .int .u8 (ck : Int), .string ⟨cs.toArray⟩, .string ⟨ct.toArray⟩, .string ⟨cu.toArray⟩, .int .u8 (cz : Int), .int .u8 (mc : Int), .string ⟨mt.toArray⟩]] w fun e w' => PutRet base v w (l ++ Pt.put .name ⟨mk, mn, mr, mb, ms, mo, mv, vl, il, ⟨ca, cb, ck, cs, ct, cu, cz⟩, mc, mt⟩) e w' := by
  have hv0 : OwnIn w v.ownBlock.toList v := OwnIn.refl w v
  obtain ⟨f1, f2, f3, f4, f5, f6, f7, f8, f9, f10⟩ := hf
  obtain ⟨s1, s2, s3, s4, s5, s6, s7, s8, s9, s10, s11⟩ := hs
  have hf := f9
  dsimp only at f1 f2 f3 f4 f5 f6 f7 f8 f10 s1 s2 s3 s4 s5 s6 s7 s8 s9 s10 s11
  have hfc := f9.h1
  have hfs := f9.h2
  dsimp only at hfc hfs
  refine sx_enter (n := 16) [v, .agg #[.int .u8 (mk : Int), .int .u64 (mn : Int), .int .u8 (mr : Int), .int .u64 (mb : Int), .int .u64 (ms : Int), .int .u8 (mo : Int), .string ⟨mv.toArray⟩, .slice A vl.length ka, .slice B il.length kb, .int .u8 (ca : Int), .int .u32 (cb : Int), .int .u8 (ck : Int), .string ⟨cs.toArray⟩, .string ⟨ct.toArray⟩, .string ⟨cu.toArray⟩, .int .u8 (cz : Int), .int .u8 (mc : Int), .string ⟨mt.toArray⟩]] Try.func72 rfl rfl rfl (Hp.row hown) ?_
  refine SxC.seq ?_
  refine SxC.region ?_
  refine SxL.new (cs := [.int .u8 (mk : Int), .int .u64 (mn : Int), .int .u8 (mr : Int), .int .u64 (mb : Int), .int .u64 (ms : Int), .int .u8 (mo : Int), .string ⟨mv.toArray⟩, .slice A vl.length ka, .slice B il.length kb, .int .u8 (ca : Int), .int .u32 (cb : Int), .int .u8 (ck : Int), .string ⟨cs.toArray⟩, .string ⟨ct.toArray⟩, .string ⟨cu.toArray⟩, .int .u8 (cz : Int), .int .u8 (mc : Int), .string ⟨mt.toArray⟩]) trivial rfl rfl (fun ρ w E H => ex_box E rfl rfl rfl) fun g1 hg1 => ?_
  refine SxL.val (v := .slice none 0 0) trivial rfl rfl (fun ρ w E H => ex_assign E rfl rfl) ?_
  refine SxL.nil ?_
  refine SxN.then_ ?_
  refine SxC.seq ?_
  refine SxC.drawnK (v.ownBlock.toList ++ []) [0] (by kernel_rfl) rfl ⟨(fun g hg => by rw [List.mem_singleton.1 hg]; exact .inr hg1), (fun g hg => (hv0.in_ g hg).imp (fun h => by simp only [List.mem_append]; simp [h]) id), trivial⟩ ?_
  refine SxA.take (i := 0) (v := v) rfl (by kernel_rfl) (by kernel_rfl) (by kernel_rfl) rfl rfl (fun _ _ _ h => h) trivial (fun ρ w E H => ex_move E rfl rfl) ?_
  refine SxA.take (i := 1) (v := .pointer (some ⟨g1, 9, none⟩)) rfl (by kernel_rfl) (by kernel_rfl) (by kernel_rfl) rfl rfl (fun _ _ _ h => h) trivial (fun ρ w E H => ex_field E rfl fa_palaver_api_Msg_8 rfl rfl) ?_
  refine SxA.take (i := 2) (v := .pointer (some ⟨g1, 9, none⟩)) rfl (by kernel_rfl) (by kernel_rfl) (by kernel_rfl) rfl rfl (fun _ _ _ h => h) trivial (fun ρ w E H => ex_field E rfl fa_palaver_api_Cmd_0 rfl rfl) ?_
  refine SxA.take (i := 3) (v := .int .u8 (ca : Int)) rfl (by kernel_rfl) (by kernel_rfl) (by kernel_rfl) rfl rfl (fun _ _ _ h => h) trivial (fun ρ w E H => ex_load1 E (H.get (i := 0) rfl) rfl rfl Try.underlying5 rfl rfl) ?_
  refine SxA.take (i := 6) (v := .pointer (some ⟨g1, 9, none⟩)) rfl (by kernel_rfl) (by kernel_rfl) (by kernel_rfl) rfl rfl (fun _ _ _ h => h) trivial (fun ρ w E H => ex_field E rfl fa_palaver_api_Msg_8 rfl rfl) ?_
  refine SxA.take (i := 7) (v := .pointer (some ⟨g1, 10, none⟩)) rfl (by kernel_rfl) (by kernel_rfl) (by kernel_rfl) rfl rfl (fun _ _ _ h => h) trivial (fun ρ w E H => ex_field E rfl fa_palaver_api_Cmd_1 rfl rfl) ?_
  refine SxA.take (i := 8) (v := .int .u32 (cb : Int)) rfl (by kernel_rfl) (by kernel_rfl) (by kernel_rfl) rfl rfl (fun _ _ _ h => h) trivial (fun ρ w E H => ex_load1 E (H.get (i := 0) rfl) rfl rfl Try.underlying34 rfl rfl) ?_
  refine SxA.take (i := 9) (v := .int .u64 (cb : Int)) rfl (by kernel_rfl) (by kernel_rfl) (by kernel_rfl) rfl rfl (fun _ _ _ h => h) trivial (fun ρ w E H => ex_convInt E rfl Try.underlying34 Try.underlying37 rfl (by rw [IntKind.wrap_u64]; omega)) ?_
  refine SxA.ready [4] (by kernel_rfl) (by simp) ⟨?_, trivial⟩
  refine SxO.newS (cs := [.int .u8 (ca : Int)]) rfl trivial rfl rfl (fun ρ w E H => ex_buildSlice E rfl rfl Try.underlying65 sz_uint8 zr_uint8 rfl rfl (by kernel_rfl)) (fun g2 w hg2 H => H.ks (v.ownBlock.toList ++ []) [1] rfl ⟨(fun g hg => by rw [List.mem_singleton.1 hg]; exact .inr hg2), (fun g hg => by rw [List.mem_singleton.1 hg]; exact .inr hg1), (fun g hg => (hv0.in_ g hg).imp (fun h => by simp only [List.mem_append]; simp [h]) id), trivial⟩) fun g2 hg2 => ?_
  refine SxA.ready [5] (by kernel_rfl) (by simp) ⟨?_, trivial⟩
  refine SxO.append (i := 2) (news := [.int .u8 (ca : Int)]) rfl trivial rfl rfl rfl Try.underlying65 nf_uint8 rfl rfl rfl rfl hv0 rfl (fun w H => reads_cell H (i := 0) rfl rfl) (one_list rfl) (by unfold maxLen; omega) (by omega) hbase (fun A10 k10 w hv10 H => H.ks (v.ownBlock.toList ++ []) [1] rfl ⟨(fun g hg => by rw [List.mem_singleton.1 hg]; exact .inr hg2), (fun g hg => by rw [List.mem_singleton.1 hg]; exact .inr hg1), (fun g hg => (hv10.in_ g hg).imp (fun h => by simp only [List.mem_append]; simp [h]) id), trivial⟩) fun A10 k10 hv10 => ?_
  refine SxA.ready [10] (by kernel_rfl) (by simp) ⟨?_, trivial⟩
  refine SxO.call (σ := Value) (fun s => s) (fun s => OwnIn w [] s) (fun s => _) rfl trivial rfl rfl (fun ρ w E => ex_call E en_palaver_wire_Num rfl rfl) (callOwn (fun w H => num_own (l ++ [UInt8.ofNat ca]) cb (by omega) (by (try simp only [List.length_append, List.length_cons, List.length_nil]); omega) (H.get (i := 2) rfl) (by simp) (bv_snoc l ca (by omega)))) (fun v15 w hv15 H => H.ks (v.ownBlock.toList ++ []) [2] rfl ⟨(fun g hg => .inr (hv15.fresh g hg)), (fun g hg => by rw [List.mem_singleton.1 hg]; exact .inr hg2), (fun g hg => by rw [List.mem_singleton.1 hg]; exact .inr hg1), (fun g hg => (hv10.in_ g hg).imp (fun h => by simp only [List.mem_append]; simp [h]) id), trivial⟩) fun v15 hv15 => ?_
  refine SxA.take (i := 11) (v := v15) rfl (by kernel_rfl) (by kernel_rfl) (by kernel_rfl) rfl rfl (fun _ _ _ h => h) trivial (fun ρ w E H => ex_assign E rfl rfl) ?_
  refine SxA.done (by kernel_rfl) ?_
  refine SxN.then_ ?_
  refine SxC.ret ?_
  refine SxX.done (v15) (fun a w K H => res1 K rfl rfl) (fun w H => ?_)
  exact ⟨_, rfl, own_conv (own_base (H.get (i := 0) rfl) hbase) (by simp [Pt.put, voB, imB]), hv15.wid, H.toOuts _ ⟨(fun g hg => .inr (hv15.fresh g hg)), (fun g hg => by rw [List.mem_singleton.1 hg]; exact .inr hg2), (fun g hg => by rw [List.mem_singleton.1 hg]; exact .inr hg1), (fun g hg => (hv10.in_ g hg).imp (fun h => by simp [h]) id), trivial⟩⟩

set_option maxRecDepth 100000 in
set_option maxHeartbeats 4000000 in
theorem put_reply (base : Nat) (v : Value) (l : List UInt8) (mk mn mr mb ms mo ca cb ck cz mc : Nat) (mv cs ct cu mt : List UInt8) (vl : List Vo) (il : List Im) (A B : Option Addr) (ka kb : Nat) (w : World) (hf : Ms.Fits ⟨mk, mn, mr, mb, ms, mo, mv, vl, il, ⟨ca, cb, ck, cs, ct, cu, cz⟩, mc, mt⟩) (hs : Ms.Small ⟨mk, mn, mr, mb, ms, mo, mv, vl, il, ⟨ca, cb, ck, cs, ct, cu, cz⟩, mc, mt⟩) (hl : l.length ≤ 1000000) (hbase : base ≤ w.heap.size) (hown : w.ownsRow base 5 1 v l.length (bv l)) : Calls Try.prog 76 #[v, .agg #[.int .u8 (mk : Int), .int .u64 (mn : Int), .int .u8 (mr : Int), .int .u64 (mb : Int), .int .u64 (ms : Int), .int .u8 (mo : Int), .string ⟨mv.toArray⟩, .slice A vl.length ka, .slice B il.length kb, .int .u8 (ca : Int), .int .u32 (cb : Int), .int .u8 (ck : Int), .string ⟨cs.toArray⟩, .string ⟨ct.toArray⟩, .string ⟨cu.toArray⟩, .int .u8 (cz : Int), .int .u8 (mc : Int), .string ⟨mt.toArray⟩]] w fun e w' => PutRet base v w (l ++ Pt.put .reply ⟨mk, mn, mr, mb, ms, mo, mv, vl, il, ⟨ca, cb, ck, cs, ct, cu, cz⟩, mc, mt⟩) e w' := by
  have hv0 : OwnIn w v.ownBlock.toList v := OwnIn.refl w v
  obtain ⟨f1, f2, f3, f4, f5, f6, f7, f8, f9, f10⟩ := hf
  obtain ⟨s1, s2, s3, s4, s5, s6, s7, s8, s9, s10, s11⟩ := hs
  have hf := f9
  dsimp only at f1 f2 f3 f4 f5 f6 f7 f8 f10 s1 s2 s3 s4 s5 s6 s7 s8 s9 s10 s11
  have hfc := f9.h1
  have hfs := f9.h2
  dsimp only at hfc hfs
  refine sx_enter (n := 15) [v, .agg #[.int .u8 (mk : Int), .int .u64 (mn : Int), .int .u8 (mr : Int), .int .u64 (mb : Int), .int .u64 (ms : Int), .int .u8 (mo : Int), .string ⟨mv.toArray⟩, .slice A vl.length ka, .slice B il.length kb, .int .u8 (ca : Int), .int .u32 (cb : Int), .int .u8 (ck : Int), .string ⟨cs.toArray⟩, .string ⟨ct.toArray⟩, .string ⟨cu.toArray⟩, .int .u8 (cz : Int), .int .u8 (mc : Int), .string ⟨mt.toArray⟩]] Try.func76 rfl rfl rfl (Hp.row hown) ?_
  refine SxC.seq ?_
  refine SxC.region ?_
  refine SxL.new (cs := [.int .u8 (mk : Int), .int .u64 (mn : Int), .int .u8 (mr : Int), .int .u64 (mb : Int), .int .u64 (ms : Int), .int .u8 (mo : Int), .string ⟨mv.toArray⟩, .slice A vl.length ka, .slice B il.length kb, .int .u8 (ca : Int), .int .u32 (cb : Int), .int .u8 (ck : Int), .string ⟨cs.toArray⟩, .string ⟨ct.toArray⟩, .string ⟨cu.toArray⟩, .int .u8 (cz : Int), .int .u8 (mc : Int), .string ⟨mt.toArray⟩]) trivial rfl rfl (fun ρ w E H => ex_box E rfl rfl rfl) fun g1 hg1 => ?_
  refine SxL.val (v := .slice none 0 0) trivial rfl rfl (fun ρ w E H => ex_assign E rfl rfl) ?_
  refine SxL.nil ?_
  refine SxN.then_ ?_
  refine SxC.seq ?_
  refine SxC.drawnK (v.ownBlock.toList ++ []) [0] (by kernel_rfl) rfl ⟨(fun g hg => by rw [List.mem_singleton.1 hg]; exact .inr hg1), (fun g hg => (hv0.in_ g hg).imp (fun h => by simp only [List.mem_append]; simp [h]) id), trivial⟩ ?_
  refine SxA.take (i := 0) (v := v) rfl (by kernel_rfl) (by kernel_rfl) (by kernel_rfl) rfl rfl (fun _ _ _ h => h) trivial (fun ρ w E H => ex_move E rfl rfl) ?_
  refine SxA.take (i := 1) (v := .pointer (some ⟨g1, 16, none⟩)) rfl (by kernel_rfl) (by kernel_rfl) (by kernel_rfl) rfl rfl (fun _ _ _ h => h) trivial (fun ρ w E H => ex_field E rfl fa_palaver_api_Msg_9 rfl rfl) ?_
  refine SxA.take (i := 2) (v := .pointer (some ⟨g1, 16, none⟩)) rfl (by kernel_rfl) (by kernel_rfl) (by kernel_rfl) rfl rfl (fun _ _ _ h => h) trivial (fun ρ w E H => ex_field E rfl fa_palaver_api_Reply_0 rfl rfl) ?_
  refine SxA.take (i := 3) (v := .int .u8 (mc : Int)) rfl (by kernel_rfl) (by kernel_rfl) (by kernel_rfl) rfl rfl (fun _ _ _ h => h) trivial (fun ρ w E H => ex_load1 E (H.get (i := 0) rfl) rfl rfl Try.underlying5 rfl rfl) ?_
  refine SxA.take (i := 6) (v := .pointer (some ⟨g1, 16, none⟩)) rfl (by kernel_rfl) (by kernel_rfl) (by kernel_rfl) rfl rfl (fun _ _ _ h => h) trivial (fun ρ w E H => ex_field E rfl fa_palaver_api_Msg_9 rfl rfl) ?_
  refine SxA.take (i := 7) (v := .pointer (some ⟨g1, 17, none⟩)) rfl (by kernel_rfl) (by kernel_rfl) (by kernel_rfl) rfl rfl (fun _ _ _ h => h) trivial (fun ρ w E H => ex_field E rfl fa_palaver_api_Reply_1 rfl rfl) ?_
  refine SxA.take (i := 8) (v := .string ⟨mt.toArray⟩) rfl (by kernel_rfl) (by kernel_rfl) (by kernel_rfl) rfl rfl (fun _ _ _ h => h) trivial (fun ρ w E H => ex_load1 E (H.get (i := 0) rfl) rfl rfl Try.underlying9 rfl rfl) ?_
  refine SxA.ready [4] (by kernel_rfl) (by simp) ⟨?_, trivial⟩
  refine SxO.newS (cs := [.int .u8 (mc : Int)]) rfl trivial rfl rfl (fun ρ w E H => ex_buildSlice E rfl rfl Try.underlying65 sz_uint8 zr_uint8 rfl rfl (by kernel_rfl)) (fun g2 w hg2 H => H.ks (v.ownBlock.toList ++ []) [1] rfl ⟨(fun g hg => by rw [List.mem_singleton.1 hg]; exact .inr hg2), (fun g hg => by rw [List.mem_singleton.1 hg]; exact .inr hg1), (fun g hg => (hv0.in_ g hg).imp (fun h => by simp only [List.mem_append]; simp [h]) id), trivial⟩) fun g2 hg2 => ?_
  refine SxA.ready [5] (by kernel_rfl) (by simp) ⟨?_, trivial⟩
  refine SxO.append (i := 2) (news := [.int .u8 (mc : Int)]) rfl trivial rfl rfl rfl Try.underlying65 nf_uint8 rfl rfl rfl rfl hv0 rfl (fun w H => reads_cell H (i := 0) rfl rfl) (one_list rfl) (by unfold maxLen; omega) (by omega) hbase (fun A10 k10 w hv10 H => H.ks (v.ownBlock.toList ++ []) [1] rfl ⟨(fun g hg => by rw [List.mem_singleton.1 hg]; exact .inr hg2), (fun g hg => by rw [List.mem_singleton.1 hg]; exact .inr hg1), (fun g hg => (hv10.in_ g hg).imp (fun h => by simp only [List.mem_append]; simp [h]) id), trivial⟩) fun A10 k10 hv10 => ?_
  refine SxA.ready [9] (by kernel_rfl) (by simp) ⟨?_, trivial⟩
  refine SxO.call (σ := Value) (fun s => s) (fun s => OwnIn w [] s) (fun s => _) rfl trivial rfl rfl (fun ρ w E => ex_call E en_palaver_wire_Str rfl rfl) (callOwn (fun w H => str_own (l ++ [UInt8.ofNat mc]) mt (by (try simp only [List.length_append, List.length_cons, List.length_nil]); omega) (by omega) (H.get (i := 2) rfl) (by simp) (bv_snoc l mc (by omega)))) (fun v14 w hv14 H => H.ks (v.ownBlock.toList ++ []) [2] rfl ⟨(fun g hg => .inr (hv14.fresh g hg)), (fun g hg => by rw [List.mem_singleton.1 hg]; exact .inr hg2), (fun g hg => by rw [List.mem_singleton.1 hg]; exact .inr hg1), (fun g hg => (hv10.in_ g hg).imp (fun h => by simp only [List.mem_append]; simp [h]) id), trivial⟩) fun v14 hv14 => ?_
  refine SxA.take (i := 10) (v := v14) rfl (by kernel_rfl) (by kernel_rfl) (by kernel_rfl) rfl rfl (fun _ _ _ h => h) trivial (fun ρ w E H => ex_assign E rfl rfl) ?_
  refine SxA.done (by kernel_rfl) ?_
  refine SxN.then_ ?_
  refine SxC.ret ?_
  refine SxX.done (v14) (fun a w K H => res1 K rfl rfl) (fun w H => ?_)
  exact ⟨_, rfl, own_conv (own_base (H.get (i := 0) rfl) hbase) (by simp [Pt.put, voB, imB]), hv14.wid, H.toOuts _ ⟨(fun g hg => .inr (hv14.fresh g hg)), (fun g hg => by rw [List.mem_singleton.1 hg]; exact .inr hg2), (fun g hg => by rw [List.mem_singleton.1 hg]; exact .inr hg1), (fun g hg => (hv10.in_ g hg).imp (fun h => by simp [h]) id), trivial⟩⟩

set_option maxRecDepth 100000 in
set_option maxHeartbeats 4000000 in
theorem put_node (base : Nat) (v : Value) (l : List UInt8) (mk mn mr mb ms mo ca cb ck cz mc : Nat) (mv cs ct cu mt : List UInt8) (vl : List Vo) (il : List Im) (A B : Option Addr) (ka kb : Nat) (w : World) (hf : Ms.Fits ⟨mk, mn, mr, mb, ms, mo, mv, vl, il, ⟨ca, cb, ck, cs, ct, cu, cz⟩, mc, mt⟩) (hs : Ms.Small ⟨mk, mn, mr, mb, ms, mo, mv, vl, il, ⟨ca, cb, ck, cs, ct, cu, cz⟩, mc, mt⟩) (hl : l.length ≤ 1000000) (hbase : base ≤ w.heap.size) (hown : w.ownsRow base 5 1 v l.length (bv l)) : Calls Try.prog 82 #[v, .agg #[.int .u8 (mk : Int), .int .u64 (mn : Int), .int .u8 (mr : Int), .int .u64 (mb : Int), .int .u64 (ms : Int), .int .u8 (mo : Int), .string ⟨mv.toArray⟩, .slice A vl.length ka, .slice B il.length kb, .int .u8 (ca : Int), .int .u32 (cb : Int), .int .u8 (ck : Int), .string ⟨cs.toArray⟩, .string ⟨ct.toArray⟩, .string ⟨cu.toArray⟩, .int .u8 (cz : Int), .int .u8 (mc : Int), .string ⟨mt.toArray⟩]] w fun e w' => PutRet base v w (l ++ Pt.put .node ⟨mk, mn, mr, mb, ms, mo, mv, vl, il, ⟨ca, cb, ck, cs, ct, cu, cz⟩, mc, mt⟩) e w' := by
  have hv0 : OwnIn w v.ownBlock.toList v := OwnIn.refl w v
  obtain ⟨f1, f2, f3, f4, f5, f6, f7, f8, f9, f10⟩ := hf
  obtain ⟨s1, s2, s3, s4, s5, s6, s7, s8, s9, s10, s11⟩ := hs
  have hf := f9
  dsimp only at f1 f2 f3 f4 f5 f6 f7 f8 f10 s1 s2 s3 s4 s5 s6 s7 s8 s9 s10 s11
  have hfc := f9.h1
  have hfs := f9.h2
  dsimp only at hfc hfs
  refine sx_enter (n := 10) [v, .agg #[.int .u8 (mk : Int), .int .u64 (mn : Int), .int .u8 (mr : Int), .int .u64 (mb : Int), .int .u64 (ms : Int), .int .u8 (mo : Int), .string ⟨mv.toArray⟩, .slice A vl.length ka, .slice B il.length kb, .int .u8 (ca : Int), .int .u32 (cb : Int), .int .u8 (ck : Int), .string ⟨cs.toArray⟩, .string ⟨ct.toArray⟩, .string ⟨cu.toArray⟩, .int .u8 (cz : Int), .int .u8 (mc : Int), .string ⟨mt.toArray⟩]] Try.func82 rfl rfl rfl (Hp.row hown) ?_
  refine SxC.seq ?_
  refine SxC.region ?_
  refine SxL.new (cs := [.int .u8 (mk : Int), .int .u64 (mn : Int), .int .u8 (mr : Int), .int .u64 (mb : Int), .int .u64 (ms : Int), .int .u8 (mo : Int), .string ⟨mv.toArray⟩, .slice A vl.length ka, .slice B il.length kb, .int .u8 (ca : Int), .int .u32 (cb : Int), .int .u8 (ck : Int), .string ⟨cs.toArray⟩, .string ⟨ct.toArray⟩, .string ⟨cu.toArray⟩, .int .u8 (cz : Int), .int .u8 (mc : Int), .string ⟨mt.toArray⟩]) trivial rfl rfl (fun ρ w E H => ex_box E rfl rfl rfl) fun g1 hg1 => ?_
  refine SxL.val (v := .slice none 0 0) trivial rfl rfl (fun ρ w E H => ex_assign E rfl rfl) ?_
  refine SxL.nil ?_
  refine SxN.then_ ?_
  refine SxC.seq ?_
  refine SxC.region ?_
  refine SxL.val (v := v) trivial rfl rfl (fun ρ w E H => ex_move E rfl rfl) ?_
  refine SxL.val (v := .pointer (some ⟨g1, 5, none⟩)) trivial rfl rfl (fun ρ w E H => ex_field E rfl fa_palaver_api_Msg_4 rfl rfl) ?_
  refine SxL.val (v := .int .u8 (mo : Int)) trivial rfl rfl (fun ρ w E H => ex_load1 E (H.get (i := 0) rfl) rfl rfl Try.underlying5 rfl rfl) ?_
  refine SxL.newS (cs := [.int .u8 (mo : Int)]) trivial rfl rfl (fun ρ w E H => ex_buildSlice E rfl rfl Try.underlying65 sz_uint8 zr_uint8 rfl rfl (by kernel_rfl)) fun g2 hg2 => ?_
  refine SxL.append (i := 2) (news := [.int .u8 (mo : Int)]) trivial rfl rfl rfl Try.underlying65 nf_uint8 rfl rfl rfl rfl hv0 rfl (fun w H => reads_cell H (i := 0) rfl rfl) (one_list rfl) (by unfold maxLen; omega) (by omega) hbase fun A9 k9 hv9 => ?_
  refine SxL.val (v := .slice A9 (l.length + 1) k9) trivial rfl rfl (fun ρ w E H => ex_assign E rfl rfl) ?_
  refine SxL.nil ?_
  refine SxN.then_ ?_
  refine SxC.ret ?_
  refine SxX.done (.slice A9 (l.length + 1) k9) (fun a w K H => res1 K rfl rfl) (fun w H => ?_)
  exact ⟨_, rfl, own_conv (own_base (own_eq (H.get (i := 2) rfl) (by simp) (bv_snoc l mo (by omega))) (Nat.le_refl _)) (by simp [Pt.put, voB, imB]), hv9, H.toOuts _ ⟨(fun g hg => by rw [List.mem_singleton.1 hg]; exact .inr hg2), (fun g hg => by rw [List.mem_singleton.1 hg]; exact .inr hg1), (fun g hg => (hv9.in_ g hg).imp (fun h => by simp [h]) id), trivial⟩⟩

set_option maxRecDepth 100000 in
set_option maxHeartbeats 4000000 in
theorem put_turn (base : Nat) (v : Value) (l : List UInt8) (mk mn mr mb ms mo ca cb ck cz mc : Nat) (mv cs ct cu mt : List UInt8) (vl : List Vo) (il : List Im) (A B : Option Addr) (ka kb : Nat) (w : World) (hf : Ms.Fits ⟨mk, mn, mr, mb, ms, mo, mv, vl, il, ⟨ca, cb, ck, cs, ct, cu, cz⟩, mc, mt⟩) (hs : Ms.Small ⟨mk, mn, mr, mb, ms, mo, mv, vl, il, ⟨ca, cb, ck, cs, ct, cu, cz⟩, mc, mt⟩) (hl : l.length ≤ 1000000) (hbase : base ≤ w.heap.size) (hown : w.ownsRow base 5 1 v l.length (bv l)) : Calls Try.prog 86 #[v, .agg #[.int .u8 (mk : Int), .int .u64 (mn : Int), .int .u8 (mr : Int), .int .u64 (mb : Int), .int .u64 (ms : Int), .int .u8 (mo : Int), .string ⟨mv.toArray⟩, .slice A vl.length ka, .slice B il.length kb, .int .u8 (ca : Int), .int .u32 (cb : Int), .int .u8 (ck : Int), .string ⟨cs.toArray⟩, .string ⟨ct.toArray⟩, .string ⟨cu.toArray⟩, .int .u8 (cz : Int), .int .u8 (mc : Int), .string ⟨mt.toArray⟩]] w fun e w' => PutRet base v w (l ++ Pt.put .turn ⟨mk, mn, mr, mb, ms, mo, mv, vl, il, ⟨ca, cb, ck, cs, ct, cu, cz⟩, mc, mt⟩) e w' := by
  have hv0 : OwnIn w v.ownBlock.toList v := OwnIn.refl w v
  obtain ⟨f1, f2, f3, f4, f5, f6, f7, f8, f9, f10⟩ := hf
  obtain ⟨s1, s2, s3, s4, s5, s6, s7, s8, s9, s10, s11⟩ := hs
  have hf := f9
  dsimp only at f1 f2 f3 f4 f5 f6 f7 f8 f10 s1 s2 s3 s4 s5 s6 s7 s8 s9 s10 s11
  have hfc := f9.h1
  have hfs := f9.h2
  dsimp only at hfc hfs
  refine sx_enter (n := 9) [v, .agg #[.int .u8 (mk : Int), .int .u64 (mn : Int), .int .u8 (mr : Int), .int .u64 (mb : Int), .int .u64 (ms : Int), .int .u8 (mo : Int), .string ⟨mv.toArray⟩, .slice A vl.length ka, .slice B il.length kb, .int .u8 (ca : Int), .int .u32 (cb : Int), .int .u8 (ck : Int), .string ⟨cs.toArray⟩, .string ⟨ct.toArray⟩, .string ⟨cu.toArray⟩, .int .u8 (cz : Int), .int .u8 (mc : Int), .string ⟨mt.toArray⟩]] Try.func86 rfl rfl rfl (Hp.row hown) ?_
  refine SxC.seq ?_
  refine SxC.region ?_
  refine SxL.new (cs := [.int .u8 (mk : Int), .int .u64 (mn : Int), .int .u8 (mr : Int), .int .u64 (mb : Int), .int .u64 (ms : Int), .int .u8 (mo : Int), .string ⟨mv.toArray⟩, .slice A vl.length ka, .slice B il.length kb, .int .u8 (ca : Int), .int .u32 (cb : Int), .int .u8 (ck : Int), .string ⟨cs.toArray⟩, .string ⟨ct.toArray⟩, .string ⟨cu.toArray⟩, .int .u8 (cz : Int), .int .u8 (mc : Int), .string ⟨mt.toArray⟩]) trivial rfl rfl (fun ρ w E H => ex_box E rfl rfl rfl) fun g1 hg1 => ?_
  refine SxL.val (v := .slice none 0 0) trivial rfl rfl (fun ρ w E H => ex_assign E rfl rfl) ?_
  refine SxL.nil ?_
  refine SxN.then_ ?_
  refine SxC.seq ?_
  refine SxC.region ?_
  refine SxL.val (v := v) trivial rfl rfl (fun ρ w E H => ex_move E rfl rfl) ?_
  refine SxL.val (v := .pointer (some ⟨g1, 1, none⟩)) trivial rfl rfl (fun ρ w E H => ex_field E rfl fa_palaver_api_Msg_1 rfl rfl) ?_
  refine SxL.val (v := .agg #[.int .u64 (mn : Int), .int .u8 (mr : Int)]) trivial rfl rfl (fun ρ w E H => ex_load (part := [.int .u64 (mn : Int), .int .u8 (mr : Int)]) E (H.get (i := 0) rfl) rfl rfl Try.underlying39 rfl sz_palaver_api_Ballot rfl rfl) ?_
  refine SxL.call (σ := Value) (fun s => s) (fun s => OwnIn w [] s) (fun s => _) trivial rfl rfl (fun ρ w E => ex_call E en_palaver_ballot_Put rfl rfl) (callOwn (fun w H => bal_own l mn mr (by omega) (by omega) (by (try simp only [List.length_append, List.length_cons, List.length_nil]); omega) (H.get (i := 1) rfl) rfl rfl)) fun v8 hv8 => ?_
  refine SxL.val (v := v8) trivial rfl rfl (fun ρ w E H => ex_assign E rfl rfl) ?_
  refine SxL.nil ?_
  refine SxN.then_ ?_
  refine SxC.ret ?_
  refine SxX.done (v8) (fun a w K H => res1 K rfl rfl) (fun w H => ?_)
  exact ⟨_, rfl, own_conv (own_base (H.get (i := 0) rfl) hbase) (by simp [Pt.put, voB, imB]), hv8.wid, H.toOuts _ ⟨(fun g hg => .inr (hv8.fresh g hg)), (fun g hg => by rw [List.mem_singleton.1 hg]; exact .inr hg1), (fun g hg => (hv0.in_ g hg).imp (fun h => by simp [h]) id), trivial⟩⟩

set_option maxRecDepth 100000 in
set_option maxHeartbeats 4000000 in
theorem put_floor (base : Nat) (v : Value) (l : List UInt8) (mk mn mr mb ms mo ca cb ck cz mc : Nat) (mv cs ct cu mt : List UInt8) (vl : List Vo) (il : List Im) (A B : Option Addr) (ka kb : Nat) (w : World) (hf : Ms.Fits ⟨mk, mn, mr, mb, ms, mo, mv, vl, il, ⟨ca, cb, ck, cs, ct, cu, cz⟩, mc, mt⟩) (hs : Ms.Small ⟨mk, mn, mr, mb, ms, mo, mv, vl, il, ⟨ca, cb, ck, cs, ct, cu, cz⟩, mc, mt⟩) (hl : l.length ≤ 1000000) (hbase : base ≤ w.heap.size) (hown : w.ownsRow base 5 1 v l.length (bv l)) : Calls Try.prog 98 #[v, .agg #[.int .u8 (mk : Int), .int .u64 (mn : Int), .int .u8 (mr : Int), .int .u64 (mb : Int), .int .u64 (ms : Int), .int .u8 (mo : Int), .string ⟨mv.toArray⟩, .slice A vl.length ka, .slice B il.length kb, .int .u8 (ca : Int), .int .u32 (cb : Int), .int .u8 (ck : Int), .string ⟨cs.toArray⟩, .string ⟨ct.toArray⟩, .string ⟨cu.toArray⟩, .int .u8 (cz : Int), .int .u8 (mc : Int), .string ⟨mt.toArray⟩]] w fun e w' => PutRet base v w (l ++ Pt.put .floor ⟨mk, mn, mr, mb, ms, mo, mv, vl, il, ⟨ca, cb, ck, cs, ct, cu, cz⟩, mc, mt⟩) e w' := by
  have hv0 : OwnIn w v.ownBlock.toList v := OwnIn.refl w v
  obtain ⟨f1, f2, f3, f4, f5, f6, f7, f8, f9, f10⟩ := hf
  obtain ⟨s1, s2, s3, s4, s5, s6, s7, s8, s9, s10, s11⟩ := hs
  have hf := f9
  dsimp only at f1 f2 f3 f4 f5 f6 f7 f8 f10 s1 s2 s3 s4 s5 s6 s7 s8 s9 s10 s11
  have hfc := f9.h1
  have hfs := f9.h2
  dsimp only at hfc hfs
  refine sx_enter (n := 9) [v, .agg #[.int .u8 (mk : Int), .int .u64 (mn : Int), .int .u8 (mr : Int), .int .u64 (mb : Int), .int .u64 (ms : Int), .int .u8 (mo : Int), .string ⟨mv.toArray⟩, .slice A vl.length ka, .slice B il.length kb, .int .u8 (ca : Int), .int .u32 (cb : Int), .int .u8 (ck : Int), .string ⟨cs.toArray⟩, .string ⟨ct.toArray⟩, .string ⟨cu.toArray⟩, .int .u8 (cz : Int), .int .u8 (mc : Int), .string ⟨mt.toArray⟩]] Try.func98 rfl rfl rfl (Hp.row hown) ?_
  refine SxC.seq ?_
  refine SxC.region ?_
  refine SxL.new (cs := [.int .u8 (mk : Int), .int .u64 (mn : Int), .int .u8 (mr : Int), .int .u64 (mb : Int), .int .u64 (ms : Int), .int .u8 (mo : Int), .string ⟨mv.toArray⟩, .slice A vl.length ka, .slice B il.length kb, .int .u8 (ca : Int), .int .u32 (cb : Int), .int .u8 (ck : Int), .string ⟨cs.toArray⟩, .string ⟨ct.toArray⟩, .string ⟨cu.toArray⟩, .int .u8 (cz : Int), .int .u8 (mc : Int), .string ⟨mt.toArray⟩]) trivial rfl rfl (fun ρ w E H => ex_box E rfl rfl rfl) fun g1 hg1 => ?_
  refine SxL.val (v := .slice none 0 0) trivial rfl rfl (fun ρ w E H => ex_assign E rfl rfl) ?_
  refine SxL.nil ?_
  refine SxN.then_ ?_
  refine SxC.seq ?_
  refine SxC.region ?_
  refine SxL.val (v := v) trivial rfl rfl (fun ρ w E H => ex_move E rfl rfl) ?_
  refine SxL.val (v := .pointer (some ⟨g1, 3, none⟩)) trivial rfl rfl (fun ρ w E H => ex_field E rfl fa_palaver_api_Msg_2 rfl rfl) ?_
  refine SxL.val (v := .int .u64 (mb : Int)) trivial rfl rfl (fun ρ w E H => ex_load1 E (H.get (i := 0) rfl) rfl rfl Try.underlying37 rfl rfl) ?_
  refine SxL.call (σ := Value) (fun s => s) (fun s => OwnIn w [] s) (fun s => _) trivial rfl rfl (fun ρ w E => ex_call E en_palaver_wire_Num rfl rfl) (callOwn (fun w H => num_own l mb (by omega) (by (try simp only [List.length_append, List.length_cons, List.length_nil]); omega) (H.get (i := 1) rfl) rfl rfl)) fun v8 hv8 => ?_
  refine SxL.val (v := v8) trivial rfl rfl (fun ρ w E H => ex_assign E rfl rfl) ?_
  refine SxL.nil ?_
  refine SxN.then_ ?_
  refine SxC.ret ?_
  refine SxX.done (v8) (fun a w K H => res1 K rfl rfl) (fun w H => ?_)
  exact ⟨_, rfl, own_conv (own_base (H.get (i := 0) rfl) hbase) (by simp [Pt.put, voB, imB]), hv8.wid, H.toOuts _ ⟨(fun g hg => .inr (hv8.fresh g hg)), (fun g hg => by rw [List.mem_singleton.1 hg]; exact .inr hg1), (fun g hg => (hv0.in_ g hg).imp (fun h => by simp [h]) id), trivial⟩⟩

set_option maxRecDepth 100000 in
set_option maxHeartbeats 4000000 in
theorem put_slot (base : Nat) (v : Value) (l : List UInt8) (mk mn mr mb ms mo ca cb ck cz mc : Nat) (mv cs ct cu mt : List UInt8) (vl : List Vo) (il : List Im) (least : Nat) (A B : Option Addr) (ka kb : Nat) (w : World) (hf : Ms.Fits ⟨mk, mn, mr, mb, ms, mo, mv, vl, il, ⟨ca, cb, ck, cs, ct, cu, cz⟩, mc, mt⟩) (hs : Ms.Small ⟨mk, mn, mr, mb, ms, mo, mv, vl, il, ⟨ca, cb, ck, cs, ct, cu, cz⟩, mc, mt⟩) (hl : l.length ≤ 1000000) (hbase : base ≤ w.heap.size) (hown : w.ownsRow base 5 1 v l.length (bv l)) : Calls Try.prog 93 #[v, .agg #[.int .u8 (mk : Int), .int .u64 (mn : Int), .int .u8 (mr : Int), .int .u64 (mb : Int), .int .u64 (ms : Int), .int .u8 (mo : Int), .string ⟨mv.toArray⟩, .slice A vl.length ka, .slice B il.length kb, .int .u8 (ca : Int), .int .u32 (cb : Int), .int .u8 (ck : Int), .string ⟨cs.toArray⟩, .string ⟨ct.toArray⟩, .string ⟨cu.toArray⟩, .int .u8 (cz : Int), .int .u8 (mc : Int), .string ⟨mt.toArray⟩]] w fun e w' => PutRet base v w (l ++ Pt.put (.slot least) ⟨mk, mn, mr, mb, ms, mo, mv, vl, il, ⟨ca, cb, ck, cs, ct, cu, cz⟩, mc, mt⟩) e w' := by
  have hv0 : OwnIn w v.ownBlock.toList v := OwnIn.refl w v
  obtain ⟨f1, f2, f3, f4, f5, f6, f7, f8, f9, f10⟩ := hf
  obtain ⟨s1, s2, s3, s4, s5, s6, s7, s8, s9, s10, s11⟩ := hs
  have hf := f9
  dsimp only at f1 f2 f3 f4 f5 f6 f7 f8 f10 s1 s2 s3 s4 s5 s6 s7 s8 s9 s10 s11
  have hfc := f9.h1
  have hfs := f9.h2
  dsimp only at hfc hfs
  refine sx_enter (n := 9) [v, .agg #[.int .u8 (mk : Int), .int .u64 (mn : Int), .int .u8 (mr : Int), .int .u64 (mb : Int), .int .u64 (ms : Int), .int .u8 (mo : Int), .string ⟨mv.toArray⟩, .slice A vl.length ka, .slice B il.length kb, .int .u8 (ca : Int), .int .u32 (cb : Int), .int .u8 (ck : Int), .string ⟨cs.toArray⟩, .string ⟨ct.toArray⟩, .string ⟨cu.toArray⟩, .int .u8 (cz : Int), .int .u8 (mc : Int), .string ⟨mt.toArray⟩]] Try.func93 rfl rfl rfl (Hp.row hown) ?_
  refine SxC.seq ?_
  refine SxC.region ?_
  refine SxL.new (cs := [.int .u8 (mk : Int), .int .u64 (mn : Int), .int .u8 (mr : Int), .int .u64 (mb : Int), .int .u64 (ms : Int), .int .u8 (mo : Int), .string ⟨mv.toArray⟩, .slice A vl.length ka, .slice B il.length kb, .int .u8 (ca : Int), .int .u32 (cb : Int), .int .u8 (ck : Int), .string ⟨cs.toArray⟩, .string ⟨ct.toArray⟩, .string ⟨cu.toArray⟩, .int .u8 (cz : Int), .int .u8 (mc : Int), .string ⟨mt.toArray⟩]) trivial rfl rfl (fun ρ w E H => ex_box E rfl rfl rfl) fun g1 hg1 => ?_
  refine SxL.val (v := .slice none 0 0) trivial rfl rfl (fun ρ w E H => ex_assign E rfl rfl) ?_
  refine SxL.nil ?_
  refine SxN.then_ ?_
  refine SxC.seq ?_
  refine SxC.region ?_
  refine SxL.val (v := v) trivial rfl rfl (fun ρ w E H => ex_move E rfl rfl) ?_
  refine SxL.val (v := .pointer (some ⟨g1, 4, none⟩)) trivial rfl rfl (fun ρ w E H => ex_field E rfl fa_palaver_api_Msg_3 rfl rfl) ?_
  refine SxL.val (v := .int .u64 (ms : Int)) trivial rfl rfl (fun ρ w E H => ex_load1 E (H.get (i := 0) rfl) rfl rfl Try.underlying37 rfl rfl) ?_
  refine SxL.call (σ := Value) (fun s => s) (fun s => OwnIn w [] s) (fun s => _) trivial rfl rfl (fun ρ w E => ex_call E en_palaver_wire_Num rfl rfl) (callOwn (fun w H => num_own l ms (by omega) (by (try simp only [List.length_append, List.length_cons, List.length_nil]); omega) (H.get (i := 1) rfl) rfl rfl)) fun v8 hv8 => ?_
  refine SxL.val (v := v8) trivial rfl rfl (fun ρ w E H => ex_assign E rfl rfl) ?_
  refine SxL.nil ?_
  refine SxN.then_ ?_
  refine SxC.ret ?_
  refine SxX.done (v8) (fun a w K H => res1 K rfl rfl) (fun w H => ?_)
  exact ⟨_, rfl, own_conv (own_base (H.get (i := 0) rfl) hbase) (by simp [Pt.put, voB, imB]), hv8.wid, H.toOuts _ ⟨(fun g hg => .inr (hv8.fresh g hg)), (fun g hg => by rw [List.mem_singleton.1 hg]; exact .inr hg1), (fun g hg => (hv0.in_ g hg).imp (fun h => by simp [h]) id), trivial⟩⟩

set_option maxRecDepth 100000 in
set_option maxHeartbeats 4000000 in
theorem put_value (base : Nat) (v : Value) (l : List UInt8) (mk mn mr mb ms mo ca cb ck cz mc : Nat) (mv cs ct cu mt : List UInt8) (vl : List Vo) (il : List Im) (A B : Option Addr) (ka kb : Nat) (w : World) (hf : Ms.Fits ⟨mk, mn, mr, mb, ms, mo, mv, vl, il, ⟨ca, cb, ck, cs, ct, cu, cz⟩, mc, mt⟩) (hs : Ms.Small ⟨mk, mn, mr, mb, ms, mo, mv, vl, il, ⟨ca, cb, ck, cs, ct, cu, cz⟩, mc, mt⟩) (hl : l.length ≤ 1000000) (hbase : base ≤ w.heap.size) (hown : w.ownsRow base 5 1 v l.length (bv l)) : Calls Try.prog 107 #[v, .agg #[.int .u8 (mk : Int), .int .u64 (mn : Int), .int .u8 (mr : Int), .int .u64 (mb : Int), .int .u64 (ms : Int), .int .u8 (mo : Int), .string ⟨mv.toArray⟩, .slice A vl.length ka, .slice B il.length kb, .int .u8 (ca : Int), .int .u32 (cb : Int), .int .u8 (ck : Int), .string ⟨cs.toArray⟩, .string ⟨ct.toArray⟩, .string ⟨cu.toArray⟩, .int .u8 (cz : Int), .int .u8 (mc : Int), .string ⟨mt.toArray⟩]] w fun e w' => PutRet base v w (l ++ Pt.put .value ⟨mk, mn, mr, mb, ms, mo, mv, vl, il, ⟨ca, cb, ck, cs, ct, cu, cz⟩, mc, mt⟩) e w' := by
  have hv0 : OwnIn w v.ownBlock.toList v := OwnIn.refl w v
  obtain ⟨f1, f2, f3, f4, f5, f6, f7, f8, f9, f10⟩ := hf
  obtain ⟨s1, s2, s3, s4, s5, s6, s7, s8, s9, s10, s11⟩ := hs
  have hf := f9
  dsimp only at f1 f2 f3 f4 f5 f6 f7 f8 f10 s1 s2 s3 s4 s5 s6 s7 s8 s9 s10 s11
  have hfc := f9.h1
  have hfs := f9.h2
  dsimp only at hfc hfs
  refine sx_enter (n := 9) [v, .agg #[.int .u8 (mk : Int), .int .u64 (mn : Int), .int .u8 (mr : Int), .int .u64 (mb : Int), .int .u64 (ms : Int), .int .u8 (mo : Int), .string ⟨mv.toArray⟩, .slice A vl.length ka, .slice B il.length kb, .int .u8 (ca : Int), .int .u32 (cb : Int), .int .u8 (ck : Int), .string ⟨cs.toArray⟩, .string ⟨ct.toArray⟩, .string ⟨cu.toArray⟩, .int .u8 (cz : Int), .int .u8 (mc : Int), .string ⟨mt.toArray⟩]] Try.func107 rfl rfl rfl (Hp.row hown) ?_
  refine SxC.seq ?_
  refine SxC.region ?_
  refine SxL.new (cs := [.int .u8 (mk : Int), .int .u64 (mn : Int), .int .u8 (mr : Int), .int .u64 (mb : Int), .int .u64 (ms : Int), .int .u8 (mo : Int), .string ⟨mv.toArray⟩, .slice A vl.length ka, .slice B il.length kb, .int .u8 (ca : Int), .int .u32 (cb : Int), .int .u8 (ck : Int), .string ⟨cs.toArray⟩, .string ⟨ct.toArray⟩, .string ⟨cu.toArray⟩, .int .u8 (cz : Int), .int .u8 (mc : Int), .string ⟨mt.toArray⟩]) trivial rfl rfl (fun ρ w E H => ex_box E rfl rfl rfl) fun g1 hg1 => ?_
  refine SxL.val (v := .slice none 0 0) trivial rfl rfl (fun ρ w E H => ex_assign E rfl rfl) ?_
  refine SxL.nil ?_
  refine SxN.then_ ?_
  refine SxC.seq ?_
  refine SxC.region ?_
  refine SxL.val (v := v) trivial rfl rfl (fun ρ w E H => ex_move E rfl rfl) ?_
  refine SxL.val (v := .pointer (some ⟨g1, 6, none⟩)) trivial rfl rfl (fun ρ w E H => ex_field E rfl fa_palaver_api_Msg_5 rfl rfl) ?_
  refine SxL.val (v := .string ⟨mv.toArray⟩) trivial rfl rfl (fun ρ w E H => ex_load1 E (H.get (i := 0) rfl) rfl rfl Try.underlying9 rfl rfl) ?_
  refine SxL.call (σ := Value) (fun s => s) (fun s => OwnIn w [] s) (fun s => _) trivial rfl rfl (fun ρ w E => ex_call E en_palaver_wire_Str rfl rfl) (callOwn (fun w H => str_own l mv (by (try simp only [List.length_append, List.length_cons, List.length_nil]); omega) (by omega) (H.get (i := 1) rfl) rfl rfl)) fun v8 hv8 => ?_
  refine SxL.val (v := v8) trivial rfl rfl (fun ρ w E H => ex_assign E rfl rfl) ?_
  refine SxL.nil ?_
  refine SxN.then_ ?_
  refine SxC.ret ?_
  refine SxX.done (v8) (fun a w K H => res1 K rfl rfl) (fun w H => ?_)
  exact ⟨_, rfl, own_conv (own_base (H.get (i := 0) rfl) hbase) (by simp [Pt.put, voB, imB]), hv8.wid, H.toOuts _ ⟨(fun g hg => .inr (hv8.fresh g hg)), (fun g hg => by rw [List.mem_singleton.1 hg]; exact .inr hg1), (fun g hg => (hv0.in_ g hg).imp (fun h => by simp [h]) id), trivial⟩⟩

set_option maxRecDepth 100000 in
set_option maxHeartbeats 4000000 in
theorem put_votes (base : Nat) (v : Value) (l : List UInt8) (mk mn mr mb ms mo ca cb ck cz mc : Nat) (mv cs ct cu mt : List UInt8) (vl : List Vo) (il : List Im) (A B : Option Addr) (ka kb : Nat) (w : World) (hf : Ms.Fits ⟨mk, mn, mr, mb, ms, mo, mv, vl, il, ⟨ca, cb, ck, cs, ct, cu, cz⟩, mc, mt⟩) (hs : Ms.Small ⟨mk, mn, mr, mb, ms, mo, mv, vl, il, ⟨ca, cb, ck, cs, ct, cu, cz⟩, mc, mt⟩) (hl : l.length ≤ 1000000) (hbase : base ≤ w.heap.size) (hown : w.ownsRow base 5 1 v l.length (bv l)) (hv : Rows w A 4 voL vl) (hlo : vl ≠ [] → ∀ ad, A = some ad → ad.block < base) : Calls Try.prog 102 #[v, .agg #[.int .u8 (mk : Int), .int .u64 (mn : Int), .int .u8 (mr : Int), .int .u64 (mb : Int), .int .u64 (ms : Int), .int .u8 (mo : Int), .string ⟨mv.toArray⟩, .slice A vl.length ka, .slice B il.length kb, .int .u8 (ca : Int), .int .u32 (cb : Int), .int .u8 (ck : Int), .string ⟨cs.toArray⟩, .string ⟨ct.toArray⟩, .string ⟨cu.toArray⟩, .int .u8 (cz : Int), .int .u8 (mc : Int), .string ⟨mt.toArray⟩]] w fun e w' => PutRet base v w (l ++ Pt.put .votes ⟨mk, mn, mr, mb, ms, mo, mv, vl, il, ⟨ca, cb, ck, cs, ct, cu, cz⟩, mc, mt⟩) e w' := by
  have hv0 : OwnIn w v.ownBlock.toList v := OwnIn.refl w v
  obtain ⟨f1, f2, f3, f4, f5, f6, f7, f8, f9, f10⟩ := hf
  obtain ⟨s1, s2, s3, s4, s5, s6, s7, s8, s9, s10, s11⟩ := hs
  have hf := f9
  dsimp only at f1 f2 f3 f4 f5 f6 f7 f8 f10 s1 s2 s3 s4 s5 s6 s7 s8 s9 s10 s11
  have hfc := f9.h1
  have hfs := f9.h2
  dsimp only at hfc hfs
  have hdhv : vl ≠ [] → ∀ ad, A = some ad → ad.block ∉ v.ownBlock.toList := fun hn ad h hm => by have h1 := (own_lt hown _ hm).1; have h2 := hlo hn ad h; omega
  refine sx_enter (n := 32) [v, .agg #[.int .u8 (mk : Int), .int .u64 (mn : Int), .int .u8 (mr : Int), .int .u64 (mb : Int), .int .u64 (ms : Int), .int .u8 (mo : Int), .string ⟨mv.toArray⟩, .slice A vl.length ka, .slice B il.length kb, .int .u8 (ca : Int), .int .u32 (cb : Int), .int .u8 (ck : Int), .string ⟨cs.toArray⟩, .string ⟨ct.toArray⟩, .string ⟨cu.toArray⟩, .int .u8 (cz : Int), .int .u8 (mc : Int), .string ⟨mt.toArray⟩]] Try.func102 rfl rfl rfl (Hp.row hown) ?_
  refine SxC.seq ?_
  refine SxC.region ?_
  refine SxL.new (cs := [.int .u8 (mk : Int), .int .u64 (mn : Int), .int .u8 (mr : Int), .int .u64 (mb : Int), .int .u64 (ms : Int), .int .u8 (mo : Int), .string ⟨mv.toArray⟩, .slice A vl.length ka, .slice B il.length kb, .int .u8 (ca : Int), .int .u32 (cb : Int), .int .u8 (ck : Int), .string ⟨cs.toArray⟩, .string ⟨ct.toArray⟩, .string ⟨cu.toArray⟩, .int .u8 (cz : Int), .int .u8 (mc : Int), .string ⟨mt.toArray⟩]) trivial rfl rfl (fun ρ w E H => ex_box E rfl rfl rfl) fun g1 hg1 => ?_
  refine SxL.val (v := .slice none 0 0) trivial rfl rfl (fun ρ w E H => ex_assign E rfl rfl) ?_
  refine SxL.nil ?_
  refine SxN.then_ ?_
  refine SxC.seq ?_
  refine SxC.region ?_
  refine SxL.val (v := v) trivial rfl rfl (fun ρ w E H => ex_move E rfl rfl) ?_
  refine SxL.val (v := .pointer (some ⟨g1, 7, none⟩)) trivial rfl rfl (fun ρ w E H => ex_field E rfl fa_palaver_api_Msg_6 rfl rfl) ?_
  refine SxL.val (v := .slice A vl.length ka) trivial rfl rfl (fun ρ w E H => ex_load1 E (H.get (i := 0) rfl) rfl rfl Try.underlying40 rfl rfl) ?_
  refine SxL.val (v := .int .i64 (vl.length : Int)) trivial rfl rfl (fun ρ w E H => ex_lenS E rfl Try.underlying40 rfl) ?_
  refine SxL.val (v := .int .u64 (vl.length : Int)) trivial rfl rfl (fun ρ w E H => ex_convInt E rfl Try.underlying3 Try.underlying37 rfl (by rw [IntKind.wrap_u64]; omega)) ?_
  refine SxL.call (σ := Value) (fun s => s) (fun s => OwnIn w [] s) (fun s => _) trivial rfl rfl (fun ρ w E => ex_call E en_palaver_wire_Num rfl rfl) (callOwn (fun w H => num_own l vl.length (by omega) (by (try simp only [List.length_append, List.length_cons, List.length_nil]); omega) (H.get (i := 1) rfl) rfl rfl)) fun v12 hv12 => ?_
  refine SxL.val (v := v12) trivial rfl rfl (fun ρ w E H => ex_assign E rfl rfl) ?_
  refine SxL.nil ?_
  refine SxN.then_ ?_
  refine SxC.seq ?_
  refine SxC.seq ?_
  refine SxC.region ?_
  refine SxL.val (v := .pointer (some ⟨g1, 7, none⟩)) trivial rfl rfl (fun ρ w E H => ex_field E rfl fa_palaver_api_Msg_6 rfl rfl) ?_
  refine SxL.val (v := .slice A vl.length ka) trivial rfl rfl (fun ρ w E H => ex_load1 E (H.get (i := 1) rfl) rfl rfl Try.underlying40 rfl rfl) ?_
  refine SxL.val (v := .int .i64 (vl.length : Int)) trivial rfl rfl (fun ρ w E H => ex_lenS E rfl Try.underlying40 rfl) ?_
  refine SxL.val (v := .int .i64 0) trivial rfl rfl (fun ρ w E H => ex_move E rfl rfl) ?_
  refine SxL.nil ?_
  refine SxN.then_ ?_
  refine SxC.block ?_
  refine SxC.hp (fun W H => H.re (i := 0) rfl (rowX [] w.heap.size 5 1 v12 ((l ++ putV vl 0).length) (bv (l ++ putV vl 0))) (rowX_loc _ _ _ _ _ _ _) rfl (fun h => own_conv (l := (l ++ numB vl.length)) (l' := (l ++ putV vl 0)) h (by simp [putV]))) ?_
  refine SxC.loop2 (fun (k : Nat) (v1 : Value) => [(0, v1), (3, .pointer (some ⟨g1, 0, none⟩)), (14, .slice A vl.length ka), (15, .int .i64 (vl.length : Int)), (16, .int .i64 (k : Int))]) (fun (k : Nat) (v1 : Value) => [rowX [] w.heap.size 5 1 v1 ((l ++ putV vl k).length) (bv (l ++ putV vl k)), cell g1 45 [.int .u8 (mk : Int), .int .u64 (mn : Int), .int .u8 (mr : Int), .int .u64 (mb : Int), .int .u64 (ms : Int), .int .u8 (mo : Int), .string ⟨mv.toArray⟩, .slice A vl.length ka, .slice B il.length kb, .int .u8 (ca : Int), .int .u32 (cb : Int), .int .u8 (ck : Int), .string ⟨cs.toArray⟩, .string ⟨ct.toArray⟩, .string ⟨cu.toArray⟩, .int .u8 (cz : Int), .int .u8 (mc : Int), .string ⟨mt.toArray⟩], rowX v.ownBlock.toList base 5 1 v l.length (bv l)]) (fun (gk : Nat) (k : Nat) (v1 : Value) => k + gk = vl.length ∧ OwnIn w [] v1) vl.length 0 v12 ⟨by omega, hv12⟩ ⟨rfl, rfl, rfl, rfl, rfl, trivial⟩ [0, 1, 2] rfl (by decide) ⟨.inl rfl, .inl rfl, .inl rfl, trivial⟩ fun gk k v1 hF => ?_
  obtain ⟨hkg, hv1⟩ := hF
  refine SxC.seq ?_
  refine SxC.region ?_
  refine SxL.valB trivial rfl rfl (fun ρ w E H => ex_cmp E rfl rfl rfl rfl rfl) fun c17 hc17 => ?_
  refine SxL.nil ?_
  refine SxN.then_ ?_
  refine SxC.seq ?_
  cases c17
  · refine SxC.condF rfl ?_
    refine SxC.exit ?_
    refine SxX.thenE ?_
    refine SxX.thenE ?_
    refine SxX.blockE ?_
    refine SxN.then_ ?_
    refine SxC.seq ?_
    refine SxC.region ?_
    refine SxL.val (v := v1) trivial rfl rfl (fun ρ w E H => ex_move E rfl rfl) ?_
    refine SxL.val (v := v1) trivial rfl rfl (fun ρ w E H => ex_assign E rfl rfl) ?_
    refine SxL.nil ?_
    refine SxN.then_ ?_
    refine SxC.ret ?_
    refine SxX.done (v1) (fun a w K H => res1 K rfl rfl) (fun w H => ?_)
    exact ⟨_, rfl, own_conv (own_base (H.get (i := 0) rfl) hbase) (by rw [putV_end (by simpa [cmpB] using hc17)]; rfl), hv1.wid, H.toOuts _ ⟨(fun g hg => .inr (hv1.fresh g hg)), (fun g hg => by rw [List.mem_singleton.1 hg]; exact .inr hg1), (fun g hg => (hv0.in_ g hg).imp (fun h => by simp [h]) id), trivial⟩⟩
  · refine SxC.condT rfl ?_
    refine SxC.skip ?_
    refine SxN.then_ ?_
    refine SxC.seq ?_
    refine SxC.block ?_
    refine SxC.seq ?_
    have hkl : k < vl.length := by simpa [cmpB] using hc17
    obtain ⟨⟨xs, xn, xr, xv⟩, hx⟩ : ∃ x, vl[k]? = some x := ⟨_, List.getElem?_eq_getElem hkl⟩
    obtain ⟨ad, rfl, -, -⟩ := hv.row hx
    have hxm := List.mem_of_getElem? hx
    have hxf := f7 _ hxm
    have hxs := s4 _ hxm
    have q1 := hxf.h1
    have q2 := hxf.h2
    have q3 := hxf.h3
    dsimp only at hxs q1 q2 q3
    have hb1 := putV_len vl k s2 s10
    have hb2 := (numB_length xs q1).1
    have hb3 := bal_len xn xr q2
    refine SxC.region ?_
    refine SxL.val (v := .pointer (some (ad.add (k * 4)))) trivial rfl rfl (fun ρ w E H => ex_index (i := k) E rfl Try.underlying40 sz_palaver_api_Vote rfl rfl hkl) ?_
    refine SxL.val (v := .agg #[.int .u64 (xs : Int), .int .u64 (xn : Int), .int .u8 (xr : Int), .string ⟨xv.toArray⟩]) trivial rfl rfl (fun ρ w E H => ex_loadX (cs := [.int .u64 (xs : Int), .int .u64 (xn : Int), .int .u8 (xr : Int), .string ⟨xv.toArray⟩]) E ((hv.outs (H.toOuts _ ⟨(fun g hg => .inr (hv1.fresh g hg)), (fun g hg => by rw [List.mem_singleton.1 hg]; exact .inr hg1), (fun g hg => (hv0.in_ g hg).imp (fun h => by simp [h]) id), trivial⟩) hdhv).rowA hx) rfl rfl Try.underlying76 rfl sz_palaver_api_Vote) ?_
    refine SxL.new (cs := [.int .u64 0, .int .u64 0, .int .u8 0, .string ⟨[].toArray⟩]) trivial rfl rfl (fun ρ w E H => ex_alloc rfl zr_palaver_api_Vote rfl) fun g2 hg2 => ?_
    refine SxL.store (i := 0) trivial rfl rfl rfl rfl rfl sz_palaver_api_Vote rfl rfl rfl ?_
    refine SxL.nil ?_
    refine SxN.then_ ?_
    refine SxC.drawnK (v.ownBlock.toList ++ []) [0, 1, 2, 3] (by kernel_rfl) rfl ⟨(fun g hg => by rw [List.mem_singleton.1 hg]; exact .inr hg2), (fun g hg => .inr (hv1.fresh g hg)), (fun g hg => by rw [List.mem_singleton.1 hg]; exact .inr hg1), (fun g hg => (hv0.in_ g hg).imp (fun h => by simp only [List.mem_append]; simp [h]) id), trivial⟩ ?_
    refine SxA.take (i := 0) (v := v1) rfl (by kernel_rfl) (by kernel_rfl) (by kernel_rfl) rfl rfl (fun _ _ _ h => h) trivial (fun ρ w E H => ex_move E rfl rfl) ?_
    refine SxA.take (i := 1) (v := .pointer (some ⟨g2, 0, none⟩)) rfl (by kernel_rfl) (by kernel_rfl) (by kernel_rfl) rfl rfl (fun _ _ _ h => h) trivial (fun ρ w E H => ex_field E rfl fa_palaver_api_Vote_0 rfl rfl) ?_
    refine SxA.take (i := 2) (v := .int .u64 (xs : Int)) rfl (by kernel_rfl) (by kernel_rfl) (by kernel_rfl) rfl rfl (fun _ _ _ h => h) trivial (fun ρ w E H => ex_load1 E (H.get (i := 0) rfl) rfl rfl Try.underlying37 rfl rfl) ?_
    refine SxA.take (i := 4) (v := .pointer (some ⟨g2, 1, none⟩)) rfl (by kernel_rfl) (by kernel_rfl) (by kernel_rfl) rfl rfl (fun _ _ _ h => h) trivial (fun ρ w E H => ex_field E rfl fa_palaver_api_Vote_1 rfl rfl) ?_
    refine SxA.take (i := 5) (v := .agg #[.int .u64 (xn : Int), .int .u8 (xr : Int)]) rfl (by kernel_rfl) (by kernel_rfl) (by kernel_rfl) rfl rfl (fun _ _ _ h => h) trivial (fun ρ w E H => ex_load (part := [.int .u64 (xn : Int), .int .u8 (xr : Int)]) E (H.get (i := 0) rfl) rfl rfl Try.underlying39 rfl sz_palaver_api_Ballot rfl rfl) ?_
    refine SxA.take (i := 7) (v := .pointer (some ⟨g2, 3, none⟩)) rfl (by kernel_rfl) (by kernel_rfl) (by kernel_rfl) rfl rfl (fun _ _ _ h => h) trivial (fun ρ w E H => ex_field E rfl fa_palaver_api_Vote_2 rfl rfl) ?_
    refine SxA.take (i := 8) (v := .string ⟨xv.toArray⟩) rfl (by kernel_rfl) (by kernel_rfl) (by kernel_rfl) rfl rfl (fun _ _ _ h => h) trivial (fun ρ w E H => ex_load1 E (H.get (i := 0) rfl) rfl rfl Try.underlying9 rfl rfl) ?_
    refine SxA.ready [3] (by kernel_rfl) (by simp) ⟨?_, trivial⟩
    refine SxO.call (σ := Value) (fun s => s) (fun s => OwnIn w [] s) (fun s => _) rfl trivial rfl rfl (fun ρ w E => ex_call E en_palaver_wire_Num rfl rfl) (callOwn (fun w H => num_own (l ++ putV vl k) xs (by omega) (by (try simp only [List.length_append, List.length_cons, List.length_nil]); omega) (H.get (i := 1) rfl) rfl rfl)) (fun v23 w hv23 H => H.ks (v.ownBlock.toList ++ []) [1, 2, 3, 4] rfl ⟨(fun g hg => .inr (hv23.fresh g hg)), (fun g hg => by rw [List.mem_singleton.1 hg]; exact .inr hg2), (fun g hg => .inr (hv1.fresh g hg)), (fun g hg => by rw [List.mem_singleton.1 hg]; exact .inr hg1), (fun g hg => (hv0.in_ g hg).imp (fun h => by simp only [List.mem_append]; simp [h]) id), trivial⟩) fun v23 hv23 => ?_
    refine SxA.ready [6] (by kernel_rfl) (by simp) ⟨?_, trivial⟩
    refine SxO.call (σ := Value) (fun s => s) (fun s => OwnIn w [] s) (fun s => _) rfl trivial rfl rfl (fun ρ w E => ex_call E en_palaver_ballot_Put rfl rfl) (callOwn (fun w H => bal_own ((l ++ putV vl k) ++ numB xs) xn xr (by omega) (by omega) (by (try simp only [List.length_append, List.length_cons, List.length_nil]); omega) (H.get (i := 0) rfl) rfl rfl)) (fun v26 w hv26 H => H.ks (v.ownBlock.toList ++ []) [2, 3, 4, 5] rfl ⟨(fun g hg => .inr (hv26.fresh g hg)), (fun g hg => .inr (hv23.fresh g hg)), (fun g hg => by rw [List.mem_singleton.1 hg]; exact .inr hg2), (fun g hg => .inr (hv1.fresh g hg)), (fun g hg => by rw [List.mem_singleton.1 hg]; exact .inr hg1), (fun g hg => (hv0.in_ g hg).imp (fun h => by simp only [List.mem_append]; simp [h]) id), trivial⟩) fun v26 hv26 => ?_
    refine SxA.ready [9] (by kernel_rfl) (by simp) ⟨?_, trivial⟩
    refine SxO.call (σ := Value) (fun s => s) (fun s => OwnIn w [] s) (fun s => _) rfl trivial rfl rfl (fun ρ w E => ex_call E en_palaver_wire_Str rfl rfl) (callOwn (fun w H => str_own (((l ++ putV vl k) ++ numB xs) ++ Bal.balB ⟨xn, xr⟩) xv (by (try simp only [List.length_append, List.length_cons, List.length_nil]); omega) (by omega) (H.get (i := 0) rfl) rfl rfl)) (fun v29 w hv29 H => H.ks (v.ownBlock.toList ++ []) [3, 4, 5, 6] rfl ⟨(fun g hg => .inr (hv29.fresh g hg)), (fun g hg => .inr (hv26.fresh g hg)), (fun g hg => .inr (hv23.fresh g hg)), (fun g hg => by rw [List.mem_singleton.1 hg]; exact .inr hg2), (fun g hg => .inr (hv1.fresh g hg)), (fun g hg => by rw [List.mem_singleton.1 hg]; exact .inr hg1), (fun g hg => (hv0.in_ g hg).imp (fun h => by simp only [List.mem_append]; simp [h]) id), trivial⟩) fun v29 hv29 => ?_
    refine SxA.take (i := 10) (v := v29) rfl (by kernel_rfl) (by kernel_rfl) (by kernel_rfl) rfl rfl (fun _ _ _ h => h) trivial (fun ρ w E H => ex_assign E rfl rfl) ?_
    refine SxA.done (by kernel_rfl) ?_
    refine SxN.block ?_
    refine SxN.then_ ?_
    refine SxC.region ?_
    refine SxL.val (v := .int .i64 ((k + 1 : Nat) : Int)) trivial rfl rfl (fun ρ w E H => ex_add E rfl rfl rfl (by rw [IntKind.wrap_i64]; omega)) ?_
    refine SxL.val (v := .int .i64 ((k + 1 : Nat) : Int)) trivial rfl rfl (fun ρ w E H => ex_move E rfl rfl) ?_
    refine SxL.nil ?_
    refine SxN.hp (fun W H => H.re (i := 0) rfl (rowX [] w.heap.size 5 1 v29 ((l ++ putV vl (k + 1)).length) (bv (l ++ putV vl (k + 1)))) (rowX_loc _ _ _ _ _ _ _) rfl (fun h => own_conv (l := ((((l ++ putV vl k) ++ numB xs) ++ Bal.balB ⟨xn, xr⟩) ++ strB xv)) (l' := (l ++ putV vl (k + 1))) h (by rw [putV_succ hx]; simp [voB, imB]))) ?_
    refine SxN.back (gk - 1) (k + 1, v29) (by omega) ⟨by omega, hv29⟩ ⟨rfl, rfl, rfl, rfl, rfl, trivial⟩ [0, 5, 6] rfl (by decide) ⟨.inl rfl, .inr (hv26.fresh), .inr (hv23.fresh), .inr (fun g hg => by rw [List.mem_singleton.1 hg]; exact hg2), .inr (hv1.fresh), .inl rfl, .inl rfl, trivial⟩

set_option maxRecDepth 100000 in
set_option maxHeartbeats 4000000 in
theorem put_items (base : Nat) (v : Value) (l : List UInt8) (mk mn mr mb ms mo ca cb ck cz mc : Nat) (mv cs ct cu mt : List UInt8) (vl : List Vo) (il : List Im) (A B : Option Addr) (ka kb : Nat) (w : World) (hf : Ms.Fits ⟨mk, mn, mr, mb, ms, mo, mv, vl, il, ⟨ca, cb, ck, cs, ct, cu, cz⟩, mc, mt⟩) (hs : Ms.Small ⟨mk, mn, mr, mb, ms, mo, mv, vl, il, ⟨ca, cb, ck, cs, ct, cu, cz⟩, mc, mt⟩) (hl : l.length ≤ 1000000) (hbase : base ≤ w.heap.size) (hown : w.ownsRow base 5 1 v l.length (bv l)) (hi : Rows w B 2 imL il) (hlo : il ≠ [] → ∀ ad, B = some ad → ad.block < base) : Calls Try.prog 111 #[v, .agg #[.int .u8 (mk : Int), .int .u64 (mn : Int), .int .u8 (mr : Int), .int .u64 (mb : Int), .int .u64 (ms : Int), .int .u8 (mo : Int), .string ⟨mv.toArray⟩, .slice A vl.length ka, .slice B il.length kb, .int .u8 (ca : Int), .int .u32 (cb : Int), .int .u8 (ck : Int), .string ⟨cs.toArray⟩, .string ⟨ct.toArray⟩, .string ⟨cu.toArray⟩, .int .u8 (cz : Int), .int .u8 (mc : Int), .string ⟨mt.toArray⟩]] w fun e w' => PutRet base v w (l ++ Pt.put .items ⟨mk, mn, mr, mb, ms, mo, mv, vl, il, ⟨ca, cb, ck, cs, ct, cu, cz⟩, mc, mt⟩) e w' := by
  have hv0 : OwnIn w v.ownBlock.toList v := OwnIn.refl w v
  obtain ⟨f1, f2, f3, f4, f5, f6, f7, f8, f9, f10⟩ := hf
  obtain ⟨s1, s2, s3, s4, s5, s6, s7, s8, s9, s10, s11⟩ := hs
  have hf := f9
  dsimp only at f1 f2 f3 f4 f5 f6 f7 f8 f10 s1 s2 s3 s4 s5 s6 s7 s8 s9 s10 s11
  have hfc := f9.h1
  have hfs := f9.h2
  dsimp only at hfc hfs
  have hdhi : il ≠ [] → ∀ ad, B = some ad → ad.block ∉ v.ownBlock.toList := fun hn ad h hm => by have h1 := (own_lt hown _ hm).1; have h2 := hlo hn ad h; omega
  refine sx_enter (n := 29) [v, .agg #[.int .u8 (mk : Int), .int .u64 (mn : Int), .int .u8 (mr : Int), .int .u64 (mb : Int), .int .u64 (ms : Int), .int .u8 (mo : Int), .string ⟨mv.toArray⟩, .slice A vl.length ka, .slice B il.length kb, .int .u8 (ca : Int), .int .u32 (cb : Int), .int .u8 (ck : Int), .string ⟨cs.toArray⟩, .string ⟨ct.toArray⟩, .string ⟨cu.toArray⟩, .int .u8 (cz : Int), .int .u8 (mc : Int), .string ⟨mt.toArray⟩]] Try.func111 rfl rfl rfl (Hp.row hown) ?_
  refine SxC.seq ?_
  refine SxC.region ?_
  refine SxL.new (cs := [.int .u8 (mk : Int), .int .u64 (mn : Int), .int .u8 (mr : Int), .int .u64 (mb : Int), .int .u64 (ms : Int), .int .u8 (mo : Int), .string ⟨mv.toArray⟩, .slice A vl.length ka, .slice B il.length kb, .int .u8 (ca : Int), .int .u32 (cb : Int), .int .u8 (ck : Int), .string ⟨cs.toArray⟩, .string ⟨ct.toArray⟩, .string ⟨cu.toArray⟩, .int .u8 (cz : Int), .int .u8 (mc : Int), .string ⟨mt.toArray⟩]) trivial rfl rfl (fun ρ w E H => ex_box E rfl rfl rfl) fun g1 hg1 => ?_
  refine SxL.val (v := .slice none 0 0) trivial rfl rfl (fun ρ w E H => ex_assign E rfl rfl) ?_
  refine SxL.nil ?_
  refine SxN.then_ ?_
  refine SxC.seq ?_
  refine SxC.region ?_
  refine SxL.val (v := v) trivial rfl rfl (fun ρ w E H => ex_move E rfl rfl) ?_
  refine SxL.val (v := .pointer (some ⟨g1, 8, none⟩)) trivial rfl rfl (fun ρ w E H => ex_field E rfl fa_palaver_api_Msg_7 rfl rfl) ?_
  refine SxL.val (v := .slice B il.length kb) trivial rfl rfl (fun ρ w E H => ex_load1 E (H.get (i := 0) rfl) rfl rfl Try.underlying41 rfl rfl) ?_
  refine SxL.val (v := .int .i64 (il.length : Int)) trivial rfl rfl (fun ρ w E H => ex_lenS E rfl Try.underlying41 rfl) ?_
  refine SxL.val (v := .int .u64 (il.length : Int)) trivial rfl rfl (fun ρ w E H => ex_convInt E rfl Try.underlying3 Try.underlying37 rfl (by rw [IntKind.wrap_u64]; omega)) ?_
  refine SxL.call (σ := Value) (fun s => s) (fun s => OwnIn w [] s) (fun s => _) trivial rfl rfl (fun ρ w E => ex_call E en_palaver_wire_Num rfl rfl) (callOwn (fun w H => num_own l il.length (by omega) (by (try simp only [List.length_append, List.length_cons, List.length_nil]); omega) (H.get (i := 1) rfl) rfl rfl)) fun v12 hv12 => ?_
  refine SxL.val (v := v12) trivial rfl rfl (fun ρ w E H => ex_assign E rfl rfl) ?_
  refine SxL.nil ?_
  refine SxN.then_ ?_
  refine SxC.seq ?_
  refine SxC.seq ?_
  refine SxC.region ?_
  refine SxL.val (v := .pointer (some ⟨g1, 8, none⟩)) trivial rfl rfl (fun ρ w E H => ex_field E rfl fa_palaver_api_Msg_7 rfl rfl) ?_
  refine SxL.val (v := .slice B il.length kb) trivial rfl rfl (fun ρ w E H => ex_load1 E (H.get (i := 1) rfl) rfl rfl Try.underlying41 rfl rfl) ?_
  refine SxL.val (v := .int .i64 (il.length : Int)) trivial rfl rfl (fun ρ w E H => ex_lenS E rfl Try.underlying41 rfl) ?_
  refine SxL.val (v := .int .i64 0) trivial rfl rfl (fun ρ w E H => ex_move E rfl rfl) ?_
  refine SxL.nil ?_
  refine SxN.then_ ?_
  refine SxC.block ?_
  refine SxC.hp (fun W H => H.re (i := 0) rfl (rowX [] w.heap.size 5 1 v12 ((l ++ putI il 0).length) (bv (l ++ putI il 0))) (rowX_loc _ _ _ _ _ _ _) rfl (fun h => own_conv (l := (l ++ numB il.length)) (l' := (l ++ putI il 0)) h (by simp [putI]))) ?_
  refine SxC.loop2 (fun (k : Nat) (v1 : Value) => [(0, v1), (3, .pointer (some ⟨g1, 0, none⟩)), (14, .slice B il.length kb), (15, .int .i64 (il.length : Int)), (16, .int .i64 (k : Int))]) (fun (k : Nat) (v1 : Value) => [rowX [] w.heap.size 5 1 v1 ((l ++ putI il k).length) (bv (l ++ putI il k)), cell g1 45 [.int .u8 (mk : Int), .int .u64 (mn : Int), .int .u8 (mr : Int), .int .u64 (mb : Int), .int .u64 (ms : Int), .int .u8 (mo : Int), .string ⟨mv.toArray⟩, .slice A vl.length ka, .slice B il.length kb, .int .u8 (ca : Int), .int .u32 (cb : Int), .int .u8 (ck : Int), .string ⟨cs.toArray⟩, .string ⟨ct.toArray⟩, .string ⟨cu.toArray⟩, .int .u8 (cz : Int), .int .u8 (mc : Int), .string ⟨mt.toArray⟩], rowX v.ownBlock.toList base 5 1 v l.length (bv l)]) (fun (gk : Nat) (k : Nat) (v1 : Value) => k + gk = il.length ∧ OwnIn w [] v1) il.length 0 v12 ⟨by omega, hv12⟩ ⟨rfl, rfl, rfl, rfl, rfl, trivial⟩ [0, 1, 2] rfl (by decide) ⟨.inl rfl, .inl rfl, .inl rfl, trivial⟩ fun gk k v1 hF => ?_
  obtain ⟨hkg, hv1⟩ := hF
  refine SxC.seq ?_
  refine SxC.region ?_
  refine SxL.valB trivial rfl rfl (fun ρ w E H => ex_cmp E rfl rfl rfl rfl rfl) fun c17 hc17 => ?_
  refine SxL.nil ?_
  refine SxN.then_ ?_
  refine SxC.seq ?_
  cases c17
  · refine SxC.condF rfl ?_
    refine SxC.exit ?_
    refine SxX.thenE ?_
    refine SxX.thenE ?_
    refine SxX.blockE ?_
    refine SxN.then_ ?_
    refine SxC.seq ?_
    refine SxC.region ?_
    refine SxL.val (v := v1) trivial rfl rfl (fun ρ w E H => ex_move E rfl rfl) ?_
    refine SxL.val (v := v1) trivial rfl rfl (fun ρ w E H => ex_assign E rfl rfl) ?_
    refine SxL.nil ?_
    refine SxN.then_ ?_
    refine SxC.ret ?_
    refine SxX.done (v1) (fun a w K H => res1 K rfl rfl) (fun w H => ?_)
    exact ⟨_, rfl, own_conv (own_base (H.get (i := 0) rfl) hbase) (by rw [putI_end (by simpa [cmpB] using hc17)]; rfl), hv1.wid, H.toOuts _ ⟨(fun g hg => .inr (hv1.fresh g hg)), (fun g hg => by rw [List.mem_singleton.1 hg]; exact .inr hg1), (fun g hg => (hv0.in_ g hg).imp (fun h => by simp [h]) id), trivial⟩⟩
  · refine SxC.condT rfl ?_
    refine SxC.skip ?_
    refine SxN.then_ ?_
    refine SxC.seq ?_
    refine SxC.block ?_
    refine SxC.seq ?_
    have hkl : k < il.length := by simpa [cmpB] using hc17
    obtain ⟨⟨xs, xv⟩, hx⟩ : ∃ x, il[k]? = some x := ⟨_, List.getElem?_eq_getElem hkl⟩
    obtain ⟨ad, rfl, -, -⟩ := hi.row hx
    have hxm := List.mem_of_getElem? hx
    have q1 := f8 _ hxm
    have hxs := s5 _ hxm
    dsimp only at hxs q1
    have hb1 := putI_len il k s3 s11
    have hb2 := (numB_length xs q1).1
    refine SxC.region ?_
    refine SxL.val (v := .pointer (some (ad.add (k * 2)))) trivial rfl rfl (fun ρ w E H => ex_index (i := k) E rfl Try.underlying41 sz_palaver_api_Item rfl rfl hkl) ?_
    refine SxL.val (v := .agg #[.int .u64 (xs : Int), .string ⟨xv.toArray⟩]) trivial rfl rfl (fun ρ w E H => ex_loadX (cs := [.int .u64 (xs : Int), .string ⟨xv.toArray⟩]) E ((hi.outs (H.toOuts _ ⟨(fun g hg => .inr (hv1.fresh g hg)), (fun g hg => by rw [List.mem_singleton.1 hg]; exact .inr hg1), (fun g hg => (hv0.in_ g hg).imp (fun h => by simp [h]) id), trivial⟩) hdhi).rowA hx) rfl rfl Try.underlying78 rfl sz_palaver_api_Item) ?_
    refine SxL.new (cs := [.int .u64 0, .string ⟨[].toArray⟩]) trivial rfl rfl (fun ρ w E H => ex_alloc rfl zr_palaver_api_Item rfl) fun g2 hg2 => ?_
    refine SxL.store (i := 0) trivial rfl rfl rfl rfl rfl sz_palaver_api_Item rfl rfl rfl ?_
    refine SxL.nil ?_
    refine SxN.then_ ?_
    refine SxC.drawnK (v.ownBlock.toList ++ []) [0, 1, 2, 3] (by kernel_rfl) rfl ⟨(fun g hg => by rw [List.mem_singleton.1 hg]; exact .inr hg2), (fun g hg => .inr (hv1.fresh g hg)), (fun g hg => by rw [List.mem_singleton.1 hg]; exact .inr hg1), (fun g hg => (hv0.in_ g hg).imp (fun h => by simp only [List.mem_append]; simp [h]) id), trivial⟩ ?_
    refine SxA.take (i := 0) (v := v1) rfl (by kernel_rfl) (by kernel_rfl) (by kernel_rfl) rfl rfl (fun _ _ _ h => h) trivial (fun ρ w E H => ex_move E rfl rfl) ?_
    refine SxA.take (i := 1) (v := .pointer (some ⟨g2, 0, none⟩)) rfl (by kernel_rfl) (by kernel_rfl) (by kernel_rfl) rfl rfl (fun _ _ _ h => h) trivial (fun ρ w E H => ex_field E rfl fa_palaver_api_Item_0 rfl rfl) ?_
    refine SxA.take (i := 2) (v := .int .u64 (xs : Int)) rfl (by kernel_rfl) (by kernel_rfl) (by kernel_rfl) rfl rfl (fun _ _ _ h => h) trivial (fun ρ w E H => ex_load1 E (H.get (i := 0) rfl) rfl rfl Try.underlying37 rfl rfl) ?_
    refine SxA.take (i := 4) (v := .pointer (some ⟨g2, 1, none⟩)) rfl (by kernel_rfl) (by kernel_rfl) (by kernel_rfl) rfl rfl (fun _ _ _ h => h) trivial (fun ρ w E H => ex_field E rfl fa_palaver_api_Item_1 rfl rfl) ?_
    refine SxA.take (i := 5) (v := .string ⟨xv.toArray⟩) rfl (by kernel_rfl) (by kernel_rfl) (by kernel_rfl) rfl rfl (fun _ _ _ h => h) trivial (fun ρ w E H => ex_load1 E (H.get (i := 0) rfl) rfl rfl Try.underlying9 rfl rfl) ?_
    refine SxA.ready [3] (by kernel_rfl) (by simp) ⟨?_, trivial⟩
    refine SxO.call (σ := Value) (fun s => s) (fun s => OwnIn w [] s) (fun s => _) rfl trivial rfl rfl (fun ρ w E => ex_call E en_palaver_wire_Num rfl rfl) (callOwn (fun w H => num_own (l ++ putI il k) xs (by omega) (by (try simp only [List.length_append, List.length_cons, List.length_nil]); omega) (H.get (i := 1) rfl) rfl rfl)) (fun v23 w hv23 H => H.ks (v.ownBlock.toList ++ []) [1, 2, 3, 4] rfl ⟨(fun g hg => .inr (hv23.fresh g hg)), (fun g hg => by rw [List.mem_singleton.1 hg]; exact .inr hg2), (fun g hg => .inr (hv1.fresh g hg)), (fun g hg => by rw [List.mem_singleton.1 hg]; exact .inr hg1), (fun g hg => (hv0.in_ g hg).imp (fun h => by simp only [List.mem_append]; simp [h]) id), trivial⟩) fun v23 hv23 => ?_
    refine SxA.ready [6] (by kernel_rfl) (by simp) ⟨?_, trivial⟩
    refine SxO.call (σ := Value) (fun s => s) (fun s => OwnIn w [] s) (fun s => _) rfl trivial rfl rfl (fun ρ w E => ex_call E en_palaver_wire_Str rfl rfl) (callOwn (fun w H => str_own ((l ++ putI il k) ++ numB xs) xv (by (try simp only [List.length_append, List.length_cons, List.length_nil]); omega) (by omega) (H.get (i := 0) rfl) rfl rfl)) (fun v26 w hv26 H => H.ks (v.ownBlock.toList ++ []) [2, 3, 4, 5] rfl ⟨(fun g hg => .inr (hv26.fresh g hg)), (fun g hg => .inr (hv23.fresh g hg)), (fun g hg => by rw [List.mem_singleton.1 hg]; exact .inr hg2), (fun g hg => .inr (hv1.fresh g hg)), (fun g hg => by rw [List.mem_singleton.1 hg]; exact .inr hg1), (fun g hg => (hv0.in_ g hg).imp (fun h => by simp only [List.mem_append]; simp [h]) id), trivial⟩) fun v26 hv26 => ?_
    refine SxA.take (i := 7) (v := v26) rfl (by kernel_rfl) (by kernel_rfl) (by kernel_rfl) rfl rfl (fun _ _ _ h => h) trivial (fun ρ w E H => ex_assign E rfl rfl) ?_
    refine SxA.done (by kernel_rfl) ?_
    refine SxN.block ?_
    refine SxN.then_ ?_
    refine SxC.region ?_
    refine SxL.val (v := .int .i64 ((k + 1 : Nat) : Int)) trivial rfl rfl (fun ρ w E H => ex_add E rfl rfl rfl (by rw [IntKind.wrap_i64]; omega)) ?_
    refine SxL.val (v := .int .i64 ((k + 1 : Nat) : Int)) trivial rfl rfl (fun ρ w E H => ex_move E rfl rfl) ?_
    refine SxL.nil ?_
    refine SxN.hp (fun W H => H.re (i := 0) rfl (rowX [] w.heap.size 5 1 v26 ((l ++ putI il (k + 1)).length) (bv (l ++ putI il (k + 1)))) (rowX_loc _ _ _ _ _ _ _) rfl (fun h => own_conv (l := (((l ++ putI il k) ++ numB xs) ++ strB xv)) (l' := (l ++ putI il (k + 1))) h (by rw [putI_succ hx]; simp [voB, imB]))) ?_
    refine SxN.back (gk - 1) (k + 1, v26) (by omega) ⟨by omega, hv26⟩ ⟨rfl, rfl, rfl, rfl, rfl, trivial⟩ [0, 4, 5] rfl (by decide) ⟨.inl rfl, .inr (hv23.fresh), .inr (fun g hg => by rw [List.mem_singleton.1 hg]; exact hg2), .inr (hv1.fresh), .inl rfl, .inl rfl, trivial⟩
end Go.Proofs.Yteiaiilfekojfaa.Msg
end
section
set_option linter.unusedVariables false
set_option linter.unusedSimpArgs false
namespace Go.Proofs.Yteiaiilfekojfaa.Msg
open Go.RowKit Sx Wire DrawInv
set_option maxRecDepth 100000 in
set_option maxHeartbeats 4000000 in
theorem cloneV (vl : List Vo) (A : Option Addr) (ka : Nat) (w : World) (hv : Rows w A 4 voL vl) (hlen : vl.length ≤ 1000000) : Calls Try.prog 105 #[.slice A vl.length ka] w fun e w' => ∃ v', e = .returned v' ∧ w'.ownsRow w.heap.size 76 4 v' vl.length (vl.flatMap voL) ∧ Below w.heap.size w w' := by
  have hbz : ∀ W : World, (Instr.buildSlice 40 0 #[]).run Try.prog W = .ok (.slice (some ⟨W.heap.size, 0, none⟩) 0 0) (W.alloc (.cells #[] 76)) := fun W => by go_simp
  refine sx_enter (n := 8) [.slice A vl.length ka] Try.func105 rfl rfl rfl (Hp.start w) ?_
  refine SxC.seq ?_
  refine SxC.region ?_
  refine SxL.val (v := .slice none 0 0) trivial rfl rfl (fun ρ w E H => ex_assign E rfl rfl) ?_
  refine SxL.nil ?_
  refine SxN.then_ ?_
  refine SxC.seq ?_
  refine SxC.seq ?_
  refine SxC.region ?_
  refine SxL.val (v := .slice A vl.length ka) trivial rfl rfl (fun ρ w E H => ex_move E rfl rfl) ?_
  refine SxL.valB trivial rfl rfl (fun ρ w E H => ex_snil E rfl Try.underlying40 (by kernel_rfl) rfl rfl rfl) fun c4 hc4 => ?_
  refine SxL.nil ?_
  refine SxN.then_ ?_
  cases c4
  · refine SxC.condF rfl ?_
    refine SxC.skip ?_
    refine SxN.then_ ?_
    refine SxC.seq ?_
    refine SxC.region ?_
    refine SxL.newS (cs := []) trivial rfl rfl (fun ρ w E H => ex_buildSlice0 rfl hbz) fun g1 hg1 => ?_
    have hvg1 : OwnIn w [] (.slice (some ⟨g1, 0, none⟩) 0 0) := fun b hb => .inr (by simp [Value.ownBlock] at hb; omega)
    refine SxL.hp (fun W H => H.re (i := 0) rfl (rowX [] w.heap.size 76 4 (.slice (some ⟨g1, 0, none⟩) 0 0) 0 []) (rowX_loc _ _ _ _ _ _ _) rfl (fun h => own_new0 h hg1)) ?_
    refine SxL.val (v := .slice A vl.length ka) trivial rfl rfl (fun ρ w E H => ex_move E rfl rfl) ?_
    refine SxL.append (i := 0) (news := vl.flatMap voL) trivial rfl rfl rfl Try.underlying40 nf_palaver_api_Vote rfl rfl rfl rfl hvg1 rfl (fun W H => ⟨_, rows_reads voL_len (by decide) (hv.below (H.toBelow ⟨hvg1.fresh, trivial⟩))⟩) (flat_one voL_one _) (by unfold maxLen; omega) (by omega) (Nat.le_refl _) fun A7 k7 hv7 => ?_
    refine SxL.val (v := .slice A7 (0 + vl.length) k7) trivial rfl rfl (fun ρ w E H => ex_assign E rfl rfl) ?_
    refine SxL.nil ?_
    refine SxN.then_ ?_
    refine SxC.ret ?_
    refine SxX.done (.slice A7 (0 + vl.length) k7) (fun a w K H => res1 K rfl rfl) (fun w H => ?_)
    refine ⟨_, rfl, ?_, H.toBelow ⟨hv7.fresh, trivial⟩⟩
    exact own_as (H.get (i := 0) rfl) (Nat.zero_add _) (List.nil_append _)
  · refine SxC.condT rfl ?_
    refine SxC.seq ?_
    refine SxC.region ?_
    refine SxL.val (v := .slice none 0 0) trivial rfl rfl (fun ρ w E H => ex_assign E rfl rfl) ?_
    refine SxL.nil ?_
    refine SxN.then_ ?_
    refine SxC.ret ?_
    refine SxX.thenR ?_
    refine SxX.done (.slice none 0 0) (fun a w K H => res1 K rfl rfl) (fun w H => ?_)
    obtain rfl := rows_none hv hc4
    exact ⟨_, rfl, World.ownsRow_nil _ _ _ _, H.toBelow trivial⟩

set_option maxRecDepth 100000 in
set_option maxHeartbeats 4000000 in
theorem cloneI (il : List Im) (B : Option Addr) (ka : Nat) (w : World) (hi : Rows w B 2 imL il) (hlen : il.length ≤ 1000000) : Calls Try.prog 114 #[.slice B il.length ka] w fun e w' => ∃ v', e = .returned v' ∧ w'.ownsRow w.heap.size 78 2 v' il.length (il.flatMap imL) ∧ Below w.heap.size w w' := by
  have hbz : ∀ W : World, (Instr.buildSlice 41 0 #[]).run Try.prog W = .ok (.slice (some ⟨W.heap.size, 0, none⟩) 0 0) (W.alloc (.cells #[] 78)) := fun W => by go_simp
  refine sx_enter (n := 8) [.slice B il.length ka] Try.func114 rfl rfl rfl (Hp.start w) ?_
  refine SxC.seq ?_
  refine SxC.region ?_
  refine SxL.val (v := .slice none 0 0) trivial rfl rfl (fun ρ w E H => ex_assign E rfl rfl) ?_
  refine SxL.nil ?_
  refine SxN.then_ ?_
  refine SxC.seq ?_
  refine SxC.seq ?_
  refine SxC.region ?_
  refine SxL.val (v := .slice B il.length ka) trivial rfl rfl (fun ρ w E H => ex_move E rfl rfl) ?_
  refine SxL.valB trivial rfl rfl (fun ρ w E H => ex_snil E rfl Try.underlying41 (by kernel_rfl) rfl rfl rfl) fun c4 hc4 => ?_
  refine SxL.nil ?_
  refine SxN.then_ ?_
  cases c4
  · refine SxC.condF rfl ?_
    refine SxC.skip ?_
    refine SxN.then_ ?_
    refine SxC.seq ?_
    refine SxC.region ?_
    refine SxL.newS (cs := []) trivial rfl rfl (fun ρ w E H => ex_buildSlice0 rfl hbz) fun g1 hg1 => ?_
    have hvg1 : OwnIn w [] (.slice (some ⟨g1, 0, none⟩) 0 0) := fun b hb => .inr (by simp [Value.ownBlock] at hb; omega)
    refine SxL.hp (fun W H => H.re (i := 0) rfl (rowX [] w.heap.size 78 2 (.slice (some ⟨g1, 0, none⟩) 0 0) 0 []) (rowX_loc _ _ _ _ _ _ _) rfl (fun h => own_new0 h hg1)) ?_
    refine SxL.val (v := .slice B il.length ka) trivial rfl rfl (fun ρ w E H => ex_move E rfl rfl) ?_
    refine SxL.append (i := 0) (news := il.flatMap imL) trivial rfl rfl rfl Try.underlying41 nf_palaver_api_Item rfl rfl rfl rfl hvg1 rfl (fun W H => ⟨_, rows_reads imL_len (by decide) (hi.below (H.toBelow ⟨hvg1.fresh, trivial⟩))⟩) (flat_one imL_one _) (by unfold maxLen; omega) (by omega) (Nat.le_refl _) fun A7 k7 hv7 => ?_
    refine SxL.val (v := .slice A7 (0 + il.length) k7) trivial rfl rfl (fun ρ w E H => ex_assign E rfl rfl) ?_
    refine SxL.nil ?_
    refine SxN.then_ ?_
    refine SxC.ret ?_
    refine SxX.done (.slice A7 (0 + il.length) k7) (fun a w K H => res1 K rfl rfl) (fun w H => ?_)
    refine ⟨_, rfl, ?_, H.toBelow ⟨hv7.fresh, trivial⟩⟩
    exact own_as (H.get (i := 0) rfl) (Nat.zero_add _) (List.nil_append _)
  · refine SxC.condT rfl ?_
    refine SxC.seq ?_
    refine SxC.region ?_
    refine SxL.val (v := .slice none 0 0) trivial rfl rfl (fun ρ w E H => ex_assign E rfl rfl) ?_
    refine SxL.nil ?_
    refine SxN.then_ ?_
    refine SxC.ret ?_
    refine SxX.thenR ?_
    refine SxX.done (.slice none 0 0) (fun a w K H => res1 K rfl rfl) (fun w H => ?_)
    obtain rfl := rows_none hi hc4
    exact ⟨_, rfl, World.ownsRow_nil _ _ _ _, H.toBelow trivial⟩

set_option maxRecDepth 100000 in
set_option maxHeartbeats 4000000 in
theorem move_cmd (g xk xn xr xb xs xo da db dk dz xc : Nat) (xv ds dt du xt : List UInt8) (wl : List Vo) (jl : List Im) (V I : Value)(mk mn mr mb ms mo ca cb ck cz mc : Nat) (mv cs ct cu mt : List UInt8) (vl : List Vo) (il : List Im) (A B : Option Addr) (ka kb : Nat) (w : World) (hg : Blk w g 45 (msL ⟨xk, xn, xr, xb, xs, xo, xv, wl, jl, ⟨da, db, dk, ds, dt, du, dz⟩, xc, xt⟩ V I).toArray) : Calls Try.prog 70 #[.pointer (some ⟨g, 0, none⟩), .agg #[.int .u8 (mk : Int), .int .u64 (mn : Int), .int .u8 (mr : Int), .int .u64 (mb : Int), .int .u64 (ms : Int), .int .u8 (mo : Int), .string ⟨mv.toArray⟩, .slice A vl.length ka, .slice B il.length kb, .int .u8 (ca : Int), .int .u32 (cb : Int), .int .u8 (ck : Int), .string ⟨cs.toArray⟩, .string ⟨ct.toArray⟩, .string ⟨cu.toArray⟩, .int .u8 (cz : Int), .int .u8 (mc : Int), .string ⟨mt.toArray⟩]] w fun e w' => e = .returned (.tuple #[]) ∧ Blk w' g 45 (msL (Pt.move .cmd ⟨xk, xn, xr, xb, xs, xo, xv, wl, jl, ⟨da, db, dk, ds, dt, du, dz⟩, xc, xt⟩ ⟨mk, mn, mr, mb, ms, mo, mv, vl, il, ⟨ca, cb, ck, cs, ct, cu, cz⟩, mc, mt⟩) V I).toArray ∧ Outs [g] w w' := by
  refine sx_enter (n := 9) [.pointer (some ⟨g, 0, none⟩), .agg #[.int .u8 (mk : Int), .int .u64 (mn : Int), .int .u8 (mr : Int), .int .u64 (mb : Int), .int .u64 (ms : Int), .int .u8 (mo : Int), .string ⟨mv.toArray⟩, .slice A vl.length ka, .slice B il.length kb, .int .u8 (ca : Int), .int .u32 (cb : Int), .int .u8 (ck : Int), .string ⟨cs.toArray⟩, .string ⟨ct.toArray⟩, .string ⟨cu.toArray⟩, .int .u8 (cz : Int), .int .u8 (mc : Int), .string ⟨mt.toArray⟩]] Try.func70 rfl rfl rfl (Hp.one hg) ?_
  refine SxC.seq ?_
  refine SxC.region ?_
  refine SxL.new (cs := [.int .u8 (mk : Int), .int .u64 (mn : Int), .int .u8 (mr : Int), .int .u64 (mb : Int), .int .u64 (ms : Int), .int .u8 (mo : Int), .string ⟨mv.toArray⟩, .slice A vl.length ka, .slice B il.length kb, .int .u8 (ca : Int), .int .u32 (cb : Int), .int .u8 (ck : Int), .string ⟨cs.toArray⟩, .string ⟨ct.toArray⟩, .string ⟨cu.toArray⟩, .int .u8 (cz : Int), .int .u8 (mc : Int), .string ⟨mt.toArray⟩]) trivial rfl rfl (fun ρ w E H => ex_box E rfl rfl rfl) fun g1 hg1 => ?_
  refine SxL.nil ?_
  refine SxN.then_ ?_
  refine SxC.region ?_
  refine SxL.val (v := .pointer (some ⟨g, 0, none⟩)) trivial rfl rfl (fun ρ w E H => ex_move E rfl rfl) ?_
  refine SxL.val (v := .pointer (some ⟨g1, 9, none⟩)) trivial rfl rfl (fun ρ w E H => ex_field E rfl fa_palaver_api_Msg_8 rfl rfl) ?_
  refine SxL.val (v := .agg #[.int .u8 (ca : Int), .int .u32 (cb : Int), .int .u8 (ck : Int), .string ⟨cs.toArray⟩, .string ⟨ct.toArray⟩, .string ⟨cu.toArray⟩, .int .u8 (cz : Int)]) trivial rfl rfl (fun ρ w E H => ex_load (part := [.int .u8 (ca : Int), .int .u32 (cb : Int), .int .u8 (ck : Int), .string ⟨cs.toArray⟩, .string ⟨ct.toArray⟩, .string ⟨cu.toArray⟩, .int .u8 (cz : Int)]) E (H.get (i := 0) rfl) rfl rfl Try.underlying36 rfl sz_palaver_api_Cmd rfl rfl) ?_
  refine SxL.val (v := .pointer (some ⟨g, 0, none⟩)) trivial rfl rfl (fun ρ w E H => ex_nilCheck E rfl rfl) ?_
  refine SxL.val (v := .pointer (some ⟨g, 9, none⟩)) trivial rfl rfl (fun ρ w E H => ex_field E rfl fa_palaver_api_Msg_8 rfl rfl) ?_
  refine SxL.store (i := 1) trivial rfl rfl rfl rfl rfl sz_palaver_api_Cmd rfl rfl rfl ?_
  refine SxL.nil ?_
  refine SxN.done (.tuple #[]) (fun a w K H => res0 rfl) (fun w H => ?_)
  exact ⟨rfl, H.get (i := 1) rfl, H.toOuts _ ⟨(fun g hg => by rw [List.mem_singleton.1 hg]; exact .inr hg1), (fun g hg => by rw [List.mem_singleton.1 hg]; exact .inl (by simp)), trivial⟩⟩

set_option maxRecDepth 100000 in
set_option maxHeartbeats 4000000 in
theorem move_name (g xk xn xr xb xs xo da db dk dz xc : Nat) (xv ds dt du xt : List UInt8) (wl : List Vo) (jl : List Im) (V I : Value)(mk mn mr mb ms mo ca cb ck cz mc : Nat) (mv cs ct cu mt : List UInt8) (vl : List Vo) (il : List Im) (A B : Option Addr) (ka kb : Nat) (w : World) (hg : Blk w g 45 (msL ⟨xk, xn, xr, xb, xs, xo, xv, wl, jl, ⟨da, db, dk, ds, dt, du, dz⟩, xc, xt⟩ V I).toArray) : Calls Try.prog 74 #[.pointer (some ⟨g, 0, none⟩), .agg #[.int .u8 (mk : Int), .int .u64 (mn : Int), .int .u8 (mr : Int), .int .u64 (mb : Int), .int .u64 (ms : Int), .int .u8 (mo : Int), .string ⟨mv.toArray⟩, .slice A vl.length ka, .slice B il.length kb, .int .u8 (ca : Int), .int .u32 (cb : Int), .int .u8 (ck : Int), .string ⟨cs.toArray⟩, .string ⟨ct.toArray⟩, .string ⟨cu.toArray⟩, .int .u8 (cz : Int), .int .u8 (mc : Int), .string ⟨mt.toArray⟩]] w fun e w' => e = .returned (.tuple #[]) ∧ Blk w' g 45 (msL (Pt.move .name ⟨xk, xn, xr, xb, xs, xo, xv, wl, jl, ⟨da, db, dk, ds, dt, du, dz⟩, xc, xt⟩ ⟨mk, mn, mr, mb, ms, mo, mv, vl, il, ⟨ca, cb, ck, cs, ct, cu, cz⟩, mc, mt⟩) V I).toArray ∧ Outs [g] w w' := by
  refine sx_enter (n := 18) [.pointer (some ⟨g, 0, none⟩), .agg #[.int .u8 (mk : Int), .int .u64 (mn : Int), .int .u8 (mr : Int), .int .u64 (mb : Int), .int .u64 (ms : Int), .int .u8 (mo : Int), .string ⟨mv.toArray⟩, .slice A vl.length ka, .slice B il.length kb, .int .u8 (ca : Int), .int .u32 (cb : Int), .int .u8 (ck : Int), .string ⟨cs.toArray⟩, .string ⟨ct.toArray⟩, .string ⟨cu.toArray⟩, .int .u8 (cz : Int), .int .u8 (mc : Int), .string ⟨mt.toArray⟩]] Try.func74 rfl rfl rfl (Hp.one hg) ?_
  refine SxC.seq ?_
  refine SxC.region ?_
  refine SxL.new (cs := [.int .u8 (mk : Int), .int .u64 (mn : Int), .int .u8 (mr : Int), .int .u64 (mb : Int), .int .u64 (ms : Int), .int .u8 (mo : Int), .string ⟨mv.toArray⟩, .slice A vl.length ka, .slice B il.length kb, .int .u8 (ca : Int), .int .u32 (cb : Int), .int .u8 (ck : Int), .string ⟨cs.toArray⟩, .string ⟨ct.toArray⟩, .string ⟨cu.toArray⟩, .int .u8 (cz : Int), .int .u8 (mc : Int), .string ⟨mt.toArray⟩]) trivial rfl rfl (fun ρ w E H => ex_box E rfl rfl rfl) fun g1 hg1 => ?_
  refine SxL.nil ?_
  refine SxN.then_ ?_
  refine SxC.drawnK [g] [0] (by kernel_rfl) rfl ⟨(fun g hg => by rw [List.mem_singleton.1 hg]; exact .inr hg1), (fun g hg => by rw [List.mem_singleton.1 hg]; exact .inl (by simp)), trivial⟩ ?_
  refine SxA.take (i := 0) (v := .pointer (some ⟨g, 0, none⟩)) rfl (by kernel_rfl) (by kernel_rfl) (by kernel_rfl) rfl rfl (fun _ _ _ h => h) trivial (fun ρ w E H => ex_move E rfl rfl) ?_
  refine SxA.take (i := 1) (v := .pointer (some ⟨g, 0, none⟩)) rfl (by kernel_rfl) (by kernel_rfl) (by kernel_rfl) rfl rfl (fun _ _ _ h => h) trivial (fun ρ w E H => ex_move E rfl rfl) ?_
  refine SxA.take (i := 2) (v := .pointer (some ⟨g1, 9, none⟩)) rfl (by kernel_rfl) (by kernel_rfl) (by kernel_rfl) rfl rfl (fun _ _ _ h => h) trivial (fun ρ w E H => ex_field E rfl fa_palaver_api_Msg_8 rfl rfl) ?_
  refine SxA.take (i := 3) (v := .pointer (some ⟨g1, 9, none⟩)) rfl (by kernel_rfl) (by kernel_rfl) (by kernel_rfl) rfl rfl (fun _ _ _ h => h) trivial (fun ρ w E H => ex_field E rfl fa_palaver_api_Cmd_0 rfl rfl) ?_
  refine SxA.take (i := 4) (v := .int .u8 (ca : Int)) rfl (by kernel_rfl) (by kernel_rfl) (by kernel_rfl) rfl rfl (fun _ _ _ h => h) trivial (fun ρ w E H => ex_load1 E (H.get (i := 0) rfl) rfl rfl Try.underlying5 rfl rfl) ?_
  refine SxA.take (i := 5) (v := .pointer (some ⟨g1, 9, none⟩)) rfl (by kernel_rfl) (by kernel_rfl) (by kernel_rfl) rfl rfl (fun _ _ _ h => h) trivial (fun ρ w E H => ex_field E rfl fa_palaver_api_Msg_8 rfl rfl) ?_
  refine SxA.take (i := 6) (v := .pointer (some ⟨g1, 10, none⟩)) rfl (by kernel_rfl) (by kernel_rfl) (by kernel_rfl) rfl rfl (fun _ _ _ h => h) trivial (fun ρ w E H => ex_field E rfl fa_palaver_api_Cmd_1 rfl rfl) ?_
  refine SxA.take (i := 7) (v := .int .u32 (cb : Int)) rfl (by kernel_rfl) (by kernel_rfl) (by kernel_rfl) rfl rfl (fun _ _ _ h => h) trivial (fun ρ w E H => ex_load1 E (H.get (i := 0) rfl) rfl rfl Try.underlying34 rfl rfl) ?_
  refine SxA.take (i := 8) (v := .pointer (some ⟨g, 0, none⟩)) rfl (by kernel_rfl) (by kernel_rfl) (by kernel_rfl) rfl rfl (fun _ _ _ h => h) trivial (fun ρ w E H => ex_nilCheck E rfl rfl) ?_
  refine SxA.take (i := 9) (v := .pointer (some ⟨g, 9, none⟩)) rfl (by kernel_rfl) (by kernel_rfl) (by kernel_rfl) rfl rfl (fun _ _ _ h => h) trivial (fun ρ w E H => ex_field E rfl fa_palaver_api_Msg_8 rfl rfl) ?_
  refine SxA.take (i := 10) (v := .pointer (some ⟨g, 9, none⟩)) rfl (by kernel_rfl) (by kernel_rfl) (by kernel_rfl) rfl rfl (fun _ _ _ h => h) trivial (fun ρ w E H => ex_field E rfl fa_palaver_api_Cmd_0 rfl rfl) ?_
  refine SxA.ready [11] (by kernel_rfl) (by simp) ⟨?_, trivial⟩
  refine SxO.store (j := 1) rfl trivial rfl rfl rfl rfl rfl sz_uint8 rfl rfl rfl (fun w H => H.ks [g] [0] rfl ⟨(fun g hg => by rw [List.mem_singleton.1 hg]; exact .inr hg1), (fun g hg => by rw [List.mem_singleton.1 hg]; exact .inl (by simp)), trivial⟩) ?_
  refine SxA.take (i := 12) (v := .pointer (some ⟨g, 0, none⟩)) rfl (by kernel_rfl) (by kernel_rfl) (by kernel_rfl) rfl rfl (fun _ _ _ h => h) trivial (fun ρ w E H => ex_nilCheck E rfl rfl) ?_
  refine SxA.take (i := 13) (v := .pointer (some ⟨g, 9, none⟩)) rfl (by kernel_rfl) (by kernel_rfl) (by kernel_rfl) rfl rfl (fun _ _ _ h => h) trivial (fun ρ w E H => ex_field E rfl fa_palaver_api_Msg_8 rfl rfl) ?_
  refine SxA.take (i := 14) (v := .pointer (some ⟨g, 10, none⟩)) rfl (by kernel_rfl) (by kernel_rfl) (by kernel_rfl) rfl rfl (fun _ _ _ h => h) trivial (fun ρ w E H => ex_field E rfl fa_palaver_api_Cmd_1 rfl rfl) ?_
  refine SxA.ready [15] (by kernel_rfl) (by simp) ⟨?_, trivial⟩
  refine SxO.store (j := 1) rfl trivial rfl rfl rfl rfl rfl sz_uint32 rfl rfl rfl (fun w H => H.ks [g] [0] rfl ⟨(fun g hg => by rw [List.mem_singleton.1 hg]; exact .inr hg1), (fun g hg => by rw [List.mem_singleton.1 hg]; exact .inl (by simp)), trivial⟩) ?_
  refine SxA.done (by kernel_rfl) ?_
  refine SxN.done (.tuple #[]) (fun a w K H => res0 rfl) (fun w H => ?_)
  exact ⟨rfl, H.get (i := 1) rfl, H.toOuts _ ⟨(fun g hg => by rw [List.mem_singleton.1 hg]; exact .inr hg1), (fun g hg => by rw [List.mem_singleton.1 hg]; exact .inl (by simp)), trivial⟩⟩

set_option maxRecDepth 100000 in
set_option maxHeartbeats 4000000 in
theorem move_reply (g xk xn xr xb xs xo da db dk dz xc : Nat) (xv ds dt du xt : List UInt8) (wl : List Vo) (jl : List Im) (V I : Value)(mk mn mr mb ms mo ca cb ck cz mc : Nat) (mv cs ct cu mt : List UInt8) (vl : List Vo) (il : List Im) (A B : Option Addr) (ka kb : Nat) (w : World) (hg : Blk w g 45 (msL ⟨xk, xn, xr, xb, xs, xo, xv, wl, jl, ⟨da, db, dk, ds, dt, du, dz⟩, xc, xt⟩ V I).toArray) : Calls Try.prog 80 #[.pointer (some ⟨g, 0, none⟩), .agg #[.int .u8 (mk : Int), .int .u64 (mn : Int), .int .u8 (mr : Int), .int .u64 (mb : Int), .int .u64 (ms : Int), .int .u8 (mo : Int), .string ⟨mv.toArray⟩, .slice A vl.length ka, .slice B il.length kb, .int .u8 (ca : Int), .int .u32 (cb : Int), .int .u8 (ck : Int), .string ⟨cs.toArray⟩, .string ⟨ct.toArray⟩, .string ⟨cu.toArray⟩, .int .u8 (cz : Int), .int .u8 (mc : Int), .string ⟨mt.toArray⟩]] w fun e w' => e = .returned (.tuple #[]) ∧ Blk w' g 45 (msL (Pt.move .reply ⟨xk, xn, xr, xb, xs, xo, xv, wl, jl, ⟨da, db, dk, ds, dt, du, dz⟩, xc, xt⟩ ⟨mk, mn, mr, mb, ms, mo, mv, vl, il, ⟨ca, cb, ck, cs, ct, cu, cz⟩, mc, mt⟩) V I).toArray ∧ Outs [g] w w' := by
  refine sx_enter (n := 9) [.pointer (some ⟨g, 0, none⟩), .agg #[.int .u8 (mk : Int), .int .u64 (mn : Int), .int .u8 (mr : Int), .int .u64 (mb : Int), .int .u64 (ms : Int), .int .u8 (mo : Int), .string ⟨mv.toArray⟩, .slice A vl.length ka, .slice B il.length kb, .int .u8 (ca : Int), .int .u32 (cb : Int), .int .u8 (ck : Int), .string ⟨cs.toArray⟩, .string ⟨ct.toArray⟩, .string ⟨cu.toArray⟩, .int .u8 (cz : Int), .int .u8 (mc : Int), .string ⟨mt.toArray⟩]] Try.func80 rfl rfl rfl (Hp.one hg) ?_
  refine SxC.seq ?_
  refine SxC.region ?_
  refine SxL.new (cs := [.int .u8 (mk : Int), .int .u64 (mn : Int), .int .u8 (mr : Int), .int .u64 (mb : Int), .int .u64 (ms : Int), .int .u8 (mo : Int), .string ⟨mv.toArray⟩, .slice A vl.length ka, .slice B il.length kb, .int .u8 (ca : Int), .int .u32 (cb : Int), .int .u8 (ck : Int), .string ⟨cs.toArray⟩, .string ⟨ct.toArray⟩, .string ⟨cu.toArray⟩, .int .u8 (cz : Int), .int .u8 (mc : Int), .string ⟨mt.toArray⟩]) trivial rfl rfl (fun ρ w E H => ex_box E rfl rfl rfl) fun g1 hg1 => ?_
  refine SxL.nil ?_
  refine SxN.then_ ?_
  refine SxC.region ?_
  refine SxL.val (v := .pointer (some ⟨g, 0, none⟩)) trivial rfl rfl (fun ρ w E H => ex_move E rfl rfl) ?_
  refine SxL.val (v := .pointer (some ⟨g1, 16, none⟩)) trivial rfl rfl (fun ρ w E H => ex_field E rfl fa_palaver_api_Msg_9 rfl rfl) ?_
  refine SxL.val (v := .agg #[.int .u8 (mc : Int), .string ⟨mt.toArray⟩]) trivial rfl rfl (fun ρ w E H => ex_load (part := [.int .u8 (mc : Int), .string ⟨mt.toArray⟩]) E (H.get (i := 0) rfl) rfl rfl Try.underlying43 rfl sz_palaver_api_Reply rfl rfl) ?_
  refine SxL.val (v := .pointer (some ⟨g, 0, none⟩)) trivial rfl rfl (fun ρ w E H => ex_nilCheck E rfl rfl) ?_
  refine SxL.val (v := .pointer (some ⟨g, 16, none⟩)) trivial rfl rfl (fun ρ w E H => ex_field E rfl fa_palaver_api_Msg_9 rfl rfl) ?_
  refine SxL.store (i := 1) trivial rfl rfl rfl rfl rfl sz_palaver_api_Reply rfl rfl rfl ?_
  refine SxL.nil ?_
  refine SxN.done (.tuple #[]) (fun a w K H => res0 rfl) (fun w H => ?_)
  exact ⟨rfl, H.get (i := 1) rfl, H.toOuts _ ⟨(fun g hg => by rw [List.mem_singleton.1 hg]; exact .inr hg1), (fun g hg => by rw [List.mem_singleton.1 hg]; exact .inl (by simp)), trivial⟩⟩

set_option maxRecDepth 100000 in
set_option maxHeartbeats 4000000 in
theorem move_node (g xk xn xr xb xs xo da db dk dz xc : Nat) (xv ds dt du xt : List UInt8) (wl : List Vo) (jl : List Im) (V I : Value)(mk mn mr mb ms mo ca cb ck cz mc : Nat) (mv cs ct cu mt : List UInt8) (vl : List Vo) (il : List Im) (A B : Option Addr) (ka kb : Nat) (w : World) (hg : Blk w g 45 (msL ⟨xk, xn, xr, xb, xs, xo, xv, wl, jl, ⟨da, db, dk, ds, dt, du, dz⟩, xc, xt⟩ V I).toArray) : Calls Try.prog 84 #[.pointer (some ⟨g, 0, none⟩), .agg #[.int .u8 (mk : Int), .int .u64 (mn : Int), .int .u8 (mr : Int), .int .u64 (mb : Int), .int .u64 (ms : Int), .int .u8 (mo : Int), .string ⟨mv.toArray⟩, .slice A vl.length ka, .slice B il.length kb, .int .u8 (ca : Int), .int .u32 (cb : Int), .int .u8 (ck : Int), .string ⟨cs.toArray⟩, .string ⟨ct.toArray⟩, .string ⟨cu.toArray⟩, .int .u8 (cz : Int), .int .u8 (mc : Int), .string ⟨mt.toArray⟩]] w fun e w' => e = .returned (.tuple #[]) ∧ Blk w' g 45 (msL (Pt.move .node ⟨xk, xn, xr, xb, xs, xo, xv, wl, jl, ⟨da, db, dk, ds, dt, du, dz⟩, xc, xt⟩ ⟨mk, mn, mr, mb, ms, mo, mv, vl, il, ⟨ca, cb, ck, cs, ct, cu, cz⟩, mc, mt⟩) V I).toArray ∧ Outs [g] w w' := by
  refine sx_enter (n := 9) [.pointer (some ⟨g, 0, none⟩), .agg #[.int .u8 (mk : Int), .int .u64 (mn : Int), .int .u8 (mr : Int), .int .u64 (mb : Int), .int .u64 (ms : Int), .int .u8 (mo : Int), .string ⟨mv.toArray⟩, .slice A vl.length ka, .slice B il.length kb, .int .u8 (ca : Int), .int .u32 (cb : Int), .int .u8 (ck : Int), .string ⟨cs.toArray⟩, .string ⟨ct.toArray⟩, .string ⟨cu.toArray⟩, .int .u8 (cz : Int), .int .u8 (mc : Int), .string ⟨mt.toArray⟩]] Try.func84 rfl rfl rfl (Hp.one hg) ?_
  refine SxC.seq ?_
  refine SxC.region ?_
  refine SxL.new (cs := [.int .u8 (mk : Int), .int .u64 (mn : Int), .int .u8 (mr : Int), .int .u64 (mb : Int), .int .u64 (ms : Int), .int .u8 (mo : Int), .string ⟨mv.toArray⟩, .slice A vl.length ka, .slice B il.length kb, .int .u8 (ca : Int), .int .u32 (cb : Int), .int .u8 (ck : Int), .string ⟨cs.toArray⟩, .string ⟨ct.toArray⟩, .string ⟨cu.toArray⟩, .int .u8 (cz : Int), .int .u8 (mc : Int), .string ⟨mt.toArray⟩]) trivial rfl rfl (fun ρ w E H => ex_box E rfl rfl rfl) fun g1 hg1 => ?_
  refine SxL.nil ?_
  refine SxN.then_ ?_
  refine SxC.region ?_
  refine SxL.val (v := .pointer (some ⟨g, 0, none⟩)) trivial rfl rfl (fun ρ w E H => ex_move E rfl rfl) ?_
  refine SxL.val (v := .pointer (some ⟨g1, 5, none⟩)) trivial rfl rfl (fun ρ w E H => ex_field E rfl fa_palaver_api_Msg_4 rfl rfl) ?_
  refine SxL.val (v := .int .u8 (mo : Int)) trivial rfl rfl (fun ρ w E H => ex_load1 E (H.get (i := 0) rfl) rfl rfl Try.underlying5 rfl rfl) ?_
  refine SxL.val (v := .pointer (some ⟨g, 0, none⟩)) trivial rfl rfl (fun ρ w E H => ex_nilCheck E rfl rfl) ?_
  refine SxL.val (v := .pointer (some ⟨g, 5, none⟩)) trivial rfl rfl (fun ρ w E H => ex_field E rfl fa_palaver_api_Msg_4 rfl rfl) ?_
  refine SxL.store (i := 1) trivial rfl rfl rfl rfl rfl sz_uint8 rfl rfl rfl ?_
  refine SxL.nil ?_
  refine SxN.done (.tuple #[]) (fun a w K H => res0 rfl) (fun w H => ?_)
  exact ⟨rfl, H.get (i := 1) rfl, H.toOuts _ ⟨(fun g hg => by rw [List.mem_singleton.1 hg]; exact .inr hg1), (fun g hg => by rw [List.mem_singleton.1 hg]; exact .inl (by simp)), trivial⟩⟩

set_option maxRecDepth 100000 in
set_option maxHeartbeats 4000000 in
theorem move_turn (g xk xn xr xb xs xo da db dk dz xc : Nat) (xv ds dt du xt : List UInt8) (wl : List Vo) (jl : List Im) (V I : Value)(mk mn mr mb ms mo ca cb ck cz mc : Nat) (mv cs ct cu mt : List UInt8) (vl : List Vo) (il : List Im) (A B : Option Addr) (ka kb : Nat) (w : World) (hg : Blk w g 45 (msL ⟨xk, xn, xr, xb, xs, xo, xv, wl, jl, ⟨da, db, dk, ds, dt, du, dz⟩, xc, xt⟩ V I).toArray) : Calls Try.prog 90 #[.pointer (some ⟨g, 0, none⟩), .agg #[.int .u8 (mk : Int), .int .u64 (mn : Int), .int .u8 (mr : Int), .int .u64 (mb : Int), .int .u64 (ms : Int), .int .u8 (mo : Int), .string ⟨mv.toArray⟩, .slice A vl.length ka, .slice B il.length kb, .int .u8 (ca : Int), .int .u32 (cb : Int), .int .u8 (ck : Int), .string ⟨cs.toArray⟩, .string ⟨ct.toArray⟩, .string ⟨cu.toArray⟩, .int .u8 (cz : Int), .int .u8 (mc : Int), .string ⟨mt.toArray⟩]] w fun e w' => e = .returned (.tuple #[]) ∧ Blk w' g 45 (msL (Pt.move .turn ⟨xk, xn, xr, xb, xs, xo, xv, wl, jl, ⟨da, db, dk, ds, dt, du, dz⟩, xc, xt⟩ ⟨mk, mn, mr, mb, ms, mo, mv, vl, il, ⟨ca, cb, ck, cs, ct, cu, cz⟩, mc, mt⟩) V I).toArray ∧ Outs [g] w w' := by
  refine sx_enter (n := 9) [.pointer (some ⟨g, 0, none⟩), .agg #[.int .u8 (mk : Int), .int .u64 (mn : Int), .int .u8 (mr : Int), .int .u64 (mb : Int), .int .u64 (ms : Int), .int .u8 (mo : Int), .string ⟨mv.toArray⟩, .slice A vl.length ka, .slice B il.length kb, .int .u8 (ca : Int), .int .u32 (cb : Int), .int .u8 (ck : Int), .string ⟨cs.toArray⟩, .string ⟨ct.toArray⟩, .string ⟨cu.toArray⟩, .int .u8 (cz : Int), .int .u8 (mc : Int), .string ⟨mt.toArray⟩]] Try.func90 rfl rfl rfl (Hp.one hg) ?_
  refine SxC.seq ?_
  refine SxC.region ?_
  refine SxL.new (cs := [.int .u8 (mk : Int), .int .u64 (mn : Int), .int .u8 (mr : Int), .int .u64 (mb : Int), .int .u64 (ms : Int), .int .u8 (mo : Int), .string ⟨mv.toArray⟩, .slice A vl.length ka, .slice B il.length kb, .int .u8 (ca : Int), .int .u32 (cb : Int), .int .u8 (ck : Int), .string ⟨cs.toArray⟩, .string ⟨ct.toArray⟩, .string ⟨cu.toArray⟩, .int .u8 (cz : Int), .int .u8 (mc : Int), .string ⟨mt.toArray⟩]) trivial rfl rfl (fun ρ w E H => ex_box E rfl rfl rfl) fun g1 hg1 => ?_
  refine SxL.nil ?_
  refine SxN.then_ ?_
  refine SxC.region ?_
  refine SxL.val (v := .pointer (some ⟨g, 0, none⟩)) trivial rfl rfl (fun ρ w E H => ex_move E rfl rfl) ?_
  refine SxL.val (v := .pointer (some ⟨g1, 1, none⟩)) trivial rfl rfl (fun ρ w E H => ex_field E rfl fa_palaver_api_Msg_1 rfl rfl) ?_
  refine SxL.val (v := .agg #[.int .u64 (mn : Int), .int .u8 (mr : Int)]) trivial rfl rfl (fun ρ w E H => ex_load (part := [.int .u64 (mn : Int), .int .u8 (mr : Int)]) E (H.get (i := 0) rfl) rfl rfl Try.underlying39 rfl sz_palaver_api_Ballot rfl rfl) ?_
  refine SxL.val (v := .pointer (some ⟨g, 0, none⟩)) trivial rfl rfl (fun ρ w E H => ex_nilCheck E rfl rfl) ?_
  refine SxL.val (v := .pointer (some ⟨g, 1, none⟩)) trivial rfl rfl (fun ρ w E H => ex_field E rfl fa_palaver_api_Msg_1 rfl rfl) ?_
  refine SxL.store (i := 1) trivial rfl rfl rfl rfl rfl sz_palaver_api_Ballot rfl rfl rfl ?_
  refine SxL.nil ?_
  refine SxN.done (.tuple #[]) (fun a w K H => res0 rfl) (fun w H => ?_)
  exact ⟨rfl, H.get (i := 1) rfl, H.toOuts _ ⟨(fun g hg => by rw [List.mem_singleton.1 hg]; exact .inr hg1), (fun g hg => by rw [List.mem_singleton.1 hg]; exact .inl (by simp)), trivial⟩⟩

set_option maxRecDepth 100000 in
set_option maxHeartbeats 4000000 in
theorem move_floor (g xk xn xr xb xs xo da db dk dz xc : Nat) (xv ds dt du xt : List UInt8) (wl : List Vo) (jl : List Im) (V I : Value)(mk mn mr mb ms mo ca cb ck cz mc : Nat) (mv cs ct cu mt : List UInt8) (vl : List Vo) (il : List Im) (A B : Option Addr) (ka kb : Nat) (w : World) (hg : Blk w g 45 (msL ⟨xk, xn, xr, xb, xs, xo, xv, wl, jl, ⟨da, db, dk, ds, dt, du, dz⟩, xc, xt⟩ V I).toArray) : Calls Try.prog 100 #[.pointer (some ⟨g, 0, none⟩), .agg #[.int .u8 (mk : Int), .int .u64 (mn : Int), .int .u8 (mr : Int), .int .u64 (mb : Int), .int .u64 (ms : Int), .int .u8 (mo : Int), .string ⟨mv.toArray⟩, .slice A vl.length ka, .slice B il.length kb, .int .u8 (ca : Int), .int .u32 (cb : Int), .int .u8 (ck : Int), .string ⟨cs.toArray⟩, .string ⟨ct.toArray⟩, .string ⟨cu.toArray⟩, .int .u8 (cz : Int), .int .u8 (mc : Int), .string ⟨mt.toArray⟩]] w fun e w' => e = .returned (.tuple #[]) ∧ Blk w' g 45 (msL (Pt.move .floor ⟨xk, xn, xr, xb, xs, xo, xv, wl, jl, ⟨da, db, dk, ds, dt, du, dz⟩, xc, xt⟩ ⟨mk, mn, mr, mb, ms, mo, mv, vl, il, ⟨ca, cb, ck, cs, ct, cu, cz⟩, mc, mt⟩) V I).toArray ∧ Outs [g] w w' := by
  refine sx_enter (n := 9) [.pointer (some ⟨g, 0, none⟩), .agg #[.int .u8 (mk : Int), .int .u64 (mn : Int), .int .u8 (mr : Int), .int .u64 (mb : Int), .int .u64 (ms : Int), .int .u8 (mo : Int), .string ⟨mv.toArray⟩, .slice A vl.length ka, .slice B il.length kb, .int .u8 (ca : Int), .int .u32 (cb : Int), .int .u8 (ck : Int), .string ⟨cs.toArray⟩, .string ⟨ct.toArray⟩, .string ⟨cu.toArray⟩, .int .u8 (cz : Int), .int .u8 (mc : Int), .string ⟨mt.toArray⟩]] Try.func100 rfl rfl rfl (Hp.one hg) ?_
  refine SxC.seq ?_
  refine SxC.region ?_
  refine SxL.new (cs := [.int .u8 (mk : Int), .int .u64 (mn : Int), .int .u8 (mr : Int), .int .u64 (mb : Int), .int .u64 (ms : Int), .int .u8 (mo : Int), .string ⟨mv.toArray⟩, .slice A vl.length ka, .slice B il.length kb, .int .u8 (ca : Int), .int .u32 (cb : Int), .int .u8 (ck : Int), .string ⟨cs.toArray⟩, .string ⟨ct.toArray⟩, .string ⟨cu.toArray⟩, .int .u8 (cz : Int), .int .u8 (mc : Int), .string ⟨mt.toArray⟩]) trivial rfl rfl (fun ρ w E H => ex_box E rfl rfl rfl) fun g1 hg1 => ?_
  refine SxL.nil ?_
  refine SxN.then_ ?_
  refine SxC.region ?_
  refine SxL.val (v := .pointer (some ⟨g, 0, none⟩)) trivial rfl rfl (fun ρ w E H => ex_move E rfl rfl) ?_
  refine SxL.val (v := .pointer (some ⟨g1, 3, none⟩)) trivial rfl rfl (fun ρ w E H => ex_field E rfl fa_palaver_api_Msg_2 rfl rfl) ?_
  refine SxL.val (v := .int .u64 (mb : Int)) trivial rfl rfl (fun ρ w E H => ex_load1 E (H.get (i := 0) rfl) rfl rfl Try.underlying37 rfl rfl) ?_
  refine SxL.val (v := .pointer (some ⟨g, 0, none⟩)) trivial rfl rfl (fun ρ w E H => ex_nilCheck E rfl rfl) ?_
  refine SxL.val (v := .pointer (some ⟨g, 3, none⟩)) trivial rfl rfl (fun ρ w E H => ex_field E rfl fa_palaver_api_Msg_2 rfl rfl) ?_
  refine SxL.store (i := 1) trivial rfl rfl rfl rfl rfl sz_uint64 rfl rfl rfl ?_
  refine SxL.nil ?_
  refine SxN.done (.tuple #[]) (fun a w K H => res0 rfl) (fun w H => ?_)
  exact ⟨rfl, H.get (i := 1) rfl, H.toOuts _ ⟨(fun g hg => by rw [List.mem_singleton.1 hg]; exact .inr hg1), (fun g hg => by rw [List.mem_singleton.1 hg]; exact .inl (by simp)), trivial⟩⟩

set_option maxRecDepth 100000 in
set_option maxHeartbeats 4000000 in
theorem move_slot (g xk xn xr xb xs xo da db dk dz xc : Nat) (xv ds dt du xt : List UInt8) (wl : List Vo) (jl : List Im) (V I : Value)(mk mn mr mb ms mo ca cb ck cz mc : Nat) (mv cs ct cu mt : List UInt8) (vl : List Vo) (il : List Im) (least : Nat) (A B : Option Addr) (ka kb : Nat) (w : World) (hg : Blk w g 45 (msL ⟨xk, xn, xr, xb, xs, xo, xv, wl, jl, ⟨da, db, dk, ds, dt, du, dz⟩, xc, xt⟩ V I).toArray) : Calls Try.prog 96 #[.pointer (some ⟨g, 0, none⟩), .agg #[.int .u8 (mk : Int), .int .u64 (mn : Int), .int .u8 (mr : Int), .int .u64 (mb : Int), .int .u64 (ms : Int), .int .u8 (mo : Int), .string ⟨mv.toArray⟩, .slice A vl.length ka, .slice B il.length kb, .int .u8 (ca : Int), .int .u32 (cb : Int), .int .u8 (ck : Int), .string ⟨cs.toArray⟩, .string ⟨ct.toArray⟩, .string ⟨cu.toArray⟩, .int .u8 (cz : Int), .int .u8 (mc : Int), .string ⟨mt.toArray⟩]] w fun e w' => e = .returned (.tuple #[]) ∧ Blk w' g 45 (msL (Pt.move (.slot least) ⟨xk, xn, xr, xb, xs, xo, xv, wl, jl, ⟨da, db, dk, ds, dt, du, dz⟩, xc, xt⟩ ⟨mk, mn, mr, mb, ms, mo, mv, vl, il, ⟨ca, cb, ck, cs, ct, cu, cz⟩, mc, mt⟩) V I).toArray ∧ Outs [g] w w' := by
  refine sx_enter (n := 9) [.pointer (some ⟨g, 0, none⟩), .agg #[.int .u8 (mk : Int), .int .u64 (mn : Int), .int .u8 (mr : Int), .int .u64 (mb : Int), .int .u64 (ms : Int), .int .u8 (mo : Int), .string ⟨mv.toArray⟩, .slice A vl.length ka, .slice B il.length kb, .int .u8 (ca : Int), .int .u32 (cb : Int), .int .u8 (ck : Int), .string ⟨cs.toArray⟩, .string ⟨ct.toArray⟩, .string ⟨cu.toArray⟩, .int .u8 (cz : Int), .int .u8 (mc : Int), .string ⟨mt.toArray⟩]] Try.func96 rfl rfl rfl (Hp.one hg) ?_
  refine SxC.seq ?_
  refine SxC.region ?_
  refine SxL.new (cs := [.int .u8 (mk : Int), .int .u64 (mn : Int), .int .u8 (mr : Int), .int .u64 (mb : Int), .int .u64 (ms : Int), .int .u8 (mo : Int), .string ⟨mv.toArray⟩, .slice A vl.length ka, .slice B il.length kb, .int .u8 (ca : Int), .int .u32 (cb : Int), .int .u8 (ck : Int), .string ⟨cs.toArray⟩, .string ⟨ct.toArray⟩, .string ⟨cu.toArray⟩, .int .u8 (cz : Int), .int .u8 (mc : Int), .string ⟨mt.toArray⟩]) trivial rfl rfl (fun ρ w E H => ex_box E rfl rfl rfl) fun g1 hg1 => ?_
  refine SxL.nil ?_
  refine SxN.then_ ?_
  refine SxC.region ?_
  refine SxL.val (v := .pointer (some ⟨g, 0, none⟩)) trivial rfl rfl (fun ρ w E H => ex_move E rfl rfl) ?_
  refine SxL.val (v := .pointer (some ⟨g1, 4, none⟩)) trivial rfl rfl (fun ρ w E H => ex_field E rfl fa_palaver_api_Msg_3 rfl rfl) ?_
  refine SxL.val (v := .int .u64 (ms : Int)) trivial rfl rfl (fun ρ w E H => ex_load1 E (H.get (i := 0) rfl) rfl rfl Try.underlying37 rfl rfl) ?_
  refine SxL.val (v := .pointer (some ⟨g, 0, none⟩)) trivial rfl rfl (fun ρ w E H => ex_nilCheck E rfl rfl) ?_
  refine SxL.val (v := .pointer (some ⟨g, 4, none⟩)) trivial rfl rfl (fun ρ w E H => ex_field E rfl fa_palaver_api_Msg_3 rfl rfl) ?_
  refine SxL.store (i := 1) trivial rfl rfl rfl rfl rfl sz_uint64 rfl rfl rfl ?_
  refine SxL.nil ?_
  refine SxN.done (.tuple #[]) (fun a w K H => res0 rfl) (fun w H => ?_)
  exact ⟨rfl, H.get (i := 1) rfl, H.toOuts _ ⟨(fun g hg => by rw [List.mem_singleton.1 hg]; exact .inr hg1), (fun g hg => by rw [List.mem_singleton.1 hg]; exact .inl (by simp)), trivial⟩⟩

set_option maxRecDepth 100000 in
set_option maxHeartbeats 4000000 in
theorem move_value (g xk xn xr xb xs xo da db dk dz xc : Nat) (xv ds dt du xt : List UInt8) (wl : List Vo) (jl : List Im) (V I : Value)(mk mn mr mb ms mo ca cb ck cz mc : Nat) (mv cs ct cu mt : List UInt8) (vl : List Vo) (il : List Im) (A B : Option Addr) (ka kb : Nat) (w : World) (hg : Blk w g 45 (msL ⟨xk, xn, xr, xb, xs, xo, xv, wl, jl, ⟨da, db, dk, ds, dt, du, dz⟩, xc, xt⟩ V I).toArray) : Calls Try.prog 109 #[.pointer (some ⟨g, 0, none⟩), .agg #[.int .u8 (mk : Int), .int .u64 (mn : Int), .int .u8 (mr : Int), .int .u64 (mb : Int), .int .u64 (ms : Int), .int .u8 (mo : Int), .string ⟨mv.toArray⟩, .slice A vl.length ka, .slice B il.length kb, .int .u8 (ca : Int), .int .u32 (cb : Int), .int .u8 (ck : Int), .string ⟨cs.toArray⟩, .string ⟨ct.toArray⟩, .string ⟨cu.toArray⟩, .int .u8 (cz : Int), .int .u8 (mc : Int), .string ⟨mt.toArray⟩]] w fun e w' => e = .returned (.tuple #[]) ∧ Blk w' g 45 (msL (Pt.move .value ⟨xk, xn, xr, xb, xs, xo, xv, wl, jl, ⟨da, db, dk, ds, dt, du, dz⟩, xc, xt⟩ ⟨mk, mn, mr, mb, ms, mo, mv, vl, il, ⟨ca, cb, ck, cs, ct, cu, cz⟩, mc, mt⟩) V I).toArray ∧ Outs [g] w w' := by
  refine sx_enter (n := 9) [.pointer (some ⟨g, 0, none⟩), .agg #[.int .u8 (mk : Int), .int .u64 (mn : Int), .int .u8 (mr : Int), .int .u64 (mb : Int), .int .u64 (ms : Int), .int .u8 (mo : Int), .string ⟨mv.toArray⟩, .slice A vl.length ka, .slice B il.length kb, .int .u8 (ca : Int), .int .u32 (cb : Int), .int .u8 (ck : Int), .string ⟨cs.toArray⟩, .string ⟨ct.toArray⟩, .string ⟨cu.toArray⟩, .int .u8 (cz : Int), .int .u8 (mc : Int), .string ⟨mt.toArray⟩]] Try.func109 rfl rfl rfl (Hp.one hg) ?_
  refine SxC.seq ?_
  refine SxC.region ?_
  refine SxL.new (cs := [.int .u8 (mk : Int), .int .u64 (mn : Int), .int .u8 (mr : Int), .int .u64 (mb : Int), .int .u64 (ms : Int), .int .u8 (mo : Int), .string ⟨mv.toArray⟩, .slice A vl.length ka, .slice B il.length kb, .int .u8 (ca : Int), .int .u32 (cb : Int), .int .u8 (ck : Int), .string ⟨cs.toArray⟩, .string ⟨ct.toArray⟩, .string ⟨cu.toArray⟩, .int .u8 (cz : Int), .int .u8 (mc : Int), .string ⟨mt.toArray⟩]) trivial rfl rfl (fun ρ w E H => ex_box E rfl rfl rfl) fun g1 hg1 => ?_
  refine SxL.nil ?_
  refine SxN.then_ ?_
  refine SxC.region ?_
  refine SxL.val (v := .pointer (some ⟨g, 0, none⟩)) trivial rfl rfl (fun ρ w E H => ex_move E rfl rfl) ?_
  refine SxL.val (v := .pointer (some ⟨g1, 6, none⟩)) trivial rfl rfl (fun ρ w E H => ex_field E rfl fa_palaver_api_Msg_5 rfl rfl) ?_
  refine SxL.val (v := .string ⟨mv.toArray⟩) trivial rfl rfl (fun ρ w E H => ex_load1 E (H.get (i := 0) rfl) rfl rfl Try.underlying9 rfl rfl) ?_
  refine SxL.val (v := .pointer (some ⟨g, 0, none⟩)) trivial rfl rfl (fun ρ w E H => ex_nilCheck E rfl rfl) ?_
  refine SxL.val (v := .pointer (some ⟨g, 6, none⟩)) trivial rfl rfl (fun ρ w E H => ex_field E rfl fa_palaver_api_Msg_5 rfl rfl) ?_
  refine SxL.store (i := 1) trivial rfl rfl rfl rfl rfl sz_string rfl rfl rfl ?_
  refine SxL.nil ?_
  refine SxN.done (.tuple #[]) (fun a w K H => res0 rfl) (fun w H => ?_)
  exact ⟨rfl, H.get (i := 1) rfl, H.toOuts _ ⟨(fun g hg => by rw [List.mem_singleton.1 hg]; exact .inr hg1), (fun g hg => by rw [List.mem_singleton.1 hg]; exact .inl (by simp)), trivial⟩⟩

set_option maxRecDepth 100000 in
set_option maxHeartbeats 4000000 in
theorem move_votes (g xk xn xr xb xs xo da db dk dz xc : Nat) (xv ds dt du xt : List UInt8) (wl : List Vo) (jl : List Im) (V I : Value)(mk mn mr mb ms mo ca cb ck cz mc : Nat) (mv cs ct cu mt : List UInt8) (vl : List Vo) (il : List Im) (A B : Option Addr) (ka kb : Nat) (w : World) (hg : Blk w g 45 (msL ⟨xk, xn, xr, xb, xs, xo, xv, wl, jl, ⟨da, db, dk, ds, dt, du, dz⟩, xc, xt⟩ V I).toArray) (hv : Rows w A 4 voL vl) (hne : vl ≠ [] → ∀ ad, A = some ad → ad.block ≠ g) (hlen : vl.length ≤ 1000000) : Calls Try.prog 104 #[.pointer (some ⟨g, 0, none⟩), .agg #[.int .u8 (mk : Int), .int .u64 (mn : Int), .int .u8 (mr : Int), .int .u64 (mb : Int), .int .u64 (ms : Int), .int .u8 (mo : Int), .string ⟨mv.toArray⟩, .slice A vl.length ka, .slice B il.length kb, .int .u8 (ca : Int), .int .u32 (cb : Int), .int .u8 (ck : Int), .string ⟨cs.toArray⟩, .string ⟨ct.toArray⟩, .string ⟨cu.toArray⟩, .int .u8 (cz : Int), .int .u8 (mc : Int), .string ⟨mt.toArray⟩]] w fun e w' => ∃ V', e = .returned (.tuple #[]) ∧ Blk w' g 45 (msL (Pt.move .votes ⟨xk, xn, xr, xb, xs, xo, xv, wl, jl, ⟨da, db, dk, ds, dt, du, dz⟩, xc, xt⟩ ⟨mk, mn, mr, mb, ms, mo, mv, vl, il, ⟨ca, cb, ck, cs, ct, cu, cz⟩, mc, mt⟩) V' I).toArray ∧ w'.ownsRow w.heap.size 76 4 V' vl.length (vl.flatMap voL) ∧ Outs [g] w w' := by
  refine sx_enter (n := 10) [.pointer (some ⟨g, 0, none⟩), .agg #[.int .u8 (mk : Int), .int .u64 (mn : Int), .int .u8 (mr : Int), .int .u64 (mb : Int), .int .u64 (ms : Int), .int .u8 (mo : Int), .string ⟨mv.toArray⟩, .slice A vl.length ka, .slice B il.length kb, .int .u8 (ca : Int), .int .u32 (cb : Int), .int .u8 (ck : Int), .string ⟨cs.toArray⟩, .string ⟨ct.toArray⟩, .string ⟨cu.toArray⟩, .int .u8 (cz : Int), .int .u8 (mc : Int), .string ⟨mt.toArray⟩]] Try.func104 rfl rfl rfl (Hp.one hg) ?_
  refine SxC.seq ?_
  refine SxC.region ?_
  refine SxL.new (cs := [.int .u8 (mk : Int), .int .u64 (mn : Int), .int .u8 (mr : Int), .int .u64 (mb : Int), .int .u64 (ms : Int), .int .u8 (mo : Int), .string ⟨mv.toArray⟩, .slice A vl.length ka, .slice B il.length kb, .int .u8 (ca : Int), .int .u32 (cb : Int), .int .u8 (ck : Int), .string ⟨cs.toArray⟩, .string ⟨ct.toArray⟩, .string ⟨cu.toArray⟩, .int .u8 (cz : Int), .int .u8 (mc : Int), .string ⟨mt.toArray⟩]) trivial rfl rfl (fun ρ w E H => ex_box E rfl rfl rfl) fun g1 hg1 => ?_
  refine SxL.nil ?_
  refine SxN.then_ ?_
  refine SxC.region ?_
  refine SxL.val (v := .pointer (some ⟨g, 0, none⟩)) trivial rfl rfl (fun ρ w E H => ex_move E rfl rfl) ?_
  refine SxL.val (v := .pointer (some ⟨g1, 7, none⟩)) trivial rfl rfl (fun ρ w E H => ex_field E rfl fa_palaver_api_Msg_6 rfl rfl) ?_
  refine SxL.val (v := .slice A vl.length ka) trivial rfl rfl (fun ρ w E H => ex_load1 E (H.get (i := 0) rfl) rfl rfl Try.underlying40 rfl rfl) ?_
  refine SxL.call (σ := Value) (fun s => s) (fun s => OwnIn w [] s) (fun s => _) trivial rfl rfl (fun ρ w E => ex_call E en_slices_Clone_palaver_api_Vote_palaver_api_Vote rfl rfl) (callOwn (fun w H => cloneV vl A ka w (hv.outs (H.toOuts [g] ⟨(fun g hg => by rw [List.mem_singleton.1 hg]; exact .inr hg1), (fun g hg => by rw [List.mem_singleton.1 hg]; exact .inl (by simp)), trivial⟩) (fun hn ad h hm => hne hn ad h (List.mem_singleton.1 hm))) hlen)) fun v7 hv7 => ?_
  refine SxL.with (fun W H => own_is_slice (H.get (i := 0) rfl)) ?_
  rintro ⟨A7, k7, rfl⟩
  refine SxL.val (v := .pointer (some ⟨g, 0, none⟩)) trivial rfl rfl (fun ρ w E H => ex_nilCheck E rfl rfl) ?_
  refine SxL.val (v := .pointer (some ⟨g, 7, none⟩)) trivial rfl rfl (fun ρ w E H => ex_field E rfl fa_palaver_api_Msg_6 rfl rfl) ?_
  refine SxL.store (i := 2) trivial rfl rfl rfl rfl rfl sz_api_Vote rfl rfl rfl ?_
  refine SxL.nil ?_
  refine SxN.done (.tuple #[]) (fun a w K H => res0 rfl) (fun w H => ?_)
  exact ⟨_, rfl, H.get (i := 2) rfl, H.get (i := 0) rfl, H.toOuts _ ⟨(fun g hg => .inr (hv7.fresh g hg)), (fun g hg => by rw [List.mem_singleton.1 hg]; exact .inr hg1), (fun g hg => by rw [List.mem_singleton.1 hg]; exact .inl (by simp)), trivial⟩⟩

set_option maxRecDepth 100000 in
set_option maxHeartbeats 4000000 in
theorem move_items (g xk xn xr xb xs xo da db dk dz xc : Nat) (xv ds dt du xt : List UInt8) (wl : List Vo) (jl : List Im) (V I : Value)(mk mn mr mb ms mo ca cb ck cz mc : Nat) (mv cs ct cu mt : List UInt8) (vl : List Vo) (il : List Im) (A B : Option Addr) (ka kb : Nat) (w : World) (hg : Blk w g 45 (msL ⟨xk, xn, xr, xb, xs, xo, xv, wl, jl, ⟨da, db, dk, ds, dt, du, dz⟩, xc, xt⟩ V I).toArray) (hi : Rows w B 2 imL il) (hne : il ≠ [] → ∀ ad, B = some ad → ad.block ≠ g) (hlen : il.length ≤ 1000000) : Calls Try.prog 113 #[.pointer (some ⟨g, 0, none⟩), .agg #[.int .u8 (mk : Int), .int .u64 (mn : Int), .int .u8 (mr : Int), .int .u64 (mb : Int), .int .u64 (ms : Int), .int .u8 (mo : Int), .string ⟨mv.toArray⟩, .slice A vl.length ka, .slice B il.length kb, .int .u8 (ca : Int), .int .u32 (cb : Int), .int .u8 (ck : Int), .string ⟨cs.toArray⟩, .string ⟨ct.toArray⟩, .string ⟨cu.toArray⟩, .int .u8 (cz : Int), .int .u8 (mc : Int), .string ⟨mt.toArray⟩]] w fun e w' => ∃ V', e = .returned (.tuple #[]) ∧ Blk w' g 45 (msL (Pt.move .items ⟨xk, xn, xr, xb, xs, xo, xv, wl, jl, ⟨da, db, dk, ds, dt, du, dz⟩, xc, xt⟩ ⟨mk, mn, mr, mb, ms, mo, mv, vl, il, ⟨ca, cb, ck, cs, ct, cu, cz⟩, mc, mt⟩) V V').toArray ∧ w'.ownsRow w.heap.size 78 2 V' il.length (il.flatMap imL) ∧ Outs [g] w w' := by
  refine sx_enter (n := 10) [.pointer (some ⟨g, 0, none⟩), .agg #[.int .u8 (mk : Int), .int .u64 (mn : Int), .int .u8 (mr : Int), .int .u64 (mb : Int), .int .u64 (ms : Int), .int .u8 (mo : Int), .string ⟨mv.toArray⟩, .slice A vl.length ka, .slice B il.length kb, .int .u8 (ca : Int), .int .u32 (cb : Int), .int .u8 (ck : Int), .string ⟨cs.toArray⟩, .string ⟨ct.toArray⟩, .string ⟨cu.toArray⟩, .int .u8 (cz : Int), .int .u8 (mc : Int), .string ⟨mt.toArray⟩]] Try.func113 rfl rfl rfl (Hp.one hg) ?_
  refine SxC.seq ?_
  refine SxC.region ?_
  refine SxL.new (cs := [.int .u8 (mk : Int), .int .u64 (mn : Int), .int .u8 (mr : Int), .int .u64 (mb : Int), .int .u64 (ms : Int), .int .u8 (mo : Int), .string ⟨mv.toArray⟩, .slice A vl.length ka, .slice B il.length kb, .int .u8 (ca : Int), .int .u32 (cb : Int), .int .u8 (ck : Int), .string ⟨cs.toArray⟩, .string ⟨ct.toArray⟩, .string ⟨cu.toArray⟩, .int .u8 (cz : Int), .int .u8 (mc : Int), .string ⟨mt.toArray⟩]) trivial rfl rfl (fun ρ w E H => ex_box E rfl rfl rfl) fun g1 hg1 => ?_
  refine SxL.nil ?_
  refine SxN.then_ ?_
  refine SxC.region ?_
  refine SxL.val (v := .pointer (some ⟨g, 0, none⟩)) trivial rfl rfl (fun ρ w E H => ex_move E rfl rfl) ?_
  refine SxL.val (v := .pointer (some ⟨g1, 8, none⟩)) trivial rfl rfl (fun ρ w E H => ex_field E rfl fa_palaver_api_Msg_7 rfl rfl) ?_
  refine SxL.val (v := .slice B il.length kb) trivial rfl rfl (fun ρ w E H => ex_load1 E (H.get (i := 0) rfl) rfl rfl Try.underlying41 rfl rfl) ?_
  refine SxL.call (σ := Value) (fun s => s) (fun s => OwnIn w [] s) (fun s => _) trivial rfl rfl (fun ρ w E => ex_call E en_slices_Clone_palaver_api_Item_palaver_api_Item rfl rfl) (callOwn (fun w H => cloneI il B kb w (hi.outs (H.toOuts [g] ⟨(fun g hg => by rw [List.mem_singleton.1 hg]; exact .inr hg1), (fun g hg => by rw [List.mem_singleton.1 hg]; exact .inl (by simp)), trivial⟩) (fun hn ad h hm => hne hn ad h (List.mem_singleton.1 hm))) hlen)) fun v7 hv7 => ?_
  refine SxL.with (fun W H => own_is_slice (H.get (i := 0) rfl)) ?_
  rintro ⟨A7, k7, rfl⟩
  refine SxL.val (v := .pointer (some ⟨g, 0, none⟩)) trivial rfl rfl (fun ρ w E H => ex_nilCheck E rfl rfl) ?_
  refine SxL.val (v := .pointer (some ⟨g, 8, none⟩)) trivial rfl rfl (fun ρ w E H => ex_field E rfl fa_palaver_api_Msg_7 rfl rfl) ?_
  refine SxL.store (i := 2) trivial rfl rfl rfl rfl rfl sz_api_Item rfl rfl rfl ?_
  refine SxL.nil ?_
  refine SxN.done (.tuple #[]) (fun a w K H => res0 rfl) (fun w H => ?_)
  exact ⟨_, rfl, H.get (i := 2) rfl, H.get (i := 0) rfl, H.toOuts _ ⟨(fun g hg => .inr (hv7.fresh g hg)), (fun g hg => by rw [List.mem_singleton.1 hg]; exact .inr hg1), (fun g hg => by rw [List.mem_singleton.1 hg]; exact .inl (by simp)), trivial⟩⟩
end Go.Proofs.Yteiaiilfekojfaa.Msg
end
section
namespace Go.Proofs.Yteiaiilfekojfaa.Msg
open Go.RowKit Wire Sx DrawInv

theorem rest_byte (r : Rd) : r.byte.2.rest.length ≤ r.rest.length := byte_rest (c := r.byte.1) rfl
theorem rest_num (r : Rd) : r.num.2.rest.length ≤ r.rest.length := num_rest (c := r.num.1) rfl
theorem rest_below (r : Rd) (n : Nat) : (r.below n).2.rest.length ≤ r.rest.length := below_rest (c := (r.below n).1) rfl
theorem rest_str (r : Rd) (m : Int) : (r.str m).2.rest.length ≤ r.rest.length := Cmd.str_rest (s := (r.str m).1) rfl
theorem rest_bad (r : Rd) : r.bad.rest.length ≤ r.rest.length := by unfold Rd.bad; rw [fail_rest]; exact Nat.le_refl _
theorem rest_takeB (r : Rd) : (Bal.takeB r).2.rest.length ≤ r.rest.length := by
  unfold Bal.takeB
  dsimp only
  have h1 := rest_num r
  have h2 := rest_byte r.num.2
  have h3 := rest_bad r.num.2.byte.2
  split <;> omega
theorem rest_takeC (r : Rd) : (Cmd.takeC r).2.rest.length ≤ r.rest.length := Cmd.takeC_rest r
theorem lt_num (r : Rd) : r.num.1 < 18446744073709551616 := num_lt (r' := r.num.2) rfl
theorem lt_byte (r : Rd) : r.byte.1 < 256 := byte_lt (r' := r.byte.2) rfl
theorem lt_below (r : Rd) (n : Nat) (hn : 0 < n) : (r.below n).1 < n := Cmd.below_less hn (r' := (r.below n).2) rfl
theorem num_err {r : Rd} (h : r.num.2.err = 0) : r.err = 0 := by
  by_cases hr : r.err = 0
  · exact hr
  · rw [num_failed r hr] at h; exact h
theorem takeB_err {r : Rd} (h : (Bal.takeB r).2.err = 0) : r.err = 0 ∧ r.num.2.err = 0 := by
  unfold Bal.takeB at h
  dsimp only at h
  split at h
  · have h1 := Cmd.byte_err h
    exact ⟨num_err h1, h1⟩
  · exact absurd h (Bal.bad_err _)
/-- A number that is read takes a byte at least. -/
theorem num_less {r : Rd} (h : r.num.2.err = 0) : r.num.2.rest.length < r.rest.length := by
  have h0 := num_err h
  obtain ⟨e, l⟩ := r
  obtain rfl : e = 0 := h0
  have h1 : (Rd.num ⟨0, l⟩).2 = ⟨0, (Rd.num ⟨0, l⟩).2.rest⟩ := Cmd.rd_zero h
  have h2 := num_back l (Rd.num ⟨0, l⟩).1 (Rd.num ⟨0, l⟩).2.rest (by rw [← h1])
  have h3 := (numB_length (Rd.num ⟨0, l⟩).1 (lt_num _)).2
  have h4 := congrArg List.length h2
  rw [List.length_append] at h4
  show _ < l.length
  omega
/-- What is known of a list that grows while a reader is read. -/
structure Grows (r : Rd) (n : Nat) : Prop where
  h1 : r.rest.length ≤ 100000
  h2 : n ≤ 100001
  h3 : r.err = 0 → n + r.rest.length ≤ 100000
theorem Grows.vote {r : Rd} {n : Nat} (h : Grows r n) (h0 : r.err = 0) : Grows ((Bal.takeB r.num.2).2.str 65536).2 (n + 1) := by
  have a := rest_num r
  have b := rest_takeB r.num.2
  have c := rest_str (Bal.takeB r.num.2).2 65536
  have hh := h.h3 h0
  have hh1 := h.h1
  refine ⟨by omega, by omega, fun he => ?_⟩
  have e1 := Cmd.str_err he
  have e2 := (takeB_err e1).1
  have d := num_less e2
  omega
theorem Grows.item {r : Rd} {n : Nat} (h : Grows r n) (h0 : r.err = 0) : Grows (r.num.2.str 65536).2 (n + 1) := by
  have a := rest_num r
  have c := rest_str r.num.2 65536
  have hh := h.h3 h0
  have hh1 := h.h1
  refine ⟨by omega, by omega, fun he => ?_⟩
  have e2 := Cmd.str_err he
  have d := num_less e2
  omega
theorem Grows.num {r : Rd} {n : Nat} (h : Grows r n) : Grows r.num.2 n := by
  have a := rest_num r
  have hh1 := h.h1
  exact ⟨by omega, h.h2, fun he => by have := h.h3 (num_err he); omega⟩
theorem tkV_step (n : Nat) (r : Rd) (l : List Vo) (hn : 0 < n) (h : r.err = 0) : tkV n r l = tkV (n - 1) ((Bal.takeB r.num.2).2.str 65536).2 (l ++ [⟨r.num.1, (Bal.takeB r.num.2).1.n, (Bal.takeB r.num.2).1.r, ((Bal.takeB r.num.2).2.str 65536).1⟩]) := by
  obtain ⟨m, rfl⟩ : ∃ m, n = m + 1 := ⟨n - 1, by omega⟩
  show (if r.err = 0 then _ else _) = _
  rw [if_pos h]
  rfl
theorem tkV_stop (n : Nat) (r : Rd) (l : List Vo) (h : n = 0 ∨ r.err ≠ 0) : tkV n r l = (r, l) := by
  cases n with
  | zero => rfl
  | succ m =>
    have h : r.err ≠ 0 := h.resolve_left (by omega)
    show (if r.err = 0 then _ else _) = _
    rw [if_neg h]
theorem tkI_step (n : Nat) (r : Rd) (l : List Im) (hn : 0 < n) (h : r.err = 0) : tkI n r l = tkI (n - 1) (r.num.2.str 65536).2 (l ++ [⟨r.num.1, (r.num.2.str 65536).1⟩]) := by
  obtain ⟨m, rfl⟩ : ∃ m, n = m + 1 := ⟨n - 1, by omega⟩
  show (if r.err = 0 then _ else _) = _
  rw [if_pos h]
  rfl
theorem tkI_stop (n : Nat) (r : Rd) (l : List Im) (h : n = 0 ∨ r.err ≠ 0) : tkI n r l = (r, l) := by
  cases n with
  | zero => rfl
  | succ m =>
    have h : r.err ≠ 0 := h.resolve_left (by omega)
    show (if r.err = 0 then _ else _) = _
    rw [if_neg h]
theorem btake_any (g : Nat) (r : Rd) (hl : r.rest.length < 4611686018427387904) (w : World) (h : RdAt w g r) : Calls Try.prog 89 #[.pointer (some ⟨g, 0, none⟩)] w fun e w' => Bal.BalRet w g (Bal.takeB r) e w' :=
  Bal.take_bal g r r.num.2 r.num.2.byte.2 r.num.1 r.num.2.byte.1 hl rfl (by have := rest_num r; omega) rfl w h
/-- Readings with what comes out as a letter. -/
def RdP (w : World) (g : Nat) (v : Value) (r : Rd) (e : Ending) (w' : World) : Prop := e = .returned v ∧ Blk w' g 118 (rdC r) ∧ w.grownBy w' (some g)
theorem byte_p {g : Nat} {r : Rd} {p : Nat × Rd} (hp : Rd.byte r = p) (hl : r.rest.length ≤ 1000000) (w : World) (h : RdAt w g r) : Calls Try.prog 40 #[.pointer (some ⟨g, 0, none⟩)] w fun e w' => RdP w g (.int .u8 (p.1 : Int)) p.2 e w' := by
  subst hp; exact byte_any g r (by omega) w h
theorem num_p {g : Nat} {r : Rd} {p : Nat × Rd} (hp : Rd.num r = p) (hl : r.rest.length ≤ 1000000) (w : World) (h : RdAt w g r) : Calls Try.prog 95 #[.pointer (some ⟨g, 0, none⟩)] w fun e w' => RdP w g (.int .u64 (p.1 : Int)) p.2 e w' := by
  subst hp; exact num_any g r (by omega) w h
theorem below_p {g : Nat} {r : Rd} {n : Nat} {p : Nat × Rd} (hp : Rd.below r n = p) (hl : r.rest.length ≤ 1000000) (w : World) (h : RdAt w g r) : Calls Try.prog 58 #[.pointer (some ⟨g, 0, none⟩), .int .u64 (n : Int)] w fun e w' => RdP w g (.int .u64 (p.1 : Int)) p.2 e w' := by
  subst hp; exact Below_any g r n (by omega) w h
theorem str_p {g : Nat} {r : Rd} {m : Int} {p : List UInt8 × Rd} (hp : Rd.str r m = p) (h1 : -9223372036854775808 ≤ m) (h2 : m ≤ 9223372036854775807) (hl : r.rest.length ≤ 1000000) (w : World) (h : RdAt w g r) : Calls Try.prog 79 #[.pointer (some ⟨g, 0, none⟩), .int .i64 m] w fun e w' => RdP w g (.string ⟨p.1.toArray⟩) p.2 e w' := by
  subst hp; exact str_any g r m h1 h2 (by omega) w h
theorem bal_p {g : Nat} {r : Rd} {p : Bal.B × Rd} (hp : Bal.takeB r = p) (hl : r.rest.length ≤ 1000000) (w : World) (h : RdAt w g r) : Calls Try.prog 89 #[.pointer (some ⟨g, 0, none⟩)] w fun e w' => RdP w g (.agg #[.int .u64 (p.1.n : Int), .int .u8 (p.1.r : Int)]) p.2 e w' := by
  subst hp; exact btake_any g r (by omega) w h
theorem cmd_p {g : Nat} {r : Rd} {p : Cmd.Cm × Rd} (hp : Cmd.takeC r = p) (hl : r.rest.length ≤ 1000000) (w : World) (h : RdAt w g r) : Calls Try.prog 69 #[.pointer (some ⟨g, 0, none⟩)] w fun e w' => RdP w g (.agg #[.int .u8 (p.1.client : Int), .int .u32 (p.1.seq : Int), .int .u8 (p.1.kind : Int), .string ⟨p.1.key.toArray⟩, .string ⟨p.1.old.toArray⟩, .string ⟨p.1.new.toArray⟩, .int .u8 (p.1.set : Int)]) p.2 e w' := by
  subst hp; exact Cmd.take_any g r hl w h
theorem rp_byte {r : Rd} {p : Nat × Rd} (hp : Rd.byte r = p) : p.2.rest.length ≤ r.rest.length := hp ▸ rest_byte r
theorem rp_num {r : Rd} {p : Nat × Rd} (hp : Rd.num r = p) : p.2.rest.length ≤ r.rest.length := hp ▸ rest_num r
theorem rp_bal {r : Rd} {p : Bal.B × Rd} (hp : Bal.takeB r = p) : p.2.rest.length ≤ r.rest.length := hp ▸ rest_takeB r
theorem Hp.trio {w : World} {g g' : Nat} {t t' : TypeId} {cs cs' : List Value} {base e sz m : Nat} {v : Value} {xs : List Value} (h : Blk w g t cs.toArray) (h' : Blk w g' t' cs'.toArray) (hne : g ≠ g') (hown : w.ownsRow base e sz v m xs) (hd : g ∉ v.ownBlock.toList) (hd' : g' ∉ v.ownBlock.toList) :
    Hp w [rowX v.ownBlock.toList base e sz v m xs, cell g t cs, cell g' t' cs'] w :=
  (Hp.duo h h' hne).know _ (rowX_loc _ _ _ _ _ _ _) (fun b hb => ⟨(own_lt hown b (by simpa [rowX] using hb)).2, fun q hq hbq => by
    have hb : b ∈ v.ownBlock.toList := by simpa [rowX] using hb
    simp only [List.mem_cons, List.not_mem_nil, or_false] at hq
    rcases hq with rfl | rfl
    · rw [List.mem_singleton.1 hbq] at hb; exact hd hb
    · rw [List.mem_singleton.1 hbq] at hb; exact hd' hb⟩) hown
end Go.Proofs.Yteiaiilfekojfaa.Msg
end
section
set_option linter.unusedVariables false
set_option linter.unusedSimpArgs false
namespace Go.Proofs.Yteiaiilfekojfaa.Msg
open Go.RowKit Sx Wire DrawInv
set_option maxRecDepth 100000 in
set_option maxHeartbeats 4000000 in
theorem take_cmd (gr : Nat) (r : Rd) (g xk xn xr xb xs xo da db dk dz xc : Nat) (xv ds dt du xt : List UInt8) (wl : List Vo) (jl : List Im) (V I : Value)  (w : World) (hr : Blk w gr 118 (rdC r)) (hg : Blk w g 45 (msL ⟨xk, xn, xr, xb, xs, xo, xv, wl, jl, ⟨da, db, dk, ds, dt, du, dz⟩, xc, xt⟩ V I).toArray) (hne : gr ≠ g) (hrl : r.rest.length ≤ 1000000) : Calls Try.prog 68 #[.pointer (some ⟨gr, 0, none⟩), .pointer (some ⟨g, 0, none⟩)] w fun e w' => e = .returned (.tuple #[]) ∧ Blk w' gr 118 (rdC (Pt.take .cmd (⟨xk, xn, xr, xb, xs, xo, xv, wl, jl, ⟨da, db, dk, ds, dt, du, dz⟩, xc, xt⟩, r)).2) ∧ Blk w' g 45 (msL (Pt.take .cmd (⟨xk, xn, xr, xb, xs, xo, xv, wl, jl, ⟨da, db, dk, ds, dt, du, dz⟩, xc, xt⟩, r)).1 V I).toArray ∧ Outs [gr, g] w w' := by
  refine sx_enter (n := 9) [.pointer (some ⟨gr, 0, none⟩), .pointer (some ⟨g, 0, none⟩)] Try.func68 rfl rfl rfl (Hp.duo hr hg hne) ?_
  refine SxC.region ?_
  refine SxL.val (v := .pointer (some ⟨g, 0, none⟩)) trivial rfl rfl (fun ρ w E H => ex_move E rfl rfl) ?_
  refine SxL.val (v := .pointer (some ⟨gr, 0, none⟩)) trivial rfl rfl (fun ρ w E H => ex_move E rfl rfl) ?_
  obtain ⟨p6, hp6⟩ : ∃ p, Cmd.takeC r = p := ⟨_, rfl⟩
  refine SxL.call (σ := Unit) (fun _ => .agg #[.int .u8 (p6.1.client : Int), .int .u32 (p6.1.seq : Int), .int .u8 (p6.1.kind : Int), .string ⟨p6.1.key.toArray⟩, .string ⟨p6.1.old.toArray⟩, .string ⟨p6.1.new.toArray⟩, .int .u8 (p6.1.set : Int)]) (fun _ => True) (fun _ => _) trivial rfl rfl (fun ρ w E => ex_call E en_palaver_cmd_Take rfl rfl) (callTurn (i := 0) (cell gr 118 [.int .i64 (p6.2.err : Int), .string ⟨p6.2.rest.toArray⟩]) rfl (cell_loc _ _ _) rfl (fun w H => (cmd_p hp6 (by skip; omega) w (H.get (i := 0) rfl)).mono fun _ _ h => turn_rd h)) fun _ _ => ?_
  refine SxL.val (v := .pointer (some ⟨g, 0, none⟩)) trivial rfl rfl (fun ρ w E H => ex_nilCheck E rfl rfl) ?_
  refine SxL.val (v := .pointer (some ⟨g, 9, none⟩)) trivial rfl rfl (fun ρ w E H => ex_field E rfl fa_palaver_api_Msg_8 rfl rfl) ?_
  refine SxL.store (i := 1) trivial rfl rfl rfl rfl rfl sz_palaver_api_Cmd rfl rfl rfl ?_
  refine SxL.nil ?_
  refine SxN.done (.tuple #[]) (fun a w K H => res0 rfl) (fun w H => ?_)
  have hR : Blk w gr 118 (rdC p6.2) := H.get (i := 0) rfl
  refine ⟨rfl, ?_⟩
  simp only [Pt.take, hp6]
  exact ⟨hR, H.get (i := 1) rfl, H.toOuts _ ⟨(fun g hg => by rw [List.mem_singleton.1 hg]; exact .inl (by simp)), (fun g hg => by rw [List.mem_singleton.1 hg]; exact .inl (by simp)), trivial⟩⟩

set_option maxRecDepth 100000 in
set_option maxHeartbeats 4000000 in
theorem take_name (gr : Nat) (r : Rd) (g xk xn xr xb xs xo da db dk dz xc : Nat) (xv ds dt du xt : List UInt8) (wl : List Vo) (jl : List Im) (V I : Value)  (w : World) (hr : Blk w gr 118 (rdC r)) (hg : Blk w g 45 (msL ⟨xk, xn, xr, xb, xs, xo, xv, wl, jl, ⟨da, db, dk, ds, dt, du, dz⟩, xc, xt⟩ V I).toArray) (hne : gr ≠ g) (hrl : r.rest.length ≤ 1000000) : Calls Try.prog 73 #[.pointer (some ⟨gr, 0, none⟩), .pointer (some ⟨g, 0, none⟩)] w fun e w' => e = .returned (.tuple #[]) ∧ Blk w' gr 118 (rdC (Pt.take .name (⟨xk, xn, xr, xb, xs, xo, xv, wl, jl, ⟨da, db, dk, ds, dt, du, dz⟩, xc, xt⟩, r)).2) ∧ Blk w' g 45 (msL (Pt.take .name (⟨xk, xn, xr, xb, xs, xo, xv, wl, jl, ⟨da, db, dk, ds, dt, du, dz⟩, xc, xt⟩, r)).1 V I).toArray ∧ Outs [gr, g] w w' := by
  refine sx_enter (n := 17) [.pointer (some ⟨gr, 0, none⟩), .pointer (some ⟨g, 0, none⟩)] Try.func73 rfl rfl rfl (Hp.duo hr hg hne) ?_
  refine SxC.seq ?_
  refine SxC.region ?_
  refine SxL.val (v := .pointer (some ⟨g, 0, none⟩)) trivial rfl rfl (fun ρ w E H => ex_move E rfl rfl) ?_
  refine SxL.val (v := .pointer (some ⟨gr, 0, none⟩)) trivial rfl rfl (fun ρ w E H => ex_move E rfl rfl) ?_
  obtain ⟨p6, hp6⟩ : ∃ p, Rd.byte r = p := ⟨_, rfl⟩
  refine SxL.call (σ := Unit) (fun _ => .int .u8 (p6.1 : Int)) (fun _ => True) (fun _ => _) trivial rfl rfl (fun ρ w E => ex_call E en_palaver_wire_Reader_Byte rfl rfl) (callTurn (i := 0) (cell gr 118 [.int .i64 (p6.2.err : Int), .string ⟨p6.2.rest.toArray⟩]) rfl (cell_loc _ _ _) rfl (fun w H => (byte_p hp6 (by skip; omega) w (H.get (i := 0) rfl)).mono fun _ _ h => turn_rd h)) fun _ _ => ?_
  refine SxL.val (v := .pointer (some ⟨g, 0, none⟩)) trivial rfl rfl (fun ρ w E H => ex_nilCheck E rfl rfl) ?_
  refine SxL.val (v := .pointer (some ⟨g, 9, none⟩)) trivial rfl rfl (fun ρ w E H => ex_field E rfl fa_palaver_api_Msg_8 rfl rfl) ?_
  refine SxL.val (v := .pointer (some ⟨g, 9, none⟩)) trivial rfl rfl (fun ρ w E H => ex_field E rfl fa_palaver_api_Cmd_0 rfl rfl) ?_
  refine SxL.store (i := 1) trivial rfl rfl rfl rfl rfl sz_uint8 rfl rfl rfl ?_
  refine SxL.nil ?_
  refine SxN.then_ ?_
  refine SxC.region ?_
  refine SxL.val (v := .pointer (some ⟨g, 0, none⟩)) trivial rfl rfl (fun ρ w E H => ex_move E rfl rfl) ?_
  refine SxL.val (v := .pointer (some ⟨gr, 0, none⟩)) trivial rfl rfl (fun ρ w E H => ex_move E rfl rfl) ?_
  obtain ⟨p12, hp12⟩ : ∃ p, Rd.below p6.2 4294967296 = p := ⟨_, rfl⟩
  refine SxL.call (σ := Unit) (fun _ => .int .u64 (p12.1 : Int)) (fun _ => True) (fun _ => _) trivial rfl rfl (fun ρ w E => ex_call E en_palaver_wire_Reader_Below rfl rfl) (callTurn (i := 0) (cell gr 118 [.int .i64 (p12.2.err : Int), .string ⟨p12.2.rest.toArray⟩]) rfl (cell_loc _ _ _) rfl (fun w H => (below_p hp12 (by have q0 := rp_byte hp6; omega) w (H.get (i := 0) rfl)).mono fun _ _ h => turn_rd h)) fun _ _ => ?_
  refine SxL.val (v := .int .u32 (p12.1 : Int)) trivial rfl rfl (fun ρ w E H => ex_convInt E rfl Try.underlying37 Try.underlying34 rfl (by have := lt_below p6.2 4294967296 (by decide); rw [hp12] at this; rw [IntKind.wrap_u32]; omega)) ?_
  refine SxL.val (v := .pointer (some ⟨g, 0, none⟩)) trivial rfl rfl (fun ρ w E H => ex_nilCheck E rfl rfl) ?_
  refine SxL.val (v := .pointer (some ⟨g, 9, none⟩)) trivial rfl rfl (fun ρ w E H => ex_field E rfl fa_palaver_api_Msg_8 rfl rfl) ?_
  refine SxL.val (v := .pointer (some ⟨g, 10, none⟩)) trivial rfl rfl (fun ρ w E H => ex_field E rfl fa_palaver_api_Cmd_1 rfl rfl) ?_
  refine SxL.store (i := 1) trivial rfl rfl rfl rfl rfl sz_uint32 rfl rfl rfl ?_
  refine SxL.nil ?_
  refine SxN.done (.tuple #[]) (fun a w K H => res0 rfl) (fun w H => ?_)
  have hR : Blk w gr 118 (rdC p12.2) := H.get (i := 0) rfl
  refine ⟨rfl, ?_⟩
  simp only [Pt.take, hp6, hp12]
  exact ⟨hR, H.get (i := 1) rfl, H.toOuts _ ⟨(fun g hg => by rw [List.mem_singleton.1 hg]; exact .inl (by simp)), (fun g hg => by rw [List.mem_singleton.1 hg]; exact .inl (by simp)), trivial⟩⟩

set_option maxRecDepth 100000 in
set_option maxHeartbeats 4000000 in
theorem take_reply (gr : Nat) (r : Rd) (g xk xn xr xb xs xo da db dk dz xc : Nat) (xv ds dt du xt : List UInt8) (wl : List Vo) (jl : List Im) (V I : Value)  (w : World) (hr : Blk w gr 118 (rdC r)) (hg : Blk w g 45 (msL ⟨xk, xn, xr, xb, xs, xo, xv, wl, jl, ⟨da, db, dk, ds, dt, du, dz⟩, xc, xt⟩ V I).toArray) (hne : gr ≠ g) (hrl : r.rest.length ≤ 1000000) : Calls Try.prog 78 #[.pointer (some ⟨gr, 0, none⟩), .pointer (some ⟨g, 0, none⟩)] w fun e w' => e = .returned (.tuple #[]) ∧ Blk w' gr 118 (rdC (Pt.take .reply (⟨xk, xn, xr, xb, xs, xo, xv, wl, jl, ⟨da, db, dk, ds, dt, du, dz⟩, xc, xt⟩, r)).2) ∧ Blk w' g 45 (msL (Pt.take .reply (⟨xk, xn, xr, xb, xs, xo, xv, wl, jl, ⟨da, db, dk, ds, dt, du, dz⟩, xc, xt⟩, r)).1 V I).toArray ∧ Outs [gr, g] w w' := by
  refine sx_enter (n := 16) [.pointer (some ⟨gr, 0, none⟩), .pointer (some ⟨g, 0, none⟩)] Try.func78 rfl rfl rfl (Hp.duo hr hg hne) ?_
  refine SxC.seq ?_
  refine SxC.region ?_
  refine SxL.val (v := .pointer (some ⟨g, 0, none⟩)) trivial rfl rfl (fun ρ w E H => ex_move E rfl rfl) ?_
  refine SxL.val (v := .pointer (some ⟨gr, 0, none⟩)) trivial rfl rfl (fun ρ w E H => ex_move E rfl rfl) ?_
  obtain ⟨p6, hp6⟩ : ∃ p, Rd.byte r = p := ⟨_, rfl⟩
  refine SxL.call (σ := Unit) (fun _ => .int .u8 (p6.1 : Int)) (fun _ => True) (fun _ => _) trivial rfl rfl (fun ρ w E => ex_call E en_palaver_wire_Reader_Byte rfl rfl) (callTurn (i := 0) (cell gr 118 [.int .i64 (p6.2.err : Int), .string ⟨p6.2.rest.toArray⟩]) rfl (cell_loc _ _ _) rfl (fun w H => (byte_p hp6 (by skip; omega) w (H.get (i := 0) rfl)).mono fun _ _ h => turn_rd h)) fun _ _ => ?_
  refine SxL.val (v := .pointer (some ⟨g, 0, none⟩)) trivial rfl rfl (fun ρ w E H => ex_nilCheck E rfl rfl) ?_
  refine SxL.val (v := .pointer (some ⟨g, 16, none⟩)) trivial rfl rfl (fun ρ w E H => ex_field E rfl fa_palaver_api_Msg_9 rfl rfl) ?_
  refine SxL.val (v := .pointer (some ⟨g, 16, none⟩)) trivial rfl rfl (fun ρ w E H => ex_field E rfl fa_palaver_api_Reply_0 rfl rfl) ?_
  refine SxL.store (i := 1) trivial rfl rfl rfl rfl rfl sz_uint8 rfl rfl rfl ?_
  refine SxL.nil ?_
  refine SxN.then_ ?_
  refine SxC.region ?_
  refine SxL.val (v := .pointer (some ⟨g, 0, none⟩)) trivial rfl rfl (fun ρ w E H => ex_move E rfl rfl) ?_
  refine SxL.val (v := .pointer (some ⟨gr, 0, none⟩)) trivial rfl rfl (fun ρ w E H => ex_move E rfl rfl) ?_
  obtain ⟨p12, hp12⟩ : ∃ p, Rd.str p6.2 64 = p := ⟨_, rfl⟩
  refine SxL.call (σ := Unit) (fun _ => .string ⟨p12.1.toArray⟩) (fun _ => True) (fun _ => _) trivial rfl rfl (fun ρ w E => ex_call E en_palaver_wire_Reader_Str rfl rfl) (callTurn (i := 0) (cell gr 118 [.int .i64 (p12.2.err : Int), .string ⟨p12.2.rest.toArray⟩]) rfl (cell_loc _ _ _) rfl (fun w H => (str_p hp12 (by decide) (by decide) (by have q0 := rp_byte hp6; omega) w (H.get (i := 0) rfl)).mono fun _ _ h => turn_rd h)) fun _ _ => ?_
  refine SxL.val (v := .pointer (some ⟨g, 0, none⟩)) trivial rfl rfl (fun ρ w E H => ex_nilCheck E rfl rfl) ?_
  refine SxL.val (v := .pointer (some ⟨g, 16, none⟩)) trivial rfl rfl (fun ρ w E H => ex_field E rfl fa_palaver_api_Msg_9 rfl rfl) ?_
  refine SxL.val (v := .pointer (some ⟨g, 17, none⟩)) trivial rfl rfl (fun ρ w E H => ex_field E rfl fa_palaver_api_Reply_1 rfl rfl) ?_
  refine SxL.store (i := 1) trivial rfl rfl rfl rfl rfl sz_string rfl rfl rfl ?_
  refine SxL.nil ?_
  refine SxN.done (.tuple #[]) (fun a w K H => res0 rfl) (fun w H => ?_)
  have hR : Blk w gr 118 (rdC p12.2) := H.get (i := 0) rfl
  refine ⟨rfl, ?_⟩
  simp only [Pt.take, hp6, hp12]
  exact ⟨hR, H.get (i := 1) rfl, H.toOuts _ ⟨(fun g hg => by rw [List.mem_singleton.1 hg]; exact .inl (by simp)), (fun g hg => by rw [List.mem_singleton.1 hg]; exact .inl (by simp)), trivial⟩⟩

set_option maxRecDepth 100000 in
set_option maxHeartbeats 4000000 in
theorem take_node (gr : Nat) (r : Rd) (g xk xn xr xb xs xo da db dk dz xc : Nat) (xv ds dt du xt : List UInt8) (wl : List Vo) (jl : List Im) (V I : Value)  (w : World) (hr : Blk w gr 118 (rdC r)) (hg : Blk w g 45 (msL ⟨xk, xn, xr, xb, xs, xo, xv, wl, jl, ⟨da, db, dk, ds, dt, du, dz⟩, xc, xt⟩ V I).toArray) (hne : gr ≠ g) (hrl : r.rest.length ≤ 1000000) : Calls Try.prog 83 #[.pointer (some ⟨gr, 0, none⟩), .pointer (some ⟨g, 0, none⟩)] w fun e w' => e = .returned (.tuple #[]) ∧ Blk w' gr 118 (rdC (Pt.take .node (⟨xk, xn, xr, xb, xs, xo, xv, wl, jl, ⟨da, db, dk, ds, dt, du, dz⟩, xc, xt⟩, r)).2) ∧ Blk w' g 45 (msL (Pt.take .node (⟨xk, xn, xr, xb, xs, xo, xv, wl, jl, ⟨da, db, dk, ds, dt, du, dz⟩, xc, xt⟩, r)).1 V I).toArray ∧ Outs [gr, g] w w' := by
  refine sx_enter (n := 9) [.pointer (some ⟨gr, 0, none⟩), .pointer (some ⟨g, 0, none⟩)] Try.func83 rfl rfl rfl (Hp.duo hr hg hne) ?_
  refine SxC.region ?_
  refine SxL.val (v := .pointer (some ⟨g, 0, none⟩)) trivial rfl rfl (fun ρ w E H => ex_move E rfl rfl) ?_
  refine SxL.val (v := .pointer (some ⟨gr, 0, none⟩)) trivial rfl rfl (fun ρ w E H => ex_move E rfl rfl) ?_
  obtain ⟨p6, hp6⟩ : ∃ p, Rd.byte r = p := ⟨_, rfl⟩
  refine SxL.call (σ := Unit) (fun _ => .int .u8 (p6.1 : Int)) (fun _ => True) (fun _ => _) trivial rfl rfl (fun ρ w E => ex_call E en_palaver_wire_Reader_Byte rfl rfl) (callTurn (i := 0) (cell gr 118 [.int .i64 (p6.2.err : Int), .string ⟨p6.2.rest.toArray⟩]) rfl (cell_loc _ _ _) rfl (fun w H => (byte_p hp6 (by skip; omega) w (H.get (i := 0) rfl)).mono fun _ _ h => turn_rd h)) fun _ _ => ?_
  refine SxL.val (v := .pointer (some ⟨g, 0, none⟩)) trivial rfl rfl (fun ρ w E H => ex_nilCheck E rfl rfl) ?_
  refine SxL.val (v := .pointer (some ⟨g, 5, none⟩)) trivial rfl rfl (fun ρ w E H => ex_field E rfl fa_palaver_api_Msg_4 rfl rfl) ?_
  refine SxL.store (i := 1) trivial rfl rfl rfl rfl rfl sz_uint8 rfl rfl rfl ?_
  refine SxL.nil ?_
  refine SxN.done (.tuple #[]) (fun a w K H => res0 rfl) (fun w H => ?_)
  have hR : Blk w gr 118 (rdC p6.2) := H.get (i := 0) rfl
  refine ⟨rfl, ?_⟩
  simp only [Pt.take, hp6]
  exact ⟨hR, H.get (i := 1) rfl, H.toOuts _ ⟨(fun g hg => by rw [List.mem_singleton.1 hg]; exact .inl (by simp)), (fun g hg => by rw [List.mem_singleton.1 hg]; exact .inl (by simp)), trivial⟩⟩

set_option maxRecDepth 100000 in
set_option maxHeartbeats 4000000 in
theorem take_turn (gr : Nat) (r : Rd) (g xk xn xr xb xs xo da db dk dz xc : Nat) (xv ds dt du xt : List UInt8) (wl : List Vo) (jl : List Im) (V I : Value)  (w : World) (hr : Blk w gr 118 (rdC r)) (hg : Blk w g 45 (msL ⟨xk, xn, xr, xb, xs, xo, xv, wl, jl, ⟨da, db, dk, ds, dt, du, dz⟩, xc, xt⟩ V I).toArray) (hne : gr ≠ g) (hrl : r.rest.length ≤ 1000000) : Calls Try.prog 88 #[.pointer (some ⟨gr, 0, none⟩), .pointer (some ⟨g, 0, none⟩)] w fun e w' => e = .returned (.tuple #[]) ∧ Blk w' gr 118 (rdC (Pt.take .turn (⟨xk, xn, xr, xb, xs, xo, xv, wl, jl, ⟨da, db, dk, ds, dt, du, dz⟩, xc, xt⟩, r)).2) ∧ Blk w' g 45 (msL (Pt.take .turn (⟨xk, xn, xr, xb, xs, xo, xv, wl, jl, ⟨da, db, dk, ds, dt, du, dz⟩, xc, xt⟩, r)).1 V I).toArray ∧ Outs [gr, g] w w' := by
  refine sx_enter (n := 9) [.pointer (some ⟨gr, 0, none⟩), .pointer (some ⟨g, 0, none⟩)] Try.func88 rfl rfl rfl (Hp.duo hr hg hne) ?_
  refine SxC.region ?_
  refine SxL.val (v := .pointer (some ⟨g, 0, none⟩)) trivial rfl rfl (fun ρ w E H => ex_move E rfl rfl) ?_
  refine SxL.val (v := .pointer (some ⟨gr, 0, none⟩)) trivial rfl rfl (fun ρ w E H => ex_move E rfl rfl) ?_
  obtain ⟨p6, hp6⟩ : ∃ p, Bal.takeB r = p := ⟨_, rfl⟩
  refine SxL.call (σ := Unit) (fun _ => .agg #[.int .u64 (p6.1.n : Int), .int .u8 (p6.1.r : Int)]) (fun _ => True) (fun _ => _) trivial rfl rfl (fun ρ w E => ex_call E en_palaver_ballot_Take rfl rfl) (callTurn (i := 0) (cell gr 118 [.int .i64 (p6.2.err : Int), .string ⟨p6.2.rest.toArray⟩]) rfl (cell_loc _ _ _) rfl (fun w H => (bal_p hp6 (by skip; omega) w (H.get (i := 0) rfl)).mono fun _ _ h => turn_rd h)) fun _ _ => ?_
  refine SxL.val (v := .pointer (some ⟨g, 0, none⟩)) trivial rfl rfl (fun ρ w E H => ex_nilCheck E rfl rfl) ?_
  refine SxL.val (v := .pointer (some ⟨g, 1, none⟩)) trivial rfl rfl (fun ρ w E H => ex_field E rfl fa_palaver_api_Msg_1 rfl rfl) ?_
  refine SxL.store (i := 1) trivial rfl rfl rfl rfl rfl sz_palaver_api_Ballot rfl rfl rfl ?_
  refine SxL.nil ?_
  refine SxN.done (.tuple #[]) (fun a w K H => res0 rfl) (fun w H => ?_)
  have hR : Blk w gr 118 (rdC p6.2) := H.get (i := 0) rfl
  refine ⟨rfl, ?_⟩
  simp only [Pt.take, hp6]
  exact ⟨hR, H.get (i := 1) rfl, H.toOuts _ ⟨(fun g hg => by rw [List.mem_singleton.1 hg]; exact .inl (by simp)), (fun g hg => by rw [List.mem_singleton.1 hg]; exact .inl (by simp)), trivial⟩⟩

set_option maxRecDepth 100000 in
set_option maxHeartbeats 4000000 in
theorem take_floor (gr : Nat) (r : Rd) (g xk xn xr xb xs xo da db dk dz xc : Nat) (xv ds dt du xt : List UInt8) (wl : List Vo) (jl : List Im) (V I : Value)  (w : World) (hr : Blk w gr 118 (rdC r)) (hg : Blk w g 45 (msL ⟨xk, xn, xr, xb, xs, xo, xv, wl, jl, ⟨da, db, dk, ds, dt, du, dz⟩, xc, xt⟩ V I).toArray) (hne : gr ≠ g) (hrl : r.rest.length ≤ 1000000) : Calls Try.prog 99 #[.pointer (some ⟨gr, 0, none⟩), .pointer (some ⟨g, 0, none⟩)] w fun e w' => e = .returned (.tuple #[]) ∧ Blk w' gr 118 (rdC (Pt.take .floor (⟨xk, xn, xr, xb, xs, xo, xv, wl, jl, ⟨da, db, dk, ds, dt, du, dz⟩, xc, xt⟩, r)).2) ∧ Blk w' g 45 (msL (Pt.take .floor (⟨xk, xn, xr, xb, xs, xo, xv, wl, jl, ⟨da, db, dk, ds, dt, du, dz⟩, xc, xt⟩, r)).1 V I).toArray ∧ Outs [gr, g] w w' := by
  refine sx_enter (n := 9) [.pointer (some ⟨gr, 0, none⟩), .pointer (some ⟨g, 0, none⟩)] Try.func99 rfl rfl rfl (Hp.duo hr hg hne) ?_
  refine SxC.region ?_
  refine SxL.val (v := .pointer (some ⟨g, 0, none⟩)) trivial rfl rfl (fun ρ w E H => ex_move E rfl rfl) ?_
  refine SxL.val (v := .pointer (some ⟨gr, 0, none⟩)) trivial rfl rfl (fun ρ w E H => ex_move E rfl rfl) ?_
  obtain ⟨p6, hp6⟩ : ∃ p, Rd.num r = p := ⟨_, rfl⟩
  refine SxL.call (σ := Unit) (fun _ => .int .u64 (p6.1 : Int)) (fun _ => True) (fun _ => _) trivial rfl rfl (fun ρ w E => ex_call E en_palaver_wire_Reader_Num rfl rfl) (callTurn (i := 0) (cell gr 118 [.int .i64 (p6.2.err : Int), .string ⟨p6.2.rest.toArray⟩]) rfl (cell_loc _ _ _) rfl (fun w H => (num_p hp6 (by skip; omega) w (H.get (i := 0) rfl)).mono fun _ _ h => turn_rd h)) fun _ _ => ?_
  refine SxL.val (v := .pointer (some ⟨g, 0, none⟩)) trivial rfl rfl (fun ρ w E H => ex_nilCheck E rfl rfl) ?_
  refine SxL.val (v := .pointer (some ⟨g, 3, none⟩)) trivial rfl rfl (fun ρ w E H => ex_field E rfl fa_palaver_api_Msg_2 rfl rfl) ?_
  refine SxL.store (i := 1) trivial rfl rfl rfl rfl rfl sz_uint64 rfl rfl rfl ?_
  refine SxL.nil ?_
  refine SxN.done (.tuple #[]) (fun a w K H => res0 rfl) (fun w H => ?_)
  have hR : Blk w gr 118 (rdC p6.2) := H.get (i := 0) rfl
  refine ⟨rfl, ?_⟩
  simp only [Pt.take, hp6]
  exact ⟨hR, H.get (i := 1) rfl, H.toOuts _ ⟨(fun g hg => by rw [List.mem_singleton.1 hg]; exact .inl (by simp)), (fun g hg => by rw [List.mem_singleton.1 hg]; exact .inl (by simp)), trivial⟩⟩

set_option maxRecDepth 100000 in
set_option maxHeartbeats 4000000 in
theorem take_slot (gr : Nat) (r : Rd) (g xk xn xr xb xs xo da db dk dz xc : Nat) (xv ds dt du xt : List UInt8) (wl : List Vo) (jl : List Im) (V I : Value) (least : Nat)  (w : World) (hr : Blk w gr 118 (rdC r)) (hg : Blk w g 45 (msL ⟨xk, xn, xr, xb, xs, xo, xv, wl, jl, ⟨da, db, dk, ds, dt, du, dz⟩, xc, xt⟩ V I).toArray) (hne : gr ≠ g) (hrl : r.rest.length ≤ 1000000) : Calls Try.prog 94 #[.pointer (some ⟨gr, 0, none⟩), .pointer (some ⟨g, 0, none⟩)] w fun e w' => e = .returned (.tuple #[]) ∧ Blk w' gr 118 (rdC (Pt.take (.slot least) (⟨xk, xn, xr, xb, xs, xo, xv, wl, jl, ⟨da, db, dk, ds, dt, du, dz⟩, xc, xt⟩, r)).2) ∧ Blk w' g 45 (msL (Pt.take (.slot least) (⟨xk, xn, xr, xb, xs, xo, xv, wl, jl, ⟨da, db, dk, ds, dt, du, dz⟩, xc, xt⟩, r)).1 V I).toArray ∧ Outs [gr, g] w w' := by
  refine sx_enter (n := 9) [.pointer (some ⟨gr, 0, none⟩), .pointer (some ⟨g, 0, none⟩)] Try.func94 rfl rfl rfl (Hp.duo hr hg hne) ?_
  refine SxC.region ?_
  refine SxL.val (v := .pointer (some ⟨g, 0, none⟩)) trivial rfl rfl (fun ρ w E H => ex_move E rfl rfl) ?_
  refine SxL.val (v := .pointer (some ⟨gr, 0, none⟩)) trivial rfl rfl (fun ρ w E H => ex_move E rfl rfl) ?_
  obtain ⟨p6, hp6⟩ : ∃ p, Rd.num r = p := ⟨_, rfl⟩
  refine SxL.call (σ := Unit) (fun _ => .int .u64 (p6.1 : Int)) (fun _ => True) (fun _ => _) trivial rfl rfl (fun ρ w E => ex_call E en_palaver_wire_Reader_Num rfl rfl) (callTurn (i := 0) (cell gr 118 [.int .i64 (p6.2.err : Int), .string ⟨p6.2.rest.toArray⟩]) rfl (cell_loc _ _ _) rfl (fun w H => (num_p hp6 (by skip; omega) w (H.get (i := 0) rfl)).mono fun _ _ h => turn_rd h)) fun _ _ => ?_
  refine SxL.val (v := .pointer (some ⟨g, 0, none⟩)) trivial rfl rfl (fun ρ w E H => ex_nilCheck E rfl rfl) ?_
  refine SxL.val (v := .pointer (some ⟨g, 4, none⟩)) trivial rfl rfl (fun ρ w E H => ex_field E rfl fa_palaver_api_Msg_3 rfl rfl) ?_
  refine SxL.store (i := 1) trivial rfl rfl rfl rfl rfl sz_uint64 rfl rfl rfl ?_
  refine SxL.nil ?_
  refine SxN.done (.tuple #[]) (fun a w K H => res0 rfl) (fun w H => ?_)
  have hR : Blk w gr 118 (rdC p6.2) := H.get (i := 0) rfl
  refine ⟨rfl, ?_⟩
  simp only [Pt.take, hp6]
  exact ⟨hR, H.get (i := 1) rfl, H.toOuts _ ⟨(fun g hg => by rw [List.mem_singleton.1 hg]; exact .inl (by simp)), (fun g hg => by rw [List.mem_singleton.1 hg]; exact .inl (by simp)), trivial⟩⟩

set_option maxRecDepth 100000 in
set_option maxHeartbeats 4000000 in
theorem take_value (gr : Nat) (r : Rd) (g xk xn xr xb xs xo da db dk dz xc : Nat) (xv ds dt du xt : List UInt8) (wl : List Vo) (jl : List Im) (V I : Value)  (w : World) (hr : Blk w gr 118 (rdC r)) (hg : Blk w g 45 (msL ⟨xk, xn, xr, xb, xs, xo, xv, wl, jl, ⟨da, db, dk, ds, dt, du, dz⟩, xc, xt⟩ V I).toArray) (hne : gr ≠ g) (hrl : r.rest.length ≤ 1000000) : Calls Try.prog 108 #[.pointer (some ⟨gr, 0, none⟩), .pointer (some ⟨g, 0, none⟩)] w fun e w' => e = .returned (.tuple #[]) ∧ Blk w' gr 118 (rdC (Pt.take .value (⟨xk, xn, xr, xb, xs, xo, xv, wl, jl, ⟨da, db, dk, ds, dt, du, dz⟩, xc, xt⟩, r)).2) ∧ Blk w' g 45 (msL (Pt.take .value (⟨xk, xn, xr, xb, xs, xo, xv, wl, jl, ⟨da, db, dk, ds, dt, du, dz⟩, xc, xt⟩, r)).1 V I).toArray ∧ Outs [gr, g] w w' := by
  refine sx_enter (n := 9) [.pointer (some ⟨gr, 0, none⟩), .pointer (some ⟨g, 0, none⟩)] Try.func108 rfl rfl rfl (Hp.duo hr hg hne) ?_
  refine SxC.region ?_
  refine SxL.val (v := .pointer (some ⟨g, 0, none⟩)) trivial rfl rfl (fun ρ w E H => ex_move E rfl rfl) ?_
  refine SxL.val (v := .pointer (some ⟨gr, 0, none⟩)) trivial rfl rfl (fun ρ w E H => ex_move E rfl rfl) ?_
  obtain ⟨p6, hp6⟩ : ∃ p, Rd.str r 65536 = p := ⟨_, rfl⟩
  refine SxL.call (σ := Unit) (fun _ => .string ⟨p6.1.toArray⟩) (fun _ => True) (fun _ => _) trivial rfl rfl (fun ρ w E => ex_call E en_palaver_wire_Reader_Str rfl rfl) (callTurn (i := 0) (cell gr 118 [.int .i64 (p6.2.err : Int), .string ⟨p6.2.rest.toArray⟩]) rfl (cell_loc _ _ _) rfl (fun w H => (str_p hp6 (by decide) (by decide) (by skip; omega) w (H.get (i := 0) rfl)).mono fun _ _ h => turn_rd h)) fun _ _ => ?_
  refine SxL.val (v := .pointer (some ⟨g, 0, none⟩)) trivial rfl rfl (fun ρ w E H => ex_nilCheck E rfl rfl) ?_
  refine SxL.val (v := .pointer (some ⟨g, 6, none⟩)) trivial rfl rfl (fun ρ w E H => ex_field E rfl fa_palaver_api_Msg_5 rfl rfl) ?_
  refine SxL.store (i := 1) trivial rfl rfl rfl rfl rfl sz_string rfl rfl rfl ?_
  refine SxL.nil ?_
  refine SxN.done (.tuple #[]) (fun a w K H => res0 rfl) (fun w H => ?_)
  have hR : Blk w gr 118 (rdC p6.2) := H.get (i := 0) rfl
  refine ⟨rfl, ?_⟩
  simp only [Pt.take, hp6]
  exact ⟨hR, H.get (i := 1) rfl, H.toOuts _ ⟨(fun g hg => by rw [List.mem_singleton.1 hg]; exact .inl (by simp)), (fun g hg => by rw [List.mem_singleton.1 hg]; exact .inl (by simp)), trivial⟩⟩

set_option maxRecDepth 100000 in
set_option maxHeartbeats 4000000 in
theorem take_votes (base gr : Nat) (r : Rd) (g xk xn xr xb xs xo da db dk dz xc : Nat) (xv ds dt du xt : List UInt8) (wl : List Vo) (jl : List Im) (V I : Value)  (w : World) (hr : Blk w gr 118 (rdC r)) (hg : Blk w g 45 (msL ⟨xk, xn, xr, xb, xs, xo, xv, wl, jl, ⟨da, db, dk, ds, dt, du, dz⟩, xc, xt⟩ V I).toArray) (hne : gr ≠ g) (hG0 : Grows r wl.length) (hbase : base ≤ w.heap.size) (hown : w.ownsRow base 76 4 V wl.length (wl.flatMap voL)) (hd1 : gr ∉ V.ownBlock.toList) (hd2 : g ∉ V.ownBlock.toList) : Calls Try.prog 103 #[.pointer (some ⟨gr, 0, none⟩), .pointer (some ⟨g, 0, none⟩)] w fun e w' => ∃ V', e = .returned (.tuple #[]) ∧ Blk w' gr 118 (rdC (Pt.take .votes (⟨xk, xn, xr, xb, xs, xo, xv, wl, jl, ⟨da, db, dk, ds, dt, du, dz⟩, xc, xt⟩, r)).2) ∧ Blk w' g 45 (msL (Pt.take .votes (⟨xk, xn, xr, xb, xs, xo, xv, wl, jl, ⟨da, db, dk, ds, dt, du, dz⟩, xc, xt⟩, r)).1 V' I).toArray ∧ w'.ownsRow base 76 4 V' (Pt.take .votes (⟨xk, xn, xr, xb, xs, xo, xv, wl, jl, ⟨da, db, dk, ds, dt, du, dz⟩, xc, xt⟩, r)).1.votes.length ((Pt.take .votes (⟨xk, xn, xr, xb, xs, xo, xv, wl, jl, ⟨da, db, dk, ds, dt, du, dz⟩, xc, xt⟩, r)).1.votes.flatMap voL) ∧ OwnIn w V.ownBlock.toList V' ∧ Outs ([gr, g] ++ V.ownBlock.toList) w w' := by
  have hv0 : OwnIn w V.ownBlock.toList V := OwnIn.refl w V
  have hrl := hG0.h1
  refine sx_enter (n := 35) [.pointer (some ⟨gr, 0, none⟩), .pointer (some ⟨g, 0, none⟩)] Try.func103 rfl rfl rfl (Hp.trio hr hg hne hown hd1 hd2) ?_
  refine SxC.seq ?_
  refine SxC.region ?_
  refine SxL.val (v := .pointer (some ⟨gr, 0, none⟩)) trivial rfl rfl (fun ρ w E H => ex_move E rfl rfl) ?_
  obtain ⟨p7, hp7⟩ : ∃ p, Rd.num r = p := ⟨_, rfl⟩
  refine SxL.call (σ := Unit) (fun _ => .int .u64 (p7.1 : Int)) (fun _ => True) (fun _ => _) trivial rfl rfl (fun ρ w E => ex_call E en_palaver_wire_Reader_Num rfl rfl) (callTurn (i := 1) (cell gr 118 [.int .i64 (p7.2.err : Int), .string ⟨p7.2.rest.toArray⟩]) rfl (cell_loc _ _ _) rfl (fun w H => (num_p hp7 (by have q0 := hrl; omega) w (H.get (i := 1) rfl)).mono fun _ _ h => turn_rd h)) fun _ _ => ?_
  refine SxL.val (v := .int .u64 (p7.1 : Int)) trivial rfl rfl (fun ρ w E H => ex_assign E rfl rfl) ?_
  refine SxL.nil ?_
  refine SxN.then_ ?_
  refine SxC.block ?_
  refine SxC.loop4 (fun (n : Nat) (r1 : Rd) (w1 : List Vo) (V1 : Value) => [(0, .pointer (some ⟨gr, 0, none⟩)), (1, .pointer (some ⟨g, 0, none⟩)), (4, .int .u64 (n : Int))]) (fun (n : Nat) (r1 : Rd) (w1 : List Vo) (V1 : Value) => [rowX V.ownBlock.toList base 76 4 V1 w1.length (w1.flatMap voL), cell gr 118 [.int .i64 (r1.err : Int), .string ⟨r1.rest.toArray⟩], cell g 45 [.int .u8 (xk : Int), .int .u64 (xn : Int), .int .u8 (xr : Int), .int .u64 (xb : Int), .int .u64 (xs : Int), .int .u8 (xo : Int), .string ⟨xv.toArray⟩, V1, I, .int .u8 (da : Int), .int .u32 (db : Int), .int .u8 (dk : Int), .string ⟨ds.toArray⟩, .string ⟨dt.toArray⟩, .string ⟨du.toArray⟩, .int .u8 (dz : Int), .int .u8 (xc : Int), .string ⟨xt.toArray⟩]]) (fun (gk : Nat) (n : Nat) (r1 : Rd) (w1 : List Vo) (V1 : Value) => n = gk ∧ tkV p7.1 p7.2 wl = tkV n r1 w1 ∧ OwnIn w V.ownBlock.toList V1 ∧ Grows r1 w1.length ∧ n < 18446744073709551616) p7.1 p7.1 p7.2 wl V ⟨rfl, rfl, OwnIn.refl w V, hp7 ▸ hG0.num, hp7 ▸ lt_num r⟩ ⟨rfl, rfl, rfl, trivial⟩ [0, 1, 2] rfl (by decide) ⟨.inl rfl, .inl rfl, .inl rfl, trivial⟩ fun gk n r1 w1 V1 hF => ?_
  obtain ⟨hkg, hrel, hv1, hG, hn64⟩ := hF
  refine SxC.seq ?_
  refine SxC.seq ?_
  refine SxC.region ?_
  refine SxL.val (v := .int .u64 (n : Int)) trivial rfl rfl (fun ρ w E H => ex_move E rfl rfl) ?_
  refine SxL.valB trivial rfl rfl (fun ρ w E H => ex_cmp E rfl rfl rfl rfl rfl) fun c9 hc9 => ?_
  refine SxL.val (v := .bool c9) trivial rfl rfl (fun ρ w E H => ex_move E rfl rfl) ?_
  cases c9
  · refine SxL.off ⟨_, _, _, rfl, rfl, rfl, nofun⟩ rfl rfl ?_
    refine SxL.off ⟨_, _, _, rfl, rfl, rfl, nofun⟩ rfl rfl ?_
    refine SxL.off ⟨_, _, _, rfl, rfl, rfl, nofun⟩ rfl rfl ?_
    refine SxL.val (v := .bool false) trivial rfl rfl (fun ρ w E H => ex_pick E rfl (t := false) rfl rfl) ?_
    refine SxL.nil ?_
    refine SxN.then_ ?_
    refine SxC.condF rfl ?_
    refine SxC.exit ?_
    refine SxX.thenE ?_
    refine SxX.thenE ?_
    refine SxX.blockE ?_
    refine SxN.done (.tuple #[]) (fun a w K H => res0 rfl) (fun w H => ?_)
    have hst : tkV p7.1 p7.2 wl = (r1, w1) := by
      rw [hrel]; refine tkV_stop n r1 w1 ?_
      first | (left; have h := hc9; simp [cmpB] at h; omega) | (right; have h := hc13; simp [cmpB] at h; omega)
    have hR : Blk w gr 118 (rdC r1) := H.get (i := 1) rfl
    have e1 : Pt.take .votes (⟨xk, xn, xr, xb, xs, xo, xv, wl, jl, ⟨da, db, dk, ds, dt, du, dz⟩, xc, xt⟩, r) = (⟨xk, xn, xr, xb, xs, xo, xv, w1, jl, ⟨da, db, dk, ds, dt, du, dz⟩, xc, xt⟩, r1) := by simp only [Pt.take, hp7, hst]
    rw [e1]
    exact ⟨V1, rfl, hR, H.get (i := 2) rfl, H.get (i := 0) rfl, hv1, H.toOuts _ ⟨(fun g hg => (hv1.in_ g hg).imp (fun h => by simp [h]) id), (fun g hg => by rw [List.mem_singleton.1 hg]; exact .inl (by simp)), (fun g hg => by rw [List.mem_singleton.1 hg]; exact .inl (by simp)), trivial⟩⟩
  · refine SxL.val (v := .pointer (some ⟨gr, 0, none⟩)) ⟨_, _, rfl, rfl, rfl⟩ rfl rfl (fun ρ w E H => ex_move E rfl rfl) ?_
    refine SxL.callB (v := .int .i64 (r1.err : Int)) ⟨_, _, rfl, rfl, rfl⟩ rfl rfl (fun ρ w E => ex_call E en_palaver_wire_Reader_Err rfl rfl) (fun w H => (err_any gr r1 w (H.get (i := 1) rfl)).mono fun _ _ h => ⟨h.1, h.2 ▸ Below.refl _ _⟩) ?_
    refine SxL.valB ⟨_, _, rfl, rfl, rfl⟩ rfl rfl (fun ρ w E H => ex_cmp E rfl rfl rfl rfl rfl) fun c13 hc13 => ?_
    refine SxL.val (v := .bool c13) trivial rfl rfl (fun ρ w E H => ex_pick E rfl (t := true) rfl rfl) ?_
    refine SxL.nil ?_
    refine SxN.then_ ?_
    cases c13
    · refine SxC.condF rfl ?_
      refine SxC.exit ?_
      refine SxX.thenE ?_
      refine SxX.thenE ?_
      refine SxX.blockE ?_
      refine SxN.done (.tuple #[]) (fun a w K H => res0 rfl) (fun w H => ?_)
      have hst : tkV p7.1 p7.2 wl = (r1, w1) := by
        rw [hrel]; refine tkV_stop n r1 w1 ?_
        first | (left; have h := hc9; simp [cmpB] at h; omega) | (right; have h := hc13; simp [cmpB] at h; omega)
      have hR : Blk w gr 118 (rdC r1) := H.get (i := 1) rfl
      have e1 : Pt.take .votes (⟨xk, xn, xr, xb, xs, xo, xv, wl, jl, ⟨da, db, dk, ds, dt, du, dz⟩, xc, xt⟩, r) = (⟨xk, xn, xr, xb, xs, xo, xv, w1, jl, ⟨da, db, dk, ds, dt, du, dz⟩, xc, xt⟩, r1) := by simp only [Pt.take, hp7, hst]
      rw [e1]
      exact ⟨V1, rfl, hR, H.get (i := 2) rfl, H.get (i := 0) rfl, hv1, H.toOuts _ ⟨(fun g hg => (hv1.in_ g hg).imp (fun h => by simp [h]) id), (fun g hg => by rw [List.mem_singleton.1 hg]; exact .inl (by simp)), (fun g hg => by rw [List.mem_singleton.1 hg]; exact .inl (by simp)), trivial⟩⟩
    · refine SxC.condT rfl ?_
      refine SxC.skip ?_
      refine SxN.then_ ?_
      refine SxC.seq ?_
      refine SxC.block ?_
      refine SxC.seq ?_
      have hn0 : 0 < n := by have := hc9; simp [cmpB] at this; omega
      have he0 : r1.err = 0 := by have := hc13; simp [cmpB] at this; omega
      have hgr := hG.vote he0
      have hb1 := hG.h1
      have hb2 := hG.h2
      refine SxC.region ?_
      refine SxL.val (v := .pointer (some ⟨gr, 0, none⟩)) trivial rfl rfl (fun ρ w E H => ex_move E rfl rfl) ?_
      obtain ⟨p18, hp18⟩ : ∃ p, Rd.num r1 = p := ⟨_, rfl⟩
      refine SxL.call (σ := Unit) (fun _ => .int .u64 (p18.1 : Int)) (fun _ => True) (fun _ => _) trivial rfl rfl (fun ρ w E => ex_call E en_palaver_wire_Reader_Num rfl rfl) (callTurn (i := 1) (cell gr 118 [.int .i64 (p18.2.err : Int), .string ⟨p18.2.rest.toArray⟩]) rfl (cell_loc _ _ _) rfl (fun w H => (num_p hp18 (by have q0 := hb1; omega) w (H.get (i := 1) rfl)).mono fun _ _ h => turn_rd h)) fun _ _ => ?_
      refine SxL.val (v := .pointer (some ⟨gr, 0, none⟩)) trivial rfl rfl (fun ρ w E H => ex_move E rfl rfl) ?_
      obtain ⟨p20, hp20⟩ : ∃ p, Bal.takeB p18.2 = p := ⟨_, rfl⟩
      refine SxL.call (σ := Unit) (fun _ => .agg #[.int .u64 (p20.1.n : Int), .int .u8 (p20.1.r : Int)]) (fun _ => True) (fun _ => _) trivial rfl rfl (fun ρ w E => ex_call E en_palaver_ballot_Take rfl rfl) (callTurn (i := 1) (cell gr 118 [.int .i64 (p20.2.err : Int), .string ⟨p20.2.rest.toArray⟩]) rfl (cell_loc _ _ _) rfl (fun w H => (bal_p hp20 (by have q0 := hb1; have q1 := rp_num hp18; omega) w (H.get (i := 1) rfl)).mono fun _ _ h => turn_rd h)) fun _ _ => ?_
      refine SxL.val (v := .agg #[.int .u64 (p18.1 : Int), .int .u64 (p20.1.n : Int), .int .u8 (p20.1.r : Int), .string ⟨[].toArray⟩]) trivial rfl rfl (fun ρ w E H => ex_build (cs := [.int .u64 (p18.1 : Int), .int .u64 (p20.1.n : Int), .int .u8 (p20.1.r : Int), .string ⟨[].toArray⟩]) E rfl rfl (by kernel_rfl)) ?_
      refine SxL.new (cs := [.int .u64 0, .int .u64 0, .int .u8 0, .string ⟨[].toArray⟩]) trivial rfl rfl (fun ρ w E H => ex_alloc rfl zr_palaver_api_Vote rfl) fun g1 hg1 => ?_
      refine SxL.store (i := 0) trivial rfl rfl rfl rfl rfl sz_palaver_api_Vote rfl rfl rfl ?_
      refine SxL.nil ?_
      refine SxN.then_ ?_
      refine SxC.seq ?_
      refine SxC.region ?_
      refine SxL.val (v := .pointer (some ⟨gr, 0, none⟩)) trivial rfl rfl (fun ρ w E H => ex_move E rfl rfl) ?_
      obtain ⟨p23, hp23⟩ : ∃ p, Rd.str p20.2 65536 = p := ⟨_, rfl⟩
      refine SxL.call (σ := Unit) (fun _ => .string ⟨p23.1.toArray⟩) (fun _ => True) (fun _ => _) trivial rfl rfl (fun ρ w E => ex_call E en_palaver_wire_Reader_Str rfl rfl) (callTurn (i := 2) (cell gr 118 [.int .i64 (p23.2.err : Int), .string ⟨p23.2.rest.toArray⟩]) rfl (cell_loc _ _ _) rfl (fun w H => (str_p hp23 (by decide) (by decide) (by have q0 := hb1; have q1 := rp_num hp18; have q2 := rp_bal hp20; omega) w (H.get (i := 2) rfl)).mono fun _ _ h => turn_rd h)) fun _ _ => ?_
      refine SxL.val (v := .pointer (some ⟨g1, 3, none⟩)) trivial rfl rfl (fun ρ w E H => ex_field E rfl fa_palaver_api_Vote_2 rfl rfl) ?_
      refine SxL.store (i := 0) trivial rfl rfl rfl rfl rfl sz_string rfl rfl rfl ?_
      refine SxL.nil ?_
      refine SxN.then_ ?_
      refine SxC.drawnK (V.ownBlock.toList ++ [gr, g]) [0, 2] (by kernel_rfl) rfl ⟨(fun g hg => by rw [List.mem_singleton.1 hg]; exact .inr hg1), (fun g hg => (hv1.in_ g hg).imp (fun h => by simp only [List.mem_append]; simp [h]) id), (fun g hg => by rw [List.mem_singleton.1 hg]; exact .inl (by simp)), (fun g hg => by rw [List.mem_singleton.1 hg]; exact .inl (by simp)), trivial⟩ ?_
      refine SxA.take (i := 0) (v := .pointer (some ⟨g, 0, none⟩)) rfl (by kernel_rfl) (by kernel_rfl) (by kernel_rfl) rfl rfl (fun _ _ _ h => h) trivial (fun ρ w E H => ex_move E rfl rfl) ?_
      refine SxA.take (i := 1) (v := .pointer (some ⟨g, 0, none⟩)) rfl (by kernel_rfl) (by kernel_rfl) (by kernel_rfl) rfl rfl (fun _ _ _ h => h) trivial (fun ρ w E H => ex_move E rfl rfl) ?_
      refine SxA.take (i := 2) (v := .pointer (some ⟨g, 0, none⟩)) rfl (by kernel_rfl) (by kernel_rfl) (by kernel_rfl) rfl rfl (fun _ _ _ h => h) trivial (fun ρ w E H => ex_nilCheck E rfl rfl) ?_
      refine SxA.take (i := 3) (v := .pointer (some ⟨g, 7, none⟩)) rfl (by kernel_rfl) (by kernel_rfl) (by kernel_rfl) rfl rfl (fun _ _ _ h => h) trivial (fun ρ w E H => ex_field E rfl fa_palaver_api_Msg_6 rfl rfl) ?_
      refine SxA.take (i := 5) (v := .agg #[.int .u64 (p18.1 : Int), .int .u64 (p20.1.n : Int), .int .u8 (p20.1.r : Int), .string ⟨p23.1.toArray⟩]) rfl (by kernel_rfl) (by kernel_rfl) (by kernel_rfl) rfl rfl (fun _ _ _ h => h) trivial (fun ρ w E H => ex_load (part := [.int .u64 (p18.1 : Int), .int .u64 (p20.1.n : Int), .int .u8 (p20.1.r : Int), .string ⟨p23.1.toArray⟩]) E (H.get (i := 0) rfl) rfl rfl Try.underlying76 rfl sz_palaver_api_Vote rfl rfl) ?_
      refine SxA.ready [4, 6] (by kernel_rfl) (by simp) ⟨?_, ?_, trivial⟩
      · refine SxO.val (v := V1) rfl trivial rfl rfl (fun ρ w E H => ex_load1 E (H.get (i := 3) rfl) rfl rfl Try.underlying40 rfl rfl) ?_
        refine SxA.ready [6] (by kernel_rfl) (by simp) ⟨?_, trivial⟩
        refine SxO.newS (cs := [.int .u64 (p18.1 : Int), .int .u64 (p20.1.n : Int), .int .u8 (p20.1.r : Int), .string ⟨p23.1.toArray⟩]) rfl trivial rfl rfl (fun ρ w E H => ex_buildSlice E rfl rfl Try.underlying40 sz_palaver_api_Vote zr_palaver_api_Vote rfl rfl (by kernel_rfl)) (fun g2 w hg2 H => H.ks (V.ownBlock.toList ++ [gr, g]) [1, 3] rfl ⟨(fun g hg => by rw [List.mem_singleton.1 hg]; exact .inr hg2), (fun g hg => by rw [List.mem_singleton.1 hg]; exact .inr hg1), (fun g hg => (hv1.in_ g hg).imp (fun h => by simp only [List.mem_append]; simp [h]) id), (fun g hg => by rw [List.mem_singleton.1 hg]; exact .inl (by simp)), (fun g hg => by rw [List.mem_singleton.1 hg]; exact .inl (by simp)), trivial⟩) fun g2 hg2 => ?_
        refine SxA.ready [7] (by kernel_rfl) (by simp) ⟨?_, trivial⟩
        refine SxO.append (i := 2) (news := [.int .u64 (p18.1 : Int), .int .u64 (p20.1.n : Int), .int .u8 (p20.1.r : Int), .string ⟨p23.1.toArray⟩]) rfl trivial rfl rfl rfl Try.underlying40 nf_palaver_api_Vote rfl rfl rfl rfl hv1 rfl (fun w H => reads_cell H (i := 0) rfl rfl) (one_list rfl) (by unfold maxLen; omega) (by omega) hbase (fun A32 k32 w hv32 H => H.ks (V.ownBlock.toList ++ [gr, g]) [1, 3] rfl ⟨(fun g hg => by rw [List.mem_singleton.1 hg]; exact .inr hg2), (fun g hg => by rw [List.mem_singleton.1 hg]; exact .inr hg1), (fun g hg => (hv32.in_ g hg).imp (fun h => by simp only [List.mem_append]; simp [h]) id), (fun g hg => by rw [List.mem_singleton.1 hg]; exact .inl (by simp)), (fun g hg => by rw [List.mem_singleton.1 hg]; exact .inl (by simp)), trivial⟩) fun A32 k32 hv32 => ?_
        refine SxA.take (i := 8) (v := .pointer (some ⟨g, 0, none⟩)) rfl (by kernel_rfl) (by kernel_rfl) (by kernel_rfl) rfl rfl (fun _ _ _ h => h) trivial (fun ρ w E H => ex_nilCheck E rfl rfl) ?_
        refine SxA.take (i := 9) (v := .pointer (some ⟨g, 7, none⟩)) rfl (by kernel_rfl) (by kernel_rfl) (by kernel_rfl) rfl rfl (fun _ _ _ h => h) trivial (fun ρ w E H => ex_field E rfl fa_palaver_api_Msg_6 rfl rfl) ?_
        refine SxA.ready [10] (by kernel_rfl) (by simp) ⟨?_, trivial⟩
        refine SxO.store (j := 4) rfl trivial rfl rfl rfl rfl rfl sz_api_Vote rfl rfl rfl (fun w H => H.ks (V.ownBlock.toList ++ [gr, g]) [1, 3] rfl ⟨(fun g hg => by rw [List.mem_singleton.1 hg]; exact .inr hg2), (fun g hg => by rw [List.mem_singleton.1 hg]; exact .inr hg1), (fun g hg => (hv32.in_ g hg).imp (fun h => by simp only [List.mem_append]; simp [h]) id), (fun g hg => by rw [List.mem_singleton.1 hg]; exact .inl (by simp)), (fun g hg => by rw [List.mem_singleton.1 hg]; exact .inl (by simp)), trivial⟩) ?_
        refine SxA.done (by kernel_rfl) ?_
        refine SxN.block ?_
        refine SxN.then_ ?_
        refine SxC.region ?_
        refine SxL.val (v := .int .u64 (n : Int)) trivial rfl rfl (fun ρ w E H => ex_move E rfl rfl) ?_
        refine SxL.val (v := .int .u64 ((n - 1 : Nat) : Int)) trivial rfl rfl (fun ρ w E H => ex_sub E rfl rfl rfl (by rw [IntKind.wrap_u64]; omega)) ?_
        refine SxL.val (v := .int .u64 ((n - 1 : Nat) : Int)) trivial rfl rfl (fun ρ w E H => ex_assign E rfl rfl) ?_
        refine SxL.nil ?_
        refine SxN.hp (fun W H => H.re (i := 2) rfl (rowX V.ownBlock.toList base 76 4 (.slice A32 (w1.length + 1) k32) ((w1 ++ [(⟨p18.1, p20.1.n, p20.1.r, p23.1⟩ : Vo)]).length) ((w1 ++ [(⟨p18.1, p20.1.n, p20.1.r, p23.1⟩ : Vo)]).flatMap voL)) (rowX_loc _ _ _ _ _ _ _) rfl (fun h => own_as h (by simp) (by simp [voL]))) ?_
        refine SxN.back (gk - 1) (n - 1, p23.2, w1 ++ [(⟨p18.1, p20.1.n, p20.1.r, p23.1⟩ : Vo)], .slice A32 (w1.length + 1) k32) (by omega) ⟨by omega, by rw [hrel, tkV_step n r1 w1 hn0 he0]; simp only [hp18, hp20, hp23], hv32, by rw [List.length_append]; simp only [hp18, hp20, hp23] at hgr; exact hgr, by omega⟩ ⟨rfl, rfl, rfl, trivial⟩ [2, 3, 4] rfl (by decide) ⟨.inr (fun g hg => by rw [List.mem_singleton.1 hg]; exact hg2), .inr (fun g hg => by rw [List.mem_singleton.1 hg]; exact hg1), .inl rfl, .inl rfl, .inl rfl, trivial⟩
      · refine SxO.newS (cs := [.int .u64 (p18.1 : Int), .int .u64 (p20.1.n : Int), .int .u8 (p20.1.r : Int), .string ⟨p23.1.toArray⟩]) rfl trivial rfl rfl (fun ρ w E H => ex_buildSlice E rfl rfl Try.underlying40 sz_palaver_api_Vote zr_palaver_api_Vote rfl rfl (by kernel_rfl)) (fun g3 w hg3 H => H.ks (V.ownBlock.toList ++ [gr, g]) [1, 3] rfl ⟨(fun g hg => by rw [List.mem_singleton.1 hg]; exact .inr hg3), (fun g hg => by rw [List.mem_singleton.1 hg]; exact .inr hg1), (fun g hg => (hv1.in_ g hg).imp (fun h => by simp only [List.mem_append]; simp [h]) id), (fun g hg => by rw [List.mem_singleton.1 hg]; exact .inl (by simp)), (fun g hg => by rw [List.mem_singleton.1 hg]; exact .inl (by simp)), trivial⟩) fun g3 hg3 => ?_
        refine SxA.ready [4] (by kernel_rfl) (by simp) ⟨?_, trivial⟩
        refine SxO.val (v := V1) rfl trivial rfl rfl (fun ρ w E H => ex_load1 E (H.get (i := 4) rfl) rfl rfl Try.underlying40 rfl rfl) ?_
        refine SxA.ready [7] (by kernel_rfl) (by simp) ⟨?_, trivial⟩
        refine SxO.append (i := 2) (news := [.int .u64 (p18.1 : Int), .int .u64 (p20.1.n : Int), .int .u8 (p20.1.r : Int), .string ⟨p23.1.toArray⟩]) rfl trivial rfl rfl rfl Try.underlying40 nf_palaver_api_Vote rfl rfl rfl rfl hv1 rfl (fun w H => reads_cell H (i := 0) rfl rfl) (one_list rfl) (by unfold maxLen; omega) (by omega) hbase (fun A32 k32 w hv32 H => H.ks (V.ownBlock.toList ++ [gr, g]) [1, 3] rfl ⟨(fun g hg => by rw [List.mem_singleton.1 hg]; exact .inr hg3), (fun g hg => by rw [List.mem_singleton.1 hg]; exact .inr hg1), (fun g hg => (hv32.in_ g hg).imp (fun h => by simp only [List.mem_append]; simp [h]) id), (fun g hg => by rw [List.mem_singleton.1 hg]; exact .inl (by simp)), (fun g hg => by rw [List.mem_singleton.1 hg]; exact .inl (by simp)), trivial⟩) fun A32 k32 hv32 => ?_
        refine SxA.take (i := 8) (v := .pointer (some ⟨g, 0, none⟩)) rfl (by kernel_rfl) (by kernel_rfl) (by kernel_rfl) rfl rfl (fun _ _ _ h => h) trivial (fun ρ w E H => ex_nilCheck E rfl rfl) ?_
        refine SxA.take (i := 9) (v := .pointer (some ⟨g, 7, none⟩)) rfl (by kernel_rfl) (by kernel_rfl) (by kernel_rfl) rfl rfl (fun _ _ _ h => h) trivial (fun ρ w E H => ex_field E rfl fa_palaver_api_Msg_6 rfl rfl) ?_
        refine SxA.ready [10] (by kernel_rfl) (by simp) ⟨?_, trivial⟩
        refine SxO.store (j := 4) rfl trivial rfl rfl rfl rfl rfl sz_api_Vote rfl rfl rfl (fun w H => H.ks (V.ownBlock.toList ++ [gr, g]) [1, 3] rfl ⟨(fun g hg => by rw [List.mem_singleton.1 hg]; exact .inr hg3), (fun g hg => by rw [List.mem_singleton.1 hg]; exact .inr hg1), (fun g hg => (hv32.in_ g hg).imp (fun h => by simp only [List.mem_append]; simp [h]) id), (fun g hg => by rw [List.mem_singleton.1 hg]; exact .inl (by simp)), (fun g hg => by rw [List.mem_singleton.1 hg]; exact .inl (by simp)), trivial⟩) ?_
        refine SxA.done (by kernel_rfl) ?_
        refine SxN.block ?_
        refine SxN.then_ ?_
        refine SxC.region ?_
        refine SxL.val (v := .int .u64 (n : Int)) trivial rfl rfl (fun ρ w E H => ex_move E rfl rfl) ?_
        refine SxL.val (v := .int .u64 ((n - 1 : Nat) : Int)) trivial rfl rfl (fun ρ w E H => ex_sub E rfl rfl rfl (by rw [IntKind.wrap_u64]; omega)) ?_
        refine SxL.val (v := .int .u64 ((n - 1 : Nat) : Int)) trivial rfl rfl (fun ρ w E H => ex_assign E rfl rfl) ?_
        refine SxL.nil ?_
        refine SxN.hp (fun W H => H.re (i := 2) rfl (rowX V.ownBlock.toList base 76 4 (.slice A32 (w1.length + 1) k32) ((w1 ++ [(⟨p18.1, p20.1.n, p20.1.r, p23.1⟩ : Vo)]).length) ((w1 ++ [(⟨p18.1, p20.1.n, p20.1.r, p23.1⟩ : Vo)]).flatMap voL)) (rowX_loc _ _ _ _ _ _ _) rfl (fun h => own_as h (by simp) (by simp [voL]))) ?_
        refine SxN.back (gk - 1) (n - 1, p23.2, w1 ++ [(⟨p18.1, p20.1.n, p20.1.r, p23.1⟩ : Vo)], .slice A32 (w1.length + 1) k32) (by omega) ⟨by omega, by rw [hrel, tkV_step n r1 w1 hn0 he0]; simp only [hp18, hp20, hp23], hv32, by rw [List.length_append]; simp only [hp18, hp20, hp23] at hgr; exact hgr, by omega⟩ ⟨rfl, rfl, rfl, trivial⟩ [2, 3, 4] rfl (by decide) ⟨.inr (fun g hg => by rw [List.mem_singleton.1 hg]; exact hg3), .inr (fun g hg => by rw [List.mem_singleton.1 hg]; exact hg1), .inl rfl, .inl rfl, .inl rfl, trivial⟩

set_option maxRecDepth 100000 in
set_option maxHeartbeats 4000000 in
theorem take_items (base gr : Nat) (r : Rd) (g xk xn xr xb xs xo da db dk dz xc : Nat) (xv ds dt du xt : List UInt8) (wl : List Vo) (jl : List Im) (V I : Value)  (w : World) (hr : Blk w gr 118 (rdC r)) (hg : Blk w g 45 (msL ⟨xk, xn, xr, xb, xs, xo, xv, wl, jl, ⟨da, db, dk, ds, dt, du, dz⟩, xc, xt⟩ V I).toArray) (hne : gr ≠ g) (hG0 : Grows r jl.length) (hbase : base ≤ w.heap.size) (hown : w.ownsRow base 78 2 I jl.length (jl.flatMap imL)) (hd1 : gr ∉ I.ownBlock.toList) (hd2 : g ∉ I.ownBlock.toList) : Calls Try.prog 112 #[.pointer (some ⟨gr, 0, none⟩), .pointer (some ⟨g, 0, none⟩)] w fun e w' => ∃ V', e = .returned (.tuple #[]) ∧ Blk w' gr 118 (rdC (Pt.take .items (⟨xk, xn, xr, xb, xs, xo, xv, wl, jl, ⟨da, db, dk, ds, dt, du, dz⟩, xc, xt⟩, r)).2) ∧ Blk w' g 45 (msL (Pt.take .items (⟨xk, xn, xr, xb, xs, xo, xv, wl, jl, ⟨da, db, dk, ds, dt, du, dz⟩, xc, xt⟩, r)).1 V V').toArray ∧ w'.ownsRow base 78 2 V' (Pt.take .items (⟨xk, xn, xr, xb, xs, xo, xv, wl, jl, ⟨da, db, dk, ds, dt, du, dz⟩, xc, xt⟩, r)).1.items.length ((Pt.take .items (⟨xk, xn, xr, xb, xs, xo, xv, wl, jl, ⟨da, db, dk, ds, dt, du, dz⟩, xc, xt⟩, r)).1.items.flatMap imL) ∧ OwnIn w I.ownBlock.toList V' ∧ Outs ([gr, g] ++ I.ownBlock.toList) w w' := by
  have hv0 : OwnIn w I.ownBlock.toList I := OwnIn.refl w I
  have hrl := hG0.h1
  refine sx_enter (n := 33) [.pointer (some ⟨gr, 0, none⟩), .pointer (some ⟨g, 0, none⟩)] Try.func112 rfl rfl rfl (Hp.trio hr hg hne hown hd1 hd2) ?_
  refine SxC.seq ?_
  refine SxC.region ?_
  refine SxL.val (v := .pointer (some ⟨gr, 0, none⟩)) trivial rfl rfl (fun ρ w E H => ex_move E rfl rfl) ?_
  obtain ⟨p7, hp7⟩ : ∃ p, Rd.num r = p := ⟨_, rfl⟩
  refine SxL.call (σ := Unit) (fun _ => .int .u64 (p7.1 : Int)) (fun _ => True) (fun _ => _) trivial rfl rfl (fun ρ w E => ex_call E en_palaver_wire_Reader_Num rfl rfl) (callTurn (i := 1) (cell gr 118 [.int .i64 (p7.2.err : Int), .string ⟨p7.2.rest.toArray⟩]) rfl (cell_loc _ _ _) rfl (fun w H => (num_p hp7 (by have q0 := hrl; omega) w (H.get (i := 1) rfl)).mono fun _ _ h => turn_rd h)) fun _ _ => ?_
  refine SxL.val (v := .int .u64 (p7.1 : Int)) trivial rfl rfl (fun ρ w E H => ex_assign E rfl rfl) ?_
  refine SxL.nil ?_
  refine SxN.then_ ?_
  refine SxC.block ?_
  refine SxC.loop4 (fun (n : Nat) (r1 : Rd) (w1 : List Im) (V1 : Value) => [(0, .pointer (some ⟨gr, 0, none⟩)), (1, .pointer (some ⟨g, 0, none⟩)), (4, .int .u64 (n : Int))]) (fun (n : Nat) (r1 : Rd) (w1 : List Im) (V1 : Value) => [rowX I.ownBlock.toList base 78 2 V1 w1.length (w1.flatMap imL), cell gr 118 [.int .i64 (r1.err : Int), .string ⟨r1.rest.toArray⟩], cell g 45 [.int .u8 (xk : Int), .int .u64 (xn : Int), .int .u8 (xr : Int), .int .u64 (xb : Int), .int .u64 (xs : Int), .int .u8 (xo : Int), .string ⟨xv.toArray⟩, V, V1, .int .u8 (da : Int), .int .u32 (db : Int), .int .u8 (dk : Int), .string ⟨ds.toArray⟩, .string ⟨dt.toArray⟩, .string ⟨du.toArray⟩, .int .u8 (dz : Int), .int .u8 (xc : Int), .string ⟨xt.toArray⟩]]) (fun (gk : Nat) (n : Nat) (r1 : Rd) (w1 : List Im) (V1 : Value) => n = gk ∧ tkI p7.1 p7.2 jl = tkI n r1 w1 ∧ OwnIn w I.ownBlock.toList V1 ∧ Grows r1 w1.length ∧ n < 18446744073709551616) p7.1 p7.1 p7.2 jl I ⟨rfl, rfl, OwnIn.refl w I, hp7 ▸ hG0.num, hp7 ▸ lt_num r⟩ ⟨rfl, rfl, rfl, trivial⟩ [0, 1, 2] rfl (by decide) ⟨.inl rfl, .inl rfl, .inl rfl, trivial⟩ fun gk n r1 w1 V1 hF => ?_
  obtain ⟨hkg, hrel, hv1, hG, hn64⟩ := hF
  refine SxC.seq ?_
  refine SxC.seq ?_
  refine SxC.region ?_
  refine SxL.val (v := .int .u64 (n : Int)) trivial rfl rfl (fun ρ w E H => ex_move E rfl rfl) ?_
  refine SxL.valB trivial rfl rfl (fun ρ w E H => ex_cmp E rfl rfl rfl rfl rfl) fun c9 hc9 => ?_
  refine SxL.val (v := .bool c9) trivial rfl rfl (fun ρ w E H => ex_move E rfl rfl) ?_
  cases c9
  · refine SxL.off ⟨_, _, _, rfl, rfl, rfl, nofun⟩ rfl rfl ?_
    refine SxL.off ⟨_, _, _, rfl, rfl, rfl, nofun⟩ rfl rfl ?_
    refine SxL.off ⟨_, _, _, rfl, rfl, rfl, nofun⟩ rfl rfl ?_
    refine SxL.val (v := .bool false) trivial rfl rfl (fun ρ w E H => ex_pick E rfl (t := false) rfl rfl) ?_
    refine SxL.nil ?_
    refine SxN.then_ ?_
    refine SxC.condF rfl ?_
    refine SxC.exit ?_
    refine SxX.thenE ?_
    refine SxX.thenE ?_
    refine SxX.blockE ?_
    refine SxN.done (.tuple #[]) (fun a w K H => res0 rfl) (fun w H => ?_)
    have hst : tkI p7.1 p7.2 jl = (r1, w1) := by
      rw [hrel]; refine tkI_stop n r1 w1 ?_
      first | (left; have h := hc9; simp [cmpB] at h; omega) | (right; have h := hc13; simp [cmpB] at h; omega)
    have hR : Blk w gr 118 (rdC r1) := H.get (i := 1) rfl
    have e1 : Pt.take .items (⟨xk, xn, xr, xb, xs, xo, xv, wl, jl, ⟨da, db, dk, ds, dt, du, dz⟩, xc, xt⟩, r) = (⟨xk, xn, xr, xb, xs, xo, xv, wl, w1, ⟨da, db, dk, ds, dt, du, dz⟩, xc, xt⟩, r1) := by simp only [Pt.take, hp7, hst]
    rw [e1]
    exact ⟨V1, rfl, hR, H.get (i := 2) rfl, H.get (i := 0) rfl, hv1, H.toOuts _ ⟨(fun g hg => (hv1.in_ g hg).imp (fun h => by simp [h]) id), (fun g hg => by rw [List.mem_singleton.1 hg]; exact .inl (by simp)), (fun g hg => by rw [List.mem_singleton.1 hg]; exact .inl (by simp)), trivial⟩⟩
  · refine SxL.val (v := .pointer (some ⟨gr, 0, none⟩)) ⟨_, _, rfl, rfl, rfl⟩ rfl rfl (fun ρ w E H => ex_move E rfl rfl) ?_
    refine SxL.callB (v := .int .i64 (r1.err : Int)) ⟨_, _, rfl, rfl, rfl⟩ rfl rfl (fun ρ w E => ex_call E en_palaver_wire_Reader_Err rfl rfl) (fun w H => (err_any gr r1 w (H.get (i := 1) rfl)).mono fun _ _ h => ⟨h.1, h.2 ▸ Below.refl _ _⟩) ?_
    refine SxL.valB ⟨_, _, rfl, rfl, rfl⟩ rfl rfl (fun ρ w E H => ex_cmp E rfl rfl rfl rfl rfl) fun c13 hc13 => ?_
    refine SxL.val (v := .bool c13) trivial rfl rfl (fun ρ w E H => ex_pick E rfl (t := true) rfl rfl) ?_
    refine SxL.nil ?_
    refine SxN.then_ ?_
    cases c13
    · refine SxC.condF rfl ?_
      refine SxC.exit ?_
      refine SxX.thenE ?_
      refine SxX.thenE ?_
      refine SxX.blockE ?_
      refine SxN.done (.tuple #[]) (fun a w K H => res0 rfl) (fun w H => ?_)
      have hst : tkI p7.1 p7.2 jl = (r1, w1) := by
        rw [hrel]; refine tkI_stop n r1 w1 ?_
        first | (left; have h := hc9; simp [cmpB] at h; omega) | (right; have h := hc13; simp [cmpB] at h; omega)
      have hR : Blk w gr 118 (rdC r1) := H.get (i := 1) rfl
      have e1 : Pt.take .items (⟨xk, xn, xr, xb, xs, xo, xv, wl, jl, ⟨da, db, dk, ds, dt, du, dz⟩, xc, xt⟩, r) = (⟨xk, xn, xr, xb, xs, xo, xv, wl, w1, ⟨da, db, dk, ds, dt, du, dz⟩, xc, xt⟩, r1) := by simp only [Pt.take, hp7, hst]
      rw [e1]
      exact ⟨V1, rfl, hR, H.get (i := 2) rfl, H.get (i := 0) rfl, hv1, H.toOuts _ ⟨(fun g hg => (hv1.in_ g hg).imp (fun h => by simp [h]) id), (fun g hg => by rw [List.mem_singleton.1 hg]; exact .inl (by simp)), (fun g hg => by rw [List.mem_singleton.1 hg]; exact .inl (by simp)), trivial⟩⟩
    · refine SxC.condT rfl ?_
      refine SxC.skip ?_
      refine SxN.then_ ?_
      refine SxC.seq ?_
      refine SxC.block ?_
      refine SxC.seq ?_
      have hn0 : 0 < n := by have := hc9; simp [cmpB] at this; omega
      have he0 : r1.err = 0 := by have := hc13; simp [cmpB] at this; omega
      have hgr := hG.item he0
      have hb1 := hG.h1
      have hb2 := hG.h2
      refine SxC.region ?_
      refine SxL.val (v := .pointer (some ⟨gr, 0, none⟩)) trivial rfl rfl (fun ρ w E H => ex_move E rfl rfl) ?_
      obtain ⟨p18, hp18⟩ : ∃ p, Rd.num r1 = p := ⟨_, rfl⟩
      refine SxL.call (σ := Unit) (fun _ => .int .u64 (p18.1 : Int)) (fun _ => True) (fun _ => _) trivial rfl rfl (fun ρ w E => ex_call E en_palaver_wire_Reader_Num rfl rfl) (callTurn (i := 1) (cell gr 118 [.int .i64 (p18.2.err : Int), .string ⟨p18.2.rest.toArray⟩]) rfl (cell_loc _ _ _) rfl (fun w H => (num_p hp18 (by have q0 := hb1; omega) w (H.get (i := 1) rfl)).mono fun _ _ h => turn_rd h)) fun _ _ => ?_
      refine SxL.val (v := .agg #[.int .u64 (p18.1 : Int), .string ⟨[].toArray⟩]) trivial rfl rfl (fun ρ w E H => ex_build (cs := [.int .u64 (p18.1 : Int), .string ⟨[].toArray⟩]) E rfl rfl (by kernel_rfl)) ?_
      refine SxL.new (cs := [.int .u64 0, .string ⟨[].toArray⟩]) trivial rfl rfl (fun ρ w E H => ex_alloc rfl zr_palaver_api_Item rfl) fun g1 hg1 => ?_
      refine SxL.store (i := 0) trivial rfl rfl rfl rfl rfl sz_palaver_api_Item rfl rfl rfl ?_
      refine SxL.nil ?_
      refine SxN.then_ ?_
      refine SxC.seq ?_
      refine SxC.region ?_
      refine SxL.val (v := .pointer (some ⟨gr, 0, none⟩)) trivial rfl rfl (fun ρ w E H => ex_move E rfl rfl) ?_
      obtain ⟨p21, hp21⟩ : ∃ p, Rd.str p18.2 65536 = p := ⟨_, rfl⟩
      refine SxL.call (σ := Unit) (fun _ => .string ⟨p21.1.toArray⟩) (fun _ => True) (fun _ => _) trivial rfl rfl (fun ρ w E => ex_call E en_palaver_wire_Reader_Str rfl rfl) (callTurn (i := 2) (cell gr 118 [.int .i64 (p21.2.err : Int), .string ⟨p21.2.rest.toArray⟩]) rfl (cell_loc _ _ _) rfl (fun w H => (str_p hp21 (by decide) (by decide) (by have q0 := hb1; have q1 := rp_num hp18; omega) w (H.get (i := 2) rfl)).mono fun _ _ h => turn_rd h)) fun _ _ => ?_
      refine SxL.val (v := .pointer (some ⟨g1, 1, none⟩)) trivial rfl rfl (fun ρ w E H => ex_field E rfl fa_palaver_api_Item_1 rfl rfl) ?_
      refine SxL.store (i := 0) trivial rfl rfl rfl rfl rfl sz_string rfl rfl rfl ?_
      refine SxL.nil ?_
      refine SxN.then_ ?_
      refine SxC.drawnK (I.ownBlock.toList ++ [gr, g]) [0, 2] (by kernel_rfl) rfl ⟨(fun g hg => by rw [List.mem_singleton.1 hg]; exact .inr hg1), (fun g hg => (hv1.in_ g hg).imp (fun h => by simp only [List.mem_append]; simp [h]) id), (fun g hg => by rw [List.mem_singleton.1 hg]; exact .inl (by simp)), (fun g hg => by rw [List.mem_singleton.1 hg]; exact .inl (by simp)), trivial⟩ ?_
      refine SxA.take (i := 0) (v := .pointer (some ⟨g, 0, none⟩)) rfl (by kernel_rfl) (by kernel_rfl) (by kernel_rfl) rfl rfl (fun _ _ _ h => h) trivial (fun ρ w E H => ex_move E rfl rfl) ?_
      refine SxA.take (i := 1) (v := .pointer (some ⟨g, 0, none⟩)) rfl (by kernel_rfl) (by kernel_rfl) (by kernel_rfl) rfl rfl (fun _ _ _ h => h) trivial (fun ρ w E H => ex_move E rfl rfl) ?_
      refine SxA.take (i := 2) (v := .pointer (some ⟨g, 0, none⟩)) rfl (by kernel_rfl) (by kernel_rfl) (by kernel_rfl) rfl rfl (fun _ _ _ h => h) trivial (fun ρ w E H => ex_nilCheck E rfl rfl) ?_
      refine SxA.take (i := 3) (v := .pointer (some ⟨g, 8, none⟩)) rfl (by kernel_rfl) (by kernel_rfl) (by kernel_rfl) rfl rfl (fun _ _ _ h => h) trivial (fun ρ w E H => ex_field E rfl fa_palaver_api_Msg_7 rfl rfl) ?_
      refine SxA.take (i := 5) (v := .agg #[.int .u64 (p18.1 : Int), .string ⟨p21.1.toArray⟩]) rfl (by kernel_rfl) (by kernel_rfl) (by kernel_rfl) rfl rfl (fun _ _ _ h => h) trivial (fun ρ w E H => ex_load (part := [.int .u64 (p18.1 : Int), .string ⟨p21.1.toArray⟩]) E (H.get (i := 0) rfl) rfl rfl Try.underlying78 rfl sz_palaver_api_Item rfl rfl) ?_
      refine SxA.ready [4, 6] (by kernel_rfl) (by simp) ⟨?_, ?_, trivial⟩
      · refine SxO.val (v := V1) rfl trivial rfl rfl (fun ρ w E H => ex_load1 E (H.get (i := 3) rfl) rfl rfl Try.underlying41 rfl rfl) ?_
        refine SxA.ready [6] (by kernel_rfl) (by simp) ⟨?_, trivial⟩
        refine SxO.newS (cs := [.int .u64 (p18.1 : Int), .string ⟨p21.1.toArray⟩]) rfl trivial rfl rfl (fun ρ w E H => ex_buildSlice E rfl rfl Try.underlying41 sz_palaver_api_Item zr_palaver_api_Item rfl rfl (by kernel_rfl)) (fun g2 w hg2 H => H.ks (I.ownBlock.toList ++ [gr, g]) [1, 3] rfl ⟨(fun g hg => by rw [List.mem_singleton.1 hg]; exact .inr hg2), (fun g hg => by rw [List.mem_singleton.1 hg]; exact .inr hg1), (fun g hg => (hv1.in_ g hg).imp (fun h => by simp only [List.mem_append]; simp [h]) id), (fun g hg => by rw [List.mem_singleton.1 hg]; exact .inl (by simp)), (fun g hg => by rw [List.mem_singleton.1 hg]; exact .inl (by simp)), trivial⟩) fun g2 hg2 => ?_
        refine SxA.ready [7] (by kernel_rfl) (by simp) ⟨?_, trivial⟩
        refine SxO.append (i := 2) (news := [.int .u64 (p18.1 : Int), .string ⟨p21.1.toArray⟩]) rfl trivial rfl rfl rfl Try.underlying41 nf_palaver_api_Item rfl rfl rfl rfl hv1 rfl (fun w H => reads_cell H (i := 0) rfl rfl) (one_list rfl) (by unfold maxLen; omega) (by omega) hbase (fun A30 k30 w hv30 H => H.ks (I.ownBlock.toList ++ [gr, g]) [1, 3] rfl ⟨(fun g hg => by rw [List.mem_singleton.1 hg]; exact .inr hg2), (fun g hg => by rw [List.mem_singleton.1 hg]; exact .inr hg1), (fun g hg => (hv30.in_ g hg).imp (fun h => by simp only [List.mem_append]; simp [h]) id), (fun g hg => by rw [List.mem_singleton.1 hg]; exact .inl (by simp)), (fun g hg => by rw [List.mem_singleton.1 hg]; exact .inl (by simp)), trivial⟩) fun A30 k30 hv30 => ?_
        refine SxA.take (i := 8) (v := .pointer (some ⟨g, 0, none⟩)) rfl (by kernel_rfl) (by kernel_rfl) (by kernel_rfl) rfl rfl (fun _ _ _ h => h) trivial (fun ρ w E H => ex_nilCheck E rfl rfl) ?_
        refine SxA.take (i := 9) (v := .pointer (some ⟨g, 8, none⟩)) rfl (by kernel_rfl) (by kernel_rfl) (by kernel_rfl) rfl rfl (fun _ _ _ h => h) trivial (fun ρ w E H => ex_field E rfl fa_palaver_api_Msg_7 rfl rfl) ?_
        refine SxA.ready [10] (by kernel_rfl) (by simp) ⟨?_, trivial⟩
        refine SxO.store (j := 4) rfl trivial rfl rfl rfl rfl rfl sz_api_Item rfl rfl rfl (fun w H => H.ks (I.ownBlock.toList ++ [gr, g]) [1, 3] rfl ⟨(fun g hg => by rw [List.mem_singleton.1 hg]; exact .inr hg2), (fun g hg => by rw [List.mem_singleton.1 hg]; exact .inr hg1), (fun g hg => (hv30.in_ g hg).imp (fun h => by simp only [List.mem_append]; simp [h]) id), (fun g hg => by rw [List.mem_singleton.1 hg]; exact .inl (by simp)), (fun g hg => by rw [List.mem_singleton.1 hg]; exact .inl (by simp)), trivial⟩) ?_
        refine SxA.done (by kernel_rfl) ?_
        refine SxN.block ?_
        refine SxN.then_ ?_
        refine SxC.region ?_
        refine SxL.val (v := .int .u64 (n : Int)) trivial rfl rfl (fun ρ w E H => ex_move E rfl rfl) ?_
        refine SxL.val (v := .int .u64 ((n - 1 : Nat) : Int)) trivial rfl rfl (fun ρ w E H => ex_sub E rfl rfl rfl (by rw [IntKind.wrap_u64]; omega)) ?_
        refine SxL.val (v := .int .u64 ((n - 1 : Nat) : Int)) trivial rfl rfl (fun ρ w E H => ex_assign E rfl rfl) ?_
        refine SxL.nil ?_
        refine SxN.hp (fun W H => H.re (i := 2) rfl (rowX I.ownBlock.toList base 78 2 (.slice A30 (w1.length + 1) k30) ((w1 ++ [(⟨p18.1, p21.1⟩ : Im)]).length) ((w1 ++ [(⟨p18.1, p21.1⟩ : Im)]).flatMap imL)) (rowX_loc _ _ _ _ _ _ _) rfl (fun h => own_as h (by simp) (by simp [imL]))) ?_
        refine SxN.back (gk - 1) (n - 1, p21.2, w1 ++ [(⟨p18.1, p21.1⟩ : Im)], .slice A30 (w1.length + 1) k30) (by omega) ⟨by omega, by rw [hrel, tkI_step n r1 w1 hn0 he0]; simp only [hp18, hp21], hv30, by rw [List.length_append]; simp only [hp18, hp21] at hgr; exact hgr, by omega⟩ ⟨rfl, rfl, rfl, trivial⟩ [2, 3, 4] rfl (by decide) ⟨.inr (fun g hg => by rw [List.mem_singleton.1 hg]; exact hg2), .inr (fun g hg => by rw [List.mem_singleton.1 hg]; exact hg1), .inl rfl, .inl rfl, .inl rfl, trivial⟩
      · refine SxO.newS (cs := [.int .u64 (p18.1 : Int), .string ⟨p21.1.toArray⟩]) rfl trivial rfl rfl (fun ρ w E H => ex_buildSlice E rfl rfl Try.underlying41 sz_palaver_api_Item zr_palaver_api_Item rfl rfl (by kernel_rfl)) (fun g3 w hg3 H => H.ks (I.ownBlock.toList ++ [gr, g]) [1, 3] rfl ⟨(fun g hg => by rw [List.mem_singleton.1 hg]; exact .inr hg3), (fun g hg => by rw [List.mem_singleton.1 hg]; exact .inr hg1), (fun g hg => (hv1.in_ g hg).imp (fun h => by simp only [List.mem_append]; simp [h]) id), (fun g hg => by rw [List.mem_singleton.1 hg]; exact .inl (by simp)), (fun g hg => by rw [List.mem_singleton.1 hg]; exact .inl (by simp)), trivial⟩) fun g3 hg3 => ?_
        refine SxA.ready [4] (by kernel_rfl) (by simp) ⟨?_, trivial⟩
        refine SxO.val (v := V1) rfl trivial rfl rfl (fun ρ w E H => ex_load1 E (H.get (i := 4) rfl) rfl rfl Try.underlying41 rfl rfl) ?_
        refine SxA.ready [7] (by kernel_rfl) (by simp) ⟨?_, trivial⟩
        refine SxO.append (i := 2) (news := [.int .u64 (p18.1 : Int), .string ⟨p21.1.toArray⟩]) rfl trivial rfl rfl rfl Try.underlying41 nf_palaver_api_Item rfl rfl rfl rfl hv1 rfl (fun w H => reads_cell H (i := 0) rfl rfl) (one_list rfl) (by unfold maxLen; omega) (by omega) hbase (fun A30 k30 w hv30 H => H.ks (I.ownBlock.toList ++ [gr, g]) [1, 3] rfl ⟨(fun g hg => by rw [List.mem_singleton.1 hg]; exact .inr hg3), (fun g hg => by rw [List.mem_singleton.1 hg]; exact .inr hg1), (fun g hg => (hv30.in_ g hg).imp (fun h => by simp only [List.mem_append]; simp [h]) id), (fun g hg => by rw [List.mem_singleton.1 hg]; exact .inl (by simp)), (fun g hg => by rw [List.mem_singleton.1 hg]; exact .inl (by simp)), trivial⟩) fun A30 k30 hv30 => ?_
        refine SxA.take (i := 8) (v := .pointer (some ⟨g, 0, none⟩)) rfl (by kernel_rfl) (by kernel_rfl) (by kernel_rfl) rfl rfl (fun _ _ _ h => h) trivial (fun ρ w E H => ex_nilCheck E rfl rfl) ?_
        refine SxA.take (i := 9) (v := .pointer (some ⟨g, 8, none⟩)) rfl (by kernel_rfl) (by kernel_rfl) (by kernel_rfl) rfl rfl (fun _ _ _ h => h) trivial (fun ρ w E H => ex_field E rfl fa_palaver_api_Msg_7 rfl rfl) ?_
        refine SxA.ready [10] (by kernel_rfl) (by simp) ⟨?_, trivial⟩
        refine SxO.store (j := 4) rfl trivial rfl rfl rfl rfl rfl sz_api_Item rfl rfl rfl (fun w H => H.ks (I.ownBlock.toList ++ [gr, g]) [1, 3] rfl ⟨(fun g hg => by rw [List.mem_singleton.1 hg]; exact .inr hg3), (fun g hg => by rw [List.mem_singleton.1 hg]; exact .inr hg1), (fun g hg => (hv30.in_ g hg).imp (fun h => by simp only [List.mem_append]; simp [h]) id), (fun g hg => by rw [List.mem_singleton.1 hg]; exact .inl (by simp)), (fun g hg => by rw [List.mem_singleton.1 hg]; exact .inl (by simp)), trivial⟩) ?_
        refine SxA.done (by kernel_rfl) ?_
        refine SxN.block ?_
        refine SxN.then_ ?_
        refine SxC.region ?_
        refine SxL.val (v := .int .u64 (n : Int)) trivial rfl rfl (fun ρ w E H => ex_move E rfl rfl) ?_
        refine SxL.val (v := .int .u64 ((n - 1 : Nat) : Int)) trivial rfl rfl (fun ρ w E H => ex_sub E rfl rfl rfl (by rw [IntKind.wrap_u64]; omega)) ?_
        refine SxL.val (v := .int .u64 ((n - 1 : Nat) : Int)) trivial rfl rfl (fun ρ w E H => ex_assign E rfl rfl) ?_
        refine SxL.nil ?_
        refine SxN.hp (fun W H => H.re (i := 2) rfl (rowX I.ownBlock.toList base 78 2 (.slice A30 (w1.length + 1) k30) ((w1 ++ [(⟨p18.1, p21.1⟩ : Im)]).length) ((w1 ++ [(⟨p18.1, p21.1⟩ : Im)]).flatMap imL)) (rowX_loc _ _ _ _ _ _ _) rfl (fun h => own_as h (by simp) (by simp [imL]))) ?_
        refine SxN.back (gk - 1) (n - 1, p21.2, w1 ++ [(⟨p18.1, p21.1⟩ : Im)], .slice A30 (w1.length + 1) k30) (by omega) ⟨by omega, by rw [hrel, tkI_step n r1 w1 hn0 he0]; simp only [hp18, hp21], hv30, by rw [List.length_append]; simp only [hp18, hp21] at hgr; exact hgr, by omega⟩ ⟨rfl, rfl, rfl, trivial⟩ [2, 3, 4] rfl (by decide) ⟨.inr (fun g hg => by rw [List.mem_singleton.1 hg]; exact hg3), .inr (fun g hg => by rw [List.mem_singleton.1 hg]; exact hg1), .inl rfl, .inl rfl, .inl rfl, trivial⟩
end Go.Proofs.Yteiaiilfekojfaa.Msg
end
section
set_option linter.unusedVariables false
set_option linter.unusedSimpArgs false
namespace Go.Proofs.Yteiaiilfekojfaa.Msg
open Go.RowKit Wire Sx DrawInv

def Pt.cap : Pt → Nat → List Value
  | .slot _, g => [.pointer (some ⟨g, 0, none⟩)]
  | _, _ => []
def Pt.caps : Pt → Nat → List Nat
  | .slot _, g => [g]
  | _, _ => []
def CapOk (w : World) : Pt → Nat → Prop
  | .slot l, g => Blk w g 37 #[.int .u64 (l : Int)]
  | _, _ => True
def ptL (p : Pt) (g : Nat) : List Value := [.func (.func p.putF) #[] #[], .func (.func p.takeF) #[] #[], .func (.func p.moveF) #[] #[], .func (.func p.mayF) #[] (p.cap g).toArray]
def ptsL (q : List (Pt × Nat)) : List Value := q.flatMap fun x => ptL x.1 x.2
def capsOf (q : List (Pt × Nat)) : List Nat := q.flatMap fun x => x.1.caps x.2
/-- The parts of a kind, in memory. -/
def PartsAt (w : World) (gb : Nat) (q : List (Pt × Nat)) : Prop := (q ≠ [] → Blk w gb 94 (ptsL q).toArray) ∧ ∀ x ∈ q, CapOk w x.1 x.2
def partsF (gb : Nat) (q : List (Pt × Nat)) : Ft := ⟨(if q = [] then [] else [gb]) ++ capsOf q, fun w => PartsAt w gb q⟩
theorem caps_loc {w w' : World} {p : Pt} {g : Nat} (h : ∀ b ∈ p.caps g, w'.heap[b]? = w.heap[b]?) (hc : CapOk w p g) : CapOk w' p g := by
  cases p with
  | slot l => exact (h g (List.mem_singleton.2 rfl)).trans hc
  | _ => trivial
theorem partsF_loc (gb : Nat) (q : List (Pt × Nat)) : (partsF gb q).Loc := by
  intro w w' h hp
  refine ⟨fun hq => ?_, fun x hx => caps_loc (fun b hb => h b ?_) (hp.2 x hx)⟩
  · refine (h gb ?_).trans (hp.1 hq)
    simp [partsF, hq]
  · exact List.mem_append.2 (.inr (List.mem_flatMap.2 ⟨x, hx, hb⟩))
theorem parts_row {w : World} {gb : Nat} {q : List (Pt × Nat)} (h : (partsF gb q).φ w) {k : Nat} {p : Pt} {gc : Nat} (hk : q[k]? = some (p, gc)) : RowAt w ((⟨gb, 0, none⟩ : Addr).add (k * 4)) (ptL p gc) := by
  intro j v hj
  have hne : q ≠ [] := by rintro rfl; cases hk
  have hb := (h.1 hne).cell (k * 4 + j)
  rw [add_add, add_none, Nat.zero_add, hb]
  have hj4 : j < 4 := (List.getElem?_eq_some_iff.1 hj).1
  have := flat_get (cells := fun x : Pt × Nat => ptL x.1 x.2) (sz := 4) (fun _ => rfl) q k j hj4
  rw [hk] at this
  simpa [ptsL, this] using hj
theorem parts_cap {w : World} {gb : Nat} {q : List (Pt × Nat)} (h : (partsF gb q).φ w) {k : Nat} {p : Pt} {gc : Nat} (hk : q[k]? = some (p, gc)) : CapOk w p gc := h.2 _ (List.mem_of_getElem? hk)
set_option maxRecDepth 100000 in
theorem enters_may (p : Pt) : Enters Try.prog p.mayF := by
  cases p with
  | cmd => exact enters_of Try.func71 (by kernel_rfl) rfl
  | name => exact enters_of Try.func75 (by kernel_rfl) rfl
  | reply => exact enters_of Try.func81 (by kernel_rfl) rfl
  | node => exact enters_of Try.func85 (by kernel_rfl) rfl
  | turn => exact enters_of Try.func91 (by kernel_rfl) rfl
  | floor => exact enters_of Try.func101 (by kernel_rfl) rfl
  | slot _ => exact enters_of Try.func97 (by kernel_rfl) rfl
  | value => exact enters_of Try.func110 (by kernel_rfl) rfl
  | votes => exact enters_of Try.func106 (by kernel_rfl) rfl
  | items => exact enters_of Try.func115 (by kernel_rfl) rfl
set_option maxRecDepth 100000 in
theorem enters_put (p : Pt) : Enters Try.prog p.putF := by
  cases p with
  | cmd => exact enters_of Try.func66 (by kernel_rfl) rfl
  | name => exact enters_of Try.func72 (by kernel_rfl) rfl
  | reply => exact enters_of Try.func76 (by kernel_rfl) rfl
  | node => exact enters_of Try.func82 (by kernel_rfl) rfl
  | turn => exact enters_of Try.func86 (by kernel_rfl) rfl
  | floor => exact enters_of Try.func98 (by kernel_rfl) rfl
  | slot _ => exact enters_of Try.func93 (by kernel_rfl) rfl
  | value => exact enters_of Try.func107 (by kernel_rfl) rfl
  | votes => exact enters_of Try.func102 (by kernel_rfl) rfl
  | items => exact enters_of Try.func111 (by kernel_rfl) rfl
set_option maxRecDepth 100000 in
theorem enters_take (p : Pt) : Enters Try.prog p.takeF := by
  cases p with
  | cmd => exact enters_of Try.func68 (by kernel_rfl) rfl
  | name => exact enters_of Try.func73 (by kernel_rfl) rfl
  | reply => exact enters_of Try.func78 (by kernel_rfl) rfl
  | node => exact enters_of Try.func83 (by kernel_rfl) rfl
  | turn => exact enters_of Try.func88 (by kernel_rfl) rfl
  | floor => exact enters_of Try.func99 (by kernel_rfl) rfl
  | slot _ => exact enters_of Try.func94 (by kernel_rfl) rfl
  | value => exact enters_of Try.func108 (by kernel_rfl) rfl
  | votes => exact enters_of Try.func103 (by kernel_rfl) rfl
  | items => exact enters_of Try.func112 (by kernel_rfl) rfl
set_option maxRecDepth 100000 in
theorem enters_move (p : Pt) : Enters Try.prog p.moveF := by
  cases p with
  | cmd => exact enters_of Try.func70 (by kernel_rfl) rfl
  | name => exact enters_of Try.func74 (by kernel_rfl) rfl
  | reply => exact enters_of Try.func80 (by kernel_rfl) rfl
  | node => exact enters_of Try.func84 (by kernel_rfl) rfl
  | turn => exact enters_of Try.func90 (by kernel_rfl) rfl
  | floor => exact enters_of Try.func100 (by kernel_rfl) rfl
  | slot _ => exact enters_of Try.func96 (by kernel_rfl) rfl
  | value => exact enters_of Try.func109 (by kernel_rfl) rfl
  | votes => exact enters_of Try.func104 (by kernel_rfl) rfl
  | items => exact enters_of Try.func113 (by kernel_rfl) rfl
def msV (m : Ms) (A : Option Addr) (ka : Nat) (B : Option Addr) (kb : Nat) : Value := .agg (msL m (.slice A m.votes.length ka) (.slice B m.items.length kb)).toArray
/-- A message's lists can be read. -/
structure MsRows (w : World) (m : Ms) (A B : Option Addr) : Prop where
  hv : Rows w A 4 voL m.votes
  hi : Rows w B 2 imL m.items
theorem MsRows.below {w w' : World} {m : Ms} {A B : Option Addr} (h : MsRows w m A B) (hb : Below w.heap.size w w') : MsRows w' m A B := ⟨h.hv.below hb, h.hi.below hb⟩
theorem may_all (p : Pt) (m : Ms) (hf : m.Fits) (hs : m.Small) (A B : Option Addr) (ka kb gc : Nat) (w : World) (hr : MsRows w m A B) (hc : CapOk w p gc) :
    Calls Try.prog p.mayF (msV m A ka B kb :: p.cap gc).toArray w fun e w' => e = .returned (.bool (p.may m)) ∧ Below w.heap.size w w' := by
  obtain ⟨hv, hi⟩ := hr
  have h2 := hs.h2
  have h3 := hs.h3
  obtain ⟨mk, mn, mr, mb, ms, mo, mv, vl, il, ⟨ca, cb, ck, cs, ct, cu, cz⟩, mc, mt⟩ := m
  dsimp only at h2 h3
  cases p with
  | cmd => exact may_cmd _ _ _ _ _ _ _ _ _ _ _ _ _ _ _ _ _ _ _ _ _ _ w hf.h9
  | name => exact may_name _ _ _ _ _ _ _ _ _ _ _ _ _ _ _ _ _ _ _ _ _ _ w
  | reply => exact may_reply _ _ _ _ _ _ _ _ _ _ _ _ _ _ _ _ _ _ _ _ _ _ w
  | node => exact may_node _ _ _ _ _ _ _ _ _ _ _ _ _ _ _ _ _ _ _ _ _ _ w
  | turn => exact may_turn _ _ _ _ _ _ _ _ _ _ _ _ _ _ _ _ _ _ _ _ _ _ w
  | floor => exact may_floor _ _ _ _ _ _ _ _ _ _ _ _ _ _ _ _ _ _ _ _ _ _ w
  | slot l => exact may_slot _ _ _ _ _ _ _ _ _ _ _ _ _ _ _ _ _ _ _ _ _ _ _ _ w hc
  | value => exact may_value _ _ _ _ _ _ _ _ _ _ _ _ _ _ _ _ _ _ _ _ _ _ w
  | votes => exact may_votes _ _ _ _ _ _ _ _ _ _ _ _ _ _ _ _ _ _ _ _ _ _ w hv (Nat.le_trans h2 (by decide))
  | items => exact may_items _ _ _ _ _ _ _ _ _ _ _ _ _ _ _ _ _ _ _ _ _ _ w hi (Nat.le_trans h3 (by decide))
theorem put_all (p : Pt) (m : Ms) (hf : m.Fits) (hs : m.Small) (A B : Option Addr) (ka kb : Nat) (base : Nat) (v : Value) (l : List UInt8) (w : World) (hr : MsRows w m A B) (hl : l.length ≤ 1000000) (hbase : base ≤ w.heap.size) (hown : w.ownsRow base 5 1 v l.length (bv l))
    (hA : m.votes ≠ [] → ∀ ad, A = some ad → ad.block < base) (hB : m.items ≠ [] → ∀ ad, B = some ad → ad.block < base) : Calls Try.prog p.putF #[v, msV m A ka B kb] w fun e w' => PutRet base v w (l ++ p.put m) e w' := by
  obtain ⟨hv, hi⟩ := hr
  obtain ⟨mk, mn, mr, mb, ms, mo, mv, vl, il, ⟨ca, cb, ck, cs, ct, cu, cz⟩, mc, mt⟩ := m
  cases p with
  | cmd => exact put_cmd _ _ _ _ _ _ _ _ _ _ _ _ _ _ _ _ _ _ _ _ _ _ _ _ _ w hf hs hl hbase hown
  | name => exact put_name _ _ _ _ _ _ _ _ _ _ _ _ _ _ _ _ _ _ _ _ _ _ _ _ _ w hf hs hl hbase hown
  | reply => exact put_reply _ _ _ _ _ _ _ _ _ _ _ _ _ _ _ _ _ _ _ _ _ _ _ _ _ w hf hs hl hbase hown
  | node => exact put_node _ _ _ _ _ _ _ _ _ _ _ _ _ _ _ _ _ _ _ _ _ _ _ _ _ w hf hs hl hbase hown
  | turn => exact put_turn _ _ _ _ _ _ _ _ _ _ _ _ _ _ _ _ _ _ _ _ _ _ _ _ _ w hf hs hl hbase hown
  | floor => exact put_floor _ _ _ _ _ _ _ _ _ _ _ _ _ _ _ _ _ _ _ _ _ _ _ _ _ w hf hs hl hbase hown
  | slot x => exact put_slot _ _ _ _ _ _ _ _ _ _ _ _ _ _ _ _ _ _ _ _ _ x _ _ _ _ w hf hs hl hbase hown
  | value => exact put_value _ _ _ _ _ _ _ _ _ _ _ _ _ _ _ _ _ _ _ _ _ _ _ _ _ w hf hs hl hbase hown
  | votes => exact put_votes _ _ _ _ _ _ _ _ _ _ _ _ _ _ _ _ _ _ _ _ _ _ _ _ _ w hf hs hl hbase hown hv hA
  | items => exact put_items _ _ _ _ _ _ _ _ _ _ _ _ _ _ _ _ _ _ _ _ _ _ _ _ _ w hf hs hl hbase hown hi hB
/-- A message being made: its lists are rows of its own. -/
def Made (base g : Nat) (a : Ms) (V I : Value) (w : World) : Prop := Blk w g 45 (msL a V I).toArray ∧ w.ownsRow base 76 4 V a.votes.length (a.votes.flatMap voL) ∧ w.ownsRow base 78 2 I a.items.length (a.items.flatMap imL)
theorem own_kept {w w' : World} {base e sz n : Nat} {v : Value} {xs : List Value} {G : List Nat} (h : w.ownsRow base e sz v n xs) (ho : Outs G w w') (hd : ∀ g ∈ v.ownBlock.toList, g ∉ G) : w'.ownsRow base e sz v n xs :=
  rowX_loc [] base e sz v n xs w w' (fun g hg => ho.block g (own_lt h g (by simpa [rowX] using hg)).2 (hd g (by simpa [rowX] using hg))) h
theorem own_blk {w : World} {base e sz n g t : Nat} {v : Value} {xs : List Value} {cs : Array Value} (h : w.ownsRow base e sz v n xs) (hb : Blk w g t cs) (hne : e ≠ t) : g ∉ v.ownBlock.toList := by
  intro hg
  rcases h.2 with ⟨rfl, _⟩ | ⟨g', cap, cur, rfl, _, hh, _⟩
  · cases hg
  · have : g = g' := by simpa [Value.ownBlock] using hg
    subst this
    have hb : w.heap[g]? = some (.cells cs t (0, 0)) := hb
    rw [hh] at hb
    injection hb with hb
    injection hb with h1 h2
    exact hne h2
theorem own_own {w : World} {b1 b2 e1 e2 s1 s2 n1 n2 : Nat} {v1 v2 : Value} {x1 x2 : List Value} (h1 : w.ownsRow b1 e1 s1 v1 n1 x1) (h2 : w.ownsRow b2 e2 s2 v2 n2 x2) (hne : e1 ≠ e2) : ∀ g ∈ v1.ownBlock.toList, g ∉ v2.ownBlock.toList := by
  intro g hg
  rcases h1.2 with ⟨rfl, _⟩ | ⟨g', cap, cur, rfl, _, hh, _⟩
  · cases hg
  · have : g = g' := by simpa [Value.ownBlock] using hg
    subst this
    exact own_blk h2 hh (fun e => hne e.symm)
/-- What moving or taking a part does to a message being made. -/
theorem move_all (p : Pt) (m : Ms) (hs : m.Small) (A B : Option Addr) (ka kb : Nat) (base g : Nat) (a : Ms) (V I : Value) (w : World) (hr : MsRows w m A B) (hM : Made base g a V I w) (hb : base ≤ w.heap.size) (hA : m.votes ≠ [] → ∀ ad, A = some ad → ad.block ≠ g) (hB : m.items ≠ [] → ∀ ad, B = some ad → ad.block ≠ g) :
    Calls Try.prog p.moveF #[.pointer (some ⟨g, 0, none⟩), msV m A ka B kb] w fun e w' => ∃ V' I', e = .returned (.tuple #[]) ∧ Made base g (p.move a m) V' I' w' ∧ (OwnIn w V.ownBlock.toList V' ∧ OwnIn w I.ownBlock.toList I') ∧ Outs [g] w w' := by
  obtain ⟨hv, hi⟩ := hr
  obtain ⟨hg, hV, hI⟩ := hM
  have d1 := own_blk hV hg (by decide)
  have d2 := own_blk hI hg (by decide)
  have h2 := hs.h2
  have h3 := hs.h3
  obtain ⟨mk, mn, mr, mb, ms, mo, mv, vl, il, ⟨ca, cb, ck, cs, ct, cu, cz⟩, mc, mt⟩ := m
  obtain ⟨xk, xn, xr, xb, xs, xo, xv, wl, jl, ⟨da, db, dk, ds, dt, du, dz⟩, xc, xt⟩ := a
  dsimp only at h2 h3
  have hkV : ∀ w', Outs [g] w w' → w'.ownsRow base 76 4 V wl.length (wl.flatMap voL) := fun w' ho => own_kept hV ho fun b hb hm => d1 (by rw [List.mem_singleton.1 hm] at hb; exact hb)
  have hkI : ∀ w', Outs [g] w w' → w'.ownsRow base 78 2 I jl.length (jl.flatMap imL) := fun w' ho => own_kept hI ho fun b hb hm => d2 (by rw [List.mem_singleton.1 hm] at hb; exact hb)
  have same : ∀ {e : Ending} {w' : World} {a' : Ms}, a'.votes = wl → a'.items = jl → e = .returned (.tuple #[]) ∧ Blk w' g 45 (msL a' V I).toArray ∧ Outs [g] w w' → ∃ V' I', e = .returned (.tuple #[]) ∧ Made base g a' V' I' w' ∧ (OwnIn w V.ownBlock.toList V' ∧ OwnIn w I.ownBlock.toList I') ∧ Outs [g] w w' := by
    intro e w' a' e1 e2 ⟨r1, r2, r3⟩
    exact ⟨V, I, r1, ⟨r2, by rw [e1]; exact hkV w' r3, by rw [e2]; exact hkI w' r3⟩, ⟨OwnIn.refl w V, OwnIn.refl w I⟩, r3⟩
  cases p with
  | cmd => exact (move_cmd _ _ _ _ _ _ _ _ _ _ _ _ _ _ _ _ _ _ _ _ _ _ _ _ _ _ _ _ _ _ _ _ _ _ _ _ _ _ _ _ _ _ _ w hg).mono fun _ _ h => same rfl rfl h
  | name => exact (move_name _ _ _ _ _ _ _ _ _ _ _ _ _ _ _ _ _ _ _ _ _ _ _ _ _ _ _ _ _ _ _ _ _ _ _ _ _ _ _ _ _ _ _ w hg).mono fun _ _ h => same rfl rfl h
  | reply => exact (move_reply _ _ _ _ _ _ _ _ _ _ _ _ _ _ _ _ _ _ _ _ _ _ _ _ _ _ _ _ _ _ _ _ _ _ _ _ _ _ _ _ _ _ _ w hg).mono fun _ _ h => same rfl rfl h
  | node => exact (move_node _ _ _ _ _ _ _ _ _ _ _ _ _ _ _ _ _ _ _ _ _ _ _ _ _ _ _ _ _ _ _ _ _ _ _ _ _ _ _ _ _ _ _ w hg).mono fun _ _ h => same rfl rfl h
  | turn => exact (move_turn _ _ _ _ _ _ _ _ _ _ _ _ _ _ _ _ _ _ _ _ _ _ _ _ _ _ _ _ _ _ _ _ _ _ _ _ _ _ _ _ _ _ _ w hg).mono fun _ _ h => same rfl rfl h
  | floor => exact (move_floor _ _ _ _ _ _ _ _ _ _ _ _ _ _ _ _ _ _ _ _ _ _ _ _ _ _ _ _ _ _ _ _ _ _ _ _ _ _ _ _ _ _ _ w hg).mono fun _ _ h => same rfl rfl h
  | slot l => exact (move_slot _ _ _ _ _ _ _ _ _ _ _ _ _ _ _ _ _ _ _ _ _ _ _ _ _ _ _ _ _ _ _ _ _ _ _ _ _ _ _ l _ _ _ _ w hg).mono fun _ _ h => same rfl rfl h
  | value => exact (move_value _ _ _ _ _ _ _ _ _ _ _ _ _ _ _ _ _ _ _ _ _ _ _ _ _ _ _ _ _ _ _ _ _ _ _ _ _ _ _ _ _ _ _ w hg).mono fun _ _ h => same rfl rfl h
  | votes =>
    refine (move_votes _ _ _ _ _ _ _ _ _ _ _ _ _ _ _ _ _ _ _ _ _ _ _ _ _ _ _ _ _ _ _ _ _ _ _ _ _ _ _ _ _ _ _ w hg hv hA (Nat.le_trans h2 (by decide))).mono fun e w' h => ?_
    obtain ⟨V', r1, r2, r3, r4⟩ := h
    exact ⟨V', I, r1, ⟨r2, own_base r3 hb, hkI w' r4⟩, ⟨fun b hb => .inr (own_lt r3 b hb).1, OwnIn.refl w I⟩, r4⟩
  | items =>
    refine (move_items _ _ _ _ _ _ _ _ _ _ _ _ _ _ _ _ _ _ _ _ _ _ _ _ _ _ _ _ _ _ _ _ _ _ _ _ _ _ _ _ _ _ _ w hg hi hB (Nat.le_trans h3 (by decide))).mono fun e w' h => ?_
    obtain ⟨I', r1, r2, r3, r4⟩ := h
    exact ⟨V, I', r1, ⟨r2, hkV w' r4, own_base r3 hb⟩, ⟨OwnIn.refl w V, fun b hb => .inr (own_lt r3 b hb).1⟩, r4⟩
end Go.Proofs.Yteiaiilfekojfaa.Msg
end
