/- Texts that the proof of MsgPuts leans on, put together (4 of 4). Conditions: each theorem states its own. -/
import Derived.Test.YteiaiilfekojfaaGreatPkPutsA3
section
set_option linter.unusedVariables false
set_option linter.unusedSimpArgs false
namespace Go.Proofs.YteiaiilfekojfaaGreat.Msg
open Go.RowKit Sx Wire DrawInv
theorem bv_one1 (x : Nat) (h : x < 256) : [Value.int .u8 (x : Int)] = bv [UInt8.ofNat x] := by
  show _ = [Value.int .u8 ((UInt8.ofNat x).toNat : Int)]
  rw [show (UInt8.ofNat x).toNat = x from by simp; omega]

set_option maxRecDepth 100000 in
set_option maxHeartbeats 4000000 in
theorem rinside_lit (mk mn mr mb ms mo ca cb ck cz mc : Nat) (mv cs ct cu mt : List UInt8) (vl : List Vo) (il : List Im) (A B : Option Addr) (ka kb : Nat) (w : World) (hf : Ms.Fits ⟨mk, mn, mr, mb, ms, mo, mv, vl, il, ⟨ca, cb, ck, cs, ct, cu, cz⟩, mc, mt⟩) (hs : Ms.Small ⟨mk, mn, mr, mb, ms, mo, mv, vl, il, ⟨ca, cb, ck, cs, ct, cu, cz⟩, mc, mt⟩) (hr : MsRows w ⟨mk, mn, mr, mb, ms, mo, mv, vl, il, ⟨ca, cb, ck, cs, ct, cu, cz⟩, mc, mt⟩ A B) : Calls Tryz.prog 18 #[.agg #[.int .u8 (mk : Int), .int .u64 (mn : Int), .int .u8 (mr : Int), .int .u64 (mb : Int), .int .u64 (ms : Int), .int .u8 (mo : Int), .string ⟨mv.toArray⟩, .slice A vl.length ka, .slice B il.length kb, .int .u8 (ca : Int), .int .u32 (cb : Int), .int .u8 (ck : Int), .string ⟨cs.toArray⟩, .string ⟨ct.toArray⟩, .string ⟨cu.toArray⟩, .int .u8 (cz : Int), .int .u8 (mc : Int), .string ⟨mt.toArray⟩]] w fun e w' => RetStr w (insideB ⟨mk, mn, mr, mb, ms, mo, mv, vl, il, ⟨ca, cb, ck, cs, ct, cu, cz⟩, mc, mt⟩) e w' := by
  obtain ⟨f1, f2, f3, f4, f5, f6, f7, f8, f9, f10⟩ := hf
  have hf : Ms.Fits ⟨mk, mn, mr, mb, ms, mo, mv, vl, il, ⟨ca, cb, ck, cs, ct, cu, cz⟩, mc, mt⟩ := ⟨f1, f2, f3, f4, f5, f6, f7, f8, f9, f10⟩
  obtain ⟨s1, s2, s3, s4, s5, s6, s7, s8, s9, s10, s11⟩ := hs
  have hs : Ms.Small ⟨mk, mn, mr, mb, ms, mo, mv, vl, il, ⟨ca, cb, ck, cs, ct, cu, cz⟩, mc, mt⟩ := ⟨s1, s2, s3, s4, s5, s6, s7, s8, s9, s10, s11⟩
  have hfc := f9.h1
  have hfs := f9.h2
  dsimp only at f1 f2 f3 f4 f5 f6 f7 f8 f10 s1 s2 s3 s4 s5 s6 s7 s8 s9 s10 s11 hfc hfs
  refine sx_enter (n := 172) _ Tryz.func18 rfl rfl rfl (Hp.start w) ?_
  refine SxC.seq (SxC.region ?_)
  refine SxL.new (cs := [.int .u8 (mk : Int), .int .u64 (mn : Int), .int .u8 (mr : Int), .int .u64 (mb : Int), .int .u64 (ms : Int), .int .u8 (mo : Int), .string ⟨mv.toArray⟩, .slice A vl.length ka, .slice B il.length kb, .int .u8 (ca : Int), .int .u32 (cb : Int), .int .u8 (ck : Int), .string ⟨cs.toArray⟩, .string ⟨ct.toArray⟩, .string ⟨cu.toArray⟩, .int .u8 (cz : Int), .int .u8 (mc : Int), .string ⟨mt.toArray⟩]) trivial rfl rfl (fun ρ w E H => ex_box E rfl rfl rfl) fun g1 hg1 => ?_
  refine SxL.val trivial rfl rfl (fun ρ w E H => ex_assign E rfl rfl) ?_
  refine SxL.nil (SxN.then_ (SxC.seq (SxC.region ?_)))
  refine SxL.val (v := .pointer (some ⟨g1, 0, none⟩)) trivial rfl rfl (fun ρ w E H => ex_field E rfl fa_palaver_api_Msg_0 rfl rfl) ?_
  refine SxL.val trivial rfl rfl (fun ρ w E H => ex_load1 E (H.get (i := 0) rfl) rfl rfl Tryz.underlying5 rfl rfl) ?_
  refine SxL.newS (cs := [.int .u8 (mk : Int)]) trivial rfl rfl (fun ρ w E H => ex_buildSlice E rfl rfl Tryz.underlying103 sz_uint8 zr_uint8 rfl rfl (by kernel_rfl)) fun g2 hg2 => ?_
  refine SxL.val (v := .string ⟨[UInt8.ofNat mk].toArray⟩) trivial rfl rfl (fun ρ w E H => ex_convS (l := [UInt8.ofNat mk]) E rfl Tryz.underlying103 Tryz.underlying5 Tryz.underlying9 rfl (own_new1 (base := 0) (H.get (i := 0) rfl) (Nat.zero_le _)) (bv_one1 mk f1)) ?_
  refine SxL.val trivial rfl rfl (fun ρ w E H => ex_assign E rfl rfl) ?_
  refine SxL.nil (SxN.then_ (SxC.seq (SxC.region ?_)))
  refine SxL.val (v := .pointer (some ⟨g1, 0, none⟩)) trivial rfl rfl (fun ρ w E H => ex_field E rfl fa_palaver_api_Msg_0 rfl rfl) ?_
  refine SxL.val trivial rfl rfl (fun ρ w E H => ex_load1 E (H.get (i := 1) rfl) rfl rfl Tryz.underlying5 rfl rfl) ?_
  refine SxL.callB (v := .string ⟨((chars mk)).toArray⟩) trivial rfl rfl (fun ρ w E => ex_call E en_palaver_palaverref18_Parts rfl rfl) (fun w H => rparts_any mk hf.h1 w) ?_
  refine SxL.val trivial rfl rfl (fun ρ w E H => ex_assign E rfl rfl) ?_
  refine SxL.nil (SxN.then_ (SxC.seq (SxC.seq (SxC.region ?_))))
  refine SxL.val trivial rfl rfl (fun ρ w E H => ex_assign E rfl rfl) ?_
  refine SxL.nil (SxN.then_ (SxC.block ?_))
  refine SxC.loop2 (fun (i : Nat) (out : List UInt8) => [(1, .pointer (some ⟨g1, 0, none⟩)), (3, .string ⟨out.toArray⟩), (4, .string ⟨((chars mk)).toArray⟩), (5, .int .i64 (i : Int))]) (fun (i : Nat) (out : List UInt8) => [cell g2 5 [.int .u8 (mk : Int)], cell g1 33 [.int .u8 (mk : Int), .int .u64 (mn : Int), .int .u8 (mr : Int), .int .u64 (mb : Int), .int .u64 (ms : Int), .int .u8 (mo : Int), .string ⟨mv.toArray⟩, .slice A vl.length ka, .slice B il.length kb, .int .u8 (ca : Int), .int .u32 (cb : Int), .int .u8 (ck : Int), .string ⟨cs.toArray⟩, .string ⟨ct.toArray⟩, .string ⟨cu.toArray⟩, .int .u8 (cz : Int), .int .u8 (mc : Int), .string ⟨mt.toArray⟩]]) (fun (gk : Nat) (i : Nat) (out : List UInt8) => i + gk = (chars mk).length ∧ out = insB ⟨mk, mn, mr, mb, ms, mo, mv, vl, il, ⟨ca, cb, ck, cs, ct, cu, cz⟩, mc, mt⟩ i) (chars mk).length 0 [UInt8.ofNat mk] ⟨by omega, by simp [insB]⟩ ⟨rfl, rfl, rfl, rfl, trivial⟩ [0, 1] rfl (by decide) ⟨.inl rfl, .inl rfl, trivial⟩ fun gk i out hF => ?_
  obtain ⟨hkg, hout⟩ := hF
  obtain ⟨gk1, hgk1⟩ : ∃ x, x = gk := ⟨_, rfl⟩
  have hlo : out.length ≤ 1000000 := by rw [hout]; exact insB_len ⟨mk, mn, mr, mb, ms, mo, mv, vl, il, ⟨ca, cb, ck, cs, ct, cu, cz⟩, mc, mt⟩ hf hs i
  refine SxC.seq (SxC.seq (SxC.region ?_))
  iterate 2 refine SxL.val trivial rfl rfl (fun ρ w E H => ex_move E rfl rfl) ?_
  refine SxL.val (v := .int .i64 ((chars mk).length : Int)) trivial rfl rfl (fun ρ w E H => ex_lenT E rfl Tryz.underlying9 rfl) ?_
  refine SxL.valB trivial rfl rfl (fun ρ w E H => ex_cmp E rfl rfl rfl rfl rfl) fun c18 hc18 => ?_
  refine SxL.nil (SxN.then_ ?_)
  cases c18
  · refine SxC.condF rfl (SxC.exit (SxX.thenE (SxX.thenE (SxX.blockE (SxN.then_ (SxC.seq (SxC.region ?_)))))))
    refine SxL.val trivial rfl rfl (fun ρ w E H => ex_move E rfl rfl) ?_
    refine SxL.val trivial rfl rfl (fun ρ w E H => ex_assign E rfl rfl) ?_
    refine SxL.nil (SxN.then_ (SxC.ret ?_))
    refine SxX.done (.string ⟨out.toArray⟩) (fun a w K H => res1 K rfl rfl) (fun w H => ?_)
    have hq : out = insideB ⟨mk, mn, mr, mb, ms, mo, mv, vl, il, ⟨ca, cb, ck, cs, ct, cu, cz⟩, mc, mt⟩ := by rw [hout]; exact insB_end (by show (partsOf mk).length ≤ i; have h := hc18; simp [cmpB] at h; unfold chars at h; rw [List.length_map] at h; omega)
    exact ⟨by rw [hq], H.toBelow ⟨(fun g hg => by rw [List.mem_singleton.1 hg]; exact hg2), (fun g hg => by rw [List.mem_singleton.1 hg]; exact hg1), trivial⟩⟩
  · refine SxC.condT rfl (SxC.skip (SxN.then_ (SxC.seq (SxC.block (SxC.seq ?_)))))
    have hkl : i < (chars mk).length := by have h := hc18; simp [cmpB] at h; omega
    have hkp : i < (partsOf mk).length := by unfold chars at hkl; rwa [List.length_map] at hkl
    obtain ⟨p, hp⟩ : ∃ p, (partsOf mk)[i]? = some p := ⟨_, List.getElem?_eq_getElem hkp⟩
    have hch := char_at hp
    have hnx : out.length + (p.put ⟨mk, mn, mr, mb, ms, mo, mv, vl, il, ⟨ca, cb, ck, cs, ct, cu, cz⟩, mc, mt⟩).length ≤ 1000000 := by have h := insB_len ⟨mk, mn, mr, mb, ms, mo, mv, vl, il, ⟨ca, cb, ck, cs, ct, cu, cz⟩, mc, mt⟩ hf hs (i + 1); rw [insB_succ hp, ← hout, List.length_append] at h; exact h
    rcases p with _ | _ | _ | _ | _ | _ | (_ | ls) | _ | _ | _
    · simp only [Pt.put, List.length_append, List.length_cons, List.length_nil] at hnx
      refine SxC.region ?_
      iterate 2 refine SxL.val trivial rfl rfl (fun ρ w E H => ex_move E rfl rfl) ?_
      refine SxL.val (v := .int .u8 99) trivial rfl rfl (fun ρ w E H => ex_indexT (n := i) (b := (UInt8.ofNat 99)) E rfl Tryz.underlying9 rfl rfl hch rfl) ?_
      refine SxL.nil (SxN.then_ (SxC.block (SxC.seq (SxC.region ?_))))
      refine SxL.val (v := .bool true) trivial rfl rfl (fun ρ w E H => ex_cmp E rfl rfl rfl rfl (by decide)) ?_
      refine SxL.val trivial rfl rfl (fun ρ w E H => ex_assign E rfl rfl) ?_
      refine SxL.nil (SxN.then_ (SxC.condT rfl (SxC.region ?_)))
      refine SxL.val trivial rfl rfl (fun ρ w E H => ex_move E rfl rfl) ?_
      refine SxL.val (v := .pointer (some ⟨g1, 9, none⟩)) trivial rfl rfl (fun ρ w E H => ex_field E rfl fa_palaver_api_Msg_8 rfl rfl) ?_
      refine SxL.val trivial rfl rfl (fun ρ w E H => ex_load (part := [.int .u8 (ca : Int), .int .u32 (cb : Int), .int .u8 (ck : Int), .string ⟨cs.toArray⟩, .string ⟨ct.toArray⟩, .string ⟨cu.toArray⟩, .int .u8 (cz : Int)]) E (H.get (i := 1) rfl) rfl rfl Tryz.underlying29 rfl sz_palaver_api_Cmd rfl rfl) ?_
      refine SxL.callB (v := .string ⟨((Cmd.oneB ⟨ca, cb, ck, cs, ct, cu, cz⟩)).toArray⟩) trivial rfl rfl (fun ρ w E => ex_call E en_palaver_palaverref09_One rfl rfl) (fun w H => Cmd.refOne_any ⟨ca, cb, ck, cs, ct, cu, cz⟩ f9 s6 s7 s8 w) ?_
      refine SxL.val (v := .string ⟨((out ++ (Cmd.oneB ⟨ca, cb, ck, cs, ct, cu, cz⟩))).toArray⟩) trivial rfl rfl (fun ρ w E H => ex_sadd E rfl rfl rfl (by (try simp only [List.length_append, List.length_cons, List.length_nil]); omega)) ?_
      refine SxL.val trivial rfl rfl (fun ρ w E H => ex_assign E rfl rfl) ?_
      refine SxL.nil (SxN.block (SxN.block (SxN.then_ (SxC.region ?_))))
      refine SxL.val trivial rfl rfl (fun ρ w E H => ex_move E rfl rfl) ?_
      refine SxL.val (v := .int .i64 ((i + 1 : Nat) : Int)) trivial rfl rfl (fun ρ w E H => ex_add E rfl rfl rfl (by have h := chars_len mk; rw [IntKind.wrap_i64]; omega)) ?_
      refine SxL.val trivial rfl rfl (fun ρ w E H => ex_assign E rfl rfl) ?_
      refine SxL.nil ?_
      refine SxN.back (gk1 - 1) (i + 1, (out ++ (Cmd.oneB ⟨ca, cb, ck, cs, ct, cu, cz⟩))) (by omega) ⟨by omega, by rw [insB_succ hp, ← hout]; (try rw [ho2]); (try rw [putV_end (by simpa [cmpB] using hc110)]); (try rw [putI_end (by simpa [cmpB] using hc151)]); simp [Pt.put, voB, imB]⟩ ⟨rfl, rfl, rfl, rfl, trivial⟩ [0, 1] rfl (by decide) ⟨.inl rfl, .inl rfl, trivial⟩
    · simp only [Pt.put, List.length_append, List.length_cons, List.length_nil] at hnx
      refine SxC.region ?_
      iterate 2 refine SxL.val trivial rfl rfl (fun ρ w E H => ex_move E rfl rfl) ?_
      refine SxL.val (v := .int .u8 110) trivial rfl rfl (fun ρ w E H => ex_indexT (n := i) (b := (UInt8.ofNat 110)) E rfl Tryz.underlying9 rfl rfl hch rfl) ?_
      refine SxL.nil (SxN.then_ (SxC.block (SxC.seq (SxC.region ?_))))
      refine SxL.val (v := .bool false) trivial rfl rfl (fun ρ w E H => ex_cmp E rfl rfl rfl rfl (by decide)) ?_
      refine SxL.val trivial rfl rfl (fun ρ w E H => ex_assign E rfl rfl) ?_
      refine SxL.nil (SxN.then_ (SxC.condF rfl (SxC.seq (SxC.region ?_))))
      refine SxL.val (v := .bool true) trivial rfl rfl (fun ρ w E H => ex_cmp E rfl rfl rfl rfl (by decide)) ?_
      refine SxL.val trivial rfl rfl (fun ρ w E H => ex_assign E rfl rfl) ?_
      refine SxL.nil (SxN.then_ (SxC.condT rfl ?_))
      refine SxC.drawnK [] [0, 1] (by kernel_rfl) rfl ⟨(fun g hg => by rw [List.mem_singleton.1 hg]; exact .inr hg2), (fun g hg => by rw [List.mem_singleton.1 hg]; exact .inr hg1), trivial⟩ ?_
      refine SxA.take (i := 0) rfl (by kernel_rfl) (by kernel_rfl) (by kernel_rfl) rfl rfl (fun _ _ _ h => h) trivial (fun ρ w E H => ex_move E rfl rfl) ?_
      refine SxA.take (i := 1) (v := .pointer (some ⟨g1, 9, none⟩)) rfl (by kernel_rfl) (by kernel_rfl) (by kernel_rfl) rfl rfl (fun _ _ _ h => h) trivial (fun ρ w E H => ex_field E rfl fa_palaver_api_Msg_8 rfl rfl) ?_
      refine SxA.take (i := 2) (v := .pointer (some ⟨g1, 9, none⟩)) rfl (by kernel_rfl) (by kernel_rfl) (by kernel_rfl) rfl rfl (fun _ _ _ h => h) trivial (fun ρ w E H => ex_field E rfl fa_palaver_api_Cmd_0 rfl rfl) ?_
      refine SxA.take (i := 3) rfl (by kernel_rfl) (by kernel_rfl) (by kernel_rfl) rfl rfl (fun _ _ _ h => h) trivial (fun ρ w E H => ex_load1 E (H.get (i := 1) rfl) rfl rfl Tryz.underlying5 rfl rfl) ?_
      refine SxA.take (i := 7) (v := .pointer (some ⟨g1, 9, none⟩)) rfl (by kernel_rfl) (by kernel_rfl) (by kernel_rfl) rfl rfl (fun _ _ _ h => h) trivial (fun ρ w E H => ex_field E rfl fa_palaver_api_Msg_8 rfl rfl) ?_
      refine SxA.take (i := 8) (v := .pointer (some ⟨g1, 10, none⟩)) rfl (by kernel_rfl) (by kernel_rfl) (by kernel_rfl) rfl rfl (fun _ _ _ h => h) trivial (fun ρ w E H => ex_field E rfl fa_palaver_api_Cmd_1 rfl rfl) ?_
      refine SxA.take (i := 9) rfl (by kernel_rfl) (by kernel_rfl) (by kernel_rfl) rfl rfl (fun _ _ _ h => h) trivial (fun ρ w E H => ex_load1 E (H.get (i := 1) rfl) rfl rfl Tryz.underlying27 rfl rfl) ?_
      refine SxA.take (i := 10) (v := .int .u64 (cb : Int)) rfl (by kernel_rfl) (by kernel_rfl) (by kernel_rfl) rfl rfl (fun _ _ _ h => h) trivial (fun ρ w E H => ex_convInt E rfl Tryz.underlying27 Tryz.underlying22 rfl (by rw [IntKind.wrap_u64]; omega)) ?_
      refine SxA.ready [4, 11] (by kernel_rfl) (by simp) ⟨?_, ?_, trivial⟩
      · refine SxO.newS (cs := [.int .u8 (ca : Int)]) rfl trivial rfl rfl (fun ρ w E H => ex_buildSlice E rfl rfl Tryz.underlying103 sz_uint8 zr_uint8 rfl rfl (by kernel_rfl)) (fun g3 w hg3 H => H.ks [] [1, 2] rfl ⟨(fun g hg => by rw [List.mem_singleton.1 hg]; exact .inr hg3), (fun g hg => by rw [List.mem_singleton.1 hg]; exact .inr hg2), (fun g hg => by rw [List.mem_singleton.1 hg]; exact .inr hg1), trivial⟩) fun g3 hg3 => ?_
        refine SxA.ready [5, 11] (by kernel_rfl) (by simp) ⟨?_, ?_, trivial⟩
        · refine SxO.val (v := .string ⟨[UInt8.ofNat ca].toArray⟩) rfl trivial rfl rfl (fun ρ w E H => ex_convS (l := [UInt8.ofNat ca]) E rfl Tryz.underlying103 Tryz.underlying5 Tryz.underlying9 rfl (own_new1 (base := 0) (H.get (i := 0) rfl) (Nat.zero_le _)) (bv_one1 ca hfc)) ?_
          refine SxA.take (i := 6) (v := .string ⟨((out ++ [UInt8.ofNat ca])).toArray⟩) rfl (by kernel_rfl) (by kernel_rfl) (by kernel_rfl) rfl rfl (fun _ _ _ h => h) trivial (fun ρ w E H => ex_sadd E rfl rfl rfl (by (try simp only [List.length_append, List.length_cons, List.length_nil]); omega)) ?_
          refine SxA.ready [11] (by kernel_rfl) (by simp) ⟨?_, trivial⟩
          refine SxO.callB (v := .string ⟨((numB cb)).toArray⟩) rfl trivial rfl rfl (fun ρ w E => ex_call E en_palaver_palaverref01_Num rfl rfl) (fun w H => refNum_any cb (by omega) w) (fun w H => H.ks [] [1, 2] rfl ⟨(fun g hg => by rw [List.mem_singleton.1 hg]; exact .inr hg3), (fun g hg => by rw [List.mem_singleton.1 hg]; exact .inr hg2), (fun g hg => by rw [List.mem_singleton.1 hg]; exact .inr hg1), trivial⟩) ?_
          refine SxA.take (i := 12) (v := .string ⟨(((out ++ [UInt8.ofNat ca]) ++ (numB cb))).toArray⟩) rfl (by kernel_rfl) (by kernel_rfl) (by kernel_rfl) rfl rfl (fun _ _ _ h => h) trivial (fun ρ w E H => ex_sadd E rfl rfl rfl (by (try simp only [List.length_append, List.length_cons, List.length_nil]); omega)) ?_
          refine SxA.take (i := 13) rfl (by kernel_rfl) (by kernel_rfl) (by kernel_rfl) rfl rfl (fun _ _ _ h => h) trivial (fun ρ w E H => ex_assign E rfl rfl) ?_
          refine SxA.done (by kernel_rfl) ?_
          refine SxN.block (SxN.block (SxN.then_ (SxC.region ?_)))
          refine SxL.val trivial rfl rfl (fun ρ w E H => ex_move E rfl rfl) ?_
          refine SxL.val (v := .int .i64 ((i + 1 : Nat) : Int)) trivial rfl rfl (fun ρ w E H => ex_add E rfl rfl rfl (by have h := chars_len mk; rw [IntKind.wrap_i64]; omega)) ?_
          refine SxL.val trivial rfl rfl (fun ρ w E H => ex_assign E rfl rfl) ?_
          refine SxL.nil ?_
          refine SxN.back (gk1 - 1) (i + 1, ((out ++ [UInt8.ofNat ca]) ++ (numB cb))) (by omega) ⟨by omega, by rw [insB_succ hp, ← hout]; (try rw [ho2]); (try rw [putV_end (by simpa [cmpB] using hc110)]); (try rw [putI_end (by simpa [cmpB] using hc151)]); simp [Pt.put, voB, imB]⟩ ⟨rfl, rfl, rfl, rfl, trivial⟩ [1, 2] rfl (by decide) ⟨.inr (fun g hg => by rw [List.mem_singleton.1 hg]; exact hg3), .inl rfl, .inl rfl, trivial⟩
        · refine SxO.callB (v := .string ⟨((numB cb)).toArray⟩) rfl trivial rfl rfl (fun ρ w E => ex_call E en_palaver_palaverref01_Num rfl rfl) (fun w H => refNum_any cb (by omega) w) (fun w H => H.ks [] [1, 2] rfl ⟨(fun g hg => by rw [List.mem_singleton.1 hg]; exact .inr hg3), (fun g hg => by rw [List.mem_singleton.1 hg]; exact .inr hg2), (fun g hg => by rw [List.mem_singleton.1 hg]; exact .inr hg1), trivial⟩) ?_
          refine SxA.ready [5] (by kernel_rfl) (by simp) ⟨?_, trivial⟩
          refine SxO.val (v := .string ⟨[UInt8.ofNat ca].toArray⟩) rfl trivial rfl rfl (fun ρ w E H => ex_convS (l := [UInt8.ofNat ca]) E rfl Tryz.underlying103 Tryz.underlying5 Tryz.underlying9 rfl (own_new1 (base := 0) (H.get (i := 0) rfl) (Nat.zero_le _)) (bv_one1 ca hfc)) ?_
          refine SxA.take (i := 6) (v := .string ⟨((out ++ [UInt8.ofNat ca])).toArray⟩) rfl (by kernel_rfl) (by kernel_rfl) (by kernel_rfl) rfl rfl (fun _ _ _ h => h) trivial (fun ρ w E H => ex_sadd E rfl rfl rfl (by (try simp only [List.length_append, List.length_cons, List.length_nil]); omega)) ?_
          refine SxA.take (i := 12) (v := .string ⟨(((out ++ [UInt8.ofNat ca]) ++ (numB cb))).toArray⟩) rfl (by kernel_rfl) (by kernel_rfl) (by kernel_rfl) rfl rfl (fun _ _ _ h => h) trivial (fun ρ w E H => ex_sadd E rfl rfl rfl (by (try simp only [List.length_append, List.length_cons, List.length_nil]); omega)) ?_
          refine SxA.take (i := 13) rfl (by kernel_rfl) (by kernel_rfl) (by kernel_rfl) rfl rfl (fun _ _ _ h => h) trivial (fun ρ w E H => ex_assign E rfl rfl) ?_
          refine SxA.done (by kernel_rfl) ?_
          refine SxN.block (SxN.block (SxN.then_ (SxC.region ?_)))
          refine SxL.val trivial rfl rfl (fun ρ w E H => ex_move E rfl rfl) ?_
          refine SxL.val (v := .int .i64 ((i + 1 : Nat) : Int)) trivial rfl rfl (fun ρ w E H => ex_add E rfl rfl rfl (by have h := chars_len mk; rw [IntKind.wrap_i64]; omega)) ?_
          refine SxL.val trivial rfl rfl (fun ρ w E H => ex_assign E rfl rfl) ?_
          refine SxL.nil ?_
          refine SxN.back (gk1 - 1) (i + 1, ((out ++ [UInt8.ofNat ca]) ++ (numB cb))) (by omega) ⟨by omega, by rw [insB_succ hp, ← hout]; (try rw [ho2]); (try rw [putV_end (by simpa [cmpB] using hc110)]); (try rw [putI_end (by simpa [cmpB] using hc151)]); simp [Pt.put, voB, imB]⟩ ⟨rfl, rfl, rfl, rfl, trivial⟩ [1, 2] rfl (by decide) ⟨.inr (fun g hg => by rw [List.mem_singleton.1 hg]; exact hg3), .inl rfl, .inl rfl, trivial⟩
      · refine SxO.callB (v := .string ⟨((numB cb)).toArray⟩) rfl trivial rfl rfl (fun ρ w E => ex_call E en_palaver_palaverref01_Num rfl rfl) (fun w H => refNum_any cb (by omega) w) (fun w H => H.ks [] [0, 1] rfl ⟨(fun g hg => by rw [List.mem_singleton.1 hg]; exact .inr hg2), (fun g hg => by rw [List.mem_singleton.1 hg]; exact .inr hg1), trivial⟩) ?_
        refine SxA.ready [4] (by kernel_rfl) (by simp) ⟨?_, trivial⟩
        refine SxO.newS (cs := [.int .u8 (ca : Int)]) rfl trivial rfl rfl (fun ρ w E H => ex_buildSlice E rfl rfl Tryz.underlying103 sz_uint8 zr_uint8 rfl rfl (by kernel_rfl)) (fun g4 w hg4 H => H.ks [] [1, 2] rfl ⟨(fun g hg => by rw [List.mem_singleton.1 hg]; exact .inr hg4), (fun g hg => by rw [List.mem_singleton.1 hg]; exact .inr hg2), (fun g hg => by rw [List.mem_singleton.1 hg]; exact .inr hg1), trivial⟩) fun g4 hg4 => ?_
        refine SxA.ready [5] (by kernel_rfl) (by simp) ⟨?_, trivial⟩
        refine SxO.val (v := .string ⟨[UInt8.ofNat ca].toArray⟩) rfl trivial rfl rfl (fun ρ w E H => ex_convS (l := [UInt8.ofNat ca]) E rfl Tryz.underlying103 Tryz.underlying5 Tryz.underlying9 rfl (own_new1 (base := 0) (H.get (i := 0) rfl) (Nat.zero_le _)) (bv_one1 ca hfc)) ?_
        refine SxA.take (i := 6) (v := .string ⟨((out ++ [UInt8.ofNat ca])).toArray⟩) rfl (by kernel_rfl) (by kernel_rfl) (by kernel_rfl) rfl rfl (fun _ _ _ h => h) trivial (fun ρ w E H => ex_sadd E rfl rfl rfl (by (try simp only [List.length_append, List.length_cons, List.length_nil]); omega)) ?_
        refine SxA.take (i := 12) (v := .string ⟨(((out ++ [UInt8.ofNat ca]) ++ (numB cb))).toArray⟩) rfl (by kernel_rfl) (by kernel_rfl) (by kernel_rfl) rfl rfl (fun _ _ _ h => h) trivial (fun ρ w E H => ex_sadd E rfl rfl rfl (by (try simp only [List.length_append, List.length_cons, List.length_nil]); omega)) ?_
        refine SxA.take (i := 13) rfl (by kernel_rfl) (by kernel_rfl) (by kernel_rfl) rfl rfl (fun _ _ _ h => h) trivial (fun ρ w E H => ex_assign E rfl rfl) ?_
        refine SxA.done (by kernel_rfl) ?_
        refine SxN.block (SxN.block (SxN.then_ (SxC.region ?_)))
        refine SxL.val trivial rfl rfl (fun ρ w E H => ex_move E rfl rfl) ?_
        refine SxL.val (v := .int .i64 ((i + 1 : Nat) : Int)) trivial rfl rfl (fun ρ w E H => ex_add E rfl rfl rfl (by have h := chars_len mk; rw [IntKind.wrap_i64]; omega)) ?_
        refine SxL.val trivial rfl rfl (fun ρ w E H => ex_assign E rfl rfl) ?_
        refine SxL.nil ?_
        refine SxN.back (gk1 - 1) (i + 1, ((out ++ [UInt8.ofNat ca]) ++ (numB cb))) (by omega) ⟨by omega, by rw [insB_succ hp, ← hout]; (try rw [ho2]); (try rw [putV_end (by simpa [cmpB] using hc110)]); (try rw [putI_end (by simpa [cmpB] using hc151)]); simp [Pt.put, voB, imB]⟩ ⟨rfl, rfl, rfl, rfl, trivial⟩ [1, 2] rfl (by decide) ⟨.inr (fun g hg => by rw [List.mem_singleton.1 hg]; exact hg4), .inl rfl, .inl rfl, trivial⟩
    · simp only [Pt.put, List.length_append, List.length_cons, List.length_nil] at hnx
      refine SxC.region ?_
      iterate 2 refine SxL.val trivial rfl rfl (fun ρ w E H => ex_move E rfl rfl) ?_
      refine SxL.val (v := .int .u8 114) trivial rfl rfl (fun ρ w E H => ex_indexT (n := i) (b := (UInt8.ofNat 114)) E rfl Tryz.underlying9 rfl rfl hch rfl) ?_
      refine SxL.nil (SxN.then_ (SxC.block (SxC.seq (SxC.region ?_))))
      refine SxL.val (v := .bool false) trivial rfl rfl (fun ρ w E H => ex_cmp E rfl rfl rfl rfl (by decide)) ?_
      refine SxL.val trivial rfl rfl (fun ρ w E H => ex_assign E rfl rfl) ?_
      refine SxL.nil (SxN.then_ (SxC.condF rfl (SxC.seq (SxC.region ?_))))
      refine SxL.val (v := .bool false) trivial rfl rfl (fun ρ w E H => ex_cmp E rfl rfl rfl rfl (by decide)) ?_
      refine SxL.val trivial rfl rfl (fun ρ w E H => ex_assign E rfl rfl) ?_
      refine SxL.nil (SxN.then_ (SxC.condF rfl (SxC.seq (SxC.region ?_))))
      refine SxL.val (v := .bool true) trivial rfl rfl (fun ρ w E H => ex_cmp E rfl rfl rfl rfl (by decide)) ?_
      refine SxL.val trivial rfl rfl (fun ρ w E H => ex_assign E rfl rfl) ?_
      refine SxL.nil (SxN.then_ (SxC.condT rfl ?_))
      refine SxC.drawnK [] [0, 1] (by kernel_rfl) rfl ⟨(fun g hg => by rw [List.mem_singleton.1 hg]; exact .inr hg2), (fun g hg => by rw [List.mem_singleton.1 hg]; exact .inr hg1), trivial⟩ ?_
      refine SxA.take (i := 0) rfl (by kernel_rfl) (by kernel_rfl) (by kernel_rfl) rfl rfl (fun _ _ _ h => h) trivial (fun ρ w E H => ex_move E rfl rfl) ?_
      refine SxA.take (i := 1) (v := .pointer (some ⟨g1, 16, none⟩)) rfl (by kernel_rfl) (by kernel_rfl) (by kernel_rfl) rfl rfl (fun _ _ _ h => h) trivial (fun ρ w E H => ex_field E rfl fa_palaver_api_Msg_9 rfl rfl) ?_
      refine SxA.take (i := 2) (v := .pointer (some ⟨g1, 16, none⟩)) rfl (by kernel_rfl) (by kernel_rfl) (by kernel_rfl) rfl rfl (fun _ _ _ h => h) trivial (fun ρ w E H => ex_field E rfl fa_palaver_api_Reply_0 rfl rfl) ?_
      refine SxA.take (i := 3) rfl (by kernel_rfl) (by kernel_rfl) (by kernel_rfl) rfl rfl (fun _ _ _ h => h) trivial (fun ρ w E H => ex_load1 E (H.get (i := 1) rfl) rfl rfl Tryz.underlying5 rfl rfl) ?_
      refine SxA.take (i := 7) (v := .pointer (some ⟨g1, 16, none⟩)) rfl (by kernel_rfl) (by kernel_rfl) (by kernel_rfl) rfl rfl (fun _ _ _ h => h) trivial (fun ρ w E H => ex_field E rfl fa_palaver_api_Msg_9 rfl rfl) ?_
      refine SxA.take (i := 8) (v := .pointer (some ⟨g1, 17, none⟩)) rfl (by kernel_rfl) (by kernel_rfl) (by kernel_rfl) rfl rfl (fun _ _ _ h => h) trivial (fun ρ w E H => ex_field E rfl fa_palaver_api_Reply_1 rfl rfl) ?_
      refine SxA.take (i := 9) rfl (by kernel_rfl) (by kernel_rfl) (by kernel_rfl) rfl rfl (fun _ _ _ h => h) trivial (fun ρ w E H => ex_load1 E (H.get (i := 1) rfl) rfl rfl Tryz.underlying9 rfl rfl) ?_
      refine SxA.ready [4, 10] (by kernel_rfl) (by simp) ⟨?_, ?_, trivial⟩
      · refine SxO.newS (cs := [.int .u8 (mc : Int)]) rfl trivial rfl rfl (fun ρ w E H => ex_buildSlice E rfl rfl Tryz.underlying103 sz_uint8 zr_uint8 rfl rfl (by kernel_rfl)) (fun g5 w hg5 H => H.ks [] [1, 2] rfl ⟨(fun g hg => by rw [List.mem_singleton.1 hg]; exact .inr hg5), (fun g hg => by rw [List.mem_singleton.1 hg]; exact .inr hg2), (fun g hg => by rw [List.mem_singleton.1 hg]; exact .inr hg1), trivial⟩) fun g5 hg5 => ?_
        refine SxA.ready [5, 10] (by kernel_rfl) (by simp) ⟨?_, ?_, trivial⟩
        · refine SxO.val (v := .string ⟨[UInt8.ofNat mc].toArray⟩) rfl trivial rfl rfl (fun ρ w E H => ex_convS (l := [UInt8.ofNat mc]) E rfl Tryz.underlying103 Tryz.underlying5 Tryz.underlying9 rfl (own_new1 (base := 0) (H.get (i := 0) rfl) (Nat.zero_le _)) (bv_one1 mc f10)) ?_
          refine SxA.take (i := 6) (v := .string ⟨((out ++ [UInt8.ofNat mc])).toArray⟩) rfl (by kernel_rfl) (by kernel_rfl) (by kernel_rfl) rfl rfl (fun _ _ _ h => h) trivial (fun ρ w E H => ex_sadd E rfl rfl rfl (by (try simp only [List.length_append, List.length_cons, List.length_nil]); omega)) ?_
          refine SxA.ready [10] (by kernel_rfl) (by simp) ⟨?_, trivial⟩
          refine SxO.callB (v := .string ⟨((strB mt)).toArray⟩) rfl trivial rfl rfl (fun ρ w E => ex_call E en_palaver_palaverref01_Str rfl rfl) (fun w H => refStr_any mt (by omega) w) (fun w H => H.ks [] [1, 2] rfl ⟨(fun g hg => by rw [List.mem_singleton.1 hg]; exact .inr hg5), (fun g hg => by rw [List.mem_singleton.1 hg]; exact .inr hg2), (fun g hg => by rw [List.mem_singleton.1 hg]; exact .inr hg1), trivial⟩) ?_
          refine SxA.take (i := 11) (v := .string ⟨(((out ++ [UInt8.ofNat mc]) ++ (strB mt))).toArray⟩) rfl (by kernel_rfl) (by kernel_rfl) (by kernel_rfl) rfl rfl (fun _ _ _ h => h) trivial (fun ρ w E H => ex_sadd E rfl rfl rfl (by (try simp only [List.length_append, List.length_cons, List.length_nil]); omega)) ?_
          refine SxA.take (i := 12) rfl (by kernel_rfl) (by kernel_rfl) (by kernel_rfl) rfl rfl (fun _ _ _ h => h) trivial (fun ρ w E H => ex_assign E rfl rfl) ?_
          refine SxA.done (by kernel_rfl) ?_
          refine SxN.block (SxN.block (SxN.then_ (SxC.region ?_)))
          refine SxL.val trivial rfl rfl (fun ρ w E H => ex_move E rfl rfl) ?_
          refine SxL.val (v := .int .i64 ((i + 1 : Nat) : Int)) trivial rfl rfl (fun ρ w E H => ex_add E rfl rfl rfl (by have h := chars_len mk; rw [IntKind.wrap_i64]; omega)) ?_
          refine SxL.val trivial rfl rfl (fun ρ w E H => ex_assign E rfl rfl) ?_
          refine SxL.nil ?_
          refine SxN.back (gk1 - 1) (i + 1, ((out ++ [UInt8.ofNat mc]) ++ (strB mt))) (by omega) ⟨by omega, by rw [insB_succ hp, ← hout]; (try rw [ho2]); (try rw [putV_end (by simpa [cmpB] using hc110)]); (try rw [putI_end (by simpa [cmpB] using hc151)]); simp [Pt.put, voB, imB]⟩ ⟨rfl, rfl, rfl, rfl, trivial⟩ [1, 2] rfl (by decide) ⟨.inr (fun g hg => by rw [List.mem_singleton.1 hg]; exact hg5), .inl rfl, .inl rfl, trivial⟩
        · refine SxO.callB (v := .string ⟨((strB mt)).toArray⟩) rfl trivial rfl rfl (fun ρ w E => ex_call E en_palaver_palaverref01_Str rfl rfl) (fun w H => refStr_any mt (by omega) w) (fun w H => H.ks [] [1, 2] rfl ⟨(fun g hg => by rw [List.mem_singleton.1 hg]; exact .inr hg5), (fun g hg => by rw [List.mem_singleton.1 hg]; exact .inr hg2), (fun g hg => by rw [List.mem_singleton.1 hg]; exact .inr hg1), trivial⟩) ?_
          refine SxA.ready [5] (by kernel_rfl) (by simp) ⟨?_, trivial⟩
          refine SxO.val (v := .string ⟨[UInt8.ofNat mc].toArray⟩) rfl trivial rfl rfl (fun ρ w E H => ex_convS (l := [UInt8.ofNat mc]) E rfl Tryz.underlying103 Tryz.underlying5 Tryz.underlying9 rfl (own_new1 (base := 0) (H.get (i := 0) rfl) (Nat.zero_le _)) (bv_one1 mc f10)) ?_
          refine SxA.take (i := 6) (v := .string ⟨((out ++ [UInt8.ofNat mc])).toArray⟩) rfl (by kernel_rfl) (by kernel_rfl) (by kernel_rfl) rfl rfl (fun _ _ _ h => h) trivial (fun ρ w E H => ex_sadd E rfl rfl rfl (by (try simp only [List.length_append, List.length_cons, List.length_nil]); omega)) ?_
          refine SxA.take (i := 11) (v := .string ⟨(((out ++ [UInt8.ofNat mc]) ++ (strB mt))).toArray⟩) rfl (by kernel_rfl) (by kernel_rfl) (by kernel_rfl) rfl rfl (fun _ _ _ h => h) trivial (fun ρ w E H => ex_sadd E rfl rfl rfl (by (try simp only [List.length_append, List.length_cons, List.length_nil]); omega)) ?_
          refine SxA.take (i := 12) rfl (by kernel_rfl) (by kernel_rfl) (by kernel_rfl) rfl rfl (fun _ _ _ h => h) trivial (fun ρ w E H => ex_assign E rfl rfl) ?_
          refine SxA.done (by kernel_rfl) ?_
          refine SxN.block (SxN.block (SxN.then_ (SxC.region ?_)))
          refine SxL.val trivial rfl rfl (fun ρ w E H => ex_move E rfl rfl) ?_
          refine SxL.val (v := .int .i64 ((i + 1 : Nat) : Int)) trivial rfl rfl (fun ρ w E H => ex_add E rfl rfl rfl (by have h := chars_len mk; rw [IntKind.wrap_i64]; omega)) ?_
          refine SxL.val trivial rfl rfl (fun ρ w E H => ex_assign E rfl rfl) ?_
          refine SxL.nil ?_
          refine SxN.back (gk1 - 1) (i + 1, ((out ++ [UInt8.ofNat mc]) ++ (strB mt))) (by omega) ⟨by omega, by rw [insB_succ hp, ← hout]; (try rw [ho2]); (try rw [putV_end (by simpa [cmpB] using hc110)]); (try rw [putI_end (by simpa [cmpB] using hc151)]); simp [Pt.put, voB, imB]⟩ ⟨rfl, rfl, rfl, rfl, trivial⟩ [1, 2] rfl (by decide) ⟨.inr (fun g hg => by rw [List.mem_singleton.1 hg]; exact hg5), .inl rfl, .inl rfl, trivial⟩
      · refine SxO.callB (v := .string ⟨((strB mt)).toArray⟩) rfl trivial rfl rfl (fun ρ w E => ex_call E en_palaver_palaverref01_Str rfl rfl) (fun w H => refStr_any mt (by omega) w) (fun w H => H.ks [] [0, 1] rfl ⟨(fun g hg => by rw [List.mem_singleton.1 hg]; exact .inr hg2), (fun g hg => by rw [List.mem_singleton.1 hg]; exact .inr hg1), trivial⟩) ?_
        refine SxA.ready [4] (by kernel_rfl) (by simp) ⟨?_, trivial⟩
        refine SxO.newS (cs := [.int .u8 (mc : Int)]) rfl trivial rfl rfl (fun ρ w E H => ex_buildSlice E rfl rfl Tryz.underlying103 sz_uint8 zr_uint8 rfl rfl (by kernel_rfl)) (fun g6 w hg6 H => H.ks [] [1, 2] rfl ⟨(fun g hg => by rw [List.mem_singleton.1 hg]; exact .inr hg6), (fun g hg => by rw [List.mem_singleton.1 hg]; exact .inr hg2), (fun g hg => by rw [List.mem_singleton.1 hg]; exact .inr hg1), trivial⟩) fun g6 hg6 => ?_
        refine SxA.ready [5] (by kernel_rfl) (by simp) ⟨?_, trivial⟩
        refine SxO.val (v := .string ⟨[UInt8.ofNat mc].toArray⟩) rfl trivial rfl rfl (fun ρ w E H => ex_convS (l := [UInt8.ofNat mc]) E rfl Tryz.underlying103 Tryz.underlying5 Tryz.underlying9 rfl (own_new1 (base := 0) (H.get (i := 0) rfl) (Nat.zero_le _)) (bv_one1 mc f10)) ?_
        refine SxA.take (i := 6) (v := .string ⟨((out ++ [UInt8.ofNat mc])).toArray⟩) rfl (by kernel_rfl) (by kernel_rfl) (by kernel_rfl) rfl rfl (fun _ _ _ h => h) trivial (fun ρ w E H => ex_sadd E rfl rfl rfl (by (try simp only [List.length_append, List.length_cons, List.length_nil]); omega)) ?_
        refine SxA.take (i := 11) (v := .string ⟨(((out ++ [UInt8.ofNat mc]) ++ (strB mt))).toArray⟩) rfl (by kernel_rfl) (by kernel_rfl) (by kernel_rfl) rfl rfl (fun _ _ _ h => h) trivial (fun ρ w E H => ex_sadd E rfl rfl rfl (by (try simp only [List.length_append, List.length_cons, List.length_nil]); omega)) ?_
        refine SxA.take (i := 12) rfl (by kernel_rfl) (by kernel_rfl) (by kernel_rfl) rfl rfl (fun _ _ _ h => h) trivial (fun ρ w E H => ex_assign E rfl rfl) ?_
        refine SxA.done (by kernel_rfl) ?_
        refine SxN.block (SxN.block (SxN.then_ (SxC.region ?_)))
        refine SxL.val trivial rfl rfl (fun ρ w E H => ex_move E rfl rfl) ?_
        refine SxL.val (v := .int .i64 ((i + 1 : Nat) : Int)) trivial rfl rfl (fun ρ w E H => ex_add E rfl rfl rfl (by have h := chars_len mk; rw [IntKind.wrap_i64]; omega)) ?_
        refine SxL.val trivial rfl rfl (fun ρ w E H => ex_assign E rfl rfl) ?_
        refine SxL.nil ?_
        refine SxN.back (gk1 - 1) (i + 1, ((out ++ [UInt8.ofNat mc]) ++ (strB mt))) (by omega) ⟨by omega, by rw [insB_succ hp, ← hout]; (try rw [ho2]); (try rw [putV_end (by simpa [cmpB] using hc110)]); (try rw [putI_end (by simpa [cmpB] using hc151)]); simp [Pt.put, voB, imB]⟩ ⟨rfl, rfl, rfl, rfl, trivial⟩ [1, 2] rfl (by decide) ⟨.inr (fun g hg => by rw [List.mem_singleton.1 hg]; exact hg6), .inl rfl, .inl rfl, trivial⟩
    · simp only [Pt.put, List.length_append, List.length_cons, List.length_nil] at hnx
      refine SxC.region ?_
      iterate 2 refine SxL.val trivial rfl rfl (fun ρ w E H => ex_move E rfl rfl) ?_
      refine SxL.val (v := .int .u8 111) trivial rfl rfl (fun ρ w E H => ex_indexT (n := i) (b := (UInt8.ofNat 111)) E rfl Tryz.underlying9 rfl rfl hch rfl) ?_
      refine SxL.nil (SxN.then_ (SxC.block (SxC.seq (SxC.region ?_))))
      refine SxL.val (v := .bool false) trivial rfl rfl (fun ρ w E H => ex_cmp E rfl rfl rfl rfl (by decide)) ?_
      refine SxL.val trivial rfl rfl (fun ρ w E H => ex_assign E rfl rfl) ?_
      refine SxL.nil (SxN.then_ (SxC.condF rfl (SxC.seq (SxC.region ?_))))
      refine SxL.val (v := .bool false) trivial rfl rfl (fun ρ w E H => ex_cmp E rfl rfl rfl rfl (by decide)) ?_
      refine SxL.val trivial rfl rfl (fun ρ w E H => ex_assign E rfl rfl) ?_
      refine SxL.nil (SxN.then_ (SxC.condF rfl (SxC.seq (SxC.region ?_))))
      refine SxL.val (v := .bool false) trivial rfl rfl (fun ρ w E H => ex_cmp E rfl rfl rfl rfl (by decide)) ?_
      refine SxL.val trivial rfl rfl (fun ρ w E H => ex_assign E rfl rfl) ?_
      refine SxL.nil (SxN.then_ (SxC.condF rfl (SxC.seq (SxC.region ?_))))
      refine SxL.val (v := .bool true) trivial rfl rfl (fun ρ w E H => ex_cmp E rfl rfl rfl rfl (by decide)) ?_
      refine SxL.val trivial rfl rfl (fun ρ w E H => ex_assign E rfl rfl) ?_
      refine SxL.nil (SxN.then_ (SxC.condT rfl (SxC.region ?_)))
      refine SxL.val trivial rfl rfl (fun ρ w E H => ex_move E rfl rfl) ?_
      refine SxL.val (v := .pointer (some ⟨g1, 5, none⟩)) trivial rfl rfl (fun ρ w E H => ex_field E rfl fa_palaver_api_Msg_4 rfl rfl) ?_
      refine SxL.val trivial rfl rfl (fun ρ w E H => ex_load1 E (H.get (i := 1) rfl) rfl rfl Tryz.underlying5 rfl rfl) ?_
      refine SxL.newS (cs := [.int .u8 (mo : Int)]) trivial rfl rfl (fun ρ w E H => ex_buildSlice E rfl rfl Tryz.underlying103 sz_uint8 zr_uint8 rfl rfl (by kernel_rfl)) fun g7 hg7 => ?_
      refine SxL.val (v := .string ⟨[UInt8.ofNat mo].toArray⟩) trivial rfl rfl (fun ρ w E H => ex_convS (l := [UInt8.ofNat mo]) E rfl Tryz.underlying103 Tryz.underlying5 Tryz.underlying9 rfl (own_new1 (base := 0) (H.get (i := 0) rfl) (Nat.zero_le _)) (bv_one1 mo f6)) ?_
      refine SxL.val (v := .string ⟨((out ++ [UInt8.ofNat mo])).toArray⟩) trivial rfl rfl (fun ρ w E H => ex_sadd E rfl rfl rfl (by (try simp only [List.length_append, List.length_cons, List.length_nil]); omega)) ?_
      refine SxL.val trivial rfl rfl (fun ρ w E H => ex_assign E rfl rfl) ?_
      refine SxL.nil (SxN.block (SxN.block (SxN.then_ (SxC.region ?_))))
      refine SxL.val trivial rfl rfl (fun ρ w E H => ex_move E rfl rfl) ?_
      refine SxL.val (v := .int .i64 ((i + 1 : Nat) : Int)) trivial rfl rfl (fun ρ w E H => ex_add E rfl rfl rfl (by have h := chars_len mk; rw [IntKind.wrap_i64]; omega)) ?_
      refine SxL.val trivial rfl rfl (fun ρ w E H => ex_assign E rfl rfl) ?_
      refine SxL.nil ?_
      refine SxN.back (gk1 - 1) (i + 1, (out ++ [UInt8.ofNat mo])) (by omega) ⟨by omega, by rw [insB_succ hp, ← hout]; (try rw [ho2]); (try rw [putV_end (by simpa [cmpB] using hc110)]); (try rw [putI_end (by simpa [cmpB] using hc151)]); simp [Pt.put, voB, imB]⟩ ⟨rfl, rfl, rfl, rfl, trivial⟩ [1, 2] rfl (by decide) ⟨.inr (fun g hg => by rw [List.mem_singleton.1 hg]; exact hg7), .inl rfl, .inl rfl, trivial⟩
    · simp only [Pt.put, List.length_append, List.length_cons, List.length_nil] at hnx
      refine SxC.region ?_
      iterate 2 refine SxL.val trivial rfl rfl (fun ρ w E H => ex_move E rfl rfl) ?_
      refine SxL.val (v := .int .u8 98) trivial rfl rfl (fun ρ w E H => ex_indexT (n := i) (b := (UInt8.ofNat 98)) E rfl Tryz.underlying9 rfl rfl hch rfl) ?_
      refine SxL.nil (SxN.then_ (SxC.block (SxC.seq (SxC.region ?_))))
      refine SxL.val (v := .bool false) trivial rfl rfl (fun ρ w E H => ex_cmp E rfl rfl rfl rfl (by decide)) ?_
      refine SxL.val trivial rfl rfl (fun ρ w E H => ex_assign E rfl rfl) ?_
      refine SxL.nil (SxN.then_ (SxC.condF rfl (SxC.seq (SxC.region ?_))))
      refine SxL.val (v := .bool false) trivial rfl rfl (fun ρ w E H => ex_cmp E rfl rfl rfl rfl (by decide)) ?_
      refine SxL.val trivial rfl rfl (fun ρ w E H => ex_assign E rfl rfl) ?_
      refine SxL.nil (SxN.then_ (SxC.condF rfl (SxC.seq (SxC.region ?_))))
      refine SxL.val (v := .bool false) trivial rfl rfl (fun ρ w E H => ex_cmp E rfl rfl rfl rfl (by decide)) ?_
      refine SxL.val trivial rfl rfl (fun ρ w E H => ex_assign E rfl rfl) ?_
      refine SxL.nil (SxN.then_ (SxC.condF rfl (SxC.seq (SxC.region ?_))))
      refine SxL.val (v := .bool false) trivial rfl rfl (fun ρ w E H => ex_cmp E rfl rfl rfl rfl (by decide)) ?_
      refine SxL.val trivial rfl rfl (fun ρ w E H => ex_assign E rfl rfl) ?_
      refine SxL.nil (SxN.then_ (SxC.condF rfl (SxC.seq (SxC.region ?_))))
      refine SxL.val (v := .bool true) trivial rfl rfl (fun ρ w E H => ex_cmp E rfl rfl rfl rfl (by decide)) ?_
      refine SxL.val trivial rfl rfl (fun ρ w E H => ex_assign E rfl rfl) ?_
      refine SxL.nil (SxN.then_ (SxC.condT rfl (SxC.region ?_)))
      refine SxL.val trivial rfl rfl (fun ρ w E H => ex_move E rfl rfl) ?_
      refine SxL.val (v := .pointer (some ⟨g1, 1, none⟩)) trivial rfl rfl (fun ρ w E H => ex_field E rfl fa_palaver_api_Msg_1 rfl rfl) ?_
      refine SxL.val trivial rfl rfl (fun ρ w E H => ex_load (part := [.int .u64 (mn : Int), .int .u8 (mr : Int)]) E (H.get (i := 1) rfl) rfl rfl Tryz.underlying24 rfl sz_palaver_api_Ballot rfl rfl) ?_
      refine SxL.callB (v := .string ⟨((Bal.balB ⟨mn, mr⟩)).toArray⟩) trivial rfl rfl (fun ρ w E => ex_call E en_palaver_palaverref07_Bytes rfl rfl) (fun w H => Bal.refBytes_any ⟨mn, mr⟩ (by show _ < 18446744073709551616; assumption) (by show _ < 256; assumption) w) ?_
      refine SxL.val (v := .string ⟨((out ++ (Bal.balB ⟨mn, mr⟩))).toArray⟩) trivial rfl rfl (fun ρ w E H => ex_sadd E rfl rfl rfl (by (try simp only [List.length_append, List.length_cons, List.length_nil]); omega)) ?_
      refine SxL.val trivial rfl rfl (fun ρ w E H => ex_assign E rfl rfl) ?_
      refine SxL.nil (SxN.block (SxN.block (SxN.then_ (SxC.region ?_))))
      refine SxL.val trivial rfl rfl (fun ρ w E H => ex_move E rfl rfl) ?_
      refine SxL.val (v := .int .i64 ((i + 1 : Nat) : Int)) trivial rfl rfl (fun ρ w E H => ex_add E rfl rfl rfl (by have h := chars_len mk; rw [IntKind.wrap_i64]; omega)) ?_
      refine SxL.val trivial rfl rfl (fun ρ w E H => ex_assign E rfl rfl) ?_
      refine SxL.nil ?_
      refine SxN.back (gk1 - 1) (i + 1, (out ++ (Bal.balB ⟨mn, mr⟩))) (by omega) ⟨by omega, by rw [insB_succ hp, ← hout]; (try rw [ho2]); (try rw [putV_end (by simpa [cmpB] using hc110)]); (try rw [putI_end (by simpa [cmpB] using hc151)]); simp [Pt.put, voB, imB]⟩ ⟨rfl, rfl, rfl, rfl, trivial⟩ [0, 1] rfl (by decide) ⟨.inl rfl, .inl rfl, trivial⟩
    · simp only [Pt.put, List.length_append, List.length_cons, List.length_nil] at hnx
      refine SxC.region ?_
      iterate 2 refine SxL.val trivial rfl rfl (fun ρ w E H => ex_move E rfl rfl) ?_
      refine SxL.val (v := .int .u8 97) trivial rfl rfl (fun ρ w E H => ex_indexT (n := i) (b := (UInt8.ofNat 97)) E rfl Tryz.underlying9 rfl rfl hch rfl) ?_
      refine SxL.nil (SxN.then_ (SxC.block (SxC.seq (SxC.region ?_))))
      refine SxL.val (v := .bool false) trivial rfl rfl (fun ρ w E H => ex_cmp E rfl rfl rfl rfl (by decide)) ?_
      refine SxL.val trivial rfl rfl (fun ρ w E H => ex_assign E rfl rfl) ?_
      refine SxL.nil (SxN.then_ (SxC.condF rfl (SxC.seq (SxC.region ?_))))
      refine SxL.val (v := .bool false) trivial rfl rfl (fun ρ w E H => ex_cmp E rfl rfl rfl rfl (by decide)) ?_
      refine SxL.val trivial rfl rfl (fun ρ w E H => ex_assign E rfl rfl) ?_
      refine SxL.nil (SxN.then_ (SxC.condF rfl (SxC.seq (SxC.region ?_))))
      refine SxL.val (v := .bool false) trivial rfl rfl (fun ρ w E H => ex_cmp E rfl rfl rfl rfl (by decide)) ?_
      refine SxL.val trivial rfl rfl (fun ρ w E H => ex_assign E rfl rfl) ?_
      refine SxL.nil (SxN.then_ (SxC.condF rfl (SxC.seq (SxC.region ?_))))
      refine SxL.val (v := .bool false) trivial rfl rfl (fun ρ w E H => ex_cmp E rfl rfl rfl rfl (by decide)) ?_
      refine SxL.val trivial rfl rfl (fun ρ w E H => ex_assign E rfl rfl) ?_
      refine SxL.nil (SxN.then_ (SxC.condF rfl (SxC.seq (SxC.region ?_))))
      refine SxL.val (v := .bool false) trivial rfl rfl (fun ρ w E H => ex_cmp E rfl rfl rfl rfl (by decide)) ?_
      refine SxL.val trivial rfl rfl (fun ρ w E H => ex_assign E rfl rfl) ?_
      refine SxL.nil (SxN.then_ (SxC.condF rfl (SxC.seq (SxC.region ?_))))
      refine SxL.val (v := .bool true) trivial rfl rfl (fun ρ w E H => ex_cmp E rfl rfl rfl rfl (by decide)) ?_
      refine SxL.val trivial rfl rfl (fun ρ w E H => ex_assign E rfl rfl) ?_
      refine SxL.nil (SxN.then_ (SxC.condT rfl (SxC.region ?_)))
      refine SxL.val trivial rfl rfl (fun ρ w E H => ex_move E rfl rfl) ?_
      refine SxL.val (v := .pointer (some ⟨g1, 3, none⟩)) trivial rfl rfl (fun ρ w E H => ex_field E rfl fa_palaver_api_Msg_2 rfl rfl) ?_
      refine SxL.val trivial rfl rfl (fun ρ w E H => ex_load1 E (H.get (i := 1) rfl) rfl rfl Tryz.underlying22 rfl rfl) ?_
      refine SxL.callB (v := .string ⟨((numB mb)).toArray⟩) trivial rfl rfl (fun ρ w E => ex_call E en_palaver_palaverref01_Num rfl rfl) (fun w H => refNum_any mb (by omega) w) ?_
      refine SxL.val (v := .string ⟨((out ++ (numB mb))).toArray⟩) trivial rfl rfl (fun ρ w E H => ex_sadd E rfl rfl rfl (by (try simp only [List.length_append, List.length_cons, List.length_nil]); omega)) ?_
      refine SxL.val trivial rfl rfl (fun ρ w E H => ex_assign E rfl rfl) ?_
      refine SxL.nil (SxN.block (SxN.block (SxN.then_ (SxC.region ?_))))
      refine SxL.val trivial rfl rfl (fun ρ w E H => ex_move E rfl rfl) ?_
      refine SxL.val (v := .int .i64 ((i + 1 : Nat) : Int)) trivial rfl rfl (fun ρ w E H => ex_add E rfl rfl rfl (by have h := chars_len mk; rw [IntKind.wrap_i64]; omega)) ?_
      refine SxL.val trivial rfl rfl (fun ρ w E H => ex_assign E rfl rfl) ?_
      refine SxL.nil ?_
      refine SxN.back (gk1 - 1) (i + 1, (out ++ (numB mb))) (by omega) ⟨by omega, by rw [insB_succ hp, ← hout]; (try rw [ho2]); (try rw [putV_end (by simpa [cmpB] using hc110)]); (try rw [putI_end (by simpa [cmpB] using hc151)]); simp [Pt.put, voB, imB]⟩ ⟨rfl, rfl, rfl, rfl, trivial⟩ [0, 1] rfl (by decide) ⟨.inl rfl, .inl rfl, trivial⟩
    · simp only [Pt.put, List.length_append, List.length_cons, List.length_nil] at hnx
      refine SxC.region ?_
      iterate 2 refine SxL.val trivial rfl rfl (fun ρ w E H => ex_move E rfl rfl) ?_
      refine SxL.val (v := .int .u8 117) trivial rfl rfl (fun ρ w E H => ex_indexT (n := i) (b := (UInt8.ofNat 117)) E rfl Tryz.underlying9 rfl rfl hch rfl) ?_
      refine SxL.nil (SxN.then_ (SxC.block (SxC.seq (SxC.region ?_))))
      refine SxL.val (v := .bool false) trivial rfl rfl (fun ρ w E H => ex_cmp E rfl rfl rfl rfl (by decide)) ?_
      refine SxL.val trivial rfl rfl (fun ρ w E H => ex_assign E rfl rfl) ?_
      refine SxL.nil (SxN.then_ (SxC.condF rfl (SxC.seq (SxC.region ?_))))
      refine SxL.val (v := .bool false) trivial rfl rfl (fun ρ w E H => ex_cmp E rfl rfl rfl rfl (by decide)) ?_
      refine SxL.val trivial rfl rfl (fun ρ w E H => ex_assign E rfl rfl) ?_
      refine SxL.nil (SxN.then_ (SxC.condF rfl (SxC.seq (SxC.region ?_))))
      refine SxL.val (v := .bool false) trivial rfl rfl (fun ρ w E H => ex_cmp E rfl rfl rfl rfl (by decide)) ?_
      refine SxL.val trivial rfl rfl (fun ρ w E H => ex_assign E rfl rfl) ?_
      refine SxL.nil (SxN.then_ (SxC.condF rfl (SxC.seq (SxC.region ?_))))
      refine SxL.val (v := .bool false) trivial rfl rfl (fun ρ w E H => ex_cmp E rfl rfl rfl rfl (by decide)) ?_
      refine SxL.val trivial rfl rfl (fun ρ w E H => ex_assign E rfl rfl) ?_
      refine SxL.nil (SxN.then_ (SxC.condF rfl (SxC.seq (SxC.region ?_))))
      refine SxL.val (v := .bool false) trivial rfl rfl (fun ρ w E H => ex_cmp E rfl rfl rfl rfl (by decide)) ?_
      refine SxL.val trivial rfl rfl (fun ρ w E H => ex_assign E rfl rfl) ?_
      refine SxL.nil (SxN.then_ (SxC.condF rfl (SxC.seq (SxC.region ?_))))
      refine SxL.val (v := .bool false) trivial rfl rfl (fun ρ w E H => ex_cmp E rfl rfl rfl rfl (by decide)) ?_
      refine SxL.val trivial rfl rfl (fun ρ w E H => ex_assign E rfl rfl) ?_
      refine SxL.nil (SxN.then_ (SxC.condF rfl (SxC.seq (SxC.seq (SxC.region ?_)))))
      refine SxL.val (v := .bool true) trivial rfl rfl (fun ρ w E H => ex_cmp E rfl rfl rfl rfl (by decide)) ?_
      refine SxL.val trivial rfl rfl (fun ρ w E H => ex_assign E rfl rfl) ?_
      refine SxL.nil (SxN.then_ (SxC.condT rfl (SxC.skip (SxN.then_ (SxC.condT rfl (SxC.region ?_))))))
      refine SxL.val trivial rfl rfl (fun ρ w E H => ex_move E rfl rfl) ?_
      refine SxL.val (v := .pointer (some ⟨g1, 4, none⟩)) trivial rfl rfl (fun ρ w E H => ex_field E rfl fa_palaver_api_Msg_3 rfl rfl) ?_
      refine SxL.val trivial rfl rfl (fun ρ w E H => ex_load1 E (H.get (i := 1) rfl) rfl rfl Tryz.underlying22 rfl rfl) ?_
      refine SxL.callB (v := .string ⟨((numB ms)).toArray⟩) trivial rfl rfl (fun ρ w E => ex_call E en_palaver_palaverref01_Num rfl rfl) (fun w H => refNum_any ms (by omega) w) ?_
      refine SxL.val (v := .string ⟨((out ++ (numB ms))).toArray⟩) trivial rfl rfl (fun ρ w E H => ex_sadd E rfl rfl rfl (by (try simp only [List.length_append, List.length_cons, List.length_nil]); omega)) ?_
      refine SxL.val trivial rfl rfl (fun ρ w E H => ex_assign E rfl rfl) ?_
      refine SxL.nil (SxN.block (SxN.block (SxN.then_ (SxC.region ?_))))
      refine SxL.val trivial rfl rfl (fun ρ w E H => ex_move E rfl rfl) ?_
      refine SxL.val (v := .int .i64 ((i + 1 : Nat) : Int)) trivial rfl rfl (fun ρ w E H => ex_add E rfl rfl rfl (by have h := chars_len mk; rw [IntKind.wrap_i64]; omega)) ?_
      refine SxL.val trivial rfl rfl (fun ρ w E H => ex_assign E rfl rfl) ?_
      refine SxL.nil ?_
      refine SxN.back (gk1 - 1) (i + 1, (out ++ (numB ms))) (by omega) ⟨by omega, by rw [insB_succ hp, ← hout]; (try rw [ho2]); (try rw [putV_end (by simpa [cmpB] using hc110)]); (try rw [putI_end (by simpa [cmpB] using hc151)]); simp [Pt.put, voB, imB]⟩ ⟨rfl, rfl, rfl, rfl, trivial⟩ [0, 1] rfl (by decide) ⟨.inl rfl, .inl rfl, trivial⟩
    · simp only [Pt.put, List.length_append, List.length_cons, List.length_nil] at hnx
      refine SxC.region ?_
      iterate 2 refine SxL.val trivial rfl rfl (fun ρ w E H => ex_move E rfl rfl) ?_
      refine SxL.val (v := .int .u8 115) trivial rfl rfl (fun ρ w E H => ex_indexT (n := i) (b := (UInt8.ofNat 115)) E rfl Tryz.underlying9 rfl rfl hch rfl) ?_
      refine SxL.nil (SxN.then_ (SxC.block (SxC.seq (SxC.region ?_))))
      refine SxL.val (v := .bool false) trivial rfl rfl (fun ρ w E H => ex_cmp E rfl rfl rfl rfl (by decide)) ?_
      refine SxL.val trivial rfl rfl (fun ρ w E H => ex_assign E rfl rfl) ?_
      refine SxL.nil (SxN.then_ (SxC.condF rfl (SxC.seq (SxC.region ?_))))
      refine SxL.val (v := .bool false) trivial rfl rfl (fun ρ w E H => ex_cmp E rfl rfl rfl rfl (by decide)) ?_
      refine SxL.val trivial rfl rfl (fun ρ w E H => ex_assign E rfl rfl) ?_
      refine SxL.nil (SxN.then_ (SxC.condF rfl (SxC.seq (SxC.region ?_))))
      refine SxL.val (v := .bool false) trivial rfl rfl (fun ρ w E H => ex_cmp E rfl rfl rfl rfl (by decide)) ?_
      refine SxL.val trivial rfl rfl (fun ρ w E H => ex_assign E rfl rfl) ?_
      refine SxL.nil (SxN.then_ (SxC.condF rfl (SxC.seq (SxC.region ?_))))
      refine SxL.val (v := .bool false) trivial rfl rfl (fun ρ w E H => ex_cmp E rfl rfl rfl rfl (by decide)) ?_
      refine SxL.val trivial rfl rfl (fun ρ w E H => ex_assign E rfl rfl) ?_
      refine SxL.nil (SxN.then_ (SxC.condF rfl (SxC.seq (SxC.region ?_))))
      refine SxL.val (v := .bool false) trivial rfl rfl (fun ρ w E H => ex_cmp E rfl rfl rfl rfl (by decide)) ?_
      refine SxL.val trivial rfl rfl (fun ρ w E H => ex_assign E rfl rfl) ?_
      refine SxL.nil (SxN.then_ (SxC.condF rfl (SxC.seq (SxC.region ?_))))
      refine SxL.val (v := .bool false) trivial rfl rfl (fun ρ w E H => ex_cmp E rfl rfl rfl rfl (by decide)) ?_
      refine SxL.val trivial rfl rfl (fun ρ w E H => ex_assign E rfl rfl) ?_
      refine SxL.nil (SxN.then_ (SxC.condF rfl (SxC.seq (SxC.seq (SxC.region ?_)))))
      refine SxL.val (v := .bool false) trivial rfl rfl (fun ρ w E H => ex_cmp E rfl rfl rfl rfl (by decide)) ?_
      refine SxL.val trivial rfl rfl (fun ρ w E H => ex_assign E rfl rfl) ?_
      refine SxL.nil (SxN.then_ (SxC.condF rfl (SxC.region ?_)))
      refine SxL.val (v := .bool true) trivial rfl rfl (fun ρ w E H => ex_cmp E rfl rfl rfl rfl (by decide)) ?_
      refine SxL.val trivial rfl rfl (fun ρ w E H => ex_assign E rfl rfl) ?_
      refine SxL.nil (SxN.then_ (SxC.condT rfl (SxC.region ?_)))
      refine SxL.val trivial rfl rfl (fun ρ w E H => ex_move E rfl rfl) ?_
      refine SxL.val (v := .pointer (some ⟨g1, 4, none⟩)) trivial rfl rfl (fun ρ w E H => ex_field E rfl fa_palaver_api_Msg_3 rfl rfl) ?_
      refine SxL.val trivial rfl rfl (fun ρ w E H => ex_load1 E (H.get (i := 1) rfl) rfl rfl Tryz.underlying22 rfl rfl) ?_
      refine SxL.callB (v := .string ⟨((numB ms)).toArray⟩) trivial rfl rfl (fun ρ w E => ex_call E en_palaver_palaverref01_Num rfl rfl) (fun w H => refNum_any ms (by omega) w) ?_
      refine SxL.val (v := .string ⟨((out ++ (numB ms))).toArray⟩) trivial rfl rfl (fun ρ w E H => ex_sadd E rfl rfl rfl (by (try simp only [List.length_append, List.length_cons, List.length_nil]); omega)) ?_
      refine SxL.val trivial rfl rfl (fun ρ w E H => ex_assign E rfl rfl) ?_
      refine SxL.nil (SxN.block (SxN.block (SxN.then_ (SxC.region ?_))))
      refine SxL.val trivial rfl rfl (fun ρ w E H => ex_move E rfl rfl) ?_
      refine SxL.val (v := .int .i64 ((i + 1 : Nat) : Int)) trivial rfl rfl (fun ρ w E H => ex_add E rfl rfl rfl (by have h := chars_len mk; rw [IntKind.wrap_i64]; omega)) ?_
      refine SxL.val trivial rfl rfl (fun ρ w E H => ex_assign E rfl rfl) ?_
      refine SxL.nil ?_
      refine SxN.back (gk1 - 1) (i + 1, (out ++ (numB ms))) (by omega) ⟨by omega, by rw [insB_succ hp, ← hout]; (try rw [ho2]); (try rw [putV_end (by simpa [cmpB] using hc110)]); (try rw [putI_end (by simpa [cmpB] using hc151)]); simp [Pt.put, voB, imB]⟩ ⟨rfl, rfl, rfl, rfl, trivial⟩ [0, 1] rfl (by decide) ⟨.inl rfl, .inl rfl, trivial⟩
    · simp only [Pt.put, List.length_append, List.length_cons, List.length_nil] at hnx
      refine SxC.region ?_
      iterate 2 refine SxL.val trivial rfl rfl (fun ρ w E H => ex_move E rfl rfl) ?_
      refine SxL.val (v := .int .u8 118) trivial rfl rfl (fun ρ w E H => ex_indexT (n := i) (b := (UInt8.ofNat 118)) E rfl Tryz.underlying9 rfl rfl hch rfl) ?_
      refine SxL.nil (SxN.then_ (SxC.block (SxC.seq (SxC.region ?_))))
      refine SxL.val (v := .bool false) trivial rfl rfl (fun ρ w E H => ex_cmp E rfl rfl rfl rfl (by decide)) ?_
      refine SxL.val trivial rfl rfl (fun ρ w E H => ex_assign E rfl rfl) ?_
      refine SxL.nil (SxN.then_ (SxC.condF rfl (SxC.seq (SxC.region ?_))))
      refine SxL.val (v := .bool false) trivial rfl rfl (fun ρ w E H => ex_cmp E rfl rfl rfl rfl (by decide)) ?_
      refine SxL.val trivial rfl rfl (fun ρ w E H => ex_assign E rfl rfl) ?_
      refine SxL.nil (SxN.then_ (SxC.condF rfl (SxC.seq (SxC.region ?_))))
      refine SxL.val (v := .bool false) trivial rfl rfl (fun ρ w E H => ex_cmp E rfl rfl rfl rfl (by decide)) ?_
      refine SxL.val trivial rfl rfl (fun ρ w E H => ex_assign E rfl rfl) ?_
      refine SxL.nil (SxN.then_ (SxC.condF rfl (SxC.seq (SxC.region ?_))))
      refine SxL.val (v := .bool false) trivial rfl rfl (fun ρ w E H => ex_cmp E rfl rfl rfl rfl (by decide)) ?_
      refine SxL.val trivial rfl rfl (fun ρ w E H => ex_assign E rfl rfl) ?_
      refine SxL.nil (SxN.then_ (SxC.condF rfl (SxC.seq (SxC.region ?_))))
      refine SxL.val (v := .bool false) trivial rfl rfl (fun ρ w E H => ex_cmp E rfl rfl rfl rfl (by decide)) ?_
      refine SxL.val trivial rfl rfl (fun ρ w E H => ex_assign E rfl rfl) ?_
      refine SxL.nil (SxN.then_ (SxC.condF rfl (SxC.seq (SxC.region ?_))))
      refine SxL.val (v := .bool false) trivial rfl rfl (fun ρ w E H => ex_cmp E rfl rfl rfl rfl (by decide)) ?_
      refine SxL.val trivial rfl rfl (fun ρ w E H => ex_assign E rfl rfl) ?_
      refine SxL.nil (SxN.then_ (SxC.condF rfl (SxC.seq (SxC.seq (SxC.region ?_)))))
      refine SxL.val (v := .bool false) trivial rfl rfl (fun ρ w E H => ex_cmp E rfl rfl rfl rfl (by decide)) ?_
      refine SxL.val trivial rfl rfl (fun ρ w E H => ex_assign E rfl rfl) ?_
      refine SxL.nil (SxN.then_ (SxC.condF rfl (SxC.region ?_)))
      refine SxL.val (v := .bool false) trivial rfl rfl (fun ρ w E H => ex_cmp E rfl rfl rfl rfl (by decide)) ?_
      refine SxL.val trivial rfl rfl (fun ρ w E H => ex_assign E rfl rfl) ?_
      refine SxL.nil (SxN.then_ (SxC.condF rfl (SxC.seq (SxC.region ?_))))
      refine SxL.val (v := .bool true) trivial rfl rfl (fun ρ w E H => ex_cmp E rfl rfl rfl rfl (by decide)) ?_
      refine SxL.val trivial rfl rfl (fun ρ w E H => ex_assign E rfl rfl) ?_
      refine SxL.nil (SxN.then_ (SxC.condT rfl (SxC.region ?_)))
      refine SxL.val trivial rfl rfl (fun ρ w E H => ex_move E rfl rfl) ?_
      refine SxL.val (v := .pointer (some ⟨g1, 6, none⟩)) trivial rfl rfl (fun ρ w E H => ex_field E rfl fa_palaver_api_Msg_5 rfl rfl) ?_
      refine SxL.val trivial rfl rfl (fun ρ w E H => ex_load1 E (H.get (i := 1) rfl) rfl rfl Tryz.underlying9 rfl rfl) ?_
      refine SxL.callB (v := .string ⟨((strB mv)).toArray⟩) trivial rfl rfl (fun ρ w E => ex_call E en_palaver_palaverref01_Str rfl rfl) (fun w H => refStr_any mv (by omega) w) ?_
      refine SxL.val (v := .string ⟨((out ++ (strB mv))).toArray⟩) trivial rfl rfl (fun ρ w E H => ex_sadd E rfl rfl rfl (by (try simp only [List.length_append, List.length_cons, List.length_nil]); omega)) ?_
      refine SxL.val trivial rfl rfl (fun ρ w E H => ex_assign E rfl rfl) ?_
      refine SxL.nil (SxN.block (SxN.block (SxN.then_ (SxC.region ?_))))
      refine SxL.val trivial rfl rfl (fun ρ w E H => ex_move E rfl rfl) ?_
      refine SxL.val (v := .int .i64 ((i + 1 : Nat) : Int)) trivial rfl rfl (fun ρ w E H => ex_add E rfl rfl rfl (by have h := chars_len mk; rw [IntKind.wrap_i64]; omega)) ?_
      refine SxL.val trivial rfl rfl (fun ρ w E H => ex_assign E rfl rfl) ?_
      refine SxL.nil ?_
      refine SxN.back (gk1 - 1) (i + 1, (out ++ (strB mv))) (by omega) ⟨by omega, by rw [insB_succ hp, ← hout]; (try rw [ho2]); (try rw [putV_end (by simpa [cmpB] using hc110)]); (try rw [putI_end (by simpa [cmpB] using hc151)]); simp [Pt.put, voB, imB]⟩ ⟨rfl, rfl, rfl, rfl, trivial⟩ [0, 1] rfl (by decide) ⟨.inl rfl, .inl rfl, trivial⟩
    · simp only [Pt.put, List.length_append, List.length_cons, List.length_nil] at hnx
      clear hnx
      have hnl := (numB_length vl.length (by omega)).1
      refine SxC.region ?_
      iterate 2 refine SxL.val trivial rfl rfl (fun ρ w E H => ex_move E rfl rfl) ?_
      refine SxL.val (v := .int .u8 116) trivial rfl rfl (fun ρ w E H => ex_indexT (n := i) (b := (UInt8.ofNat 116)) E rfl Tryz.underlying9 rfl rfl hch rfl) ?_
      refine SxL.nil (SxN.then_ (SxC.block (SxC.seq (SxC.region ?_))))
      refine SxL.val (v := .bool false) trivial rfl rfl (fun ρ w E H => ex_cmp E rfl rfl rfl rfl (by decide)) ?_
      refine SxL.val trivial rfl rfl (fun ρ w E H => ex_assign E rfl rfl) ?_
      refine SxL.nil (SxN.then_ (SxC.condF rfl (SxC.seq (SxC.region ?_))))
      refine SxL.val (v := .bool false) trivial rfl rfl (fun ρ w E H => ex_cmp E rfl rfl rfl rfl (by decide)) ?_
      refine SxL.val trivial rfl rfl (fun ρ w E H => ex_assign E rfl rfl) ?_
      refine SxL.nil (SxN.then_ (SxC.condF rfl (SxC.seq (SxC.region ?_))))
      refine SxL.val (v := .bool false) trivial rfl rfl (fun ρ w E H => ex_cmp E rfl rfl rfl rfl (by decide)) ?_
      refine SxL.val trivial rfl rfl (fun ρ w E H => ex_assign E rfl rfl) ?_
      refine SxL.nil (SxN.then_ (SxC.condF rfl (SxC.seq (SxC.region ?_))))
      refine SxL.val (v := .bool false) trivial rfl rfl (fun ρ w E H => ex_cmp E rfl rfl rfl rfl (by decide)) ?_
      refine SxL.val trivial rfl rfl (fun ρ w E H => ex_assign E rfl rfl) ?_
      refine SxL.nil (SxN.then_ (SxC.condF rfl (SxC.seq (SxC.region ?_))))
      refine SxL.val (v := .bool false) trivial rfl rfl (fun ρ w E H => ex_cmp E rfl rfl rfl rfl (by decide)) ?_
      refine SxL.val trivial rfl rfl (fun ρ w E H => ex_assign E rfl rfl) ?_
      refine SxL.nil (SxN.then_ (SxC.condF rfl (SxC.seq (SxC.region ?_))))
      refine SxL.val (v := .bool false) trivial rfl rfl (fun ρ w E H => ex_cmp E rfl rfl rfl rfl (by decide)) ?_
      refine SxL.val trivial rfl rfl (fun ρ w E H => ex_assign E rfl rfl) ?_
      refine SxL.nil (SxN.then_ (SxC.condF rfl (SxC.seq (SxC.seq (SxC.region ?_)))))
      refine SxL.val (v := .bool false) trivial rfl rfl (fun ρ w E H => ex_cmp E rfl rfl rfl rfl (by decide)) ?_
      refine SxL.val trivial rfl rfl (fun ρ w E H => ex_assign E rfl rfl) ?_
      refine SxL.nil (SxN.then_ (SxC.condF rfl (SxC.region ?_)))
      refine SxL.val (v := .bool false) trivial rfl rfl (fun ρ w E H => ex_cmp E rfl rfl rfl rfl (by decide)) ?_
      refine SxL.val trivial rfl rfl (fun ρ w E H => ex_assign E rfl rfl) ?_
      refine SxL.nil (SxN.then_ (SxC.condF rfl (SxC.seq (SxC.region ?_))))
      refine SxL.val (v := .bool false) trivial rfl rfl (fun ρ w E H => ex_cmp E rfl rfl rfl rfl (by decide)) ?_
      refine SxL.val trivial rfl rfl (fun ρ w E H => ex_assign E rfl rfl) ?_
      refine SxL.nil (SxN.then_ (SxC.condF rfl (SxC.seq (SxC.region ?_))))
      refine SxL.val (v := .bool true) trivial rfl rfl (fun ρ w E H => ex_cmp E rfl rfl rfl rfl (by decide)) ?_
      refine SxL.val trivial rfl rfl (fun ρ w E H => ex_assign E rfl rfl) ?_
      refine SxL.nil (SxN.then_ (SxC.condT rfl (SxC.seq (SxC.region ?_))))
      refine SxL.val trivial rfl rfl (fun ρ w E H => ex_move E rfl rfl) ?_
      refine SxL.val (v := .pointer (some ⟨g1, 7, none⟩)) trivial rfl rfl (fun ρ w E H => ex_field E rfl fa_palaver_api_Msg_6 rfl rfl) ?_
      refine SxL.val trivial rfl rfl (fun ρ w E H => ex_load1 E (H.get (i := 1) rfl) rfl rfl Tryz.underlying25 rfl rfl) ?_
      refine SxL.val (v := .int .i64 (vl.length : Int)) trivial rfl rfl (fun ρ w E H => ex_lenS E rfl Tryz.underlying25 rfl) ?_
      refine SxL.val (v := .int .u64 (vl.length : Int)) trivial rfl rfl (fun ρ w E H => ex_convInt E rfl Tryz.underlying3 Tryz.underlying22 rfl (by rw [IntKind.wrap_u64]; omega)) ?_
      refine SxL.callB (v := .string ⟨((numB vl.length)).toArray⟩) trivial rfl rfl (fun ρ w E => ex_call E en_palaver_palaverref01_Num rfl rfl) (fun w H => refNum_any vl.length (by omega) w) ?_
      refine SxL.val (v := .string ⟨((out ++ (numB vl.length))).toArray⟩) trivial rfl rfl (fun ρ w E H => ex_sadd E rfl rfl rfl (by (try simp only [List.length_append, List.length_cons, List.length_nil]); omega)) ?_
      refine SxL.val trivial rfl rfl (fun ρ w E H => ex_assign E rfl rfl) ?_
      refine SxL.nil (SxN.then_ (SxC.seq (SxC.region ?_)))
      refine SxL.val trivial rfl rfl (fun ρ w E H => ex_assign E rfl rfl) ?_
      refine SxL.nil (SxN.then_ (SxC.block ?_))
      refine SxC.loop2 (fun (k : Nat) (o2 : List UInt8) => [(1, .pointer (some ⟨g1, 0, none⟩)), (3, .string ⟨o2.toArray⟩), (4, .string ⟨((chars mk)).toArray⟩), (5, .int .i64 (i : Int)), (6, .int .i64 (k : Int))]) (fun (k : Nat) (o2 : List UInt8) => [cell g2 5 [.int .u8 (mk : Int)], cell g1 33 [.int .u8 (mk : Int), .int .u64 (mn : Int), .int .u8 (mr : Int), .int .u64 (mb : Int), .int .u64 (ms : Int), .int .u8 (mo : Int), .string ⟨mv.toArray⟩, .slice A vl.length ka, .slice B il.length kb, .int .u8 (ca : Int), .int .u32 (cb : Int), .int .u8 (ck : Int), .string ⟨cs.toArray⟩, .string ⟨ct.toArray⟩, .string ⟨cu.toArray⟩, .int .u8 (cz : Int), .int .u8 (mc : Int), .string ⟨mt.toArray⟩]]) (fun (gk : Nat) (k : Nat) (o2 : List UInt8) => k + gk = vl.length ∧ o2 = out ++ putV vl k) vl.length 0 (out ++ (numB vl.length)) ⟨by omega, by simp [putV]⟩ ⟨rfl, rfl, rfl, rfl, rfl, trivial⟩ [0, 1] rfl (by decide) ⟨.inl rfl, .inl rfl, trivial⟩ fun gk k o2 hF => ?_
      obtain ⟨hkg2, ho2⟩ := hF
      refine SxC.seq (SxC.seq (SxC.region ?_))
      refine SxL.val trivial rfl rfl (fun ρ w E H => ex_move E rfl rfl) ?_
      refine SxL.val (v := .pointer (some ⟨g1, 7, none⟩)) trivial rfl rfl (fun ρ w E H => ex_field E rfl fa_palaver_api_Msg_6 rfl rfl) ?_
      refine SxL.val trivial rfl rfl (fun ρ w E H => ex_load1 E (H.get (i := 1) rfl) rfl rfl Tryz.underlying25 rfl rfl) ?_
      refine SxL.val (v := .int .i64 (vl.length : Int)) trivial rfl rfl (fun ρ w E H => ex_lenS E rfl Tryz.underlying25 rfl) ?_
      refine SxL.valB trivial rfl rfl (fun ρ w E H => ex_cmp E rfl rfl rfl rfl rfl) fun c110 hc110 => ?_
      refine SxL.nil (SxN.then_ ?_)
      cases c110
      · refine SxC.condF rfl (SxC.exit (SxX.thenE (SxX.thenE (SxX.blockE (SxN.block (SxN.block (SxN.then_ (SxC.region ?_))))))))
        refine SxL.val trivial rfl rfl (fun ρ w E H => ex_move E rfl rfl) ?_
        refine SxL.val (v := .int .i64 ((i + 1 : Nat) : Int)) trivial rfl rfl (fun ρ w E H => ex_add E rfl rfl rfl (by have h := chars_len mk; rw [IntKind.wrap_i64]; omega)) ?_
        refine SxL.val trivial rfl rfl (fun ρ w E H => ex_assign E rfl rfl) ?_
        refine SxL.nil ?_
        refine SxN.back (gk1 - 1) (i + 1, o2) (by omega) ⟨by omega, by rw [insB_succ hp, ← hout]; (try rw [ho2]); (try rw [putV_end (by simpa [cmpB] using hc110)]); (try rw [putI_end (by simpa [cmpB] using hc151)]); simp [Pt.put, voB, imB]⟩ ⟨rfl, rfl, rfl, rfl, trivial⟩ [0, 1] rfl (by decide) ⟨.inl rfl, .inl rfl, trivial⟩
      · refine SxC.condT rfl (SxC.skip (SxN.then_ (SxC.seq (SxC.block ?_))))
        have hkl2 : k < vl.length := by simpa [cmpB] using hc110
        obtain ⟨⟨xs, xn, xr, xv⟩, hx⟩ : ∃ x, vl[k]? = some x := ⟨_, List.getElem?_eq_getElem hkl2⟩
        obtain ⟨ad, rfl, -, -⟩ := hr.hv.row hx
        have hxm := List.mem_of_getElem? hx
        have hxf := f7 _ hxm
        have hxs := s4 _ hxm
        have q1 := hxf.h1
        have q2 := hxf.h2
        have q3 := hxf.h3
        dsimp only at hxs q1 q2 q3
        have hb0 := putV_len vl k s2 s10
        have hb1 := putV_len vl (k + 1) s2 s10
        rw [putV_succ hx] at hb1
        simp only [voB, List.length_append] at hb1
        have hol2 : o2.length = out.length + (putV vl k).length := by rw [ho2, List.length_append]
        have hol := hlo
        refine SxC.drawnK [] [0, 1] (by kernel_rfl) rfl ⟨(fun g hg => by rw [List.mem_singleton.1 hg]; exact .inr hg2), (fun g hg => by rw [List.mem_singleton.1 hg]; exact .inr hg1), trivial⟩ ?_
        refine SxA.take (i := 0) rfl (by kernel_rfl) (by kernel_rfl) (by kernel_rfl) rfl rfl (fun _ _ _ h => h) trivial (fun ρ w E H => ex_move E rfl rfl) ?_
        refine SxA.take (i := 1) (v := .pointer (some ⟨g1, 7, none⟩)) rfl (by kernel_rfl) (by kernel_rfl) (by kernel_rfl) rfl rfl (fun _ _ _ h => h) trivial (fun ρ w E H => ex_field E rfl fa_palaver_api_Msg_6 rfl rfl) ?_
        refine SxA.take (i := 2) rfl (by kernel_rfl) (by kernel_rfl) (by kernel_rfl) rfl rfl (fun _ _ _ h => h) trivial (fun ρ w E H => ex_load1 E (H.get (i := 1) rfl) rfl rfl Tryz.underlying25 rfl rfl) ?_
        refine SxA.take (i := 3) rfl (by kernel_rfl) (by kernel_rfl) (by kernel_rfl) rfl rfl (fun _ _ _ h => h) trivial (fun ρ w E H => ex_move E rfl rfl) ?_
        refine SxA.take (i := 4) (v := .pointer (some (ad.add (k * 4)))) rfl (by kernel_rfl) (by kernel_rfl) (by kernel_rfl) rfl rfl (fun _ _ _ h => h) trivial (fun ρ w E H => ex_index (i := k) E rfl Tryz.underlying25 sz_palaver_api_Vote rfl rfl hkl2) ?_
        refine SxA.take (i := 5) (v := .pointer (some (ad.add (k * 4)))) rfl (by kernel_rfl) (by kernel_rfl) (by kernel_rfl) rfl rfl (fun _ _ _ h => h) trivial (fun ρ w E H => ex_field0 E rfl fa_palaver_api_Vote_0 rfl) ?_
        refine SxA.take (i := 6) (v := .int .u64 (xs : Int)) rfl (by kernel_rfl) (by kernel_rfl) (by kernel_rfl) rfl rfl (fun _ _ _ h => h) trivial (fun ρ w E H => ex_loadX0 E ((hr.hv.below (H.os.below (Nat.le_refl _) (by simp))).rowA hx) rfl rfl rfl Tryz.underlying22 rfl) ?_
        refine SxA.take (i := 9) (v := .pointer (some ⟨g1, 7, none⟩)) rfl (by kernel_rfl) (by kernel_rfl) (by kernel_rfl) rfl rfl (fun _ _ _ h => h) trivial (fun ρ w E H => ex_field E rfl fa_palaver_api_Msg_6 rfl rfl) ?_
        refine SxA.take (i := 10) rfl (by kernel_rfl) (by kernel_rfl) (by kernel_rfl) rfl rfl (fun _ _ _ h => h) trivial (fun ρ w E H => ex_load1 E (H.get (i := 1) rfl) rfl rfl Tryz.underlying25 rfl rfl) ?_
        refine SxA.take (i := 11) rfl (by kernel_rfl) (by kernel_rfl) (by kernel_rfl) rfl rfl (fun _ _ _ h => h) trivial (fun ρ w E H => ex_move E rfl rfl) ?_
        refine SxA.take (i := 12) (v := .pointer (some (ad.add (k * 4)))) rfl (by kernel_rfl) (by kernel_rfl) (by kernel_rfl) rfl rfl (fun _ _ _ h => h) trivial (fun ρ w E H => ex_index (i := k) E rfl Tryz.underlying25 sz_palaver_api_Vote rfl rfl hkl2) ?_
        refine SxA.take (i := 13) (v := .pointer (some ((ad.add (k * 4)).add 1))) rfl (by kernel_rfl) (by kernel_rfl) (by kernel_rfl) rfl rfl (fun _ _ _ h => h) trivial (fun ρ w E H => ex_fieldA E rfl fa_palaver_api_Vote_1 rfl) ?_
        refine SxA.take (i := 14) (v := .agg #[.int .u64 (xn : Int), .int .u8 (xr : Int)]) rfl (by kernel_rfl) (by kernel_rfl) (by kernel_rfl) rfl rfl (fun _ _ _ h => h) trivial (fun ρ w E H => ex_loadX (cs := [.int .u64 (xn : Int), .int .u8 (xr : Int)]) E (RowAt.mid ((hr.hv.below (H.os.below (Nat.le_refl _) (by simp))).rowA hx) 1 2 rfl) rfl rfl Tryz.underlying24 rfl sz_palaver_api_Ballot) ?_
        refine SxA.take (i := 17) (v := .pointer (some ⟨g1, 7, none⟩)) rfl (by kernel_rfl) (by kernel_rfl) (by kernel_rfl) rfl rfl (fun _ _ _ h => h) trivial (fun ρ w E H => ex_field E rfl fa_palaver_api_Msg_6 rfl rfl) ?_
        refine SxA.take (i := 18) rfl (by kernel_rfl) (by kernel_rfl) (by kernel_rfl) rfl rfl (fun _ _ _ h => h) trivial (fun ρ w E H => ex_load1 E (H.get (i := 1) rfl) rfl rfl Tryz.underlying25 rfl rfl) ?_
        refine SxA.take (i := 19) rfl (by kernel_rfl) (by kernel_rfl) (by kernel_rfl) rfl rfl (fun _ _ _ h => h) trivial (fun ρ w E H => ex_move E rfl rfl) ?_
        refine SxA.take (i := 20) (v := .pointer (some (ad.add (k * 4)))) rfl (by kernel_rfl) (by kernel_rfl) (by kernel_rfl) rfl rfl (fun _ _ _ h => h) trivial (fun ρ w E H => ex_index (i := k) E rfl Tryz.underlying25 sz_palaver_api_Vote rfl rfl hkl2) ?_
        refine SxA.take (i := 21) (v := .pointer (some ((ad.add (k * 4)).add 3))) rfl (by kernel_rfl) (by kernel_rfl) (by kernel_rfl) rfl rfl (fun _ _ _ h => h) trivial (fun ρ w E H => ex_fieldA E rfl fa_palaver_api_Vote_2 rfl) ?_
        refine SxA.take (i := 22) (v := .string ⟨xv.toArray⟩) rfl (by kernel_rfl) (by kernel_rfl) (by kernel_rfl) rfl rfl (fun _ _ _ h => h) trivial (fun ρ w E H => ex_loadXc E ((hr.hv.below (H.os.below (Nat.le_refl _) (by simp))).rowA hx) 3 rfl rfl rfl Tryz.underlying9 rfl) ?_
        refine SxA.ready [7] (by kernel_rfl) (by simp) ⟨?_, trivial⟩
        refine SxO.callB (v := .string ⟨((numB xs)).toArray⟩) rfl trivial rfl rfl (fun ρ w E => ex_call E en_palaver_palaverref01_Num rfl rfl) (fun w H => refNum_any xs (by omega) w) (fun w H => H.ks [] [0, 1] rfl ⟨(fun g hg => by rw [List.mem_singleton.1 hg]; exact .inr hg2), (fun g hg => by rw [List.mem_singleton.1 hg]; exact .inr hg1), trivial⟩) ?_
        refine SxA.take (i := 8) (v := .string ⟨((o2 ++ (numB xs))).toArray⟩) rfl (by kernel_rfl) (by kernel_rfl) (by kernel_rfl) rfl rfl (fun _ _ _ h => h) trivial (fun ρ w E H => ex_sadd E rfl rfl rfl (by (try simp only [List.length_append, List.length_cons, List.length_nil]); omega)) ?_
        refine SxA.ready [15] (by kernel_rfl) (by simp) ⟨?_, trivial⟩
        refine SxO.callB (v := .string ⟨((Bal.balB ⟨xn, xr⟩)).toArray⟩) rfl trivial rfl rfl (fun ρ w E => ex_call E en_palaver_palaverref07_Bytes rfl rfl) (fun w H => Bal.refBytes_any ⟨xn, xr⟩ (by show _ < 18446744073709551616; assumption) (by show _ < 256; assumption) w) (fun w H => H.ks [] [0, 1] rfl ⟨(fun g hg => by rw [List.mem_singleton.1 hg]; exact .inr hg2), (fun g hg => by rw [List.mem_singleton.1 hg]; exact .inr hg1), trivial⟩) ?_
        refine SxA.take (i := 16) (v := .string ⟨(((o2 ++ (numB xs)) ++ (Bal.balB ⟨xn, xr⟩))).toArray⟩) rfl (by kernel_rfl) (by kernel_rfl) (by kernel_rfl) rfl rfl (fun _ _ _ h => h) trivial (fun ρ w E H => ex_sadd E rfl rfl rfl (by (try simp only [List.length_append, List.length_cons, List.length_nil]); omega)) ?_
        refine SxA.ready [23] (by kernel_rfl) (by simp) ⟨?_, trivial⟩
        refine SxO.callB (v := .string ⟨((strB xv)).toArray⟩) rfl trivial rfl rfl (fun ρ w E => ex_call E en_palaver_palaverref01_Str rfl rfl) (fun w H => refStr_any xv (by omega) w) (fun w H => H.ks [] [0, 1] rfl ⟨(fun g hg => by rw [List.mem_singleton.1 hg]; exact .inr hg2), (fun g hg => by rw [List.mem_singleton.1 hg]; exact .inr hg1), trivial⟩) ?_
        refine SxA.take (i := 24) (v := .string ⟨((((o2 ++ (numB xs)) ++ (Bal.balB ⟨xn, xr⟩)) ++ (strB xv))).toArray⟩) rfl (by kernel_rfl) (by kernel_rfl) (by kernel_rfl) rfl rfl (fun _ _ _ h => h) trivial (fun ρ w E H => ex_sadd E rfl rfl rfl (by (try simp only [List.length_append, List.length_cons, List.length_nil]); omega)) ?_
        refine SxA.take (i := 25) rfl (by kernel_rfl) (by kernel_rfl) (by kernel_rfl) rfl rfl (fun _ _ _ h => h) trivial (fun ρ w E H => ex_assign E rfl rfl) ?_
        refine SxA.done (by kernel_rfl) ?_
        refine SxN.block (SxN.then_ (SxC.region ?_))
        refine SxL.val trivial rfl rfl (fun ρ w E H => ex_move E rfl rfl) ?_
        refine SxL.val (v := .int .i64 ((k + 1 : Nat) : Int)) trivial rfl rfl (fun ρ w E H => ex_add E rfl rfl rfl (by rw [IntKind.wrap_i64]; omega)) ?_
        refine SxL.val trivial rfl rfl (fun ρ w E H => ex_assign E rfl rfl) ?_
        refine SxL.nil ?_
        refine SxN.back (gk - 1) (k + 1, (((o2 ++ (numB xs)) ++ (Bal.balB ⟨xn, xr⟩)) ++ (strB xv))) (by omega) ⟨by omega, by rw [putV_succ hx, ho2]; simp [voB, imB]⟩ ⟨rfl, rfl, rfl, rfl, rfl, trivial⟩ [0, 1] rfl (by decide) ⟨.inl rfl, .inl rfl, trivial⟩
    · simp only [Pt.put, List.length_append, List.length_cons, List.length_nil] at hnx
      clear hnx
      have hnl := (numB_length il.length (by omega)).1
      refine SxC.region ?_
      iterate 2 refine SxL.val trivial rfl rfl (fun ρ w E H => ex_move E rfl rfl) ?_
      refine SxL.val (v := .int .u8 105) trivial rfl rfl (fun ρ w E H => ex_indexT (n := i) (b := (UInt8.ofNat 105)) E rfl Tryz.underlying9 rfl rfl hch rfl) ?_
      refine SxL.nil (SxN.then_ (SxC.block (SxC.seq (SxC.region ?_))))
      refine SxL.val (v := .bool false) trivial rfl rfl (fun ρ w E H => ex_cmp E rfl rfl rfl rfl (by decide)) ?_
      refine SxL.val trivial rfl rfl (fun ρ w E H => ex_assign E rfl rfl) ?_
      refine SxL.nil (SxN.then_ (SxC.condF rfl (SxC.seq (SxC.region ?_))))
      refine SxL.val (v := .bool false) trivial rfl rfl (fun ρ w E H => ex_cmp E rfl rfl rfl rfl (by decide)) ?_
      refine SxL.val trivial rfl rfl (fun ρ w E H => ex_assign E rfl rfl) ?_
      refine SxL.nil (SxN.then_ (SxC.condF rfl (SxC.seq (SxC.region ?_))))
      refine SxL.val (v := .bool false) trivial rfl rfl (fun ρ w E H => ex_cmp E rfl rfl rfl rfl (by decide)) ?_
      refine SxL.val trivial rfl rfl (fun ρ w E H => ex_assign E rfl rfl) ?_
      refine SxL.nil (SxN.then_ (SxC.condF rfl (SxC.seq (SxC.region ?_))))
      refine SxL.val (v := .bool false) trivial rfl rfl (fun ρ w E H => ex_cmp E rfl rfl rfl rfl (by decide)) ?_
      refine SxL.val trivial rfl rfl (fun ρ w E H => ex_assign E rfl rfl) ?_
      refine SxL.nil (SxN.then_ (SxC.condF rfl (SxC.seq (SxC.region ?_))))
      refine SxL.val (v := .bool false) trivial rfl rfl (fun ρ w E H => ex_cmp E rfl rfl rfl rfl (by decide)) ?_
      refine SxL.val trivial rfl rfl (fun ρ w E H => ex_assign E rfl rfl) ?_
      refine SxL.nil (SxN.then_ (SxC.condF rfl (SxC.seq (SxC.region ?_))))
      refine SxL.val (v := .bool false) trivial rfl rfl (fun ρ w E H => ex_cmp E rfl rfl rfl rfl (by decide)) ?_
      refine SxL.val trivial rfl rfl (fun ρ w E H => ex_assign E rfl rfl) ?_
      refine SxL.nil (SxN.then_ (SxC.condF rfl (SxC.seq (SxC.seq (SxC.region ?_)))))
      refine SxL.val (v := .bool false) trivial rfl rfl (fun ρ w E H => ex_cmp E rfl rfl rfl rfl (by decide)) ?_
      refine SxL.val trivial rfl rfl (fun ρ w E H => ex_assign E rfl rfl) ?_
      refine SxL.nil (SxN.then_ (SxC.condF rfl (SxC.region ?_)))
      refine SxL.val (v := .bool false) trivial rfl rfl (fun ρ w E H => ex_cmp E rfl rfl rfl rfl (by decide)) ?_
      refine SxL.val trivial rfl rfl (fun ρ w E H => ex_assign E rfl rfl) ?_
      refine SxL.nil (SxN.then_ (SxC.condF rfl (SxC.seq (SxC.region ?_))))
      refine SxL.val (v := .bool false) trivial rfl rfl (fun ρ w E H => ex_cmp E rfl rfl rfl rfl (by decide)) ?_
      refine SxL.val trivial rfl rfl (fun ρ w E H => ex_assign E rfl rfl) ?_
      refine SxL.nil (SxN.then_ (SxC.condF rfl (SxC.seq (SxC.region ?_))))
      refine SxL.val (v := .bool false) trivial rfl rfl (fun ρ w E H => ex_cmp E rfl rfl rfl rfl (by decide)) ?_
      refine SxL.val trivial rfl rfl (fun ρ w E H => ex_assign E rfl rfl) ?_
      refine SxL.nil (SxN.then_ (SxC.condF rfl (SxC.seq (SxC.region ?_))))
      refine SxL.val (v := .bool true) trivial rfl rfl (fun ρ w E H => ex_cmp E rfl rfl rfl rfl (by decide)) ?_
      refine SxL.val trivial rfl rfl (fun ρ w E H => ex_assign E rfl rfl) ?_
      refine SxL.nil (SxN.then_ (SxC.condT rfl (SxC.seq (SxC.region ?_))))
      refine SxL.val trivial rfl rfl (fun ρ w E H => ex_move E rfl rfl) ?_
      refine SxL.val (v := .pointer (some ⟨g1, 8, none⟩)) trivial rfl rfl (fun ρ w E H => ex_field E rfl fa_palaver_api_Msg_7 rfl rfl) ?_
      refine SxL.val trivial rfl rfl (fun ρ w E H => ex_load1 E (H.get (i := 1) rfl) rfl rfl Tryz.underlying26 rfl rfl) ?_
      refine SxL.val (v := .int .i64 (il.length : Int)) trivial rfl rfl (fun ρ w E H => ex_lenS E rfl Tryz.underlying26 rfl) ?_
      refine SxL.val (v := .int .u64 (il.length : Int)) trivial rfl rfl (fun ρ w E H => ex_convInt E rfl Tryz.underlying3 Tryz.underlying22 rfl (by rw [IntKind.wrap_u64]; omega)) ?_
      refine SxL.callB (v := .string ⟨((numB il.length)).toArray⟩) trivial rfl rfl (fun ρ w E => ex_call E en_palaver_palaverref01_Num rfl rfl) (fun w H => refNum_any il.length (by omega) w) ?_
      refine SxL.val (v := .string ⟨((out ++ (numB il.length))).toArray⟩) trivial rfl rfl (fun ρ w E H => ex_sadd E rfl rfl rfl (by (try simp only [List.length_append, List.length_cons, List.length_nil]); omega)) ?_
      refine SxL.val trivial rfl rfl (fun ρ w E H => ex_assign E rfl rfl) ?_
      refine SxL.nil (SxN.then_ (SxC.seq (SxC.region ?_)))
      refine SxL.val trivial rfl rfl (fun ρ w E H => ex_assign E rfl rfl) ?_
      refine SxL.nil (SxN.then_ (SxC.block ?_))
      refine SxC.loop2 (fun (k : Nat) (o2 : List UInt8) => [(1, .pointer (some ⟨g1, 0, none⟩)), (3, .string ⟨o2.toArray⟩), (4, .string ⟨((chars mk)).toArray⟩), (5, .int .i64 (i : Int)), (7, .int .i64 (k : Int))]) (fun (k : Nat) (o2 : List UInt8) => [cell g2 5 [.int .u8 (mk : Int)], cell g1 33 [.int .u8 (mk : Int), .int .u64 (mn : Int), .int .u8 (mr : Int), .int .u64 (mb : Int), .int .u64 (ms : Int), .int .u8 (mo : Int), .string ⟨mv.toArray⟩, .slice A vl.length ka, .slice B il.length kb, .int .u8 (ca : Int), .int .u32 (cb : Int), .int .u8 (ck : Int), .string ⟨cs.toArray⟩, .string ⟨ct.toArray⟩, .string ⟨cu.toArray⟩, .int .u8 (cz : Int), .int .u8 (mc : Int), .string ⟨mt.toArray⟩]]) (fun (gk : Nat) (k : Nat) (o2 : List UInt8) => k + gk = il.length ∧ o2 = out ++ putI il k) il.length 0 (out ++ (numB il.length)) ⟨by omega, by simp [putI]⟩ ⟨rfl, rfl, rfl, rfl, rfl, trivial⟩ [0, 1] rfl (by decide) ⟨.inl rfl, .inl rfl, trivial⟩ fun gk k o2 hF => ?_
      obtain ⟨hkg2, ho2⟩ := hF
      refine SxC.seq (SxC.seq (SxC.region ?_))
      refine SxL.val trivial rfl rfl (fun ρ w E H => ex_move E rfl rfl) ?_
      refine SxL.val (v := .pointer (some ⟨g1, 8, none⟩)) trivial rfl rfl (fun ρ w E H => ex_field E rfl fa_palaver_api_Msg_7 rfl rfl) ?_
      refine SxL.val trivial rfl rfl (fun ρ w E H => ex_load1 E (H.get (i := 1) rfl) rfl rfl Tryz.underlying26 rfl rfl) ?_
      refine SxL.val (v := .int .i64 (il.length : Int)) trivial rfl rfl (fun ρ w E H => ex_lenS E rfl Tryz.underlying26 rfl) ?_
      refine SxL.valB trivial rfl rfl (fun ρ w E H => ex_cmp E rfl rfl rfl rfl rfl) fun c151 hc151 => ?_
      refine SxL.nil (SxN.then_ ?_)
      cases c151
      · refine SxC.condF rfl (SxC.exit (SxX.thenE (SxX.thenE (SxX.blockE (SxN.block (SxN.block (SxN.then_ (SxC.region ?_))))))))
        refine SxL.val trivial rfl rfl (fun ρ w E H => ex_move E rfl rfl) ?_
        refine SxL.val (v := .int .i64 ((i + 1 : Nat) : Int)) trivial rfl rfl (fun ρ w E H => ex_add E rfl rfl rfl (by have h := chars_len mk; rw [IntKind.wrap_i64]; omega)) ?_
        refine SxL.val trivial rfl rfl (fun ρ w E H => ex_assign E rfl rfl) ?_
        refine SxL.nil ?_
        refine SxN.back (gk1 - 1) (i + 1, o2) (by omega) ⟨by omega, by rw [insB_succ hp, ← hout]; (try rw [ho2]); (try rw [putV_end (by simpa [cmpB] using hc110)]); (try rw [putI_end (by simpa [cmpB] using hc151)]); simp [Pt.put, voB, imB]⟩ ⟨rfl, rfl, rfl, rfl, trivial⟩ [0, 1] rfl (by decide) ⟨.inl rfl, .inl rfl, trivial⟩
      · refine SxC.condT rfl (SxC.skip (SxN.then_ (SxC.seq (SxC.block ?_))))
        have hkl2 : k < il.length := by simpa [cmpB] using hc151
        obtain ⟨⟨xs, xv⟩, hx⟩ : ∃ x, il[k]? = some x := ⟨_, List.getElem?_eq_getElem hkl2⟩
        obtain ⟨ad, rfl, -, -⟩ := hr.hi.row hx
        have hxm := List.mem_of_getElem? hx
        have q1 := f8 _ hxm
        have hxs := s5 _ hxm
        dsimp only at hxs q1
        have hb0 := putI_len il k s3 s11
        have hb1 := putI_len il (k + 1) s3 s11
        rw [putI_succ hx] at hb1
        simp only [imB, List.length_append] at hb1
        have hol2 : o2.length = out.length + (putI il k).length := by rw [ho2, List.length_append]
        refine SxC.drawnK [] [0, 1] (by kernel_rfl) rfl ⟨(fun g hg => by rw [List.mem_singleton.1 hg]; exact .inr hg2), (fun g hg => by rw [List.mem_singleton.1 hg]; exact .inr hg1), trivial⟩ ?_
        refine SxA.take (i := 0) rfl (by kernel_rfl) (by kernel_rfl) (by kernel_rfl) rfl rfl (fun _ _ _ h => h) trivial (fun ρ w E H => ex_move E rfl rfl) ?_
        refine SxA.take (i := 1) (v := .pointer (some ⟨g1, 8, none⟩)) rfl (by kernel_rfl) (by kernel_rfl) (by kernel_rfl) rfl rfl (fun _ _ _ h => h) trivial (fun ρ w E H => ex_field E rfl fa_palaver_api_Msg_7 rfl rfl) ?_
        refine SxA.take (i := 2) rfl (by kernel_rfl) (by kernel_rfl) (by kernel_rfl) rfl rfl (fun _ _ _ h => h) trivial (fun ρ w E H => ex_load1 E (H.get (i := 1) rfl) rfl rfl Tryz.underlying26 rfl rfl) ?_
        refine SxA.take (i := 3) rfl (by kernel_rfl) (by kernel_rfl) (by kernel_rfl) rfl rfl (fun _ _ _ h => h) trivial (fun ρ w E H => ex_move E rfl rfl) ?_
        refine SxA.take (i := 4) (v := .pointer (some (ad.add (k * 2)))) rfl (by kernel_rfl) (by kernel_rfl) (by kernel_rfl) rfl rfl (fun _ _ _ h => h) trivial (fun ρ w E H => ex_index (i := k) E rfl Tryz.underlying26 sz_palaver_api_Item rfl rfl hkl2) ?_
        refine SxA.take (i := 5) (v := .pointer (some (ad.add (k * 2)))) rfl (by kernel_rfl) (by kernel_rfl) (by kernel_rfl) rfl rfl (fun _ _ _ h => h) trivial (fun ρ w E H => ex_field0 E rfl fa_palaver_api_Item_0 rfl) ?_
        refine SxA.take (i := 6) (v := .int .u64 (xs : Int)) rfl (by kernel_rfl) (by kernel_rfl) (by kernel_rfl) rfl rfl (fun _ _ _ h => h) trivial (fun ρ w E H => ex_loadX0 E ((hr.hi.below (H.os.below (Nat.le_refl _) (by simp))).rowA hx) rfl rfl rfl Tryz.underlying22 rfl) ?_
        refine SxA.take (i := 9) (v := .pointer (some ⟨g1, 8, none⟩)) rfl (by kernel_rfl) (by kernel_rfl) (by kernel_rfl) rfl rfl (fun _ _ _ h => h) trivial (fun ρ w E H => ex_field E rfl fa_palaver_api_Msg_7 rfl rfl) ?_
        refine SxA.take (i := 10) rfl (by kernel_rfl) (by kernel_rfl) (by kernel_rfl) rfl rfl (fun _ _ _ h => h) trivial (fun ρ w E H => ex_load1 E (H.get (i := 1) rfl) rfl rfl Tryz.underlying26 rfl rfl) ?_
        refine SxA.take (i := 11) rfl (by kernel_rfl) (by kernel_rfl) (by kernel_rfl) rfl rfl (fun _ _ _ h => h) trivial (fun ρ w E H => ex_move E rfl rfl) ?_
        refine SxA.take (i := 12) (v := .pointer (some (ad.add (k * 2)))) rfl (by kernel_rfl) (by kernel_rfl) (by kernel_rfl) rfl rfl (fun _ _ _ h => h) trivial (fun ρ w E H => ex_index (i := k) E rfl Tryz.underlying26 sz_palaver_api_Item rfl rfl hkl2) ?_
        refine SxA.take (i := 13) (v := .pointer (some ((ad.add (k * 2)).add 1))) rfl (by kernel_rfl) (by kernel_rfl) (by kernel_rfl) rfl rfl (fun _ _ _ h => h) trivial (fun ρ w E H => ex_fieldA E rfl fa_palaver_api_Item_1 rfl) ?_
        refine SxA.take (i := 14) (v := .string ⟨xv.toArray⟩) rfl (by kernel_rfl) (by kernel_rfl) (by kernel_rfl) rfl rfl (fun _ _ _ h => h) trivial (fun ρ w E H => ex_loadXc E ((hr.hi.below (H.os.below (Nat.le_refl _) (by simp))).rowA hx) 1 rfl rfl rfl Tryz.underlying9 rfl) ?_
        refine SxA.ready [7] (by kernel_rfl) (by simp) ⟨?_, trivial⟩
        refine SxO.callB (v := .string ⟨((numB xs)).toArray⟩) rfl trivial rfl rfl (fun ρ w E => ex_call E en_palaver_palaverref01_Num rfl rfl) (fun w H => refNum_any xs (by omega) w) (fun w H => H.ks [] [0, 1] rfl ⟨(fun g hg => by rw [List.mem_singleton.1 hg]; exact .inr hg2), (fun g hg => by rw [List.mem_singleton.1 hg]; exact .inr hg1), trivial⟩) ?_
        refine SxA.take (i := 8) (v := .string ⟨((o2 ++ (numB xs))).toArray⟩) rfl (by kernel_rfl) (by kernel_rfl) (by kernel_rfl) rfl rfl (fun _ _ _ h => h) trivial (fun ρ w E H => ex_sadd E rfl rfl rfl (by (try simp only [List.length_append, List.length_cons, List.length_nil]); omega)) ?_
        refine SxA.ready [15] (by kernel_rfl) (by simp) ⟨?_, trivial⟩
        refine SxO.callB (v := .string ⟨((strB xv)).toArray⟩) rfl trivial rfl rfl (fun ρ w E => ex_call E en_palaver_palaverref01_Str rfl rfl) (fun w H => refStr_any xv (by omega) w) (fun w H => H.ks [] [0, 1] rfl ⟨(fun g hg => by rw [List.mem_singleton.1 hg]; exact .inr hg2), (fun g hg => by rw [List.mem_singleton.1 hg]; exact .inr hg1), trivial⟩) ?_
        refine SxA.take (i := 16) (v := .string ⟨(((o2 ++ (numB xs)) ++ (strB xv))).toArray⟩) rfl (by kernel_rfl) (by kernel_rfl) (by kernel_rfl) rfl rfl (fun _ _ _ h => h) trivial (fun ρ w E H => ex_sadd E rfl rfl rfl (by (try simp only [List.length_append, List.length_cons, List.length_nil]); omega)) ?_
        refine SxA.take (i := 17) rfl (by kernel_rfl) (by kernel_rfl) (by kernel_rfl) rfl rfl (fun _ _ _ h => h) trivial (fun ρ w E H => ex_assign E rfl rfl) ?_
        refine SxA.done (by kernel_rfl) ?_
        refine SxN.block (SxN.then_ (SxC.region ?_))
        refine SxL.val trivial rfl rfl (fun ρ w E H => ex_move E rfl rfl) ?_
        refine SxL.val (v := .int .i64 ((k + 1 : Nat) : Int)) trivial rfl rfl (fun ρ w E H => ex_add E rfl rfl rfl (by rw [IntKind.wrap_i64]; omega)) ?_
        refine SxL.val trivial rfl rfl (fun ρ w E H => ex_assign E rfl rfl) ?_
        refine SxL.nil ?_
        refine SxN.back (gk - 1) (k + 1, ((o2 ++ (numB xs)) ++ (strB xv))) (by omega) ⟨by omega, by rw [putI_succ hx, ho2]; simp [voB, imB]⟩ ⟨rfl, rfl, rfl, rfl, rfl, trivial⟩ [0, 1] rfl (by decide) ⟨.inl rfl, .inl rfl, trivial⟩

theorem rinside_any (m : Ms) (A B : Option Addr) (ka kb : Nat) (w : World) (hf : m.Fits) (hs : m.Small) (hr : MsRows w m A B) : Calls Tryz.prog 18 #[msV m A ka B kb] w fun e w' => RetStr w (insideB m) e w' := by
  obtain ⟨mk, mn, mr, mb, ms, mo, mv, vl, il, ⟨ca, cb, ck, cs, ct, cu, cz⟩, mc, mt⟩ := m
  exact rinside_lit _ _ _ _ _ _ _ _ _ _ _ _ _ _ _ _ _ _ _ _ _ _ w hf hs hr
end Go.Proofs.YteiaiilfekojfaaGreat.Msg
end
section
set_option linter.unusedVariables false
set_option linter.unusedSimpArgs false
namespace Go.Proofs.YteiaiilfekojfaaGreat.Msg
open Go.RowKit Sx Wire DrawInv
theorem same_own (m : Ms) (V I : Value) (A B : Option Addr) (ka kb : Nat) (w : World) {b1 b2 : Nat} (hv : w.ownsRow b1 92 4 V m.votes.length (m.votes.flatMap voL)) (hi : w.ownsRow b2 94 2 I m.items.length (m.items.flatMap imL)) (hr : MsRows w m A B) (hn1 : m.votes.length ≤ 1000000) (hn2 : m.items.length ≤ 1000000) :
    Calls Tryz.prog 15 #[.agg (msL m V I).toArray, msV m A ka B kb] w fun e w' => e = .returned (.bool true) ∧ Below w.heap.size w w' := by
  obtain ⟨A1, k1, rfl⟩ := own_is_slice hv
  obtain ⟨B1, l1, rfl⟩ := own_is_slice hi
  exact (same_any m m A1 B1 A B k1 l1 ka kb w ⟨own_read voL_len (by decide) hv, own_read imL_len (by decide) hi⟩ hr hn1 hn2).mono fun _ _ h => ⟨by rw [h.1]; simp, h.2⟩

set_option maxRecDepth 100000 in
set_option maxHeartbeats 4000000 in
theorem puts_lit (mk mn mr mb ms mo ca cb ck cz mc : Nat) (mv cs ct cu mt : List UInt8) (vl : List Vo) (il : List Im)(xk xn xr xb xs xo da db dk dz xc : Nat) (xv ds dt du xt : List UInt8) (wl : List Vo) (jl : List Im) (A B : Option Addr) (ka kb : Nat) (C D : Option Addr) (kc kd : Nat) (w : World) (hf : Ms.Fits ⟨mk, mn, mr, mb, ms, mo, mv, vl, il, ⟨ca, cb, ck, cs, ct, cu, cz⟩, mc, mt⟩) (hr : MsRows w ⟨mk, mn, mr, mb, ms, mo, mv, vl, il, ⟨ca, cb, ck, cs, ct, cu, cz⟩, mc, mt⟩ A B) (hn3 : vl.length ≤ 9223372036854775807) (hn4 : il.length ≤ 9223372036854775807) (hf2 : Ms.Fits ⟨xk, xn, xr, xb, xs, xo, xv, wl, jl, ⟨da, db, dk, ds, dt, du, dz⟩, xc, xt⟩) (hr2 : MsRows w ⟨xk, xn, xr, xb, xs, xo, xv, wl, jl, ⟨da, db, dk, ds, dt, du, dz⟩, xc, xt⟩ C D) (hn5 : wl.length ≤ 9223372036854775807) (hn6 : jl.length ≤ 9223372036854775807) : Calls Tryz.prog 3 #[.agg #[.int .u8 (mk : Int), .int .u64 (mn : Int), .int .u8 (mr : Int), .int .u64 (mb : Int), .int .u64 (ms : Int), .int .u8 (mo : Int), .string ⟨mv.toArray⟩, .slice A vl.length ka, .slice B il.length kb, .int .u8 (ca : Int), .int .u32 (cb : Int), .int .u8 (ck : Int), .string ⟨cs.toArray⟩, .string ⟨ct.toArray⟩, .string ⟨cu.toArray⟩, .int .u8 (cz : Int), .int .u8 (mc : Int), .string ⟨mt.toArray⟩], .agg #[.int .u8 (xk : Int), .int .u64 (xn : Int), .int .u8 (xr : Int), .int .u64 (xb : Int), .int .u64 (xs : Int), .int .u8 (xo : Int), .string ⟨xv.toArray⟩, .slice C wl.length kc, .slice D jl.length kd, .int .u8 (da : Int), .int .u32 (db : Int), .int .u8 (dk : Int), .string ⟨ds.toArray⟩, .string ⟨dt.toArray⟩, .string ⟨du.toArray⟩, .int .u8 (dz : Int), .int .u8 (xc : Int), .string ⟨xt.toArray⟩]] w fun e w' => e = .returned (.bool true) ∧ Below w.heap.size w w' := by
  refine sx_enter (n := 74) _ Tryz.func3 rfl rfl rfl (Hp.start w) ?_
  refine SxC.seq (SxC.region ?_)
  refine SxL.new (cs := [.int .u8 (mk : Int), .int .u64 (mn : Int), .int .u8 (mr : Int), .int .u64 (mb : Int), .int .u64 (ms : Int), .int .u8 (mo : Int), .string ⟨mv.toArray⟩, .slice A vl.length ka, .slice B il.length kb, .int .u8 (ca : Int), .int .u32 (cb : Int), .int .u8 (ck : Int), .string ⟨cs.toArray⟩, .string ⟨ct.toArray⟩, .string ⟨cu.toArray⟩, .int .u8 (cz : Int), .int .u8 (mc : Int), .string ⟨mt.toArray⟩]) trivial rfl rfl (fun ρ w E H => ex_box E rfl rfl rfl) fun g1 hg1 => ?_
  refine SxL.new (cs := [.int .u8 (xk : Int), .int .u64 (xn : Int), .int .u8 (xr : Int), .int .u64 (xb : Int), .int .u64 (xs : Int), .int .u8 (xo : Int), .string ⟨xv.toArray⟩, .slice C wl.length kc, .slice D jl.length kd, .int .u8 (da : Int), .int .u32 (db : Int), .int .u8 (dk : Int), .string ⟨ds.toArray⟩, .string ⟨dt.toArray⟩, .string ⟨du.toArray⟩, .int .u8 (dz : Int), .int .u8 (xc : Int), .string ⟨xt.toArray⟩]) trivial rfl rfl (fun ρ w E H => ex_box E rfl rfl rfl) fun g2 hg2 => ?_
  refine SxL.val trivial rfl rfl (fun ρ w E H => ex_assign E rfl rfl) ?_
  refine SxL.nil (SxN.then_ (SxC.seq (SxC.seq (SxC.region ?_))))
  refine SxL.val trivial rfl rfl (fun ρ w E H => ex_load (part := [.int .u8 (mk : Int), .int .u64 (mn : Int), .int .u8 (mr : Int), .int .u64 (mb : Int), .int .u64 (ms : Int), .int .u8 (mo : Int), .string ⟨mv.toArray⟩, .slice A vl.length ka, .slice B il.length kb, .int .u8 (ca : Int), .int .u32 (cb : Int), .int .u8 (ck : Int), .string ⟨cs.toArray⟩, .string ⟨ct.toArray⟩, .string ⟨cu.toArray⟩, .int .u8 (cz : Int), .int .u8 (mc : Int), .string ⟨mt.toArray⟩]) E (H.get (i := 1) rfl) rfl rfl Tryz.underlying33 rfl sz_palaver_api_Msg rfl rfl) ?_
  refine SxL.call (σ := Bool) (fun b => .bool b) (fun b => b = false → Ms.Lim ⟨mk, mn, mr, mb, ms, mo, mv, vl, il, ⟨ca, cb, ck, cs, ct, cu, cz⟩, mc, mt⟩) (fun _ => _) trivial rfl rfl (fun ρ w E => ex_call E en_palaver_palaverlaw18_Great rfl rfl) (fun w H => (great_any ⟨mk, mn, mr, mb, ms, mo, mv, vl, il, ⟨ca, cb, ck, cs, ct, cu, cz⟩, mc, mt⟩ A B ka kb w (hr.below (H.toBelow ⟨(fun g hg => by rw [List.mem_singleton.1 hg]; exact hg2), (fun g hg => by rw [List.mem_singleton.1 hg]; exact hg1), trivial⟩)) hn3 hn4).mono fun _ _ ⟨b, h1, h2, h3⟩ => ⟨b, h1, h2, H.below h3⟩) fun c10 hlim10 => ?_
  refine SxL.val trivial rfl rfl (fun ρ w E H => ex_move E rfl rfl) ?_
  cases c10
  · refine SxL.val ⟨_, _, rfl, rfl, rfl⟩ rfl rfl (fun ρ w E H => ex_load (part := [.int .u8 (xk : Int), .int .u64 (xn : Int), .int .u8 (xr : Int), .int .u64 (xb : Int), .int .u64 (xs : Int), .int .u8 (xo : Int), .string ⟨xv.toArray⟩, .slice C wl.length kc, .slice D jl.length kd, .int .u8 (da : Int), .int .u32 (db : Int), .int .u8 (dk : Int), .string ⟨ds.toArray⟩, .string ⟨dt.toArray⟩, .string ⟨du.toArray⟩, .int .u8 (dz : Int), .int .u8 (xc : Int), .string ⟨xt.toArray⟩]) E (H.get (i := 0) rfl) rfl rfl Tryz.underlying33 rfl sz_palaver_api_Msg rfl rfl) ?_
    refine SxL.call (σ := Bool) (fun b => .bool b) (fun b => b = false → Ms.Lim ⟨xk, xn, xr, xb, xs, xo, xv, wl, jl, ⟨da, db, dk, ds, dt, du, dz⟩, xc, xt⟩) (fun _ => _) ⟨_, _, rfl, rfl, rfl⟩ rfl rfl (fun ρ w E => ex_call E en_palaver_palaverlaw18_Great rfl rfl) (fun w H => (great_any ⟨xk, xn, xr, xb, xs, xo, xv, wl, jl, ⟨da, db, dk, ds, dt, du, dz⟩, xc, xt⟩ C D kc kd w (hr2.below (H.toBelow ⟨(fun g hg => by rw [List.mem_singleton.1 hg]; exact hg2), (fun g hg => by rw [List.mem_singleton.1 hg]; exact hg1), trivial⟩)) hn5 hn6).mono fun _ _ ⟨b, h1, h2, h3⟩ => ⟨b, h1, h2, H.below h3⟩) fun c13 hlim13 => ?_
    refine SxL.val trivial rfl rfl (fun ρ w E H => ex_pick E rfl (t := false) rfl rfl) ?_
    refine SxL.nil (SxN.then_ ?_)
    cases c13
    · refine SxC.condF rfl (SxC.skip (SxN.then_ (SxC.seq ?_)))
      have hlim := hlim10 rfl
      have hsm := hlim.small hf
      have hn1 : vl.length ≤ 1000000 := Nat.le_trans hlim.h2 (by decide)
      have hn2 : il.length ≤ 1000000 := Nat.le_trans hlim.h3 (by decide)
      have hins := hlim.inside hf
      obtain ⟨ck_, hck⟩ : ∃ b, checkB ⟨mk, mn, mr, mb, ms, mo, mv, vl, il, ⟨ca, cb, ck, cs, ct, cu, cz⟩, mc, mt⟩ = b := ⟨_, rfl⟩
      obtain ⟨sm, hsame⟩ : ∃ b, decide ((⟨mk, mn, mr, mb, ms, mo, mv, vl, il, ⟨ca, cb, ck, cs, ct, cu, cz⟩, mc, mt⟩ : Ms) = ⟨xk, xn, xr, xb, xs, xo, xv, wl, jl, ⟨da, db, dk, ds, dt, du, dz⟩, xc, xt⟩) = b := ⟨_, rfl⟩
      cases ck_
      · refine SxC.region ?_
        refine SxL.val trivial rfl rfl (fun ρ w E H => ex_load (part := [.int .u8 (mk : Int), .int .u64 (mn : Int), .int .u8 (mr : Int), .int .u64 (mb : Int), .int .u64 (ms : Int), .int .u8 (mo : Int), .string ⟨mv.toArray⟩, .slice A vl.length ka, .slice B il.length kb, .int .u8 (ca : Int), .int .u32 (cb : Int), .int .u8 (ck : Int), .string ⟨cs.toArray⟩, .string ⟨ct.toArray⟩, .string ⟨cu.toArray⟩, .int .u8 (cz : Int), .int .u8 (mc : Int), .string ⟨mt.toArray⟩]) E (H.get (i := 1) rfl) rfl rfl Tryz.underlying33 rfl sz_palaver_api_Msg rfl rfl) ?_
        refine SxL.call2 (fun V I => .agg (msL ⟨mk, mn, mr, mb, ms, mo, mv, vl, il, ⟨ca, cb, ck, cs, ct, cu, cz⟩, mc, mt⟩ V I).toArray) (fun V I => OwnIn w [] V ∧ OwnIn w [] I) (fun V I => _) trivial rfl rfl (fun ρ w E => ex_call E en_palaver_palaverlaw18_own rfl rfl) (call_ownM ⟨mk, mn, mr, mb, ms, mo, mv, vl, il, ⟨ca, cb, ck, cs, ct, cu, cz⟩, mc, mt⟩ A B ka kb (fun w H => hr.below (H.toBelow ⟨(fun g hg => by rw [List.mem_singleton.1 hg]; exact hg2), (fun g hg => by rw [List.mem_singleton.1 hg]; exact hg1), trivial⟩)) hn1 hn2) fun V5 I5 hVI5 => ?_
        refine SxL.with (fun W H => own_is_slice (H.get (i := 0) rfl)) ?_
        rintro ⟨A5, k5, rfl⟩
        refine SxL.with (fun W H => own_is_slice (H.get (i := 1) rfl)) ?_
        rintro ⟨B5, l5, rfl⟩
        refine SxL.new (cs := [.int .u8 0, .int .u64 0, .int .u8 0, .int .u64 0, .int .u64 0, .int .u8 0, .string ⟨[].toArray⟩, .slice none 0 0, .slice none 0 0, .int .u8 0, .int .u32 0, .int .u8 0, .string ⟨[].toArray⟩, .string ⟨[].toArray⟩, .string ⟨[].toArray⟩, .int .u8 0, .int .u8 0, .string ⟨[].toArray⟩]) trivial rfl rfl (fun ρ w E H => ex_alloc rfl zr_palaver_api_Msg rfl) fun g3 hg3 => ?_
        refine SxL.storeX (i := 0) [.int .u8 (mk : Int), .int .u64 (mn : Int), .int .u8 (mr : Int), .int .u64 (mb : Int), .int .u64 (ms : Int), .int .u8 (mo : Int), .string ⟨mv.toArray⟩, .slice A5 vl.length k5, .slice B5 il.length l5, .int .u8 (ca : Int), .int .u32 (cb : Int), .int .u8 (ck : Int), .string ⟨cs.toArray⟩, .string ⟨ct.toArray⟩, .string ⟨cu.toArray⟩, .int .u8 (cz : Int), .int .u8 (mc : Int), .string ⟨mt.toArray⟩] trivial rfl rfl rfl rfl rfl sz_palaver_api_Msg rfl rfl rfl (putL_all _ _ rfl) ?_
        refine SxL.nil (SxN.then_ (SxC.seq (SxC.region ?_)))
        refine SxL.val trivial rfl rfl (fun ρ w E H => ex_load (part := [.int .u8 (mk : Int), .int .u64 (mn : Int), .int .u8 (mr : Int), .int .u64 (mb : Int), .int .u64 (ms : Int), .int .u8 (mo : Int), .string ⟨mv.toArray⟩, .slice A5 vl.length k5, .slice B5 il.length l5, .int .u8 (ca : Int), .int .u32 (cb : Int), .int .u8 (ck : Int), .string ⟨cs.toArray⟩, .string ⟨ct.toArray⟩, .string ⟨cu.toArray⟩, .int .u8 (cz : Int), .int .u8 (mc : Int), .string ⟨mt.toArray⟩]) E (H.get (i := 0) rfl) rfl rfl Tryz.underlying33 rfl sz_palaver_api_Msg rfl rfl) ?_
        refine SxL.callB (v := .int .i64 2) trivial rfl rfl (fun ρ w E => ex_call E en_palaver_msg_Check rfl rfl) (fun w H => (check_any ⟨mk, mn, mr, mb, ms, mo, mv, vl, il, ⟨ca, cb, ck, cs, ct, cu, cz⟩, mc, mt⟩ A5 B5 k5 l5 w hf hsm ⟨own_read voL_len (by decide) (H.get (i := 1) rfl), own_read imL_len (by decide) (H.get (i := 2) rfl)⟩).mono fun _ _ h => ⟨by rw [h.1, hck]; rfl, h.2⟩) ?_
        refine SxL.val trivial rfl rfl (fun ρ w E H => ex_assign E rfl rfl) ?_
        refine SxL.nil (SxN.then_ (SxC.seq (SxC.region ?_)))
        refine SxL.val trivial rfl rfl (fun ρ w E H => ex_load (part := [.int .u8 (mk : Int), .int .u64 (mn : Int), .int .u8 (mr : Int), .int .u64 (mb : Int), .int .u64 (ms : Int), .int .u8 (mo : Int), .string ⟨mv.toArray⟩, .slice A5 vl.length k5, .slice B5 il.length l5, .int .u8 (ca : Int), .int .u32 (cb : Int), .int .u8 (ck : Int), .string ⟨cs.toArray⟩, .string ⟨ct.toArray⟩, .string ⟨cu.toArray⟩, .int .u8 (cz : Int), .int .u8 (mc : Int), .string ⟨mt.toArray⟩]) E (H.get (i := 0) rfl) rfl rfl Tryz.underlying33 rfl sz_palaver_api_Msg rfl rfl) ?_
        refine SxL.callB (v := .tuple #[.string ⟨[].toArray⟩, .int .i64 2]) trivial rfl rfl (fun ρ w E => ex_call E en_palaver_msg_Put rfl rfl) (fun w H => (put_any ⟨mk, mn, mr, mb, ms, mo, mv, vl, il, ⟨ca, cb, ck, cs, ct, cu, cz⟩, mc, mt⟩ A5 B5 k5 l5 w hf hsm ⟨own_read voL_len (by decide) (H.get (i := 1) rfl), own_read imL_len (by decide) (H.get (i := 2) rfl)⟩).mono fun _ _ h => ⟨by rw [h.1, (show putM ⟨mk, mn, mr, mb, ms, mo, mv, vl, il, ⟨ca, cb, ck, cs, ct, cu, cz⟩, mc, mt⟩ = ([], 2) by unfold putM; rw [if_neg (by rw [hck]; decide)])]; rfl, h.2⟩) ?_
        refine SxL.val trivial rfl rfl (fun ρ w E H => ex_move E rfl rfl) ?_
        iterate 2 refine SxL.val trivial rfl rfl (fun ρ w E H => ex_extract E rfl rfl rfl) ?_
        iterate 2 refine SxL.val trivial rfl rfl (fun ρ w E H => ex_assign E rfl rfl) ?_
        refine SxL.nil (SxN.then_ (SxC.seq (SxC.seq ?_)))
        refine SxC.drawnK [] [0, 1, 2, 3, 4] (by kernel_rfl) rfl ⟨(fun g hg => by rw [List.mem_singleton.1 hg]; exact .inr hg3), (fun g hg => .inr (hVI5.1.fresh g hg)), (fun g hg => .inr (hVI5.2.fresh g hg)), (fun g hg => by rw [List.mem_singleton.1 hg]; exact .inr hg2), (fun g hg => by rw [List.mem_singleton.1 hg]; exact .inr hg1), trivial⟩ ?_
        refine SxA.take (i := 0) rfl (by kernel_rfl) (by kernel_rfl) (by kernel_rfl) rfl rfl (fun _ _ _ h => h) trivial (fun ρ w E H => ex_load (part := [.int .u8 (mk : Int), .int .u64 (mn : Int), .int .u8 (mr : Int), .int .u64 (mb : Int), .int .u64 (ms : Int), .int .u8 (mo : Int), .string ⟨mv.toArray⟩, .slice A5 vl.length k5, .slice B5 il.length l5, .int .u8 (ca : Int), .int .u32 (cb : Int), .int .u8 (ck : Int), .string ⟨cs.toArray⟩, .string ⟨ct.toArray⟩, .string ⟨cu.toArray⟩, .int .u8 (cz : Int), .int .u8 (mc : Int), .string ⟨mt.toArray⟩]) E (H.get (i := 0) rfl) rfl rfl Tryz.underlying33 rfl sz_palaver_api_Msg rfl rfl) ?_
        refine SxA.take (i := 1) rfl (by kernel_rfl) (by kernel_rfl) (by kernel_rfl) rfl rfl (fun _ _ _ h => h) trivial (fun ρ w E H => ex_load (part := [.int .u8 (mk : Int), .int .u64 (mn : Int), .int .u8 (mr : Int), .int .u64 (mb : Int), .int .u64 (ms : Int), .int .u8 (mo : Int), .string ⟨mv.toArray⟩, .slice A vl.length ka, .slice B il.length kb, .int .u8 (ca : Int), .int .u32 (cb : Int), .int .u8 (ck : Int), .string ⟨cs.toArray⟩, .string ⟨ct.toArray⟩, .string ⟨cu.toArray⟩, .int .u8 (cz : Int), .int .u8 (mc : Int), .string ⟨mt.toArray⟩]) E (H.get (i := 4) rfl) rfl rfl Tryz.underlying33 rfl sz_palaver_api_Msg rfl rfl) ?_
        refine SxA.ready [2] (by kernel_rfl) (by simp) ⟨?_, trivial⟩
        refine SxO.callB (v := .bool true) rfl trivial rfl rfl (fun ρ w E => ex_call E en_palaver_palaverref18_Same rfl rfl) (fun w H => (rsame_any ⟨mk, mn, mr, mb, ms, mo, mv, vl, il, ⟨ca, cb, ck, cs, ct, cu, cz⟩, mc, mt⟩ ⟨mk, mn, mr, mb, ms, mo, mv, vl, il, ⟨ca, cb, ck, cs, ct, cu, cz⟩, mc, mt⟩ A5 B5 A B k5 l5 ka kb w ⟨own_read voL_len (by decide) (H.get (i := 1) rfl), own_read imL_len (by decide) (H.get (i := 2) rfl)⟩ (hr.below (H.toBelow ⟨(fun g hg => by rw [List.mem_singleton.1 hg]; exact hg3), hVI5.1.fresh, hVI5.2.fresh, (fun g hg => by rw [List.mem_singleton.1 hg]; exact hg2), (fun g hg => by rw [List.mem_singleton.1 hg]; exact hg1), trivial⟩)) hn1 hn2).mono fun _ _ h => ⟨by rw [h.1]; simp, h.2⟩) (fun w H => H.ks [] [0, 1, 2, 3, 4] rfl ⟨(fun g hg => by rw [List.mem_singleton.1 hg]; exact .inr hg3), (fun g hg => .inr (hVI5.1.fresh g hg)), (fun g hg => .inr (hVI5.2.fresh g hg)), (fun g hg => by rw [List.mem_singleton.1 hg]; exact .inr hg2), (fun g hg => by rw [List.mem_singleton.1 hg]; exact .inr hg1), trivial⟩) ?_
        refine SxA.take (i := 3) (v := .bool false) rfl (by kernel_rfl) (by kernel_rfl) (by kernel_rfl) rfl rfl (fun _ _ _ h => h) trivial (fun ρ w E H => ex_not (t := true) E rfl rfl) ?_
        refine SxA.take (i := 4) rfl (by kernel_rfl) (by kernel_rfl) (by kernel_rfl) rfl rfl (fun _ _ _ h => h) trivial (fun ρ w E H => ex_move E rfl rfl) ?_
        refine SxA.take (i := 5) rfl (by kernel_rfl) (by kernel_rfl) (by kernel_rfl) rfl rfl (fun _ _ _ h => h) ⟨_, _, rfl, rfl, rfl⟩ (fun ρ w E H => ex_move E rfl rfl) ?_
        refine SxA.take (i := 6) rfl (by kernel_rfl) (by kernel_rfl) (by kernel_rfl) rfl rfl (fun _ _ _ h => h) ⟨_, _, rfl, rfl, rfl⟩ (fun ρ w E H => ex_move E rfl rfl) ?_
        refine SxA.take (i := 7) (v := .bool false) rfl (by kernel_rfl) (by kernel_rfl) (by kernel_rfl) rfl rfl (fun _ _ _ h => h) ⟨_, _, rfl, rfl, rfl⟩ (fun ρ w E H => ex_cmp E rfl rfl rfl rfl (by decide)) ?_
        refine SxA.take (i := 8) rfl (by kernel_rfl) (by kernel_rfl) (by kernel_rfl) rfl rfl (fun _ _ _ h => h) trivial (fun ρ w E H => ex_pick E rfl (t := false) rfl rfl) ?_
        refine SxA.take (i := 9) rfl (by kernel_rfl) (by kernel_rfl) (by kernel_rfl) rfl rfl (fun _ _ _ h => h) trivial (fun ρ w E H => ex_move E rfl rfl) ?_
        refine SxA.take (i := 10) rfl (by kernel_rfl) (by kernel_rfl) (by kernel_rfl) rfl rfl (fun _ _ _ h => h) ⟨_, _, rfl, rfl, rfl⟩ (fun ρ w E H => ex_load (part := [.int .u8 (mk : Int), .int .u64 (mn : Int), .int .u8 (mr : Int), .int .u64 (mb : Int), .int .u64 (ms : Int), .int .u8 (mo : Int), .string ⟨mv.toArray⟩, .slice A vl.length ka, .slice B il.length kb, .int .u8 (ca : Int), .int .u32 (cb : Int), .int .u8 (ck : Int), .string ⟨cs.toArray⟩, .string ⟨ct.toArray⟩, .string ⟨cu.toArray⟩, .int .u8 (cz : Int), .int .u8 (mc : Int), .string ⟨mt.toArray⟩]) E (H.get (i := 4) rfl) rfl rfl Tryz.underlying33 rfl sz_palaver_api_Msg rfl rfl) ?_
        refine SxA.take (i := 11) rfl (by kernel_rfl) (by kernel_rfl) (by kernel_rfl) rfl rfl (fun _ _ _ h => h) ⟨_, _, rfl, rfl, rfl⟩ (fun ρ w E H => ex_load (part := [.int .u8 (xk : Int), .int .u64 (xn : Int), .int .u8 (xr : Int), .int .u64 (xb : Int), .int .u64 (xs : Int), .int .u8 (xo : Int), .string ⟨xv.toArray⟩, .slice C wl.length kc, .slice D jl.length kd, .int .u8 (da : Int), .int .u32 (db : Int), .int .u8 (dk : Int), .string ⟨ds.toArray⟩, .string ⟨dt.toArray⟩, .string ⟨du.toArray⟩, .int .u8 (dz : Int), .int .u8 (xc : Int), .string ⟨xt.toArray⟩]) E (H.get (i := 3) rfl) rfl rfl Tryz.underlying33 rfl sz_palaver_api_Msg rfl rfl) ?_
        refine SxA.take (i := 13) rfl (by kernel_rfl) (by kernel_rfl) (by kernel_rfl) rfl rfl (fun _ _ _ h => h) ⟨_, _, rfl, rfl, rfl⟩ (fun ρ w E H => ex_load (part := [.int .u8 (mk : Int), .int .u64 (mn : Int), .int .u8 (mr : Int), .int .u64 (mb : Int), .int .u64 (ms : Int), .int .u8 (mo : Int), .string ⟨mv.toArray⟩, .slice A vl.length ka, .slice B il.length kb, .int .u8 (ca : Int), .int .u32 (cb : Int), .int .u8 (ck : Int), .string ⟨cs.toArray⟩, .string ⟨ct.toArray⟩, .string ⟨cu.toArray⟩, .int .u8 (cz : Int), .int .u8 (mc : Int), .string ⟨mt.toArray⟩]) E (H.get (i := 4) rfl) rfl rfl Tryz.underlying33 rfl sz_palaver_api_Msg rfl rfl) ?_
        refine SxA.take (i := 14) rfl (by kernel_rfl) (by kernel_rfl) (by kernel_rfl) rfl rfl (fun _ _ _ h => h) ⟨_, _, rfl, rfl, rfl⟩ (fun ρ w E H => ex_load (part := [.int .u8 (xk : Int), .int .u64 (xn : Int), .int .u8 (xr : Int), .int .u64 (xb : Int), .int .u64 (xs : Int), .int .u8 (xo : Int), .string ⟨xv.toArray⟩, .slice C wl.length kc, .slice D jl.length kd, .int .u8 (da : Int), .int .u32 (db : Int), .int .u8 (dk : Int), .string ⟨ds.toArray⟩, .string ⟨dt.toArray⟩, .string ⟨du.toArray⟩, .int .u8 (dz : Int), .int .u8 (xc : Int), .string ⟨xt.toArray⟩]) E (H.get (i := 3) rfl) rfl rfl Tryz.underlying33 rfl sz_palaver_api_Msg rfl rfl) ?_
        refine SxA.ready [12] (by kernel_rfl) (by simp) ⟨?_, trivial⟩
        refine SxO.callB (v := .bool sm) rfl ⟨_, _, rfl, rfl, rfl⟩ rfl rfl (fun ρ w E => ex_call E en_palaver_msg_Same rfl rfl) (fun w H => (same_any ⟨mk, mn, mr, mb, ms, mo, mv, vl, il, ⟨ca, cb, ck, cs, ct, cu, cz⟩, mc, mt⟩ ⟨xk, xn, xr, xb, xs, xo, xv, wl, jl, ⟨da, db, dk, ds, dt, du, dz⟩, xc, xt⟩ A B C D ka kb kc kd w (hr.below (H.toBelow ⟨(fun g hg => by rw [List.mem_singleton.1 hg]; exact hg3), hVI5.1.fresh, hVI5.2.fresh, (fun g hg => by rw [List.mem_singleton.1 hg]; exact hg2), (fun g hg => by rw [List.mem_singleton.1 hg]; exact hg1), trivial⟩)) (hr2.below (H.toBelow ⟨(fun g hg => by rw [List.mem_singleton.1 hg]; exact hg3), hVI5.1.fresh, hVI5.2.fresh, (fun g hg => by rw [List.mem_singleton.1 hg]; exact hg2), (fun g hg => by rw [List.mem_singleton.1 hg]; exact hg1), trivial⟩)) hn1 hn2).mono fun _ _ h => ⟨by rw [h.1, hsame], h.2⟩) (fun w H => H.ks [] [0, 1, 2, 3, 4] rfl ⟨(fun g hg => by rw [List.mem_singleton.1 hg]; exact .inr hg3), (fun g hg => .inr (hVI5.1.fresh g hg)), (fun g hg => .inr (hVI5.2.fresh g hg)), (fun g hg => by rw [List.mem_singleton.1 hg]; exact .inr hg2), (fun g hg => by rw [List.mem_singleton.1 hg]; exact .inr hg1), trivial⟩) ?_
        refine SxA.ready [15] (by kernel_rfl) (by simp) ⟨?_, trivial⟩
        refine SxO.callB (v := .bool sm) rfl ⟨_, _, rfl, rfl, rfl⟩ rfl rfl (fun ρ w E => ex_call E en_palaver_palaverref18_Same rfl rfl) (fun w H => (rsame_any ⟨mk, mn, mr, mb, ms, mo, mv, vl, il, ⟨ca, cb, ck, cs, ct, cu, cz⟩, mc, mt⟩ ⟨xk, xn, xr, xb, xs, xo, xv, wl, jl, ⟨da, db, dk, ds, dt, du, dz⟩, xc, xt⟩ A B C D ka kb kc kd w (hr.below (H.toBelow ⟨(fun g hg => by rw [List.mem_singleton.1 hg]; exact hg3), hVI5.1.fresh, hVI5.2.fresh, (fun g hg => by rw [List.mem_singleton.1 hg]; exact hg2), (fun g hg => by rw [List.mem_singleton.1 hg]; exact hg1), trivial⟩)) (hr2.below (H.toBelow ⟨(fun g hg => by rw [List.mem_singleton.1 hg]; exact hg3), hVI5.1.fresh, hVI5.2.fresh, (fun g hg => by rw [List.mem_singleton.1 hg]; exact hg2), (fun g hg => by rw [List.mem_singleton.1 hg]; exact hg1), trivial⟩)) hn1 hn2).mono fun _ _ h => ⟨by rw [h.1, hsame], h.2⟩) (fun w H => H.ks [] [0, 1, 2, 3, 4] rfl ⟨(fun g hg => by rw [List.mem_singleton.1 hg]; exact .inr hg3), (fun g hg => .inr (hVI5.1.fresh g hg)), (fun g hg => .inr (hVI5.2.fresh g hg)), (fun g hg => by rw [List.mem_singleton.1 hg]; exact .inr hg2), (fun g hg => by rw [List.mem_singleton.1 hg]; exact .inr hg1), trivial⟩) ?_
        refine SxA.take (i := 16) (v := .bool false) rfl (by kernel_rfl) (by kernel_rfl) (by kernel_rfl) rfl rfl (fun _ _ _ h => h) ⟨_, _, rfl, rfl, rfl⟩ (fun ρ w E H => ex_bneq E rfl Tryz.underlying4 rfl rfl (by simp)) ?_
        refine SxA.take (i := 17) rfl (by kernel_rfl) (by kernel_rfl) (by kernel_rfl) rfl rfl (fun _ _ _ h => h) trivial (fun ρ w E H => ex_pick E rfl (t := false) rfl rfl) ?_
        refine SxA.take (i := 18) rfl (by kernel_rfl) (by kernel_rfl) (by kernel_rfl) rfl rfl (fun _ _ _ h => h) trivial (fun ρ w E H => ex_move E rfl rfl) ?_
        refine SxA.take (i := 19) rfl (by kernel_rfl) (by kernel_rfl) (by kernel_rfl) rfl rfl (fun _ _ _ h => h) ⟨_, _, rfl, rfl, rfl⟩ (fun ρ w E H => ex_load (part := [.int .u8 (mk : Int), .int .u64 (mn : Int), .int .u8 (mr : Int), .int .u64 (mb : Int), .int .u64 (ms : Int), .int .u8 (mo : Int), .string ⟨mv.toArray⟩, .slice A vl.length ka, .slice B il.length kb, .int .u8 (ca : Int), .int .u32 (cb : Int), .int .u8 (ck : Int), .string ⟨cs.toArray⟩, .string ⟨ct.toArray⟩, .string ⟨cu.toArray⟩, .int .u8 (cz : Int), .int .u8 (mc : Int), .string ⟨mt.toArray⟩]) E (H.get (i := 4) rfl) rfl rfl Tryz.underlying33 rfl sz_palaver_api_Msg rfl rfl) ?_
        refine SxA.take (i := 21) rfl (by kernel_rfl) (by kernel_rfl) (by kernel_rfl) rfl rfl (fun _ _ _ h => h) ⟨_, _, rfl, rfl, rfl⟩ (fun ρ w E H => ex_load (part := [.int .u8 (mk : Int), .int .u64 (mn : Int), .int .u8 (mr : Int), .int .u64 (mb : Int), .int .u64 (ms : Int), .int .u8 (mo : Int), .string ⟨mv.toArray⟩, .slice A vl.length ka, .slice B il.length kb, .int .u8 (ca : Int), .int .u32 (cb : Int), .int .u8 (ck : Int), .string ⟨cs.toArray⟩, .string ⟨ct.toArray⟩, .string ⟨cu.toArray⟩, .int .u8 (cz : Int), .int .u8 (mc : Int), .string ⟨mt.toArray⟩]) E (H.get (i := 4) rfl) rfl rfl Tryz.underlying33 rfl sz_palaver_api_Msg rfl rfl) ?_
        refine SxA.ready [20] (by kernel_rfl) (by simp) ⟨?_, trivial⟩
        refine SxO.call2 (fun V I => .agg (msL ⟨mk, mn, mr, mb, ms, mo, mv, vl, il, ⟨ca, cb, ck, cs, ct, cu, cz⟩, mc, mt⟩ V I).toArray) (fun V I => OwnIn w [] V ∧ OwnIn w [] I) (fun V I => _) rfl ⟨_, _, rfl, rfl, rfl⟩ rfl rfl (fun ρ w E => ex_call E en_palaver_palaverlaw18_own rfl rfl) (call_ownM ⟨mk, mn, mr, mb, ms, mo, mv, vl, il, ⟨ca, cb, ck, cs, ct, cu, cz⟩, mc, mt⟩ A B ka kb (fun w H => hr.below (H.toBelow ⟨(fun g hg => by rw [List.mem_singleton.1 hg]; exact hg3), hVI5.1.fresh, hVI5.2.fresh, (fun g hg => by rw [List.mem_singleton.1 hg]; exact hg2), (fun g hg => by rw [List.mem_singleton.1 hg]; exact hg1), trivial⟩)) hn1 hn2) (fun V45 I45 w hVI45 H => H.ks [] [2, 3, 4, 5, 6] rfl ⟨(fun g hg => .inr (hVI45.1.fresh g hg)), (fun g hg => .inr (hVI45.2.fresh g hg)), (fun g hg => by rw [List.mem_singleton.1 hg]; exact .inr hg3), (fun g hg => .inr (hVI5.1.fresh g hg)), (fun g hg => .inr (hVI5.2.fresh g hg)), (fun g hg => by rw [List.mem_singleton.1 hg]; exact .inr hg2), (fun g hg => by rw [List.mem_singleton.1 hg]; exact .inr hg1), trivial⟩) fun V45 I45 hVI45 => ?_
        refine SxA.ready [22] (by kernel_rfl) (by simp) ⟨?_, trivial⟩
        refine SxO.callB (v := .bool true) rfl ⟨_, _, rfl, rfl, rfl⟩ rfl rfl (fun ρ w E => ex_call E en_palaver_msg_Same rfl rfl) (fun w H => same_own ⟨mk, mn, mr, mb, ms, mo, mv, vl, il, ⟨ca, cb, ck, cs, ct, cu, cz⟩, mc, mt⟩ V45 I45 A B ka kb w (H.get (i := 0) rfl) (H.get (i := 1) rfl) (hr.below (H.toBelow ⟨hVI45.1.fresh, hVI45.2.fresh, (fun g hg => by rw [List.mem_singleton.1 hg]; exact hg3), hVI5.1.fresh, hVI5.2.fresh, (fun g hg => by rw [List.mem_singleton.1 hg]; exact hg2), (fun g hg => by rw [List.mem_singleton.1 hg]; exact hg1), trivial⟩)) hn1 hn2) (fun w H => H.ks [] [2, 3, 4, 5, 6] rfl ⟨(fun g hg => .inr (hVI45.1.fresh g hg)), (fun g hg => .inr (hVI45.2.fresh g hg)), (fun g hg => by rw [List.mem_singleton.1 hg]; exact .inr hg3), (fun g hg => .inr (hVI5.1.fresh g hg)), (fun g hg => .inr (hVI5.2.fresh g hg)), (fun g hg => by rw [List.mem_singleton.1 hg]; exact .inr hg2), (fun g hg => by rw [List.mem_singleton.1 hg]; exact .inr hg1), trivial⟩) ?_
        refine SxA.take (i := 23) (v := .bool false) rfl (by kernel_rfl) (by kernel_rfl) (by kernel_rfl) rfl rfl (fun _ _ _ h => h) ⟨_, _, rfl, rfl, rfl⟩ (fun ρ w E H => ex_not (t := true) E rfl rfl) ?_
        refine SxA.take (i := 24) rfl (by kernel_rfl) (by kernel_rfl) (by kernel_rfl) rfl rfl (fun _ _ _ h => h) trivial (fun ρ w E H => ex_pick E rfl (t := false) rfl rfl) ?_
        refine SxA.done (by kernel_rfl) ?_
        refine SxN.then_ (SxC.condF rfl (SxC.skip (SxN.then_ (SxC.seq (SxC.seq (SxC.region ?_))))))
        refine SxL.val trivial rfl rfl (fun ρ w E H => ex_load (part := [.int .u8 (mk : Int), .int .u64 (mn : Int), .int .u8 (mr : Int), .int .u64 (mb : Int), .int .u64 (ms : Int), .int .u8 (mo : Int), .string ⟨mv.toArray⟩, .slice A vl.length ka, .slice B il.length kb, .int .u8 (ca : Int), .int .u32 (cb : Int), .int .u8 (ck : Int), .string ⟨cs.toArray⟩, .string ⟨ct.toArray⟩, .string ⟨cu.toArray⟩, .int .u8 (cz : Int), .int .u8 (mc : Int), .string ⟨mt.toArray⟩]) E (H.get (i := 6) rfl) rfl rfl Tryz.underlying33 rfl sz_palaver_api_Msg rfl rfl) ?_
        refine SxL.callB (v := .bool false) trivial rfl rfl (fun ρ w E => ex_call E en_palaver_palaverref18_May rfl rfl) (fun w H => (rmay_any ⟨mk, mn, mr, mb, ms, mo, mv, vl, il, ⟨ca, cb, ck, cs, ct, cu, cz⟩, mc, mt⟩ A B ka kb w hf hsm (hr.below (H.toBelow ⟨hVI45.1.fresh, hVI45.2.fresh, (fun g hg => by rw [List.mem_singleton.1 hg]; exact hg3), hVI5.1.fresh, hVI5.2.fresh, (fun g hg => by rw [List.mem_singleton.1 hg]; exact hg2), (fun g hg => by rw [List.mem_singleton.1 hg]; exact hg1), trivial⟩))).mono fun _ _ h => ⟨by rw [h.1, hck], h.2⟩) ?_
        refine SxL.val (v := .bool true) trivial rfl rfl (fun ρ w E H => ex_not (t := false) E rfl rfl) ?_
        refine SxL.nil (SxN.then_ (SxC.condT rfl (SxC.seq (SxC.region ?_))))
        refine SxL.val trivial rfl rfl (fun ρ w E H => ex_move E rfl rfl) ?_
        refine SxL.val (v := .bool true) trivial rfl rfl (fun ρ w E H => ex_cmp E rfl rfl rfl rfl (by decide)) ?_
        refine SxL.val trivial rfl rfl (fun ρ w E H => ex_move E rfl rfl) ?_
        refine SxL.val ⟨_, _, rfl, rfl, rfl⟩ rfl rfl (fun ρ w E H => ex_move E rfl rfl) ?_
        refine SxL.val (v := .bool true) ⟨_, _, rfl, rfl, rfl⟩ rfl rfl (fun ρ w E H => ex_seql E rfl rfl rfl (by simp)) ?_
        refine SxL.val trivial rfl rfl (fun ρ w E H => ex_pick E rfl (t := true) rfl rfl) ?_
        refine SxL.val trivial rfl rfl (fun ρ w E H => ex_move E rfl rfl) ?_
        refine SxL.callB (v := .bool true) ⟨_, _, rfl, rfl, rfl⟩ rfl rfl (fun ρ w E => ex_call E en_palaver_palaverlaw18_wakes rfl rfl) (fun w H => wakes_any w) ?_
        refine SxL.val trivial rfl rfl (fun ρ w E H => ex_pick E rfl (t := true) rfl rfl) ?_
        refine SxL.val trivial rfl rfl (fun ρ w E H => ex_assign E rfl rfl) ?_
        refine SxL.nil (SxN.then_ (SxC.ret (SxX.thenR ?_)))
        refine SxX.done (.bool true) (fun a w K H => res1 K rfl rfl) (fun w H => ?_)
        exact ⟨rfl, H.toBelow ⟨hVI45.1.fresh, hVI45.2.fresh, (fun g hg => by rw [List.mem_singleton.1 hg]; exact hg3), hVI5.1.fresh, hVI5.2.fresh, (fun g hg => by rw [List.mem_singleton.1 hg]; exact hg2), (fun g hg => by rw [List.mem_singleton.1 hg]; exact hg1), trivial⟩⟩
      · refine SxC.region ?_
        refine SxL.val trivial rfl rfl (fun ρ w E H => ex_load (part := [.int .u8 (mk : Int), .int .u64 (mn : Int), .int .u8 (mr : Int), .int .u64 (mb : Int), .int .u64 (ms : Int), .int .u8 (mo : Int), .string ⟨mv.toArray⟩, .slice A vl.length ka, .slice B il.length kb, .int .u8 (ca : Int), .int .u32 (cb : Int), .int .u8 (ck : Int), .string ⟨cs.toArray⟩, .string ⟨ct.toArray⟩, .string ⟨cu.toArray⟩, .int .u8 (cz : Int), .int .u8 (mc : Int), .string ⟨mt.toArray⟩]) E (H.get (i := 1) rfl) rfl rfl Tryz.underlying33 rfl sz_palaver_api_Msg rfl rfl) ?_
        refine SxL.call2 (fun V I => .agg (msL ⟨mk, mn, mr, mb, ms, mo, mv, vl, il, ⟨ca, cb, ck, cs, ct, cu, cz⟩, mc, mt⟩ V I).toArray) (fun V I => OwnIn w [] V ∧ OwnIn w [] I) (fun V I => _) trivial rfl rfl (fun ρ w E => ex_call E en_palaver_palaverlaw18_own rfl rfl) (call_ownM ⟨mk, mn, mr, mb, ms, mo, mv, vl, il, ⟨ca, cb, ck, cs, ct, cu, cz⟩, mc, mt⟩ A B ka kb (fun w H => hr.below (H.toBelow ⟨(fun g hg => by rw [List.mem_singleton.1 hg]; exact hg2), (fun g hg => by rw [List.mem_singleton.1 hg]; exact hg1), trivial⟩)) hn1 hn2) fun V5 I5 hVI5 => ?_
        refine SxL.with (fun W H => own_is_slice (H.get (i := 0) rfl)) ?_
        rintro ⟨A5, k5, rfl⟩
        refine SxL.with (fun W H => own_is_slice (H.get (i := 1) rfl)) ?_
        rintro ⟨B5, l5, rfl⟩
        refine SxL.new (cs := [.int .u8 0, .int .u64 0, .int .u8 0, .int .u64 0, .int .u64 0, .int .u8 0, .string ⟨[].toArray⟩, .slice none 0 0, .slice none 0 0, .int .u8 0, .int .u32 0, .int .u8 0, .string ⟨[].toArray⟩, .string ⟨[].toArray⟩, .string ⟨[].toArray⟩, .int .u8 0, .int .u8 0, .string ⟨[].toArray⟩]) trivial rfl rfl (fun ρ w E H => ex_alloc rfl zr_palaver_api_Msg rfl) fun g4 hg4 => ?_
        refine SxL.storeX (i := 0) [.int .u8 (mk : Int), .int .u64 (mn : Int), .int .u8 (mr : Int), .int .u64 (mb : Int), .int .u64 (ms : Int), .int .u8 (mo : Int), .string ⟨mv.toArray⟩, .slice A5 vl.length k5, .slice B5 il.length l5, .int .u8 (ca : Int), .int .u32 (cb : Int), .int .u8 (ck : Int), .string ⟨cs.toArray⟩, .string ⟨ct.toArray⟩, .string ⟨cu.toArray⟩, .int .u8 (cz : Int), .int .u8 (mc : Int), .string ⟨mt.toArray⟩] trivial rfl rfl rfl rfl rfl sz_palaver_api_Msg rfl rfl rfl (putL_all _ _ rfl) ?_
        refine SxL.nil (SxN.then_ (SxC.seq (SxC.region ?_)))
        refine SxL.val trivial rfl rfl (fun ρ w E H => ex_load (part := [.int .u8 (mk : Int), .int .u64 (mn : Int), .int .u8 (mr : Int), .int .u64 (mb : Int), .int .u64 (ms : Int), .int .u8 (mo : Int), .string ⟨mv.toArray⟩, .slice A5 vl.length k5, .slice B5 il.length l5, .int .u8 (ca : Int), .int .u32 (cb : Int), .int .u8 (ck : Int), .string ⟨cs.toArray⟩, .string ⟨ct.toArray⟩, .string ⟨cu.toArray⟩, .int .u8 (cz : Int), .int .u8 (mc : Int), .string ⟨mt.toArray⟩]) E (H.get (i := 0) rfl) rfl rfl Tryz.underlying33 rfl sz_palaver_api_Msg rfl rfl) ?_
        refine SxL.callB (v := .int .i64 0) trivial rfl rfl (fun ρ w E => ex_call E en_palaver_msg_Check rfl rfl) (fun w H => (check_any ⟨mk, mn, mr, mb, ms, mo, mv, vl, il, ⟨ca, cb, ck, cs, ct, cu, cz⟩, mc, mt⟩ A5 B5 k5 l5 w hf hsm ⟨own_read voL_len (by decide) (H.get (i := 1) rfl), own_read imL_len (by decide) (H.get (i := 2) rfl)⟩).mono fun _ _ h => ⟨by rw [h.1, hck]; rfl, h.2⟩) ?_
        refine SxL.val trivial rfl rfl (fun ρ w E H => ex_assign E rfl rfl) ?_
        refine SxL.nil (SxN.then_ (SxC.seq (SxC.region ?_)))
        refine SxL.val trivial rfl rfl (fun ρ w E H => ex_load (part := [.int .u8 (mk : Int), .int .u64 (mn : Int), .int .u8 (mr : Int), .int .u64 (mb : Int), .int .u64 (ms : Int), .int .u8 (mo : Int), .string ⟨mv.toArray⟩, .slice A5 vl.length k5, .slice B5 il.length l5, .int .u8 (ca : Int), .int .u32 (cb : Int), .int .u8 (ck : Int), .string ⟨cs.toArray⟩, .string ⟨ct.toArray⟩, .string ⟨cu.toArray⟩, .int .u8 (cz : Int), .int .u8 (mc : Int), .string ⟨mt.toArray⟩]) E (H.get (i := 0) rfl) rfl rfl Tryz.underlying33 rfl sz_palaver_api_Msg rfl rfl) ?_
        refine SxL.callB (v := .tuple #[.string ⟨((Frame.frameB (insideB ⟨mk, mn, mr, mb, ms, mo, mv, vl, il, ⟨ca, cb, ck, cs, ct, cu, cz⟩, mc, mt⟩))).toArray⟩, .int .i64 0]) trivial rfl rfl (fun ρ w E => ex_call E en_palaver_msg_Put rfl rfl) (fun w H => (put_any ⟨mk, mn, mr, mb, ms, mo, mv, vl, il, ⟨ca, cb, ck, cs, ct, cu, cz⟩, mc, mt⟩ A5 B5 k5 l5 w hf hsm ⟨own_read voL_len (by decide) (H.get (i := 1) rfl), own_read imL_len (by decide) (H.get (i := 2) rfl)⟩).mono fun _ _ h => ⟨by rw [h.1, putM_is_ok hck hins]; rfl, h.2⟩) ?_
        refine SxL.val trivial rfl rfl (fun ρ w E H => ex_move E rfl rfl) ?_
        iterate 2 refine SxL.val trivial rfl rfl (fun ρ w E H => ex_extract E rfl rfl rfl) ?_
        iterate 2 refine SxL.val trivial rfl rfl (fun ρ w E H => ex_assign E rfl rfl) ?_
        refine SxL.nil (SxN.then_ (SxC.seq (SxC.seq ?_)))
        refine SxC.drawnK [] [0, 1, 2, 3, 4] (by kernel_rfl) rfl ⟨(fun g hg => by rw [List.mem_singleton.1 hg]; exact .inr hg4), (fun g hg => .inr (hVI5.1.fresh g hg)), (fun g hg => .inr (hVI5.2.fresh g hg)), (fun g hg => by rw [List.mem_singleton.1 hg]; exact .inr hg2), (fun g hg => by rw [List.mem_singleton.1 hg]; exact .inr hg1), trivial⟩ ?_
        refine SxA.take (i := 0) rfl (by kernel_rfl) (by kernel_rfl) (by kernel_rfl) rfl rfl (fun _ _ _ h => h) trivial (fun ρ w E H => ex_load (part := [.int .u8 (mk : Int), .int .u64 (mn : Int), .int .u8 (mr : Int), .int .u64 (mb : Int), .int .u64 (ms : Int), .int .u8 (mo : Int), .string ⟨mv.toArray⟩, .slice A5 vl.length k5, .slice B5 il.length l5, .int .u8 (ca : Int), .int .u32 (cb : Int), .int .u8 (ck : Int), .string ⟨cs.toArray⟩, .string ⟨ct.toArray⟩, .string ⟨cu.toArray⟩, .int .u8 (cz : Int), .int .u8 (mc : Int), .string ⟨mt.toArray⟩]) E (H.get (i := 0) rfl) rfl rfl Tryz.underlying33 rfl sz_palaver_api_Msg rfl rfl) ?_
        refine SxA.take (i := 1) rfl (by kernel_rfl) (by kernel_rfl) (by kernel_rfl) rfl rfl (fun _ _ _ h => h) trivial (fun ρ w E H => ex_load (part := [.int .u8 (mk : Int), .int .u64 (mn : Int), .int .u8 (mr : Int), .int .u64 (mb : Int), .int .u64 (ms : Int), .int .u8 (mo : Int), .string ⟨mv.toArray⟩, .slice A vl.length ka, .slice B il.length kb, .int .u8 (ca : Int), .int .u32 (cb : Int), .int .u8 (ck : Int), .string ⟨cs.toArray⟩, .string ⟨ct.toArray⟩, .string ⟨cu.toArray⟩, .int .u8 (cz : Int), .int .u8 (mc : Int), .string ⟨mt.toArray⟩]) E (H.get (i := 4) rfl) rfl rfl Tryz.underlying33 rfl sz_palaver_api_Msg rfl rfl) ?_
        refine SxA.ready [2] (by kernel_rfl) (by simp) ⟨?_, trivial⟩
        refine SxO.callB (v := .bool true) rfl trivial rfl rfl (fun ρ w E => ex_call E en_palaver_palaverref18_Same rfl rfl) (fun w H => (rsame_any ⟨mk, mn, mr, mb, ms, mo, mv, vl, il, ⟨ca, cb, ck, cs, ct, cu, cz⟩, mc, mt⟩ ⟨mk, mn, mr, mb, ms, mo, mv, vl, il, ⟨ca, cb, ck, cs, ct, cu, cz⟩, mc, mt⟩ A5 B5 A B k5 l5 ka kb w ⟨own_read voL_len (by decide) (H.get (i := 1) rfl), own_read imL_len (by decide) (H.get (i := 2) rfl)⟩ (hr.below (H.toBelow ⟨(fun g hg => by rw [List.mem_singleton.1 hg]; exact hg4), hVI5.1.fresh, hVI5.2.fresh, (fun g hg => by rw [List.mem_singleton.1 hg]; exact hg2), (fun g hg => by rw [List.mem_singleton.1 hg]; exact hg1), trivial⟩)) hn1 hn2).mono fun _ _ h => ⟨by rw [h.1]; simp, h.2⟩) (fun w H => H.ks [] [0, 1, 2, 3, 4] rfl ⟨(fun g hg => by rw [List.mem_singleton.1 hg]; exact .inr hg4), (fun g hg => .inr (hVI5.1.fresh g hg)), (fun g hg => .inr (hVI5.2.fresh g hg)), (fun g hg => by rw [List.mem_singleton.1 hg]; exact .inr hg2), (fun g hg => by rw [List.mem_singleton.1 hg]; exact .inr hg1), trivial⟩) ?_
        refine SxA.take (i := 3) (v := .bool false) rfl (by kernel_rfl) (by kernel_rfl) (by kernel_rfl) rfl rfl (fun _ _ _ h => h) trivial (fun ρ w E H => ex_not (t := true) E rfl rfl) ?_
        refine SxA.take (i := 4) rfl (by kernel_rfl) (by kernel_rfl) (by kernel_rfl) rfl rfl (fun _ _ _ h => h) trivial (fun ρ w E H => ex_move E rfl rfl) ?_
        refine SxA.take (i := 5) rfl (by kernel_rfl) (by kernel_rfl) (by kernel_rfl) rfl rfl (fun _ _ _ h => h) ⟨_, _, rfl, rfl, rfl⟩ (fun ρ w E H => ex_move E rfl rfl) ?_
        refine SxA.take (i := 6) rfl (by kernel_rfl) (by kernel_rfl) (by kernel_rfl) rfl rfl (fun _ _ _ h => h) ⟨_, _, rfl, rfl, rfl⟩ (fun ρ w E H => ex_move E rfl rfl) ?_
        refine SxA.take (i := 7) (v := .bool false) rfl (by kernel_rfl) (by kernel_rfl) (by kernel_rfl) rfl rfl (fun _ _ _ h => h) ⟨_, _, rfl, rfl, rfl⟩ (fun ρ w E H => ex_cmp E rfl rfl rfl rfl (by decide)) ?_
        refine SxA.take (i := 8) rfl (by kernel_rfl) (by kernel_rfl) (by kernel_rfl) rfl rfl (fun _ _ _ h => h) trivial (fun ρ w E H => ex_pick E rfl (t := false) rfl rfl) ?_
        refine SxA.take (i := 9) rfl (by kernel_rfl) (by kernel_rfl) (by kernel_rfl) rfl rfl (fun _ _ _ h => h) trivial (fun ρ w E H => ex_move E rfl rfl) ?_
        refine SxA.take (i := 10) rfl (by kernel_rfl) (by kernel_rfl) (by kernel_rfl) rfl rfl (fun _ _ _ h => h) ⟨_, _, rfl, rfl, rfl⟩ (fun ρ w E H => ex_load (part := [.int .u8 (mk : Int), .int .u64 (mn : Int), .int .u8 (mr : Int), .int .u64 (mb : Int), .int .u64 (ms : Int), .int .u8 (mo : Int), .string ⟨mv.toArray⟩, .slice A vl.length ka, .slice B il.length kb, .int .u8 (ca : Int), .int .u32 (cb : Int), .int .u8 (ck : Int), .string ⟨cs.toArray⟩, .string ⟨ct.toArray⟩, .string ⟨cu.toArray⟩, .int .u8 (cz : Int), .int .u8 (mc : Int), .string ⟨mt.toArray⟩]) E (H.get (i := 4) rfl) rfl rfl Tryz.underlying33 rfl sz_palaver_api_Msg rfl rfl) ?_
        refine SxA.take (i := 11) rfl (by kernel_rfl) (by kernel_rfl) (by kernel_rfl) rfl rfl (fun _ _ _ h => h) ⟨_, _, rfl, rfl, rfl⟩ (fun ρ w E H => ex_load (part := [.int .u8 (xk : Int), .int .u64 (xn : Int), .int .u8 (xr : Int), .int .u64 (xb : Int), .int .u64 (xs : Int), .int .u8 (xo : Int), .string ⟨xv.toArray⟩, .slice C wl.length kc, .slice D jl.length kd, .int .u8 (da : Int), .int .u32 (db : Int), .int .u8 (dk : Int), .string ⟨ds.toArray⟩, .string ⟨dt.toArray⟩, .string ⟨du.toArray⟩, .int .u8 (dz : Int), .int .u8 (xc : Int), .string ⟨xt.toArray⟩]) E (H.get (i := 3) rfl) rfl rfl Tryz.underlying33 rfl sz_palaver_api_Msg rfl rfl) ?_
        refine SxA.take (i := 13) rfl (by kernel_rfl) (by kernel_rfl) (by kernel_rfl) rfl rfl (fun _ _ _ h => h) ⟨_, _, rfl, rfl, rfl⟩ (fun ρ w E H => ex_load (part := [.int .u8 (mk : Int), .int .u64 (mn : Int), .int .u8 (mr : Int), .int .u64 (mb : Int), .int .u64 (ms : Int), .int .u8 (mo : Int), .string ⟨mv.toArray⟩, .slice A vl.length ka, .slice B il.length kb, .int .u8 (ca : Int), .int .u32 (cb : Int), .int .u8 (ck : Int), .string ⟨cs.toArray⟩, .string ⟨ct.toArray⟩, .string ⟨cu.toArray⟩, .int .u8 (cz : Int), .int .u8 (mc : Int), .string ⟨mt.toArray⟩]) E (H.get (i := 4) rfl) rfl rfl Tryz.underlying33 rfl sz_palaver_api_Msg rfl rfl) ?_
        refine SxA.take (i := 14) rfl (by kernel_rfl) (by kernel_rfl) (by kernel_rfl) rfl rfl (fun _ _ _ h => h) ⟨_, _, rfl, rfl, rfl⟩ (fun ρ w E H => ex_load (part := [.int .u8 (xk : Int), .int .u64 (xn : Int), .int .u8 (xr : Int), .int .u64 (xb : Int), .int .u64 (xs : Int), .int .u8 (xo : Int), .string ⟨xv.toArray⟩, .slice C wl.length kc, .slice D jl.length kd, .int .u8 (da : Int), .int .u32 (db : Int), .int .u8 (dk : Int), .string ⟨ds.toArray⟩, .string ⟨dt.toArray⟩, .string ⟨du.toArray⟩, .int .u8 (dz : Int), .int .u8 (xc : Int), .string ⟨xt.toArray⟩]) E (H.get (i := 3) rfl) rfl rfl Tryz.underlying33 rfl sz_palaver_api_Msg rfl rfl) ?_
        refine SxA.ready [12] (by kernel_rfl) (by simp) ⟨?_, trivial⟩
        refine SxO.callB (v := .bool sm) rfl ⟨_, _, rfl, rfl, rfl⟩ rfl rfl (fun ρ w E => ex_call E en_palaver_msg_Same rfl rfl) (fun w H => (same_any ⟨mk, mn, mr, mb, ms, mo, mv, vl, il, ⟨ca, cb, ck, cs, ct, cu, cz⟩, mc, mt⟩ ⟨xk, xn, xr, xb, xs, xo, xv, wl, jl, ⟨da, db, dk, ds, dt, du, dz⟩, xc, xt⟩ A B C D ka kb kc kd w (hr.below (H.toBelow ⟨(fun g hg => by rw [List.mem_singleton.1 hg]; exact hg4), hVI5.1.fresh, hVI5.2.fresh, (fun g hg => by rw [List.mem_singleton.1 hg]; exact hg2), (fun g hg => by rw [List.mem_singleton.1 hg]; exact hg1), trivial⟩)) (hr2.below (H.toBelow ⟨(fun g hg => by rw [List.mem_singleton.1 hg]; exact hg4), hVI5.1.fresh, hVI5.2.fresh, (fun g hg => by rw [List.mem_singleton.1 hg]; exact hg2), (fun g hg => by rw [List.mem_singleton.1 hg]; exact hg1), trivial⟩)) hn1 hn2).mono fun _ _ h => ⟨by rw [h.1, hsame], h.2⟩) (fun w H => H.ks [] [0, 1, 2, 3, 4] rfl ⟨(fun g hg => by rw [List.mem_singleton.1 hg]; exact .inr hg4), (fun g hg => .inr (hVI5.1.fresh g hg)), (fun g hg => .inr (hVI5.2.fresh g hg)), (fun g hg => by rw [List.mem_singleton.1 hg]; exact .inr hg2), (fun g hg => by rw [List.mem_singleton.1 hg]; exact .inr hg1), trivial⟩) ?_
        refine SxA.ready [15] (by kernel_rfl) (by simp) ⟨?_, trivial⟩
        refine SxO.callB (v := .bool sm) rfl ⟨_, _, rfl, rfl, rfl⟩ rfl rfl (fun ρ w E => ex_call E en_palaver_palaverref18_Same rfl rfl) (fun w H => (rsame_any ⟨mk, mn, mr, mb, ms, mo, mv, vl, il, ⟨ca, cb, ck, cs, ct, cu, cz⟩, mc, mt⟩ ⟨xk, xn, xr, xb, xs, xo, xv, wl, jl, ⟨da, db, dk, ds, dt, du, dz⟩, xc, xt⟩ A B C D ka kb kc kd w (hr.below (H.toBelow ⟨(fun g hg => by rw [List.mem_singleton.1 hg]; exact hg4), hVI5.1.fresh, hVI5.2.fresh, (fun g hg => by rw [List.mem_singleton.1 hg]; exact hg2), (fun g hg => by rw [List.mem_singleton.1 hg]; exact hg1), trivial⟩)) (hr2.below (H.toBelow ⟨(fun g hg => by rw [List.mem_singleton.1 hg]; exact hg4), hVI5.1.fresh, hVI5.2.fresh, (fun g hg => by rw [List.mem_singleton.1 hg]; exact hg2), (fun g hg => by rw [List.mem_singleton.1 hg]; exact hg1), trivial⟩)) hn1 hn2).mono fun _ _ h => ⟨by rw [h.1, hsame], h.2⟩) (fun w H => H.ks [] [0, 1, 2, 3, 4] rfl ⟨(fun g hg => by rw [List.mem_singleton.1 hg]; exact .inr hg4), (fun g hg => .inr (hVI5.1.fresh g hg)), (fun g hg => .inr (hVI5.2.fresh g hg)), (fun g hg => by rw [List.mem_singleton.1 hg]; exact .inr hg2), (fun g hg => by rw [List.mem_singleton.1 hg]; exact .inr hg1), trivial⟩) ?_
        refine SxA.take (i := 16) (v := .bool false) rfl (by kernel_rfl) (by kernel_rfl) (by kernel_rfl) rfl rfl (fun _ _ _ h => h) ⟨_, _, rfl, rfl, rfl⟩ (fun ρ w E H => ex_bneq E rfl Tryz.underlying4 rfl rfl (by simp)) ?_
        refine SxA.take (i := 17) rfl (by kernel_rfl) (by kernel_rfl) (by kernel_rfl) rfl rfl (fun _ _ _ h => h) trivial (fun ρ w E H => ex_pick E rfl (t := false) rfl rfl) ?_
        refine SxA.take (i := 18) rfl (by kernel_rfl) (by kernel_rfl) (by kernel_rfl) rfl rfl (fun _ _ _ h => h) trivial (fun ρ w E H => ex_move E rfl rfl) ?_
        refine SxA.take (i := 19) rfl (by kernel_rfl) (by kernel_rfl) (by kernel_rfl) rfl rfl (fun _ _ _ h => h) ⟨_, _, rfl, rfl, rfl⟩ (fun ρ w E H => ex_load (part := [.int .u8 (mk : Int), .int .u64 (mn : Int), .int .u8 (mr : Int), .int .u64 (mb : Int), .int .u64 (ms : Int), .int .u8 (mo : Int), .string ⟨mv.toArray⟩, .slice A vl.length ka, .slice B il.length kb, .int .u8 (ca : Int), .int .u32 (cb : Int), .int .u8 (ck : Int), .string ⟨cs.toArray⟩, .string ⟨ct.toArray⟩, .string ⟨cu.toArray⟩, .int .u8 (cz : Int), .int .u8 (mc : Int), .string ⟨mt.toArray⟩]) E (H.get (i := 4) rfl) rfl rfl Tryz.underlying33 rfl sz_palaver_api_Msg rfl rfl) ?_
        refine SxA.take (i := 21) rfl (by kernel_rfl) (by kernel_rfl) (by kernel_rfl) rfl rfl (fun _ _ _ h => h) ⟨_, _, rfl, rfl, rfl⟩ (fun ρ w E H => ex_load (part := [.int .u8 (mk : Int), .int .u64 (mn : Int), .int .u8 (mr : Int), .int .u64 (mb : Int), .int .u64 (ms : Int), .int .u8 (mo : Int), .string ⟨mv.toArray⟩, .slice A vl.length ka, .slice B il.length kb, .int .u8 (ca : Int), .int .u32 (cb : Int), .int .u8 (ck : Int), .string ⟨cs.toArray⟩, .string ⟨ct.toArray⟩, .string ⟨cu.toArray⟩, .int .u8 (cz : Int), .int .u8 (mc : Int), .string ⟨mt.toArray⟩]) E (H.get (i := 4) rfl) rfl rfl Tryz.underlying33 rfl sz_palaver_api_Msg rfl rfl) ?_
        refine SxA.ready [20] (by kernel_rfl) (by simp) ⟨?_, trivial⟩
        refine SxO.call2 (fun V I => .agg (msL ⟨mk, mn, mr, mb, ms, mo, mv, vl, il, ⟨ca, cb, ck, cs, ct, cu, cz⟩, mc, mt⟩ V I).toArray) (fun V I => OwnIn w [] V ∧ OwnIn w [] I) (fun V I => _) rfl ⟨_, _, rfl, rfl, rfl⟩ rfl rfl (fun ρ w E => ex_call E en_palaver_palaverlaw18_own rfl rfl) (call_ownM ⟨mk, mn, mr, mb, ms, mo, mv, vl, il, ⟨ca, cb, ck, cs, ct, cu, cz⟩, mc, mt⟩ A B ka kb (fun w H => hr.below (H.toBelow ⟨(fun g hg => by rw [List.mem_singleton.1 hg]; exact hg4), hVI5.1.fresh, hVI5.2.fresh, (fun g hg => by rw [List.mem_singleton.1 hg]; exact hg2), (fun g hg => by rw [List.mem_singleton.1 hg]; exact hg1), trivial⟩)) hn1 hn2) (fun V45 I45 w hVI45 H => H.ks [] [2, 3, 4, 5, 6] rfl ⟨(fun g hg => .inr (hVI45.1.fresh g hg)), (fun g hg => .inr (hVI45.2.fresh g hg)), (fun g hg => by rw [List.mem_singleton.1 hg]; exact .inr hg4), (fun g hg => .inr (hVI5.1.fresh g hg)), (fun g hg => .inr (hVI5.2.fresh g hg)), (fun g hg => by rw [List.mem_singleton.1 hg]; exact .inr hg2), (fun g hg => by rw [List.mem_singleton.1 hg]; exact .inr hg1), trivial⟩) fun V45 I45 hVI45 => ?_
        refine SxA.ready [22] (by kernel_rfl) (by simp) ⟨?_, trivial⟩
        refine SxO.callB (v := .bool true) rfl ⟨_, _, rfl, rfl, rfl⟩ rfl rfl (fun ρ w E => ex_call E en_palaver_msg_Same rfl rfl) (fun w H => same_own ⟨mk, mn, mr, mb, ms, mo, mv, vl, il, ⟨ca, cb, ck, cs, ct, cu, cz⟩, mc, mt⟩ V45 I45 A B ka kb w (H.get (i := 0) rfl) (H.get (i := 1) rfl) (hr.below (H.toBelow ⟨hVI45.1.fresh, hVI45.2.fresh, (fun g hg => by rw [List.mem_singleton.1 hg]; exact hg4), hVI5.1.fresh, hVI5.2.fresh, (fun g hg => by rw [List.mem_singleton.1 hg]; exact hg2), (fun g hg => by rw [List.mem_singleton.1 hg]; exact hg1), trivial⟩)) hn1 hn2) (fun w H => H.ks [] [2, 3, 4, 5, 6] rfl ⟨(fun g hg => .inr (hVI45.1.fresh g hg)), (fun g hg => .inr (hVI45.2.fresh g hg)), (fun g hg => by rw [List.mem_singleton.1 hg]; exact .inr hg4), (fun g hg => .inr (hVI5.1.fresh g hg)), (fun g hg => .inr (hVI5.2.fresh g hg)), (fun g hg => by rw [List.mem_singleton.1 hg]; exact .inr hg2), (fun g hg => by rw [List.mem_singleton.1 hg]; exact .inr hg1), trivial⟩) ?_
        refine SxA.take (i := 23) (v := .bool false) rfl (by kernel_rfl) (by kernel_rfl) (by kernel_rfl) rfl rfl (fun _ _ _ h => h) ⟨_, _, rfl, rfl, rfl⟩ (fun ρ w E H => ex_not (t := true) E rfl rfl) ?_
        refine SxA.take (i := 24) rfl (by kernel_rfl) (by kernel_rfl) (by kernel_rfl) rfl rfl (fun _ _ _ h => h) trivial (fun ρ w E H => ex_pick E rfl (t := false) rfl rfl) ?_
        refine SxA.done (by kernel_rfl) ?_
        refine SxN.then_ (SxC.condF rfl (SxC.skip (SxN.then_ (SxC.seq (SxC.seq (SxC.region ?_))))))
        refine SxL.val trivial rfl rfl (fun ρ w E H => ex_load (part := [.int .u8 (mk : Int), .int .u64 (mn : Int), .int .u8 (mr : Int), .int .u64 (mb : Int), .int .u64 (ms : Int), .int .u8 (mo : Int), .string ⟨mv.toArray⟩, .slice A vl.length ka, .slice B il.length kb, .int .u8 (ca : Int), .int .u32 (cb : Int), .int .u8 (ck : Int), .string ⟨cs.toArray⟩, .string ⟨ct.toArray⟩, .string ⟨cu.toArray⟩, .int .u8 (cz : Int), .int .u8 (mc : Int), .string ⟨mt.toArray⟩]) E (H.get (i := 6) rfl) rfl rfl Tryz.underlying33 rfl sz_palaver_api_Msg rfl rfl) ?_
        refine SxL.callB (v := .bool true) trivial rfl rfl (fun ρ w E => ex_call E en_palaver_palaverref18_May rfl rfl) (fun w H => (rmay_any ⟨mk, mn, mr, mb, ms, mo, mv, vl, il, ⟨ca, cb, ck, cs, ct, cu, cz⟩, mc, mt⟩ A B ka kb w hf hsm (hr.below (H.toBelow ⟨hVI45.1.fresh, hVI45.2.fresh, (fun g hg => by rw [List.mem_singleton.1 hg]; exact hg4), hVI5.1.fresh, hVI5.2.fresh, (fun g hg => by rw [List.mem_singleton.1 hg]; exact hg2), (fun g hg => by rw [List.mem_singleton.1 hg]; exact hg1), trivial⟩))).mono fun _ _ h => ⟨by rw [h.1, hck], h.2⟩) ?_
        refine SxL.val (v := .bool false) trivial rfl rfl (fun ρ w E H => ex_not (t := true) E rfl rfl) ?_
        refine SxL.nil (SxN.then_ (SxC.condF rfl (SxC.skip (SxN.then_ (SxC.seq (SxC.region ?_))))))
        refine SxL.val trivial rfl rfl (fun ρ w E H => ex_move E rfl rfl) ?_
        refine SxL.val (v := .bool true) trivial rfl rfl (fun ρ w E H => ex_cmp E rfl rfl rfl rfl (by decide)) ?_
        refine SxL.val trivial rfl rfl (fun ρ w E H => ex_move E rfl rfl) ?_
        refine SxL.val ⟨_, _, rfl, rfl, rfl⟩ rfl rfl (fun ρ w E H => ex_move E rfl rfl) ?_
        refine SxL.val ⟨_, _, rfl, rfl, rfl⟩ rfl rfl (fun ρ w E H => ex_load (part := [.int .u8 (mk : Int), .int .u64 (mn : Int), .int .u8 (mr : Int), .int .u64 (mb : Int), .int .u64 (ms : Int), .int .u8 (mo : Int), .string ⟨mv.toArray⟩, .slice A vl.length ka, .slice B il.length kb, .int .u8 (ca : Int), .int .u32 (cb : Int), .int .u8 (ck : Int), .string ⟨cs.toArray⟩, .string ⟨ct.toArray⟩, .string ⟨cu.toArray⟩, .int .u8 (cz : Int), .int .u8 (mc : Int), .string ⟨mt.toArray⟩]) E (H.get (i := 6) rfl) rfl rfl Tryz.underlying33 rfl sz_palaver_api_Msg rfl rfl) ?_
        refine SxL.callB (v := .string ⟨((insideB ⟨mk, mn, mr, mb, ms, mo, mv, vl, il, ⟨ca, cb, ck, cs, ct, cu, cz⟩, mc, mt⟩)).toArray⟩) ⟨_, _, rfl, rfl, rfl⟩ rfl rfl (fun ρ w E => ex_call E en_palaver_palaverref18_Inside rfl rfl) (fun w H => rinside_any ⟨mk, mn, mr, mb, ms, mo, mv, vl, il, ⟨ca, cb, ck, cs, ct, cu, cz⟩, mc, mt⟩ A B ka kb w hf hsm (hr.below (H.toBelow ⟨hVI45.1.fresh, hVI45.2.fresh, (fun g hg => by rw [List.mem_singleton.1 hg]; exact hg4), hVI5.1.fresh, hVI5.2.fresh, (fun g hg => by rw [List.mem_singleton.1 hg]; exact hg2), (fun g hg => by rw [List.mem_singleton.1 hg]; exact hg1), trivial⟩))) ?_
        refine SxL.callB (v := .string ⟨((Frame.frameB (insideB ⟨mk, mn, mr, mb, ms, mo, mv, vl, il, ⟨ca, cb, ck, cs, ct, cu, cz⟩, mc, mt⟩))).toArray⟩) ⟨_, _, rfl, rfl, rfl⟩ rfl rfl (fun ρ w E => ex_call E en_palaver_palaverref03_Frame rfl rfl) (fun w H => Frame.refFrame_any (insideB ⟨mk, mn, mr, mb, ms, mo, mv, vl, il, ⟨ca, cb, ck, cs, ct, cu, cz⟩, mc, mt⟩) (Nat.le_trans hins (by decide)) w) ?_
        refine SxL.val (v := .bool true) ⟨_, _, rfl, rfl, rfl⟩ rfl rfl (fun ρ w E H => ex_seql E rfl rfl rfl (by simp)) ?_
        refine SxL.val trivial rfl rfl (fun ρ w E H => ex_pick E rfl (t := true) rfl rfl) ?_
        refine SxL.val trivial rfl rfl (fun ρ w E H => ex_move E rfl rfl) ?_
        refine SxL.callB (v := .bool true) ⟨_, _, rfl, rfl, rfl⟩ rfl rfl (fun ρ w E => ex_call E en_palaver_palaverlaw18_wakes rfl rfl) (fun w H => wakes_any w) ?_
        refine SxL.val trivial rfl rfl (fun ρ w E H => ex_pick E rfl (t := true) rfl rfl) ?_
        refine SxL.val trivial rfl rfl (fun ρ w E H => ex_assign E rfl rfl) ?_
        refine SxL.nil (SxN.then_ (SxC.ret ?_))
        refine SxX.done (.bool true) (fun a w K H => res1 K rfl rfl) (fun w H => ?_)
        exact ⟨rfl, H.toBelow ⟨hVI45.1.fresh, hVI45.2.fresh, (fun g hg => by rw [List.mem_singleton.1 hg]; exact hg4), hVI5.1.fresh, hVI5.2.fresh, (fun g hg => by rw [List.mem_singleton.1 hg]; exact hg2), (fun g hg => by rw [List.mem_singleton.1 hg]; exact hg1), trivial⟩⟩
    · refine SxC.condT rfl (SxC.seq (SxC.region ?_))
      refine SxL.callB (v := .bool true) trivial rfl rfl (fun ρ w E => ex_call E en_palaver_palaverlaw18_wakes rfl rfl) (fun w H => wakes_any w) ?_
      refine SxL.val trivial rfl rfl (fun ρ w E H => ex_assign E rfl rfl) ?_
      refine SxL.nil (SxN.then_ (SxC.ret (SxX.thenR ?_)))
      refine SxX.done (.bool true) (fun a w K H => res1 K rfl rfl) (fun w H => ?_)
      exact ⟨rfl, H.toBelow ⟨(fun g hg => by rw [List.mem_singleton.1 hg]; exact hg2), (fun g hg => by rw [List.mem_singleton.1 hg]; exact hg1), trivial⟩⟩
  · refine SxL.off ⟨_, _, _, rfl, rfl, rfl, nofun⟩ rfl rfl ?_
    refine SxL.off ⟨_, _, _, rfl, rfl, rfl, nofun⟩ rfl rfl ?_
    refine SxL.val trivial rfl rfl (fun ρ w E H => ex_pick E rfl (t := true) rfl rfl) ?_
    refine SxL.nil (SxN.then_ (SxC.condT rfl (SxC.seq (SxC.region ?_))))
    refine SxL.callB (v := .bool true) trivial rfl rfl (fun ρ w E => ex_call E en_palaver_palaverlaw18_wakes rfl rfl) (fun w H => wakes_any w) ?_
    refine SxL.val trivial rfl rfl (fun ρ w E H => ex_assign E rfl rfl) ?_
    refine SxL.nil (SxN.then_ (SxC.ret (SxX.thenR ?_)))
    refine SxX.done (.bool true) (fun a w K H => res1 K rfl rfl) (fun w H => ?_)
    exact ⟨rfl, H.toBelow ⟨(fun g hg => by rw [List.mem_singleton.1 hg]; exact hg2), (fun g hg => by rw [List.mem_singleton.1 hg]; exact hg1), trivial⟩⟩

theorem puts_any (m x : Ms) (A B C D : Option Addr) (ka kb kc kd : Nat) (w : World) (hf : m.Fits) (hr : MsRows w m A B) (hn1 : m.votes.length ≤ 9223372036854775807) (hn2 : m.items.length ≤ 9223372036854775807) (hf2 : x.Fits) (hr2 : MsRows w x C D) (hn3 : x.votes.length ≤ 9223372036854775807) (hn4 : x.items.length ≤ 9223372036854775807) : Calls Tryz.prog 3 #[msV m A ka B kb, msV x C kc D kd] w fun e w' => e = .returned (.bool true) ∧ Below w.heap.size w w' := by
  obtain ⟨mk, mn, mr, mb, ms, mo, mv, vl, il, ⟨ca, cb, ck, cs, ct, cu, cz⟩, mc, mt⟩ := m
  obtain ⟨xk, xn, xr, xb, xs, xo, xv, wl, jl, ⟨da, db, dk, ds, dt, du, dz⟩, xc, xt⟩ := x
  exact puts_lit _ _ _ _ _ _ _ _ _ _ _ _ _ _ _ _ _ _ _ _ _ _ _ _ _ _ _ _ _ _ _ _ _ _ _ _ _ _ _ _ _ _ _ _ w hf hr hn1 hn2 hf2 hr2 hn3 hn4
end Go.Proofs.YteiaiilfekojfaaGreat.Msg
end
section
set_option linter.unusedVariables false
namespace Go.Proofs.YteiaiilfekojfaaGreat.Msg
open Go.Joins Go.RowKit Go.WideShapes Go.ChangeShapes Go.Deep

structure Vx where
  slot : Nat
  n : Nat
  r : Nat
  value : List UInt8
def Vx.Fits (x : Vx) : Prop := x.slot < 18446744073709551616 ∧ x.n < 18446744073709551616 ∧ x.r < 256 ∧ x.value.length ≤ 9223372036854775807
def vxC (x : Vx) : List Value := [.int .u64 (x.slot : Int), .int .u64 (x.n : Int), .int .u8 (x.r : Int), .string ⟨x.value.toArray⟩]
set_option linter.unusedSimpArgs false in
set_option maxRecDepth 100000 in
theorem dec_vx {w : World} : ∀ n es, es.length = 4 → Leafy Tryz.prog w n 92 es → ∃ x, Vx.Fits x ∧ es = vxC x := by
  intro n es hlen h
  match es, hlen with
  | [c0, c1, c2, c3], _ =>
    have e0 : Tryz.prog.cellsOf 24 = 2 := by kernel_rfl
    have e1 : Tryz.prog.cellsOf 9 = 1 := by kernel_rfl
    have e2 : Tryz.prog.cellsOf 22 = 1 := by kernel_rfl
    have e3 : Tryz.prog.cellsOf 5 = 1 := by kernel_rfl
    obtain ⟨m1, _, hf1⟩ := leafy_struct Tryz.underlying92 h
    have g1_0 : Leafy Tryz.prog w m1 22 ((([c0, c1, c2, c3] : List Value).drop 0).take (Tryz.prog.cellsOf 22)) := hf1 0 _ rfl
    rw [e2] at g1_0
    simp only [List.drop_zero, List.drop_succ_cons, List.take_succ_cons, List.take_zero] at g1_0
    have g1_1 : Leafy Tryz.prog w m1 24 ((([c0, c1, c2, c3] : List Value).drop 1).take (Tryz.prog.cellsOf 24)) := hf1 1 _ rfl
    rw [e0] at g1_1
    simp only [List.drop_zero, List.drop_succ_cons, List.take_succ_cons, List.take_zero] at g1_1
    have g1_2 : Leafy Tryz.prog w m1 9 ((([c0, c1, c2, c3] : List Value).drop 3).take (Tryz.prog.cellsOf 9)) := hf1 2 _ rfl
    rw [e1] at g1_2
    simp only [List.drop_zero, List.drop_succ_cons, List.take_succ_cons, List.take_zero] at g1_2
    obtain ⟨z0, q0, w0⟩ := leafy_int Tryz.underlying22 g1_0
    obtain rfl : c0 = _ := List.head_eq_of_cons_eq q0
    have b0 := bounds_u64 w0
    obtain ⟨x0, rfl⟩ := Int.eq_ofNat_of_zero_le b0.1
    obtain ⟨m2, _, hf2⟩ := leafy_struct Tryz.underlying24 g1_1
    have g2_0 : Leafy Tryz.prog w m2 22 ((([c1, c2] : List Value).drop 0).take (Tryz.prog.cellsOf 22)) := hf2 0 _ rfl
    rw [e2] at g2_0
    simp only [List.drop_zero, List.drop_succ_cons, List.take_succ_cons, List.take_zero] at g2_0
    have g2_1 : Leafy Tryz.prog w m2 5 ((([c1, c2] : List Value).drop 1).take (Tryz.prog.cellsOf 5)) := hf2 1 _ rfl
    rw [e3] at g2_1
    simp only [List.drop_zero, List.drop_succ_cons, List.take_succ_cons, List.take_zero] at g2_1
    obtain ⟨z1, q1, w1⟩ := leafy_int Tryz.underlying22 g2_0
    obtain rfl : c1 = _ := List.head_eq_of_cons_eq q1
    have b1 := bounds_u64 w1
    obtain ⟨x1, rfl⟩ := Int.eq_ofNat_of_zero_le b1.1
    obtain ⟨z2, q2, w2⟩ := leafy_int Tryz.underlying5 g2_1
    obtain rfl : c2 = _ := List.head_eq_of_cons_eq q2
    have b2 := bounds_u8 w2
    obtain ⟨x2, rfl⟩ := Int.eq_ofNat_of_zero_le b2.1
    obtain ⟨x3, q3, b3⟩ := leafy_string Tryz.underlying9 g1_2
    obtain rfl : c3 = _ := List.head_eq_of_cons_eq q3
    exact ⟨⟨x0, x1, x2, x3⟩, by simp only [Vx.Fits]; omega, rfl⟩

set_option maxRecDepth 100000 in
theorem dec_vo {w : World} : ∀ n es, es.length = 4 → Leafy Tryz.prog w n 92 es → ∃ x : Vo, x.Fits ∧ es = voL x := by
  intro n es hl h
  obtain ⟨x, hx, he⟩ := dec_vx n es hl h
  simp only [Vx.Fits] at hx
  exact ⟨⟨x.slot, x.n, x.r, x.value⟩, ⟨hx.1, hx.2.1, hx.2.2.1⟩, he⟩
structure Ix where
  slot : Nat
  value : List UInt8
def Ix.Fits (x : Ix) : Prop := x.slot < 18446744073709551616 ∧ x.value.length ≤ 9223372036854775807
def ixC (x : Ix) : List Value := [.int .u64 (x.slot : Int), .string ⟨x.value.toArray⟩]
set_option linter.unusedSimpArgs false in
set_option maxRecDepth 100000 in
theorem dec_ix {w : World} : ∀ n es, es.length = 2 → Leafy Tryz.prog w n 94 es → ∃ x, Ix.Fits x ∧ es = ixC x := by
  intro n es hlen h
  match es, hlen with
  | [c0, c1], _ =>
    have e0 : Tryz.prog.cellsOf 9 = 1 := by kernel_rfl
    have e1 : Tryz.prog.cellsOf 22 = 1 := by kernel_rfl
    obtain ⟨m1, _, hf1⟩ := leafy_struct Tryz.underlying94 h
    have g1_0 : Leafy Tryz.prog w m1 22 ((([c0, c1] : List Value).drop 0).take (Tryz.prog.cellsOf 22)) := hf1 0 _ rfl
    rw [e1] at g1_0
    simp only [List.drop_zero, List.drop_succ_cons, List.take_succ_cons, List.take_zero] at g1_0
    have g1_1 : Leafy Tryz.prog w m1 9 ((([c0, c1] : List Value).drop 1).take (Tryz.prog.cellsOf 9)) := hf1 1 _ rfl
    rw [e0] at g1_1
    simp only [List.drop_zero, List.drop_succ_cons, List.take_succ_cons, List.take_zero] at g1_1
    obtain ⟨z0, q0, w0⟩ := leafy_int Tryz.underlying22 g1_0
    obtain rfl : c0 = _ := List.head_eq_of_cons_eq q0
    have b0 := bounds_u64 w0
    obtain ⟨x0, rfl⟩ := Int.eq_ofNat_of_zero_le b0.1
    obtain ⟨x1, q1, b1⟩ := leafy_string Tryz.underlying9 g1_1
    obtain rfl : c1 = _ := List.head_eq_of_cons_eq q1
    exact ⟨⟨x0, x1⟩, by simp only [Ix.Fits]; omega, rfl⟩

theorem dec_im {w : World} : ∀ n es, es.length = 2 → Leafy Tryz.prog w n 94 es → ∃ x : Im, x.slot < 18446744073709551616 ∧ es = imL x := by
  intro n es hl h
  obtain ⟨x, hx, he⟩ := dec_ix n es hl h
  simp only [Ix.Fits] at hx
  exact ⟨⟨x.slot, x.value⟩, hx.1, he⟩
set_option maxRecDepth 100000 in
theorem leafy_vos {w : World} {n : Nat} {cs : List Value} (h : Leafy Tryz.prog w n 25 cs) : ∃ (A : Option Addr) (c : Nat) (V : List Vo), cs = [.slice A V.length c] ∧ Rows w A 4 voL V ∧ (∀ x ∈ V, x.Fits) ∧ V.length ≤ 9223372036854775807 := by
  cases n with
  | zero => exact h.elim
  | succ n =>
    unfold Leafy at h
    rw [Tryz.underlying25] at h
    have e4 : Tryz.prog.cellsOf 92 = 4 := by kernel_rfl
    rcases h with h0 | ⟨a, len, cap, h0, hl, hc, hi⟩
    · exact ⟨none, 0, [], h0, Rows.nil _ _ _ _, by simp, by simp⟩
    · obtain ⟨l, h1, h2, h3⟩ := rows_of (w := w) (sz := 4) (cells := voL) (a := a) (m := len) (Q := fun x => x.Fits) (fun i hil => by
        obtain ⟨es, e1, e2, e3⟩ := hi i hil
        obtain ⟨x, hx, he⟩ := dec_vo n es (by rw [e1, e4]) e2
        exact ⟨x, hx, es, he, by rw [e4] at e3; exact e3⟩) (fun x => by rw [voL_len]; omega)
      exact ⟨some a, cap, l, by rw [h1]; exact h0, h3, h2, by omega⟩
set_option maxRecDepth 100000 in
theorem leafy_ims {w : World} {n : Nat} {cs : List Value} (h : Leafy Tryz.prog w n 26 cs) : ∃ (A : Option Addr) (c : Nat) (V : List Im), cs = [.slice A V.length c] ∧ Rows w A 2 imL V ∧ (∀ x ∈ V, x.slot < 18446744073709551616) ∧ V.length ≤ 9223372036854775807 := by
  cases n with
  | zero => exact h.elim
  | succ n =>
    unfold Leafy at h
    rw [Tryz.underlying26] at h
    have e4 : Tryz.prog.cellsOf 94 = 2 := by kernel_rfl
    rcases h with h0 | ⟨a, len, cap, h0, hl, hc, hi⟩
    · exact ⟨none, 0, [], h0, Rows.nil _ _ _ _, by simp, by simp⟩
    · obtain ⟨l, h1, h2, h3⟩ := rows_of (w := w) (sz := 2) (cells := imL) (a := a) (m := len) (Q := fun x => x.slot < 18446744073709551616) (fun i hil => by
        obtain ⟨es, e1, e2, e3⟩ := hi i hil
        obtain ⟨x, hx, he⟩ := dec_im n es (by rw [e1, e4]) e2
        exact ⟨x, hx, es, he, by rw [e4] at e3; exact e3⟩) (fun x => by rw [imL_len]; omega)
      exact ⟨some a, cap, l, by rw [h1]; exact h0, h3, h2, by omega⟩
set_option linter.unusedSimpArgs false in
set_option maxRecDepth 100000 in
theorem dec_msg {w : World} : ∀ n es, es.length = 18 → Leafy Tryz.prog w n 33 es → ∃ (m : Ms) (A : Option Addr) (ka : Nat) (B : Option Addr) (kb : Nat), m.Fits ∧ MsRows w m A B ∧ (m.votes.length ≤ 9223372036854775807 ∧ m.items.length ≤ 9223372036854775807) ∧ es = msL m (.slice A m.votes.length ka) (.slice B m.items.length kb) := by
  intro n es hlen h
  match es, hlen with
  | [c0, c1, c2, c3, c4, c5, c6, c7, c8, c9, c10, c11, c12, c13, c14, c15, c16, c17], _ =>
    have e0 : Tryz.prog.cellsOf 26 = 1 := by kernel_rfl
    have e1 : Tryz.prog.cellsOf 25 = 1 := by kernel_rfl
    have e2 : Tryz.prog.cellsOf 24 = 2 := by kernel_rfl
    have e3 : Tryz.prog.cellsOf 29 = 7 := by kernel_rfl
    have e4 : Tryz.prog.cellsOf 31 = 2 := by kernel_rfl
    have e5 : Tryz.prog.cellsOf 9 = 1 := by kernel_rfl
    have e6 : Tryz.prog.cellsOf 27 = 1 := by kernel_rfl
    have e7 : Tryz.prog.cellsOf 22 = 1 := by kernel_rfl
    have e8 : Tryz.prog.cellsOf 5 = 1 := by kernel_rfl
    obtain ⟨m1, _, hf1⟩ := leafy_struct Tryz.underlying33 h
    have g1_0 : Leafy Tryz.prog w m1 5 ((([c0, c1, c2, c3, c4, c5, c6, c7, c8, c9, c10, c11, c12, c13, c14, c15, c16, c17] : List Value).drop 0).take (Tryz.prog.cellsOf 5)) := hf1 0 _ rfl
    rw [e8] at g1_0
    simp only [List.drop_zero, List.drop_succ_cons, List.take_succ_cons, List.take_zero] at g1_0
    have g1_1 : Leafy Tryz.prog w m1 24 ((([c0, c1, c2, c3, c4, c5, c6, c7, c8, c9, c10, c11, c12, c13, c14, c15, c16, c17] : List Value).drop 1).take (Tryz.prog.cellsOf 24)) := hf1 1 _ rfl
    rw [e2] at g1_1
    simp only [List.drop_zero, List.drop_succ_cons, List.take_succ_cons, List.take_zero] at g1_1
    have g1_2 : Leafy Tryz.prog w m1 22 ((([c0, c1, c2, c3, c4, c5, c6, c7, c8, c9, c10, c11, c12, c13, c14, c15, c16, c17] : List Value).drop 3).take (Tryz.prog.cellsOf 22)) := hf1 2 _ rfl
    rw [e7] at g1_2
    simp only [List.drop_zero, List.drop_succ_cons, List.take_succ_cons, List.take_zero] at g1_2
    have g1_3 : Leafy Tryz.prog w m1 22 ((([c0, c1, c2, c3, c4, c5, c6, c7, c8, c9, c10, c11, c12, c13, c14, c15, c16, c17] : List Value).drop 4).take (Tryz.prog.cellsOf 22)) := hf1 3 _ rfl
    rw [e7] at g1_3
    simp only [List.drop_zero, List.drop_succ_cons, List.take_succ_cons, List.take_zero] at g1_3
    have g1_4 : Leafy Tryz.prog w m1 5 ((([c0, c1, c2, c3, c4, c5, c6, c7, c8, c9, c10, c11, c12, c13, c14, c15, c16, c17] : List Value).drop 5).take (Tryz.prog.cellsOf 5)) := hf1 4 _ rfl
    rw [e8] at g1_4
    simp only [List.drop_zero, List.drop_succ_cons, List.take_succ_cons, List.take_zero] at g1_4
    have g1_5 : Leafy Tryz.prog w m1 9 ((([c0, c1, c2, c3, c4, c5, c6, c7, c8, c9, c10, c11, c12, c13, c14, c15, c16, c17] : List Value).drop 6).take (Tryz.prog.cellsOf 9)) := hf1 5 _ rfl
    rw [e5] at g1_5
    simp only [List.drop_zero, List.drop_succ_cons, List.take_succ_cons, List.take_zero] at g1_5
    have g1_6 : Leafy Tryz.prog w m1 25 ((([c0, c1, c2, c3, c4, c5, c6, c7, c8, c9, c10, c11, c12, c13, c14, c15, c16, c17] : List Value).drop 7).take (Tryz.prog.cellsOf 25)) := hf1 6 _ rfl
    rw [e1] at g1_6
    simp only [List.drop_zero, List.drop_succ_cons, List.take_succ_cons, List.take_zero] at g1_6
    have g1_7 : Leafy Tryz.prog w m1 26 ((([c0, c1, c2, c3, c4, c5, c6, c7, c8, c9, c10, c11, c12, c13, c14, c15, c16, c17] : List Value).drop 8).take (Tryz.prog.cellsOf 26)) := hf1 7 _ rfl
    rw [e0] at g1_7
    simp only [List.drop_zero, List.drop_succ_cons, List.take_succ_cons, List.take_zero] at g1_7
    have g1_8 : Leafy Tryz.prog w m1 29 ((([c0, c1, c2, c3, c4, c5, c6, c7, c8, c9, c10, c11, c12, c13, c14, c15, c16, c17] : List Value).drop 9).take (Tryz.prog.cellsOf 29)) := hf1 8 _ rfl
    rw [e3] at g1_8
    simp only [List.drop_zero, List.drop_succ_cons, List.take_succ_cons, List.take_zero] at g1_8
    have g1_9 : Leafy Tryz.prog w m1 31 ((([c0, c1, c2, c3, c4, c5, c6, c7, c8, c9, c10, c11, c12, c13, c14, c15, c16, c17] : List Value).drop 16).take (Tryz.prog.cellsOf 31)) := hf1 9 _ rfl
    rw [e4] at g1_9
    simp only [List.drop_zero, List.drop_succ_cons, List.take_succ_cons, List.take_zero] at g1_9
    obtain ⟨z0, q0, w0⟩ := leafy_int Tryz.underlying5 g1_0
    obtain rfl : c0 = _ := List.head_eq_of_cons_eq q0
    have b0 := bounds_u8 w0
    obtain ⟨x0, rfl⟩ := Int.eq_ofNat_of_zero_le b0.1
    obtain ⟨m2, _, hf2⟩ := leafy_struct Tryz.underlying24 g1_1
    have g2_0 : Leafy Tryz.prog w m2 22 ((([c1, c2] : List Value).drop 0).take (Tryz.prog.cellsOf 22)) := hf2 0 _ rfl
    rw [e7] at g2_0
    simp only [List.drop_zero, List.drop_succ_cons, List.take_succ_cons, List.take_zero] at g2_0
    have g2_1 : Leafy Tryz.prog w m2 5 ((([c1, c2] : List Value).drop 1).take (Tryz.prog.cellsOf 5)) := hf2 1 _ rfl
    rw [e8] at g2_1
    simp only [List.drop_zero, List.drop_succ_cons, List.take_succ_cons, List.take_zero] at g2_1
    obtain ⟨z1, q1, w1⟩ := leafy_int Tryz.underlying22 g2_0
    obtain rfl : c1 = _ := List.head_eq_of_cons_eq q1
    have b1 := bounds_u64 w1
    obtain ⟨x1, rfl⟩ := Int.eq_ofNat_of_zero_le b1.1
    obtain ⟨z2, q2, w2⟩ := leafy_int Tryz.underlying5 g2_1
    obtain rfl : c2 = _ := List.head_eq_of_cons_eq q2
    have b2 := bounds_u8 w2
    obtain ⟨x2, rfl⟩ := Int.eq_ofNat_of_zero_le b2.1
    obtain ⟨z3, q3, w3⟩ := leafy_int Tryz.underlying22 g1_2
    obtain rfl : c3 = _ := List.head_eq_of_cons_eq q3
    have b3 := bounds_u64 w3
    obtain ⟨x3, rfl⟩ := Int.eq_ofNat_of_zero_le b3.1
    obtain ⟨z4, q4, w4⟩ := leafy_int Tryz.underlying22 g1_3
    obtain rfl : c4 = _ := List.head_eq_of_cons_eq q4
    have b4 := bounds_u64 w4
    obtain ⟨x4, rfl⟩ := Int.eq_ofNat_of_zero_le b4.1
    obtain ⟨z5, q5, w5⟩ := leafy_int Tryz.underlying5 g1_4
    obtain rfl : c5 = _ := List.head_eq_of_cons_eq q5
    have b5 := bounds_u8 w5
    obtain ⟨x5, rfl⟩ := Int.eq_ofNat_of_zero_le b5.1
    obtain ⟨x6, q6, b6⟩ := leafy_string Tryz.underlying9 g1_5
    obtain rfl : c6 = _ := List.head_eq_of_cons_eq q6
    obtain ⟨A7, k7, V7, q7, r7, f7, n7⟩ := leafy_vos g1_6
    obtain rfl : c7 = _ := List.head_eq_of_cons_eq q7
    obtain ⟨A8, k8, V8, q8, r8, f8, n8⟩ := leafy_ims g1_7
    obtain rfl : c8 = _ := List.head_eq_of_cons_eq q8
    obtain ⟨m3, _, hf3⟩ := leafy_struct Tryz.underlying29 g1_8
    have g3_0 : Leafy Tryz.prog w m3 5 ((([c9, c10, c11, c12, c13, c14, c15] : List Value).drop 0).take (Tryz.prog.cellsOf 5)) := hf3 0 _ rfl
    rw [e8] at g3_0
    simp only [List.drop_zero, List.drop_succ_cons, List.take_succ_cons, List.take_zero] at g3_0
    have g3_1 : Leafy Tryz.prog w m3 27 ((([c9, c10, c11, c12, c13, c14, c15] : List Value).drop 1).take (Tryz.prog.cellsOf 27)) := hf3 1 _ rfl
    rw [e6] at g3_1
    simp only [List.drop_zero, List.drop_succ_cons, List.take_succ_cons, List.take_zero] at g3_1
    have g3_2 : Leafy Tryz.prog w m3 5 ((([c9, c10, c11, c12, c13, c14, c15] : List Value).drop 2).take (Tryz.prog.cellsOf 5)) := hf3 2 _ rfl
    rw [e8] at g3_2
    simp only [List.drop_zero, List.drop_succ_cons, List.take_succ_cons, List.take_zero] at g3_2
    have g3_3 : Leafy Tryz.prog w m3 9 ((([c9, c10, c11, c12, c13, c14, c15] : List Value).drop 3).take (Tryz.prog.cellsOf 9)) := hf3 3 _ rfl
    rw [e5] at g3_3
    simp only [List.drop_zero, List.drop_succ_cons, List.take_succ_cons, List.take_zero] at g3_3
    have g3_4 : Leafy Tryz.prog w m3 9 ((([c9, c10, c11, c12, c13, c14, c15] : List Value).drop 4).take (Tryz.prog.cellsOf 9)) := hf3 4 _ rfl
    rw [e5] at g3_4
    simp only [List.drop_zero, List.drop_succ_cons, List.take_succ_cons, List.take_zero] at g3_4
    have g3_5 : Leafy Tryz.prog w m3 9 ((([c9, c10, c11, c12, c13, c14, c15] : List Value).drop 5).take (Tryz.prog.cellsOf 9)) := hf3 5 _ rfl
    rw [e5] at g3_5
    simp only [List.drop_zero, List.drop_succ_cons, List.take_succ_cons, List.take_zero] at g3_5
    have g3_6 : Leafy Tryz.prog w m3 5 ((([c9, c10, c11, c12, c13, c14, c15] : List Value).drop 6).take (Tryz.prog.cellsOf 5)) := hf3 6 _ rfl
    rw [e8] at g3_6
    simp only [List.drop_zero, List.drop_succ_cons, List.take_succ_cons, List.take_zero] at g3_6
    obtain ⟨z9, q9, w9⟩ := leafy_int Tryz.underlying5 g3_0
    obtain rfl : c9 = _ := List.head_eq_of_cons_eq q9
    have b9 := bounds_u8 w9
    obtain ⟨x9, rfl⟩ := Int.eq_ofNat_of_zero_le b9.1
    obtain ⟨z10, q10, w10⟩ := leafy_int Tryz.underlying27 g3_1
    obtain rfl : c10 = _ := List.head_eq_of_cons_eq q10
    have b10 := bounds_u32 w10
    obtain ⟨x10, rfl⟩ := Int.eq_ofNat_of_zero_le b10.1
    obtain ⟨z11, q11, w11⟩ := leafy_int Tryz.underlying5 g3_2
    obtain rfl : c11 = _ := List.head_eq_of_cons_eq q11
    have b11 := bounds_u8 w11
    obtain ⟨x11, rfl⟩ := Int.eq_ofNat_of_zero_le b11.1
    obtain ⟨x12, q12, b12⟩ := leafy_string Tryz.underlying9 g3_3
    obtain rfl : c12 = _ := List.head_eq_of_cons_eq q12
    obtain ⟨x13, q13, b13⟩ := leafy_string Tryz.underlying9 g3_4
    obtain rfl : c13 = _ := List.head_eq_of_cons_eq q13
    obtain ⟨x14, q14, b14⟩ := leafy_string Tryz.underlying9 g3_5
    obtain rfl : c14 = _ := List.head_eq_of_cons_eq q14
    obtain ⟨z15, q15, w15⟩ := leafy_int Tryz.underlying5 g3_6
    obtain rfl : c15 = _ := List.head_eq_of_cons_eq q15
    have b15 := bounds_u8 w15
    obtain ⟨x15, rfl⟩ := Int.eq_ofNat_of_zero_le b15.1
    obtain ⟨m4, _, hf4⟩ := leafy_struct Tryz.underlying31 g1_9
    have g4_0 : Leafy Tryz.prog w m4 5 ((([c16, c17] : List Value).drop 0).take (Tryz.prog.cellsOf 5)) := hf4 0 _ rfl
    rw [e8] at g4_0
    simp only [List.drop_zero, List.drop_succ_cons, List.take_succ_cons, List.take_zero] at g4_0
    have g4_1 : Leafy Tryz.prog w m4 9 ((([c16, c17] : List Value).drop 1).take (Tryz.prog.cellsOf 9)) := hf4 1 _ rfl
    rw [e5] at g4_1
    simp only [List.drop_zero, List.drop_succ_cons, List.take_succ_cons, List.take_zero] at g4_1
    obtain ⟨z16, q16, w16⟩ := leafy_int Tryz.underlying5 g4_0
    obtain rfl : c16 = _ := List.head_eq_of_cons_eq q16
    have b16 := bounds_u8 w16
    obtain ⟨x16, rfl⟩ := Int.eq_ofNat_of_zero_le b16.1
    obtain ⟨x17, q17, b17⟩ := leafy_string Tryz.underlying9 g4_1
    obtain rfl : c17 = _ := List.head_eq_of_cons_eq q17
    exact ⟨⟨x0, x1, x2, x3, x4, x5, x6, V7, V8, ⟨x9, x10, x11, x12, x13, x14, x15⟩, x16, x17⟩, A7, k7, A8, k8, ⟨(show x0 < 256 by omega), (show x1 < 18446744073709551616 by omega), (show x2 < 256 by omega), (show x3 < 18446744073709551616 by omega), (show x4 < 18446744073709551616 by omega), (show x5 < 256 by omega), f7, f8, ⟨(show x9 < 256 by omega), (show x10 < 4294967296 by omega), (show x11 < 256 by omega), b12, b13, b14, (show x15 < 256 by omega)⟩, (show x16 < 256 by omega)⟩, ⟨r7, r8⟩, ⟨n7, n8⟩, rfl⟩

set_option maxRecDepth 100000 in
theorem open_msg {H : Type} {enc : TypeId × Value → H} {w : World} {v : Value} {d : DataW H} {p : List MemPlace} (h : DataW.Trod enc Tryz.prog w 0 (fun _ => true) true 33 v d p) : ∃ (m : Ms) (A : Option Addr) (ka : Nat) (B : Option Addr) (kb : Nat), v = msV m A ka B kb ∧ m.Fits ∧ MsRows w m A B ∧ m.votes.length ≤ 9223372036854775807 ∧ m.items.length ≤ 9223372036854775807 := by
  obtain ⟨n, hn⟩ := leafy_trod h
  have hlen : v.cells.toList.length = 18 := by
    obtain ⟨m, hl, _⟩ := leafy_struct Tryz.underlying33 hn
    rw [hl]
    kernel_rfl
  obtain ⟨m, A, ka, B, kb, h1, h2, h3, he⟩ := dec_msg n _ hlen hn
  refine ⟨m, A, ka, B, kb, ?_, h1, h2, h3⟩
  cases v with
  | agg cs =>
    have e : cs.toList = _ := he
    exact congrArg Value.agg (Array.ext' e)
  | _ => simp [Value.cells] at hlen
end Go.Proofs.YteiaiilfekojfaaGreat.Msg
end
