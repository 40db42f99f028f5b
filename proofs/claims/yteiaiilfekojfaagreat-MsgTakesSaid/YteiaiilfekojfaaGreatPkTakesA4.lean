/- Texts that the proof of MsgTakes leans on, put together (4 of 4). Conditions: each theorem states its own. -/
import Derived.Test.YteiaiilfekojfaaGreatPkTakesA3
section
set_option linter.unusedVariables false
set_option linter.unusedSimpArgs false
namespace Go.Proofs.YteiaiilfekojfaaGreat.Msg
open Go.RowKit Sx Wire DrawInv
set_option maxRecDepth 100000 in
set_option maxHeartbeats 4000000 in
theorem rmay_lit (mk mn mr mb ms mo ca cb ck cz mc : Nat) (mv cs ct cu mt : List UInt8) (vl : List Vo) (il : List Im) (A B : Option Addr) (ka kb : Nat) (w : World) (hf : Ms.Fits ⟨mk, mn, mr, mb, ms, mo, mv, vl, il, ⟨ca, cb, ck, cs, ct, cu, cz⟩, mc, mt⟩) (hs : Ms.Small ⟨mk, mn, mr, mb, ms, mo, mv, vl, il, ⟨ca, cb, ck, cs, ct, cu, cz⟩, mc, mt⟩) (hr : MsRows w ⟨mk, mn, mr, mb, ms, mo, mv, vl, il, ⟨ca, cb, ck, cs, ct, cu, cz⟩, mc, mt⟩ A B) : Calls Tryz.prog 16 #[.agg #[.int .u8 (mk : Int), .int .u64 (mn : Int), .int .u8 (mr : Int), .int .u64 (mb : Int), .int .u64 (ms : Int), .int .u8 (mo : Int), .string ⟨mv.toArray⟩, .slice A vl.length ka, .slice B il.length kb, .int .u8 (ca : Int), .int .u32 (cb : Int), .int .u8 (ck : Int), .string ⟨cs.toArray⟩, .string ⟨ct.toArray⟩, .string ⟨cu.toArray⟩, .int .u8 (cz : Int), .int .u8 (mc : Int), .string ⟨mt.toArray⟩]] w fun e w' => e = .returned (.bool (checkB ⟨mk, mn, mr, mb, ms, mo, mv, vl, il, ⟨ca, cb, ck, cs, ct, cu, cz⟩, mc, mt⟩)) ∧ Below w.heap.size w w' := by
  obtain ⟨h99, hh99⟩ : ∃ b, hasS (chars mk) 99 = b := ⟨_, rfl⟩
  obtain ⟨h110, hh110⟩ : ∃ b, hasS (chars mk) 110 = b := ⟨_, rfl⟩
  obtain ⟨h114, hh114⟩ : ∃ b, hasS (chars mk) 114 = b := ⟨_, rfl⟩
  obtain ⟨h111, hh111⟩ : ∃ b, hasS (chars mk) 111 = b := ⟨_, rfl⟩
  obtain ⟨h98, hh98⟩ : ∃ b, hasS (chars mk) 98 = b := ⟨_, rfl⟩
  obtain ⟨h97, hh97⟩ : ∃ b, hasS (chars mk) 97 = b := ⟨_, rfl⟩
  obtain ⟨h117, hh117⟩ : ∃ b, hasS (chars mk) 117 = b := ⟨_, rfl⟩
  obtain ⟨h115, hh115⟩ : ∃ b, hasS (chars mk) 115 = b := ⟨_, rfl⟩
  obtain ⟨h118, hh118⟩ : ∃ b, hasS (chars mk) 118 = b := ⟨_, rfl⟩
  obtain ⟨h116, hh116⟩ : ∃ b, hasS (chars mk) 116 = b := ⟨_, rfl⟩
  obtain ⟨h105, hh105⟩ : ∃ b, hasS (chars mk) 105 = b := ⟨_, rfl⟩
  have hn1 := hs.h2
  have hn2 := hs.h3
  dsimp only at hn1 hn2
  refine sx_enter (n := 279) _ Tryz.func16 rfl rfl rfl (Hp.start w) ?_
  refine SxC.seq (SxC.region ?_)
  refine SxL.new (cs := [.int .u8 (mk : Int), .int .u64 (mn : Int), .int .u8 (mr : Int), .int .u64 (mb : Int), .int .u64 (ms : Int), .int .u8 (mo : Int), .string ⟨mv.toArray⟩, .slice A vl.length ka, .slice B il.length kb, .int .u8 (ca : Int), .int .u32 (cb : Int), .int .u8 (ck : Int), .string ⟨cs.toArray⟩, .string ⟨ct.toArray⟩, .string ⟨cu.toArray⟩, .int .u8 (cz : Int), .int .u8 (mc : Int), .string ⟨mt.toArray⟩]) trivial rfl rfl (fun ρ w E H => ex_box E rfl rfl rfl) fun g1 hg1 => ?_
  refine SxL.val trivial rfl rfl (fun ρ w E H => ex_assign E rfl rfl) ?_
  refine SxL.nil (SxN.then_ (SxC.seq (SxC.seq (SxC.region ?_))))
  refine SxL.val (v := .pointer (some ⟨g1, 0, none⟩)) trivial rfl rfl (fun ρ w E H => ex_field E rfl fa_palaver_api_Msg_0 rfl rfl) ?_
  refine SxL.val trivial rfl rfl (fun ρ w E H => ex_load1 E (H.get (i := 0) rfl) rfl rfl Tryz.underlying5 rfl rfl) ?_
  refine SxL.callB (v := .string ⟨((chars mk)).toArray⟩) trivial rfl rfl (fun ρ w E => ex_call E en_palaver_palaverref18_Parts rfl rfl) (fun w H => rparts_any mk hf.h1 w) ?_
  refine SxL.valB trivial rfl rfl (fun ρ w E H => ex_seql E rfl rfl rfl rfl) fun c11 hc11 => ?_
  refine SxL.nil (SxN.then_ ?_)
  cases c11
  · refine SxC.condF rfl (SxC.skip (SxN.then_ (SxC.seq (SxC.region ?_))))
    refine SxL.val (v := .pointer (some ⟨g1, 9, none⟩)) trivial rfl rfl (fun ρ w E H => ex_field E rfl fa_palaver_api_Msg_8 rfl rfl) ?_
    refine SxL.val trivial rfl rfl (fun ρ w E H => ex_load (part := [.int .u8 (ca : Int), .int .u32 (cb : Int), .int .u8 (ck : Int), .string ⟨cs.toArray⟩, .string ⟨ct.toArray⟩, .string ⟨cu.toArray⟩, .int .u8 (cz : Int)]) E (H.get (i := 0) rfl) rfl rfl Tryz.underlying29 rfl sz_palaver_api_Cmd rfl rfl) ?_
    refine SxL.new (cs := [.int .u8 0, .int .u32 0, .int .u8 0, .string ⟨[].toArray⟩, .string ⟨[].toArray⟩, .string ⟨[].toArray⟩, .int .u8 0]) trivial rfl rfl (fun ρ w E H => ex_alloc rfl zr_palaver_api_Cmd rfl) fun g2 hg2 => ?_
    refine SxL.storeX (i := 0) [.int .u8 (ca : Int), .int .u32 (cb : Int), .int .u8 (ck : Int), .string ⟨cs.toArray⟩, .string ⟨ct.toArray⟩, .string ⟨cu.toArray⟩, .int .u8 (cz : Int)] trivial rfl rfl rfl rfl rfl sz_palaver_api_Cmd rfl rfl rfl (putL_all _ _ rfl) ?_
    refine SxL.nil (SxN.then_ (SxC.seq (SxC.seq ?_)))
    refine SxC.cut1 (fun (b62 : Bool) => [(1, .pointer (some ⟨g1, 0, none⟩)), (3, .pointer (some ⟨g2, 0, none⟩)), (62, .bool b62)]) (fun _ => [cell g2 29 [.int .u8 (ca : Int), .int .u32 (cb : Int), .int .u8 (ck : Int), .string ⟨cs.toArray⟩, .string ⟨ct.toArray⟩, .string ⟨cu.toArray⟩, .int .u8 (cz : Int)], cell g1 33 [.int .u8 (mk : Int), .int .u64 (mn : Int), .int .u8 (mr : Int), .int .u64 (mb : Int), .int .u64 (ms : Int), .int .u8 (mo : Int), .string ⟨mv.toArray⟩, .slice A vl.length ka, .slice B il.length kb, .int .u8 (ca : Int), .int .u32 (cb : Int), .int .u8 (ck : Int), .string ⟨cs.toArray⟩, .string ⟨ct.toArray⟩, .string ⟨cu.toArray⟩, .int .u8 (cz : Int), .int .u8 (mc : Int), .string ⟨mt.toArray⟩]]) (fun b62 => b62 = bad1 (hasS (chars mk) 99) (hasS (chars mk) 110) ⟨ca, cb, ck, cs, ct, cu, cz⟩) ?_ fun b62 hb62 => ?_
    · refine SxC.region ?_
      refine SxL.val (v := .pointer (some ⟨g1, 0, none⟩)) trivial rfl rfl (fun ρ w E H => ex_field E rfl fa_palaver_api_Msg_0 rfl rfl) ?_
      refine SxL.val trivial rfl rfl (fun ρ w E H => ex_load1 E (H.get (i := 1) rfl) rfl rfl Tryz.underlying5 rfl rfl) ?_
      refine SxL.callB (v := .bool h99) trivial rfl rfl (fun ρ w E => ex_call E en_palaver_palaverref18_has rfl rfl) (fun w H => (rhas_any mk 99 hf.h1 w).mono fun _ _ h => ⟨by rw [h.1, hh99], h.2⟩) ?_
      refine SxL.val trivial rfl rfl (fun ρ w E H => ex_move E rfl rfl) ?_
      cases h99
      · refine SxL.off ⟨_, _, _, rfl, rfl, rfl, nofun⟩ rfl rfl ?_
        iterate 2 refine SxL.off ⟨_, _, _, rfl, rfl, rfl, nofun⟩ rfl rfl ?_
        refine SxL.val trivial rfl rfl (fun ρ w E H => ex_pick E rfl (t := false) rfl rfl) ?_
        refine SxL.val trivial rfl rfl (fun ρ w E H => ex_move E rfl rfl) ?_
        refine SxL.val (v := .pointer (some ⟨g1, 0, none⟩)) ⟨_, _, rfl, rfl, rfl⟩ rfl rfl (fun ρ w E H => ex_field E rfl fa_palaver_api_Msg_0 rfl rfl) ?_
        refine SxL.val ⟨_, _, rfl, rfl, rfl⟩ rfl rfl (fun ρ w E H => ex_load1 E (H.get (i := 1) rfl) rfl rfl Tryz.underlying5 rfl rfl) ?_
        refine SxL.callB (v := .bool h110) ⟨_, _, rfl, rfl, rfl⟩ rfl rfl (fun ρ w E => ex_call E en_palaver_palaverref18_has rfl rfl) (fun w H => (rhas_any mk 110 hf.h1 w).mono fun _ _ h => ⟨by rw [h.1, hh110], h.2⟩) ?_
        refine SxL.val ⟨_, _, rfl, rfl, rfl⟩ rfl rfl (fun ρ w E H => ex_move E rfl rfl) ?_
        cases h110
        · refine SxL.off ⟨_, _, _, rfl, rfl, rfl, nofun⟩ rfl rfl ?_
          iterate 16 refine SxL.off ⟨_, _, _, rfl, rfl, rfl, nofun⟩ rfl rfl ?_
          refine SxL.val ⟨_, _, rfl, rfl, rfl⟩ rfl rfl (fun ρ w E H => ex_pick E rfl (t := false) rfl rfl) ?_
          refine SxL.val trivial rfl rfl (fun ρ w E H => ex_pick E rfl (t := false) rfl rfl) ?_
          refine SxL.val trivial rfl rfl (fun ρ w E H => ex_move E rfl rfl) ?_
          refine SxL.val (v := .pointer (some ⟨g1, 0, none⟩)) ⟨_, _, rfl, rfl, rfl⟩ rfl rfl (fun ρ w E H => ex_field E rfl fa_palaver_api_Msg_0 rfl rfl) ?_
          refine SxL.val ⟨_, _, rfl, rfl, rfl⟩ rfl rfl (fun ρ w E H => ex_load1 E (H.get (i := 1) rfl) rfl rfl Tryz.underlying5 rfl rfl) ?_
          refine SxL.callB (v := .bool false) ⟨_, _, rfl, rfl, rfl⟩ rfl rfl (fun ρ w E => ex_call E en_palaver_palaverref18_has rfl rfl) (fun w H => (rhas_any mk 99 hf.h1 w).mono fun _ _ h => ⟨by rw [h.1, hh99], h.2⟩) ?_
          refine SxL.val (v := .bool true) ⟨_, _, rfl, rfl, rfl⟩ rfl rfl (fun ρ w E H => ex_not (t := false) E rfl rfl) ?_
          refine SxL.val ⟨_, _, rfl, rfl, rfl⟩ rfl rfl (fun ρ w E H => ex_move E rfl rfl) ?_
          refine SxL.val (v := .pointer (some ⟨g1, 0, none⟩)) ⟨_, _, rfl, rfl, rfl⟩ rfl rfl (fun ρ w E H => ex_field E rfl fa_palaver_api_Msg_0 rfl rfl) ?_
          refine SxL.val ⟨_, _, rfl, rfl, rfl⟩ rfl rfl (fun ρ w E H => ex_load1 E (H.get (i := 1) rfl) rfl rfl Tryz.underlying5 rfl rfl) ?_
          refine SxL.callB (v := .bool false) ⟨_, _, rfl, rfl, rfl⟩ rfl rfl (fun ρ w E => ex_call E en_palaver_palaverref18_has rfl rfl) (fun w H => (rhas_any mk 110 hf.h1 w).mono fun _ _ h => ⟨by rw [h.1, hh110], h.2⟩) ?_
          refine SxL.val (v := .bool true) ⟨_, _, rfl, rfl, rfl⟩ rfl rfl (fun ρ w E H => ex_not (t := false) E rfl rfl) ?_
          refine SxL.val ⟨_, _, rfl, rfl, rfl⟩ rfl rfl (fun ρ w E H => ex_pick E rfl (t := true) rfl rfl) ?_
          refine SxL.val ⟨_, _, rfl, rfl, rfl⟩ rfl rfl (fun ρ w E H => ex_move E rfl rfl) ?_
          refine SxL.val ⟨_, _, rfl, rfl, rfl⟩ rfl rfl (fun ρ w E H => ex_load (part := [.int .u8 (ca : Int), .int .u32 (cb : Int), .int .u8 (ck : Int), .string ⟨cs.toArray⟩, .string ⟨ct.toArray⟩, .string ⟨cu.toArray⟩, .int .u8 (cz : Int)]) E (H.get (i := 0) rfl) rfl rfl Tryz.underlying29 rfl sz_palaver_api_Cmd rfl rfl) ?_
          refine SxL.val ⟨_, _, rfl, rfl, rfl⟩ rfl rfl (fun ρ w E H => ex_build (cs := [.int .u8 0, .int .u32 0, .int .u8 0, .string ⟨[].toArray⟩, .string ⟨[].toArray⟩, .string ⟨[].toArray⟩, .int .u8 0]) E rfl rfl (by kernel_rfl)) ?_
          refine SxL.valB ⟨_, _, rfl, rfl, rfl⟩ rfl rfl (fun ρ w E H => ex_aneq E rfl (by kernel_rfl) rfl rfl (fun w => by rw [Bool.not_not]; exact eq_cm ⟨ca, cb, ck, cs, ct, cu, cz⟩ Cmd.cm0 w)) fun c60 hc60 => ?_
          refine SxL.val ⟨_, _, rfl, rfl, rfl⟩ rfl rfl (fun ρ w E H => ex_pick E rfl (t := true) rfl rfl) ?_
          refine SxL.val trivial rfl rfl (fun ρ w E H => ex_pick E rfl (t := false) rfl rfl) ?_
          refine SxL.nil ?_
          have hq : c60 = bad1 (hasS (chars mk) 99) (hasS (chars mk) 110) ⟨ca, cb, ck, cs, ct, cu, cz⟩ := by rw [hh99, hh110]; unfold bad1; grind [cmpB]
          refine SxN.meet c60 hq ⟨rfl, rfl, rfl, trivial⟩ [0, 1] rfl (by decide) ⟨.inl rfl, .inl rfl, trivial⟩
        · refine SxL.val (v := .pointer (some ⟨g2, 0, none⟩)) ⟨_, _, rfl, rfl, rfl⟩ rfl rfl (fun ρ w E H => ex_field E rfl fa_palaver_api_Cmd_0 rfl rfl) ?_
          refine SxL.val ⟨_, _, rfl, rfl, rfl⟩ rfl rfl (fun ρ w E H => ex_load1 E (H.get (i := 0) rfl) rfl rfl Tryz.underlying5 rfl rfl) ?_
          refine SxL.valB ⟨_, _, rfl, rfl, rfl⟩ rfl rfl (fun ρ w E H => ex_cmp E rfl rfl rfl rfl rfl) fun c29 hc29 => ?_
          refine SxL.val ⟨_, _, rfl, rfl, rfl⟩ rfl rfl (fun ρ w E H => ex_move E rfl rfl) ?_
          cases c29
          · refine SxL.val (v := .pointer (some ⟨g2, 1, none⟩)) ⟨_, _, rfl, rfl, rfl⟩ rfl rfl (fun ρ w E H => ex_field E rfl fa_palaver_api_Cmd_1 rfl rfl) ?_
            refine SxL.val ⟨_, _, rfl, rfl, rfl⟩ rfl rfl (fun ρ w E H => ex_load1 E (H.get (i := 0) rfl) rfl rfl Tryz.underlying27 rfl rfl) ?_
            refine SxL.valB ⟨_, _, rfl, rfl, rfl⟩ rfl rfl (fun ρ w E H => ex_cmp E rfl rfl rfl rfl rfl) fun c33 hc33 => ?_
            refine SxL.val ⟨_, _, rfl, rfl, rfl⟩ rfl rfl (fun ρ w E H => ex_pick E rfl (t := false) rfl rfl) ?_
            refine SxL.val ⟨_, _, rfl, rfl, rfl⟩ rfl rfl (fun ρ w E H => ex_move E rfl rfl) ?_
            cases c33
            · refine SxL.val ⟨_, _, rfl, rfl, rfl⟩ rfl rfl (fun ρ w E H => ex_load (part := [.int .u8 (ca : Int), .int .u32 (cb : Int), .int .u8 (ck : Int), .string ⟨cs.toArray⟩, .string ⟨ct.toArray⟩, .string ⟨cu.toArray⟩, .int .u8 (cz : Int)]) E (H.get (i := 0) rfl) rfl rfl Tryz.underlying29 rfl sz_palaver_api_Cmd rfl rfl) ?_
              refine SxL.val (v := .pointer (some ⟨g2, 0, none⟩)) ⟨_, _, rfl, rfl, rfl⟩ rfl rfl (fun ρ w E H => ex_field E rfl fa_palaver_api_Cmd_0 rfl rfl) ?_
              refine SxL.val ⟨_, _, rfl, rfl, rfl⟩ rfl rfl (fun ρ w E H => ex_load1 E (H.get (i := 0) rfl) rfl rfl Tryz.underlying5 rfl rfl) ?_
              refine SxL.val (v := .pointer (some ⟨g2, 1, none⟩)) ⟨_, _, rfl, rfl, rfl⟩ rfl rfl (fun ρ w E H => ex_field E rfl fa_palaver_api_Cmd_1 rfl rfl) ?_
              refine SxL.val ⟨_, _, rfl, rfl, rfl⟩ rfl rfl (fun ρ w E H => ex_load1 E (H.get (i := 0) rfl) rfl rfl Tryz.underlying27 rfl rfl) ?_
              refine SxL.val ⟨_, _, rfl, rfl, rfl⟩ rfl rfl (fun ρ w E H => ex_build (cs := [.int .u8 (ca : Int), .int .u32 (cb : Int), .int .u8 0, .string ⟨[].toArray⟩, .string ⟨[].toArray⟩, .string ⟨[].toArray⟩, .int .u8 0]) E rfl rfl (by kernel_rfl)) ?_
              refine SxL.valB ⟨_, _, rfl, rfl, rfl⟩ rfl rfl (fun ρ w E H => ex_aneq E rfl (by kernel_rfl) rfl rfl (fun w => by rw [Bool.not_not]; exact eq_cm ⟨ca, cb, ck, cs, ct, cu, cz⟩ ⟨ca, cb, 0, [], [], [], 0⟩ w)) fun c42 hc42 => ?_
              refine SxL.val ⟨_, _, rfl, rfl, rfl⟩ rfl rfl (fun ρ w E H => ex_pick E rfl (t := false) rfl rfl) ?_
              refine SxL.val ⟨_, _, rfl, rfl, rfl⟩ rfl rfl (fun ρ w E H => ex_pick E rfl (t := true) rfl rfl) ?_
              refine SxL.val trivial rfl rfl (fun ρ w E H => ex_pick E rfl (t := false) rfl rfl) ?_
              refine SxL.val trivial rfl rfl (fun ρ w E H => ex_move E rfl rfl) ?_
              cases c42
              · refine SxL.val (v := .pointer (some ⟨g1, 0, none⟩)) ⟨_, _, rfl, rfl, rfl⟩ rfl rfl (fun ρ w E H => ex_field E rfl fa_palaver_api_Msg_0 rfl rfl) ?_
                refine SxL.val ⟨_, _, rfl, rfl, rfl⟩ rfl rfl (fun ρ w E H => ex_load1 E (H.get (i := 1) rfl) rfl rfl Tryz.underlying5 rfl rfl) ?_
                refine SxL.callB (v := .bool false) ⟨_, _, rfl, rfl, rfl⟩ rfl rfl (fun ρ w E => ex_call E en_palaver_palaverref18_has rfl rfl) (fun w H => (rhas_any mk 99 hf.h1 w).mono fun _ _ h => ⟨by rw [h.1, hh99], h.2⟩) ?_
                refine SxL.val (v := .bool true) ⟨_, _, rfl, rfl, rfl⟩ rfl rfl (fun ρ w E H => ex_not (t := false) E rfl rfl) ?_
                refine SxL.val ⟨_, _, rfl, rfl, rfl⟩ rfl rfl (fun ρ w E H => ex_move E rfl rfl) ?_
                refine SxL.val (v := .pointer (some ⟨g1, 0, none⟩)) ⟨_, _, rfl, rfl, rfl⟩ rfl rfl (fun ρ w E H => ex_field E rfl fa_palaver_api_Msg_0 rfl rfl) ?_
                refine SxL.val ⟨_, _, rfl, rfl, rfl⟩ rfl rfl (fun ρ w E H => ex_load1 E (H.get (i := 1) rfl) rfl rfl Tryz.underlying5 rfl rfl) ?_
                refine SxL.callB (v := .bool true) ⟨_, _, rfl, rfl, rfl⟩ rfl rfl (fun ρ w E => ex_call E en_palaver_palaverref18_has rfl rfl) (fun w H => (rhas_any mk 110 hf.h1 w).mono fun _ _ h => ⟨by rw [h.1, hh110], h.2⟩) ?_
                refine SxL.val (v := .bool false) ⟨_, _, rfl, rfl, rfl⟩ rfl rfl (fun ρ w E H => ex_not (t := true) E rfl rfl) ?_
                refine SxL.val ⟨_, _, rfl, rfl, rfl⟩ rfl rfl (fun ρ w E H => ex_pick E rfl (t := true) rfl rfl) ?_
                refine SxL.val ⟨_, _, rfl, rfl, rfl⟩ rfl rfl (fun ρ w E H => ex_move E rfl rfl) ?_
                iterate 3 refine SxL.off ⟨_, _, _, rfl, rfl, rfl, nofun⟩ rfl rfl ?_
                refine SxL.val ⟨_, _, rfl, rfl, rfl⟩ rfl rfl (fun ρ w E H => ex_pick E rfl (t := false) rfl rfl) ?_
                refine SxL.val trivial rfl rfl (fun ρ w E H => ex_pick E rfl (t := false) rfl rfl) ?_
                refine SxL.nil ?_
                have hq : false = bad1 (hasS (chars mk) 99) (hasS (chars mk) 110) ⟨ca, cb, ck, cs, ct, cu, cz⟩ := by rw [hh99, hh110]; unfold bad1; grind [cmpB]
                refine SxN.meet false hq ⟨rfl, rfl, rfl, trivial⟩ [0, 1] rfl (by decide) ⟨.inl rfl, .inl rfl, trivial⟩
              · refine SxL.off ⟨_, _, _, rfl, rfl, rfl, nofun⟩ rfl rfl ?_
                iterate 14 refine SxL.off ⟨_, _, _, rfl, rfl, rfl, nofun⟩ rfl rfl ?_
                refine SxL.val trivial rfl rfl (fun ρ w E H => ex_pick E rfl (t := true) rfl rfl) ?_
                refine SxL.nil ?_
                have hq : true = bad1 (hasS (chars mk) 99) (hasS (chars mk) 110) ⟨ca, cb, ck, cs, ct, cu, cz⟩ := by rw [hh99, hh110]; unfold bad1; grind [cmpB]
                refine SxN.meet true hq ⟨rfl, rfl, rfl, trivial⟩ [0, 1] rfl (by decide) ⟨.inl rfl, .inl rfl, trivial⟩
            · refine SxL.off ⟨_, _, _, rfl, rfl, rfl, nofun⟩ rfl rfl ?_
              iterate 6 refine SxL.off ⟨_, _, _, rfl, rfl, rfl, nofun⟩ rfl rfl ?_
              iterate 2 refine SxL.val ⟨_, _, rfl, rfl, rfl⟩ rfl rfl (fun ρ w E H => ex_pick E rfl (t := true) rfl rfl) ?_
              refine SxL.val trivial rfl rfl (fun ρ w E H => ex_pick E rfl (t := false) rfl rfl) ?_
              refine SxL.val trivial rfl rfl (fun ρ w E H => ex_move E rfl rfl) ?_
              iterate 15 refine SxL.off ⟨_, _, _, rfl, rfl, rfl, nofun⟩ rfl rfl ?_
              refine SxL.val trivial rfl rfl (fun ρ w E H => ex_pick E rfl (t := true) rfl rfl) ?_
              refine SxL.nil ?_
              have hq : true = bad1 (hasS (chars mk) 99) (hasS (chars mk) 110) ⟨ca, cb, ck, cs, ct, cu, cz⟩ := by rw [hh99, hh110]; unfold bad1; grind [cmpB]
              refine SxN.meet true hq ⟨rfl, rfl, rfl, trivial⟩ [0, 1] rfl (by decide) ⟨.inl rfl, .inl rfl, trivial⟩
          · refine SxL.off ⟨_, _, _, rfl, rfl, rfl, nofun⟩ rfl rfl ?_
            iterate 2 refine SxL.off ⟨_, _, _, rfl, rfl, rfl, nofun⟩ rfl rfl ?_
            refine SxL.val ⟨_, _, rfl, rfl, rfl⟩ rfl rfl (fun ρ w E H => ex_pick E rfl (t := true) rfl rfl) ?_
            refine SxL.val ⟨_, _, rfl, rfl, rfl⟩ rfl rfl (fun ρ w E H => ex_move E rfl rfl) ?_
            iterate 7 refine SxL.off ⟨_, _, _, rfl, rfl, rfl, nofun⟩ rfl rfl ?_
            iterate 2 refine SxL.val ⟨_, _, rfl, rfl, rfl⟩ rfl rfl (fun ρ w E H => ex_pick E rfl (t := true) rfl rfl) ?_
            refine SxL.val trivial rfl rfl (fun ρ w E H => ex_pick E rfl (t := false) rfl rfl) ?_
            refine SxL.val trivial rfl rfl (fun ρ w E H => ex_move E rfl rfl) ?_
            iterate 15 refine SxL.off ⟨_, _, _, rfl, rfl, rfl, nofun⟩ rfl rfl ?_
            refine SxL.val trivial rfl rfl (fun ρ w E H => ex_pick E rfl (t := true) rfl rfl) ?_
            refine SxL.nil ?_
            have hq : true = bad1 (hasS (chars mk) 99) (hasS (chars mk) 110) ⟨ca, cb, ck, cs, ct, cu, cz⟩ := by rw [hh99, hh110]; unfold bad1; grind [cmpB]
            refine SxN.meet true hq ⟨rfl, rfl, rfl, trivial⟩ [0, 1] rfl (by decide) ⟨.inl rfl, .inl rfl, trivial⟩
      · refine SxL.val ⟨_, _, rfl, rfl, rfl⟩ rfl rfl (fun ρ w E H => ex_load (part := [.int .u8 (ca : Int), .int .u32 (cb : Int), .int .u8 (ck : Int), .string ⟨cs.toArray⟩, .string ⟨ct.toArray⟩, .string ⟨cu.toArray⟩, .int .u8 (cz : Int)]) E (H.get (i := 0) rfl) rfl rfl Tryz.underlying29 rfl sz_palaver_api_Cmd rfl rfl) ?_
        refine SxL.callBB (b := (Cmd.mayB ⟨ca, cb, ck, cs, ct, cu, cz⟩)) ⟨_, _, rfl, rfl, rfl⟩ rfl rfl (fun ρ w E => ex_call E en_palaver_palaverref09_May rfl rfl) (fun w H => Cmd.refMay_any ⟨ca, cb, ck, cs, ct, cu, cz⟩ w) fun c19 hc19 => ?_
        cases c19
        · refine SxL.val (v := .bool true) ⟨_, _, rfl, rfl, rfl⟩ rfl rfl (fun ρ w E H => ex_not (t := false) E rfl rfl) ?_
          refine SxL.val trivial rfl rfl (fun ρ w E H => ex_pick E rfl (t := true) rfl rfl) ?_
          refine SxL.val trivial rfl rfl (fun ρ w E H => ex_move E rfl rfl) ?_
          iterate 22 refine SxL.off ⟨_, _, _, rfl, rfl, rfl, nofun⟩ rfl rfl ?_
          refine SxL.val trivial rfl rfl (fun ρ w E H => ex_pick E rfl (t := true) rfl rfl) ?_
          refine SxL.val trivial rfl rfl (fun ρ w E H => ex_move E rfl rfl) ?_
          iterate 15 refine SxL.off ⟨_, _, _, rfl, rfl, rfl, nofun⟩ rfl rfl ?_
          refine SxL.val trivial rfl rfl (fun ρ w E H => ex_pick E rfl (t := true) rfl rfl) ?_
          refine SxL.nil ?_
          have hq : true = bad1 (hasS (chars mk) 99) (hasS (chars mk) 110) ⟨ca, cb, ck, cs, ct, cu, cz⟩ := by rw [hh99, hh110]; unfold bad1; grind [cmpB]
          refine SxN.meet true hq ⟨rfl, rfl, rfl, trivial⟩ [0, 1] rfl (by decide) ⟨.inl rfl, .inl rfl, trivial⟩
        · refine SxL.val (v := .bool false) ⟨_, _, rfl, rfl, rfl⟩ rfl rfl (fun ρ w E H => ex_not (t := true) E rfl rfl) ?_
          refine SxL.val trivial rfl rfl (fun ρ w E H => ex_pick E rfl (t := true) rfl rfl) ?_
          refine SxL.val trivial rfl rfl (fun ρ w E H => ex_move E rfl rfl) ?_
          refine SxL.val (v := .pointer (some ⟨g1, 0, none⟩)) ⟨_, _, rfl, rfl, rfl⟩ rfl rfl (fun ρ w E H => ex_field E rfl fa_palaver_api_Msg_0 rfl rfl) ?_
          refine SxL.val ⟨_, _, rfl, rfl, rfl⟩ rfl rfl (fun ρ w E H => ex_load1 E (H.get (i := 1) rfl) rfl rfl Tryz.underlying5 rfl rfl) ?_
          refine SxL.callB (v := .bool h110) ⟨_, _, rfl, rfl, rfl⟩ rfl rfl (fun ρ w E => ex_call E en_palaver_palaverref18_has rfl rfl) (fun w H => (rhas_any mk 110 hf.h1 w).mono fun _ _ h => ⟨by rw [h.1, hh110], h.2⟩) ?_
          refine SxL.val ⟨_, _, rfl, rfl, rfl⟩ rfl rfl (fun ρ w E H => ex_move E rfl rfl) ?_
          cases h110
          · refine SxL.off ⟨_, _, _, rfl, rfl, rfl, nofun⟩ rfl rfl ?_
            iterate 16 refine SxL.off ⟨_, _, _, rfl, rfl, rfl, nofun⟩ rfl rfl ?_
            refine SxL.val ⟨_, _, rfl, rfl, rfl⟩ rfl rfl (fun ρ w E H => ex_pick E rfl (t := false) rfl rfl) ?_
            refine SxL.val trivial rfl rfl (fun ρ w E H => ex_pick E rfl (t := false) rfl rfl) ?_
            refine SxL.val trivial rfl rfl (fun ρ w E H => ex_move E rfl rfl) ?_
            refine SxL.val (v := .pointer (some ⟨g1, 0, none⟩)) ⟨_, _, rfl, rfl, rfl⟩ rfl rfl (fun ρ w E H => ex_field E rfl fa_palaver_api_Msg_0 rfl rfl) ?_
            refine SxL.val ⟨_, _, rfl, rfl, rfl⟩ rfl rfl (fun ρ w E H => ex_load1 E (H.get (i := 1) rfl) rfl rfl Tryz.underlying5 rfl rfl) ?_
            refine SxL.callB (v := .bool true) ⟨_, _, rfl, rfl, rfl⟩ rfl rfl (fun ρ w E => ex_call E en_palaver_palaverref18_has rfl rfl) (fun w H => (rhas_any mk 99 hf.h1 w).mono fun _ _ h => ⟨by rw [h.1, hh99], h.2⟩) ?_
            refine SxL.val (v := .bool false) ⟨_, _, rfl, rfl, rfl⟩ rfl rfl (fun ρ w E H => ex_not (t := true) E rfl rfl) ?_
            refine SxL.val ⟨_, _, rfl, rfl, rfl⟩ rfl rfl (fun ρ w E H => ex_move E rfl rfl) ?_
            iterate 4 refine SxL.off ⟨_, _, _, rfl, rfl, rfl, nofun⟩ rfl rfl ?_
            refine SxL.val ⟨_, _, rfl, rfl, rfl⟩ rfl rfl (fun ρ w E H => ex_pick E rfl (t := false) rfl rfl) ?_
            refine SxL.val ⟨_, _, rfl, rfl, rfl⟩ rfl rfl (fun ρ w E H => ex_move E rfl rfl) ?_
            iterate 3 refine SxL.off ⟨_, _, _, rfl, rfl, rfl, nofun⟩ rfl rfl ?_
            refine SxL.val ⟨_, _, rfl, rfl, rfl⟩ rfl rfl (fun ρ w E H => ex_pick E rfl (t := false) rfl rfl) ?_
            refine SxL.val trivial rfl rfl (fun ρ w E H => ex_pick E rfl (t := false) rfl rfl) ?_
            refine SxL.nil ?_
            have hq : false = bad1 (hasS (chars mk) 99) (hasS (chars mk) 110) ⟨ca, cb, ck, cs, ct, cu, cz⟩ := by rw [hh99, hh110]; unfold bad1; grind [cmpB]
            refine SxN.meet false hq ⟨rfl, rfl, rfl, trivial⟩ [0, 1] rfl (by decide) ⟨.inl rfl, .inl rfl, trivial⟩
          · refine SxL.val (v := .pointer (some ⟨g2, 0, none⟩)) ⟨_, _, rfl, rfl, rfl⟩ rfl rfl (fun ρ w E H => ex_field E rfl fa_palaver_api_Cmd_0 rfl rfl) ?_
            refine SxL.val ⟨_, _, rfl, rfl, rfl⟩ rfl rfl (fun ρ w E H => ex_load1 E (H.get (i := 0) rfl) rfl rfl Tryz.underlying5 rfl rfl) ?_
            refine SxL.valB ⟨_, _, rfl, rfl, rfl⟩ rfl rfl (fun ρ w E H => ex_cmp E rfl rfl rfl rfl rfl) fun c29 hc29 => ?_
            refine SxL.val ⟨_, _, rfl, rfl, rfl⟩ rfl rfl (fun ρ w E H => ex_move E rfl rfl) ?_
            cases c29
            · refine SxL.val (v := .pointer (some ⟨g2, 1, none⟩)) ⟨_, _, rfl, rfl, rfl⟩ rfl rfl (fun ρ w E H => ex_field E rfl fa_palaver_api_Cmd_1 rfl rfl) ?_
              refine SxL.val ⟨_, _, rfl, rfl, rfl⟩ rfl rfl (fun ρ w E H => ex_load1 E (H.get (i := 0) rfl) rfl rfl Tryz.underlying27 rfl rfl) ?_
              refine SxL.valB ⟨_, _, rfl, rfl, rfl⟩ rfl rfl (fun ρ w E H => ex_cmp E rfl rfl rfl rfl rfl) fun c33 hc33 => ?_
              refine SxL.val ⟨_, _, rfl, rfl, rfl⟩ rfl rfl (fun ρ w E H => ex_pick E rfl (t := false) rfl rfl) ?_
              refine SxL.val ⟨_, _, rfl, rfl, rfl⟩ rfl rfl (fun ρ w E H => ex_move E rfl rfl) ?_
              cases c33
              · refine SxL.val ⟨_, _, rfl, rfl, rfl⟩ rfl rfl (fun ρ w E H => ex_load (part := [.int .u8 (ca : Int), .int .u32 (cb : Int), .int .u8 (ck : Int), .string ⟨cs.toArray⟩, .string ⟨ct.toArray⟩, .string ⟨cu.toArray⟩, .int .u8 (cz : Int)]) E (H.get (i := 0) rfl) rfl rfl Tryz.underlying29 rfl sz_palaver_api_Cmd rfl rfl) ?_
                refine SxL.val (v := .pointer (some ⟨g2, 0, none⟩)) ⟨_, _, rfl, rfl, rfl⟩ rfl rfl (fun ρ w E H => ex_field E rfl fa_palaver_api_Cmd_0 rfl rfl) ?_
                refine SxL.val ⟨_, _, rfl, rfl, rfl⟩ rfl rfl (fun ρ w E H => ex_load1 E (H.get (i := 0) rfl) rfl rfl Tryz.underlying5 rfl rfl) ?_
                refine SxL.val (v := .pointer (some ⟨g2, 1, none⟩)) ⟨_, _, rfl, rfl, rfl⟩ rfl rfl (fun ρ w E H => ex_field E rfl fa_palaver_api_Cmd_1 rfl rfl) ?_
                refine SxL.val ⟨_, _, rfl, rfl, rfl⟩ rfl rfl (fun ρ w E H => ex_load1 E (H.get (i := 0) rfl) rfl rfl Tryz.underlying27 rfl rfl) ?_
                refine SxL.val ⟨_, _, rfl, rfl, rfl⟩ rfl rfl (fun ρ w E H => ex_build (cs := [.int .u8 (ca : Int), .int .u32 (cb : Int), .int .u8 0, .string ⟨[].toArray⟩, .string ⟨[].toArray⟩, .string ⟨[].toArray⟩, .int .u8 0]) E rfl rfl (by kernel_rfl)) ?_
                refine SxL.valB ⟨_, _, rfl, rfl, rfl⟩ rfl rfl (fun ρ w E H => ex_aneq E rfl (by kernel_rfl) rfl rfl (fun w => by rw [Bool.not_not]; exact eq_cm ⟨ca, cb, ck, cs, ct, cu, cz⟩ ⟨ca, cb, 0, [], [], [], 0⟩ w)) fun c42 hc42 => ?_
                refine SxL.val ⟨_, _, rfl, rfl, rfl⟩ rfl rfl (fun ρ w E H => ex_pick E rfl (t := false) rfl rfl) ?_
                refine SxL.val ⟨_, _, rfl, rfl, rfl⟩ rfl rfl (fun ρ w E H => ex_pick E rfl (t := true) rfl rfl) ?_
                refine SxL.val trivial rfl rfl (fun ρ w E H => ex_pick E rfl (t := false) rfl rfl) ?_
                refine SxL.val trivial rfl rfl (fun ρ w E H => ex_move E rfl rfl) ?_
                cases c42
                · refine SxL.val (v := .pointer (some ⟨g1, 0, none⟩)) ⟨_, _, rfl, rfl, rfl⟩ rfl rfl (fun ρ w E H => ex_field E rfl fa_palaver_api_Msg_0 rfl rfl) ?_
                  refine SxL.val ⟨_, _, rfl, rfl, rfl⟩ rfl rfl (fun ρ w E H => ex_load1 E (H.get (i := 1) rfl) rfl rfl Tryz.underlying5 rfl rfl) ?_
                  refine SxL.callB (v := .bool true) ⟨_, _, rfl, rfl, rfl⟩ rfl rfl (fun ρ w E => ex_call E en_palaver_palaverref18_has rfl rfl) (fun w H => (rhas_any mk 99 hf.h1 w).mono fun _ _ h => ⟨by rw [h.1, hh99], h.2⟩) ?_
                  refine SxL.val (v := .bool false) ⟨_, _, rfl, rfl, rfl⟩ rfl rfl (fun ρ w E H => ex_not (t := true) E rfl rfl) ?_
                  refine SxL.val ⟨_, _, rfl, rfl, rfl⟩ rfl rfl (fun ρ w E H => ex_move E rfl rfl) ?_
                  iterate 4 refine SxL.off ⟨_, _, _, rfl, rfl, rfl, nofun⟩ rfl rfl ?_
                  refine SxL.val ⟨_, _, rfl, rfl, rfl⟩ rfl rfl (fun ρ w E H => ex_pick E rfl (t := false) rfl rfl) ?_
                  refine SxL.val ⟨_, _, rfl, rfl, rfl⟩ rfl rfl (fun ρ w E H => ex_move E rfl rfl) ?_
                  iterate 3 refine SxL.off ⟨_, _, _, rfl, rfl, rfl, nofun⟩ rfl rfl ?_
                  refine SxL.val ⟨_, _, rfl, rfl, rfl⟩ rfl rfl (fun ρ w E H => ex_pick E rfl (t := false) rfl rfl) ?_
                  refine SxL.val trivial rfl rfl (fun ρ w E H => ex_pick E rfl (t := false) rfl rfl) ?_
                  refine SxL.nil ?_
                  have hq : false = bad1 (hasS (chars mk) 99) (hasS (chars mk) 110) ⟨ca, cb, ck, cs, ct, cu, cz⟩ := by rw [hh99, hh110]; unfold bad1; grind [cmpB]
                  refine SxN.meet false hq ⟨rfl, rfl, rfl, trivial⟩ [0, 1] rfl (by decide) ⟨.inl rfl, .inl rfl, trivial⟩
                · refine SxL.off ⟨_, _, _, rfl, rfl, rfl, nofun⟩ rfl rfl ?_
                  iterate 14 refine SxL.off ⟨_, _, _, rfl, rfl, rfl, nofun⟩ rfl rfl ?_
                  refine SxL.val trivial rfl rfl (fun ρ w E H => ex_pick E rfl (t := true) rfl rfl) ?_
                  refine SxL.nil ?_
                  have hq : true = bad1 (hasS (chars mk) 99) (hasS (chars mk) 110) ⟨ca, cb, ck, cs, ct, cu, cz⟩ := by rw [hh99, hh110]; unfold bad1; grind [cmpB]
                  refine SxN.meet true hq ⟨rfl, rfl, rfl, trivial⟩ [0, 1] rfl (by decide) ⟨.inl rfl, .inl rfl, trivial⟩
              · refine SxL.off ⟨_, _, _, rfl, rfl, rfl, nofun⟩ rfl rfl ?_
                iterate 6 refine SxL.off ⟨_, _, _, rfl, rfl, rfl, nofun⟩ rfl rfl ?_
                iterate 2 refine SxL.val ⟨_, _, rfl, rfl, rfl⟩ rfl rfl (fun ρ w E H => ex_pick E rfl (t := true) rfl rfl) ?_
                refine SxL.val trivial rfl rfl (fun ρ w E H => ex_pick E rfl (t := false) rfl rfl) ?_
                refine SxL.val trivial rfl rfl (fun ρ w E H => ex_move E rfl rfl) ?_
                iterate 15 refine SxL.off ⟨_, _, _, rfl, rfl, rfl, nofun⟩ rfl rfl ?_
                refine SxL.val trivial rfl rfl (fun ρ w E H => ex_pick E rfl (t := true) rfl rfl) ?_
                refine SxL.nil ?_
                have hq : true = bad1 (hasS (chars mk) 99) (hasS (chars mk) 110) ⟨ca, cb, ck, cs, ct, cu, cz⟩ := by rw [hh99, hh110]; unfold bad1; grind [cmpB]
                refine SxN.meet true hq ⟨rfl, rfl, rfl, trivial⟩ [0, 1] rfl (by decide) ⟨.inl rfl, .inl rfl, trivial⟩
            · refine SxL.off ⟨_, _, _, rfl, rfl, rfl, nofun⟩ rfl rfl ?_
              iterate 2 refine SxL.off ⟨_, _, _, rfl, rfl, rfl, nofun⟩ rfl rfl ?_
              refine SxL.val ⟨_, _, rfl, rfl, rfl⟩ rfl rfl (fun ρ w E H => ex_pick E rfl (t := true) rfl rfl) ?_
              refine SxL.val ⟨_, _, rfl, rfl, rfl⟩ rfl rfl (fun ρ w E H => ex_move E rfl rfl) ?_
              iterate 7 refine SxL.off ⟨_, _, _, rfl, rfl, rfl, nofun⟩ rfl rfl ?_
              iterate 2 refine SxL.val ⟨_, _, rfl, rfl, rfl⟩ rfl rfl (fun ρ w E H => ex_pick E rfl (t := true) rfl rfl) ?_
              refine SxL.val trivial rfl rfl (fun ρ w E H => ex_pick E rfl (t := false) rfl rfl) ?_
              refine SxL.val trivial rfl rfl (fun ρ w E H => ex_move E rfl rfl) ?_
              iterate 15 refine SxL.off ⟨_, _, _, rfl, rfl, rfl, nofun⟩ rfl rfl ?_
              refine SxL.val trivial rfl rfl (fun ρ w E H => ex_pick E rfl (t := true) rfl rfl) ?_
              refine SxL.nil ?_
              have hq : true = bad1 (hasS (chars mk) 99) (hasS (chars mk) 110) ⟨ca, cb, ck, cs, ct, cu, cz⟩ := by rw [hh99, hh110]; unfold bad1; grind [cmpB]
              refine SxN.meet true hq ⟨rfl, rfl, rfl, trivial⟩ [0, 1] rfl (by decide) ⟨.inl rfl, .inl rfl, trivial⟩
    refine SxN.then_ ?_
    cases b62
    · refine SxC.condF rfl (SxC.skip (SxN.then_ (SxC.seq (SxC.seq ?_))))
      refine SxC.cut1 (fun (b90 : Bool) => [(1, .pointer (some ⟨g1, 0, none⟩)), (3, .pointer (some ⟨g2, 0, none⟩)), (90, .bool b90)]) (fun _ => [cell g2 29 [.int .u8 (ca : Int), .int .u32 (cb : Int), .int .u8 (ck : Int), .string ⟨cs.toArray⟩, .string ⟨ct.toArray⟩, .string ⟨cu.toArray⟩, .int .u8 (cz : Int)], cell g1 33 [.int .u8 (mk : Int), .int .u64 (mn : Int), .int .u8 (mr : Int), .int .u64 (mb : Int), .int .u64 (ms : Int), .int .u8 (mo : Int), .string ⟨mv.toArray⟩, .slice A vl.length ka, .slice B il.length kb, .int .u8 (ca : Int), .int .u32 (cb : Int), .int .u8 (ck : Int), .string ⟨cs.toArray⟩, .string ⟨ct.toArray⟩, .string ⟨cu.toArray⟩, .int .u8 (cz : Int), .int .u8 (mc : Int), .string ⟨mt.toArray⟩]]) (fun b90 => b90 = bad2 (hasS (chars mk) 114) mc mt) ?_ fun b90 hb90 => ?_
      · refine SxC.region ?_
        refine SxL.val (v := .pointer (some ⟨g1, 0, none⟩)) trivial rfl rfl (fun ρ w E H => ex_field E rfl fa_palaver_api_Msg_0 rfl rfl) ?_
        refine SxL.val trivial rfl rfl (fun ρ w E H => ex_load1 E (H.get (i := 1) rfl) rfl rfl Tryz.underlying5 rfl rfl) ?_
        refine SxL.callB (v := .bool h114) trivial rfl rfl (fun ρ w E => ex_call E en_palaver_palaverref18_has rfl rfl) (fun w H => (rhas_any mk 114 hf.h1 w).mono fun _ _ h => ⟨by rw [h.1, hh114], h.2⟩) ?_
        refine SxL.val trivial rfl rfl (fun ρ w E H => ex_move E rfl rfl) ?_
        cases h114
        · refine SxL.off ⟨_, _, _, rfl, rfl, rfl, nofun⟩ rfl rfl ?_
          iterate 10 refine SxL.off ⟨_, _, _, rfl, rfl, rfl, nofun⟩ rfl rfl ?_
          refine SxL.val trivial rfl rfl (fun ρ w E H => ex_pick E rfl (t := false) rfl rfl) ?_
          refine SxL.val trivial rfl rfl (fun ρ w E H => ex_move E rfl rfl) ?_
          refine SxL.val (v := .pointer (some ⟨g1, 0, none⟩)) ⟨_, _, rfl, rfl, rfl⟩ rfl rfl (fun ρ w E H => ex_field E rfl fa_palaver_api_Msg_0 rfl rfl) ?_
          refine SxL.val ⟨_, _, rfl, rfl, rfl⟩ rfl rfl (fun ρ w E H => ex_load1 E (H.get (i := 1) rfl) rfl rfl Tryz.underlying5 rfl rfl) ?_
          refine SxL.callB (v := .bool false) ⟨_, _, rfl, rfl, rfl⟩ rfl rfl (fun ρ w E => ex_call E en_palaver_palaverref18_has rfl rfl) (fun w H => (rhas_any mk 114 hf.h1 w).mono fun _ _ h => ⟨by rw [h.1, hh114], h.2⟩) ?_
          refine SxL.val (v := .bool true) ⟨_, _, rfl, rfl, rfl⟩ rfl rfl (fun ρ w E H => ex_not (t := false) E rfl rfl) ?_
          refine SxL.val ⟨_, _, rfl, rfl, rfl⟩ rfl rfl (fun ρ w E H => ex_move E rfl rfl) ?_
          refine SxL.val (v := .pointer (some ⟨g1, 16, none⟩)) ⟨_, _, rfl, rfl, rfl⟩ rfl rfl (fun ρ w E H => ex_field E rfl fa_palaver_api_Msg_9 rfl rfl) ?_
          refine SxL.val ⟨_, _, rfl, rfl, rfl⟩ rfl rfl (fun ρ w E H => ex_load (part := [.int .u8 (mc : Int), .string ⟨mt.toArray⟩]) E (H.get (i := 1) rfl) rfl rfl Tryz.underlying31 rfl sz_palaver_api_Reply rfl rfl) ?_
          refine SxL.val ⟨_, _, rfl, rfl, rfl⟩ rfl rfl (fun ρ w E H => ex_build (cs := [.int .u8 0, .string ⟨[].toArray⟩]) E rfl rfl (by kernel_rfl)) ?_
          refine SxL.valB ⟨_, _, rfl, rfl, rfl⟩ rfl rfl (fun ρ w E H => ex_aneq E rfl (by kernel_rfl) rfl rfl (fun w => by rw [Bool.not_not]; exact eq_ry mc 0 mt [] w)) fun c88 hc88 => ?_
          refine SxL.val ⟨_, _, rfl, rfl, rfl⟩ rfl rfl (fun ρ w E H => ex_pick E rfl (t := true) rfl rfl) ?_
          refine SxL.val trivial rfl rfl (fun ρ w E H => ex_pick E rfl (t := false) rfl rfl) ?_
          refine SxL.nil ?_
          have hq : c88 = bad2 (hasS (chars mk) 114) mc mt := by rw [hh114]; unfold bad2; grind [cmpB]
          refine SxN.meet c88 hq ⟨rfl, rfl, rfl, trivial⟩ [0, 1] rfl (by decide) ⟨.inl rfl, .inl rfl, trivial⟩
        · refine SxL.val (v := .pointer (some ⟨g1, 16, none⟩)) ⟨_, _, rfl, rfl, rfl⟩ rfl rfl (fun ρ w E H => ex_field E rfl fa_palaver_api_Msg_9 rfl rfl) ?_
          refine SxL.val (v := .pointer (some ⟨g1, 16, none⟩)) ⟨_, _, rfl, rfl, rfl⟩ rfl rfl (fun ρ w E H => ex_field E rfl fa_palaver_api_Reply_0 rfl rfl) ?_
          refine SxL.val ⟨_, _, rfl, rfl, rfl⟩ rfl rfl (fun ρ w E H => ex_load1 E (H.get (i := 1) rfl) rfl rfl Tryz.underlying5 rfl rfl) ?_
          refine SxL.valB ⟨_, _, rfl, rfl, rfl⟩ rfl rfl (fun ρ w E H => ex_cmp E rfl rfl rfl rfl rfl) fun c70 hc70 => ?_
          refine SxL.val ⟨_, _, rfl, rfl, rfl⟩ rfl rfl (fun ρ w E H => ex_move E rfl rfl) ?_
          cases c70
          · refine SxL.val (v := .pointer (some ⟨g1, 16, none⟩)) ⟨_, _, rfl, rfl, rfl⟩ rfl rfl (fun ρ w E H => ex_field E rfl fa_palaver_api_Msg_9 rfl rfl) ?_
            refine SxL.val (v := .pointer (some ⟨g1, 17, none⟩)) ⟨_, _, rfl, rfl, rfl⟩ rfl rfl (fun ρ w E H => ex_field E rfl fa_palaver_api_Reply_1 rfl rfl) ?_
            refine SxL.val ⟨_, _, rfl, rfl, rfl⟩ rfl rfl (fun ρ w E H => ex_load1 E (H.get (i := 1) rfl) rfl rfl Tryz.underlying9 rfl rfl) ?_
            refine SxL.val (v := .int .i64 (mt.length : Int)) ⟨_, _, rfl, rfl, rfl⟩ rfl rfl (fun ρ w E H => ex_lenT E rfl Tryz.underlying9 rfl) ?_
            refine SxL.valB ⟨_, _, rfl, rfl, rfl⟩ rfl rfl (fun ρ w E H => ex_cmp E rfl rfl rfl rfl rfl) fun c76 hc76 => ?_
            refine SxL.val ⟨_, _, rfl, rfl, rfl⟩ rfl rfl (fun ρ w E H => ex_pick E rfl (t := false) rfl rfl) ?_
            refine SxL.val trivial rfl rfl (fun ρ w E H => ex_pick E rfl (t := true) rfl rfl) ?_
            refine SxL.val trivial rfl rfl (fun ρ w E H => ex_move E rfl rfl) ?_
            cases c76
            · refine SxL.val (v := .pointer (some ⟨g1, 0, none⟩)) ⟨_, _, rfl, rfl, rfl⟩ rfl rfl (fun ρ w E H => ex_field E rfl fa_palaver_api_Msg_0 rfl rfl) ?_
              refine SxL.val ⟨_, _, rfl, rfl, rfl⟩ rfl rfl (fun ρ w E H => ex_load1 E (H.get (i := 1) rfl) rfl rfl Tryz.underlying5 rfl rfl) ?_
              refine SxL.callB (v := .bool true) ⟨_, _, rfl, rfl, rfl⟩ rfl rfl (fun ρ w E => ex_call E en_palaver_palaverref18_has rfl rfl) (fun w H => (rhas_any mk 114 hf.h1 w).mono fun _ _ h => ⟨by rw [h.1, hh114], h.2⟩) ?_
              refine SxL.val (v := .bool false) ⟨_, _, rfl, rfl, rfl⟩ rfl rfl (fun ρ w E H => ex_not (t := true) E rfl rfl) ?_
              refine SxL.val ⟨_, _, rfl, rfl, rfl⟩ rfl rfl (fun ρ w E H => ex_move E rfl rfl) ?_
              iterate 4 refine SxL.off ⟨_, _, _, rfl, rfl, rfl, nofun⟩ rfl rfl ?_
              refine SxL.val ⟨_, _, rfl, rfl, rfl⟩ rfl rfl (fun ρ w E H => ex_pick E rfl (t := false) rfl rfl) ?_
              refine SxL.val trivial rfl rfl (fun ρ w E H => ex_pick E rfl (t := false) rfl rfl) ?_
              refine SxL.nil ?_
              have hq : false = bad2 (hasS (chars mk) 114) mc mt := by rw [hh114]; unfold bad2; grind [cmpB]
              refine SxN.meet false hq ⟨rfl, rfl, rfl, trivial⟩ [0, 1] rfl (by decide) ⟨.inl rfl, .inl rfl, trivial⟩
            · refine SxL.off ⟨_, _, _, rfl, rfl, rfl, nofun⟩ rfl rfl ?_
              iterate 9 refine SxL.off ⟨_, _, _, rfl, rfl, rfl, nofun⟩ rfl rfl ?_
              refine SxL.val trivial rfl rfl (fun ρ w E H => ex_pick E rfl (t := true) rfl rfl) ?_
              refine SxL.nil ?_
              have hq : true = bad2 (hasS (chars mk) 114) mc mt := by rw [hh114]; unfold bad2; grind [cmpB]
              refine SxN.meet true hq ⟨rfl, rfl, rfl, trivial⟩ [0, 1] rfl (by decide) ⟨.inl rfl, .inl rfl, trivial⟩
          · refine SxL.off ⟨_, _, _, rfl, rfl, rfl, nofun⟩ rfl rfl ?_
            iterate 4 refine SxL.off ⟨_, _, _, rfl, rfl, rfl, nofun⟩ rfl rfl ?_
            refine SxL.val ⟨_, _, rfl, rfl, rfl⟩ rfl rfl (fun ρ w E H => ex_pick E rfl (t := true) rfl rfl) ?_
            refine SxL.val trivial rfl rfl (fun ρ w E H => ex_pick E rfl (t := true) rfl rfl) ?_
            refine SxL.val trivial rfl rfl (fun ρ w E H => ex_move E rfl rfl) ?_
            iterate 10 refine SxL.off ⟨_, _, _, rfl, rfl, rfl, nofun⟩ rfl rfl ?_
            refine SxL.val trivial rfl rfl (fun ρ w E H => ex_pick E rfl (t := true) rfl rfl) ?_
            refine SxL.nil ?_
            have hq : true = bad2 (hasS (chars mk) 114) mc mt := by rw [hh114]; unfold bad2; grind [cmpB]
            refine SxN.meet true hq ⟨rfl, rfl, rfl, trivial⟩ [0, 1] rfl (by decide) ⟨.inl rfl, .inl rfl, trivial⟩
      refine SxN.then_ ?_
      cases b90
      · refine SxC.condF rfl (SxC.skip (SxN.then_ (SxC.seq (SxC.seq ?_))))
        refine SxC.cut1 (fun (b127 : Bool) => [(1, .pointer (some ⟨g1, 0, none⟩)), (3, .pointer (some ⟨g2, 0, none⟩)), (127, .bool b127)]) (fun _ => [cell g2 29 [.int .u8 (ca : Int), .int .u32 (cb : Int), .int .u8 (ck : Int), .string ⟨cs.toArray⟩, .string ⟨ct.toArray⟩, .string ⟨cu.toArray⟩, .int .u8 (cz : Int)], cell g1 33 [.int .u8 (mk : Int), .int .u64 (mn : Int), .int .u8 (mr : Int), .int .u64 (mb : Int), .int .u64 (ms : Int), .int .u8 (mo : Int), .string ⟨mv.toArray⟩, .slice A vl.length ka, .slice B il.length kb, .int .u8 (ca : Int), .int .u32 (cb : Int), .int .u8 (ck : Int), .string ⟨cs.toArray⟩, .string ⟨ct.toArray⟩, .string ⟨cu.toArray⟩, .int .u8 (cz : Int), .int .u8 (mc : Int), .string ⟨mt.toArray⟩]]) (fun b127 => b127 = bad3 (hasS (chars mk) 111) (hasS (chars mk) 98) mo mn mr) ?_ fun b127 hb127 => ?_
        · refine SxC.region ?_
          refine SxL.val (v := .pointer (some ⟨g1, 5, none⟩)) trivial rfl rfl (fun ρ w E H => ex_field E rfl fa_palaver_api_Msg_4 rfl rfl) ?_
          refine SxL.val trivial rfl rfl (fun ρ w E H => ex_load1 E (H.get (i := 1) rfl) rfl rfl Tryz.underlying5 rfl rfl) ?_
          refine SxL.valB trivial rfl rfl (fun ρ w E H => ex_cmp E rfl rfl rfl rfl rfl) fun c93 hc93 => ?_
          refine SxL.val trivial rfl rfl (fun ρ w E H => ex_move E rfl rfl) ?_
          cases c93
          · refine SxL.val (v := .pointer (some ⟨g1, 0, none⟩)) ⟨_, _, rfl, rfl, rfl⟩ rfl rfl (fun ρ w E H => ex_field E rfl fa_palaver_api_Msg_0 rfl rfl) ?_
            refine SxL.val ⟨_, _, rfl, rfl, rfl⟩ rfl rfl (fun ρ w E H => ex_load1 E (H.get (i := 1) rfl) rfl rfl Tryz.underlying5 rfl rfl) ?_
            refine SxL.callB (v := .bool h111) ⟨_, _, rfl, rfl, rfl⟩ rfl rfl (fun ρ w E => ex_call E en_palaver_palaverref18_has rfl rfl) (fun w H => (rhas_any mk 111 hf.h1 w).mono fun _ _ h => ⟨by rw [h.1, hh111], h.2⟩) ?_
            cases h111
            · refine SxL.val (v := .bool true) ⟨_, _, rfl, rfl, rfl⟩ rfl rfl (fun ρ w E H => ex_not (t := false) E rfl rfl) ?_
              refine SxL.val ⟨_, _, rfl, rfl, rfl⟩ rfl rfl (fun ρ w E H => ex_move E rfl rfl) ?_
              refine SxL.val (v := .pointer (some ⟨g1, 5, none⟩)) ⟨_, _, rfl, rfl, rfl⟩ rfl rfl (fun ρ w E H => ex_field E rfl fa_palaver_api_Msg_4 rfl rfl) ?_
              refine SxL.val ⟨_, _, rfl, rfl, rfl⟩ rfl rfl (fun ρ w E H => ex_load1 E (H.get (i := 1) rfl) rfl rfl Tryz.underlying5 rfl rfl) ?_
              refine SxL.valB ⟨_, _, rfl, rfl, rfl⟩ rfl rfl (fun ρ w E H => ex_cmp E rfl rfl rfl rfl rfl) fun c102 hc102 => ?_
              refine SxL.val ⟨_, _, rfl, rfl, rfl⟩ rfl rfl (fun ρ w E H => ex_pick E rfl (t := true) rfl rfl) ?_
              refine SxL.val trivial rfl rfl (fun ρ w E H => ex_pick E rfl (t := false) rfl rfl) ?_
              refine SxL.val trivial rfl rfl (fun ρ w E H => ex_move E rfl rfl) ?_
              cases c102
              · refine SxL.val (v := .pointer (some ⟨g1, 0, none⟩)) ⟨_, _, rfl, rfl, rfl⟩ rfl rfl (fun ρ w E H => ex_field E rfl fa_palaver_api_Msg_0 rfl rfl) ?_
                refine SxL.val ⟨_, _, rfl, rfl, rfl⟩ rfl rfl (fun ρ w E H => ex_load1 E (H.get (i := 1) rfl) rfl rfl Tryz.underlying5 rfl rfl) ?_
                refine SxL.callB (v := .bool h98) ⟨_, _, rfl, rfl, rfl⟩ rfl rfl (fun ρ w E => ex_call E en_palaver_palaverref18_has rfl rfl) (fun w H => (rhas_any mk 98 hf.h1 w).mono fun _ _ h => ⟨by rw [h.1, hh98], h.2⟩) ?_
                refine SxL.val ⟨_, _, rfl, rfl, rfl⟩ rfl rfl (fun ρ w E H => ex_move E rfl rfl) ?_
                cases h98
                · refine SxL.off ⟨_, _, _, rfl, rfl, rfl, nofun⟩ rfl rfl ?_
                  iterate 3 refine SxL.off ⟨_, _, _, rfl, rfl, rfl, nofun⟩ rfl rfl ?_
                  refine SxL.val ⟨_, _, rfl, rfl, rfl⟩ rfl rfl (fun ρ w E H => ex_pick E rfl (t := false) rfl rfl) ?_
                  refine SxL.val trivial rfl rfl (fun ρ w E H => ex_pick E rfl (t := false) rfl rfl) ?_
                  refine SxL.val trivial rfl rfl (fun ρ w E H => ex_move E rfl rfl) ?_
                  refine SxL.val (v := .pointer (some ⟨g1, 0, none⟩)) ⟨_, _, rfl, rfl, rfl⟩ rfl rfl (fun ρ w E H => ex_field E rfl fa_palaver_api_Msg_0 rfl rfl) ?_
                  refine SxL.val ⟨_, _, rfl, rfl, rfl⟩ rfl rfl (fun ρ w E H => ex_load1 E (H.get (i := 1) rfl) rfl rfl Tryz.underlying5 rfl rfl) ?_
                  refine SxL.callB (v := .bool false) ⟨_, _, rfl, rfl, rfl⟩ rfl rfl (fun ρ w E => ex_call E en_palaver_palaverref18_has rfl rfl) (fun w H => (rhas_any mk 98 hf.h1 w).mono fun _ _ h => ⟨by rw [h.1, hh98], h.2⟩) ?_
                  refine SxL.val (v := .bool true) ⟨_, _, rfl, rfl, rfl⟩ rfl rfl (fun ρ w E H => ex_not (t := false) E rfl rfl) ?_
                  refine SxL.val ⟨_, _, rfl, rfl, rfl⟩ rfl rfl (fun ρ w E H => ex_move E rfl rfl) ?_
                  refine SxL.val (v := .pointer (some ⟨g1, 1, none⟩)) ⟨_, _, rfl, rfl, rfl⟩ rfl rfl (fun ρ w E H => ex_field E rfl fa_palaver_api_Msg_1 rfl rfl) ?_
                  refine SxL.val ⟨_, _, rfl, rfl, rfl⟩ rfl rfl (fun ρ w E H => ex_load (part := [.int .u64 (mn : Int), .int .u8 (mr : Int)]) E (H.get (i := 1) rfl) rfl rfl Tryz.underlying24 rfl sz_palaver_api_Ballot rfl rfl) ?_
                  refine SxL.val ⟨_, _, rfl, rfl, rfl⟩ rfl rfl (fun ρ w E H => ex_build (cs := [.int .u64 0, .int .u8 0]) E rfl rfl (by kernel_rfl)) ?_
                  refine SxL.valB ⟨_, _, rfl, rfl, rfl⟩ rfl rfl (fun ρ w E H => ex_aneq E rfl (by kernel_rfl) rfl rfl (fun w => by rw [Bool.not_not]; exact eq_bal mn mr 0 0 w)) fun c125 hc125 => ?_
                  refine SxL.val ⟨_, _, rfl, rfl, rfl⟩ rfl rfl (fun ρ w E H => ex_pick E rfl (t := true) rfl rfl) ?_
                  refine SxL.val trivial rfl rfl (fun ρ w E H => ex_pick E rfl (t := false) rfl rfl) ?_
                  refine SxL.nil ?_
                  have hq : c125 = bad3 (hasS (chars mk) 111) (hasS (chars mk) 98) mo mn mr := by rw [hh111, hh98]; unfold bad3; grind [cmpB]
                  refine SxN.meet c125 hq ⟨rfl, rfl, rfl, trivial⟩ [0, 1] rfl (by decide) ⟨.inl rfl, .inl rfl, trivial⟩
                · refine SxL.val (v := .pointer (some ⟨g1, 1, none⟩)) ⟨_, _, rfl, rfl, rfl⟩ rfl rfl (fun ρ w E H => ex_field E rfl fa_palaver_api_Msg_1 rfl rfl) ?_
                  refine SxL.val ⟨_, _, rfl, rfl, rfl⟩ rfl rfl (fun ρ w E H => ex_load (part := [.int .u64 (mn : Int), .int .u8 (mr : Int)]) E (H.get (i := 1) rfl) rfl rfl Tryz.underlying24 rfl sz_palaver_api_Ballot rfl rfl) ?_
                  refine SxL.callBB (b := (goodB mn mr)) ⟨_, _, rfl, rfl, rfl⟩ rfl rfl (fun ρ w E => ex_call E en_palaver_palaverref18_good rfl rfl) (fun w H => rgood_any mn mr w) fun c112 hc112 => ?_
                  cases c112
                  · refine SxL.val (v := .bool true) ⟨_, _, rfl, rfl, rfl⟩ rfl rfl (fun ρ w E H => ex_not (t := false) E rfl rfl) ?_
                    refine SxL.val ⟨_, _, rfl, rfl, rfl⟩ rfl rfl (fun ρ w E H => ex_pick E rfl (t := true) rfl rfl) ?_
                    refine SxL.val trivial rfl rfl (fun ρ w E H => ex_pick E rfl (t := false) rfl rfl) ?_
                    refine SxL.val trivial rfl rfl (fun ρ w E H => ex_move E rfl rfl) ?_
                    iterate 10 refine SxL.off ⟨_, _, _, rfl, rfl, rfl, nofun⟩ rfl rfl ?_
                    refine SxL.val trivial rfl rfl (fun ρ w E H => ex_pick E rfl (t := true) rfl rfl) ?_
                    refine SxL.nil ?_
                    have hq : true = bad3 (hasS (chars mk) 111) (hasS (chars mk) 98) mo mn mr := by rw [hh111, hh98]; unfold bad3; grind [cmpB]
                    refine SxN.meet true hq ⟨rfl, rfl, rfl, trivial⟩ [0, 1] rfl (by decide) ⟨.inl rfl, .inl rfl, trivial⟩
                  · refine SxL.val (v := .bool false) ⟨_, _, rfl, rfl, rfl⟩ rfl rfl (fun ρ w E H => ex_not (t := true) E rfl rfl) ?_
                    refine SxL.val ⟨_, _, rfl, rfl, rfl⟩ rfl rfl (fun ρ w E H => ex_pick E rfl (t := true) rfl rfl) ?_
                    refine SxL.val trivial rfl rfl (fun ρ w E H => ex_pick E rfl (t := false) rfl rfl) ?_
                    refine SxL.val trivial rfl rfl (fun ρ w E H => ex_move E rfl rfl) ?_
                    refine SxL.val (v := .pointer (some ⟨g1, 0, none⟩)) ⟨_, _, rfl, rfl, rfl⟩ rfl rfl (fun ρ w E H => ex_field E rfl fa_palaver_api_Msg_0 rfl rfl) ?_
                    refine SxL.val ⟨_, _, rfl, rfl, rfl⟩ rfl rfl (fun ρ w E H => ex_load1 E (H.get (i := 1) rfl) rfl rfl Tryz.underlying5 rfl rfl) ?_
                    refine SxL.callB (v := .bool true) ⟨_, _, rfl, rfl, rfl⟩ rfl rfl (fun ρ w E => ex_call E en_palaver_palaverref18_has rfl rfl) (fun w H => (rhas_any mk 98 hf.h1 w).mono fun _ _ h => ⟨by rw [h.1, hh98], h.2⟩) ?_
                    refine SxL.val (v := .bool false) ⟨_, _, rfl, rfl, rfl⟩ rfl rfl (fun ρ w E H => ex_not (t := true) E rfl rfl) ?_
                    refine SxL.val ⟨_, _, rfl, rfl, rfl⟩ rfl rfl (fun ρ w E H => ex_move E rfl rfl) ?_
                    iterate 4 refine SxL.off ⟨_, _, _, rfl, rfl, rfl, nofun⟩ rfl rfl ?_
                    refine SxL.val ⟨_, _, rfl, rfl, rfl⟩ rfl rfl (fun ρ w E H => ex_pick E rfl (t := false) rfl rfl) ?_
                    refine SxL.val trivial rfl rfl (fun ρ w E H => ex_pick E rfl (t := false) rfl rfl) ?_
                    refine SxL.nil ?_
                    have hq : false = bad3 (hasS (chars mk) 111) (hasS (chars mk) 98) mo mn mr := by rw [hh111, hh98]; unfold bad3; grind [cmpB]
                    refine SxN.meet false hq ⟨rfl, rfl, rfl, trivial⟩ [0, 1] rfl (by decide) ⟨.inl rfl, .inl rfl, trivial⟩
              · refine SxL.off ⟨_, _, _, rfl, rfl, rfl, nofun⟩ rfl rfl ?_
                iterate 8 refine SxL.off ⟨_, _, _, rfl, rfl, rfl, nofun⟩ rfl rfl ?_
                refine SxL.val trivial rfl rfl (fun ρ w E H => ex_pick E rfl (t := true) rfl rfl) ?_
                refine SxL.val trivial rfl rfl (fun ρ w E H => ex_move E rfl rfl) ?_
                iterate 10 refine SxL.off ⟨_, _, _, rfl, rfl, rfl, nofun⟩ rfl rfl ?_
                refine SxL.val trivial rfl rfl (fun ρ w E H => ex_pick E rfl (t := true) rfl rfl) ?_
                refine SxL.nil ?_
                have hq : true = bad3 (hasS (chars mk) 111) (hasS (chars mk) 98) mo mn mr := by rw [hh111, hh98]; unfold bad3; grind [cmpB]
                refine SxN.meet true hq ⟨rfl, rfl, rfl, trivial⟩ [0, 1] rfl (by decide) ⟨.inl rfl, .inl rfl, trivial⟩
            · refine SxL.val (v := .bool false) ⟨_, _, rfl, rfl, rfl⟩ rfl rfl (fun ρ w E H => ex_not (t := true) E rfl rfl) ?_
              refine SxL.val ⟨_, _, rfl, rfl, rfl⟩ rfl rfl (fun ρ w E H => ex_move E rfl rfl) ?_
              iterate 3 refine SxL.off ⟨_, _, _, rfl, rfl, rfl, nofun⟩ rfl rfl ?_
              refine SxL.val ⟨_, _, rfl, rfl, rfl⟩ rfl rfl (fun ρ w E H => ex_pick E rfl (t := false) rfl rfl) ?_
              refine SxL.val trivial rfl rfl (fun ρ w E H => ex_pick E rfl (t := false) rfl rfl) ?_
              refine SxL.val trivial rfl rfl (fun ρ w E H => ex_move E rfl rfl) ?_
              refine SxL.val (v := .pointer (some ⟨g1, 0, none⟩)) ⟨_, _, rfl, rfl, rfl⟩ rfl rfl (fun ρ w E H => ex_field E rfl fa_palaver_api_Msg_0 rfl rfl) ?_
              refine SxL.val ⟨_, _, rfl, rfl, rfl⟩ rfl rfl (fun ρ w E H => ex_load1 E (H.get (i := 1) rfl) rfl rfl Tryz.underlying5 rfl rfl) ?_
              refine SxL.callB (v := .bool h98) ⟨_, _, rfl, rfl, rfl⟩ rfl rfl (fun ρ w E => ex_call E en_palaver_palaverref18_has rfl rfl) (fun w H => (rhas_any mk 98 hf.h1 w).mono fun _ _ h => ⟨by rw [h.1, hh98], h.2⟩) ?_
              refine SxL.val ⟨_, _, rfl, rfl, rfl⟩ rfl rfl (fun ρ w E H => ex_move E rfl rfl) ?_
              cases h98
              · refine SxL.off ⟨_, _, _, rfl, rfl, rfl, nofun⟩ rfl rfl ?_
                iterate 3 refine SxL.off ⟨_, _, _, rfl, rfl, rfl, nofun⟩ rfl rfl ?_
                refine SxL.val ⟨_, _, rfl, rfl, rfl⟩ rfl rfl (fun ρ w E H => ex_pick E rfl (t := false) rfl rfl) ?_
                refine SxL.val trivial rfl rfl (fun ρ w E H => ex_pick E rfl (t := false) rfl rfl) ?_
                refine SxL.val trivial rfl rfl (fun ρ w E H => ex_move E rfl rfl) ?_
                refine SxL.val (v := .pointer (some ⟨g1, 0, none⟩)) ⟨_, _, rfl, rfl, rfl⟩ rfl rfl (fun ρ w E H => ex_field E rfl fa_palaver_api_Msg_0 rfl rfl) ?_
                refine SxL.val ⟨_, _, rfl, rfl, rfl⟩ rfl rfl (fun ρ w E H => ex_load1 E (H.get (i := 1) rfl) rfl rfl Tryz.underlying5 rfl rfl) ?_
                refine SxL.callB (v := .bool false) ⟨_, _, rfl, rfl, rfl⟩ rfl rfl (fun ρ w E => ex_call E en_palaver_palaverref18_has rfl rfl) (fun w H => (rhas_any mk 98 hf.h1 w).mono fun _ _ h => ⟨by rw [h.1, hh98], h.2⟩) ?_
                refine SxL.val (v := .bool true) ⟨_, _, rfl, rfl, rfl⟩ rfl rfl (fun ρ w E H => ex_not (t := false) E rfl rfl) ?_
                refine SxL.val ⟨_, _, rfl, rfl, rfl⟩ rfl rfl (fun ρ w E H => ex_move E rfl rfl) ?_
                refine SxL.val (v := .pointer (some ⟨g1, 1, none⟩)) ⟨_, _, rfl, rfl, rfl⟩ rfl rfl (fun ρ w E H => ex_field E rfl fa_palaver_api_Msg_1 rfl rfl) ?_
                refine SxL.val ⟨_, _, rfl, rfl, rfl⟩ rfl rfl (fun ρ w E H => ex_load (part := [.int .u64 (mn : Int), .int .u8 (mr : Int)]) E (H.get (i := 1) rfl) rfl rfl Tryz.underlying24 rfl sz_palaver_api_Ballot rfl rfl) ?_
                refine SxL.val ⟨_, _, rfl, rfl, rfl⟩ rfl rfl (fun ρ w E H => ex_build (cs := [.int .u64 0, .int .u8 0]) E rfl rfl (by kernel_rfl)) ?_
                refine SxL.valB ⟨_, _, rfl, rfl, rfl⟩ rfl rfl (fun ρ w E H => ex_aneq E rfl (by kernel_rfl) rfl rfl (fun w => by rw [Bool.not_not]; exact eq_bal mn mr 0 0 w)) fun c125 hc125 => ?_
                refine SxL.val ⟨_, _, rfl, rfl, rfl⟩ rfl rfl (fun ρ w E H => ex_pick E rfl (t := true) rfl rfl) ?_
                refine SxL.val trivial rfl rfl (fun ρ w E H => ex_pick E rfl (t := false) rfl rfl) ?_
                refine SxL.nil ?_
                have hq : c125 = bad3 (hasS (chars mk) 111) (hasS (chars mk) 98) mo mn mr := by rw [hh111, hh98]; unfold bad3; grind [cmpB]
                refine SxN.meet c125 hq ⟨rfl, rfl, rfl, trivial⟩ [0, 1] rfl (by decide) ⟨.inl rfl, .inl rfl, trivial⟩
              · refine SxL.val (v := .pointer (some ⟨g1, 1, none⟩)) ⟨_, _, rfl, rfl, rfl⟩ rfl rfl (fun ρ w E H => ex_field E rfl fa_palaver_api_Msg_1 rfl rfl) ?_
                refine SxL.val ⟨_, _, rfl, rfl, rfl⟩ rfl rfl (fun ρ w E H => ex_load (part := [.int .u64 (mn : Int), .int .u8 (mr : Int)]) E (H.get (i := 1) rfl) rfl rfl Tryz.underlying24 rfl sz_palaver_api_Ballot rfl rfl) ?_
                refine SxL.callBB (b := (goodB mn mr)) ⟨_, _, rfl, rfl, rfl⟩ rfl rfl (fun ρ w E => ex_call E en_palaver_palaverref18_good rfl rfl) (fun w H => rgood_any mn mr w) fun c112 hc112 => ?_
                cases c112
                · refine SxL.val (v := .bool true) ⟨_, _, rfl, rfl, rfl⟩ rfl rfl (fun ρ w E H => ex_not (t := false) E rfl rfl) ?_
                  refine SxL.val ⟨_, _, rfl, rfl, rfl⟩ rfl rfl (fun ρ w E H => ex_pick E rfl (t := true) rfl rfl) ?_
                  refine SxL.val trivial rfl rfl (fun ρ w E H => ex_pick E rfl (t := false) rfl rfl) ?_
                  refine SxL.val trivial rfl rfl (fun ρ w E H => ex_move E rfl rfl) ?_
                  iterate 10 refine SxL.off ⟨_, _, _, rfl, rfl, rfl, nofun⟩ rfl rfl ?_
                  refine SxL.val trivial rfl rfl (fun ρ w E H => ex_pick E rfl (t := true) rfl rfl) ?_
                  refine SxL.nil ?_
                  have hq : true = bad3 (hasS (chars mk) 111) (hasS (chars mk) 98) mo mn mr := by rw [hh111, hh98]; unfold bad3; grind [cmpB]
                  refine SxN.meet true hq ⟨rfl, rfl, rfl, trivial⟩ [0, 1] rfl (by decide) ⟨.inl rfl, .inl rfl, trivial⟩
                · refine SxL.val (v := .bool false) ⟨_, _, rfl, rfl, rfl⟩ rfl rfl (fun ρ w E H => ex_not (t := true) E rfl rfl) ?_
                  refine SxL.val ⟨_, _, rfl, rfl, rfl⟩ rfl rfl (fun ρ w E H => ex_pick E rfl (t := true) rfl rfl) ?_
                  refine SxL.val trivial rfl rfl (fun ρ w E H => ex_pick E rfl (t := false) rfl rfl) ?_
                  refine SxL.val trivial rfl rfl (fun ρ w E H => ex_move E rfl rfl) ?_
                  refine SxL.val (v := .pointer (some ⟨g1, 0, none⟩)) ⟨_, _, rfl, rfl, rfl⟩ rfl rfl (fun ρ w E H => ex_field E rfl fa_palaver_api_Msg_0 rfl rfl) ?_
                  refine SxL.val ⟨_, _, rfl, rfl, rfl⟩ rfl rfl (fun ρ w E H => ex_load1 E (H.get (i := 1) rfl) rfl rfl Tryz.underlying5 rfl rfl) ?_
                  refine SxL.callB (v := .bool true) ⟨_, _, rfl, rfl, rfl⟩ rfl rfl (fun ρ w E => ex_call E en_palaver_palaverref18_has rfl rfl) (fun w H => (rhas_any mk 98 hf.h1 w).mono fun _ _ h => ⟨by rw [h.1, hh98], h.2⟩) ?_
                  refine SxL.val (v := .bool false) ⟨_, _, rfl, rfl, rfl⟩ rfl rfl (fun ρ w E H => ex_not (t := true) E rfl rfl) ?_
                  refine SxL.val ⟨_, _, rfl, rfl, rfl⟩ rfl rfl (fun ρ w E H => ex_move E rfl rfl) ?_
                  iterate 4 refine SxL.off ⟨_, _, _, rfl, rfl, rfl, nofun⟩ rfl rfl ?_
                  refine SxL.val ⟨_, _, rfl, rfl, rfl⟩ rfl rfl (fun ρ w E H => ex_pick E rfl (t := false) rfl rfl) ?_
                  refine SxL.val trivial rfl rfl (fun ρ w E H => ex_pick E rfl (t := false) rfl rfl) ?_
                  refine SxL.nil ?_
                  have hq : false = bad3 (hasS (chars mk) 111) (hasS (chars mk) 98) mo mn mr := by rw [hh111, hh98]; unfold bad3; grind [cmpB]
                  refine SxN.meet false hq ⟨rfl, rfl, rfl, trivial⟩ [0, 1] rfl (by decide) ⟨.inl rfl, .inl rfl, trivial⟩
          · refine SxL.off ⟨_, _, _, rfl, rfl, rfl, nofun⟩ rfl rfl ?_
            iterate 8 refine SxL.off ⟨_, _, _, rfl, rfl, rfl, nofun⟩ rfl rfl ?_
            refine SxL.val trivial rfl rfl (fun ρ w E H => ex_pick E rfl (t := true) rfl rfl) ?_
            refine SxL.val trivial rfl rfl (fun ρ w E H => ex_move E rfl rfl) ?_
            iterate 9 refine SxL.off ⟨_, _, _, rfl, rfl, rfl, nofun⟩ rfl rfl ?_
            refine SxL.val trivial rfl rfl (fun ρ w E H => ex_pick E rfl (t := true) rfl rfl) ?_
            refine SxL.val trivial rfl rfl (fun ρ w E H => ex_move E rfl rfl) ?_
            iterate 10 refine SxL.off ⟨_, _, _, rfl, rfl, rfl, nofun⟩ rfl rfl ?_
            refine SxL.val trivial rfl rfl (fun ρ w E H => ex_pick E rfl (t := true) rfl rfl) ?_
            refine SxL.nil ?_
            have hq : true = bad3 (hasS (chars mk) 111) (hasS (chars mk) 98) mo mn mr := by rw [hh111, hh98]; unfold bad3; grind [cmpB]
            refine SxN.meet true hq ⟨rfl, rfl, rfl, trivial⟩ [0, 1] rfl (by decide) ⟨.inl rfl, .inl rfl, trivial⟩
        refine SxN.then_ ?_
        cases b127
        · refine SxC.condF rfl (SxC.skip (SxN.then_ (SxC.seq (SxC.region ?_))))
          refine SxL.val trivial rfl rfl (fun ρ w E H => ex_assign E rfl rfl) ?_
          refine SxL.nil (SxN.then_ (SxC.seq (SxC.seq ?_)))
          refine SxC.cut1 (fun (b175 : Bool) => [(1, .pointer (some ⟨g1, 0, none⟩)), (3, .pointer (some ⟨g2, 0, none⟩)), (4, .int .u64 4611686018427387904), (175, .bool b175)]) (fun _ => [cell g2 29 [.int .u8 (ca : Int), .int .u32 (cb : Int), .int .u8 (ck : Int), .string ⟨cs.toArray⟩, .string ⟨ct.toArray⟩, .string ⟨cu.toArray⟩, .int .u8 (cz : Int)], cell g1 33 [.int .u8 (mk : Int), .int .u64 (mn : Int), .int .u8 (mr : Int), .int .u64 (mb : Int), .int .u64 (ms : Int), .int .u8 (mo : Int), .string ⟨mv.toArray⟩, .slice A vl.length ka, .slice B il.length kb, .int .u8 (ca : Int), .int .u32 (cb : Int), .int .u8 (ck : Int), .string ⟨cs.toArray⟩, .string ⟨ct.toArray⟩, .string ⟨cu.toArray⟩, .int .u8 (cz : Int), .int .u8 (mc : Int), .string ⟨mt.toArray⟩]]) (fun b175 => b175 = bad4 (hasS (chars mk) 97) (hasS (chars mk) 117) (hasS (chars mk) 115) mb ms) ?_ fun b175 hb175 => ?_
          · refine SxC.region ?_
            refine SxL.val (v := .pointer (some ⟨g1, 3, none⟩)) trivial rfl rfl (fun ρ w E H => ex_field E rfl fa_palaver_api_Msg_2 rfl rfl) ?_
            refine SxL.val trivial rfl rfl (fun ρ w E H => ex_load1 E (H.get (i := 1) rfl) rfl rfl Tryz.underlying22 rfl rfl) ?_
            refine SxL.val trivial rfl rfl (fun ρ w E H => ex_move E rfl rfl) ?_
            refine SxL.valB trivial rfl rfl (fun ρ w E H => ex_cmp E rfl rfl rfl rfl rfl) fun c131 hc131 => ?_
            refine SxL.val trivial rfl rfl (fun ρ w E H => ex_move E rfl rfl) ?_
            cases c131
            · refine SxL.val (v := .pointer (some ⟨g1, 4, none⟩)) ⟨_, _, rfl, rfl, rfl⟩ rfl rfl (fun ρ w E H => ex_field E rfl fa_palaver_api_Msg_3 rfl rfl) ?_
              refine SxL.val ⟨_, _, rfl, rfl, rfl⟩ rfl rfl (fun ρ w E H => ex_load1 E (H.get (i := 1) rfl) rfl rfl Tryz.underlying22 rfl rfl) ?_
              refine SxL.val ⟨_, _, rfl, rfl, rfl⟩ rfl rfl (fun ρ w E H => ex_move E rfl rfl) ?_
              refine SxL.valB ⟨_, _, rfl, rfl, rfl⟩ rfl rfl (fun ρ w E H => ex_cmp E rfl rfl rfl rfl rfl) fun c136 hc136 => ?_
              refine SxL.val trivial rfl rfl (fun ρ w E H => ex_pick E rfl (t := false) rfl rfl) ?_
              refine SxL.val trivial rfl rfl (fun ρ w E H => ex_move E rfl rfl) ?_
              cases c136
              · refine SxL.val (v := .pointer (some ⟨g1, 0, none⟩)) ⟨_, _, rfl, rfl, rfl⟩ rfl rfl (fun ρ w E H => ex_field E rfl fa_palaver_api_Msg_0 rfl rfl) ?_
                refine SxL.val ⟨_, _, rfl, rfl, rfl⟩ rfl rfl (fun ρ w E H => ex_load1 E (H.get (i := 1) rfl) rfl rfl Tryz.underlying5 rfl rfl) ?_
                refine SxL.callB (v := .bool h97) ⟨_, _, rfl, rfl, rfl⟩ rfl rfl (fun ρ w E => ex_call E en_palaver_palaverref18_has rfl rfl) (fun w H => (rhas_any mk 97 hf.h1 w).mono fun _ _ h => ⟨by rw [h.1, hh97], h.2⟩) ?_
                cases h97
                · refine SxL.val (v := .bool true) ⟨_, _, rfl, rfl, rfl⟩ rfl rfl (fun ρ w E H => ex_not (t := false) E rfl rfl) ?_
                  refine SxL.val ⟨_, _, rfl, rfl, rfl⟩ rfl rfl (fun ρ w E H => ex_move E rfl rfl) ?_
                  refine SxL.val (v := .pointer (some ⟨g1, 3, none⟩)) ⟨_, _, rfl, rfl, rfl⟩ rfl rfl (fun ρ w E H => ex_field E rfl fa_palaver_api_Msg_2 rfl rfl) ?_
                  refine SxL.val ⟨_, _, rfl, rfl, rfl⟩ rfl rfl (fun ρ w E H => ex_load1 E (H.get (i := 1) rfl) rfl rfl Tryz.underlying22 rfl rfl) ?_
                  refine SxL.valB ⟨_, _, rfl, rfl, rfl⟩ rfl rfl (fun ρ w E H => ex_cmp E rfl rfl rfl rfl rfl) fun c146 hc146 => ?_
                  refine SxL.val ⟨_, _, rfl, rfl, rfl⟩ rfl rfl (fun ρ w E H => ex_pick E rfl (t := true) rfl rfl) ?_
                  refine SxL.val trivial rfl rfl (fun ρ w E H => ex_pick E rfl (t := false) rfl rfl) ?_
                  refine SxL.val trivial rfl rfl (fun ρ w E H => ex_move E rfl rfl) ?_
                  cases c146
                  · refine SxL.val (v := .pointer (some ⟨g1, 0, none⟩)) ⟨_, _, rfl, rfl, rfl⟩ rfl rfl (fun ρ w E H => ex_field E rfl fa_palaver_api_Msg_0 rfl rfl) ?_
                    refine SxL.val ⟨_, _, rfl, rfl, rfl⟩ rfl rfl (fun ρ w E H => ex_load1 E (H.get (i := 1) rfl) rfl rfl Tryz.underlying5 rfl rfl) ?_
                    refine SxL.callB (v := .bool h117) ⟨_, _, rfl, rfl, rfl⟩ rfl rfl (fun ρ w E => ex_call E en_palaver_palaverref18_has rfl rfl) (fun w H => (rhas_any mk 117 hf.h1 w).mono fun _ _ h => ⟨by rw [h.1, hh117], h.2⟩) ?_
                    cases h117
                    · refine SxL.val (v := .bool true) ⟨_, _, rfl, rfl, rfl⟩ rfl rfl (fun ρ w E H => ex_not (t := false) E rfl rfl) ?_
                      refine SxL.val ⟨_, _, rfl, rfl, rfl⟩ rfl rfl (fun ρ w E H => ex_move E rfl rfl) ?_
                      refine SxL.val (v := .pointer (some ⟨g1, 0, none⟩)) ⟨_, _, rfl, rfl, rfl⟩ rfl rfl (fun ρ w E H => ex_field E rfl fa_palaver_api_Msg_0 rfl rfl) ?_
                      refine SxL.val ⟨_, _, rfl, rfl, rfl⟩ rfl rfl (fun ρ w E H => ex_load1 E (H.get (i := 1) rfl) rfl rfl Tryz.underlying5 rfl rfl) ?_
                      refine SxL.callB (v := .bool h115) ⟨_, _, rfl, rfl, rfl⟩ rfl rfl (fun ρ w E => ex_call E en_palaver_palaverref18_has rfl rfl) (fun w H => (rhas_any mk 115 hf.h1 w).mono fun _ _ h => ⟨by rw [h.1, hh115], h.2⟩) ?_
                      cases h115
                      · refine SxL.val (v := .bool true) ⟨_, _, rfl, rfl, rfl⟩ rfl rfl (fun ρ w E H => ex_not (t := false) E rfl rfl) ?_
                        refine SxL.val ⟨_, _, rfl, rfl, rfl⟩ rfl rfl (fun ρ w E H => ex_pick E rfl (t := true) rfl rfl) ?_
                        refine SxL.val ⟨_, _, rfl, rfl, rfl⟩ rfl rfl (fun ρ w E H => ex_move E rfl rfl) ?_
                        refine SxL.val (v := .pointer (some ⟨g1, 4, none⟩)) ⟨_, _, rfl, rfl, rfl⟩ rfl rfl (fun ρ w E H => ex_field E rfl fa_palaver_api_Msg_3 rfl rfl) ?_
                        refine SxL.val ⟨_, _, rfl, rfl, rfl⟩ rfl rfl (fun ρ w E H => ex_load1 E (H.get (i := 1) rfl) rfl rfl Tryz.underlying22 rfl rfl) ?_
                        refine SxL.valB ⟨_, _, rfl, rfl, rfl⟩ rfl rfl (fun ρ w E H => ex_cmp E rfl rfl rfl rfl rfl) fun c163 hc163 => ?_
                        refine SxL.val ⟨_, _, rfl, rfl, rfl⟩ rfl rfl (fun ρ w E H => ex_pick E rfl (t := true) rfl rfl) ?_
                        refine SxL.val trivial rfl rfl (fun ρ w E H => ex_pick E rfl (t := false) rfl rfl) ?_
                        refine SxL.val trivial rfl rfl (fun ρ w E H => ex_move E rfl rfl) ?_
                        cases c163
                        · refine SxL.val (v := .pointer (some ⟨g1, 0, none⟩)) ⟨_, _, rfl, rfl, rfl⟩ rfl rfl (fun ρ w E H => ex_field E rfl fa_palaver_api_Msg_0 rfl rfl) ?_
                          refine SxL.val ⟨_, _, rfl, rfl, rfl⟩ rfl rfl (fun ρ w E H => ex_load1 E (H.get (i := 1) rfl) rfl rfl Tryz.underlying5 rfl rfl) ?_
                          refine SxL.callB (v := .bool false) ⟨_, _, rfl, rfl, rfl⟩ rfl rfl (fun ρ w E => ex_call E en_palaver_palaverref18_has rfl rfl) (fun w H => (rhas_any mk 115 hf.h1 w).mono fun _ _ h => ⟨by rw [h.1, hh115], h.2⟩) ?_
                          refine SxL.val ⟨_, _, rfl, rfl, rfl⟩ rfl rfl (fun ρ w E H => ex_move E rfl rfl) ?_
                          iterate 3 refine SxL.off ⟨_, _, _, rfl, rfl, rfl, nofun⟩ rfl rfl ?_
                          refine SxL.val ⟨_, _, rfl, rfl, rfl⟩ rfl rfl (fun ρ w E H => ex_pick E rfl (t := false) rfl rfl) ?_
                          refine SxL.val trivial rfl rfl (fun ρ w E H => ex_pick E rfl (t := false) rfl rfl) ?_
                          refine SxL.nil ?_
                          have hq : false = bad4 (hasS (chars mk) 97) (hasS (chars mk) 117) (hasS (chars mk) 115) mb ms := by rw [hh97, hh117, hh115]; unfold bad4; grind [cmpB]
                          refine SxN.meet false hq ⟨rfl, rfl, rfl, rfl, trivial⟩ [0, 1] rfl (by decide) ⟨.inl rfl, .inl rfl, trivial⟩
                        · refine SxL.off ⟨_, _, _, rfl, rfl, rfl, nofun⟩ rfl rfl ?_
                          iterate 7 refine SxL.off ⟨_, _, _, rfl, rfl, rfl, nofun⟩ rfl rfl ?_
                          refine SxL.val trivial rfl rfl (fun ρ w E H => ex_pick E rfl (t := true) rfl rfl) ?_
                          refine SxL.nil ?_
                          have hq : true = bad4 (hasS (chars mk) 97) (hasS (chars mk) 117) (hasS (chars mk) 115) mb ms := by rw [hh97, hh117, hh115]; unfold bad4; grind [cmpB]
                          refine SxN.meet true hq ⟨rfl, rfl, rfl, rfl, trivial⟩ [0, 1] rfl (by decide) ⟨.inl rfl, .inl rfl, trivial⟩
                      · refine SxL.val (v := .bool false) ⟨_, _, rfl, rfl, rfl⟩ rfl rfl (fun ρ w E H => ex_not (t := true) E rfl rfl) ?_
                        refine SxL.val ⟨_, _, rfl, rfl, rfl⟩ rfl rfl (fun ρ w E H => ex_pick E rfl (t := true) rfl rfl) ?_
                        refine SxL.val ⟨_, _, rfl, rfl, rfl⟩ rfl rfl (fun ρ w E H => ex_move E rfl rfl) ?_
                        iterate 3 refine SxL.off ⟨_, _, _, rfl, rfl, rfl, nofun⟩ rfl rfl ?_
                        refine SxL.val ⟨_, _, rfl, rfl, rfl⟩ rfl rfl (fun ρ w E H => ex_pick E rfl (t := false) rfl rfl) ?_
                        refine SxL.val trivial rfl rfl (fun ρ w E H => ex_pick E rfl (t := false) rfl rfl) ?_
                        refine SxL.val trivial rfl rfl (fun ρ w E H => ex_move E rfl rfl) ?_
                        refine SxL.val (v := .pointer (some ⟨g1, 0, none⟩)) ⟨_, _, rfl, rfl, rfl⟩ rfl rfl (fun ρ w E H => ex_field E rfl fa_palaver_api_Msg_0 rfl rfl) ?_
                        refine SxL.val ⟨_, _, rfl, rfl, rfl⟩ rfl rfl (fun ρ w E H => ex_load1 E (H.get (i := 1) rfl) rfl rfl Tryz.underlying5 rfl rfl) ?_
                        refine SxL.callB (v := .bool true) ⟨_, _, rfl, rfl, rfl⟩ rfl rfl (fun ρ w E => ex_call E en_palaver_palaverref18_has rfl rfl) (fun w H => (rhas_any mk 115 hf.h1 w).mono fun _ _ h => ⟨by rw [h.1, hh115], h.2⟩) ?_
                        refine SxL.val ⟨_, _, rfl, rfl, rfl⟩ rfl rfl (fun ρ w E H => ex_move E rfl rfl) ?_
                        refine SxL.val (v := .pointer (some ⟨g1, 4, none⟩)) ⟨_, _, rfl, rfl, rfl⟩ rfl rfl (fun ρ w E H => ex_field E rfl fa_palaver_api_Msg_3 rfl rfl) ?_
                        refine SxL.val ⟨_, _, rfl, rfl, rfl⟩ rfl rfl (fun ρ w E H => ex_load1 E (H.get (i := 1) rfl) rfl rfl Tryz.underlying22 rfl rfl) ?_
                        refine SxL.valB ⟨_, _, rfl, rfl, rfl⟩ rfl rfl (fun ρ w E H => ex_cmp E rfl rfl rfl rfl rfl) fun c173 hc173 => ?_
                        refine SxL.val ⟨_, _, rfl, rfl, rfl⟩ rfl rfl (fun ρ w E H => ex_pick E rfl (t := true) rfl rfl) ?_
                        refine SxL.val trivial rfl rfl (fun ρ w E H => ex_pick E rfl (t := false) rfl rfl) ?_
                        refine SxL.nil ?_
                        have hq : c173 = bad4 (hasS (chars mk) 97) (hasS (chars mk) 117) (hasS (chars mk) 115) mb ms := by rw [hh97, hh117, hh115]; unfold bad4; grind [cmpB]
                        refine SxN.meet c173 hq ⟨rfl, rfl, rfl, rfl, trivial⟩ [0, 1] rfl (by decide) ⟨.inl rfl, .inl rfl, trivial⟩
                    · refine SxL.val (v := .bool false) ⟨_, _, rfl, rfl, rfl⟩ rfl rfl (fun ρ w E H => ex_not (t := true) E rfl rfl) ?_
                      refine SxL.val ⟨_, _, rfl, rfl, rfl⟩ rfl rfl (fun ρ w E H => ex_move E rfl rfl) ?_
                      iterate 4 refine SxL.off ⟨_, _, _, rfl, rfl, rfl, nofun⟩ rfl rfl ?_
                      refine SxL.val ⟨_, _, rfl, rfl, rfl⟩ rfl rfl (fun ρ w E H => ex_pick E rfl (t := false) rfl rfl) ?_
                      refine SxL.val ⟨_, _, rfl, rfl, rfl⟩ rfl rfl (fun ρ w E H => ex_move E rfl rfl) ?_
                      iterate 3 refine SxL.off ⟨_, _, _, rfl, rfl, rfl, nofun⟩ rfl rfl ?_
                      refine SxL.val ⟨_, _, rfl, rfl, rfl⟩ rfl rfl (fun ρ w E H => ex_pick E rfl (t := false) rfl rfl) ?_
                      refine SxL.val trivial rfl rfl (fun ρ w E H => ex_pick E rfl (t := false) rfl rfl) ?_
                      refine SxL.val trivial rfl rfl (fun ρ w E H => ex_move E rfl rfl) ?_
                      refine SxL.val (v := .pointer (some ⟨g1, 0, none⟩)) ⟨_, _, rfl, rfl, rfl⟩ rfl rfl (fun ρ w E H => ex_field E rfl fa_palaver_api_Msg_0 rfl rfl) ?_
                      refine SxL.val ⟨_, _, rfl, rfl, rfl⟩ rfl rfl (fun ρ w E H => ex_load1 E (H.get (i := 1) rfl) rfl rfl Tryz.underlying5 rfl rfl) ?_
                      refine SxL.callB (v := .bool h115) ⟨_, _, rfl, rfl, rfl⟩ rfl rfl (fun ρ w E => ex_call E en_palaver_palaverref18_has rfl rfl) (fun w H => (rhas_any mk 115 hf.h1 w).mono fun _ _ h => ⟨by rw [h.1, hh115], h.2⟩) ?_
                      refine SxL.val ⟨_, _, rfl, rfl, rfl⟩ rfl rfl (fun ρ w E H => ex_move E rfl rfl) ?_
                      cases h115
                      · refine SxL.off ⟨_, _, _, rfl, rfl, rfl, nofun⟩ rfl rfl ?_
                        iterate 2 refine SxL.off ⟨_, _, _, rfl, rfl, rfl, nofun⟩ rfl rfl ?_
                        refine SxL.val ⟨_, _, rfl, rfl, rfl⟩ rfl rfl (fun ρ w E H => ex_pick E rfl (t := false) rfl rfl) ?_
                        refine SxL.val trivial rfl rfl (fun ρ w E H => ex_pick E rfl (t := false) rfl rfl) ?_
                        refine SxL.nil ?_
                        have hq : false = bad4 (hasS (chars mk) 97) (hasS (chars mk) 117) (hasS (chars mk) 115) mb ms := by rw [hh97, hh117, hh115]; unfold bad4; grind [cmpB]
                        refine SxN.meet false hq ⟨rfl, rfl, rfl, rfl, trivial⟩ [0, 1] rfl (by decide) ⟨.inl rfl, .inl rfl, trivial⟩
                      · refine SxL.val (v := .pointer (some ⟨g1, 4, none⟩)) ⟨_, _, rfl, rfl, rfl⟩ rfl rfl (fun ρ w E H => ex_field E rfl fa_palaver_api_Msg_3 rfl rfl) ?_
                        refine SxL.val ⟨_, _, rfl, rfl, rfl⟩ rfl rfl (fun ρ w E H => ex_load1 E (H.get (i := 1) rfl) rfl rfl Tryz.underlying22 rfl rfl) ?_
                        refine SxL.valB ⟨_, _, rfl, rfl, rfl⟩ rfl rfl (fun ρ w E H => ex_cmp E rfl rfl rfl rfl rfl) fun c173 hc173 => ?_
                        refine SxL.val ⟨_, _, rfl, rfl, rfl⟩ rfl rfl (fun ρ w E H => ex_pick E rfl (t := true) rfl rfl) ?_
                        refine SxL.val trivial rfl rfl (fun ρ w E H => ex_pick E rfl (t := false) rfl rfl) ?_
                        refine SxL.nil ?_
                        have hq : c173 = bad4 (hasS (chars mk) 97) (hasS (chars mk) 117) (hasS (chars mk) 115) mb ms := by rw [hh97, hh117, hh115]; unfold bad4; grind [cmpB]
                        refine SxN.meet c173 hq ⟨rfl, rfl, rfl, rfl, trivial⟩ [0, 1] rfl (by decide) ⟨.inl rfl, .inl rfl, trivial⟩
                  · refine SxL.off ⟨_, _, _, rfl, rfl, rfl, nofun⟩ rfl rfl ?_
                    iterate 14 refine SxL.off ⟨_, _, _, rfl, rfl, rfl, nofun⟩ rfl rfl ?_
                    refine SxL.val trivial rfl rfl (fun ρ w E H => ex_pick E rfl (t := true) rfl rfl) ?_
                    refine SxL.val trivial rfl rfl (fun ρ w E H => ex_move E rfl rfl) ?_
                    iterate 8 refine SxL.off ⟨_, _, _, rfl, rfl, rfl, nofun⟩ rfl rfl ?_
                    refine SxL.val trivial rfl rfl (fun ρ w E H => ex_pick E rfl (t := true) rfl rfl) ?_
                    refine SxL.nil ?_
                    have hq : true = bad4 (hasS (chars mk) 97) (hasS (chars mk) 117) (hasS (chars mk) 115) mb ms := by rw [hh97, hh117, hh115]; unfold bad4; grind [cmpB]
                    refine SxN.meet true hq ⟨rfl, rfl, rfl, rfl, trivial⟩ [0, 1] rfl (by decide) ⟨.inl rfl, .inl rfl, trivial⟩
                · refine SxL.val (v := .bool false) ⟨_, _, rfl, rfl, rfl⟩ rfl rfl (fun ρ w E H => ex_not (t := true) E rfl rfl) ?_
                  refine SxL.val ⟨_, _, rfl, rfl, rfl⟩ rfl rfl (fun ρ w E H => ex_move E rfl rfl) ?_
                  iterate 3 refine SxL.off ⟨_, _, _, rfl, rfl, rfl, nofun⟩ rfl rfl ?_
                  refine SxL.val ⟨_, _, rfl, rfl, rfl⟩ rfl rfl (fun ρ w E H => ex_pick E rfl (t := false) rfl rfl) ?_
                  refine SxL.val trivial rfl rfl (fun ρ w E H => ex_pick E rfl (t := false) rfl rfl) ?_
                  refine SxL.val trivial rfl rfl (fun ρ w E H => ex_move E rfl rfl) ?_
                  refine SxL.val (v := .pointer (some ⟨g1, 0, none⟩)) ⟨_, _, rfl, rfl, rfl⟩ rfl rfl (fun ρ w E H => ex_field E rfl fa_palaver_api_Msg_0 rfl rfl) ?_
                  refine SxL.val ⟨_, _, rfl, rfl, rfl⟩ rfl rfl (fun ρ w E H => ex_load1 E (H.get (i := 1) rfl) rfl rfl Tryz.underlying5 rfl rfl) ?_
                  refine SxL.callB (v := .bool h117) ⟨_, _, rfl, rfl, rfl⟩ rfl rfl (fun ρ w E => ex_call E en_palaver_palaverref18_has rfl rfl) (fun w H => (rhas_any mk 117 hf.h1 w).mono fun _ _ h => ⟨by rw [h.1, hh117], h.2⟩) ?_
                  cases h117
                  · refine SxL.val (v := .bool true) ⟨_, _, rfl, rfl, rfl⟩ rfl rfl (fun ρ w E H => ex_not (t := false) E rfl rfl) ?_
                    refine SxL.val ⟨_, _, rfl, rfl, rfl⟩ rfl rfl (fun ρ w E H => ex_move E rfl rfl) ?_
                    refine SxL.val (v := .pointer (some ⟨g1, 0, none⟩)) ⟨_, _, rfl, rfl, rfl⟩ rfl rfl (fun ρ w E H => ex_field E rfl fa_palaver_api_Msg_0 rfl rfl) ?_
                    refine SxL.val ⟨_, _, rfl, rfl, rfl⟩ rfl rfl (fun ρ w E H => ex_load1 E (H.get (i := 1) rfl) rfl rfl Tryz.underlying5 rfl rfl) ?_
                    refine SxL.callB (v := .bool h115) ⟨_, _, rfl, rfl, rfl⟩ rfl rfl (fun ρ w E => ex_call E en_palaver_palaverref18_has rfl rfl) (fun w H => (rhas_any mk 115 hf.h1 w).mono fun _ _ h => ⟨by rw [h.1, hh115], h.2⟩) ?_
                    cases h115
                    · refine SxL.val (v := .bool true) ⟨_, _, rfl, rfl, rfl⟩ rfl rfl (fun ρ w E H => ex_not (t := false) E rfl rfl) ?_
                      refine SxL.val ⟨_, _, rfl, rfl, rfl⟩ rfl rfl (fun ρ w E H => ex_pick E rfl (t := true) rfl rfl) ?_
                      refine SxL.val ⟨_, _, rfl, rfl, rfl⟩ rfl rfl (fun ρ w E H => ex_move E rfl rfl) ?_
                      refine SxL.val (v := .pointer (some ⟨g1, 4, none⟩)) ⟨_, _, rfl, rfl, rfl⟩ rfl rfl (fun ρ w E H => ex_field E rfl fa_palaver_api_Msg_3 rfl rfl) ?_
                      refine SxL.val ⟨_, _, rfl, rfl, rfl⟩ rfl rfl (fun ρ w E H => ex_load1 E (H.get (i := 1) rfl) rfl rfl Tryz.underlying22 rfl rfl) ?_
                      refine SxL.valB ⟨_, _, rfl, rfl, rfl⟩ rfl rfl (fun ρ w E H => ex_cmp E rfl rfl rfl rfl rfl) fun c163 hc163 => ?_
                      refine SxL.val ⟨_, _, rfl, rfl, rfl⟩ rfl rfl (fun ρ w E H => ex_pick E rfl (t := true) rfl rfl) ?_
                      refine SxL.val trivial rfl rfl (fun ρ w E H => ex_pick E rfl (t := false) rfl rfl) ?_
                      refine SxL.val trivial rfl rfl (fun ρ w E H => ex_move E rfl rfl) ?_
                      cases c163
                      · refine SxL.val (v := .pointer (some ⟨g1, 0, none⟩)) ⟨_, _, rfl, rfl, rfl⟩ rfl rfl (fun ρ w E H => ex_field E rfl fa_palaver_api_Msg_0 rfl rfl) ?_
                        refine SxL.val ⟨_, _, rfl, rfl, rfl⟩ rfl rfl (fun ρ w E H => ex_load1 E (H.get (i := 1) rfl) rfl rfl Tryz.underlying5 rfl rfl) ?_
                        refine SxL.callB (v := .bool false) ⟨_, _, rfl, rfl, rfl⟩ rfl rfl (fun ρ w E => ex_call E en_palaver_palaverref18_has rfl rfl) (fun w H => (rhas_any mk 115 hf.h1 w).mono fun _ _ h => ⟨by rw [h.1, hh115], h.2⟩) ?_
                        refine SxL.val ⟨_, _, rfl, rfl, rfl⟩ rfl rfl (fun ρ w E H => ex_move E rfl rfl) ?_
                        iterate 3 refine SxL.off ⟨_, _, _, rfl, rfl, rfl, nofun⟩ rfl rfl ?_
                        refine SxL.val ⟨_, _, rfl, rfl, rfl⟩ rfl rfl (fun ρ w E H => ex_pick E rfl (t := false) rfl rfl) ?_
                        refine SxL.val trivial rfl rfl (fun ρ w E H => ex_pick E rfl (t := false) rfl rfl) ?_
                        refine SxL.nil ?_
                        have hq : false = bad4 (hasS (chars mk) 97) (hasS (chars mk) 117) (hasS (chars mk) 115) mb ms := by rw [hh97, hh117, hh115]; unfold bad4; grind [cmpB]
                        refine SxN.meet false hq ⟨rfl, rfl, rfl, rfl, trivial⟩ [0, 1] rfl (by decide) ⟨.inl rfl, .inl rfl, trivial⟩
                      · refine SxL.off ⟨_, _, _, rfl, rfl, rfl, nofun⟩ rfl rfl ?_
                        iterate 7 refine SxL.off ⟨_, _, _, rfl, rfl, rfl, nofun⟩ rfl rfl ?_
                        refine SxL.val trivial rfl rfl (fun ρ w E H => ex_pick E rfl (t := true) rfl rfl) ?_
                        refine SxL.nil ?_
                        have hq : true = bad4 (hasS (chars mk) 97) (hasS (chars mk) 117) (hasS (chars mk) 115) mb ms := by rw [hh97, hh117, hh115]; unfold bad4; grind [cmpB]
                        refine SxN.meet true hq ⟨rfl, rfl, rfl, rfl, trivial⟩ [0, 1] rfl (by decide) ⟨.inl rfl, .inl rfl, trivial⟩
                    · refine SxL.val (v := .bool false) ⟨_, _, rfl, rfl, rfl⟩ rfl rfl (fun ρ w E H => ex_not (t := true) E rfl rfl) ?_
                      refine SxL.val ⟨_, _, rfl, rfl, rfl⟩ rfl rfl (fun ρ w E H => ex_pick E rfl (t := true) rfl rfl) ?_
                      refine SxL.val ⟨_, _, rfl, rfl, rfl⟩ rfl rfl (fun ρ w E H => ex_move E rfl rfl) ?_
                      iterate 3 refine SxL.off ⟨_, _, _, rfl, rfl, rfl, nofun⟩ rfl rfl ?_
                      refine SxL.val ⟨_, _, rfl, rfl, rfl⟩ rfl rfl (fun ρ w E H => ex_pick E rfl (t := false) rfl rfl) ?_
                      refine SxL.val trivial rfl rfl (fun ρ w E H => ex_pick E rfl (t := false) rfl rfl) ?_
                      refine SxL.val trivial rfl rfl (fun ρ w E H => ex_move E rfl rfl) ?_
                      refine SxL.val (v := .pointer (some ⟨g1, 0, none⟩)) ⟨_, _, rfl, rfl, rfl⟩ rfl rfl (fun ρ w E H => ex_field E rfl fa_palaver_api_Msg_0 rfl rfl) ?_
                      refine SxL.val ⟨_, _, rfl, rfl, rfl⟩ rfl rfl (fun ρ w E H => ex_load1 E (H.get (i := 1) rfl) rfl rfl Tryz.underlying5 rfl rfl) ?_
                      refine SxL.callB (v := .bool true) ⟨_, _, rfl, rfl, rfl⟩ rfl rfl (fun ρ w E => ex_call E en_palaver_palaverref18_has rfl rfl) (fun w H => (rhas_any mk 115 hf.h1 w).mono fun _ _ h => ⟨by rw [h.1, hh115], h.2⟩) ?_
                      refine SxL.val ⟨_, _, rfl, rfl, rfl⟩ rfl rfl (fun ρ w E H => ex_move E rfl rfl) ?_
                      refine SxL.val (v := .pointer (some ⟨g1, 4, none⟩)) ⟨_, _, rfl, rfl, rfl⟩ rfl rfl (fun ρ w E H => ex_field E rfl fa_palaver_api_Msg_3 rfl rfl) ?_
                      refine SxL.val ⟨_, _, rfl, rfl, rfl⟩ rfl rfl (fun ρ w E H => ex_load1 E (H.get (i := 1) rfl) rfl rfl Tryz.underlying22 rfl rfl) ?_
                      refine SxL.valB ⟨_, _, rfl, rfl, rfl⟩ rfl rfl (fun ρ w E H => ex_cmp E rfl rfl rfl rfl rfl) fun c173 hc173 => ?_
                      refine SxL.val ⟨_, _, rfl, rfl, rfl⟩ rfl rfl (fun ρ w E H => ex_pick E rfl (t := true) rfl rfl) ?_
                      refine SxL.val trivial rfl rfl (fun ρ w E H => ex_pick E rfl (t := false) rfl rfl) ?_
                      refine SxL.nil ?_
                      have hq : c173 = bad4 (hasS (chars mk) 97) (hasS (chars mk) 117) (hasS (chars mk) 115) mb ms := by rw [hh97, hh117, hh115]; unfold bad4; grind [cmpB]
                      refine SxN.meet c173 hq ⟨rfl, rfl, rfl, rfl, trivial⟩ [0, 1] rfl (by decide) ⟨.inl rfl, .inl rfl, trivial⟩
                  · refine SxL.val (v := .bool false) ⟨_, _, rfl, rfl, rfl⟩ rfl rfl (fun ρ w E H => ex_not (t := true) E rfl rfl) ?_
                    refine SxL.val ⟨_, _, rfl, rfl, rfl⟩ rfl rfl (fun ρ w E H => ex_move E rfl rfl) ?_
                    iterate 4 refine SxL.off ⟨_, _, _, rfl, rfl, rfl, nofun⟩ rfl rfl ?_
                    refine SxL.val ⟨_, _, rfl, rfl, rfl⟩ rfl rfl (fun ρ w E H => ex_pick E rfl (t := false) rfl rfl) ?_
                    refine SxL.val ⟨_, _, rfl, rfl, rfl⟩ rfl rfl (fun ρ w E H => ex_move E rfl rfl) ?_
                    iterate 3 refine SxL.off ⟨_, _, _, rfl, rfl, rfl, nofun⟩ rfl rfl ?_
                    refine SxL.val ⟨_, _, rfl, rfl, rfl⟩ rfl rfl (fun ρ w E H => ex_pick E rfl (t := false) rfl rfl) ?_
                    refine SxL.val trivial rfl rfl (fun ρ w E H => ex_pick E rfl (t := false) rfl rfl) ?_
                    refine SxL.val trivial rfl rfl (fun ρ w E H => ex_move E rfl rfl) ?_
                    refine SxL.val (v := .pointer (some ⟨g1, 0, none⟩)) ⟨_, _, rfl, rfl, rfl⟩ rfl rfl (fun ρ w E H => ex_field E rfl fa_palaver_api_Msg_0 rfl rfl) ?_
                    refine SxL.val ⟨_, _, rfl, rfl, rfl⟩ rfl rfl (fun ρ w E H => ex_load1 E (H.get (i := 1) rfl) rfl rfl Tryz.underlying5 rfl rfl) ?_
                    refine SxL.callB (v := .bool h115) ⟨_, _, rfl, rfl, rfl⟩ rfl rfl (fun ρ w E => ex_call E en_palaver_palaverref18_has rfl rfl) (fun w H => (rhas_any mk 115 hf.h1 w).mono fun _ _ h => ⟨by rw [h.1, hh115], h.2⟩) ?_
                    refine SxL.val ⟨_, _, rfl, rfl, rfl⟩ rfl rfl (fun ρ w E H => ex_move E rfl rfl) ?_
                    cases h115
                    · refine SxL.off ⟨_, _, _, rfl, rfl, rfl, nofun⟩ rfl rfl ?_
                      iterate 2 refine SxL.off ⟨_, _, _, rfl, rfl, rfl, nofun⟩ rfl rfl ?_
                      refine SxL.val ⟨_, _, rfl, rfl, rfl⟩ rfl rfl (fun ρ w E H => ex_pick E rfl (t := false) rfl rfl) ?_
                      refine SxL.val trivial rfl rfl (fun ρ w E H => ex_pick E rfl (t := false) rfl rfl) ?_
                      refine SxL.nil ?_
                      have hq : false = bad4 (hasS (chars mk) 97) (hasS (chars mk) 117) (hasS (chars mk) 115) mb ms := by rw [hh97, hh117, hh115]; unfold bad4; grind [cmpB]
                      refine SxN.meet false hq ⟨rfl, rfl, rfl, rfl, trivial⟩ [0, 1] rfl (by decide) ⟨.inl rfl, .inl rfl, trivial⟩
                    · refine SxL.val (v := .pointer (some ⟨g1, 4, none⟩)) ⟨_, _, rfl, rfl, rfl⟩ rfl rfl (fun ρ w E H => ex_field E rfl fa_palaver_api_Msg_3 rfl rfl) ?_
                      refine SxL.val ⟨_, _, rfl, rfl, rfl⟩ rfl rfl (fun ρ w E H => ex_load1 E (H.get (i := 1) rfl) rfl rfl Tryz.underlying22 rfl rfl) ?_
                      refine SxL.valB ⟨_, _, rfl, rfl, rfl⟩ rfl rfl (fun ρ w E H => ex_cmp E rfl rfl rfl rfl rfl) fun c173 hc173 => ?_
                      refine SxL.val ⟨_, _, rfl, rfl, rfl⟩ rfl rfl (fun ρ w E H => ex_pick E rfl (t := true) rfl rfl) ?_
                      refine SxL.val trivial rfl rfl (fun ρ w E H => ex_pick E rfl (t := false) rfl rfl) ?_
                      refine SxL.nil ?_
                      have hq : c173 = bad4 (hasS (chars mk) 97) (hasS (chars mk) 117) (hasS (chars mk) 115) mb ms := by rw [hh97, hh117, hh115]; unfold bad4; grind [cmpB]
                      refine SxN.meet c173 hq ⟨rfl, rfl, rfl, rfl, trivial⟩ [0, 1] rfl (by decide) ⟨.inl rfl, .inl rfl, trivial⟩
              · refine SxL.off ⟨_, _, _, rfl, rfl, rfl, nofun⟩ rfl rfl ?_
                iterate 8 refine SxL.off ⟨_, _, _, rfl, rfl, rfl, nofun⟩ rfl rfl ?_
                refine SxL.val trivial rfl rfl (fun ρ w E H => ex_pick E rfl (t := true) rfl rfl) ?_
                refine SxL.val trivial rfl rfl (fun ρ w E H => ex_move E rfl rfl) ?_
                iterate 15 refine SxL.off ⟨_, _, _, rfl, rfl, rfl, nofun⟩ rfl rfl ?_
                refine SxL.val trivial rfl rfl (fun ρ w E H => ex_pick E rfl (t := true) rfl rfl) ?_
                refine SxL.val trivial rfl rfl (fun ρ w E H => ex_move E rfl rfl) ?_
                iterate 8 refine SxL.off ⟨_, _, _, rfl, rfl, rfl, nofun⟩ rfl rfl ?_
                refine SxL.val trivial rfl rfl (fun ρ w E H => ex_pick E rfl (t := true) rfl rfl) ?_
                refine SxL.nil ?_
                have hq : true = bad4 (hasS (chars mk) 97) (hasS (chars mk) 117) (hasS (chars mk) 115) mb ms := by rw [hh97, hh117, hh115]; unfold bad4; grind [cmpB]
                refine SxN.meet true hq ⟨rfl, rfl, rfl, rfl, trivial⟩ [0, 1] rfl (by decide) ⟨.inl rfl, .inl rfl, trivial⟩
            · refine SxL.off ⟨_, _, _, rfl, rfl, rfl, nofun⟩ rfl rfl ?_
              iterate 3 refine SxL.off ⟨_, _, _, rfl, rfl, rfl, nofun⟩ rfl rfl ?_
              refine SxL.val trivial rfl rfl (fun ρ w E H => ex_pick E rfl (t := true) rfl rfl) ?_
              refine SxL.val trivial rfl rfl (fun ρ w E H => ex_move E rfl rfl) ?_
              iterate 9 refine SxL.off ⟨_, _, _, rfl, rfl, rfl, nofun⟩ rfl rfl ?_
              refine SxL.val trivial rfl rfl (fun ρ w E H => ex_pick E rfl (t := true) rfl rfl) ?_
              refine SxL.val trivial rfl rfl (fun ρ w E H => ex_move E rfl rfl) ?_
              iterate 15 refine SxL.off ⟨_, _, _, rfl, rfl, rfl, nofun⟩ rfl rfl ?_
              refine SxL.val trivial rfl rfl (fun ρ w E H => ex_pick E rfl (t := true) rfl rfl) ?_
              refine SxL.val trivial rfl rfl (fun ρ w E H => ex_move E rfl rfl) ?_
              iterate 8 refine SxL.off ⟨_, _, _, rfl, rfl, rfl, nofun⟩ rfl rfl ?_
              refine SxL.val trivial rfl rfl (fun ρ w E H => ex_pick E rfl (t := true) rfl rfl) ?_
              refine SxL.nil ?_
              have hq : true = bad4 (hasS (chars mk) 97) (hasS (chars mk) 117) (hasS (chars mk) 115) mb ms := by rw [hh97, hh117, hh115]; unfold bad4; grind [cmpB]
              refine SxN.meet true hq ⟨rfl, rfl, rfl, rfl, trivial⟩ [0, 1] rfl (by decide) ⟨.inl rfl, .inl rfl, trivial⟩
          refine SxN.then_ ?_
          cases b175
          · refine SxC.condF rfl (SxC.skip (SxN.then_ (SxC.seq (SxC.seq ?_))))
            refine SxC.cut1 (fun (b206 : Bool) => [(1, .pointer (some ⟨g1, 0, none⟩)), (3, .pointer (some ⟨g2, 0, none⟩)), (4, .int .u64 4611686018427387904), (206, .bool b206)]) (fun _ => [cell g2 29 [.int .u8 (ca : Int), .int .u32 (cb : Int), .int .u8 (ck : Int), .string ⟨cs.toArray⟩, .string ⟨ct.toArray⟩, .string ⟨cu.toArray⟩, .int .u8 (cz : Int)], cell g1 33 [.int .u8 (mk : Int), .int .u64 (mn : Int), .int .u8 (mr : Int), .int .u64 (mb : Int), .int .u64 (ms : Int), .int .u8 (mo : Int), .string ⟨mv.toArray⟩, .slice A vl.length ka, .slice B il.length kb, .int .u8 (ca : Int), .int .u32 (cb : Int), .int .u8 (ck : Int), .string ⟨cs.toArray⟩, .string ⟨ct.toArray⟩, .string ⟨cu.toArray⟩, .int .u8 (cz : Int), .int .u8 (mc : Int), .string ⟨mt.toArray⟩]]) (fun b206 => b206 = bad5 (hasS (chars mk) 118) (hasS (chars mk) 116) (hasS (chars mk) 105) mv vl.length il.length) ?_ fun b206 hb206 => ?_
            · refine SxC.drawnK [] [0, 1] (by kernel_rfl) rfl ⟨(fun g hg => by rw [List.mem_singleton.1 hg]; exact .inr hg2), (fun g hg => by rw [List.mem_singleton.1 hg]; exact .inr hg1), trivial⟩ ?_
              refine SxA.take (i := 0) (v := .pointer (some ⟨g1, 0, none⟩)) rfl (by kernel_rfl) (by kernel_rfl) (by kernel_rfl) rfl rfl (fun _ _ _ h => h) trivial (fun ρ w E H => ex_field E rfl fa_palaver_api_Msg_0 rfl rfl) ?_
              refine SxA.take (i := 1) rfl (by kernel_rfl) (by kernel_rfl) (by kernel_rfl) rfl rfl (fun _ _ _ h => h) trivial (fun ρ w E H => ex_load1 E (H.get (i := 1) rfl) rfl rfl Tryz.underlying5 rfl rfl) ?_
              refine SxA.ready [2] (by kernel_rfl) (by simp) ⟨?_, trivial⟩
              refine SxO.callB (v := .bool h118) rfl trivial rfl rfl (fun ρ w E => ex_call E en_palaver_palaverref18_has rfl rfl) (fun w H => (rhas_any mk 118 hf.h1 w).mono fun _ _ h => ⟨by rw [h.1, hh118], h.2⟩) (fun w H => H.ks [] [0, 1] rfl ⟨(fun g hg => by rw [List.mem_singleton.1 hg]; exact .inr hg2), (fun g hg => by rw [List.mem_singleton.1 hg]; exact .inr hg1), trivial⟩) ?_
              cases h118
              · refine SxA.take (i := 3) (v := .bool true) rfl (by kernel_rfl) (by kernel_rfl) (by kernel_rfl) rfl rfl (fun _ _ _ h => h) trivial (fun ρ w E H => ex_not (t := false) E rfl rfl) ?_
                refine SxA.take (i := 4) rfl (by kernel_rfl) (by kernel_rfl) (by kernel_rfl) rfl rfl (fun _ _ _ h => h) trivial (fun ρ w E H => ex_move E rfl rfl) ?_
                refine SxA.take (i := 5) (v := .pointer (some ⟨g1, 6, none⟩)) rfl (by kernel_rfl) (by kernel_rfl) (by kernel_rfl) rfl rfl (fun _ _ _ h => h) ⟨_, _, rfl, rfl, rfl⟩ (fun ρ w E H => ex_field E rfl fa_palaver_api_Msg_5 rfl rfl) ?_
                refine SxA.take (i := 6) rfl (by kernel_rfl) (by kernel_rfl) (by kernel_rfl) rfl rfl (fun _ _ _ h => h) ⟨_, _, rfl, rfl, rfl⟩ (fun ρ w E H => ex_load1 E (H.get (i := 1) rfl) rfl rfl Tryz.underlying9 rfl rfl) ?_
                refine SxA.takeB (i := 7) rfl (by kernel_rfl) (by kernel_rfl) (by kernel_rfl) rfl rfl (fun _ _ _ h => h) ⟨_, _, rfl, rfl, rfl⟩ (fun ρ w E H => ex_sneq E rfl rfl rfl rfl) fun c183 hc183 => ?_
                refine SxA.take (i := 8) rfl (by kernel_rfl) (by kernel_rfl) (by kernel_rfl) rfl rfl (fun _ _ _ h => h) trivial (fun ρ w E H => ex_pick E rfl (t := true) rfl rfl) ?_
                refine SxA.take (i := 9) rfl (by kernel_rfl) (by kernel_rfl) (by kernel_rfl) rfl rfl (fun _ _ _ h => h) trivial (fun ρ w E H => ex_move E rfl rfl) ?_
                cases c183
                · refine SxA.take (i := 10) (v := .pointer (some ⟨g1, 0, none⟩)) rfl (by kernel_rfl) (by kernel_rfl) (by kernel_rfl) rfl rfl (fun _ _ _ h => h) ⟨_, _, rfl, rfl, rfl⟩ (fun ρ w E H => ex_field E rfl fa_palaver_api_Msg_0 rfl rfl) ?_
                  refine SxA.take (i := 11) rfl (by kernel_rfl) (by kernel_rfl) (by kernel_rfl) rfl rfl (fun _ _ _ h => h) ⟨_, _, rfl, rfl, rfl⟩ (fun ρ w E H => ex_load1 E (H.get (i := 1) rfl) rfl rfl Tryz.underlying5 rfl rfl) ?_
                  refine SxA.ready [12] (by kernel_rfl) (by simp) ⟨?_, trivial⟩
                  refine SxO.callB (v := .bool h116) rfl ⟨_, _, rfl, rfl, rfl⟩ rfl rfl (fun ρ w E => ex_call E en_palaver_palaverref18_has rfl rfl) (fun w H => (rhas_any mk 116 hf.h1 w).mono fun _ _ h => ⟨by rw [h.1, hh116], h.2⟩) (fun w H => H.ks [] [0, 1] rfl ⟨(fun g hg => by rw [List.mem_singleton.1 hg]; exact .inr hg2), (fun g hg => by rw [List.mem_singleton.1 hg]; exact .inr hg1), trivial⟩) ?_
                  cases h116
                  · refine SxA.take (i := 13) (v := .bool true) rfl (by kernel_rfl) (by kernel_rfl) (by kernel_rfl) rfl rfl (fun _ _ _ h => h) ⟨_, _, rfl, rfl, rfl⟩ (fun ρ w E H => ex_not (t := false) E rfl rfl) ?_
                    refine SxA.take (i := 14) rfl (by kernel_rfl) (by kernel_rfl) (by kernel_rfl) rfl rfl (fun _ _ _ h => h) ⟨_, _, rfl, rfl, rfl⟩ (fun ρ w E H => ex_move E rfl rfl) ?_
                    refine SxA.take (i := 15) (v := .pointer (some ⟨g1, 7, none⟩)) rfl (by kernel_rfl) (by kernel_rfl) (by kernel_rfl) rfl rfl (fun _ _ _ h => h) ⟨_, _, rfl, rfl, rfl⟩ (fun ρ w E H => ex_field E rfl fa_palaver_api_Msg_6 rfl rfl) ?_
                    refine SxA.take (i := 16) rfl (by kernel_rfl) (by kernel_rfl) (by kernel_rfl) rfl rfl (fun _ _ _ h => h) ⟨_, _, rfl, rfl, rfl⟩ (fun ρ w E H => ex_load1 E (H.get (i := 1) rfl) rfl rfl Tryz.underlying25 rfl rfl) ?_
                    refine SxA.take (i := 17) (v := .int .i64 (vl.length : Int)) rfl (by kernel_rfl) (by kernel_rfl) (by kernel_rfl) rfl rfl (fun _ _ _ h => h) ⟨_, _, rfl, rfl, rfl⟩ (fun ρ w E H => ex_lenS E rfl Tryz.underlying25 rfl) ?_
                    refine SxA.takeB (i := 18) rfl (by kernel_rfl) (by kernel_rfl) (by kernel_rfl) rfl rfl (fun _ _ _ h => h) ⟨_, _, rfl, rfl, rfl⟩ (fun ρ w E H => ex_cmp E rfl rfl rfl rfl rfl) fun c194 hc194 => ?_
                    refine SxA.take (i := 19) rfl (by kernel_rfl) (by kernel_rfl) (by kernel_rfl) rfl rfl (fun _ _ _ h => h) ⟨_, _, rfl, rfl, rfl⟩ (fun ρ w E H => ex_pick E rfl (t := true) rfl rfl) ?_
                    refine SxA.take (i := 20) rfl (by kernel_rfl) (by kernel_rfl) (by kernel_rfl) rfl rfl (fun _ _ _ h => h) trivial (fun ρ w E H => ex_pick E rfl (t := false) rfl rfl) ?_
                    refine SxA.take (i := 21) rfl (by kernel_rfl) (by kernel_rfl) (by kernel_rfl) rfl rfl (fun _ _ _ h => h) trivial (fun ρ w E H => ex_move E rfl rfl) ?_
                    cases c194
                    · refine SxA.take (i := 22) (v := .pointer (some ⟨g1, 0, none⟩)) rfl (by kernel_rfl) (by kernel_rfl) (by kernel_rfl) rfl rfl (fun _ _ _ h => h) ⟨_, _, rfl, rfl, rfl⟩ (fun ρ w E H => ex_field E rfl fa_palaver_api_Msg_0 rfl rfl) ?_
                      refine SxA.take (i := 23) rfl (by kernel_rfl) (by kernel_rfl) (by kernel_rfl) rfl rfl (fun _ _ _ h => h) ⟨_, _, rfl, rfl, rfl⟩ (fun ρ w E H => ex_load1 E (H.get (i := 1) rfl) rfl rfl Tryz.underlying5 rfl rfl) ?_
                      refine SxA.take (i := 25) (v := .pointer (some ⟨g1, 8, none⟩)) rfl (by kernel_rfl) (by kernel_rfl) (by kernel_rfl) rfl rfl (fun _ _ _ h => h) ⟨_, _, rfl, rfl, rfl⟩ (fun ρ w E H => ex_field E rfl fa_palaver_api_Msg_7 rfl rfl) ?_
                      refine SxA.take (i := 26) rfl (by kernel_rfl) (by kernel_rfl) (by kernel_rfl) rfl rfl (fun _ _ _ h => h) ⟨_, _, rfl, rfl, rfl⟩ (fun ρ w E H => ex_load1 E (H.get (i := 1) rfl) rfl rfl Tryz.underlying26 rfl rfl) ?_
                      refine SxA.take (i := 27) (v := .int .i64 (il.length : Int)) rfl (by kernel_rfl) (by kernel_rfl) (by kernel_rfl) rfl rfl (fun _ _ _ h => h) ⟨_, _, rfl, rfl, rfl⟩ (fun ρ w E H => ex_lenS E rfl Tryz.underlying26 rfl) ?_
                      refine SxA.takeB (i := 28) rfl (by kernel_rfl) (by kernel_rfl) (by kernel_rfl) rfl rfl (fun _ _ _ h => h) ⟨_, _, rfl, rfl, rfl⟩ (fun ρ w E H => ex_cmp E rfl rfl rfl rfl rfl) fun c204 hc204 => ?_
                      refine SxA.ready [24] (by kernel_rfl) (by simp) ⟨?_, trivial⟩
                      refine SxO.callB (v := .bool h105) rfl ⟨_, _, rfl, rfl, rfl⟩ rfl rfl (fun ρ w E => ex_call E en_palaver_palaverref18_has rfl rfl) (fun w H => (rhas_any mk 105 hf.h1 w).mono fun _ _ h => ⟨by rw [h.1, hh105], h.2⟩) (fun w H => H.ks [] [0, 1] rfl ⟨(fun g hg => by rw [List.mem_singleton.1 hg]; exact .inr hg2), (fun g hg => by rw [List.mem_singleton.1 hg]; exact .inr hg1), trivial⟩) ?_
                      refine SxA.take (i := 29) (v := .bool ((h105 != c204))) rfl (by kernel_rfl) (by kernel_rfl) (by kernel_rfl) rfl rfl (fun _ _ _ h => h) ⟨_, _, rfl, rfl, rfl⟩ (fun ρ w E H => ex_bneq E rfl Tryz.underlying4 rfl rfl rfl) ?_
                      refine SxA.take (i := 30) rfl (by kernel_rfl) (by kernel_rfl) (by kernel_rfl) rfl rfl (fun _ _ _ h => h) trivial (fun ρ w E H => ex_pick E rfl (t := false) rfl rfl) ?_
                      refine SxA.done (by kernel_rfl) ?_
                      have hq : (h105 != c204) = bad5 (hasS (chars mk) 118) (hasS (chars mk) 116) (hasS (chars mk) 105) mv vl.length il.length := by rw [hh118, hh116, hh105]; unfold bad5; grind [cmpB]
                      refine SxN.meet (h105 != c204) hq ⟨rfl, rfl, rfl, rfl, trivial⟩ [0, 1] rfl (by decide) ⟨.inl rfl, .inl rfl, trivial⟩
                    · refine SxA.takeOff (i := 22) rfl (by kernel_rfl) (by kernel_rfl) (by kernel_rfl) rfl rfl (fun _ _ _ h => h) ⟨_, _, _, rfl, rfl, rfl, nofun⟩ ?_
                      refine SxA.takeOff (i := 23) rfl (by kernel_rfl) (by kernel_rfl) (by kernel_rfl) rfl rfl (fun _ _ _ h => h) ⟨_, _, _, rfl, rfl, rfl, nofun⟩ ?_
                      refine SxA.takeOff (i := 24) rfl (by kernel_rfl) (by kernel_rfl) (by kernel_rfl) rfl rfl (fun _ _ _ h => h) ⟨_, _, _, rfl, rfl, rfl, nofun⟩ ?_
                      refine SxA.takeOff (i := 25) rfl (by kernel_rfl) (by kernel_rfl) (by kernel_rfl) rfl rfl (fun _ _ _ h => h) ⟨_, _, _, rfl, rfl, rfl, nofun⟩ ?_
                      refine SxA.takeOff (i := 26) rfl (by kernel_rfl) (by kernel_rfl) (by kernel_rfl) rfl rfl (fun _ _ _ h => h) ⟨_, _, _, rfl, rfl, rfl, nofun⟩ ?_
                      refine SxA.takeOff (i := 27) rfl (by kernel_rfl) (by kernel_rfl) (by kernel_rfl) rfl rfl (fun _ _ _ h => h) ⟨_, _, _, rfl, rfl, rfl, nofun⟩ ?_
                      refine SxA.takeOff (i := 28) rfl (by kernel_rfl) (by kernel_rfl) (by kernel_rfl) rfl rfl (fun _ _ _ h => h) ⟨_, _, _, rfl, rfl, rfl, nofun⟩ ?_
                      refine SxA.takeOff (i := 29) rfl (by kernel_rfl) (by kernel_rfl) (by kernel_rfl) rfl rfl (fun _ _ _ h => h) ⟨_, _, _, rfl, rfl, rfl, nofun⟩ ?_
                      refine SxA.take (i := 30) rfl (by kernel_rfl) (by kernel_rfl) (by kernel_rfl) rfl rfl (fun _ _ _ h => h) trivial (fun ρ w E H => ex_pick E rfl (t := true) rfl rfl) ?_
                      refine SxA.done (by kernel_rfl) ?_
                      have hq : true = bad5 (hasS (chars mk) 118) (hasS (chars mk) 116) (hasS (chars mk) 105) mv vl.length il.length := by rw [hh118, hh116, hh105]; unfold bad5; grind [cmpB]
                      refine SxN.meet true hq ⟨rfl, rfl, rfl, rfl, trivial⟩ [0, 1] rfl (by decide) ⟨.inl rfl, .inl rfl, trivial⟩
                  · refine SxA.take (i := 13) (v := .bool false) rfl (by kernel_rfl) (by kernel_rfl) (by kernel_rfl) rfl rfl (fun _ _ _ h => h) ⟨_, _, rfl, rfl, rfl⟩ (fun ρ w E H => ex_not (t := true) E rfl rfl) ?_
                    refine SxA.take (i := 14) rfl (by kernel_rfl) (by kernel_rfl) (by kernel_rfl) rfl rfl (fun _ _ _ h => h) ⟨_, _, rfl, rfl, rfl⟩ (fun ρ w E H => ex_move E rfl rfl) ?_
                    refine SxA.takeOff (i := 15) rfl (by kernel_rfl) (by kernel_rfl) (by kernel_rfl) rfl rfl (fun _ _ _ h => h) ⟨_, _, _, rfl, rfl, rfl, nofun⟩ ?_
                    refine SxA.takeOff (i := 16) rfl (by kernel_rfl) (by kernel_rfl) (by kernel_rfl) rfl rfl (fun _ _ _ h => h) ⟨_, _, _, rfl, rfl, rfl, nofun⟩ ?_
                    refine SxA.takeOff (i := 17) rfl (by kernel_rfl) (by kernel_rfl) (by kernel_rfl) rfl rfl (fun _ _ _ h => h) ⟨_, _, _, rfl, rfl, rfl, nofun⟩ ?_
                    refine SxA.takeOff (i := 18) rfl (by kernel_rfl) (by kernel_rfl) (by kernel_rfl) rfl rfl (fun _ _ _ h => h) ⟨_, _, _, rfl, rfl, rfl, nofun⟩ ?_
                    refine SxA.take (i := 19) rfl (by kernel_rfl) (by kernel_rfl) (by kernel_rfl) rfl rfl (fun _ _ _ h => h) ⟨_, _, rfl, rfl, rfl⟩ (fun ρ w E H => ex_pick E rfl (t := false) rfl rfl) ?_
                    refine SxA.take (i := 20) rfl (by kernel_rfl) (by kernel_rfl) (by kernel_rfl) rfl rfl (fun _ _ _ h => h) trivial (fun ρ w E H => ex_pick E rfl (t := false) rfl rfl) ?_
                    refine SxA.take (i := 21) rfl (by kernel_rfl) (by kernel_rfl) (by kernel_rfl) rfl rfl (fun _ _ _ h => h) trivial (fun ρ w E H => ex_move E rfl rfl) ?_
                    refine SxA.take (i := 22) (v := .pointer (some ⟨g1, 0, none⟩)) rfl (by kernel_rfl) (by kernel_rfl) (by kernel_rfl) rfl rfl (fun _ _ _ h => h) ⟨_, _, rfl, rfl, rfl⟩ (fun ρ w E H => ex_field E rfl fa_palaver_api_Msg_0 rfl rfl) ?_
                    refine SxA.take (i := 23) rfl (by kernel_rfl) (by kernel_rfl) (by kernel_rfl) rfl rfl (fun _ _ _ h => h) ⟨_, _, rfl, rfl, rfl⟩ (fun ρ w E H => ex_load1 E (H.get (i := 1) rfl) rfl rfl Tryz.underlying5 rfl rfl) ?_
                    refine SxA.take (i := 25) (v := .pointer (some ⟨g1, 8, none⟩)) rfl (by kernel_rfl) (by kernel_rfl) (by kernel_rfl) rfl rfl (fun _ _ _ h => h) ⟨_, _, rfl, rfl, rfl⟩ (fun ρ w E H => ex_field E rfl fa_palaver_api_Msg_7 rfl rfl) ?_
                    refine SxA.take (i := 26) rfl (by kernel_rfl) (by kernel_rfl) (by kernel_rfl) rfl rfl (fun _ _ _ h => h) ⟨_, _, rfl, rfl, rfl⟩ (fun ρ w E H => ex_load1 E (H.get (i := 1) rfl) rfl rfl Tryz.underlying26 rfl rfl) ?_
                    refine SxA.take (i := 27) (v := .int .i64 (il.length : Int)) rfl (by kernel_rfl) (by kernel_rfl) (by kernel_rfl) rfl rfl (fun _ _ _ h => h) ⟨_, _, rfl, rfl, rfl⟩ (fun ρ w E H => ex_lenS E rfl Tryz.underlying26 rfl) ?_
                    refine SxA.takeB (i := 28) rfl (by kernel_rfl) (by kernel_rfl) (by kernel_rfl) rfl rfl (fun _ _ _ h => h) ⟨_, _, rfl, rfl, rfl⟩ (fun ρ w E H => ex_cmp E rfl rfl rfl rfl rfl) fun c204 hc204 => ?_
                    refine SxA.ready [24] (by kernel_rfl) (by simp) ⟨?_, trivial⟩
                    refine SxO.callB (v := .bool h105) rfl ⟨_, _, rfl, rfl, rfl⟩ rfl rfl (fun ρ w E => ex_call E en_palaver_palaverref18_has rfl rfl) (fun w H => (rhas_any mk 105 hf.h1 w).mono fun _ _ h => ⟨by rw [h.1, hh105], h.2⟩) (fun w H => H.ks [] [0, 1] rfl ⟨(fun g hg => by rw [List.mem_singleton.1 hg]; exact .inr hg2), (fun g hg => by rw [List.mem_singleton.1 hg]; exact .inr hg1), trivial⟩) ?_
                    refine SxA.take (i := 29) (v := .bool ((h105 != c204))) rfl (by kernel_rfl) (by kernel_rfl) (by kernel_rfl) rfl rfl (fun _ _ _ h => h) ⟨_, _, rfl, rfl, rfl⟩ (fun ρ w E H => ex_bneq E rfl Tryz.underlying4 rfl rfl rfl) ?_
                    refine SxA.take (i := 30) rfl (by kernel_rfl) (by kernel_rfl) (by kernel_rfl) rfl rfl (fun _ _ _ h => h) trivial (fun ρ w E H => ex_pick E rfl (t := false) rfl rfl) ?_
                    refine SxA.done (by kernel_rfl) ?_
                    have hq : (h105 != c204) = bad5 (hasS (chars mk) 118) (hasS (chars mk) 116) (hasS (chars mk) 105) mv vl.length il.length := by rw [hh118, hh116, hh105]; unfold bad5; grind [cmpB]
                    refine SxN.meet (h105 != c204) hq ⟨rfl, rfl, rfl, rfl, trivial⟩ [0, 1] rfl (by decide) ⟨.inl rfl, .inl rfl, trivial⟩
                · refine SxA.takeOff (i := 10) rfl (by kernel_rfl) (by kernel_rfl) (by kernel_rfl) rfl rfl (fun _ _ _ h => h) ⟨_, _, _, rfl, rfl, rfl, nofun⟩ ?_
                  refine SxA.takeOff (i := 11) rfl (by kernel_rfl) (by kernel_rfl) (by kernel_rfl) rfl rfl (fun _ _ _ h => h) ⟨_, _, _, rfl, rfl, rfl, nofun⟩ ?_
                  refine SxA.takeOff (i := 12) rfl (by kernel_rfl) (by kernel_rfl) (by kernel_rfl) rfl rfl (fun _ _ _ h => h) ⟨_, _, _, rfl, rfl, rfl, nofun⟩ ?_
                  refine SxA.takeOff (i := 13) rfl (by kernel_rfl) (by kernel_rfl) (by kernel_rfl) rfl rfl (fun _ _ _ h => h) ⟨_, _, _, rfl, rfl, rfl, nofun⟩ ?_
                  refine SxA.takeOff (i := 14) rfl (by kernel_rfl) (by kernel_rfl) (by kernel_rfl) rfl rfl (fun _ _ _ h => h) ⟨_, _, _, rfl, rfl, rfl, nofun⟩ ?_
                  refine SxA.takeOff (i := 15) rfl (by kernel_rfl) (by kernel_rfl) (by kernel_rfl) rfl rfl (fun _ _ _ h => h) ⟨_, _, _, rfl, rfl, rfl, nofun⟩ ?_
                  refine SxA.takeOff (i := 16) rfl (by kernel_rfl) (by kernel_rfl) (by kernel_rfl) rfl rfl (fun _ _ _ h => h) ⟨_, _, _, rfl, rfl, rfl, nofun⟩ ?_
                  refine SxA.takeOff (i := 17) rfl (by kernel_rfl) (by kernel_rfl) (by kernel_rfl) rfl rfl (fun _ _ _ h => h) ⟨_, _, _, rfl, rfl, rfl, nofun⟩ ?_
                  refine SxA.takeOff (i := 18) rfl (by kernel_rfl) (by kernel_rfl) (by kernel_rfl) rfl rfl (fun _ _ _ h => h) ⟨_, _, _, rfl, rfl, rfl, nofun⟩ ?_
                  refine SxA.takeOff (i := 19) rfl (by kernel_rfl) (by kernel_rfl) (by kernel_rfl) rfl rfl (fun _ _ _ h => h) ⟨_, _, _, rfl, rfl, rfl, nofun⟩ ?_
                  refine SxA.take (i := 20) rfl (by kernel_rfl) (by kernel_rfl) (by kernel_rfl) rfl rfl (fun _ _ _ h => h) trivial (fun ρ w E H => ex_pick E rfl (t := true) rfl rfl) ?_
                  refine SxA.take (i := 21) rfl (by kernel_rfl) (by kernel_rfl) (by kernel_rfl) rfl rfl (fun _ _ _ h => h) trivial (fun ρ w E H => ex_move E rfl rfl) ?_
                  refine SxA.takeOff (i := 22) rfl (by kernel_rfl) (by kernel_rfl) (by kernel_rfl) rfl rfl (fun _ _ _ h => h) ⟨_, _, _, rfl, rfl, rfl, nofun⟩ ?_
                  refine SxA.takeOff (i := 23) rfl (by kernel_rfl) (by kernel_rfl) (by kernel_rfl) rfl rfl (fun _ _ _ h => h) ⟨_, _, _, rfl, rfl, rfl, nofun⟩ ?_
                  refine SxA.takeOff (i := 24) rfl (by kernel_rfl) (by kernel_rfl) (by kernel_rfl) rfl rfl (fun _ _ _ h => h) ⟨_, _, _, rfl, rfl, rfl, nofun⟩ ?_
                  refine SxA.takeOff (i := 25) rfl (by kernel_rfl) (by kernel_rfl) (by kernel_rfl) rfl rfl (fun _ _ _ h => h) ⟨_, _, _, rfl, rfl, rfl, nofun⟩ ?_
                  refine SxA.takeOff (i := 26) rfl (by kernel_rfl) (by kernel_rfl) (by kernel_rfl) rfl rfl (fun _ _ _ h => h) ⟨_, _, _, rfl, rfl, rfl, nofun⟩ ?_
                  refine SxA.takeOff (i := 27) rfl (by kernel_rfl) (by kernel_rfl) (by kernel_rfl) rfl rfl (fun _ _ _ h => h) ⟨_, _, _, rfl, rfl, rfl, nofun⟩ ?_
                  refine SxA.takeOff (i := 28) rfl (by kernel_rfl) (by kernel_rfl) (by kernel_rfl) rfl rfl (fun _ _ _ h => h) ⟨_, _, _, rfl, rfl, rfl, nofun⟩ ?_
                  refine SxA.takeOff (i := 29) rfl (by kernel_rfl) (by kernel_rfl) (by kernel_rfl) rfl rfl (fun _ _ _ h => h) ⟨_, _, _, rfl, rfl, rfl, nofun⟩ ?_
                  refine SxA.take (i := 30) rfl (by kernel_rfl) (by kernel_rfl) (by kernel_rfl) rfl rfl (fun _ _ _ h => h) trivial (fun ρ w E H => ex_pick E rfl (t := true) rfl rfl) ?_
                  refine SxA.done (by kernel_rfl) ?_
                  have hq : true = bad5 (hasS (chars mk) 118) (hasS (chars mk) 116) (hasS (chars mk) 105) mv vl.length il.length := by rw [hh118, hh116, hh105]; unfold bad5; grind [cmpB]
                  refine SxN.meet true hq ⟨rfl, rfl, rfl, rfl, trivial⟩ [0, 1] rfl (by decide) ⟨.inl rfl, .inl rfl, trivial⟩
              · refine SxA.take (i := 3) (v := .bool false) rfl (by kernel_rfl) (by kernel_rfl) (by kernel_rfl) rfl rfl (fun _ _ _ h => h) trivial (fun ρ w E H => ex_not (t := true) E rfl rfl) ?_
                refine SxA.take (i := 4) rfl (by kernel_rfl) (by kernel_rfl) (by kernel_rfl) rfl rfl (fun _ _ _ h => h) trivial (fun ρ w E H => ex_move E rfl rfl) ?_
                refine SxA.takeOff (i := 5) rfl (by kernel_rfl) (by kernel_rfl) (by kernel_rfl) rfl rfl (fun _ _ _ h => h) ⟨_, _, _, rfl, rfl, rfl, nofun⟩ ?_
                refine SxA.takeOff (i := 6) rfl (by kernel_rfl) (by kernel_rfl) (by kernel_rfl) rfl rfl (fun _ _ _ h => h) ⟨_, _, _, rfl, rfl, rfl, nofun⟩ ?_
                refine SxA.takeOff (i := 7) rfl (by kernel_rfl) (by kernel_rfl) (by kernel_rfl) rfl rfl (fun _ _ _ h => h) ⟨_, _, _, rfl, rfl, rfl, nofun⟩ ?_
                refine SxA.take (i := 8) rfl (by kernel_rfl) (by kernel_rfl) (by kernel_rfl) rfl rfl (fun _ _ _ h => h) trivial (fun ρ w E H => ex_pick E rfl (t := false) rfl rfl) ?_
                refine SxA.take (i := 9) rfl (by kernel_rfl) (by kernel_rfl) (by kernel_rfl) rfl rfl (fun _ _ _ h => h) trivial (fun ρ w E H => ex_move E rfl rfl) ?_
                refine SxA.take (i := 10) (v := .pointer (some ⟨g1, 0, none⟩)) rfl (by kernel_rfl) (by kernel_rfl) (by kernel_rfl) rfl rfl (fun _ _ _ h => h) ⟨_, _, rfl, rfl, rfl⟩ (fun ρ w E H => ex_field E rfl fa_palaver_api_Msg_0 rfl rfl) ?_
                refine SxA.take (i := 11) rfl (by kernel_rfl) (by kernel_rfl) (by kernel_rfl) rfl rfl (fun _ _ _ h => h) ⟨_, _, rfl, rfl, rfl⟩ (fun ρ w E H => ex_load1 E (H.get (i := 1) rfl) rfl rfl Tryz.underlying5 rfl rfl) ?_
                refine SxA.ready [12] (by kernel_rfl) (by simp) ⟨?_, trivial⟩
                refine SxO.callB (v := .bool h116) rfl ⟨_, _, rfl, rfl, rfl⟩ rfl rfl (fun ρ w E => ex_call E en_palaver_palaverref18_has rfl rfl) (fun w H => (rhas_any mk 116 hf.h1 w).mono fun _ _ h => ⟨by rw [h.1, hh116], h.2⟩) (fun w H => H.ks [] [0, 1] rfl ⟨(fun g hg => by rw [List.mem_singleton.1 hg]; exact .inr hg2), (fun g hg => by rw [List.mem_singleton.1 hg]; exact .inr hg1), trivial⟩) ?_
                cases h116
                · refine SxA.take (i := 13) (v := .bool true) rfl (by kernel_rfl) (by kernel_rfl) (by kernel_rfl) rfl rfl (fun _ _ _ h => h) ⟨_, _, rfl, rfl, rfl⟩ (fun ρ w E H => ex_not (t := false) E rfl rfl) ?_
                  refine SxA.take (i := 14) rfl (by kernel_rfl) (by kernel_rfl) (by kernel_rfl) rfl rfl (fun _ _ _ h => h) ⟨_, _, rfl, rfl, rfl⟩ (fun ρ w E H => ex_move E rfl rfl) ?_
                  refine SxA.take (i := 15) (v := .pointer (some ⟨g1, 7, none⟩)) rfl (by kernel_rfl) (by kernel_rfl) (by kernel_rfl) rfl rfl (fun _ _ _ h => h) ⟨_, _, rfl, rfl, rfl⟩ (fun ρ w E H => ex_field E rfl fa_palaver_api_Msg_6 rfl rfl) ?_
                  refine SxA.take (i := 16) rfl (by kernel_rfl) (by kernel_rfl) (by kernel_rfl) rfl rfl (fun _ _ _ h => h) ⟨_, _, rfl, rfl, rfl⟩ (fun ρ w E H => ex_load1 E (H.get (i := 1) rfl) rfl rfl Tryz.underlying25 rfl rfl) ?_
                  refine SxA.take (i := 17) (v := .int .i64 (vl.length : Int)) rfl (by kernel_rfl) (by kernel_rfl) (by kernel_rfl) rfl rfl (fun _ _ _ h => h) ⟨_, _, rfl, rfl, rfl⟩ (fun ρ w E H => ex_lenS E rfl Tryz.underlying25 rfl) ?_
                  refine SxA.takeB (i := 18) rfl (by kernel_rfl) (by kernel_rfl) (by kernel_rfl) rfl rfl (fun _ _ _ h => h) ⟨_, _, rfl, rfl, rfl⟩ (fun ρ w E H => ex_cmp E rfl rfl rfl rfl rfl) fun c194 hc194 => ?_
                  refine SxA.take (i := 19) rfl (by kernel_rfl) (by kernel_rfl) (by kernel_rfl) rfl rfl (fun _ _ _ h => h) ⟨_, _, rfl, rfl, rfl⟩ (fun ρ w E H => ex_pick E rfl (t := true) rfl rfl) ?_
                  refine SxA.take (i := 20) rfl (by kernel_rfl) (by kernel_rfl) (by kernel_rfl) rfl rfl (fun _ _ _ h => h) trivial (fun ρ w E H => ex_pick E rfl (t := false) rfl rfl) ?_
                  refine SxA.take (i := 21) rfl (by kernel_rfl) (by kernel_rfl) (by kernel_rfl) rfl rfl (fun _ _ _ h => h) trivial (fun ρ w E H => ex_move E rfl rfl) ?_
                  cases c194
                  · refine SxA.take (i := 22) (v := .pointer (some ⟨g1, 0, none⟩)) rfl (by kernel_rfl) (by kernel_rfl) (by kernel_rfl) rfl rfl (fun _ _ _ h => h) ⟨_, _, rfl, rfl, rfl⟩ (fun ρ w E H => ex_field E rfl fa_palaver_api_Msg_0 rfl rfl) ?_
                    refine SxA.take (i := 23) rfl (by kernel_rfl) (by kernel_rfl) (by kernel_rfl) rfl rfl (fun _ _ _ h => h) ⟨_, _, rfl, rfl, rfl⟩ (fun ρ w E H => ex_load1 E (H.get (i := 1) rfl) rfl rfl Tryz.underlying5 rfl rfl) ?_
                    refine SxA.take (i := 25) (v := .pointer (some ⟨g1, 8, none⟩)) rfl (by kernel_rfl) (by kernel_rfl) (by kernel_rfl) rfl rfl (fun _ _ _ h => h) ⟨_, _, rfl, rfl, rfl⟩ (fun ρ w E H => ex_field E rfl fa_palaver_api_Msg_7 rfl rfl) ?_
                    refine SxA.take (i := 26) rfl (by kernel_rfl) (by kernel_rfl) (by kernel_rfl) rfl rfl (fun _ _ _ h => h) ⟨_, _, rfl, rfl, rfl⟩ (fun ρ w E H => ex_load1 E (H.get (i := 1) rfl) rfl rfl Tryz.underlying26 rfl rfl) ?_
                    refine SxA.take (i := 27) (v := .int .i64 (il.length : Int)) rfl (by kernel_rfl) (by kernel_rfl) (by kernel_rfl) rfl rfl (fun _ _ _ h => h) ⟨_, _, rfl, rfl, rfl⟩ (fun ρ w E H => ex_lenS E rfl Tryz.underlying26 rfl) ?_
                    refine SxA.takeB (i := 28) rfl (by kernel_rfl) (by kernel_rfl) (by kernel_rfl) rfl rfl (fun _ _ _ h => h) ⟨_, _, rfl, rfl, rfl⟩ (fun ρ w E H => ex_cmp E rfl rfl rfl rfl rfl) fun c204 hc204 => ?_
                    refine SxA.ready [24] (by kernel_rfl) (by simp) ⟨?_, trivial⟩
                    refine SxO.callB (v := .bool h105) rfl ⟨_, _, rfl, rfl, rfl⟩ rfl rfl (fun ρ w E => ex_call E en_palaver_palaverref18_has rfl rfl) (fun w H => (rhas_any mk 105 hf.h1 w).mono fun _ _ h => ⟨by rw [h.1, hh105], h.2⟩) (fun w H => H.ks [] [0, 1] rfl ⟨(fun g hg => by rw [List.mem_singleton.1 hg]; exact .inr hg2), (fun g hg => by rw [List.mem_singleton.1 hg]; exact .inr hg1), trivial⟩) ?_
                    refine SxA.take (i := 29) (v := .bool ((h105 != c204))) rfl (by kernel_rfl) (by kernel_rfl) (by kernel_rfl) rfl rfl (fun _ _ _ h => h) ⟨_, _, rfl, rfl, rfl⟩ (fun ρ w E H => ex_bneq E rfl Tryz.underlying4 rfl rfl rfl) ?_
                    refine SxA.take (i := 30) rfl (by kernel_rfl) (by kernel_rfl) (by kernel_rfl) rfl rfl (fun _ _ _ h => h) trivial (fun ρ w E H => ex_pick E rfl (t := false) rfl rfl) ?_
                    refine SxA.done (by kernel_rfl) ?_
                    have hq : (h105 != c204) = bad5 (hasS (chars mk) 118) (hasS (chars mk) 116) (hasS (chars mk) 105) mv vl.length il.length := by rw [hh118, hh116, hh105]; unfold bad5; grind [cmpB]
                    refine SxN.meet (h105 != c204) hq ⟨rfl, rfl, rfl, rfl, trivial⟩ [0, 1] rfl (by decide) ⟨.inl rfl, .inl rfl, trivial⟩
                  · refine SxA.takeOff (i := 22) rfl (by kernel_rfl) (by kernel_rfl) (by kernel_rfl) rfl rfl (fun _ _ _ h => h) ⟨_, _, _, rfl, rfl, rfl, nofun⟩ ?_
                    refine SxA.takeOff (i := 23) rfl (by kernel_rfl) (by kernel_rfl) (by kernel_rfl) rfl rfl (fun _ _ _ h => h) ⟨_, _, _, rfl, rfl, rfl, nofun⟩ ?_
                    refine SxA.takeOff (i := 24) rfl (by kernel_rfl) (by kernel_rfl) (by kernel_rfl) rfl rfl (fun _ _ _ h => h) ⟨_, _, _, rfl, rfl, rfl, nofun⟩ ?_
                    refine SxA.takeOff (i := 25) rfl (by kernel_rfl) (by kernel_rfl) (by kernel_rfl) rfl rfl (fun _ _ _ h => h) ⟨_, _, _, rfl, rfl, rfl, nofun⟩ ?_
                    refine SxA.takeOff (i := 26) rfl (by kernel_rfl) (by kernel_rfl) (by kernel_rfl) rfl rfl (fun _ _ _ h => h) ⟨_, _, _, rfl, rfl, rfl, nofun⟩ ?_
                    refine SxA.takeOff (i := 27) rfl (by kernel_rfl) (by kernel_rfl) (by kernel_rfl) rfl rfl (fun _ _ _ h => h) ⟨_, _, _, rfl, rfl, rfl, nofun⟩ ?_
                    refine SxA.takeOff (i := 28) rfl (by kernel_rfl) (by kernel_rfl) (by kernel_rfl) rfl rfl (fun _ _ _ h => h) ⟨_, _, _, rfl, rfl, rfl, nofun⟩ ?_
                    refine SxA.takeOff (i := 29) rfl (by kernel_rfl) (by kernel_rfl) (by kernel_rfl) rfl rfl (fun _ _ _ h => h) ⟨_, _, _, rfl, rfl, rfl, nofun⟩ ?_
                    refine SxA.take (i := 30) rfl (by kernel_rfl) (by kernel_rfl) (by kernel_rfl) rfl rfl (fun _ _ _ h => h) trivial (fun ρ w E H => ex_pick E rfl (t := true) rfl rfl) ?_
                    refine SxA.done (by kernel_rfl) ?_
                    have hq : true = bad5 (hasS (chars mk) 118) (hasS (chars mk) 116) (hasS (chars mk) 105) mv vl.length il.length := by rw [hh118, hh116, hh105]; unfold bad5; grind [cmpB]
                    refine SxN.meet true hq ⟨rfl, rfl, rfl, rfl, trivial⟩ [0, 1] rfl (by decide) ⟨.inl rfl, .inl rfl, trivial⟩
                · refine SxA.take (i := 13) (v := .bool false) rfl (by kernel_rfl) (by kernel_rfl) (by kernel_rfl) rfl rfl (fun _ _ _ h => h) ⟨_, _, rfl, rfl, rfl⟩ (fun ρ w E H => ex_not (t := true) E rfl rfl) ?_
                  refine SxA.take (i := 14) rfl (by kernel_rfl) (by kernel_rfl) (by kernel_rfl) rfl rfl (fun _ _ _ h => h) ⟨_, _, rfl, rfl, rfl⟩ (fun ρ w E H => ex_move E rfl rfl) ?_
                  refine SxA.takeOff (i := 15) rfl (by kernel_rfl) (by kernel_rfl) (by kernel_rfl) rfl rfl (fun _ _ _ h => h) ⟨_, _, _, rfl, rfl, rfl, nofun⟩ ?_
                  refine SxA.takeOff (i := 16) rfl (by kernel_rfl) (by kernel_rfl) (by kernel_rfl) rfl rfl (fun _ _ _ h => h) ⟨_, _, _, rfl, rfl, rfl, nofun⟩ ?_
                  refine SxA.takeOff (i := 17) rfl (by kernel_rfl) (by kernel_rfl) (by kernel_rfl) rfl rfl (fun _ _ _ h => h) ⟨_, _, _, rfl, rfl, rfl, nofun⟩ ?_
                  refine SxA.takeOff (i := 18) rfl (by kernel_rfl) (by kernel_rfl) (by kernel_rfl) rfl rfl (fun _ _ _ h => h) ⟨_, _, _, rfl, rfl, rfl, nofun⟩ ?_
                  refine SxA.take (i := 19) rfl (by kernel_rfl) (by kernel_rfl) (by kernel_rfl) rfl rfl (fun _ _ _ h => h) ⟨_, _, rfl, rfl, rfl⟩ (fun ρ w E H => ex_pick E rfl (t := false) rfl rfl) ?_
                  refine SxA.take (i := 20) rfl (by kernel_rfl) (by kernel_rfl) (by kernel_rfl) rfl rfl (fun _ _ _ h => h) trivial (fun ρ w E H => ex_pick E rfl (t := false) rfl rfl) ?_
                  refine SxA.take (i := 21) rfl (by kernel_rfl) (by kernel_rfl) (by kernel_rfl) rfl rfl (fun _ _ _ h => h) trivial (fun ρ w E H => ex_move E rfl rfl) ?_
                  refine SxA.take (i := 22) (v := .pointer (some ⟨g1, 0, none⟩)) rfl (by kernel_rfl) (by kernel_rfl) (by kernel_rfl) rfl rfl (fun _ _ _ h => h) ⟨_, _, rfl, rfl, rfl⟩ (fun ρ w E H => ex_field E rfl fa_palaver_api_Msg_0 rfl rfl) ?_
                  refine SxA.take (i := 23) rfl (by kernel_rfl) (by kernel_rfl) (by kernel_rfl) rfl rfl (fun _ _ _ h => h) ⟨_, _, rfl, rfl, rfl⟩ (fun ρ w E H => ex_load1 E (H.get (i := 1) rfl) rfl rfl Tryz.underlying5 rfl rfl) ?_
                  refine SxA.take (i := 25) (v := .pointer (some ⟨g1, 8, none⟩)) rfl (by kernel_rfl) (by kernel_rfl) (by kernel_rfl) rfl rfl (fun _ _ _ h => h) ⟨_, _, rfl, rfl, rfl⟩ (fun ρ w E H => ex_field E rfl fa_palaver_api_Msg_7 rfl rfl) ?_
                  refine SxA.take (i := 26) rfl (by kernel_rfl) (by kernel_rfl) (by kernel_rfl) rfl rfl (fun _ _ _ h => h) ⟨_, _, rfl, rfl, rfl⟩ (fun ρ w E H => ex_load1 E (H.get (i := 1) rfl) rfl rfl Tryz.underlying26 rfl rfl) ?_
                  refine SxA.take (i := 27) (v := .int .i64 (il.length : Int)) rfl (by kernel_rfl) (by kernel_rfl) (by kernel_rfl) rfl rfl (fun _ _ _ h => h) ⟨_, _, rfl, rfl, rfl⟩ (fun ρ w E H => ex_lenS E rfl Tryz.underlying26 rfl) ?_
                  refine SxA.takeB (i := 28) rfl (by kernel_rfl) (by kernel_rfl) (by kernel_rfl) rfl rfl (fun _ _ _ h => h) ⟨_, _, rfl, rfl, rfl⟩ (fun ρ w E H => ex_cmp E rfl rfl rfl rfl rfl) fun c204 hc204 => ?_
                  refine SxA.ready [24] (by kernel_rfl) (by simp) ⟨?_, trivial⟩
                  refine SxO.callB (v := .bool h105) rfl ⟨_, _, rfl, rfl, rfl⟩ rfl rfl (fun ρ w E => ex_call E en_palaver_palaverref18_has rfl rfl) (fun w H => (rhas_any mk 105 hf.h1 w).mono fun _ _ h => ⟨by rw [h.1, hh105], h.2⟩) (fun w H => H.ks [] [0, 1] rfl ⟨(fun g hg => by rw [List.mem_singleton.1 hg]; exact .inr hg2), (fun g hg => by rw [List.mem_singleton.1 hg]; exact .inr hg1), trivial⟩) ?_
                  refine SxA.take (i := 29) (v := .bool ((h105 != c204))) rfl (by kernel_rfl) (by kernel_rfl) (by kernel_rfl) rfl rfl (fun _ _ _ h => h) ⟨_, _, rfl, rfl, rfl⟩ (fun ρ w E H => ex_bneq E rfl Tryz.underlying4 rfl rfl rfl) ?_
                  refine SxA.take (i := 30) rfl (by kernel_rfl) (by kernel_rfl) (by kernel_rfl) rfl rfl (fun _ _ _ h => h) trivial (fun ρ w E H => ex_pick E rfl (t := false) rfl rfl) ?_
                  refine SxA.done (by kernel_rfl) ?_
                  have hq : (h105 != c204) = bad5 (hasS (chars mk) 118) (hasS (chars mk) 116) (hasS (chars mk) 105) mv vl.length il.length := by rw [hh118, hh116, hh105]; unfold bad5; grind [cmpB]
                  refine SxN.meet (h105 != c204) hq ⟨rfl, rfl, rfl, rfl, trivial⟩ [0, 1] rfl (by decide) ⟨.inl rfl, .inl rfl, trivial⟩
            refine SxN.then_ ?_
            cases b206
            · refine SxC.condF rfl (SxC.skip (SxN.then_ (SxC.seq (SxC.region ?_))))
              refine SxL.val trivial rfl rfl (fun ρ w E H => ex_assign E rfl rfl) ?_
              refine SxL.nil (SxN.then_ (SxC.seq (SxC.seq (SxC.region ?_))))
              refine SxL.val trivial rfl rfl (fun ρ w E H => ex_assign E rfl rfl) ?_
              refine SxL.nil (SxN.then_ (SxC.block ?_))
              refine SxC.loop2 (fun (k : Nat) (last : Nat) => [(1, .pointer (some ⟨g1, 0, none⟩)), (4, .int .u64 4611686018427387904), (5, .int .u64 (last : Int)), (6, .int .i64 (k : Int))]) (fun (k : Nat) (last : Nat) => [cell g2 29 [.int .u8 (ca : Int), .int .u32 (cb : Int), .int .u8 (ck : Int), .string ⟨cs.toArray⟩, .string ⟨ct.toArray⟩, .string ⟨cu.toArray⟩, .int .u8 (cz : Int)], cell g1 33 [.int .u8 (mk : Int), .int .u64 (mn : Int), .int .u8 (mr : Int), .int .u64 (mb : Int), .int .u64 (ms : Int), .int .u8 (mo : Int), .string ⟨mv.toArray⟩, .slice A vl.length ka, .slice B il.length kb, .int .u8 (ca : Int), .int .u32 (cb : Int), .int .u8 (ck : Int), .string ⟨cs.toArray⟩, .string ⟨ct.toArray⟩, .string ⟨cu.toArray⟩, .int .u8 (cz : Int), .int .u8 (mc : Int), .string ⟨mt.toArray⟩]]) (fun (gk : Nat) (k : Nat) (last : Nat) => k + gk = vl.length ∧ riseV 0 vl = riseV last (vl.drop k)) vl.length 0 0 ⟨by omega, rfl⟩ ⟨rfl, rfl, rfl, rfl, trivial⟩ [0, 1] rfl (by decide) ⟨.inl rfl, .inl rfl, trivial⟩ fun gk k last hF => ?_
              obtain ⟨hkg, hrel⟩ := hF
              refine SxC.seq (SxC.seq (SxC.region ?_))
              refine SxL.val trivial rfl rfl (fun ρ w E H => ex_move E rfl rfl) ?_
              refine SxL.val (v := .pointer (some ⟨g1, 7, none⟩)) trivial rfl rfl (fun ρ w E H => ex_field E rfl fa_palaver_api_Msg_6 rfl rfl) ?_
              refine SxL.val trivial rfl rfl (fun ρ w E H => ex_load1 E (H.get (i := 1) rfl) rfl rfl Tryz.underlying25 rfl rfl) ?_
              refine SxL.val (v := .int .i64 (vl.length : Int)) trivial rfl rfl (fun ρ w E H => ex_lenS E rfl Tryz.underlying25 rfl) ?_
              refine SxL.valB trivial rfl rfl (fun ρ w E H => ex_cmp E rfl rfl rfl rfl rfl) fun c211 hc211 => ?_
              refine SxL.nil (SxN.then_ ?_)
              cases c211
              · refine SxC.condF rfl (SxC.exit (SxX.thenE (SxX.thenE (SxX.blockE (SxN.then_ (SxC.seq ?_))))))
                have hV : riseV 0 vl = true := by rw [hrel, List.drop_eq_nil_of_le (by simpa [cmpB] using hc211)]; rfl
                clear hrel hkg
                refine SxC.region ?_
                refine SxL.val trivial rfl rfl (fun ρ w E H => ex_assign E rfl rfl) ?_
                refine SxL.nil (SxN.then_ (SxC.seq (SxC.seq (SxC.region ?_))))
                refine SxL.val trivial rfl rfl (fun ρ w E H => ex_assign E rfl rfl) ?_
                refine SxL.nil (SxN.then_ (SxC.block ?_))
                refine SxC.loop2 (fun (k : Nat) (last : Nat) => [(1, .pointer (some ⟨g1, 0, none⟩)), (4, .int .u64 4611686018427387904), (5, .int .u64 (last : Int)), (7, .int .i64 (k : Int))]) (fun (k : Nat) (last : Nat) => [cell g2 29 [.int .u8 (ca : Int), .int .u32 (cb : Int), .int .u8 (ck : Int), .string ⟨cs.toArray⟩, .string ⟨ct.toArray⟩, .string ⟨cu.toArray⟩, .int .u8 (cz : Int)], cell g1 33 [.int .u8 (mk : Int), .int .u64 (mn : Int), .int .u8 (mr : Int), .int .u64 (mb : Int), .int .u64 (ms : Int), .int .u8 (mo : Int), .string ⟨mv.toArray⟩, .slice A vl.length ka, .slice B il.length kb, .int .u8 (ca : Int), .int .u32 (cb : Int), .int .u8 (ck : Int), .string ⟨cs.toArray⟩, .string ⟨ct.toArray⟩, .string ⟨cu.toArray⟩, .int .u8 (cz : Int), .int .u8 (mc : Int), .string ⟨mt.toArray⟩]]) (fun (gk : Nat) (k : Nat) (last : Nat) => k + gk = il.length ∧ riseI 0 il = riseI last (il.drop k)) il.length 0 0 ⟨by omega, rfl⟩ ⟨rfl, rfl, rfl, rfl, trivial⟩ [0, 1] rfl (by decide) ⟨.inl rfl, .inl rfl, trivial⟩ fun gk k last hF => ?_
                obtain ⟨hkg, hrel⟩ := hF
                refine SxC.seq (SxC.seq (SxC.region ?_))
                refine SxL.val trivial rfl rfl (fun ρ w E H => ex_move E rfl rfl) ?_
                refine SxL.val (v := .pointer (some ⟨g1, 8, none⟩)) trivial rfl rfl (fun ρ w E H => ex_field E rfl fa_palaver_api_Msg_7 rfl rfl) ?_
                refine SxL.val trivial rfl rfl (fun ρ w E H => ex_load1 E (H.get (i := 1) rfl) rfl rfl Tryz.underlying26 rfl rfl) ?_
                refine SxL.val (v := .int .i64 (il.length : Int)) trivial rfl rfl (fun ρ w E H => ex_lenS E rfl Tryz.underlying26 rfl) ?_
                refine SxL.valB trivial rfl rfl (fun ρ w E H => ex_cmp E rfl rfl rfl rfl rfl) fun c252 hc252 => ?_
                refine SxL.nil (SxN.then_ ?_)
                cases c252
                · refine SxC.condF rfl (SxC.exit (SxX.thenE (SxX.thenE (SxX.blockE (SxN.then_ (SxC.seq (SxC.region ?_)))))))
                  refine SxL.val trivial rfl rfl (fun ρ w E H => ex_assign E rfl rfl) ?_
                  refine SxL.nil (SxN.then_ (SxC.ret ?_))
                  refine SxX.done (.bool true) (fun a w K H => res1 K rfl rfl) (fun w H => ?_)
                  have hq : true = docMay ⟨mk, mn, mr, mb, ms, mo, mv, vl, il, ⟨ca, cb, ck, cs, ct, cu, cz⟩, mc, mt⟩ := by
                    unfold docMay; dsimp only
                    have hI : riseI 0 il = true := by rw [hrel, List.drop_eq_nil_of_le (by simpa [cmpB] using hc252)]; rfl
                    rw [hc11, ← hb62, ← hb90, ← hb127, ← hb175, ← hb206, hV, hI]; rfl
                  exact ⟨by rw [← doc_check, ← hq], H.toBelow ⟨(fun g hg => by rw [List.mem_singleton.1 hg]; exact hg2), (fun g hg => by rw [List.mem_singleton.1 hg]; exact hg1), trivial⟩⟩
                · refine SxC.condT rfl (SxC.skip (SxN.then_ (SxC.seq (SxC.block (SxC.seq (SxC.seq ?_))))))
                  have hkl : k < il.length := by simpa [cmpB] using hc252
                  obtain ⟨⟨xs, xv⟩, hx⟩ : ∃ x, il[k]? = some x := ⟨_, List.getElem?_eq_getElem hkl⟩
                  have hd : il.drop k = ⟨xs, xv⟩ :: il.drop (k + 1) := by rw [List.drop_eq_getElem_cons hkl]; congr 1; rw [List.getElem?_eq_getElem hkl] at hx; exact Option.some.inj hx
                  obtain ⟨ad, rfl, -, -⟩ := hr.hi.row hx
                  refine SxC.region ?_
                  refine SxL.val (v := .pointer (some ⟨g1, 8, none⟩)) trivial rfl rfl (fun ρ w E H => ex_field E rfl fa_palaver_api_Msg_7 rfl rfl) ?_
                  refine SxL.val trivial rfl rfl (fun ρ w E H => ex_load1 E (H.get (i := 1) rfl) rfl rfl Tryz.underlying26 rfl rfl) ?_
                  refine SxL.val trivial rfl rfl (fun ρ w E H => ex_move E rfl rfl) ?_
                  refine SxL.val (v := .pointer (some (ad.add (k * 2)))) trivial rfl rfl (fun ρ w E H => ex_index (i := k) E rfl Tryz.underlying26 sz_palaver_api_Item rfl rfl hkl) ?_
                  refine SxL.val (v := .pointer (some (ad.add (k * 2)))) trivial rfl rfl (fun ρ w E H => ex_field0 E rfl fa_palaver_api_Item_0 rfl) ?_
                  refine SxL.val (v := .int .u64 (xs : Int)) trivial rfl rfl (fun ρ w E H => ex_loadX0 E ((hr.hi.below (H.toBelow ⟨(fun g hg => by rw [List.mem_singleton.1 hg]; exact hg2), (fun g hg => by rw [List.mem_singleton.1 hg]; exact hg1), trivial⟩)).rowA hx) rfl rfl rfl Tryz.underlying22 rfl) ?_
                  refine SxL.val trivial rfl rfl (fun ρ w E H => ex_move E rfl rfl) ?_
                  refine SxL.valB trivial rfl rfl (fun ρ w E H => ex_cmp E rfl rfl rfl rfl rfl) fun c262 hc262 => ?_
                  refine SxL.val trivial rfl rfl (fun ρ w E H => ex_move E rfl rfl) ?_
                  cases c262
                  · refine SxL.val (v := .pointer (some ⟨g1, 8, none⟩)) ⟨_, _, rfl, rfl, rfl⟩ rfl rfl (fun ρ w E H => ex_field E rfl fa_palaver_api_Msg_7 rfl rfl) ?_
                    refine SxL.val ⟨_, _, rfl, rfl, rfl⟩ rfl rfl (fun ρ w E H => ex_load1 E (H.get (i := 1) rfl) rfl rfl Tryz.underlying26 rfl rfl) ?_
                    refine SxL.val ⟨_, _, rfl, rfl, rfl⟩ rfl rfl (fun ρ w E H => ex_move E rfl rfl) ?_
                    refine SxL.val (v := .pointer (some (ad.add (k * 2)))) ⟨_, _, rfl, rfl, rfl⟩ rfl rfl (fun ρ w E H => ex_index (i := k) E rfl Tryz.underlying26 sz_palaver_api_Item rfl rfl hkl) ?_
                    refine SxL.val (v := .pointer (some (ad.add (k * 2)))) ⟨_, _, rfl, rfl, rfl⟩ rfl rfl (fun ρ w E H => ex_field0 E rfl fa_palaver_api_Item_0 rfl) ?_
                    refine SxL.val (v := .int .u64 (xs : Int)) ⟨_, _, rfl, rfl, rfl⟩ rfl rfl (fun ρ w E H => ex_loadX0 E ((hr.hi.below (H.toBelow ⟨(fun g hg => by rw [List.mem_singleton.1 hg]; exact hg2), (fun g hg => by rw [List.mem_singleton.1 hg]; exact hg1), trivial⟩)).rowA hx) rfl rfl rfl Tryz.underlying22 rfl) ?_
                    refine SxL.val ⟨_, _, rfl, rfl, rfl⟩ rfl rfl (fun ρ w E H => ex_move E rfl rfl) ?_
                    refine SxL.valB ⟨_, _, rfl, rfl, rfl⟩ rfl rfl (fun ρ w E H => ex_cmp E rfl rfl rfl rfl rfl) fun c271 hc271 => ?_
                    refine SxL.val trivial rfl rfl (fun ρ w E H => ex_pick E rfl (t := false) rfl rfl) ?_
                    refine SxL.nil (SxN.then_ ?_)
                    cases c271
                    · refine SxC.condF rfl (SxC.skip (SxN.then_ (SxC.region ?_)))
                      refine SxL.val (v := .pointer (some ⟨g1, 8, none⟩)) trivial rfl rfl (fun ρ w E H => ex_field E rfl fa_palaver_api_Msg_7 rfl rfl) ?_
                      refine SxL.val trivial rfl rfl (fun ρ w E H => ex_load1 E (H.get (i := 1) rfl) rfl rfl Tryz.underlying26 rfl rfl) ?_
                      refine SxL.val trivial rfl rfl (fun ρ w E H => ex_move E rfl rfl) ?_
                      refine SxL.val (v := .pointer (some (ad.add (k * 2)))) trivial rfl rfl (fun ρ w E H => ex_index (i := k) E rfl Tryz.underlying26 sz_palaver_api_Item rfl rfl hkl) ?_
                      refine SxL.val (v := .pointer (some (ad.add (k * 2)))) trivial rfl rfl (fun ρ w E H => ex_field0 E rfl fa_palaver_api_Item_0 rfl) ?_
                      refine SxL.val (v := .int .u64 (xs : Int)) trivial rfl rfl (fun ρ w E H => ex_loadX0 E ((hr.hi.below (H.toBelow ⟨(fun g hg => by rw [List.mem_singleton.1 hg]; exact hg2), (fun g hg => by rw [List.mem_singleton.1 hg]; exact hg1), trivial⟩)).rowA hx) rfl rfl rfl Tryz.underlying22 rfl) ?_
                      refine SxL.val trivial rfl rfl (fun ρ w E H => ex_assign E rfl rfl) ?_
                      refine SxL.nil (SxN.block (SxN.then_ (SxC.region ?_)))
                      refine SxL.val trivial rfl rfl (fun ρ w E H => ex_move E rfl rfl) ?_
                      refine SxL.val (v := .int .i64 ((k + 1 : Nat) : Int)) trivial rfl rfl (fun ρ w E H => ex_add E rfl rfl rfl (by rw [IntKind.wrap_i64]; omega)) ?_
                      refine SxL.val trivial rfl rfl (fun ρ w E H => ex_assign E rfl rfl) ?_
                      refine SxL.nil ?_
                      refine SxN.back (gk - 1) (k + 1, xs) (by omega) ⟨by omega, by rw [hrel, hd]; grind [riseI, cmpB]⟩ ⟨rfl, rfl, rfl, rfl, trivial⟩ [0, 1] rfl (by decide) ⟨.inl rfl, .inl rfl, trivial⟩
                    · refine SxC.condT rfl (SxC.seq (SxC.region ?_))
                      refine SxL.val trivial rfl rfl (fun ρ w E H => ex_assign E rfl rfl) ?_
                      refine SxL.nil (SxN.then_ (SxC.ret (SxX.thenR (SxX.blockR (SxX.thenR (SxX.thenR (SxX.blockR (SxX.thenR ?_))))))))
                      refine SxX.done (.bool false) (fun a w K H => res1 K rfl rfl) (fun w H => ?_)
                      have hq : false = docMay ⟨mk, mn, mr, mb, ms, mo, mv, vl, il, ⟨ca, cb, ck, cs, ct, cu, cz⟩, mc, mt⟩ := by
                        unfold docMay; dsimp only
                        have hI : riseI 0 il = false := by rw [hrel, hd]; grind [riseI, cmpB]
                        rw [hI]; simp
                      exact ⟨by rw [← doc_check, ← hq], H.toBelow ⟨(fun g hg => by rw [List.mem_singleton.1 hg]; exact hg2), (fun g hg => by rw [List.mem_singleton.1 hg]; exact hg1), trivial⟩⟩
                  · refine SxL.off ⟨_, _, _, rfl, rfl, rfl, nofun⟩ rfl rfl ?_
                    iterate 7 refine SxL.off ⟨_, _, _, rfl, rfl, rfl, nofun⟩ rfl rfl ?_
                    refine SxL.val trivial rfl rfl (fun ρ w E H => ex_pick E rfl (t := true) rfl rfl) ?_
                    refine SxL.nil (SxN.then_ (SxC.condT rfl (SxC.seq (SxC.region ?_))))
                    refine SxL.val trivial rfl rfl (fun ρ w E H => ex_assign E rfl rfl) ?_
                    refine SxL.nil (SxN.then_ (SxC.ret (SxX.thenR (SxX.blockR (SxX.thenR (SxX.thenR (SxX.blockR (SxX.thenR ?_))))))))
                    refine SxX.done (.bool false) (fun a w K H => res1 K rfl rfl) (fun w H => ?_)
                    have hq : false = docMay ⟨mk, mn, mr, mb, ms, mo, mv, vl, il, ⟨ca, cb, ck, cs, ct, cu, cz⟩, mc, mt⟩ := by
                      unfold docMay; dsimp only
                      have hI : riseI 0 il = false := by rw [hrel, hd]; grind [riseI, cmpB]
                      rw [hI]; simp
                    exact ⟨by rw [← doc_check, ← hq], H.toBelow ⟨(fun g hg => by rw [List.mem_singleton.1 hg]; exact hg2), (fun g hg => by rw [List.mem_singleton.1 hg]; exact hg1), trivial⟩⟩
              · refine SxC.condT rfl (SxC.skip (SxN.then_ (SxC.seq (SxC.block (SxC.seq (SxC.seq ?_))))))
                have hkl : k < vl.length := by simpa [cmpB] using hc211
                obtain ⟨⟨xs, xn, xr, xv⟩, hx⟩ : ∃ x, vl[k]? = some x := ⟨_, List.getElem?_eq_getElem hkl⟩
                have hd : vl.drop k = ⟨xs, xn, xr, xv⟩ :: vl.drop (k + 1) := by rw [List.drop_eq_getElem_cons hkl]; congr 1; rw [List.getElem?_eq_getElem hkl] at hx; exact Option.some.inj hx
                obtain ⟨ad, rfl, -, -⟩ := hr.hv.row hx
                refine SxC.region ?_
                refine SxL.val (v := .pointer (some ⟨g1, 7, none⟩)) trivial rfl rfl (fun ρ w E H => ex_field E rfl fa_palaver_api_Msg_6 rfl rfl) ?_
                refine SxL.val trivial rfl rfl (fun ρ w E H => ex_load1 E (H.get (i := 1) rfl) rfl rfl Tryz.underlying25 rfl rfl) ?_
                refine SxL.val trivial rfl rfl (fun ρ w E H => ex_move E rfl rfl) ?_
                refine SxL.val (v := .pointer (some (ad.add (k * 4)))) trivial rfl rfl (fun ρ w E H => ex_index (i := k) E rfl Tryz.underlying25 sz_palaver_api_Vote rfl rfl hkl) ?_
                refine SxL.val (v := .pointer (some (ad.add (k * 4)))) trivial rfl rfl (fun ρ w E H => ex_field0 E rfl fa_palaver_api_Vote_0 rfl) ?_
                refine SxL.val (v := .int .u64 (xs : Int)) trivial rfl rfl (fun ρ w E H => ex_loadX0 E ((hr.hv.below (H.toBelow ⟨(fun g hg => by rw [List.mem_singleton.1 hg]; exact hg2), (fun g hg => by rw [List.mem_singleton.1 hg]; exact hg1), trivial⟩)).rowA hx) rfl rfl rfl Tryz.underlying22 rfl) ?_
                refine SxL.val trivial rfl rfl (fun ρ w E H => ex_move E rfl rfl) ?_
                refine SxL.valB trivial rfl rfl (fun ρ w E H => ex_cmp E rfl rfl rfl rfl rfl) fun c221 hc221 => ?_
                refine SxL.val trivial rfl rfl (fun ρ w E H => ex_move E rfl rfl) ?_
                cases c221
                · refine SxL.val (v := .pointer (some ⟨g1, 7, none⟩)) ⟨_, _, rfl, rfl, rfl⟩ rfl rfl (fun ρ w E H => ex_field E rfl fa_palaver_api_Msg_6 rfl rfl) ?_
                  refine SxL.val ⟨_, _, rfl, rfl, rfl⟩ rfl rfl (fun ρ w E H => ex_load1 E (H.get (i := 1) rfl) rfl rfl Tryz.underlying25 rfl rfl) ?_
                  refine SxL.val ⟨_, _, rfl, rfl, rfl⟩ rfl rfl (fun ρ w E H => ex_move E rfl rfl) ?_
                  refine SxL.val (v := .pointer (some (ad.add (k * 4)))) ⟨_, _, rfl, rfl, rfl⟩ rfl rfl (fun ρ w E H => ex_index (i := k) E rfl Tryz.underlying25 sz_palaver_api_Vote rfl rfl hkl) ?_
                  refine SxL.val (v := .pointer (some (ad.add (k * 4)))) ⟨_, _, rfl, rfl, rfl⟩ rfl rfl (fun ρ w E H => ex_field0 E rfl fa_palaver_api_Vote_0 rfl) ?_
                  refine SxL.val (v := .int .u64 (xs : Int)) ⟨_, _, rfl, rfl, rfl⟩ rfl rfl (fun ρ w E H => ex_loadX0 E ((hr.hv.below (H.toBelow ⟨(fun g hg => by rw [List.mem_singleton.1 hg]; exact hg2), (fun g hg => by rw [List.mem_singleton.1 hg]; exact hg1), trivial⟩)).rowA hx) rfl rfl rfl Tryz.underlying22 rfl) ?_
                  refine SxL.val ⟨_, _, rfl, rfl, rfl⟩ rfl rfl (fun ρ w E H => ex_move E rfl rfl) ?_
                  refine SxL.valB ⟨_, _, rfl, rfl, rfl⟩ rfl rfl (fun ρ w E H => ex_cmp E rfl rfl rfl rfl rfl) fun c230 hc230 => ?_
                  refine SxL.val trivial rfl rfl (fun ρ w E H => ex_pick E rfl (t := false) rfl rfl) ?_
                  refine SxL.val trivial rfl rfl (fun ρ w E H => ex_move E rfl rfl) ?_
                  cases c230
                  · refine SxL.val (v := .pointer (some ⟨g1, 7, none⟩)) ⟨_, _, rfl, rfl, rfl⟩ rfl rfl (fun ρ w E H => ex_field E rfl fa_palaver_api_Msg_6 rfl rfl) ?_
                    refine SxL.val ⟨_, _, rfl, rfl, rfl⟩ rfl rfl (fun ρ w E H => ex_load1 E (H.get (i := 1) rfl) rfl rfl Tryz.underlying25 rfl rfl) ?_
                    refine SxL.val ⟨_, _, rfl, rfl, rfl⟩ rfl rfl (fun ρ w E H => ex_move E rfl rfl) ?_
                    refine SxL.val (v := .pointer (some (ad.add (k * 4)))) ⟨_, _, rfl, rfl, rfl⟩ rfl rfl (fun ρ w E H => ex_index (i := k) E rfl Tryz.underlying25 sz_palaver_api_Vote rfl rfl hkl) ?_
                    refine SxL.val (v := .pointer (some ((ad.add (k * 4)).add 1))) ⟨_, _, rfl, rfl, rfl⟩ rfl rfl (fun ρ w E H => ex_fieldA E rfl fa_palaver_api_Vote_1 rfl) ?_
                    refine SxL.val (v := .agg #[.int .u64 (xn : Int), .int .u8 (xr : Int)]) ⟨_, _, rfl, rfl, rfl⟩ rfl rfl (fun ρ w E H => ex_loadX (cs := [.int .u64 (xn : Int), .int .u8 (xr : Int)]) E (RowAt.mid ((hr.hv.below (H.toBelow ⟨(fun g hg => by rw [List.mem_singleton.1 hg]; exact hg2), (fun g hg => by rw [List.mem_singleton.1 hg]; exact hg1), trivial⟩)).rowA hx) 1 2 rfl) rfl rfl Tryz.underlying24 rfl sz_palaver_api_Ballot) ?_
                    refine SxL.callBB (b := (goodB xn xr)) ⟨_, _, rfl, rfl, rfl⟩ rfl rfl (fun ρ w E => ex_call E en_palaver_palaverref18_good rfl rfl) (fun w H => rgood_any xn xr w) fun c239 hc239 => ?_
                    cases c239
                    · refine SxL.val (v := .bool true) ⟨_, _, rfl, rfl, rfl⟩ rfl rfl (fun ρ w E H => ex_not (t := false) E rfl rfl) ?_
                      refine SxL.val trivial rfl rfl (fun ρ w E H => ex_pick E rfl (t := false) rfl rfl) ?_
                      refine SxL.nil (SxN.then_ (SxC.condT rfl (SxC.seq (SxC.region ?_))))
                      refine SxL.val trivial rfl rfl (fun ρ w E H => ex_assign E rfl rfl) ?_
                      refine SxL.nil (SxN.then_ (SxC.ret (SxX.thenR (SxX.blockR (SxX.thenR (SxX.thenR (SxX.blockR (SxX.thenR ?_))))))))
                      refine SxX.done (.bool false) (fun a w K H => res1 K rfl rfl) (fun w H => ?_)
                      have hq : false = docMay ⟨mk, mn, mr, mb, ms, mo, mv, vl, il, ⟨ca, cb, ck, cs, ct, cu, cz⟩, mc, mt⟩ := by
                        unfold docMay; dsimp only
                        have hI : riseV 0 vl = false := by rw [hrel, hd]; grind [riseV, cmpB]
                        rw [hI]; simp
                      exact ⟨by rw [← doc_check, ← hq], H.toBelow ⟨(fun g hg => by rw [List.mem_singleton.1 hg]; exact hg2), (fun g hg => by rw [List.mem_singleton.1 hg]; exact hg1), trivial⟩⟩
                    · refine SxL.val (v := .bool false) ⟨_, _, rfl, rfl, rfl⟩ rfl rfl (fun ρ w E H => ex_not (t := true) E rfl rfl) ?_
                      refine SxL.val trivial rfl rfl (fun ρ w E H => ex_pick E rfl (t := false) rfl rfl) ?_
                      refine SxL.nil (SxN.then_ (SxC.condF rfl (SxC.skip (SxN.then_ (SxC.region ?_)))))
                      refine SxL.val (v := .pointer (some ⟨g1, 7, none⟩)) trivial rfl rfl (fun ρ w E H => ex_field E rfl fa_palaver_api_Msg_6 rfl rfl) ?_
                      refine SxL.val trivial rfl rfl (fun ρ w E H => ex_load1 E (H.get (i := 1) rfl) rfl rfl Tryz.underlying25 rfl rfl) ?_
                      refine SxL.val trivial rfl rfl (fun ρ w E H => ex_move E rfl rfl) ?_
                      refine SxL.val (v := .pointer (some (ad.add (k * 4)))) trivial rfl rfl (fun ρ w E H => ex_index (i := k) E rfl Tryz.underlying25 sz_palaver_api_Vote rfl rfl hkl) ?_
                      refine SxL.val (v := .pointer (some (ad.add (k * 4)))) trivial rfl rfl (fun ρ w E H => ex_field0 E rfl fa_palaver_api_Vote_0 rfl) ?_
                      refine SxL.val (v := .int .u64 (xs : Int)) trivial rfl rfl (fun ρ w E H => ex_loadX0 E ((hr.hv.below (H.toBelow ⟨(fun g hg => by rw [List.mem_singleton.1 hg]; exact hg2), (fun g hg => by rw [List.mem_singleton.1 hg]; exact hg1), trivial⟩)).rowA hx) rfl rfl rfl Tryz.underlying22 rfl) ?_
                      refine SxL.val trivial rfl rfl (fun ρ w E H => ex_assign E rfl rfl) ?_
                      refine SxL.nil (SxN.block (SxN.then_ (SxC.region ?_)))
                      refine SxL.val trivial rfl rfl (fun ρ w E H => ex_move E rfl rfl) ?_
                      refine SxL.val (v := .int .i64 ((k + 1 : Nat) : Int)) trivial rfl rfl (fun ρ w E H => ex_add E rfl rfl rfl (by rw [IntKind.wrap_i64]; omega)) ?_
                      refine SxL.val trivial rfl rfl (fun ρ w E H => ex_assign E rfl rfl) ?_
                      refine SxL.nil ?_
                      refine SxN.back (gk - 1) (k + 1, xs) (by omega) ⟨by omega, by rw [hrel, hd]; grind [riseV, cmpB]⟩ ⟨rfl, rfl, rfl, rfl, trivial⟩ [0, 1] rfl (by decide) ⟨.inl rfl, .inl rfl, trivial⟩
                  · refine SxL.off ⟨_, _, _, rfl, rfl, rfl, nofun⟩ rfl rfl ?_
                    iterate 7 refine SxL.off ⟨_, _, _, rfl, rfl, rfl, nofun⟩ rfl rfl ?_
                    refine SxL.val trivial rfl rfl (fun ρ w E H => ex_pick E rfl (t := true) rfl rfl) ?_
                    refine SxL.nil (SxN.then_ (SxC.condT rfl (SxC.seq (SxC.region ?_))))
                    refine SxL.val trivial rfl rfl (fun ρ w E H => ex_assign E rfl rfl) ?_
                    refine SxL.nil (SxN.then_ (SxC.ret (SxX.thenR (SxX.blockR (SxX.thenR (SxX.thenR (SxX.blockR (SxX.thenR ?_))))))))
                    refine SxX.done (.bool false) (fun a w K H => res1 K rfl rfl) (fun w H => ?_)
                    have hq : false = docMay ⟨mk, mn, mr, mb, ms, mo, mv, vl, il, ⟨ca, cb, ck, cs, ct, cu, cz⟩, mc, mt⟩ := by
                      unfold docMay; dsimp only
                      have hI : riseV 0 vl = false := by rw [hrel, hd]; grind [riseV, cmpB]
                      rw [hI]; simp
                    exact ⟨by rw [← doc_check, ← hq], H.toBelow ⟨(fun g hg => by rw [List.mem_singleton.1 hg]; exact hg2), (fun g hg => by rw [List.mem_singleton.1 hg]; exact hg1), trivial⟩⟩
                · refine SxL.off ⟨_, _, _, rfl, rfl, rfl, nofun⟩ rfl rfl ?_
                  iterate 7 refine SxL.off ⟨_, _, _, rfl, rfl, rfl, nofun⟩ rfl rfl ?_
                  refine SxL.val trivial rfl rfl (fun ρ w E H => ex_pick E rfl (t := true) rfl rfl) ?_
                  refine SxL.val trivial rfl rfl (fun ρ w E H => ex_move E rfl rfl) ?_
                  iterate 8 refine SxL.off ⟨_, _, _, rfl, rfl, rfl, nofun⟩ rfl rfl ?_
                  refine SxL.val trivial rfl rfl (fun ρ w E H => ex_pick E rfl (t := true) rfl rfl) ?_
                  refine SxL.nil (SxN.then_ (SxC.condT rfl (SxC.seq (SxC.region ?_))))
                  refine SxL.val trivial rfl rfl (fun ρ w E H => ex_assign E rfl rfl) ?_
                  refine SxL.nil (SxN.then_ (SxC.ret (SxX.thenR (SxX.blockR (SxX.thenR (SxX.thenR (SxX.blockR (SxX.thenR ?_))))))))
                  refine SxX.done (.bool false) (fun a w K H => res1 K rfl rfl) (fun w H => ?_)
                  have hq : false = docMay ⟨mk, mn, mr, mb, ms, mo, mv, vl, il, ⟨ca, cb, ck, cs, ct, cu, cz⟩, mc, mt⟩ := by
                    unfold docMay; dsimp only
                    have hI : riseV 0 vl = false := by rw [hrel, hd]; grind [riseV, cmpB]
                    rw [hI]; simp
                  exact ⟨by rw [← doc_check, ← hq], H.toBelow ⟨(fun g hg => by rw [List.mem_singleton.1 hg]; exact hg2), (fun g hg => by rw [List.mem_singleton.1 hg]; exact hg1), trivial⟩⟩
            · refine SxC.condT rfl (SxC.seq (SxC.region ?_))
              refine SxL.val trivial rfl rfl (fun ρ w E H => ex_assign E rfl rfl) ?_
              refine SxL.nil (SxN.then_ (SxC.ret (SxX.thenR ?_)))
              refine SxX.done (.bool false) (fun a w K H => res1 K rfl rfl) (fun w H => ?_)
              have hq : false = docMay ⟨mk, mn, mr, mb, ms, mo, mv, vl, il, ⟨ca, cb, ck, cs, ct, cu, cz⟩, mc, mt⟩ := by
                unfold docMay; dsimp only
                rw [← hb206]; simp
              exact ⟨by rw [← doc_check, ← hq], H.toBelow ⟨(fun g hg => by rw [List.mem_singleton.1 hg]; exact hg2), (fun g hg => by rw [List.mem_singleton.1 hg]; exact hg1), trivial⟩⟩
          · refine SxC.condT rfl (SxC.seq (SxC.region ?_))
            refine SxL.val trivial rfl rfl (fun ρ w E H => ex_assign E rfl rfl) ?_
            refine SxL.nil (SxN.then_ (SxC.ret (SxX.thenR ?_)))
            refine SxX.done (.bool false) (fun a w K H => res1 K rfl rfl) (fun w H => ?_)
            have hq : false = docMay ⟨mk, mn, mr, mb, ms, mo, mv, vl, il, ⟨ca, cb, ck, cs, ct, cu, cz⟩, mc, mt⟩ := by
              unfold docMay; dsimp only
              rw [← hb175]; simp
            exact ⟨by rw [← doc_check, ← hq], H.toBelow ⟨(fun g hg => by rw [List.mem_singleton.1 hg]; exact hg2), (fun g hg => by rw [List.mem_singleton.1 hg]; exact hg1), trivial⟩⟩
        · refine SxC.condT rfl (SxC.seq (SxC.region ?_))
          refine SxL.val trivial rfl rfl (fun ρ w E H => ex_assign E rfl rfl) ?_
          refine SxL.nil (SxN.then_ (SxC.ret (SxX.thenR ?_)))
          refine SxX.done (.bool false) (fun a w K H => res1 K rfl rfl) (fun w H => ?_)
          have hq : false = docMay ⟨mk, mn, mr, mb, ms, mo, mv, vl, il, ⟨ca, cb, ck, cs, ct, cu, cz⟩, mc, mt⟩ := by
            unfold docMay; dsimp only
            rw [← hb127]; simp
          exact ⟨by rw [← doc_check, ← hq], H.toBelow ⟨(fun g hg => by rw [List.mem_singleton.1 hg]; exact hg2), (fun g hg => by rw [List.mem_singleton.1 hg]; exact hg1), trivial⟩⟩
      · refine SxC.condT rfl (SxC.seq (SxC.region ?_))
        refine SxL.val trivial rfl rfl (fun ρ w E H => ex_assign E rfl rfl) ?_
        refine SxL.nil (SxN.then_ (SxC.ret (SxX.thenR ?_)))
        refine SxX.done (.bool false) (fun a w K H => res1 K rfl rfl) (fun w H => ?_)
        have hq : false = docMay ⟨mk, mn, mr, mb, ms, mo, mv, vl, il, ⟨ca, cb, ck, cs, ct, cu, cz⟩, mc, mt⟩ := by
          unfold docMay; dsimp only
          rw [← hb90]; simp
        exact ⟨by rw [← doc_check, ← hq], H.toBelow ⟨(fun g hg => by rw [List.mem_singleton.1 hg]; exact hg2), (fun g hg => by rw [List.mem_singleton.1 hg]; exact hg1), trivial⟩⟩
    · refine SxC.condT rfl (SxC.seq (SxC.region ?_))
      refine SxL.val trivial rfl rfl (fun ρ w E H => ex_assign E rfl rfl) ?_
      refine SxL.nil (SxN.then_ (SxC.ret (SxX.thenR ?_)))
      refine SxX.done (.bool false) (fun a w K H => res1 K rfl rfl) (fun w H => ?_)
      have hq : false = docMay ⟨mk, mn, mr, mb, ms, mo, mv, vl, il, ⟨ca, cb, ck, cs, ct, cu, cz⟩, mc, mt⟩ := by
        unfold docMay; dsimp only
        rw [← hb62]; simp
      exact ⟨by rw [← doc_check, ← hq], H.toBelow ⟨(fun g hg => by rw [List.mem_singleton.1 hg]; exact hg2), (fun g hg => by rw [List.mem_singleton.1 hg]; exact hg1), trivial⟩⟩
  · refine SxC.condT rfl (SxC.seq (SxC.region ?_))
    refine SxL.val trivial rfl rfl (fun ρ w E H => ex_assign E rfl rfl) ?_
    refine SxL.nil (SxN.then_ (SxC.ret (SxX.thenR ?_)))
    refine SxX.done (.bool false) (fun a w K H => res1 K rfl rfl) (fun w H => ?_)
    have hq : false = docMay ⟨mk, mn, mr, mb, ms, mo, mv, vl, il, ⟨ca, cb, ck, cs, ct, cu, cz⟩, mc, mt⟩ := by
      unfold docMay; dsimp only
      rw [hc11]; simp
    exact ⟨by rw [← doc_check, ← hq], H.toBelow ⟨(fun g hg => by rw [List.mem_singleton.1 hg]; exact hg1), trivial⟩⟩

theorem rmay_any (m : Ms) (A B : Option Addr) (ka kb : Nat) (w : World) (hf : m.Fits) (hs : m.Small) (hr : MsRows w m A B) : Calls Tryz.prog 16 #[msV m A ka B kb] w fun e w' => e = .returned (.bool (checkB m)) ∧ Below w.heap.size w w' := by
  obtain ⟨mk, mn, mr, mb, ms, mo, mv, vl, il, ⟨ca, cb, ck, cs, ct, cu, cz⟩, mc, mt⟩ := m
  exact rmay_lit _ _ _ _ _ _ _ _ _ _ _ _ _ _ _ _ _ _ _ _ _ _ w hf hs hr
end Go.Proofs.YteiaiilfekojfaaGreat.Msg
end
section
set_option linter.unusedVariables false
set_option linter.unusedSimpArgs false
namespace Go.Proofs.YteiaiilfekojfaaGreat.Msg
open Go.RowKit Sx Wire DrawInv
theorem ex_storeX {P : Program} {ρ : Operand → Value} {o : Oper} {w : World} {vs : Vs} {t u : TypeId} {p x : Operand} {g off m : Nat} {cs cs' : List Value} {v : Value} (E : Env vs ρ) (hb : Blk w g u cs.toArray) (ho : o.op = .store t p x) (hp : opv vs p = some (.pointer (some ⟨g, off, none⟩))) (hx : opv vs x = some v) (hz : (P.info? t).map (·.size) = some m) (hm : v.cells.toList.length = m) (hl : Nat.ble (off + m) cs.length = true) (h1 : v.cells.toList.all (·.oneCell') = true) (hcs : putL cs off v.cells.toList = cs') :
    ∃ w', (execOp ρ o).run P w = .ok .skip w' ∧ Blk w' g u cs'.toArray ∧ w.grownBy w' (some g) := by
  subst hcs
  exact ex_store E hb ho hp hx hz hm hl h1
theorem takeF_le (s : List UInt8) : (Frame.takeF s).2.1 ≤ s.length := by
  have h := rest_num ⟨0, s⟩
  have h : (Rd.num ⟨0, s⟩).2.rest.length ≤ s.length := h
  unfold Frame.takeF
  simp only
  repeat' split
  all_goals first | exact Nat.zero_le _ | (simp only; omega)
theorem call_rpart {w0 : World} {L : List Ft} (p : Pt) (m : Ms) (r : Rd) (hv : m.votes = []) (hi : m.items = []) (hG : Grows r 0) : ∀ w, Hp w0 L w → Calls Tryz.prog 62 #[.int .u8 (p.ch : Int), .agg (msL m (.slice none 0 0) (.slice none 0 0)).toArray, .agg #[.string ⟨(Rd.doc r).s.toArray⟩, .int .i64 ((Rd.doc r).e : Int)]] w fun E w' => ∃ V I, E = .returned (.tuple #[.agg (msL (p.take (m, r)).1 V I).toArray, .agg #[.string ⟨(Rd.doc (p.take (m, r)).2).s.toArray⟩, .int .i64 ((Rd.doc (p.take (m, r)).2).e : Int)]]) ∧ ((OwnIn w0 [] V ∧ OwnIn w0 [] I) ∧ (p ≠ .votes → p ≠ .items → V = .slice none 0 0 ∧ I = .slice none 0 0)) ∧
    Hp w0 (rowX [] w0.heap.size 92 4 V (p.take (m, r)).1.votes.length ((p.take (m, r)).1.votes.flatMap voL) :: rowX [] w0.heap.size 94 2 I (p.take (m, r)).1.items.length ((p.take (m, r)).1.items.flatMap imL) :: L) w' := fun w H => (rpart_any p m r hv hi hG w).mono fun E w' ⟨V, I, h1, h2, h3, h7, h4⟩ => by
  have f1 : OwnIn w0 [] V := fun b hb => .inr (Nat.le_trans H.os.size (own_lt h2 b hb).1)
  have f2 : OwnIn w0 [] I := fun b hb => .inr (Nat.le_trans H.os.size (own_lt h3 b hb).1)
  refine ⟨V, I, h1, ⟨⟨f1, f2⟩, h7⟩, ?_⟩
  have H2 := H.add h4 (rowX [] w0.heap.size 94 2 I (p.take (m, r)).1.items.length ((p.take (m, r)).1.items.flatMap imL)) (rowX_loc _ _ _ _ _ _ _) (fun g hg => by
    have hg : g ∈ I.ownBlock.toList := by simpa [rowX] using hg
    exact ⟨(own_lt h3 g hg).2, (own_lt h3 g hg).1⟩) (own_base h3 H.os.size)
  refine H2.know _ (rowX_loc _ _ _ _ _ _ _) (fun g hg => ?_) (own_base h2 H.os.size)
  have hg : g ∈ V.ownBlock.toList := by simpa [rowX] using hg
  refine ⟨(own_lt h2 g hg).2, fun q hq hgq => ?_⟩
  rcases List.mem_cons.1 hq with rfl | hq
  · have hgq : g ∈ I.ownBlock.toList := by simpa [rowX] using hgq
    exact own_own h2 h3 (by decide) g hg hgq
  · have h5 := (H.ok q hq).2.1 g hgq
    have h6 := (own_lt h2 g hg).1
    omega

set_option maxRecDepth 100000 in
set_option maxHeartbeats 4000000 in
theorem rtake_any (s : List UInt8)  (w : World) (hsl : s.length ≤ 100000) : Calls Tryz.prog 20 #[.string ⟨s.toArray⟩] w fun e w' => TakeRet s w e w' := by
  obtain ⟨⟨fi, fn, fe⟩, hF⟩ : ∃ x, Frame.takeF s = x := ⟨_, rfl⟩
  have hfi : fi.length ≤ 65536 := by have h := takeF_len s; rw [hF] at h; exact h
  have hfn : fn ≤ s.length := by have h := takeF_le s; rw [hF] at h; exact h
  have hFT : ∀ w, Calls Tryz.prog 60 #[.string ⟨s.toArray⟩] w fun e w' => e = .returned (.tuple #[.string ⟨fi.toArray⟩, .int .i64 (fn : Int), .int .i64 (fe : Int)]) ∧ Below w.heap.size w w' := fun w => by have h := Frame.refTake_any s (Nat.le_trans hsl (by decide)) w; rw [hF] at h; exact h
  refine sx_enter (n := 64) _ Tryz.func20 rfl rfl rfl (Hp.start w) ?_
  refine SxC.seq (SxC.region ?_)
  refine SxL.new (cs := [.int .u8 0, .int .u64 0, .int .u8 0, .int .u64 0, .int .u64 0, .int .u8 0, .string ⟨[].toArray⟩, .slice none 0 0, .slice none 0 0, .int .u8 0, .int .u32 0, .int .u8 0, .string ⟨[].toArray⟩, .string ⟨[].toArray⟩, .string ⟨[].toArray⟩, .int .u8 0, .int .u8 0, .string ⟨[].toArray⟩]) trivial rfl rfl (fun ρ w E H => ex_alloc rfl zr_palaver_api_Msg rfl) fun g1 hg1 => ?_
  refine SxL.val trivial rfl rfl (fun ρ w E H => ex_assign E rfl rfl) ?_
  refine SxL.nil (SxN.then_ (SxC.seq (SxC.region ?_)))
  refine SxL.val trivial rfl rfl (fun ρ w E H => ex_move E rfl rfl) ?_
  refine SxL.callB (v := .tuple #[.string ⟨fi.toArray⟩, .int .i64 (fn : Int), .int .i64 (fe : Int)]) trivial rfl rfl (fun ρ w E => ex_call E en_palaver_palaverref03_Take rfl rfl) (fun w H => hFT w) ?_
  refine SxL.val trivial rfl rfl (fun ρ w E H => ex_move E rfl rfl) ?_
  iterate 3 refine SxL.val trivial rfl rfl (fun ρ w E H => ex_extract E rfl rfl rfl) ?_
  iterate 3 refine SxL.val trivial rfl rfl (fun ρ w E H => ex_assign E rfl rfl) ?_
  refine SxL.nil (SxN.then_ (SxC.seq (SxC.seq (SxC.region ?_))))
  refine SxL.val trivial rfl rfl (fun ρ w E H => ex_move E rfl rfl) ?_
  refine SxL.valB trivial rfl rfl (fun ρ w E H => ex_cmp E rfl rfl rfl rfl rfl) fun c19 hc19 => ?_
  refine SxL.nil (SxN.then_ ?_)
  cases c19
  · refine SxC.condF rfl (SxC.skip (SxN.then_ (SxC.seq (SxC.seq (SxC.region ?_)))))
    iterate 2 refine SxL.val trivial rfl rfl (fun ρ w E H => ex_move E rfl rfl) ?_
    refine SxL.val (v := .int .i64 (s.length : Int)) trivial rfl rfl (fun ρ w E H => ex_lenT E rfl Tryz.underlying9 rfl) ?_
    refine SxL.valB trivial rfl rfl (fun ρ w E H => ex_cmp E rfl rfl rfl rfl rfl) fun c25 hc25 => ?_
    refine SxL.nil (SxN.then_ ?_)
    cases c25
    · refine SxC.condF rfl (SxC.skip (SxN.then_ (SxC.seq (SxC.region ?_))))
      refine SxL.val trivial rfl rfl (fun ρ w E H => ex_move E rfl rfl) ?_
      refine SxL.val trivial rfl rfl (fun ρ w E H => ex_build (cs := [.string ⟨fi.toArray⟩, .int .i64 0]) E rfl rfl (by kernel_rfl)) ?_
      obtain ⟨p30, hp30⟩ : ∃ p, Rd.byte (⟨0, fi⟩ : Rd) = p := ⟨_, rfl⟩
      refine SxL.callB (v := .tuple #[.int .u8 (p30.1 : Int), .agg #[.string ⟨((Rd.doc p30.2).s).toArray⟩, .int .i64 ((Rd.doc p30.2).e : Int)]]) trivial rfl rfl (fun ρ w E => ex_call E en_palaver_palaverref01_Reader_Byte rfl rfl) (fun w H => docb_p hp30 (by have q0 := (show (⟨0, fi⟩ : Rd).rest.length ≤ 65536 from hfi); omega) w) ?_
      refine SxL.val trivial rfl rfl (fun ρ w E H => ex_move E rfl rfl) ?_
      iterate 2 refine SxL.val trivial rfl rfl (fun ρ w E H => ex_extract E rfl rfl rfl) ?_
      refine SxL.new (cs := [.string ⟨[].toArray⟩, .int .i64 0]) trivial rfl rfl (fun ρ w E H => ex_alloc rfl zr_palaver_palaverref01_Reader rfl) fun g2 hg2 => ?_
      refine SxL.val trivial rfl rfl (fun ρ w E H => ex_assign E rfl rfl) ?_
      refine SxL.storeX (i := 0) [.string ⟨((Rd.doc p30.2).s).toArray⟩, .int .i64 ((Rd.doc p30.2).e : Int)] trivial rfl rfl rfl rfl rfl sz_palaver_palaverref01_Reader rfl rfl rfl (putL_all _ _ rfl) ?_
      refine SxL.nil (SxN.then_ (SxC.seq (SxC.region ?_)))
      refine SxL.val trivial rfl rfl (fun ρ w E H => ex_move E rfl rfl) ?_
      refine SxL.val trivial rfl rfl (fun ρ w E H => ex_build (cs := [.int .u8 (p30.1 : Int), .int .u64 0, .int .u8 0, .int .u64 0, .int .u64 0, .int .u8 0, .string ⟨[].toArray⟩, .slice none 0 0, .slice none 0 0, .int .u8 0, .int .u32 0, .int .u8 0, .string ⟨[].toArray⟩, .string ⟨[].toArray⟩, .string ⟨[].toArray⟩, .int .u8 0, .int .u8 0, .string ⟨[].toArray⟩]) E rfl rfl (by kernel_rfl)) ?_
      refine SxL.new (cs := [.int .u8 0, .int .u64 0, .int .u8 0, .int .u64 0, .int .u64 0, .int .u8 0, .string ⟨[].toArray⟩, .slice none 0 0, .slice none 0 0, .int .u8 0, .int .u32 0, .int .u8 0, .string ⟨[].toArray⟩, .string ⟨[].toArray⟩, .string ⟨[].toArray⟩, .int .u8 0, .int .u8 0, .string ⟨[].toArray⟩]) trivial rfl rfl (fun ρ w E H => ex_alloc rfl zr_palaver_api_Msg rfl) fun g3 hg3 => ?_
      refine SxL.storeX (i := 0) [.int .u8 (p30.1 : Int), .int .u64 0, .int .u8 0, .int .u64 0, .int .u64 0, .int .u8 0, .string ⟨[].toArray⟩, .slice none 0 0, .slice none 0 0, .int .u8 0, .int .u32 0, .int .u8 0, .string ⟨[].toArray⟩, .string ⟨[].toArray⟩, .string ⟨[].toArray⟩, .int .u8 0, .int .u8 0, .string ⟨[].toArray⟩] trivial rfl rfl rfl rfl rfl sz_palaver_api_Msg rfl rfl rfl (putL_all _ _ rfl) ?_
      refine SxL.nil (SxN.then_ (SxC.seq ?_))
      have hk8 : p30.1 < 256 := by rw [← hp30]; exact lt_byte _
      have hGG0 : GG (ms0 p30.1, p30.2) := by have q0 : p30.2.rest.length ≤ fi.length := rp_byte hp30; exact ⟨⟨by show p30.2.rest.length ≤ _; omega, (show 0 ≤ 100001 by decide), fun _ => by show 0 + p30.2.rest.length ≤ _; omega⟩, ⟨by show p30.2.rest.length ≤ _; omega, (show 0 ≤ 100001 by decide), fun _ => by show 0 + p30.2.rest.length ≤ _; omega⟩⟩
      refine SxC.region ?_
      refine SxL.val trivial rfl rfl (fun ρ w E H => ex_move E rfl rfl) ?_
      refine SxL.callB (v := .string ⟨((chars p30.1)).toArray⟩) trivial rfl rfl (fun ρ w E => ex_call E en_palaver_palaverref18_Parts rfl rfl) (fun w H => rparts_any p30.1 hk8 w) ?_
      refine SxL.val trivial rfl rfl (fun ρ w E H => ex_assign E rfl rfl) ?_
      refine SxL.nil (SxN.then_ (SxC.seq (SxC.seq (SxC.region ?_))))
      refine SxL.val trivial rfl rfl (fun ρ w E H => ex_assign E rfl rfl) ?_
      refine SxL.nil (SxN.then_ (SxC.block ?_))
      refine SxC.hp (fun W H => H.nilRow 94 2) ?_
      refine SxC.hp (fun W H => H.nilRow 92 4) ?_
      refine SxC.loop4 (fun (i : Nat) (x : Ms × Rd) (V : Value) (I : Value) => [(2, .pointer (some ⟨g1, 0, none⟩)), (3, .int .i64 0), (8, .pointer (some ⟨g2, 0, none⟩)), (9, .pointer (some ⟨g3, 0, none⟩)), (10, .string ⟨((chars p30.1)).toArray⟩), (11, .int .i64 (i : Int))]) (fun (i : Nat) (x : Ms × Rd) (V : Value) (I : Value) => [rowX [] w.heap.size 92 4 V x.1.votes.length (x.1.votes.flatMap voL), rowX [] w.heap.size 94 2 I x.1.items.length (x.1.items.flatMap imL), cell g3 33 [.int .u8 (x.1.kind : Int), .int .u64 (x.1.bn : Int), .int .u8 (x.1.br : Int), .int .u64 (x.1.base : Int), .int .u64 (x.1.slot : Int), .int .u8 (x.1.node : Int), .string ⟨x.1.value.toArray⟩, V, I, .int .u8 (x.1.cmd.client : Int), .int .u32 (x.1.cmd.seq : Int), .int .u8 (x.1.cmd.kind : Int), .string ⟨x.1.cmd.key.toArray⟩, .string ⟨x.1.cmd.old.toArray⟩, .string ⟨x.1.cmd.new.toArray⟩, .int .u8 (x.1.cmd.set : Int), .int .u8 (x.1.code : Int), .string ⟨x.1.text.toArray⟩], cell g2 121 [.string ⟨((Rd.doc x.2).s).toArray⟩, .int .i64 ((Rd.doc x.2).e : Int)], cell g1 33 [.int .u8 0, .int .u64 0, .int .u8 0, .int .u64 0, .int .u64 0, .int .u8 0, .string ⟨[].toArray⟩, .slice none 0 0, .slice none 0 0, .int .u8 0, .int .u32 0, .int .u8 0, .string ⟨[].toArray⟩, .string ⟨[].toArray⟩, .string ⟨[].toArray⟩, .int .u8 0, .int .u8 0, .string ⟨[].toArray⟩]]) (fun (gk : Nat) (i : Nat) (x : Ms × Rd) (V : Value) (I : Value) => i + gk = (chars p30.1).length ∧ x = taken ((partsOf p30.1).take i) p30.1 p30.2 ∧ GG x ∧ OwnIn w [] V ∧ OwnIn w [] I ∧ (i < (partsOf p30.1).length → V = .slice none 0 0 ∧ I = .slice none 0 0 ∧ x.1.votes = [] ∧ x.1.items = [])) (chars p30.1).length 0 (ms0 p30.1, p30.2) (.slice none 0 0) (.slice none 0 0) ⟨by omega, rfl, hGG0, own_none w, own_none w, fun _ => ⟨rfl, rfl, rfl, rfl⟩⟩ ⟨rfl, rfl, rfl, rfl, rfl, rfl, trivial⟩ [0, 1, 2, 3, 4] rfl (by decide) ⟨.inl rfl, .inl rfl, .inl rfl, .inl rfl, .inl rfl, trivial⟩ fun gk i x V I hF_ => ?_
      obtain ⟨hkg, hxk, hGG, hV, hI, hnil⟩ := hF_
      refine SxC.seq (SxC.seq (SxC.region ?_))
      iterate 2 refine SxL.val trivial rfl rfl (fun ρ w E H => ex_move E rfl rfl) ?_
      refine SxL.val (v := .int .i64 ((chars p30.1).length : Int)) trivial rfl rfl (fun ρ w E H => ex_lenT E rfl Tryz.underlying9 rfl) ?_
      refine SxL.valB trivial rfl rfl (fun ρ w E H => ex_cmp E rfl rfl rfl rfl rfl) fun c40 hc40 => ?_
      refine SxL.nil (SxN.then_ ?_)
      cases c40
      · refine SxC.condF rfl (SxC.exit (SxX.thenE (SxX.thenE (SxX.blockE (SxN.then_ (SxC.seq ?_))))))
        have hle : (partsOf p30.1).length ≤ i := by have h := hc40; simp [cmpB] at h; unfold chars at h; rw [List.length_map] at h; omega
        have hxe : x = taken (partsOf p30.1) p30.1 p30.2 := by rw [hxk, List.take_of_length_le hle]
        have hsm : (Rd.end_ x.2).err = 0 → x.1.Fits ∧ x.1.Small := fun h => by have h0 := (Cmd.end_zero h).1; rw [hxe] at h0 ⊢; exact taken_small hk8 (by have q0 : p30.2.rest.length ≤ fi.length := rp_byte hp30; omega) h0
        refine SxC.with (fun W H => own_is_slice (H.get (i := 0) rfl)) ?_
        rintro ⟨A2, k2, rfl⟩
        refine SxC.with (fun W H => own_is_slice (H.get (i := 1) rfl)) ?_
        rintro ⟨B2, l2, rfl⟩
        refine SxC.region ?_
        refine SxL.val trivial rfl rfl (fun ρ w E H => ex_load (part := [.string ⟨((Rd.doc x.2).s).toArray⟩, .int .i64 ((Rd.doc x.2).e : Int)]) E (H.get (i := 3) rfl) rfl rfl Tryz.underlying121 rfl sz_palaver_palaverref01_Reader rfl rfl) ?_
        refine SxL.callB (v := .agg #[.string ⟨((Rd.doc (Rd.end_ x.2)).s).toArray⟩, .int .i64 ((Rd.doc (Rd.end_ x.2)).e : Int)]) trivial rfl rfl (fun ρ w E => ex_call E en_palaver_palaverref01_Reader_End rfl rfl) (fun w H => (docEnd_any x.2.doc w).mono fun _ _ h => ⟨by rw [h.1, doc_end]; rfl, h.2⟩) ?_
        refine SxL.storeX (i := 3) [.string ⟨((Rd.doc (Rd.end_ x.2)).s).toArray⟩, .int .i64 ((Rd.doc (Rd.end_ x.2)).e : Int)] trivial rfl rfl rfl rfl rfl sz_palaver_palaverref01_Reader rfl rfl rfl (putL_all _ _ rfl) ?_
        refine SxL.nil (SxN.then_ (SxC.seq (SxC.seq (SxC.region ?_))))
        refine SxL.val (v := .pointer (some ⟨g2, 1, none⟩)) trivial rfl rfl (fun ρ w E H => ex_field E rfl fa_palaver_palaverref01_Reader_1 rfl rfl) ?_
        refine SxL.val trivial rfl rfl (fun ρ w E H => ex_load1 E (H.get (i := 3) rfl) rfl rfl Tryz.underlying37 rfl rfl) ?_
        refine SxL.valB trivial rfl rfl (fun ρ w E H => ex_cmp E rfl rfl rfl rfl rfl) fun c56 hc56 => ?_
        refine SxL.val trivial rfl rfl (fun ρ w E H => ex_move E rfl rfl) ?_
        cases c56
        · refine SxL.val ⟨_, _, rfl, rfl, rfl⟩ rfl rfl (fun ρ w E H => ex_load (part := [.int .u8 (x.1.kind : Int), .int .u64 (x.1.bn : Int), .int .u8 (x.1.br : Int), .int .u64 (x.1.base : Int), .int .u64 (x.1.slot : Int), .int .u8 (x.1.node : Int), .string ⟨x.1.value.toArray⟩, .slice A2 x.1.votes.length k2, .slice B2 x.1.items.length l2, .int .u8 (x.1.cmd.client : Int), .int .u32 (x.1.cmd.seq : Int), .int .u8 (x.1.cmd.kind : Int), .string ⟨x.1.cmd.key.toArray⟩, .string ⟨x.1.cmd.old.toArray⟩, .string ⟨x.1.cmd.new.toArray⟩, .int .u8 (x.1.cmd.set : Int), .int .u8 (x.1.code : Int), .string ⟨x.1.text.toArray⟩]) E (H.get (i := 2) rfl) rfl rfl Tryz.underlying33 rfl sz_palaver_api_Msg rfl rfl) ?_
          refine SxL.callBB (b := (checkB x.1)) ⟨_, _, rfl, rfl, rfl⟩ rfl rfl (fun ρ w E => ex_call E en_palaver_palaverref18_May rfl rfl) (fun w H => rmay_any x.1 A2 B2 k2 l2 w (hsm (by have h := hc56; rw [doc_err] at h; simp [cmpB] at h; omega)).1 (hsm (by have h := hc56; rw [doc_err] at h; simp [cmpB] at h; omega)).2 ⟨own_read voL_len (by decide) (H.get (i := 0) rfl), own_read imL_len (by decide) (H.get (i := 1) rfl)⟩) fun c59 hc59 => ?_
          cases c59
          · refine SxL.val (v := .bool true) ⟨_, _, rfl, rfl, rfl⟩ rfl rfl (fun ρ w E H => ex_not (t := false) E rfl rfl) ?_
            refine SxL.val trivial rfl rfl (fun ρ w E H => ex_pick E rfl (t := false) rfl rfl) ?_
            refine SxL.nil (SxN.then_ (SxC.condT rfl (SxC.seq (SxC.region ?_))))
            refine SxL.val trivial rfl rfl (fun ρ w E H => ex_build (cs := [.int .u8 0, .int .u64 0, .int .u8 0, .int .u64 0, .int .u64 0, .int .u8 0, .string ⟨[].toArray⟩, .slice none 0 0, .slice none 0 0, .int .u8 0, .int .u32 0, .int .u8 0, .string ⟨[].toArray⟩, .string ⟨[].toArray⟩, .string ⟨[].toArray⟩, .int .u8 0, .int .u8 0, .string ⟨[].toArray⟩]) E rfl rfl (by kernel_rfl)) ?_
            refine SxL.storeX (i := 4) [.int .u8 0, .int .u64 0, .int .u8 0, .int .u64 0, .int .u64 0, .int .u8 0, .string ⟨[].toArray⟩, .slice none 0 0, .slice none 0 0, .int .u8 0, .int .u32 0, .int .u8 0, .string ⟨[].toArray⟩, .string ⟨[].toArray⟩, .string ⟨[].toArray⟩, .int .u8 0, .int .u8 0, .string ⟨[].toArray⟩] trivial rfl rfl rfl rfl rfl sz_palaver_api_Msg rfl rfl rfl (putL_all _ _ rfl) ?_
            refine SxL.val trivial rfl rfl (fun ρ w E H => ex_assign E rfl rfl) ?_
            refine SxL.nil (SxN.then_ (SxC.ret (SxX.thenR ?_)))
            refine SxX.done _ (fun a w K H => resM K [.agg #[.int .u8 0, .int .u64 0, .int .u8 0, .int .u64 0, .int .u64 0, .int .u8 0, .string ⟨[].toArray⟩, .slice none 0 0, .slice none 0 0, .int .u8 0, .int .u32 0, .int .u8 0, .string ⟨[].toArray⟩, .string ⟨[].toArray⟩, .string ⟨[].toArray⟩, .int .u8 0, .int .u8 0, .string ⟨[].toArray⟩], .int .i64 4] rfl rfl ⟨⟨_, rfl, blk_loadVar (H.get (i := 4) rfl) Tryz.underlying33 rfl sz_palaver_api_Msg⟩, rfl, trivial⟩) (fun w H => ?_)
            have ht := takeM_3 hF (by have h := hc19; simp [cmpB] at h; omega) (by have h := hc25; simp [cmpB] at h; omega) hp30 hxe
            rw [if_neg (fun hh => by rw [hh.2] at hc59; cases hc59)] at ht
            unfold TakeRet
            rw [ht]
            exact ⟨.slice none 0 0, .slice none 0 0, rfl, World.ownsRow_nil _ _ _ _, World.ownsRow_nil _ _ _ _, H.toBelow ⟨hV.fresh, hI.fresh, (fun g hg => by rw [List.mem_singleton.1 hg]; exact hg3), (fun g hg => by rw [List.mem_singleton.1 hg]; exact hg2), (fun g hg => by rw [List.mem_singleton.1 hg]; exact hg1), trivial⟩⟩
          · refine SxL.val (v := .bool false) ⟨_, _, rfl, rfl, rfl⟩ rfl rfl (fun ρ w E H => ex_not (t := true) E rfl rfl) ?_
            refine SxL.val trivial rfl rfl (fun ρ w E H => ex_pick E rfl (t := false) rfl rfl) ?_
            refine SxL.nil (SxN.then_ (SxC.condF rfl (SxC.skip (SxN.then_ (SxC.seq (SxC.region ?_))))))
            refine SxL.val trivial rfl rfl (fun ρ w E H => ex_load (part := [.int .u8 (x.1.kind : Int), .int .u64 (x.1.bn : Int), .int .u8 (x.1.br : Int), .int .u64 (x.1.base : Int), .int .u64 (x.1.slot : Int), .int .u8 (x.1.node : Int), .string ⟨x.1.value.toArray⟩, .slice A2 x.1.votes.length k2, .slice B2 x.1.items.length l2, .int .u8 (x.1.cmd.client : Int), .int .u32 (x.1.cmd.seq : Int), .int .u8 (x.1.cmd.kind : Int), .string ⟨x.1.cmd.key.toArray⟩, .string ⟨x.1.cmd.old.toArray⟩, .string ⟨x.1.cmd.new.toArray⟩, .int .u8 (x.1.cmd.set : Int), .int .u8 (x.1.code : Int), .string ⟨x.1.text.toArray⟩]) E (H.get (i := 2) rfl) rfl rfl Tryz.underlying33 rfl sz_palaver_api_Msg rfl rfl) ?_
            refine SxL.storeX (i := 4) [.int .u8 (x.1.kind : Int), .int .u64 (x.1.bn : Int), .int .u8 (x.1.br : Int), .int .u64 (x.1.base : Int), .int .u64 (x.1.slot : Int), .int .u8 (x.1.node : Int), .string ⟨x.1.value.toArray⟩, .slice A2 x.1.votes.length k2, .slice B2 x.1.items.length l2, .int .u8 (x.1.cmd.client : Int), .int .u32 (x.1.cmd.seq : Int), .int .u8 (x.1.cmd.kind : Int), .string ⟨x.1.cmd.key.toArray⟩, .string ⟨x.1.cmd.old.toArray⟩, .string ⟨x.1.cmd.new.toArray⟩, .int .u8 (x.1.cmd.set : Int), .int .u8 (x.1.code : Int), .string ⟨x.1.text.toArray⟩] trivial rfl rfl rfl rfl rfl sz_palaver_api_Msg rfl rfl rfl (putL_all _ _ rfl) ?_
            refine SxL.val trivial rfl rfl (fun ρ w E H => ex_assign E rfl rfl) ?_
            refine SxL.nil (SxN.then_ (SxC.ret ?_))
            refine SxX.done _ (fun a w K H => resM K [.agg #[.int .u8 (x.1.kind : Int), .int .u64 (x.1.bn : Int), .int .u8 (x.1.br : Int), .int .u64 (x.1.base : Int), .int .u64 (x.1.slot : Int), .int .u8 (x.1.node : Int), .string ⟨x.1.value.toArray⟩, .slice A2 x.1.votes.length k2, .slice B2 x.1.items.length l2, .int .u8 (x.1.cmd.client : Int), .int .u32 (x.1.cmd.seq : Int), .int .u8 (x.1.cmd.kind : Int), .string ⟨x.1.cmd.key.toArray⟩, .string ⟨x.1.cmd.old.toArray⟩, .string ⟨x.1.cmd.new.toArray⟩, .int .u8 (x.1.cmd.set : Int), .int .u8 (x.1.code : Int), .string ⟨x.1.text.toArray⟩], .int .i64 0] rfl rfl ⟨⟨_, rfl, blk_loadVar (H.get (i := 4) rfl) Tryz.underlying33 rfl sz_palaver_api_Msg⟩, rfl, trivial⟩) (fun w H => ?_)
            have ht := takeM_3 hF (by have h := hc19; simp [cmpB] at h; omega) (by have h := hc25; simp [cmpB] at h; omega) hp30 hxe
            rw [if_pos ⟨by have h := hc56; rw [doc_err] at h; simp [cmpB] at h; omega, hc59⟩] at ht
            unfold TakeRet
            rw [ht]
            exact ⟨_, _, rfl, H.get (i := 0) rfl, H.get (i := 1) rfl, H.toBelow ⟨hV.fresh, hI.fresh, (fun g hg => by rw [List.mem_singleton.1 hg]; exact hg3), (fun g hg => by rw [List.mem_singleton.1 hg]; exact hg2), (fun g hg => by rw [List.mem_singleton.1 hg]; exact hg1), trivial⟩⟩
        · refine SxL.off ⟨_, _, _, rfl, rfl, rfl, nofun⟩ rfl rfl ?_
          iterate 2 refine SxL.off ⟨_, _, _, rfl, rfl, rfl, nofun⟩ rfl rfl ?_
          refine SxL.val trivial rfl rfl (fun ρ w E H => ex_pick E rfl (t := true) rfl rfl) ?_
          refine SxL.nil (SxN.then_ (SxC.condT rfl (SxC.seq (SxC.region ?_))))
          refine SxL.val trivial rfl rfl (fun ρ w E H => ex_build (cs := [.int .u8 0, .int .u64 0, .int .u8 0, .int .u64 0, .int .u64 0, .int .u8 0, .string ⟨[].toArray⟩, .slice none 0 0, .slice none 0 0, .int .u8 0, .int .u32 0, .int .u8 0, .string ⟨[].toArray⟩, .string ⟨[].toArray⟩, .string ⟨[].toArray⟩, .int .u8 0, .int .u8 0, .string ⟨[].toArray⟩]) E rfl rfl (by kernel_rfl)) ?_
          refine SxL.storeX (i := 4) [.int .u8 0, .int .u64 0, .int .u8 0, .int .u64 0, .int .u64 0, .int .u8 0, .string ⟨[].toArray⟩, .slice none 0 0, .slice none 0 0, .int .u8 0, .int .u32 0, .int .u8 0, .string ⟨[].toArray⟩, .string ⟨[].toArray⟩, .string ⟨[].toArray⟩, .int .u8 0, .int .u8 0, .string ⟨[].toArray⟩] trivial rfl rfl rfl rfl rfl sz_palaver_api_Msg rfl rfl rfl (putL_all _ _ rfl) ?_
          refine SxL.val trivial rfl rfl (fun ρ w E H => ex_assign E rfl rfl) ?_
          refine SxL.nil (SxN.then_ (SxC.ret (SxX.thenR ?_)))
          refine SxX.done _ (fun a w K H => resM K [.agg #[.int .u8 0, .int .u64 0, .int .u8 0, .int .u64 0, .int .u64 0, .int .u8 0, .string ⟨[].toArray⟩, .slice none 0 0, .slice none 0 0, .int .u8 0, .int .u32 0, .int .u8 0, .string ⟨[].toArray⟩, .string ⟨[].toArray⟩, .string ⟨[].toArray⟩, .int .u8 0, .int .u8 0, .string ⟨[].toArray⟩], .int .i64 4] rfl rfl ⟨⟨_, rfl, blk_loadVar (H.get (i := 4) rfl) Tryz.underlying33 rfl sz_palaver_api_Msg⟩, rfl, trivial⟩) (fun w H => ?_)
          have ht := takeM_3 hF (by have h := hc19; simp [cmpB] at h; omega) (by have h := hc25; simp [cmpB] at h; omega) hp30 hxe
          rw [if_neg (fun hh => by have h := hc56; rw [doc_err] at h; simp [cmpB] at h; omega)] at ht
          unfold TakeRet
          rw [ht]
          exact ⟨.slice none 0 0, .slice none 0 0, rfl, World.ownsRow_nil _ _ _ _, World.ownsRow_nil _ _ _ _, H.toBelow ⟨hV.fresh, hI.fresh, (fun g hg => by rw [List.mem_singleton.1 hg]; exact hg3), (fun g hg => by rw [List.mem_singleton.1 hg]; exact hg2), (fun g hg => by rw [List.mem_singleton.1 hg]; exact hg1), trivial⟩⟩
      · refine SxC.condT rfl (SxC.skip (SxN.then_ (SxC.seq (SxC.block ?_))))
        have hkl : i < (chars p30.1).length := by have h := hc40; simp [cmpB] at h; omega
        have hkp : i < (partsOf p30.1).length := by unfold chars at hkl; rwa [List.length_map] at hkl
        obtain ⟨p, hp⟩ : ∃ p, (partsOf p30.1)[i]? = some p := ⟨_, List.getElem?_eq_getElem hkp⟩
        have hch := char_at hp
        have hcl := ch_lt p
        replace hnil := hnil hkp
        obtain ⟨rfl, rfl, hnil⟩ := hnil
        have hG0x : Grows x.2 0 := by have h := hGG.1; rw [hnil.1] at h; exact h
        refine SxC.drawnK [] [0, 1, 4] (by kernel_rfl) rfl ⟨(fun g hg => .inr (hV.fresh g hg)), (fun g hg => .inr (hI.fresh g hg)), (fun g hg => by rw [List.mem_singleton.1 hg]; exact .inr hg3), (fun g hg => by rw [List.mem_singleton.1 hg]; exact .inr hg2), (fun g hg => by rw [List.mem_singleton.1 hg]; exact .inr hg1), trivial⟩ ?_
        refine SxA.take (i := 0) rfl (by kernel_rfl) (by kernel_rfl) (by kernel_rfl) rfl rfl (fun _ _ _ h => h) trivial (fun ρ w E H => ex_move E rfl rfl) ?_
        refine SxA.take (i := 1) rfl (by kernel_rfl) (by kernel_rfl) (by kernel_rfl) rfl rfl (fun _ _ _ h => h) trivial (fun ρ w E H => ex_move E rfl rfl) ?_
        refine SxA.take (i := 2) (v := .int .u8 (p.ch : Int)) rfl (by kernel_rfl) (by kernel_rfl) (by kernel_rfl) rfl rfl (fun _ _ _ h => h) trivial (fun ρ w E H => ex_indexT (n := i) (b := (UInt8.ofNat p.ch)) E rfl Tryz.underlying9 rfl rfl hch (by simp; omega)) ?_
        refine SxA.ready [3, 4] (by kernel_rfl) (by simp) ⟨?_, ?_, trivial⟩
        · refine SxO.val rfl trivial rfl rfl (fun ρ w E H => ex_load (part := [.int .u8 (x.1.kind : Int), .int .u64 (x.1.bn : Int), .int .u8 (x.1.br : Int), .int .u64 (x.1.base : Int), .int .u64 (x.1.slot : Int), .int .u8 (x.1.node : Int), .string ⟨x.1.value.toArray⟩, .slice none 0 0, .slice none 0 0, .int .u8 (x.1.cmd.client : Int), .int .u32 (x.1.cmd.seq : Int), .int .u8 (x.1.cmd.kind : Int), .string ⟨x.1.cmd.key.toArray⟩, .string ⟨x.1.cmd.old.toArray⟩, .string ⟨x.1.cmd.new.toArray⟩, .int .u8 (x.1.cmd.set : Int), .int .u8 (x.1.code : Int), .string ⟨x.1.text.toArray⟩]) E (H.get (i := 2) rfl) rfl rfl Tryz.underlying33 rfl sz_palaver_api_Msg rfl rfl) ?_
          refine SxA.ready [4] (by kernel_rfl) (by simp) ⟨?_, trivial⟩
          refine SxO.val rfl trivial rfl rfl (fun ρ w E H => ex_load (part := [.string ⟨((Rd.doc x.2).s).toArray⟩, .int .i64 ((Rd.doc x.2).e : Int)]) E (H.get (i := 3) rfl) rfl rfl Tryz.underlying121 rfl sz_palaver_palaverref01_Reader rfl rfl) ?_
          refine SxA.ready [5] (by kernel_rfl) (by simp) ⟨?_, trivial⟩
          refine SxO.call2 (fun V I => .tuple #[.agg (msL (Pt.take p x).1 V I).toArray, .agg #[.string ⟨(Rd.doc (Pt.take p x).2).s.toArray⟩, .int .i64 ((Rd.doc (Pt.take p x).2).e : Int)]]) (fun V I => (OwnIn w [] V ∧ OwnIn w [] I) ∧ (p ≠ .votes → p ≠ .items → V = .slice none 0 0 ∧ I = .slice none 0 0)) (fun V I => _) rfl trivial rfl rfl (fun ρ w E => ex_call E en_palaver_palaverref18_part rfl rfl) (call_rpart p x.1 x.2 hnil.1 hnil.2 hG0x) (fun V49 I49 w hVI49 H => H.ks [] [2, 3, 6] rfl ⟨(fun g hg => .inr (hVI49.1.1.fresh g hg)), (fun g hg => .inr (hVI49.1.2.fresh g hg)), (fun g hg => .inr (hV.fresh g hg)), (fun g hg => .inr (hI.fresh g hg)), (fun g hg => by rw [List.mem_singleton.1 hg]; exact .inr hg3), (fun g hg => by rw [List.mem_singleton.1 hg]; exact .inr hg2), (fun g hg => by rw [List.mem_singleton.1 hg]; exact .inr hg1), trivial⟩) fun V49 I49 hVI49 => ?_
          refine SxA.take (i := 6) rfl (by kernel_rfl) (by kernel_rfl) (by kernel_rfl) rfl rfl (fun _ _ _ h => h) trivial (fun ρ w E H => ex_move E rfl rfl) ?_
          refine SxA.take (i := 7) rfl (by kernel_rfl) (by kernel_rfl) (by kernel_rfl) rfl rfl (fun _ _ _ h => h) trivial (fun ρ w E H => ex_extract E rfl rfl rfl) ?_
          refine SxA.take (i := 8) rfl (by kernel_rfl) (by kernel_rfl) (by kernel_rfl) rfl rfl (fun _ _ _ h => h) trivial (fun ρ w E H => ex_extract E rfl rfl rfl) ?_
          refine SxA.ready [9] (by kernel_rfl) (by simp) ⟨?_, trivial⟩
          refine SxO.turn (j := 4) [.int .u8 ((Pt.take p x).1.kind : Int), .int .u64 ((Pt.take p x).1.bn : Int), .int .u8 ((Pt.take p x).1.br : Int), .int .u64 ((Pt.take p x).1.base : Int), .int .u64 ((Pt.take p x).1.slot : Int), .int .u8 ((Pt.take p x).1.node : Int), .string ⟨((Pt.take p x).1.value).toArray⟩, V49, I49, .int .u8 ((Pt.take p x).1.cmd.client : Int), .int .u32 ((Pt.take p x).1.cmd.seq : Int), .int .u8 ((Pt.take p x).1.cmd.kind : Int), .string ⟨((Pt.take p x).1.cmd.key).toArray⟩, .string ⟨((Pt.take p x).1.cmd.old).toArray⟩, .string ⟨((Pt.take p x).1.cmd.new).toArray⟩, .int .u8 ((Pt.take p x).1.cmd.set : Int), .int .u8 ((Pt.take p x).1.code : Int), .string ⟨((Pt.take p x).1.text).toArray⟩] rfl trivial rfl rfl (fun ρ w E H => ?_) (fun w H => H.ks [] [2, 3, 6] rfl ⟨(fun g hg => .inr (hVI49.1.1.fresh g hg)), (fun g hg => .inr (hVI49.1.2.fresh g hg)), (fun g hg => .inr (hV.fresh g hg)), (fun g hg => .inr (hI.fresh g hg)), (fun g hg => by rw [List.mem_singleton.1 hg]; exact .inr hg3), (fun g hg => by rw [List.mem_singleton.1 hg]; exact .inr hg2), (fun g hg => by rw [List.mem_singleton.1 hg]; exact .inr hg1), trivial⟩) ?_
          · obtain ⟨A49, k49, rfl⟩ := own_is_slice (H.get (i := 0) rfl)
            obtain ⟨B49, l49, rfl⟩ := own_is_slice (H.get (i := 1) rfl)
            exact ex_storeX E (H.get (i := 4) rfl) rfl rfl rfl sz_palaver_api_Msg rfl rfl rfl (putL_all _ _ rfl)
          refine SxA.ready [10] (by kernel_rfl) (by simp) ⟨?_, trivial⟩
          refine SxO.storeX (j := 5) [.string ⟨((Rd.doc ((Pt.take p x).2)).s).toArray⟩, .int .i64 ((Rd.doc ((Pt.take p x).2)).e : Int)] rfl trivial rfl rfl rfl rfl rfl sz_palaver_palaverref01_Reader rfl rfl rfl (putL_all _ _ rfl) (fun w H => H.ks [] [2, 3, 6] rfl ⟨(fun g hg => .inr (hVI49.1.1.fresh g hg)), (fun g hg => .inr (hVI49.1.2.fresh g hg)), (fun g hg => .inr (hV.fresh g hg)), (fun g hg => .inr (hI.fresh g hg)), (fun g hg => by rw [List.mem_singleton.1 hg]; exact .inr hg3), (fun g hg => by rw [List.mem_singleton.1 hg]; exact .inr hg2), (fun g hg => by rw [List.mem_singleton.1 hg]; exact .inr hg1), trivial⟩) ?_
          refine SxA.done (by kernel_rfl) ?_
          refine SxN.block (SxN.then_ (SxC.region ?_))
          refine SxL.val trivial rfl rfl (fun ρ w E H => ex_move E rfl rfl) ?_
          refine SxL.val (v := .int .i64 ((i + 1 : Nat) : Int)) trivial rfl rfl (fun ρ w E H => ex_add E rfl rfl rfl (by have h := chars_len p30.1; rw [IntKind.wrap_i64]; omega)) ?_
          refine SxL.val trivial rfl rfl (fun ρ w E H => ex_assign E rfl rfl) ?_
          refine SxL.nil ?_
          refine SxN.back (gk - 1) (i + 1, Pt.take p x, V49, I49) (by omega) ⟨by omega, by rw [taken_snoc hp, hxk], take_grows p x hGG, hVI49.1.1, hVI49.1.2, fun hlt => by
            have hpv : p ≠ .votes := fun e => by have := last_list hp (.inl e); omega
            have hpi : p ≠ .items := fun e => by have := last_list hp (.inr e); omega
            obtain ⟨e1, e2⟩ := hVI49.2 hpv hpi
            obtain ⟨l1, l2, _⟩ := lists_keep p x
            exact ⟨e1, e2, (l1 hpv).trans hnil.1, (l2 hpi).trans hnil.2⟩⟩ ⟨rfl, rfl, rfl, rfl, rfl, rfl, trivial⟩ [0, 1, 4, 5, 6] rfl (by decide) ⟨.inl rfl, .inl rfl, .inr (hV.fresh), .inr (hI.fresh), .inl rfl, .inl rfl, .inl rfl, trivial⟩
        · refine SxO.val rfl trivial rfl rfl (fun ρ w E H => ex_load (part := [.string ⟨((Rd.doc x.2).s).toArray⟩, .int .i64 ((Rd.doc x.2).e : Int)]) E (H.get (i := 3) rfl) rfl rfl Tryz.underlying121 rfl sz_palaver_palaverref01_Reader rfl rfl) ?_
          refine SxA.ready [3] (by kernel_rfl) (by simp) ⟨?_, trivial⟩
          refine SxO.val rfl trivial rfl rfl (fun ρ w E H => ex_load (part := [.int .u8 (x.1.kind : Int), .int .u64 (x.1.bn : Int), .int .u8 (x.1.br : Int), .int .u64 (x.1.base : Int), .int .u64 (x.1.slot : Int), .int .u8 (x.1.node : Int), .string ⟨x.1.value.toArray⟩, .slice none 0 0, .slice none 0 0, .int .u8 (x.1.cmd.client : Int), .int .u32 (x.1.cmd.seq : Int), .int .u8 (x.1.cmd.kind : Int), .string ⟨x.1.cmd.key.toArray⟩, .string ⟨x.1.cmd.old.toArray⟩, .string ⟨x.1.cmd.new.toArray⟩, .int .u8 (x.1.cmd.set : Int), .int .u8 (x.1.code : Int), .string ⟨x.1.text.toArray⟩]) E (H.get (i := 2) rfl) rfl rfl Tryz.underlying33 rfl sz_palaver_api_Msg rfl rfl) ?_
          refine SxA.ready [5] (by kernel_rfl) (by simp) ⟨?_, trivial⟩
          refine SxO.call2 (fun V I => .tuple #[.agg (msL (Pt.take p x).1 V I).toArray, .agg #[.string ⟨(Rd.doc (Pt.take p x).2).s.toArray⟩, .int .i64 ((Rd.doc (Pt.take p x).2).e : Int)]]) (fun V I => (OwnIn w [] V ∧ OwnIn w [] I) ∧ (p ≠ .votes → p ≠ .items → V = .slice none 0 0 ∧ I = .slice none 0 0)) (fun V I => _) rfl trivial rfl rfl (fun ρ w E => ex_call E en_palaver_palaverref18_part rfl rfl) (call_rpart p x.1 x.2 hnil.1 hnil.2 hG0x) (fun V49 I49 w hVI49 H => H.ks [] [2, 3, 6] rfl ⟨(fun g hg => .inr (hVI49.1.1.fresh g hg)), (fun g hg => .inr (hVI49.1.2.fresh g hg)), (fun g hg => .inr (hV.fresh g hg)), (fun g hg => .inr (hI.fresh g hg)), (fun g hg => by rw [List.mem_singleton.1 hg]; exact .inr hg3), (fun g hg => by rw [List.mem_singleton.1 hg]; exact .inr hg2), (fun g hg => by rw [List.mem_singleton.1 hg]; exact .inr hg1), trivial⟩) fun V49 I49 hVI49 => ?_
          refine SxA.take (i := 6) rfl (by kernel_rfl) (by kernel_rfl) (by kernel_rfl) rfl rfl (fun _ _ _ h => h) trivial (fun ρ w E H => ex_move E rfl rfl) ?_
          refine SxA.take (i := 7) rfl (by kernel_rfl) (by kernel_rfl) (by kernel_rfl) rfl rfl (fun _ _ _ h => h) trivial (fun ρ w E H => ex_extract E rfl rfl rfl) ?_
          refine SxA.take (i := 8) rfl (by kernel_rfl) (by kernel_rfl) (by kernel_rfl) rfl rfl (fun _ _ _ h => h) trivial (fun ρ w E H => ex_extract E rfl rfl rfl) ?_
          refine SxA.ready [9] (by kernel_rfl) (by simp) ⟨?_, trivial⟩
          refine SxO.turn (j := 4) [.int .u8 ((Pt.take p x).1.kind : Int), .int .u64 ((Pt.take p x).1.bn : Int), .int .u8 ((Pt.take p x).1.br : Int), .int .u64 ((Pt.take p x).1.base : Int), .int .u64 ((Pt.take p x).1.slot : Int), .int .u8 ((Pt.take p x).1.node : Int), .string ⟨((Pt.take p x).1.value).toArray⟩, V49, I49, .int .u8 ((Pt.take p x).1.cmd.client : Int), .int .u32 ((Pt.take p x).1.cmd.seq : Int), .int .u8 ((Pt.take p x).1.cmd.kind : Int), .string ⟨((Pt.take p x).1.cmd.key).toArray⟩, .string ⟨((Pt.take p x).1.cmd.old).toArray⟩, .string ⟨((Pt.take p x).1.cmd.new).toArray⟩, .int .u8 ((Pt.take p x).1.cmd.set : Int), .int .u8 ((Pt.take p x).1.code : Int), .string ⟨((Pt.take p x).1.text).toArray⟩] rfl trivial rfl rfl (fun ρ w E H => ?_) (fun w H => H.ks [] [2, 3, 6] rfl ⟨(fun g hg => .inr (hVI49.1.1.fresh g hg)), (fun g hg => .inr (hVI49.1.2.fresh g hg)), (fun g hg => .inr (hV.fresh g hg)), (fun g hg => .inr (hI.fresh g hg)), (fun g hg => by rw [List.mem_singleton.1 hg]; exact .inr hg3), (fun g hg => by rw [List.mem_singleton.1 hg]; exact .inr hg2), (fun g hg => by rw [List.mem_singleton.1 hg]; exact .inr hg1), trivial⟩) ?_
          · obtain ⟨A49, k49, rfl⟩ := own_is_slice (H.get (i := 0) rfl)
            obtain ⟨B49, l49, rfl⟩ := own_is_slice (H.get (i := 1) rfl)
            exact ex_storeX E (H.get (i := 4) rfl) rfl rfl rfl sz_palaver_api_Msg rfl rfl rfl (putL_all _ _ rfl)
          refine SxA.ready [10] (by kernel_rfl) (by simp) ⟨?_, trivial⟩
          refine SxO.storeX (j := 5) [.string ⟨((Rd.doc ((Pt.take p x).2)).s).toArray⟩, .int .i64 ((Rd.doc ((Pt.take p x).2)).e : Int)] rfl trivial rfl rfl rfl rfl rfl sz_palaver_palaverref01_Reader rfl rfl rfl (putL_all _ _ rfl) (fun w H => H.ks [] [2, 3, 6] rfl ⟨(fun g hg => .inr (hVI49.1.1.fresh g hg)), (fun g hg => .inr (hVI49.1.2.fresh g hg)), (fun g hg => .inr (hV.fresh g hg)), (fun g hg => .inr (hI.fresh g hg)), (fun g hg => by rw [List.mem_singleton.1 hg]; exact .inr hg3), (fun g hg => by rw [List.mem_singleton.1 hg]; exact .inr hg2), (fun g hg => by rw [List.mem_singleton.1 hg]; exact .inr hg1), trivial⟩) ?_
          refine SxA.done (by kernel_rfl) ?_
          refine SxN.block (SxN.then_ (SxC.region ?_))
          refine SxL.val trivial rfl rfl (fun ρ w E H => ex_move E rfl rfl) ?_
          refine SxL.val (v := .int .i64 ((i + 1 : Nat) : Int)) trivial rfl rfl (fun ρ w E H => ex_add E rfl rfl rfl (by have h := chars_len p30.1; rw [IntKind.wrap_i64]; omega)) ?_
          refine SxL.val trivial rfl rfl (fun ρ w E H => ex_assign E rfl rfl) ?_
          refine SxL.nil ?_
          refine SxN.back (gk - 1) (i + 1, Pt.take p x, V49, I49) (by omega) ⟨by omega, by rw [taken_snoc hp, hxk], take_grows p x hGG, hVI49.1.1, hVI49.1.2, fun hlt => by
            have hpv : p ≠ .votes := fun e => by have := last_list hp (.inl e); omega
            have hpi : p ≠ .items := fun e => by have := last_list hp (.inr e); omega
            obtain ⟨e1, e2⟩ := hVI49.2 hpv hpi
            obtain ⟨l1, l2, _⟩ := lists_keep p x
            exact ⟨e1, e2, (l1 hpv).trans hnil.1, (l2 hpi).trans hnil.2⟩⟩ ⟨rfl, rfl, rfl, rfl, rfl, rfl, trivial⟩ [0, 1, 4, 5, 6] rfl (by decide) ⟨.inl rfl, .inl rfl, .inr (hV.fresh), .inr (hI.fresh), .inl rfl, .inl rfl, .inl rfl, trivial⟩
    · refine SxC.condT rfl (SxC.seq (SxC.region ?_))
      refine SxL.val trivial rfl rfl (fun ρ w E H => ex_build (cs := [.int .u8 0, .int .u64 0, .int .u8 0, .int .u64 0, .int .u64 0, .int .u8 0, .string ⟨[].toArray⟩, .slice none 0 0, .slice none 0 0, .int .u8 0, .int .u32 0, .int .u8 0, .string ⟨[].toArray⟩, .string ⟨[].toArray⟩, .string ⟨[].toArray⟩, .int .u8 0, .int .u8 0, .string ⟨[].toArray⟩]) E rfl rfl (by kernel_rfl)) ?_
      refine SxL.storeX (i := 0) [.int .u8 0, .int .u64 0, .int .u8 0, .int .u64 0, .int .u64 0, .int .u8 0, .string ⟨[].toArray⟩, .slice none 0 0, .slice none 0 0, .int .u8 0, .int .u32 0, .int .u8 0, .string ⟨[].toArray⟩, .string ⟨[].toArray⟩, .string ⟨[].toArray⟩, .int .u8 0, .int .u8 0, .string ⟨[].toArray⟩] trivial rfl rfl rfl rfl rfl sz_palaver_api_Msg rfl rfl rfl (putL_all _ _ rfl) ?_
      refine SxL.val trivial rfl rfl (fun ρ w E H => ex_assign E rfl rfl) ?_
      refine SxL.nil (SxN.then_ (SxC.ret (SxX.thenR ?_)))
      refine SxX.done _ (fun a w K H => resM K [.agg #[.int .u8 0, .int .u64 0, .int .u8 0, .int .u64 0, .int .u64 0, .int .u8 0, .string ⟨[].toArray⟩, .slice none 0 0, .slice none 0 0, .int .u8 0, .int .u32 0, .int .u8 0, .string ⟨[].toArray⟩, .string ⟨[].toArray⟩, .string ⟨[].toArray⟩, .int .u8 0, .int .u8 0, .string ⟨[].toArray⟩], .int .i64 4] rfl rfl ⟨⟨_, rfl, blk_loadVar (H.get (i := 0) rfl) Tryz.underlying33 rfl sz_palaver_api_Msg⟩, rfl, trivial⟩) (fun w H => ?_)
      have ht : takeM s = (ms0 0, 4) := takeM_2 hF (by have h := hc19; simp [cmpB] at h; omega) (by have h := hc25; simp [cmpB] at h; omega)
      unfold TakeRet
      rw [ht]
      exact ⟨.slice none 0 0, .slice none 0 0, rfl, World.ownsRow_nil _ _ _ _, World.ownsRow_nil _ _ _ _, H.toBelow ⟨(fun g hg => by rw [List.mem_singleton.1 hg]; exact hg1), trivial⟩⟩
  · refine SxC.condT rfl (SxC.seq (SxC.region ?_))
    refine SxL.val trivial rfl rfl (fun ρ w E H => ex_build (cs := [.int .u8 0, .int .u64 0, .int .u8 0, .int .u64 0, .int .u64 0, .int .u8 0, .string ⟨[].toArray⟩, .slice none 0 0, .slice none 0 0, .int .u8 0, .int .u32 0, .int .u8 0, .string ⟨[].toArray⟩, .string ⟨[].toArray⟩, .string ⟨[].toArray⟩, .int .u8 0, .int .u8 0, .string ⟨[].toArray⟩]) E rfl rfl (by kernel_rfl)) ?_
    refine SxL.val trivial rfl rfl (fun ρ w E H => ex_move E rfl rfl) ?_
    refine SxL.storeX (i := 0) [.int .u8 0, .int .u64 0, .int .u8 0, .int .u64 0, .int .u64 0, .int .u8 0, .string ⟨[].toArray⟩, .slice none 0 0, .slice none 0 0, .int .u8 0, .int .u32 0, .int .u8 0, .string ⟨[].toArray⟩, .string ⟨[].toArray⟩, .string ⟨[].toArray⟩, .int .u8 0, .int .u8 0, .string ⟨[].toArray⟩] trivial rfl rfl rfl rfl rfl sz_palaver_api_Msg rfl rfl rfl (putL_all _ _ rfl) ?_
    refine SxL.val trivial rfl rfl (fun ρ w E H => ex_assign E rfl rfl) ?_
    refine SxL.nil (SxN.then_ (SxC.ret (SxX.thenR ?_)))
    refine SxX.done _ (fun a w K H => resM K [.agg #[.int .u8 0, .int .u64 0, .int .u8 0, .int .u64 0, .int .u64 0, .int .u8 0, .string ⟨[].toArray⟩, .slice none 0 0, .slice none 0 0, .int .u8 0, .int .u32 0, .int .u8 0, .string ⟨[].toArray⟩, .string ⟨[].toArray⟩, .string ⟨[].toArray⟩, .int .u8 0, .int .u8 0, .string ⟨[].toArray⟩], .int .i64 (fe : Int)] rfl rfl ⟨⟨_, rfl, blk_loadVar (H.get (i := 0) rfl) Tryz.underlying33 rfl sz_palaver_api_Msg⟩, rfl, trivial⟩) (fun w H => ?_)
    have ht : takeM s = (ms0 0, fe) := takeM_1 hF (by have h := hc19; simp [cmpB] at h; omega)
    unfold TakeRet
    rw [ht]
    exact ⟨.slice none 0 0, .slice none 0 0, rfl, World.ownsRow_nil _ _ _ _, World.ownsRow_nil _ _ _ _, H.toBelow ⟨(fun g hg => by rw [List.mem_singleton.1 hg]; exact hg1), trivial⟩⟩
end Go.Proofs.YteiaiilfekojfaaGreat.Msg
end
section
set_option linter.unusedVariables false
set_option linter.unusedSimpArgs false
namespace Go.Proofs.YteiaiilfekojfaaGreat.Msg
open Go.RowKit Sx Wire DrawInv
theorem call_rtakeM {w0 : World} {L : List Ft} {m : Ms} {z : Int} (s : List UInt8) (hs : s.length ≤ 100000) {e : Nat} (h : takeM s = (m, e)) (hz : (e : Int) = z) : ∀ w, Hp w0 L w → Calls Tryz.prog 20 #[.string ⟨s.toArray⟩] w fun E w' => ∃ V I, E = .returned (.tuple #[.agg (msL m V I).toArray, .int .i64 z]) ∧ (OwnIn w0 [] V ∧ OwnIn w0 [] I) ∧
    Hp w0 (rowX [] w0.heap.size 92 4 V m.votes.length (m.votes.flatMap voL) :: rowX [] w0.heap.size 94 2 I m.items.length (m.items.flatMap imL) :: L) w' := fun w H => (rtake_any s w hs).mono fun E w' hT => by
  subst hz
  unfold TakeRet at hT
  rw [h] at hT
  obtain ⟨V, I, h1, h2, h3, h4⟩ := hT
  have f1 : OwnIn w0 [] V := fun b hb => .inr (Nat.le_trans H.os.size (own_lt h2 b hb).1)
  have f2 : OwnIn w0 [] I := fun b hb => .inr (Nat.le_trans H.os.size (own_lt h3 b hb).1)
  refine ⟨V, I, h1, ⟨f1, f2⟩, ?_⟩
  have H2 := H.add h4 (rowX [] w0.heap.size 94 2 I m.items.length (m.items.flatMap imL)) (rowX_loc _ _ _ _ _ _ _) (fun g hg => by
    have hg : g ∈ I.ownBlock.toList := by simpa [rowX] using hg
    exact ⟨(own_lt h3 g hg).2, (own_lt h3 g hg).1⟩) (own_base h3 H.os.size)
  refine H2.know _ (rowX_loc _ _ _ _ _ _ _) (fun g hg => ?_) (own_base h2 H.os.size)
  have hg : g ∈ V.ownBlock.toList := by simpa [rowX] using hg
  refine ⟨(own_lt h2 g hg).2, fun q hq hgq => ?_⟩
  rcases List.mem_cons.1 hq with rfl | hq
  · have hgq : g ∈ I.ownBlock.toList := by simpa [rowX] using hgq
    exact own_own h2 h3 (by decide) g hg hgq
  · have h5 := (H.ok q hq).2.1 g hgq
    have h6 := (own_lt h2 g hg).1
    omega

set_option maxRecDepth 100000 in
set_option maxHeartbeats 4000000 in
theorem takes_any (s : List UInt8)  (w : World) : Calls Tryz.prog 4 #[.string ⟨s.toArray⟩] w fun e w' => e = .returned (.bool true) ∧ Below w.heap.size w w' := by
  refine sx_enter (n := 32) _ Tryz.func4 rfl rfl rfl (Hp.start w) ?_
  refine SxC.seq (SxC.region ?_)
  refine SxL.val trivial rfl rfl (fun ρ w E H => ex_assign E rfl rfl) ?_
  refine SxL.nil (SxN.then_ (SxC.seq (SxC.seq (SxC.region ?_))))
  refine SxL.val trivial rfl rfl (fun ρ w E H => ex_move E rfl rfl) ?_
  refine SxL.val (v := .int .i64 (s.length : Int)) trivial rfl rfl (fun ρ w E H => ex_lenT E rfl Tryz.underlying9 rfl) ?_
  refine SxL.valB trivial rfl rfl (fun ρ w E H => ex_cmp E rfl rfl rfl rfl rfl) fun c9 hc9 => ?_
  refine SxL.nil (SxN.then_ ?_)
  cases c9
  · refine SxC.condF rfl (SxC.skip (SxN.then_ (SxC.seq ?_)))
    have hs5 : s.length ≤ 100000 := by have h := hc9; simp [cmpB] at h; omega
    obtain ⟨⟨tm, te⟩, htm⟩ : ∃ x, takeM s = x := ⟨_, rfl⟩
    have hlen : tm.votes.length ≤ 1000000 ∧ tm.items.length ≤ 1000000 := by
      rcases Nat.eq_zero_or_pos te with h0 | h0
      · subst h0; have hb := takeM_back hs5 htm; exact ⟨Nat.le_trans hb.2.1.h2 (by decide), Nat.le_trans hb.2.1.h3 (by decide)⟩
      · have hb := takeM_bad (s := s) (by rw [htm]; show te ≠ 0; omega); rw [htm] at hb; rw [show tm = ms0 0 from hb]; exact ⟨by decide, by decide⟩
    refine SxC.region ?_
    refine SxL.val trivial rfl rfl (fun ρ w E H => ex_move E rfl rfl) ?_
    refine SxL.call2 (fun V I => .tuple #[.agg (msL tm V I).toArray, .int .i64 (te : Int)]) (fun V I => OwnIn w [] V ∧ OwnIn w [] I) (fun V I => _) trivial rfl rfl (fun ρ w E => ex_call E en_palaver_msg_Take rfl rfl) (call_takeM s hs5 htm rfl) fun V13 I13 hVI13 => ?_
    refine SxL.with (fun W H => own_is_slice (H.get (i := 0) rfl)) ?_
    rintro ⟨A13, k13, rfl⟩
    refine SxL.with (fun W H => own_is_slice (H.get (i := 1) rfl)) ?_
    rintro ⟨B13, l13, rfl⟩
    refine SxL.val trivial rfl rfl (fun ρ w E H => ex_move E rfl rfl) ?_
    iterate 2 refine SxL.val trivial rfl rfl (fun ρ w E H => ex_extract E rfl rfl rfl) ?_
    refine SxL.new (cs := [.int .u8 0, .int .u64 0, .int .u8 0, .int .u64 0, .int .u64 0, .int .u8 0, .string ⟨[].toArray⟩, .slice none 0 0, .slice none 0 0, .int .u8 0, .int .u32 0, .int .u8 0, .string ⟨[].toArray⟩, .string ⟨[].toArray⟩, .string ⟨[].toArray⟩, .int .u8 0, .int .u8 0, .string ⟨[].toArray⟩]) trivial rfl rfl (fun ρ w E H => ex_alloc rfl zr_palaver_api_Msg rfl) fun g1 hg1 => ?_
    refine SxL.storeX (i := 0) [.int .u8 (tm.kind : Int), .int .u64 (tm.bn : Int), .int .u8 (tm.br : Int), .int .u64 (tm.base : Int), .int .u64 (tm.slot : Int), .int .u8 (tm.node : Int), .string ⟨tm.value.toArray⟩, .slice A13 tm.votes.length k13, .slice B13 tm.items.length l13, .int .u8 (tm.cmd.client : Int), .int .u32 (tm.cmd.seq : Int), .int .u8 (tm.cmd.kind : Int), .string ⟨tm.cmd.key.toArray⟩, .string ⟨tm.cmd.old.toArray⟩, .string ⟨tm.cmd.new.toArray⟩, .int .u8 (tm.cmd.set : Int), .int .u8 (tm.code : Int), .string ⟨tm.text.toArray⟩] trivial rfl rfl rfl rfl rfl sz_palaver_api_Msg rfl rfl rfl (putL_all _ _ rfl) ?_
    refine SxL.val trivial rfl rfl (fun ρ w E H => ex_assign E rfl rfl) ?_
    refine SxL.nil (SxN.then_ (SxC.seq (SxC.region ?_)))
    refine SxL.val trivial rfl rfl (fun ρ w E H => ex_move E rfl rfl) ?_
    refine SxL.call2 (fun V I => .tuple #[.agg (msL tm V I).toArray, .int .i64 (te : Int)]) (fun V I => OwnIn w [] V ∧ OwnIn w [] I) (fun V I => _) trivial rfl rfl (fun ρ w E => ex_call E en_palaver_palaverref18_Take rfl rfl) (call_rtakeM s hs5 htm rfl) fun V18 I18 hVI18 => ?_
    refine SxL.with (fun W H => own_is_slice (H.get (i := 0) rfl)) ?_
    rintro ⟨A18, k18, rfl⟩
    refine SxL.with (fun W H => own_is_slice (H.get (i := 1) rfl)) ?_
    rintro ⟨B18, l18, rfl⟩
    refine SxL.val trivial rfl rfl (fun ρ w E H => ex_move E rfl rfl) ?_
    iterate 2 refine SxL.val trivial rfl rfl (fun ρ w E H => ex_extract E rfl rfl rfl) ?_
    refine SxL.new (cs := [.int .u8 0, .int .u64 0, .int .u8 0, .int .u64 0, .int .u64 0, .int .u8 0, .string ⟨[].toArray⟩, .slice none 0 0, .slice none 0 0, .int .u8 0, .int .u32 0, .int .u8 0, .string ⟨[].toArray⟩, .string ⟨[].toArray⟩, .string ⟨[].toArray⟩, .int .u8 0, .int .u8 0, .string ⟨[].toArray⟩]) trivial rfl rfl (fun ρ w E H => ex_alloc rfl zr_palaver_api_Msg rfl) fun g2 hg2 => ?_
    refine SxL.storeX (i := 0) [.int .u8 (tm.kind : Int), .int .u64 (tm.bn : Int), .int .u8 (tm.br : Int), .int .u64 (tm.base : Int), .int .u64 (tm.slot : Int), .int .u8 (tm.node : Int), .string ⟨tm.value.toArray⟩, .slice A18 tm.votes.length k18, .slice B18 tm.items.length l18, .int .u8 (tm.cmd.client : Int), .int .u32 (tm.cmd.seq : Int), .int .u8 (tm.cmd.kind : Int), .string ⟨tm.cmd.key.toArray⟩, .string ⟨tm.cmd.old.toArray⟩, .string ⟨tm.cmd.new.toArray⟩, .int .u8 (tm.cmd.set : Int), .int .u8 (tm.code : Int), .string ⟨tm.text.toArray⟩] trivial rfl rfl rfl rfl rfl sz_palaver_api_Msg rfl rfl rfl (putL_all _ _ rfl) ?_
    refine SxL.val trivial rfl rfl (fun ρ w E H => ex_assign E rfl rfl) ?_
    refine SxL.nil (SxN.then_ (SxC.seq (SxC.region ?_)))
    iterate 2 refine SxL.val trivial rfl rfl (fun ρ w E H => ex_move E rfl rfl) ?_
    refine SxL.val (v := .bool true) trivial rfl rfl (fun ρ w E H => ex_cmp E rfl rfl rfl rfl (by simp [cmpB])) ?_
    refine SxL.val trivial rfl rfl (fun ρ w E H => ex_move E rfl rfl) ?_
    refine SxL.val ⟨_, _, rfl, rfl, rfl⟩ rfl rfl (fun ρ w E H => ex_load (part := [.int .u8 (tm.kind : Int), .int .u64 (tm.bn : Int), .int .u8 (tm.br : Int), .int .u64 (tm.base : Int), .int .u64 (tm.slot : Int), .int .u8 (tm.node : Int), .string ⟨tm.value.toArray⟩, .slice A13 tm.votes.length k13, .slice B13 tm.items.length l13, .int .u8 (tm.cmd.client : Int), .int .u32 (tm.cmd.seq : Int), .int .u8 (tm.cmd.kind : Int), .string ⟨tm.cmd.key.toArray⟩, .string ⟨tm.cmd.old.toArray⟩, .string ⟨tm.cmd.new.toArray⟩, .int .u8 (tm.cmd.set : Int), .int .u8 (tm.code : Int), .string ⟨tm.text.toArray⟩]) E (H.get (i := 3) rfl) rfl rfl Tryz.underlying33 rfl sz_palaver_api_Msg rfl rfl) ?_
    refine SxL.val ⟨_, _, rfl, rfl, rfl⟩ rfl rfl (fun ρ w E H => ex_load (part := [.int .u8 (tm.kind : Int), .int .u64 (tm.bn : Int), .int .u8 (tm.br : Int), .int .u64 (tm.base : Int), .int .u64 (tm.slot : Int), .int .u8 (tm.node : Int), .string ⟨tm.value.toArray⟩, .slice A18 tm.votes.length k18, .slice B18 tm.items.length l18, .int .u8 (tm.cmd.client : Int), .int .u32 (tm.cmd.seq : Int), .int .u8 (tm.cmd.kind : Int), .string ⟨tm.cmd.key.toArray⟩, .string ⟨tm.cmd.old.toArray⟩, .string ⟨tm.cmd.new.toArray⟩, .int .u8 (tm.cmd.set : Int), .int .u8 (tm.code : Int), .string ⟨tm.text.toArray⟩]) E (H.get (i := 0) rfl) rfl rfl Tryz.underlying33 rfl sz_palaver_api_Msg rfl rfl) ?_
    refine SxL.callB (v := .bool true) ⟨_, _, rfl, rfl, rfl⟩ rfl rfl (fun ρ w E => ex_call E en_palaver_palaverref18_Same rfl rfl) (fun w H => (rsame_any tm tm A13 B13 A18 B18 k13 l13 k18 l18 w ⟨own_read voL_len (by decide) (H.get (i := 4) rfl), own_read imL_len (by decide) (H.get (i := 5) rfl)⟩ ⟨own_read voL_len (by decide) (H.get (i := 1) rfl), own_read imL_len (by decide) (H.get (i := 2) rfl)⟩ hlen.1 hlen.2).mono fun _ _ h => ⟨by rw [h.1]; simp, h.2⟩) ?_
    refine SxL.val trivial rfl rfl (fun ρ w E H => ex_pick E rfl (t := true) rfl rfl) ?_
    refine SxL.val trivial rfl rfl (fun ρ w E H => ex_move E rfl rfl) ?_
    refine SxL.callB (v := .bool true) ⟨_, _, rfl, rfl, rfl⟩ rfl rfl (fun ρ w E => ex_call E en_palaver_palaverlaw18_wakes rfl rfl) (fun w H => wakes_any w) ?_
    refine SxL.val trivial rfl rfl (fun ρ w E H => ex_pick E rfl (t := true) rfl rfl) ?_
    refine SxL.val trivial rfl rfl (fun ρ w E H => ex_assign E rfl rfl) ?_
    refine SxL.nil (SxN.then_ (SxC.ret ?_))
    refine SxX.done (.bool true) (fun a w K H => res1 K rfl rfl) (fun w H => ?_)
    exact ⟨rfl, H.toBelow ⟨(fun g hg => by rw [List.mem_singleton.1 hg]; exact hg2), hVI18.1.fresh, hVI18.2.fresh, (fun g hg => by rw [List.mem_singleton.1 hg]; exact hg1), hVI13.1.fresh, hVI13.2.fresh, trivial⟩⟩
  · refine SxC.condT rfl (SxC.seq (SxC.region ?_))
    refine SxL.callB (v := .bool true) trivial rfl rfl (fun ρ w E => ex_call E en_palaver_palaverlaw18_wakes rfl rfl) (fun w H => wakes_any w) ?_
    refine SxL.val trivial rfl rfl (fun ρ w E H => ex_assign E rfl rfl) ?_
    refine SxL.nil (SxN.then_ (SxC.ret (SxX.thenR ?_)))
    refine SxX.done (.bool true) (fun a w K H => res1 K rfl rfl) (fun w H => ?_)
    exact ⟨rfl, H.toBelow trivial⟩
end Go.Proofs.YteiaiilfekojfaaGreat.Msg
end
