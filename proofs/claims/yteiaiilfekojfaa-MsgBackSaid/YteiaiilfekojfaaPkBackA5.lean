/- Texts that the proof of MsgBack leans on, put together (5 of 5). Conditions: each theorem states its own. -/
import Derived.Test.YteiaiilfekojfaaPkBackA4
section
set_option linter.unusedVariables false
set_option linter.unusedSimpArgs false
namespace Go.Proofs.Yteiaiilfekojfaa.Msg
open Go.RowKit Sx Wire DrawInv
set_option maxRecDepth 100000 in
set_option maxHeartbeats 4000000 in
theorem rsame_lit (mk mn mr mb ms mo ca cb ck cz mc : Nat) (mv cs ct cu mt : List UInt8) (vl : List Vo) (il : List Im)(xk xn xr xb xs xo da db dk dz xc : Nat) (xv ds dt du xt : List UInt8) (wl : List Vo) (jl : List Im) (A B : Option Addr) (ka kb : Nat) (C D : Option Addr) (kc kd : Nat) (w : World) (hv : Rows w A 4 voL vl) (hi : Rows w B 2 imL il) (hv2 : Rows w C 4 voL wl) (hi2 : Rows w D 2 imL jl) (hl1 : vl.length ≤ 1000000) (hl2 : il.length ≤ 1000000) : Calls Try.prog 26 #[.agg #[.int .u8 (mk : Int), .int .u64 (mn : Int), .int .u8 (mr : Int), .int .u64 (mb : Int), .int .u64 (ms : Int), .int .u8 (mo : Int), .string ⟨mv.toArray⟩, .slice A vl.length ka, .slice B il.length kb, .int .u8 (ca : Int), .int .u32 (cb : Int), .int .u8 (ck : Int), .string ⟨cs.toArray⟩, .string ⟨ct.toArray⟩, .string ⟨cu.toArray⟩, .int .u8 (cz : Int), .int .u8 (mc : Int), .string ⟨mt.toArray⟩], .agg #[.int .u8 (xk : Int), .int .u64 (xn : Int), .int .u8 (xr : Int), .int .u64 (xb : Int), .int .u64 (xs : Int), .int .u8 (xo : Int), .string ⟨xv.toArray⟩, .slice C wl.length kc, .slice D jl.length kd, .int .u8 (da : Int), .int .u32 (db : Int), .int .u8 (dk : Int), .string ⟨ds.toArray⟩, .string ⟨dt.toArray⟩, .string ⟨du.toArray⟩, .int .u8 (dz : Int), .int .u8 (xc : Int), .string ⟨xt.toArray⟩]] w fun e w' => e = .returned (.bool (decide ((⟨mk, mn, mr, mb, ms, mo, mv, vl, il, ⟨ca, cb, ck, cs, ct, cu, cz⟩, mc, mt⟩ : Ms) = ⟨xk, xn, xr, xb, xs, xo, xv, wl, jl, ⟨da, db, dk, ds, dt, du, dz⟩, xc, xt⟩))) ∧ Below w.heap.size w w' := by
  refine sx_enter (n := 113) [.agg #[.int .u8 (mk : Int), .int .u64 (mn : Int), .int .u8 (mr : Int), .int .u64 (mb : Int), .int .u64 (ms : Int), .int .u8 (mo : Int), .string ⟨mv.toArray⟩, .slice A vl.length ka, .slice B il.length kb, .int .u8 (ca : Int), .int .u32 (cb : Int), .int .u8 (ck : Int), .string ⟨cs.toArray⟩, .string ⟨ct.toArray⟩, .string ⟨cu.toArray⟩, .int .u8 (cz : Int), .int .u8 (mc : Int), .string ⟨mt.toArray⟩], .agg #[.int .u8 (xk : Int), .int .u64 (xn : Int), .int .u8 (xr : Int), .int .u64 (xb : Int), .int .u64 (xs : Int), .int .u8 (xo : Int), .string ⟨xv.toArray⟩, .slice C wl.length kc, .slice D jl.length kd, .int .u8 (da : Int), .int .u32 (db : Int), .int .u8 (dk : Int), .string ⟨ds.toArray⟩, .string ⟨dt.toArray⟩, .string ⟨du.toArray⟩, .int .u8 (dz : Int), .int .u8 (xc : Int), .string ⟨xt.toArray⟩]] Try.func26 rfl rfl rfl (Hp.start w) ?_
  refine SxC.seq ?_
  refine SxC.region ?_
  refine SxL.new (cs := [.int .u8 (mk : Int), .int .u64 (mn : Int), .int .u8 (mr : Int), .int .u64 (mb : Int), .int .u64 (ms : Int), .int .u8 (mo : Int), .string ⟨mv.toArray⟩, .slice A vl.length ka, .slice B il.length kb, .int .u8 (ca : Int), .int .u32 (cb : Int), .int .u8 (ck : Int), .string ⟨cs.toArray⟩, .string ⟨ct.toArray⟩, .string ⟨cu.toArray⟩, .int .u8 (cz : Int), .int .u8 (mc : Int), .string ⟨mt.toArray⟩]) trivial rfl rfl (fun ρ w E H => ex_box E rfl rfl rfl) fun g1 hg1 => ?_
  refine SxL.new (cs := [.int .u8 (xk : Int), .int .u64 (xn : Int), .int .u8 (xr : Int), .int .u64 (xb : Int), .int .u64 (xs : Int), .int .u8 (xo : Int), .string ⟨xv.toArray⟩, .slice C wl.length kc, .slice D jl.length kd, .int .u8 (da : Int), .int .u32 (db : Int), .int .u8 (dk : Int), .string ⟨ds.toArray⟩, .string ⟨dt.toArray⟩, .string ⟨du.toArray⟩, .int .u8 (dz : Int), .int .u8 (xc : Int), .string ⟨xt.toArray⟩]) trivial rfl rfl (fun ρ w E H => ex_box E rfl rfl rfl) fun g2 hg2 => ?_
  refine SxL.val (v := .bool false) trivial rfl rfl (fun ρ w E H => ex_assign E rfl rfl) ?_
  refine SxL.nil ?_
  refine SxN.then_ ?_
  refine SxC.seq ?_
  refine SxC.seq ?_
  refine SxC.region ?_
  refine SxL.val (v := .pointer (some ⟨g1, 7, none⟩)) trivial rfl rfl (fun ρ w E H => ex_field E rfl fa_palaver_api_Msg_6 rfl rfl) ?_
  refine SxL.val (v := .slice A vl.length ka) trivial rfl rfl (fun ρ w E H => ex_load1 E (H.get (i := 1) rfl) rfl rfl Try.underlying40 rfl rfl) ?_
  refine SxL.val (v := .int .i64 (vl.length : Int)) trivial rfl rfl (fun ρ w E H => ex_lenS E rfl Try.underlying40 rfl) ?_
  refine SxL.val (v := .pointer (some ⟨g2, 7, none⟩)) trivial rfl rfl (fun ρ w E H => ex_field E rfl fa_palaver_api_Msg_6 rfl rfl) ?_
  refine SxL.val (v := .slice C wl.length kc) trivial rfl rfl (fun ρ w E H => ex_load1 E (H.get (i := 0) rfl) rfl rfl Try.underlying40 rfl rfl) ?_
  refine SxL.val (v := .int .i64 (wl.length : Int)) trivial rfl rfl (fun ρ w E H => ex_lenS E rfl Try.underlying40 rfl) ?_
  refine SxL.valB trivial rfl rfl (fun ρ w E H => ex_cmp E rfl rfl rfl rfl rfl) fun c13 hc13 => ?_
  refine SxL.val (v := .bool c13) trivial rfl rfl (fun ρ w E H => ex_move E rfl rfl) ?_
  cases c13
  · refine SxL.val (v := .pointer (some ⟨g1, 8, none⟩)) ⟨_, _, rfl, rfl, rfl⟩ rfl rfl (fun ρ w E H => ex_field E rfl fa_palaver_api_Msg_7 rfl rfl) ?_
    refine SxL.val (v := .slice B il.length kb) ⟨_, _, rfl, rfl, rfl⟩ rfl rfl (fun ρ w E H => ex_load1 E (H.get (i := 1) rfl) rfl rfl Try.underlying41 rfl rfl) ?_
    refine SxL.val (v := .int .i64 (il.length : Int)) ⟨_, _, rfl, rfl, rfl⟩ rfl rfl (fun ρ w E H => ex_lenS E rfl Try.underlying41 rfl) ?_
    refine SxL.val (v := .pointer (some ⟨g2, 8, none⟩)) ⟨_, _, rfl, rfl, rfl⟩ rfl rfl (fun ρ w E H => ex_field E rfl fa_palaver_api_Msg_7 rfl rfl) ?_
    refine SxL.val (v := .slice D jl.length kd) ⟨_, _, rfl, rfl, rfl⟩ rfl rfl (fun ρ w E H => ex_load1 E (H.get (i := 0) rfl) rfl rfl Try.underlying41 rfl rfl) ?_
    refine SxL.val (v := .int .i64 (jl.length : Int)) ⟨_, _, rfl, rfl, rfl⟩ rfl rfl (fun ρ w E H => ex_lenS E rfl Try.underlying41 rfl) ?_
    refine SxL.valB ⟨_, _, rfl, rfl, rfl⟩ rfl rfl (fun ρ w E H => ex_cmp E rfl rfl rfl rfl rfl) fun c21 hc21 => ?_
    refine SxL.val (v := .bool c21) trivial rfl rfl (fun ρ w E H => ex_pick E rfl (t := false) rfl rfl) ?_
    refine SxL.nil ?_
    refine SxN.then_ ?_
    cases c21
    · refine SxC.condF rfl ?_
      refine SxC.skip ?_
      refine SxN.then_ ?_
      refine SxC.seq ?_
      refine SxC.seq ?_
      refine SxC.region ?_
      refine SxL.val (v := .int .i64 0) trivial rfl rfl (fun ρ w E H => ex_assign E rfl rfl) ?_
      refine SxL.nil ?_
      refine SxN.then_ ?_
      refine SxC.block ?_
      refine SxC.loop1 (fun (k : Nat) => [(2, .pointer (some ⟨g1, 0, none⟩)), (3, .pointer (some ⟨g2, 0, none⟩)), (5, .int .i64 (k : Int))]) (fun (k : Nat) => [cell g2 45 [.int .u8 (xk : Int), .int .u64 (xn : Int), .int .u8 (xr : Int), .int .u64 (xb : Int), .int .u64 (xs : Int), .int .u8 (xo : Int), .string ⟨xv.toArray⟩, .slice C wl.length kc, .slice D jl.length kd, .int .u8 (da : Int), .int .u32 (db : Int), .int .u8 (dk : Int), .string ⟨ds.toArray⟩, .string ⟨dt.toArray⟩, .string ⟨du.toArray⟩, .int .u8 (dz : Int), .int .u8 (xc : Int), .string ⟨xt.toArray⟩], cell g1 45 [.int .u8 (mk : Int), .int .u64 (mn : Int), .int .u8 (mr : Int), .int .u64 (mb : Int), .int .u64 (ms : Int), .int .u8 (mo : Int), .string ⟨mv.toArray⟩, .slice A vl.length ka, .slice B il.length kb, .int .u8 (ca : Int), .int .u32 (cb : Int), .int .u8 (ck : Int), .string ⟨cs.toArray⟩, .string ⟨ct.toArray⟩, .string ⟨cu.toArray⟩, .int .u8 (cz : Int), .int .u8 (mc : Int), .string ⟨mt.toArray⟩]]) (fun (gk : Nat) (k : Nat) => k + gk = vl.length ∧ vl.take k = wl.take k ∧ vl.length = wl.length) vl.length 0 ⟨by omega, rfl, by have h := hc13; simp [cmpB] at h; omega⟩ ⟨rfl, rfl, rfl, trivial⟩ [0, 1] rfl (by decide) ⟨.inl rfl, .inl rfl, trivial⟩ fun gk k hF => ?_
      obtain ⟨hkg, hrel, hle⟩ := hF
      refine SxC.seq ?_
      refine SxC.seq ?_
      refine SxC.region ?_
      refine SxL.val (v := .int .i64 (k : Int)) trivial rfl rfl (fun ρ w E H => ex_move E rfl rfl) ?_
      refine SxL.val (v := .pointer (some ⟨g1, 7, none⟩)) trivial rfl rfl (fun ρ w E H => ex_field E rfl fa_palaver_api_Msg_6 rfl rfl) ?_
      refine SxL.val (v := .slice A vl.length ka) trivial rfl rfl (fun ρ w E H => ex_load1 E (H.get (i := 1) rfl) rfl rfl Try.underlying40 rfl rfl) ?_
      refine SxL.val (v := .int .i64 (vl.length : Int)) trivial rfl rfl (fun ρ w E H => ex_lenS E rfl Try.underlying40 rfl) ?_
      refine SxL.valB trivial rfl rfl (fun ρ w E H => ex_cmp E rfl rfl rfl rfl rfl) fun c27 hc27 => ?_
      refine SxL.nil ?_
      refine SxN.then_ ?_
      cases c27
      · refine SxC.condF rfl ?_
        refine SxC.exit ?_
        refine SxX.thenE ?_
        refine SxX.thenE ?_
        refine SxX.blockE ?_
        refine SxN.then_ ?_
        refine SxC.seq ?_
        refine SxC.seq ?_
        have hV : vl = wl := by have h := hc27; simp [cmpB] at h; rw [List.take_of_length_le (by omega), List.take_of_length_le (by omega)] at hrel; exact hrel
        refine SxC.region ?_
        refine SxL.val (v := .int .i64 0) trivial rfl rfl (fun ρ w E H => ex_assign E rfl rfl) ?_
        refine SxL.nil ?_
        refine SxN.then_ ?_
        refine SxC.block ?_
        refine SxC.loop1 (fun (k : Nat) => [(2, .pointer (some ⟨g1, 0, none⟩)), (3, .pointer (some ⟨g2, 0, none⟩)), (6, .int .i64 (k : Int))]) (fun (k : Nat) => [cell g2 45 [.int .u8 (xk : Int), .int .u64 (xn : Int), .int .u8 (xr : Int), .int .u64 (xb : Int), .int .u64 (xs : Int), .int .u8 (xo : Int), .string ⟨xv.toArray⟩, .slice C wl.length kc, .slice D jl.length kd, .int .u8 (da : Int), .int .u32 (db : Int), .int .u8 (dk : Int), .string ⟨ds.toArray⟩, .string ⟨dt.toArray⟩, .string ⟨du.toArray⟩, .int .u8 (dz : Int), .int .u8 (xc : Int), .string ⟨xt.toArray⟩], cell g1 45 [.int .u8 (mk : Int), .int .u64 (mn : Int), .int .u8 (mr : Int), .int .u64 (mb : Int), .int .u64 (ms : Int), .int .u8 (mo : Int), .string ⟨mv.toArray⟩, .slice A vl.length ka, .slice B il.length kb, .int .u8 (ca : Int), .int .u32 (cb : Int), .int .u8 (ck : Int), .string ⟨cs.toArray⟩, .string ⟨ct.toArray⟩, .string ⟨cu.toArray⟩, .int .u8 (cz : Int), .int .u8 (mc : Int), .string ⟨mt.toArray⟩]]) (fun (gk : Nat) (k : Nat) => k + gk = il.length ∧ il.take k = jl.take k ∧ il.length = jl.length) il.length 0 ⟨by omega, rfl, by have h := hc21; simp [cmpB] at h; omega⟩ ⟨rfl, rfl, rfl, trivial⟩ [0, 1] rfl (by decide) ⟨.inl rfl, .inl rfl, trivial⟩ fun gk k hF => ?_
        obtain ⟨hkg, hrel, hle⟩ := hF
        refine SxC.seq ?_
        refine SxC.seq ?_
        refine SxC.region ?_
        refine SxL.val (v := .int .i64 (k : Int)) trivial rfl rfl (fun ρ w E H => ex_move E rfl rfl) ?_
        refine SxL.val (v := .pointer (some ⟨g1, 8, none⟩)) trivial rfl rfl (fun ρ w E H => ex_field E rfl fa_palaver_api_Msg_7 rfl rfl) ?_
        refine SxL.val (v := .slice B il.length kb) trivial rfl rfl (fun ρ w E H => ex_load1 E (H.get (i := 1) rfl) rfl rfl Try.underlying41 rfl rfl) ?_
        refine SxL.val (v := .int .i64 (il.length : Int)) trivial rfl rfl (fun ρ w E H => ex_lenS E rfl Try.underlying41 rfl) ?_
        refine SxL.valB trivial rfl rfl (fun ρ w E H => ex_cmp E rfl rfl rfl rfl rfl) fun c45 hc45 => ?_
        refine SxL.nil ?_
        refine SxN.then_ ?_
        cases c45
        · refine SxC.condF rfl ?_
          refine SxC.exit ?_
          refine SxX.thenE ?_
          refine SxX.thenE ?_
          refine SxX.blockE ?_
          refine SxN.then_ ?_
          refine SxC.seq ?_
          have hI : il = jl := by have h := hc45; simp [cmpB] at h; rw [List.take_of_length_le (by omega), List.take_of_length_le (by omega)] at hrel; exact hrel
          refine SxC.region ?_
          refine SxL.val (v := .pointer (some ⟨g1, 0, none⟩)) trivial rfl rfl (fun ρ w E H => ex_field E rfl fa_palaver_api_Msg_0 rfl rfl) ?_
          refine SxL.val (v := .int .u8 (mk : Int)) trivial rfl rfl (fun ρ w E H => ex_load1 E (H.get (i := 1) rfl) rfl rfl Try.underlying5 rfl rfl) ?_
          refine SxL.val (v := .pointer (some ⟨g2, 0, none⟩)) trivial rfl rfl (fun ρ w E H => ex_field E rfl fa_palaver_api_Msg_0 rfl rfl) ?_
          refine SxL.val (v := .int .u8 (xk : Int)) trivial rfl rfl (fun ρ w E H => ex_load1 E (H.get (i := 0) rfl) rfl rfl Try.underlying5 rfl rfl) ?_
          refine SxL.valB trivial rfl rfl (fun ρ w E H => ex_cmp E rfl rfl rfl rfl rfl) fun c63 hc63 => ?_
          refine SxL.val (v := .bool c63) trivial rfl rfl (fun ρ w E H => ex_move E rfl rfl) ?_
          cases c63
          · refine SxL.off ⟨_, _, _, rfl, rfl, rfl, nofun⟩ rfl rfl ?_
            refine SxL.off ⟨_, _, _, rfl, rfl, rfl, nofun⟩ rfl rfl ?_
            refine SxL.off ⟨_, _, _, rfl, rfl, rfl, nofun⟩ rfl rfl ?_
            refine SxL.off ⟨_, _, _, rfl, rfl, rfl, nofun⟩ rfl rfl ?_
            refine SxL.off ⟨_, _, _, rfl, rfl, rfl, nofun⟩ rfl rfl ?_
            refine SxL.val (v := .bool false) trivial rfl rfl (fun ρ w E H => ex_pick E rfl (t := false) rfl rfl) ?_
            refine SxL.val (v := .bool false) trivial rfl rfl (fun ρ w E H => ex_move E rfl rfl) ?_
            refine SxL.off ⟨_, _, _, rfl, rfl, rfl, nofun⟩ rfl rfl ?_
            refine SxL.off ⟨_, _, _, rfl, rfl, rfl, nofun⟩ rfl rfl ?_
            refine SxL.off ⟨_, _, _, rfl, rfl, rfl, nofun⟩ rfl rfl ?_
            refine SxL.off ⟨_, _, _, rfl, rfl, rfl, nofun⟩ rfl rfl ?_
            refine SxL.off ⟨_, _, _, rfl, rfl, rfl, nofun⟩ rfl rfl ?_
            refine SxL.val (v := .bool false) trivial rfl rfl (fun ρ w E H => ex_pick E rfl (t := false) rfl rfl) ?_
            refine SxL.val (v := .bool false) trivial rfl rfl (fun ρ w E H => ex_move E rfl rfl) ?_
            refine SxL.off ⟨_, _, _, rfl, rfl, rfl, nofun⟩ rfl rfl ?_
            refine SxL.off ⟨_, _, _, rfl, rfl, rfl, nofun⟩ rfl rfl ?_
            refine SxL.off ⟨_, _, _, rfl, rfl, rfl, nofun⟩ rfl rfl ?_
            refine SxL.off ⟨_, _, _, rfl, rfl, rfl, nofun⟩ rfl rfl ?_
            refine SxL.off ⟨_, _, _, rfl, rfl, rfl, nofun⟩ rfl rfl ?_
            refine SxL.val (v := .bool false) trivial rfl rfl (fun ρ w E H => ex_pick E rfl (t := false) rfl rfl) ?_
            refine SxL.val (v := .bool false) trivial rfl rfl (fun ρ w E H => ex_move E rfl rfl) ?_
            refine SxL.off ⟨_, _, _, rfl, rfl, rfl, nofun⟩ rfl rfl ?_
            refine SxL.off ⟨_, _, _, rfl, rfl, rfl, nofun⟩ rfl rfl ?_
            refine SxL.off ⟨_, _, _, rfl, rfl, rfl, nofun⟩ rfl rfl ?_
            refine SxL.off ⟨_, _, _, rfl, rfl, rfl, nofun⟩ rfl rfl ?_
            refine SxL.off ⟨_, _, _, rfl, rfl, rfl, nofun⟩ rfl rfl ?_
            refine SxL.val (v := .bool false) trivial rfl rfl (fun ρ w E H => ex_pick E rfl (t := false) rfl rfl) ?_
            refine SxL.val (v := .bool false) trivial rfl rfl (fun ρ w E H => ex_move E rfl rfl) ?_
            refine SxL.off ⟨_, _, _, rfl, rfl, rfl, nofun⟩ rfl rfl ?_
            refine SxL.off ⟨_, _, _, rfl, rfl, rfl, nofun⟩ rfl rfl ?_
            refine SxL.off ⟨_, _, _, rfl, rfl, rfl, nofun⟩ rfl rfl ?_
            refine SxL.off ⟨_, _, _, rfl, rfl, rfl, nofun⟩ rfl rfl ?_
            refine SxL.off ⟨_, _, _, rfl, rfl, rfl, nofun⟩ rfl rfl ?_
            refine SxL.val (v := .bool false) trivial rfl rfl (fun ρ w E H => ex_pick E rfl (t := false) rfl rfl) ?_
            refine SxL.val (v := .bool false) trivial rfl rfl (fun ρ w E H => ex_move E rfl rfl) ?_
            refine SxL.off ⟨_, _, _, rfl, rfl, rfl, nofun⟩ rfl rfl ?_
            refine SxL.off ⟨_, _, _, rfl, rfl, rfl, nofun⟩ rfl rfl ?_
            refine SxL.off ⟨_, _, _, rfl, rfl, rfl, nofun⟩ rfl rfl ?_
            refine SxL.off ⟨_, _, _, rfl, rfl, rfl, nofun⟩ rfl rfl ?_
            refine SxL.off ⟨_, _, _, rfl, rfl, rfl, nofun⟩ rfl rfl ?_
            refine SxL.val (v := .bool false) trivial rfl rfl (fun ρ w E H => ex_pick E rfl (t := false) rfl rfl) ?_
            refine SxL.val (v := .bool false) trivial rfl rfl (fun ρ w E H => ex_move E rfl rfl) ?_
            refine SxL.off ⟨_, _, _, rfl, rfl, rfl, nofun⟩ rfl rfl ?_
            refine SxL.off ⟨_, _, _, rfl, rfl, rfl, nofun⟩ rfl rfl ?_
            refine SxL.off ⟨_, _, _, rfl, rfl, rfl, nofun⟩ rfl rfl ?_
            refine SxL.off ⟨_, _, _, rfl, rfl, rfl, nofun⟩ rfl rfl ?_
            refine SxL.off ⟨_, _, _, rfl, rfl, rfl, nofun⟩ rfl rfl ?_
            refine SxL.val (v := .bool false) trivial rfl rfl (fun ρ w E H => ex_pick E rfl (t := false) rfl rfl) ?_
            refine SxL.val (v := .bool false) trivial rfl rfl (fun ρ w E H => ex_assign E rfl rfl) ?_
            refine SxL.nil ?_
            refine SxN.then_ ?_
            refine SxC.ret ?_
            refine SxX.done (.bool false) (fun a w K H => res1 K rfl rfl) (fun w H => ?_)
            have hq : false = decide ((⟨mk, mn, mr, mb, ms, mo, mv, vl, il, ⟨ca, cb, ck, cs, ct, cu, cz⟩, mc, mt⟩ : Ms) = ⟨xk, xn, xr, xb, xs, xo, xv, wl, jl, ⟨da, db, dk, ds, dt, du, dz⟩, xc, xt⟩) := by clear H; grind [cmpB]
            exact ⟨by rw [hq], H.toBelow ⟨(fun g hg => by rw [List.mem_singleton.1 hg]; exact hg2), (fun g hg => by rw [List.mem_singleton.1 hg]; exact hg1), trivial⟩⟩
          · refine SxL.val (v := .pointer (some ⟨g1, 1, none⟩)) ⟨_, _, rfl, rfl, rfl⟩ rfl rfl (fun ρ w E H => ex_field E rfl fa_palaver_api_Msg_1 rfl rfl) ?_
            refine SxL.val (v := .agg #[.int .u64 (mn : Int), .int .u8 (mr : Int)]) ⟨_, _, rfl, rfl, rfl⟩ rfl rfl (fun ρ w E H => ex_load (part := [.int .u64 (mn : Int), .int .u8 (mr : Int)]) E (H.get (i := 1) rfl) rfl rfl Try.underlying39 rfl sz_palaver_api_Ballot rfl rfl) ?_
            refine SxL.val (v := .pointer (some ⟨g2, 1, none⟩)) ⟨_, _, rfl, rfl, rfl⟩ rfl rfl (fun ρ w E H => ex_field E rfl fa_palaver_api_Msg_1 rfl rfl) ?_
            refine SxL.val (v := .agg #[.int .u64 (xn : Int), .int .u8 (xr : Int)]) ⟨_, _, rfl, rfl, rfl⟩ rfl rfl (fun ρ w E H => ex_load (part := [.int .u64 (xn : Int), .int .u8 (xr : Int)]) E (H.get (i := 0) rfl) rfl rfl Try.underlying39 rfl sz_palaver_api_Ballot rfl rfl) ?_
            refine SxL.valB ⟨_, _, rfl, rfl, rfl⟩ rfl rfl (fun ρ w E H => ex_aeql E rfl (by kernel_rfl) rfl rfl (fun w => eq_bal mn mr xn xr w)) fun c69 hc69 => ?_
            refine SxL.val (v := .bool c69) trivial rfl rfl (fun ρ w E H => ex_pick E rfl (t := true) rfl rfl) ?_
            refine SxL.val (v := .bool c69) trivial rfl rfl (fun ρ w E H => ex_move E rfl rfl) ?_
            cases c69
            · refine SxL.off ⟨_, _, _, rfl, rfl, rfl, nofun⟩ rfl rfl ?_
              refine SxL.off ⟨_, _, _, rfl, rfl, rfl, nofun⟩ rfl rfl ?_
              refine SxL.off ⟨_, _, _, rfl, rfl, rfl, nofun⟩ rfl rfl ?_
              refine SxL.off ⟨_, _, _, rfl, rfl, rfl, nofun⟩ rfl rfl ?_
              refine SxL.off ⟨_, _, _, rfl, rfl, rfl, nofun⟩ rfl rfl ?_
              refine SxL.val (v := .bool false) trivial rfl rfl (fun ρ w E H => ex_pick E rfl (t := false) rfl rfl) ?_
              refine SxL.val (v := .bool false) trivial rfl rfl (fun ρ w E H => ex_move E rfl rfl) ?_
              refine SxL.off ⟨_, _, _, rfl, rfl, rfl, nofun⟩ rfl rfl ?_
              refine SxL.off ⟨_, _, _, rfl, rfl, rfl, nofun⟩ rfl rfl ?_
              refine SxL.off ⟨_, _, _, rfl, rfl, rfl, nofun⟩ rfl rfl ?_
              refine SxL.off ⟨_, _, _, rfl, rfl, rfl, nofun⟩ rfl rfl ?_
              refine SxL.off ⟨_, _, _, rfl, rfl, rfl, nofun⟩ rfl rfl ?_
              refine SxL.val (v := .bool false) trivial rfl rfl (fun ρ w E H => ex_pick E rfl (t := false) rfl rfl) ?_
              refine SxL.val (v := .bool false) trivial rfl rfl (fun ρ w E H => ex_move E rfl rfl) ?_
              refine SxL.off ⟨_, _, _, rfl, rfl, rfl, nofun⟩ rfl rfl ?_
              refine SxL.off ⟨_, _, _, rfl, rfl, rfl, nofun⟩ rfl rfl ?_
              refine SxL.off ⟨_, _, _, rfl, rfl, rfl, nofun⟩ rfl rfl ?_
              refine SxL.off ⟨_, _, _, rfl, rfl, rfl, nofun⟩ rfl rfl ?_
              refine SxL.off ⟨_, _, _, rfl, rfl, rfl, nofun⟩ rfl rfl ?_
              refine SxL.val (v := .bool false) trivial rfl rfl (fun ρ w E H => ex_pick E rfl (t := false) rfl rfl) ?_
              refine SxL.val (v := .bool false) trivial rfl rfl (fun ρ w E H => ex_move E rfl rfl) ?_
              refine SxL.off ⟨_, _, _, rfl, rfl, rfl, nofun⟩ rfl rfl ?_
              refine SxL.off ⟨_, _, _, rfl, rfl, rfl, nofun⟩ rfl rfl ?_
              refine SxL.off ⟨_, _, _, rfl, rfl, rfl, nofun⟩ rfl rfl ?_
              refine SxL.off ⟨_, _, _, rfl, rfl, rfl, nofun⟩ rfl rfl ?_
              refine SxL.off ⟨_, _, _, rfl, rfl, rfl, nofun⟩ rfl rfl ?_
              refine SxL.val (v := .bool false) trivial rfl rfl (fun ρ w E H => ex_pick E rfl (t := false) rfl rfl) ?_
              refine SxL.val (v := .bool false) trivial rfl rfl (fun ρ w E H => ex_move E rfl rfl) ?_
              refine SxL.off ⟨_, _, _, rfl, rfl, rfl, nofun⟩ rfl rfl ?_
              refine SxL.off ⟨_, _, _, rfl, rfl, rfl, nofun⟩ rfl rfl ?_
              refine SxL.off ⟨_, _, _, rfl, rfl, rfl, nofun⟩ rfl rfl ?_
              refine SxL.off ⟨_, _, _, rfl, rfl, rfl, nofun⟩ rfl rfl ?_
              refine SxL.off ⟨_, _, _, rfl, rfl, rfl, nofun⟩ rfl rfl ?_
              refine SxL.val (v := .bool false) trivial rfl rfl (fun ρ w E H => ex_pick E rfl (t := false) rfl rfl) ?_
              refine SxL.val (v := .bool false) trivial rfl rfl (fun ρ w E H => ex_move E rfl rfl) ?_
              refine SxL.off ⟨_, _, _, rfl, rfl, rfl, nofun⟩ rfl rfl ?_
              refine SxL.off ⟨_, _, _, rfl, rfl, rfl, nofun⟩ rfl rfl ?_
              refine SxL.off ⟨_, _, _, rfl, rfl, rfl, nofun⟩ rfl rfl ?_
              refine SxL.off ⟨_, _, _, rfl, rfl, rfl, nofun⟩ rfl rfl ?_
              refine SxL.off ⟨_, _, _, rfl, rfl, rfl, nofun⟩ rfl rfl ?_
              refine SxL.val (v := .bool false) trivial rfl rfl (fun ρ w E H => ex_pick E rfl (t := false) rfl rfl) ?_
              refine SxL.val (v := .bool false) trivial rfl rfl (fun ρ w E H => ex_assign E rfl rfl) ?_
              refine SxL.nil ?_
              refine SxN.then_ ?_
              refine SxC.ret ?_
              refine SxX.done (.bool false) (fun a w K H => res1 K rfl rfl) (fun w H => ?_)
              have hq : false = decide ((⟨mk, mn, mr, mb, ms, mo, mv, vl, il, ⟨ca, cb, ck, cs, ct, cu, cz⟩, mc, mt⟩ : Ms) = ⟨xk, xn, xr, xb, xs, xo, xv, wl, jl, ⟨da, db, dk, ds, dt, du, dz⟩, xc, xt⟩) := by clear H; grind [cmpB]
              exact ⟨by rw [hq], H.toBelow ⟨(fun g hg => by rw [List.mem_singleton.1 hg]; exact hg2), (fun g hg => by rw [List.mem_singleton.1 hg]; exact hg1), trivial⟩⟩
            · refine SxL.val (v := .pointer (some ⟨g1, 3, none⟩)) ⟨_, _, rfl, rfl, rfl⟩ rfl rfl (fun ρ w E H => ex_field E rfl fa_palaver_api_Msg_2 rfl rfl) ?_
              refine SxL.val (v := .int .u64 (mb : Int)) ⟨_, _, rfl, rfl, rfl⟩ rfl rfl (fun ρ w E H => ex_load1 E (H.get (i := 1) rfl) rfl rfl Try.underlying37 rfl rfl) ?_
              refine SxL.val (v := .pointer (some ⟨g2, 3, none⟩)) ⟨_, _, rfl, rfl, rfl⟩ rfl rfl (fun ρ w E H => ex_field E rfl fa_palaver_api_Msg_2 rfl rfl) ?_
              refine SxL.val (v := .int .u64 (xb : Int)) ⟨_, _, rfl, rfl, rfl⟩ rfl rfl (fun ρ w E H => ex_load1 E (H.get (i := 0) rfl) rfl rfl Try.underlying37 rfl rfl) ?_
              refine SxL.valB ⟨_, _, rfl, rfl, rfl⟩ rfl rfl (fun ρ w E H => ex_cmp E rfl rfl rfl rfl rfl) fun c76 hc76 => ?_
              refine SxL.val (v := .bool c76) trivial rfl rfl (fun ρ w E H => ex_pick E rfl (t := true) rfl rfl) ?_
              refine SxL.val (v := .bool c76) trivial rfl rfl (fun ρ w E H => ex_move E rfl rfl) ?_
              cases c76
              · refine SxL.off ⟨_, _, _, rfl, rfl, rfl, nofun⟩ rfl rfl ?_
                refine SxL.off ⟨_, _, _, rfl, rfl, rfl, nofun⟩ rfl rfl ?_
                refine SxL.off ⟨_, _, _, rfl, rfl, rfl, nofun⟩ rfl rfl ?_
                refine SxL.off ⟨_, _, _, rfl, rfl, rfl, nofun⟩ rfl rfl ?_
                refine SxL.off ⟨_, _, _, rfl, rfl, rfl, nofun⟩ rfl rfl ?_
                refine SxL.val (v := .bool false) trivial rfl rfl (fun ρ w E H => ex_pick E rfl (t := false) rfl rfl) ?_
                refine SxL.val (v := .bool false) trivial rfl rfl (fun ρ w E H => ex_move E rfl rfl) ?_
                refine SxL.off ⟨_, _, _, rfl, rfl, rfl, nofun⟩ rfl rfl ?_
                refine SxL.off ⟨_, _, _, rfl, rfl, rfl, nofun⟩ rfl rfl ?_
                refine SxL.off ⟨_, _, _, rfl, rfl, rfl, nofun⟩ rfl rfl ?_
                refine SxL.off ⟨_, _, _, rfl, rfl, rfl, nofun⟩ rfl rfl ?_
                refine SxL.off ⟨_, _, _, rfl, rfl, rfl, nofun⟩ rfl rfl ?_
                refine SxL.val (v := .bool false) trivial rfl rfl (fun ρ w E H => ex_pick E rfl (t := false) rfl rfl) ?_
                refine SxL.val (v := .bool false) trivial rfl rfl (fun ρ w E H => ex_move E rfl rfl) ?_
                refine SxL.off ⟨_, _, _, rfl, rfl, rfl, nofun⟩ rfl rfl ?_
                refine SxL.off ⟨_, _, _, rfl, rfl, rfl, nofun⟩ rfl rfl ?_
                refine SxL.off ⟨_, _, _, rfl, rfl, rfl, nofun⟩ rfl rfl ?_
                refine SxL.off ⟨_, _, _, rfl, rfl, rfl, nofun⟩ rfl rfl ?_
                refine SxL.off ⟨_, _, _, rfl, rfl, rfl, nofun⟩ rfl rfl ?_
                refine SxL.val (v := .bool false) trivial rfl rfl (fun ρ w E H => ex_pick E rfl (t := false) rfl rfl) ?_
                refine SxL.val (v := .bool false) trivial rfl rfl (fun ρ w E H => ex_move E rfl rfl) ?_
                refine SxL.off ⟨_, _, _, rfl, rfl, rfl, nofun⟩ rfl rfl ?_
                refine SxL.off ⟨_, _, _, rfl, rfl, rfl, nofun⟩ rfl rfl ?_
                refine SxL.off ⟨_, _, _, rfl, rfl, rfl, nofun⟩ rfl rfl ?_
                refine SxL.off ⟨_, _, _, rfl, rfl, rfl, nofun⟩ rfl rfl ?_
                refine SxL.off ⟨_, _, _, rfl, rfl, rfl, nofun⟩ rfl rfl ?_
                refine SxL.val (v := .bool false) trivial rfl rfl (fun ρ w E H => ex_pick E rfl (t := false) rfl rfl) ?_
                refine SxL.val (v := .bool false) trivial rfl rfl (fun ρ w E H => ex_move E rfl rfl) ?_
                refine SxL.off ⟨_, _, _, rfl, rfl, rfl, nofun⟩ rfl rfl ?_
                refine SxL.off ⟨_, _, _, rfl, rfl, rfl, nofun⟩ rfl rfl ?_
                refine SxL.off ⟨_, _, _, rfl, rfl, rfl, nofun⟩ rfl rfl ?_
                refine SxL.off ⟨_, _, _, rfl, rfl, rfl, nofun⟩ rfl rfl ?_
                refine SxL.off ⟨_, _, _, rfl, rfl, rfl, nofun⟩ rfl rfl ?_
                refine SxL.val (v := .bool false) trivial rfl rfl (fun ρ w E H => ex_pick E rfl (t := false) rfl rfl) ?_
                refine SxL.val (v := .bool false) trivial rfl rfl (fun ρ w E H => ex_assign E rfl rfl) ?_
                refine SxL.nil ?_
                refine SxN.then_ ?_
                refine SxC.ret ?_
                refine SxX.done (.bool false) (fun a w K H => res1 K rfl rfl) (fun w H => ?_)
                have hq : false = decide ((⟨mk, mn, mr, mb, ms, mo, mv, vl, il, ⟨ca, cb, ck, cs, ct, cu, cz⟩, mc, mt⟩ : Ms) = ⟨xk, xn, xr, xb, xs, xo, xv, wl, jl, ⟨da, db, dk, ds, dt, du, dz⟩, xc, xt⟩) := by clear H; grind [cmpB]
                exact ⟨by rw [hq], H.toBelow ⟨(fun g hg => by rw [List.mem_singleton.1 hg]; exact hg2), (fun g hg => by rw [List.mem_singleton.1 hg]; exact hg1), trivial⟩⟩
              · refine SxL.val (v := .pointer (some ⟨g1, 4, none⟩)) ⟨_, _, rfl, rfl, rfl⟩ rfl rfl (fun ρ w E H => ex_field E rfl fa_palaver_api_Msg_3 rfl rfl) ?_
                refine SxL.val (v := .int .u64 (ms : Int)) ⟨_, _, rfl, rfl, rfl⟩ rfl rfl (fun ρ w E H => ex_load1 E (H.get (i := 1) rfl) rfl rfl Try.underlying37 rfl rfl) ?_
                refine SxL.val (v := .pointer (some ⟨g2, 4, none⟩)) ⟨_, _, rfl, rfl, rfl⟩ rfl rfl (fun ρ w E H => ex_field E rfl fa_palaver_api_Msg_3 rfl rfl) ?_
                refine SxL.val (v := .int .u64 (xs : Int)) ⟨_, _, rfl, rfl, rfl⟩ rfl rfl (fun ρ w E H => ex_load1 E (H.get (i := 0) rfl) rfl rfl Try.underlying37 rfl rfl) ?_
                refine SxL.valB ⟨_, _, rfl, rfl, rfl⟩ rfl rfl (fun ρ w E H => ex_cmp E rfl rfl rfl rfl rfl) fun c83 hc83 => ?_
                refine SxL.val (v := .bool c83) trivial rfl rfl (fun ρ w E H => ex_pick E rfl (t := true) rfl rfl) ?_
                refine SxL.val (v := .bool c83) trivial rfl rfl (fun ρ w E H => ex_move E rfl rfl) ?_
                cases c83
                · refine SxL.off ⟨_, _, _, rfl, rfl, rfl, nofun⟩ rfl rfl ?_
                  refine SxL.off ⟨_, _, _, rfl, rfl, rfl, nofun⟩ rfl rfl ?_
                  refine SxL.off ⟨_, _, _, rfl, rfl, rfl, nofun⟩ rfl rfl ?_
                  refine SxL.off ⟨_, _, _, rfl, rfl, rfl, nofun⟩ rfl rfl ?_
                  refine SxL.off ⟨_, _, _, rfl, rfl, rfl, nofun⟩ rfl rfl ?_
                  refine SxL.val (v := .bool false) trivial rfl rfl (fun ρ w E H => ex_pick E rfl (t := false) rfl rfl) ?_
                  refine SxL.val (v := .bool false) trivial rfl rfl (fun ρ w E H => ex_move E rfl rfl) ?_
                  refine SxL.off ⟨_, _, _, rfl, rfl, rfl, nofun⟩ rfl rfl ?_
                  refine SxL.off ⟨_, _, _, rfl, rfl, rfl, nofun⟩ rfl rfl ?_
                  refine SxL.off ⟨_, _, _, rfl, rfl, rfl, nofun⟩ rfl rfl ?_
                  refine SxL.off ⟨_, _, _, rfl, rfl, rfl, nofun⟩ rfl rfl ?_
                  refine SxL.off ⟨_, _, _, rfl, rfl, rfl, nofun⟩ rfl rfl ?_
                  refine SxL.val (v := .bool false) trivial rfl rfl (fun ρ w E H => ex_pick E rfl (t := false) rfl rfl) ?_
                  refine SxL.val (v := .bool false) trivial rfl rfl (fun ρ w E H => ex_move E rfl rfl) ?_
                  refine SxL.off ⟨_, _, _, rfl, rfl, rfl, nofun⟩ rfl rfl ?_
                  refine SxL.off ⟨_, _, _, rfl, rfl, rfl, nofun⟩ rfl rfl ?_
                  refine SxL.off ⟨_, _, _, rfl, rfl, rfl, nofun⟩ rfl rfl ?_
                  refine SxL.off ⟨_, _, _, rfl, rfl, rfl, nofun⟩ rfl rfl ?_
                  refine SxL.off ⟨_, _, _, rfl, rfl, rfl, nofun⟩ rfl rfl ?_
                  refine SxL.val (v := .bool false) trivial rfl rfl (fun ρ w E H => ex_pick E rfl (t := false) rfl rfl) ?_
                  refine SxL.val (v := .bool false) trivial rfl rfl (fun ρ w E H => ex_move E rfl rfl) ?_
                  refine SxL.off ⟨_, _, _, rfl, rfl, rfl, nofun⟩ rfl rfl ?_
                  refine SxL.off ⟨_, _, _, rfl, rfl, rfl, nofun⟩ rfl rfl ?_
                  refine SxL.off ⟨_, _, _, rfl, rfl, rfl, nofun⟩ rfl rfl ?_
                  refine SxL.off ⟨_, _, _, rfl, rfl, rfl, nofun⟩ rfl rfl ?_
                  refine SxL.off ⟨_, _, _, rfl, rfl, rfl, nofun⟩ rfl rfl ?_
                  refine SxL.val (v := .bool false) trivial rfl rfl (fun ρ w E H => ex_pick E rfl (t := false) rfl rfl) ?_
                  refine SxL.val (v := .bool false) trivial rfl rfl (fun ρ w E H => ex_assign E rfl rfl) ?_
                  refine SxL.nil ?_
                  refine SxN.then_ ?_
                  refine SxC.ret ?_
                  refine SxX.done (.bool false) (fun a w K H => res1 K rfl rfl) (fun w H => ?_)
                  have hq : false = decide ((⟨mk, mn, mr, mb, ms, mo, mv, vl, il, ⟨ca, cb, ck, cs, ct, cu, cz⟩, mc, mt⟩ : Ms) = ⟨xk, xn, xr, xb, xs, xo, xv, wl, jl, ⟨da, db, dk, ds, dt, du, dz⟩, xc, xt⟩) := by clear H; grind [cmpB]
                  exact ⟨by rw [hq], H.toBelow ⟨(fun g hg => by rw [List.mem_singleton.1 hg]; exact hg2), (fun g hg => by rw [List.mem_singleton.1 hg]; exact hg1), trivial⟩⟩
                · refine SxL.val (v := .pointer (some ⟨g1, 5, none⟩)) ⟨_, _, rfl, rfl, rfl⟩ rfl rfl (fun ρ w E H => ex_field E rfl fa_palaver_api_Msg_4 rfl rfl) ?_
                  refine SxL.val (v := .int .u8 (mo : Int)) ⟨_, _, rfl, rfl, rfl⟩ rfl rfl (fun ρ w E H => ex_load1 E (H.get (i := 1) rfl) rfl rfl Try.underlying5 rfl rfl) ?_
                  refine SxL.val (v := .pointer (some ⟨g2, 5, none⟩)) ⟨_, _, rfl, rfl, rfl⟩ rfl rfl (fun ρ w E H => ex_field E rfl fa_palaver_api_Msg_4 rfl rfl) ?_
                  refine SxL.val (v := .int .u8 (xo : Int)) ⟨_, _, rfl, rfl, rfl⟩ rfl rfl (fun ρ w E H => ex_load1 E (H.get (i := 0) rfl) rfl rfl Try.underlying5 rfl rfl) ?_
                  refine SxL.valB ⟨_, _, rfl, rfl, rfl⟩ rfl rfl (fun ρ w E H => ex_cmp E rfl rfl rfl rfl rfl) fun c90 hc90 => ?_
                  refine SxL.val (v := .bool c90) trivial rfl rfl (fun ρ w E H => ex_pick E rfl (t := true) rfl rfl) ?_
                  refine SxL.val (v := .bool c90) trivial rfl rfl (fun ρ w E H => ex_move E rfl rfl) ?_
                  cases c90
                  · refine SxL.off ⟨_, _, _, rfl, rfl, rfl, nofun⟩ rfl rfl ?_
                    refine SxL.off ⟨_, _, _, rfl, rfl, rfl, nofun⟩ rfl rfl ?_
                    refine SxL.off ⟨_, _, _, rfl, rfl, rfl, nofun⟩ rfl rfl ?_
                    refine SxL.off ⟨_, _, _, rfl, rfl, rfl, nofun⟩ rfl rfl ?_
                    refine SxL.off ⟨_, _, _, rfl, rfl, rfl, nofun⟩ rfl rfl ?_
                    refine SxL.val (v := .bool false) trivial rfl rfl (fun ρ w E H => ex_pick E rfl (t := false) rfl rfl) ?_
                    refine SxL.val (v := .bool false) trivial rfl rfl (fun ρ w E H => ex_move E rfl rfl) ?_
                    refine SxL.off ⟨_, _, _, rfl, rfl, rfl, nofun⟩ rfl rfl ?_
                    refine SxL.off ⟨_, _, _, rfl, rfl, rfl, nofun⟩ rfl rfl ?_
                    refine SxL.off ⟨_, _, _, rfl, rfl, rfl, nofun⟩ rfl rfl ?_
                    refine SxL.off ⟨_, _, _, rfl, rfl, rfl, nofun⟩ rfl rfl ?_
                    refine SxL.off ⟨_, _, _, rfl, rfl, rfl, nofun⟩ rfl rfl ?_
                    refine SxL.val (v := .bool false) trivial rfl rfl (fun ρ w E H => ex_pick E rfl (t := false) rfl rfl) ?_
                    refine SxL.val (v := .bool false) trivial rfl rfl (fun ρ w E H => ex_move E rfl rfl) ?_
                    refine SxL.off ⟨_, _, _, rfl, rfl, rfl, nofun⟩ rfl rfl ?_
                    refine SxL.off ⟨_, _, _, rfl, rfl, rfl, nofun⟩ rfl rfl ?_
                    refine SxL.off ⟨_, _, _, rfl, rfl, rfl, nofun⟩ rfl rfl ?_
                    refine SxL.off ⟨_, _, _, rfl, rfl, rfl, nofun⟩ rfl rfl ?_
                    refine SxL.off ⟨_, _, _, rfl, rfl, rfl, nofun⟩ rfl rfl ?_
                    refine SxL.val (v := .bool false) trivial rfl rfl (fun ρ w E H => ex_pick E rfl (t := false) rfl rfl) ?_
                    refine SxL.val (v := .bool false) trivial rfl rfl (fun ρ w E H => ex_assign E rfl rfl) ?_
                    refine SxL.nil ?_
                    refine SxN.then_ ?_
                    refine SxC.ret ?_
                    refine SxX.done (.bool false) (fun a w K H => res1 K rfl rfl) (fun w H => ?_)
                    have hq : false = decide ((⟨mk, mn, mr, mb, ms, mo, mv, vl, il, ⟨ca, cb, ck, cs, ct, cu, cz⟩, mc, mt⟩ : Ms) = ⟨xk, xn, xr, xb, xs, xo, xv, wl, jl, ⟨da, db, dk, ds, dt, du, dz⟩, xc, xt⟩) := by clear H; grind [cmpB]
                    exact ⟨by rw [hq], H.toBelow ⟨(fun g hg => by rw [List.mem_singleton.1 hg]; exact hg2), (fun g hg => by rw [List.mem_singleton.1 hg]; exact hg1), trivial⟩⟩
                  · refine SxL.val (v := .pointer (some ⟨g1, 6, none⟩)) ⟨_, _, rfl, rfl, rfl⟩ rfl rfl (fun ρ w E H => ex_field E rfl fa_palaver_api_Msg_5 rfl rfl) ?_
                    refine SxL.val (v := .string ⟨mv.toArray⟩) ⟨_, _, rfl, rfl, rfl⟩ rfl rfl (fun ρ w E H => ex_load1 E (H.get (i := 1) rfl) rfl rfl Try.underlying9 rfl rfl) ?_
                    refine SxL.val (v := .pointer (some ⟨g2, 6, none⟩)) ⟨_, _, rfl, rfl, rfl⟩ rfl rfl (fun ρ w E H => ex_field E rfl fa_palaver_api_Msg_5 rfl rfl) ?_
                    refine SxL.val (v := .string ⟨xv.toArray⟩) ⟨_, _, rfl, rfl, rfl⟩ rfl rfl (fun ρ w E H => ex_load1 E (H.get (i := 0) rfl) rfl rfl Try.underlying9 rfl rfl) ?_
                    refine SxL.valB ⟨_, _, rfl, rfl, rfl⟩ rfl rfl (fun ρ w E H => ex_seql E rfl rfl rfl rfl) fun c97 hc97 => ?_
                    refine SxL.val (v := .bool c97) trivial rfl rfl (fun ρ w E H => ex_pick E rfl (t := true) rfl rfl) ?_
                    refine SxL.val (v := .bool c97) trivial rfl rfl (fun ρ w E H => ex_move E rfl rfl) ?_
                    cases c97
                    · refine SxL.off ⟨_, _, _, rfl, rfl, rfl, nofun⟩ rfl rfl ?_
                      refine SxL.off ⟨_, _, _, rfl, rfl, rfl, nofun⟩ rfl rfl ?_
                      refine SxL.off ⟨_, _, _, rfl, rfl, rfl, nofun⟩ rfl rfl ?_
                      refine SxL.off ⟨_, _, _, rfl, rfl, rfl, nofun⟩ rfl rfl ?_
                      refine SxL.off ⟨_, _, _, rfl, rfl, rfl, nofun⟩ rfl rfl ?_
                      refine SxL.val (v := .bool false) trivial rfl rfl (fun ρ w E H => ex_pick E rfl (t := false) rfl rfl) ?_
                      refine SxL.val (v := .bool false) trivial rfl rfl (fun ρ w E H => ex_move E rfl rfl) ?_
                      refine SxL.off ⟨_, _, _, rfl, rfl, rfl, nofun⟩ rfl rfl ?_
                      refine SxL.off ⟨_, _, _, rfl, rfl, rfl, nofun⟩ rfl rfl ?_
                      refine SxL.off ⟨_, _, _, rfl, rfl, rfl, nofun⟩ rfl rfl ?_
                      refine SxL.off ⟨_, _, _, rfl, rfl, rfl, nofun⟩ rfl rfl ?_
                      refine SxL.off ⟨_, _, _, rfl, rfl, rfl, nofun⟩ rfl rfl ?_
                      refine SxL.val (v := .bool false) trivial rfl rfl (fun ρ w E H => ex_pick E rfl (t := false) rfl rfl) ?_
                      refine SxL.val (v := .bool false) trivial rfl rfl (fun ρ w E H => ex_assign E rfl rfl) ?_
                      refine SxL.nil ?_
                      refine SxN.then_ ?_
                      refine SxC.ret ?_
                      refine SxX.done (.bool false) (fun a w K H => res1 K rfl rfl) (fun w H => ?_)
                      have hq : false = decide ((⟨mk, mn, mr, mb, ms, mo, mv, vl, il, ⟨ca, cb, ck, cs, ct, cu, cz⟩, mc, mt⟩ : Ms) = ⟨xk, xn, xr, xb, xs, xo, xv, wl, jl, ⟨da, db, dk, ds, dt, du, dz⟩, xc, xt⟩) := by clear H; grind [cmpB]
                      exact ⟨by rw [hq], H.toBelow ⟨(fun g hg => by rw [List.mem_singleton.1 hg]; exact hg2), (fun g hg => by rw [List.mem_singleton.1 hg]; exact hg1), trivial⟩⟩
                    · refine SxL.val (v := .pointer (some ⟨g1, 9, none⟩)) ⟨_, _, rfl, rfl, rfl⟩ rfl rfl (fun ρ w E H => ex_field E rfl fa_palaver_api_Msg_8 rfl rfl) ?_
                      refine SxL.val (v := .agg #[.int .u8 (ca : Int), .int .u32 (cb : Int), .int .u8 (ck : Int), .string ⟨cs.toArray⟩, .string ⟨ct.toArray⟩, .string ⟨cu.toArray⟩, .int .u8 (cz : Int)]) ⟨_, _, rfl, rfl, rfl⟩ rfl rfl (fun ρ w E H => ex_load (part := [.int .u8 (ca : Int), .int .u32 (cb : Int), .int .u8 (ck : Int), .string ⟨cs.toArray⟩, .string ⟨ct.toArray⟩, .string ⟨cu.toArray⟩, .int .u8 (cz : Int)]) E (H.get (i := 1) rfl) rfl rfl Try.underlying36 rfl sz_palaver_api_Cmd rfl rfl) ?_
                      refine SxL.val (v := .pointer (some ⟨g2, 9, none⟩)) ⟨_, _, rfl, rfl, rfl⟩ rfl rfl (fun ρ w E H => ex_field E rfl fa_palaver_api_Msg_8 rfl rfl) ?_
                      refine SxL.val (v := .agg #[.int .u8 (da : Int), .int .u32 (db : Int), .int .u8 (dk : Int), .string ⟨ds.toArray⟩, .string ⟨dt.toArray⟩, .string ⟨du.toArray⟩, .int .u8 (dz : Int)]) ⟨_, _, rfl, rfl, rfl⟩ rfl rfl (fun ρ w E H => ex_load (part := [.int .u8 (da : Int), .int .u32 (db : Int), .int .u8 (dk : Int), .string ⟨ds.toArray⟩, .string ⟨dt.toArray⟩, .string ⟨du.toArray⟩, .int .u8 (dz : Int)]) E (H.get (i := 0) rfl) rfl rfl Try.underlying36 rfl sz_palaver_api_Cmd rfl rfl) ?_
                      refine SxL.valB ⟨_, _, rfl, rfl, rfl⟩ rfl rfl (fun ρ w E H => ex_aeql E rfl (by kernel_rfl) rfl rfl (fun w => eq_cm (⟨ca, cb, ck, cs, ct, cu, cz⟩ : Cmd.Cm) ⟨da, db, dk, ds, dt, du, dz⟩ w)) fun c104 hc104 => ?_
                      refine SxL.val (v := .bool c104) trivial rfl rfl (fun ρ w E H => ex_pick E rfl (t := true) rfl rfl) ?_
                      refine SxL.val (v := .bool c104) trivial rfl rfl (fun ρ w E H => ex_move E rfl rfl) ?_
                      cases c104
                      · refine SxL.off ⟨_, _, _, rfl, rfl, rfl, nofun⟩ rfl rfl ?_
                        refine SxL.off ⟨_, _, _, rfl, rfl, rfl, nofun⟩ rfl rfl ?_
                        refine SxL.off ⟨_, _, _, rfl, rfl, rfl, nofun⟩ rfl rfl ?_
                        refine SxL.off ⟨_, _, _, rfl, rfl, rfl, nofun⟩ rfl rfl ?_
                        refine SxL.off ⟨_, _, _, rfl, rfl, rfl, nofun⟩ rfl rfl ?_
                        refine SxL.val (v := .bool false) trivial rfl rfl (fun ρ w E H => ex_pick E rfl (t := false) rfl rfl) ?_
                        refine SxL.val (v := .bool false) trivial rfl rfl (fun ρ w E H => ex_assign E rfl rfl) ?_
                        refine SxL.nil ?_
                        refine SxN.then_ ?_
                        refine SxC.ret ?_
                        refine SxX.done (.bool false) (fun a w K H => res1 K rfl rfl) (fun w H => ?_)
                        have hq : false = decide ((⟨mk, mn, mr, mb, ms, mo, mv, vl, il, ⟨ca, cb, ck, cs, ct, cu, cz⟩, mc, mt⟩ : Ms) = ⟨xk, xn, xr, xb, xs, xo, xv, wl, jl, ⟨da, db, dk, ds, dt, du, dz⟩, xc, xt⟩) := by clear H; grind [cmpB]
                        exact ⟨by rw [hq], H.toBelow ⟨(fun g hg => by rw [List.mem_singleton.1 hg]; exact hg2), (fun g hg => by rw [List.mem_singleton.1 hg]; exact hg1), trivial⟩⟩
                      · refine SxL.val (v := .pointer (some ⟨g1, 16, none⟩)) ⟨_, _, rfl, rfl, rfl⟩ rfl rfl (fun ρ w E H => ex_field E rfl fa_palaver_api_Msg_9 rfl rfl) ?_
                        refine SxL.val (v := .agg #[.int .u8 (mc : Int), .string ⟨mt.toArray⟩]) ⟨_, _, rfl, rfl, rfl⟩ rfl rfl (fun ρ w E H => ex_load (part := [.int .u8 (mc : Int), .string ⟨mt.toArray⟩]) E (H.get (i := 1) rfl) rfl rfl Try.underlying43 rfl sz_palaver_api_Reply rfl rfl) ?_
                        refine SxL.val (v := .pointer (some ⟨g2, 16, none⟩)) ⟨_, _, rfl, rfl, rfl⟩ rfl rfl (fun ρ w E H => ex_field E rfl fa_palaver_api_Msg_9 rfl rfl) ?_
                        refine SxL.val (v := .agg #[.int .u8 (xc : Int), .string ⟨xt.toArray⟩]) ⟨_, _, rfl, rfl, rfl⟩ rfl rfl (fun ρ w E H => ex_load (part := [.int .u8 (xc : Int), .string ⟨xt.toArray⟩]) E (H.get (i := 0) rfl) rfl rfl Try.underlying43 rfl sz_palaver_api_Reply rfl rfl) ?_
                        refine SxL.valB ⟨_, _, rfl, rfl, rfl⟩ rfl rfl (fun ρ w E H => ex_aeql E rfl (by kernel_rfl) rfl rfl (fun w => eq_ry mc xc mt xt w)) fun c111 hc111 => ?_
                        refine SxL.val (v := .bool c111) trivial rfl rfl (fun ρ w E H => ex_pick E rfl (t := true) rfl rfl) ?_
                        refine SxL.val (v := .bool c111) trivial rfl rfl (fun ρ w E H => ex_assign E rfl rfl) ?_
                        refine SxL.nil ?_
                        refine SxN.then_ ?_
                        refine SxC.ret ?_
                        refine SxX.done (.bool c111) (fun a w K H => res1 K rfl rfl) (fun w H => ?_)
                        have hq : c111 = decide ((⟨mk, mn, mr, mb, ms, mo, mv, vl, il, ⟨ca, cb, ck, cs, ct, cu, cz⟩, mc, mt⟩ : Ms) = ⟨xk, xn, xr, xb, xs, xo, xv, wl, jl, ⟨da, db, dk, ds, dt, du, dz⟩, xc, xt⟩) := by
                          clear H hrel
                          have e1 : mk = xk ∧ mb = xb ∧ ms = xs ∧ mo = xo ∧ mn = xn ∧ mr = xr ∧ mv = xv := by clear hc104 hc111; grind [cmpB]
                          obtain ⟨rfl, rfl, rfl, rfl, rfl, rfl, rfl⟩ := e1
                          subst hV hI
                          have e2 := of_decide_eq_true hc104
                          injection e2 with f1 f2 f3 f4 f5 f6 f7
                          subst f1 f2 f3 f4 f5 f6 f7
                          rw [← hc111]
                          apply Bool.eq_iff_iff.2
                          simp
                        exact ⟨by rw [hq], H.toBelow ⟨(fun g hg => by rw [List.mem_singleton.1 hg]; exact hg2), (fun g hg => by rw [List.mem_singleton.1 hg]; exact hg1), trivial⟩⟩
        · refine SxC.condT rfl ?_
          refine SxC.skip ?_
          refine SxN.then_ ?_
          refine SxC.seq ?_
          refine SxC.block ?_
          refine SxC.seq ?_
          have hkl : k < il.length := by have h := hc45; simp [cmpB] at h; omega
          have hkl2 : k < jl.length := by omega
          obtain ⟨x, hx⟩ : ∃ x, il[k]? = some x := ⟨_, List.getElem?_eq_getElem hkl⟩
          obtain ⟨y, hy⟩ : ∃ x, jl[k]? = some x := ⟨_, List.getElem?_eq_getElem hkl2⟩
          obtain ⟨a1, rfl, -, -⟩ := hi.row hx
          obtain ⟨a2, rfl, -, -⟩ := hi2.row hy
          refine SxC.drawnK [] [0, 1] (by kernel_rfl) rfl ⟨(fun g hg => by rw [List.mem_singleton.1 hg]; exact .inr hg2), (fun g hg => by rw [List.mem_singleton.1 hg]; exact .inr hg1), trivial⟩ ?_
          refine SxA.take (i := 0) (v := .pointer (some ⟨g1, 8, none⟩)) rfl (by kernel_rfl) (by kernel_rfl) (by kernel_rfl) rfl rfl (fun _ _ _ h => h) trivial (fun ρ w E H => ex_field E rfl fa_palaver_api_Msg_7 rfl rfl) ?_
          refine SxA.take (i := 1) (v := .slice (some a1) il.length kb) rfl (by kernel_rfl) (by kernel_rfl) (by kernel_rfl) rfl rfl (fun _ _ _ h => h) trivial (fun ρ w E H => ex_load1 E (H.get (i := 1) rfl) rfl rfl Try.underlying41 rfl rfl) ?_
          refine SxA.take (i := 2) (v := .int .i64 (k : Int)) rfl (by kernel_rfl) (by kernel_rfl) (by kernel_rfl) rfl rfl (fun _ _ _ h => h) trivial (fun ρ w E H => ex_move E rfl rfl) ?_
          refine SxA.take (i := 3) (v := .pointer (some (a1.add (k * 2)))) rfl (by kernel_rfl) (by kernel_rfl) (by kernel_rfl) rfl rfl (fun _ _ _ h => h) trivial (fun ρ w E H => ex_index (i := k) E rfl Try.underlying41 sz_palaver_api_Item rfl rfl hkl) ?_
          refine SxA.take (i := 4) (v := .agg #[.int .u64 (x.slot : Int), .string ⟨x.value.toArray⟩]) rfl (by kernel_rfl) (by kernel_rfl) (by kernel_rfl) rfl rfl (fun _ _ _ h => h) trivial (fun ρ w E H => ex_loadX (cs := [.int .u64 (x.slot : Int), .string ⟨x.value.toArray⟩]) E ((hi.below (H.os.below (Nat.le_refl _) (by simp))).rowA hx) rfl rfl Try.underlying78 rfl sz_palaver_api_Item) ?_
          refine SxA.take (i := 5) (v := .pointer (some ⟨g2, 8, none⟩)) rfl (by kernel_rfl) (by kernel_rfl) (by kernel_rfl) rfl rfl (fun _ _ _ h => h) trivial (fun ρ w E H => ex_field E rfl fa_palaver_api_Msg_7 rfl rfl) ?_
          refine SxA.take (i := 6) (v := .slice (some a2) jl.length kd) rfl (by kernel_rfl) (by kernel_rfl) (by kernel_rfl) rfl rfl (fun _ _ _ h => h) trivial (fun ρ w E H => ex_load1 E (H.get (i := 0) rfl) rfl rfl Try.underlying41 rfl rfl) ?_
          refine SxA.take (i := 7) (v := .int .i64 (k : Int)) rfl (by kernel_rfl) (by kernel_rfl) (by kernel_rfl) rfl rfl (fun _ _ _ h => h) trivial (fun ρ w E H => ex_move E rfl rfl) ?_
          refine SxA.take (i := 8) (v := .pointer (some (a2.add (k * 2)))) rfl (by kernel_rfl) (by kernel_rfl) (by kernel_rfl) rfl rfl (fun _ _ _ h => h) trivial (fun ρ w E H => ex_index (i := k) E rfl Try.underlying41 sz_palaver_api_Item rfl rfl hkl2) ?_
          refine SxA.take (i := 9) (v := .agg #[.int .u64 (y.slot : Int), .string ⟨y.value.toArray⟩]) rfl (by kernel_rfl) (by kernel_rfl) (by kernel_rfl) rfl rfl (fun _ _ _ h => h) trivial (fun ρ w E H => ex_loadX (cs := [.int .u64 (y.slot : Int), .string ⟨y.value.toArray⟩]) E ((hi2.below (H.os.below (Nat.le_refl _) (by simp))).rowA hy) rfl rfl Try.underlying78 rfl sz_palaver_api_Item) ?_
          refine SxA.takeB (i := 10) rfl (by kernel_rfl) (by kernel_rfl) (by kernel_rfl) rfl rfl (fun _ _ _ h => h) trivial (fun ρ w E H => ex_aneq E rfl (by kernel_rfl) rfl rfl (fun w => by rw [Bool.not_not]; exact eq_im x y w)) fun c58 hc58 => ?_
          refine SxA.done (by kernel_rfl) ?_
          refine SxN.then_ ?_
          cases c58
          · refine SxC.condF rfl ?_
            refine SxC.skip ?_
            refine SxN.block ?_
            refine SxN.then_ ?_
            refine SxC.region ?_
            refine SxL.val (v := .int .i64 (k : Int)) trivial rfl rfl (fun ρ w E H => ex_move E rfl rfl) ?_
            refine SxL.val (v := .int .i64 ((k + 1 : Nat) : Int)) trivial rfl rfl (fun ρ w E H => ex_add E rfl rfl rfl (by rw [IntKind.wrap_i64]; omega)) ?_
            refine SxL.val (v := .int .i64 ((k + 1 : Nat) : Int)) trivial rfl rfl (fun ρ w E H => ex_assign E rfl rfl) ?_
            refine SxL.nil ?_
            refine SxN.back (gk - 1) (k + 1) (by omega) ⟨by omega, by rw [take_snoc hx, take_snoc hy, hrel]; have h24 : x = y := (by simpa using hc58); rw [h24], hle⟩ ⟨rfl, rfl, rfl, trivial⟩ [0, 1] rfl (by decide) ⟨.inl rfl, .inl rfl, trivial⟩
          · refine SxC.condT rfl ?_
            refine SxC.seq ?_
            refine SxC.region ?_
            refine SxL.val (v := .bool false) trivial rfl rfl (fun ρ w E H => ex_assign E rfl rfl) ?_
            refine SxL.nil ?_
            refine SxN.then_ ?_
            refine SxC.ret ?_
            refine SxX.blockR ?_
            refine SxX.thenR ?_
            refine SxX.thenR ?_
            refine SxX.blockR ?_
            refine SxX.thenR ?_
            refine SxX.done (.bool false) (fun a w K H => res1 K rfl rfl) (fun w H => ?_)
            have hq : false = decide ((⟨mk, mn, mr, mb, ms, mo, mv, vl, il, ⟨ca, cb, ck, cs, ct, cu, cz⟩, mc, mt⟩ : Ms) = ⟨xk, xn, xr, xb, xs, xo, xv, wl, jl, ⟨da, db, dk, ds, dt, du, dz⟩, xc, xt⟩) := by clear H; grind [cmpB]
            exact ⟨by rw [hq], H.toBelow ⟨(fun g hg => by rw [List.mem_singleton.1 hg]; exact hg2), (fun g hg => by rw [List.mem_singleton.1 hg]; exact hg1), trivial⟩⟩
      · refine SxC.condT rfl ?_
        refine SxC.skip ?_
        refine SxN.then_ ?_
        refine SxC.seq ?_
        refine SxC.block ?_
        refine SxC.seq ?_
        have hkl : k < vl.length := by have h := hc27; simp [cmpB] at h; omega
        have hkl2 : k < wl.length := by omega
        obtain ⟨x, hx⟩ : ∃ x, vl[k]? = some x := ⟨_, List.getElem?_eq_getElem hkl⟩
        obtain ⟨y, hy⟩ : ∃ x, wl[k]? = some x := ⟨_, List.getElem?_eq_getElem hkl2⟩
        obtain ⟨a1, rfl, -, -⟩ := hv.row hx
        obtain ⟨a2, rfl, -, -⟩ := hv2.row hy
        refine SxC.drawnK [] [0, 1] (by kernel_rfl) rfl ⟨(fun g hg => by rw [List.mem_singleton.1 hg]; exact .inr hg2), (fun g hg => by rw [List.mem_singleton.1 hg]; exact .inr hg1), trivial⟩ ?_
        refine SxA.take (i := 0) (v := .pointer (some ⟨g1, 7, none⟩)) rfl (by kernel_rfl) (by kernel_rfl) (by kernel_rfl) rfl rfl (fun _ _ _ h => h) trivial (fun ρ w E H => ex_field E rfl fa_palaver_api_Msg_6 rfl rfl) ?_
        refine SxA.take (i := 1) (v := .slice (some a1) vl.length ka) rfl (by kernel_rfl) (by kernel_rfl) (by kernel_rfl) rfl rfl (fun _ _ _ h => h) trivial (fun ρ w E H => ex_load1 E (H.get (i := 1) rfl) rfl rfl Try.underlying40 rfl rfl) ?_
        refine SxA.take (i := 2) (v := .int .i64 (k : Int)) rfl (by kernel_rfl) (by kernel_rfl) (by kernel_rfl) rfl rfl (fun _ _ _ h => h) trivial (fun ρ w E H => ex_move E rfl rfl) ?_
        refine SxA.take (i := 3) (v := .pointer (some (a1.add (k * 4)))) rfl (by kernel_rfl) (by kernel_rfl) (by kernel_rfl) rfl rfl (fun _ _ _ h => h) trivial (fun ρ w E H => ex_index (i := k) E rfl Try.underlying40 sz_palaver_api_Vote rfl rfl hkl) ?_
        refine SxA.take (i := 4) (v := .agg #[.int .u64 (x.slot : Int), .int .u64 (x.n : Int), .int .u8 (x.r : Int), .string ⟨x.value.toArray⟩]) rfl (by kernel_rfl) (by kernel_rfl) (by kernel_rfl) rfl rfl (fun _ _ _ h => h) trivial (fun ρ w E H => ex_loadX (cs := [.int .u64 (x.slot : Int), .int .u64 (x.n : Int), .int .u8 (x.r : Int), .string ⟨x.value.toArray⟩]) E ((hv.below (H.os.below (Nat.le_refl _) (by simp))).rowA hx) rfl rfl Try.underlying76 rfl sz_palaver_api_Vote) ?_
        refine SxA.take (i := 5) (v := .pointer (some ⟨g2, 7, none⟩)) rfl (by kernel_rfl) (by kernel_rfl) (by kernel_rfl) rfl rfl (fun _ _ _ h => h) trivial (fun ρ w E H => ex_field E rfl fa_palaver_api_Msg_6 rfl rfl) ?_
        refine SxA.take (i := 6) (v := .slice (some a2) wl.length kc) rfl (by kernel_rfl) (by kernel_rfl) (by kernel_rfl) rfl rfl (fun _ _ _ h => h) trivial (fun ρ w E H => ex_load1 E (H.get (i := 0) rfl) rfl rfl Try.underlying40 rfl rfl) ?_
        refine SxA.take (i := 7) (v := .int .i64 (k : Int)) rfl (by kernel_rfl) (by kernel_rfl) (by kernel_rfl) rfl rfl (fun _ _ _ h => h) trivial (fun ρ w E H => ex_move E rfl rfl) ?_
        refine SxA.take (i := 8) (v := .pointer (some (a2.add (k * 4)))) rfl (by kernel_rfl) (by kernel_rfl) (by kernel_rfl) rfl rfl (fun _ _ _ h => h) trivial (fun ρ w E H => ex_index (i := k) E rfl Try.underlying40 sz_palaver_api_Vote rfl rfl hkl2) ?_
        refine SxA.take (i := 9) (v := .agg #[.int .u64 (y.slot : Int), .int .u64 (y.n : Int), .int .u8 (y.r : Int), .string ⟨y.value.toArray⟩]) rfl (by kernel_rfl) (by kernel_rfl) (by kernel_rfl) rfl rfl (fun _ _ _ h => h) trivial (fun ρ w E H => ex_loadX (cs := [.int .u64 (y.slot : Int), .int .u64 (y.n : Int), .int .u8 (y.r : Int), .string ⟨y.value.toArray⟩]) E ((hv2.below (H.os.below (Nat.le_refl _) (by simp))).rowA hy) rfl rfl Try.underlying76 rfl sz_palaver_api_Vote) ?_
        refine SxA.takeB (i := 10) rfl (by kernel_rfl) (by kernel_rfl) (by kernel_rfl) rfl rfl (fun _ _ _ h => h) trivial (fun ρ w E H => ex_aneq E rfl (by kernel_rfl) rfl rfl (fun w => by rw [Bool.not_not]; exact eq_vo x y w)) fun c40 hc40 => ?_
        refine SxA.done (by kernel_rfl) ?_
        refine SxN.then_ ?_
        cases c40
        · refine SxC.condF rfl ?_
          refine SxC.skip ?_
          refine SxN.block ?_
          refine SxN.then_ ?_
          refine SxC.region ?_
          refine SxL.val (v := .int .i64 (k : Int)) trivial rfl rfl (fun ρ w E H => ex_move E rfl rfl) ?_
          refine SxL.val (v := .int .i64 ((k + 1 : Nat) : Int)) trivial rfl rfl (fun ρ w E H => ex_add E rfl rfl rfl (by rw [IntKind.wrap_i64]; omega)) ?_
          refine SxL.val (v := .int .i64 ((k + 1 : Nat) : Int)) trivial rfl rfl (fun ρ w E H => ex_assign E rfl rfl) ?_
          refine SxL.nil ?_
          refine SxN.back (gk - 1) (k + 1) (by omega) ⟨by omega, by rw [take_snoc hx, take_snoc hy, hrel]; have h24 : x = y := (by simpa using hc40); rw [h24], hle⟩ ⟨rfl, rfl, rfl, trivial⟩ [0, 1] rfl (by decide) ⟨.inl rfl, .inl rfl, trivial⟩
        · refine SxC.condT rfl ?_
          refine SxC.seq ?_
          refine SxC.region ?_
          refine SxL.val (v := .bool false) trivial rfl rfl (fun ρ w E H => ex_assign E rfl rfl) ?_
          refine SxL.nil ?_
          refine SxN.then_ ?_
          refine SxC.ret ?_
          refine SxX.blockR ?_
          refine SxX.thenR ?_
          refine SxX.thenR ?_
          refine SxX.blockR ?_
          refine SxX.thenR ?_
          refine SxX.done (.bool false) (fun a w K H => res1 K rfl rfl) (fun w H => ?_)
          have hq : false = decide ((⟨mk, mn, mr, mb, ms, mo, mv, vl, il, ⟨ca, cb, ck, cs, ct, cu, cz⟩, mc, mt⟩ : Ms) = ⟨xk, xn, xr, xb, xs, xo, xv, wl, jl, ⟨da, db, dk, ds, dt, du, dz⟩, xc, xt⟩) := by clear H; grind [cmpB]
          exact ⟨by rw [hq], H.toBelow ⟨(fun g hg => by rw [List.mem_singleton.1 hg]; exact hg2), (fun g hg => by rw [List.mem_singleton.1 hg]; exact hg1), trivial⟩⟩
    · refine SxC.condT rfl ?_
      refine SxC.seq ?_
      refine SxC.region ?_
      refine SxL.val (v := .bool false) trivial rfl rfl (fun ρ w E H => ex_assign E rfl rfl) ?_
      refine SxL.nil ?_
      refine SxN.then_ ?_
      refine SxC.ret ?_
      refine SxX.thenR ?_
      refine SxX.done (.bool false) (fun a w K H => res1 K rfl rfl) (fun w H => ?_)
      have hq : false = decide ((⟨mk, mn, mr, mb, ms, mo, mv, vl, il, ⟨ca, cb, ck, cs, ct, cu, cz⟩, mc, mt⟩ : Ms) = ⟨xk, xn, xr, xb, xs, xo, xv, wl, jl, ⟨da, db, dk, ds, dt, du, dz⟩, xc, xt⟩) := by clear H; grind [cmpB]
      exact ⟨by rw [hq], H.toBelow ⟨(fun g hg => by rw [List.mem_singleton.1 hg]; exact hg2), (fun g hg => by rw [List.mem_singleton.1 hg]; exact hg1), trivial⟩⟩
  · refine SxL.off ⟨_, _, _, rfl, rfl, rfl, nofun⟩ rfl rfl ?_
    refine SxL.off ⟨_, _, _, rfl, rfl, rfl, nofun⟩ rfl rfl ?_
    refine SxL.off ⟨_, _, _, rfl, rfl, rfl, nofun⟩ rfl rfl ?_
    refine SxL.off ⟨_, _, _, rfl, rfl, rfl, nofun⟩ rfl rfl ?_
    refine SxL.off ⟨_, _, _, rfl, rfl, rfl, nofun⟩ rfl rfl ?_
    refine SxL.off ⟨_, _, _, rfl, rfl, rfl, nofun⟩ rfl rfl ?_
    refine SxL.off ⟨_, _, _, rfl, rfl, rfl, nofun⟩ rfl rfl ?_
    refine SxL.val (v := .bool true) trivial rfl rfl (fun ρ w E H => ex_pick E rfl (t := true) rfl rfl) ?_
    refine SxL.nil ?_
    refine SxN.then_ ?_
    refine SxC.condT rfl ?_
    refine SxC.seq ?_
    refine SxC.region ?_
    refine SxL.val (v := .bool false) trivial rfl rfl (fun ρ w E H => ex_assign E rfl rfl) ?_
    refine SxL.nil ?_
    refine SxN.then_ ?_
    refine SxC.ret ?_
    refine SxX.thenR ?_
    refine SxX.done (.bool false) (fun a w K H => res1 K rfl rfl) (fun w H => ?_)
    have hq : false = decide ((⟨mk, mn, mr, mb, ms, mo, mv, vl, il, ⟨ca, cb, ck, cs, ct, cu, cz⟩, mc, mt⟩ : Ms) = ⟨xk, xn, xr, xb, xs, xo, xv, wl, jl, ⟨da, db, dk, ds, dt, du, dz⟩, xc, xt⟩) := by clear H; grind [cmpB]
    exact ⟨by rw [hq], H.toBelow ⟨(fun g hg => by rw [List.mem_singleton.1 hg]; exact hg2), (fun g hg => by rw [List.mem_singleton.1 hg]; exact hg1), trivial⟩⟩

theorem rsame_any (m x : Ms) (A B C D : Option Addr) (ka kb kc kd : Nat) (w : World) (h1 : MsRows w m A B) (h2 : MsRows w x C D) (hl1 : m.votes.length ≤ 1000000) (hl2 : m.items.length ≤ 1000000) :
    Calls Try.prog 26 #[msV m A ka B kb, msV x C kc D kd] w fun e w' => e = .returned (.bool (decide (m = x))) ∧ Below w.heap.size w w' := by
  obtain ⟨mk, mn, mr, mb, ms, mo, mv, vl, il, ⟨ca, cb, ck, cs, ct, cu, cz⟩, mc, mt⟩ := m
  obtain ⟨xk, xn, xr, xb, xs, xo, xv, wl, jl, ⟨da, db, dk, ds, dt, du, dz⟩, xc, xt⟩ := x
  exact rsame_lit _ _ _ _ _ _ _ _ _ _ _ _ _ _ _ _ _ _ _ _ _ _ _ _ _ _ _ _ _ _ _ _ _ _ _ _ _ _ _ _ _ _ _ _ w h1.hv h1.hi h2.hv h2.hi hl1 hl2
end Go.Proofs.Yteiaiilfekojfaa.Msg
end
section
set_option linter.unusedVariables false
set_option linter.unusedSimpArgs false
namespace Go.Proofs.Yteiaiilfekojfaa.Msg
open Go.RowKit Sx Wire DrawInv
set_option maxRecDepth 100000 in
set_option maxHeartbeats 4000000 in
theorem back_lit (mk mn mr mb ms mo ca cb ck cz mc : Nat) (mv cs ct cu mt : List UInt8) (vl : List Vo) (il : List Im)(xk xn xr xb xs xo da db dk dz xc : Nat) (xv ds dt du xt : List UInt8) (wl : List Vo) (jl : List Im) (s : List UInt8) (A B : Option Addr) (ka kb : Nat) (C D : Option Addr) (kc kd : Nat) (w : World) (hf : Ms.Fits ⟨mk, mn, mr, mb, ms, mo, mv, vl, il, ⟨ca, cb, ck, cs, ct, cu, cz⟩, mc, mt⟩) (hr : MsRows w ⟨mk, mn, mr, mb, ms, mo, mv, vl, il, ⟨ca, cb, ck, cs, ct, cu, cz⟩, mc, mt⟩ A B) (hn1 : vl.length ≤ 9223372036854775807) (hn2 : il.length ≤ 9223372036854775807) (hf2 : Ms.Fits ⟨xk, xn, xr, xb, xs, xo, xv, wl, jl, ⟨da, db, dk, ds, dt, du, dz⟩, xc, xt⟩) (hr2 : MsRows w ⟨xk, xn, xr, xb, xs, xo, xv, wl, jl, ⟨da, db, dk, ds, dt, du, dz⟩, xc, xt⟩ C D) (hn3 : wl.length ≤ 9223372036854775807) (hn4 : jl.length ≤ 9223372036854775807) : Calls Try.prog 5 #[.agg #[.int .u8 (mk : Int), .int .u64 (mn : Int), .int .u8 (mr : Int), .int .u64 (mb : Int), .int .u64 (ms : Int), .int .u8 (mo : Int), .string ⟨mv.toArray⟩, .slice A vl.length ka, .slice B il.length kb, .int .u8 (ca : Int), .int .u32 (cb : Int), .int .u8 (ck : Int), .string ⟨cs.toArray⟩, .string ⟨ct.toArray⟩, .string ⟨cu.toArray⟩, .int .u8 (cz : Int), .int .u8 (mc : Int), .string ⟨mt.toArray⟩], .agg #[.int .u8 (xk : Int), .int .u64 (xn : Int), .int .u8 (xr : Int), .int .u64 (xb : Int), .int .u64 (xs : Int), .int .u8 (xo : Int), .string ⟨xv.toArray⟩, .slice C wl.length kc, .slice D jl.length kd, .int .u8 (da : Int), .int .u32 (db : Int), .int .u8 (dk : Int), .string ⟨ds.toArray⟩, .string ⟨dt.toArray⟩, .string ⟨du.toArray⟩, .int .u8 (dz : Int), .int .u8 (xc : Int), .string ⟨xt.toArray⟩], .string ⟨s.toArray⟩] w fun e w' => e = .returned (.bool true) ∧ Below w.heap.size w w' := by
  obtain ⟨⟨sp, ep⟩, hpm⟩ : ∃ x, putM ⟨mk, mn, mr, mb, ms, mo, mv, vl, il, ⟨ca, cb, ck, cs, ct, cu, cz⟩, mc, mt⟩ = x := ⟨_, rfl⟩
  obtain ⟨⟨sq, eq⟩, hpq⟩ : ∃ x, putM ⟨xk, xn, xr, xb, xs, xo, xv, wl, jl, ⟨da, db, dk, ds, dt, du, dz⟩, xc, xt⟩ = x := ⟨_, rfl⟩
  refine sx_enter (n := 131) [.agg #[.int .u8 (mk : Int), .int .u64 (mn : Int), .int .u8 (mr : Int), .int .u64 (mb : Int), .int .u64 (ms : Int), .int .u8 (mo : Int), .string ⟨mv.toArray⟩, .slice A vl.length ka, .slice B il.length kb, .int .u8 (ca : Int), .int .u32 (cb : Int), .int .u8 (ck : Int), .string ⟨cs.toArray⟩, .string ⟨ct.toArray⟩, .string ⟨cu.toArray⟩, .int .u8 (cz : Int), .int .u8 (mc : Int), .string ⟨mt.toArray⟩], .agg #[.int .u8 (xk : Int), .int .u64 (xn : Int), .int .u8 (xr : Int), .int .u64 (xb : Int), .int .u64 (xs : Int), .int .u8 (xo : Int), .string ⟨xv.toArray⟩, .slice C wl.length kc, .slice D jl.length kd, .int .u8 (da : Int), .int .u32 (db : Int), .int .u8 (dk : Int), .string ⟨ds.toArray⟩, .string ⟨dt.toArray⟩, .string ⟨du.toArray⟩, .int .u8 (dz : Int), .int .u8 (xc : Int), .string ⟨xt.toArray⟩], .string ⟨s.toArray⟩] Try.func5 rfl rfl rfl (Hp.start w) ?_
  refine SxC.seq ?_
  refine SxC.region ?_
  refine SxL.new (cs := [.int .u8 (mk : Int), .int .u64 (mn : Int), .int .u8 (mr : Int), .int .u64 (mb : Int), .int .u64 (ms : Int), .int .u8 (mo : Int), .string ⟨mv.toArray⟩, .slice A vl.length ka, .slice B il.length kb, .int .u8 (ca : Int), .int .u32 (cb : Int), .int .u8 (ck : Int), .string ⟨cs.toArray⟩, .string ⟨ct.toArray⟩, .string ⟨cu.toArray⟩, .int .u8 (cz : Int), .int .u8 (mc : Int), .string ⟨mt.toArray⟩]) trivial rfl rfl (fun ρ w E H => ex_box E rfl rfl rfl) fun g1 hg1 => ?_
  refine SxL.new (cs := [.int .u8 (xk : Int), .int .u64 (xn : Int), .int .u8 (xr : Int), .int .u64 (xb : Int), .int .u64 (xs : Int), .int .u8 (xo : Int), .string ⟨xv.toArray⟩, .slice C wl.length kc, .slice D jl.length kd, .int .u8 (da : Int), .int .u32 (db : Int), .int .u8 (dk : Int), .string ⟨ds.toArray⟩, .string ⟨dt.toArray⟩, .string ⟨du.toArray⟩, .int .u8 (dz : Int), .int .u8 (xc : Int), .string ⟨xt.toArray⟩]) trivial rfl rfl (fun ρ w E H => ex_box E rfl rfl rfl) fun g2 hg2 => ?_
  refine SxL.val (v := .bool false) trivial rfl rfl (fun ρ w E H => ex_assign E rfl rfl) ?_
  refine SxL.nil ?_
  refine SxN.then_ ?_
  refine SxC.seq ?_
  refine SxC.seq ?_
  refine SxC.region ?_
  refine SxL.val (v := .agg #[.int .u8 (mk : Int), .int .u64 (mn : Int), .int .u8 (mr : Int), .int .u64 (mb : Int), .int .u64 (ms : Int), .int .u8 (mo : Int), .string ⟨mv.toArray⟩, .slice A vl.length ka, .slice B il.length kb, .int .u8 (ca : Int), .int .u32 (cb : Int), .int .u8 (ck : Int), .string ⟨cs.toArray⟩, .string ⟨ct.toArray⟩, .string ⟨cu.toArray⟩, .int .u8 (cz : Int), .int .u8 (mc : Int), .string ⟨mt.toArray⟩]) trivial rfl rfl (fun ρ w E H => ex_load (part := [.int .u8 (mk : Int), .int .u64 (mn : Int), .int .u8 (mr : Int), .int .u64 (mb : Int), .int .u64 (ms : Int), .int .u8 (mo : Int), .string ⟨mv.toArray⟩, .slice A vl.length ka, .slice B il.length kb, .int .u8 (ca : Int), .int .u32 (cb : Int), .int .u8 (ck : Int), .string ⟨cs.toArray⟩, .string ⟨ct.toArray⟩, .string ⟨cu.toArray⟩, .int .u8 (cz : Int), .int .u8 (mc : Int), .string ⟨mt.toArray⟩]) E (H.get (i := 1) rfl) rfl rfl Try.underlying45 rfl sz_palaver_api_Msg rfl rfl) ?_
  refine SxL.call (σ := Bool) (fun b => .bool b) (fun b => b = false → Ms.Lim ⟨mk, mn, mr, mb, ms, mo, mv, vl, il, ⟨ca, cb, ck, cs, ct, cu, cz⟩, mc, mt⟩) (fun _ => _) trivial rfl rfl (fun ρ w E => ex_call E en_palaver_palaverlaw18_Great rfl rfl) (fun w H => (great_any ⟨mk, mn, mr, mb, ms, mo, mv, vl, il, ⟨ca, cb, ck, cs, ct, cu, cz⟩, mc, mt⟩ A B ka kb w (hr.below (H.toBelow ⟨(fun g hg => by rw [List.mem_singleton.1 hg]; exact hg2), (fun g hg => by rw [List.mem_singleton.1 hg]; exact hg1), trivial⟩)) hn1 hn2).mono fun _ _ ⟨b, h1, h2, h3⟩ => ⟨b, h1, h2, H.below h3⟩) fun c22 hlim22 => ?_
  refine SxL.val (v := .bool c22) trivial rfl rfl (fun ρ w E H => ex_move E rfl rfl) ?_
  cases c22
  · refine SxL.val (v := .agg #[.int .u8 (xk : Int), .int .u64 (xn : Int), .int .u8 (xr : Int), .int .u64 (xb : Int), .int .u64 (xs : Int), .int .u8 (xo : Int), .string ⟨xv.toArray⟩, .slice C wl.length kc, .slice D jl.length kd, .int .u8 (da : Int), .int .u32 (db : Int), .int .u8 (dk : Int), .string ⟨ds.toArray⟩, .string ⟨dt.toArray⟩, .string ⟨du.toArray⟩, .int .u8 (dz : Int), .int .u8 (xc : Int), .string ⟨xt.toArray⟩]) ⟨_, _, rfl, rfl, rfl⟩ rfl rfl (fun ρ w E H => ex_load (part := [.int .u8 (xk : Int), .int .u64 (xn : Int), .int .u8 (xr : Int), .int .u64 (xb : Int), .int .u64 (xs : Int), .int .u8 (xo : Int), .string ⟨xv.toArray⟩, .slice C wl.length kc, .slice D jl.length kd, .int .u8 (da : Int), .int .u32 (db : Int), .int .u8 (dk : Int), .string ⟨ds.toArray⟩, .string ⟨dt.toArray⟩, .string ⟨du.toArray⟩, .int .u8 (dz : Int), .int .u8 (xc : Int), .string ⟨xt.toArray⟩]) E (H.get (i := 0) rfl) rfl rfl Try.underlying45 rfl sz_palaver_api_Msg rfl rfl) ?_
    refine SxL.call (σ := Bool) (fun b => .bool b) (fun b => b = false → Ms.Lim ⟨xk, xn, xr, xb, xs, xo, xv, wl, jl, ⟨da, db, dk, ds, dt, du, dz⟩, xc, xt⟩) (fun _ => _) ⟨_, _, rfl, rfl, rfl⟩ rfl rfl (fun ρ w E => ex_call E en_palaver_palaverlaw18_Great rfl rfl) (fun w H => (great_any ⟨xk, xn, xr, xb, xs, xo, xv, wl, jl, ⟨da, db, dk, ds, dt, du, dz⟩, xc, xt⟩ C D kc kd w (hr2.below (H.toBelow ⟨(fun g hg => by rw [List.mem_singleton.1 hg]; exact hg2), (fun g hg => by rw [List.mem_singleton.1 hg]; exact hg1), trivial⟩)) hn3 hn4).mono fun _ _ ⟨b, h1, h2, h3⟩ => ⟨b, h1, h2, H.below h3⟩) fun c25 hlim25 => ?_
    refine SxL.val (v := .bool c25) trivial rfl rfl (fun ρ w E H => ex_pick E rfl (t := false) rfl rfl) ?_
    refine SxL.val (v := .bool c25) trivial rfl rfl (fun ρ w E H => ex_move E rfl rfl) ?_
    cases c25
    · refine SxL.val (v := .string ⟨s.toArray⟩) ⟨_, _, rfl, rfl, rfl⟩ rfl rfl (fun ρ w E H => ex_move E rfl rfl) ?_
      refine SxL.val (v := .int .i64 (s.length : Int)) ⟨_, _, rfl, rfl, rfl⟩ rfl rfl (fun ρ w E H => ex_lenT E rfl Try.underlying9 rfl) ?_
      refine SxL.valB ⟨_, _, rfl, rfl, rfl⟩ rfl rfl (fun ρ w E H => ex_cmp E rfl rfl rfl rfl rfl) fun c30 hc30 => ?_
      refine SxL.val (v := .bool c30) trivial rfl rfl (fun ρ w E H => ex_pick E rfl (t := false) rfl rfl) ?_
      refine SxL.nil ?_
      refine SxN.then_ ?_
      cases c30
      · refine SxC.condF rfl ?_
        refine SxC.skip ?_
        refine SxN.then_ ?_
        refine SxC.seq ?_
        refine SxC.region ?_
        refine SxL.val (v := .agg #[.int .u8 (mk : Int), .int .u64 (mn : Int), .int .u8 (mr : Int), .int .u64 (mb : Int), .int .u64 (ms : Int), .int .u8 (mo : Int), .string ⟨mv.toArray⟩, .slice A vl.length ka, .slice B il.length kb, .int .u8 (ca : Int), .int .u32 (cb : Int), .int .u8 (ck : Int), .string ⟨cs.toArray⟩, .string ⟨ct.toArray⟩, .string ⟨cu.toArray⟩, .int .u8 (cz : Int), .int .u8 (mc : Int), .string ⟨mt.toArray⟩]) trivial rfl rfl (fun ρ w E H => ex_load (part := [.int .u8 (mk : Int), .int .u64 (mn : Int), .int .u8 (mr : Int), .int .u64 (mb : Int), .int .u64 (ms : Int), .int .u8 (mo : Int), .string ⟨mv.toArray⟩, .slice A vl.length ka, .slice B il.length kb, .int .u8 (ca : Int), .int .u32 (cb : Int), .int .u8 (ck : Int), .string ⟨cs.toArray⟩, .string ⟨ct.toArray⟩, .string ⟨cu.toArray⟩, .int .u8 (cz : Int), .int .u8 (mc : Int), .string ⟨mt.toArray⟩]) E (H.get (i := 1) rfl) rfl rfl Try.underlying45 rfl sz_palaver_api_Msg rfl rfl) ?_
        refine SxL.callB (v := .tuple #[.string ⟨sp.toArray⟩, .int .i64 (ep : Int)]) trivial rfl rfl (fun ρ w E => ex_call E en_palaver_msg_Put rfl rfl) (fun w H => (put_any ⟨mk, mn, mr, mb, ms, mo, mv, vl, il, ⟨ca, cb, ck, cs, ct, cu, cz⟩, mc, mt⟩ A B ka kb w hf ((hlim22 rfl).small hf) (hr.below (H.toBelow ⟨(fun g hg => by rw [List.mem_singleton.1 hg]; exact hg2), (fun g hg => by rw [List.mem_singleton.1 hg]; exact hg1), trivial⟩))).mono fun _ _ h => ⟨by rw [h.1, hpm], h.2⟩) ?_
        refine SxL.val (v := .tuple #[.string ⟨sp.toArray⟩, .int .i64 (ep : Int)]) trivial rfl rfl (fun ρ w E H => ex_move E rfl rfl) ?_
        refine SxL.val (v := .string ⟨sp.toArray⟩) trivial rfl rfl (fun ρ w E H => ex_extract E rfl rfl rfl) ?_
        refine SxL.val (v := .int .i64 (ep : Int)) trivial rfl rfl (fun ρ w E H => ex_extract E rfl rfl rfl) ?_
        refine SxL.val (v := .string ⟨sp.toArray⟩) trivial rfl rfl (fun ρ w E H => ex_assign E rfl rfl) ?_
        refine SxL.val (v := .int .i64 (ep : Int)) trivial rfl rfl (fun ρ w E H => ex_assign E rfl rfl) ?_
        refine SxL.nil ?_
        refine SxN.then_ ?_
        refine SxC.seq ?_
        refine SxC.region ?_
        refine SxL.val (v := .agg #[.int .u8 (xk : Int), .int .u64 (xn : Int), .int .u8 (xr : Int), .int .u64 (xb : Int), .int .u64 (xs : Int), .int .u8 (xo : Int), .string ⟨xv.toArray⟩, .slice C wl.length kc, .slice D jl.length kd, .int .u8 (da : Int), .int .u32 (db : Int), .int .u8 (dk : Int), .string ⟨ds.toArray⟩, .string ⟨dt.toArray⟩, .string ⟨du.toArray⟩, .int .u8 (dz : Int), .int .u8 (xc : Int), .string ⟨xt.toArray⟩]) trivial rfl rfl (fun ρ w E H => ex_load (part := [.int .u8 (xk : Int), .int .u64 (xn : Int), .int .u8 (xr : Int), .int .u64 (xb : Int), .int .u64 (xs : Int), .int .u8 (xo : Int), .string ⟨xv.toArray⟩, .slice C wl.length kc, .slice D jl.length kd, .int .u8 (da : Int), .int .u32 (db : Int), .int .u8 (dk : Int), .string ⟨ds.toArray⟩, .string ⟨dt.toArray⟩, .string ⟨du.toArray⟩, .int .u8 (dz : Int), .int .u8 (xc : Int), .string ⟨xt.toArray⟩]) E (H.get (i := 0) rfl) rfl rfl Try.underlying45 rfl sz_palaver_api_Msg rfl rfl) ?_
        refine SxL.callB (v := .tuple #[.string ⟨sq.toArray⟩, .int .i64 (eq : Int)]) trivial rfl rfl (fun ρ w E => ex_call E en_palaver_msg_Put rfl rfl) (fun w H => (put_any ⟨xk, xn, xr, xb, xs, xo, xv, wl, jl, ⟨da, db, dk, ds, dt, du, dz⟩, xc, xt⟩ C D kc kd w hf2 ((hlim25 rfl).small hf2) (hr2.below (H.toBelow ⟨(fun g hg => by rw [List.mem_singleton.1 hg]; exact hg2), (fun g hg => by rw [List.mem_singleton.1 hg]; exact hg1), trivial⟩))).mono fun _ _ h => ⟨by rw [h.1, hpq], h.2⟩) ?_
        refine SxL.val (v := .tuple #[.string ⟨sq.toArray⟩, .int .i64 (eq : Int)]) trivial rfl rfl (fun ρ w E H => ex_move E rfl rfl) ?_
        refine SxL.val (v := .string ⟨sq.toArray⟩) trivial rfl rfl (fun ρ w E H => ex_extract E rfl rfl rfl) ?_
        refine SxL.val (v := .int .i64 (eq : Int)) trivial rfl rfl (fun ρ w E H => ex_extract E rfl rfl rfl) ?_
        refine SxL.val (v := .string ⟨sq.toArray⟩) trivial rfl rfl (fun ρ w E H => ex_assign E rfl rfl) ?_
        refine SxL.val (v := .int .i64 (eq : Int)) trivial rfl rfl (fun ρ w E H => ex_assign E rfl rfl) ?_
        refine SxL.nil ?_
        refine SxN.then_ ?_
        refine SxC.seq ?_
        refine SxC.cut1 (fun (_ : Unit) => [(2, .string ⟨s.toArray⟩), (3, .pointer (some ⟨g1, 0, none⟩)), (7, .string ⟨sp.toArray⟩), (8, .int .i64 (ep : Int))]) (fun _ => [cell g2 45 [.int .u8 (xk : Int), .int .u64 (xn : Int), .int .u8 (xr : Int), .int .u64 (xb : Int), .int .u64 (xs : Int), .int .u8 (xo : Int), .string ⟨xv.toArray⟩, .slice C wl.length kc, .slice D jl.length kd, .int .u8 (da : Int), .int .u32 (db : Int), .int .u8 (dk : Int), .string ⟨ds.toArray⟩, .string ⟨dt.toArray⟩, .string ⟨du.toArray⟩, .int .u8 (dz : Int), .int .u8 (xc : Int), .string ⟨xt.toArray⟩], cell g1 45 [.int .u8 (mk : Int), .int .u64 (mn : Int), .int .u8 (mr : Int), .int .u64 (mb : Int), .int .u64 (ms : Int), .int .u8 (mo : Int), .string ⟨mv.toArray⟩, .slice A vl.length ka, .slice B il.length kb, .int .u8 (ca : Int), .int .u32 (cb : Int), .int .u8 (ck : Int), .string ⟨cs.toArray⟩, .string ⟨ct.toArray⟩, .string ⟨cu.toArray⟩, .int .u8 (cz : Int), .int .u8 (mc : Int), .string ⟨mt.toArray⟩]]) (fun _ => True) ?_ fun _ _ => ?_
        · refine SxC.seq ?_
          have hsm : ep = 0 → eq = 0 → decide ((⟨mk, mn, mr, mb, ms, mo, mv, vl, il, ⟨ca, cb, ck, cs, ct, cu, cz⟩, mc, mt⟩ : Ms) = ⟨xk, xn, xr, xb, xs, xo, xv, wl, jl, ⟨da, db, dk, ds, dt, du, dz⟩, xc, xt⟩) = decide (sp = sq) := fun h1 h2 => by have h := put_inj hf hf2 (hlim22 rfl).short (hlim25 rfl).short (by rw [hpm]; exact h1) (by rw [hpq]; exact h2); rw [hpm, hpq] at h; exact decide_eq_decide.2 h.symm
          refine SxC.region ?_
          refine SxL.val (v := .int .i64 (ep : Int)) trivial rfl rfl (fun ρ w E H => ex_move E rfl rfl) ?_
          refine SxL.valB trivial rfl rfl (fun ρ w E H => ex_cmp E rfl rfl rfl rfl rfl) fun c44 hc44 => ?_
          refine SxL.val (v := .bool c44) trivial rfl rfl (fun ρ w E H => ex_move E rfl rfl) ?_
          cases c44
          · refine SxL.off ⟨_, _, _, rfl, rfl, rfl, nofun⟩ rfl rfl ?_
            refine SxL.off ⟨_, _, _, rfl, rfl, rfl, nofun⟩ rfl rfl ?_
            refine SxL.val (v := .bool false) trivial rfl rfl (fun ρ w E H => ex_pick E rfl (t := false) rfl rfl) ?_
            refine SxL.val (v := .bool false) trivial rfl rfl (fun ρ w E H => ex_move E rfl rfl) ?_
            refine SxL.off ⟨_, _, _, rfl, rfl, rfl, nofun⟩ rfl rfl ?_
            refine SxL.off ⟨_, _, _, rfl, rfl, rfl, nofun⟩ rfl rfl ?_
            refine SxL.off ⟨_, _, _, rfl, rfl, rfl, nofun⟩ rfl rfl ?_
            refine SxL.off ⟨_, _, _, rfl, rfl, rfl, nofun⟩ rfl rfl ?_
            refine SxL.off ⟨_, _, _, rfl, rfl, rfl, nofun⟩ rfl rfl ?_
            refine SxL.off ⟨_, _, _, rfl, rfl, rfl, nofun⟩ rfl rfl ?_
            refine SxL.off ⟨_, _, _, rfl, rfl, rfl, nofun⟩ rfl rfl ?_
            refine SxL.val (v := .bool false) trivial rfl rfl (fun ρ w E H => ex_pick E rfl (t := false) rfl rfl) ?_
            refine SxL.nil ?_
            refine SxN.then_ ?_
            refine SxC.condF rfl ?_
            refine SxC.skip ?_
            refine SxN.meet () True.intro ⟨rfl, rfl, rfl, rfl, trivial⟩ [0, 1] rfl (by decide) ⟨.inl rfl, .inl rfl, trivial⟩
          · refine SxL.val (v := .int .i64 (eq : Int)) ⟨_, _, rfl, rfl, rfl⟩ rfl rfl (fun ρ w E H => ex_move E rfl rfl) ?_
            refine SxL.valB ⟨_, _, rfl, rfl, rfl⟩ rfl rfl (fun ρ w E H => ex_cmp E rfl rfl rfl rfl rfl) fun c47 hc47 => ?_
            refine SxL.val (v := .bool c47) trivial rfl rfl (fun ρ w E H => ex_pick E rfl (t := true) rfl rfl) ?_
            refine SxL.val (v := .bool c47) trivial rfl rfl (fun ρ w E H => ex_move E rfl rfl) ?_
            cases c47
            · refine SxL.off ⟨_, _, _, rfl, rfl, rfl, nofun⟩ rfl rfl ?_
              refine SxL.off ⟨_, _, _, rfl, rfl, rfl, nofun⟩ rfl rfl ?_
              refine SxL.off ⟨_, _, _, rfl, rfl, rfl, nofun⟩ rfl rfl ?_
              refine SxL.off ⟨_, _, _, rfl, rfl, rfl, nofun⟩ rfl rfl ?_
              refine SxL.off ⟨_, _, _, rfl, rfl, rfl, nofun⟩ rfl rfl ?_
              refine SxL.off ⟨_, _, _, rfl, rfl, rfl, nofun⟩ rfl rfl ?_
              refine SxL.off ⟨_, _, _, rfl, rfl, rfl, nofun⟩ rfl rfl ?_
              refine SxL.val (v := .bool false) trivial rfl rfl (fun ρ w E H => ex_pick E rfl (t := false) rfl rfl) ?_
              refine SxL.nil ?_
              refine SxN.then_ ?_
              refine SxC.condF rfl ?_
              refine SxC.skip ?_
              refine SxN.meet () True.intro ⟨rfl, rfl, rfl, rfl, trivial⟩ [0, 1] rfl (by decide) ⟨.inl rfl, .inl rfl, trivial⟩
            · refine SxL.val (v := .string ⟨sp.toArray⟩) ⟨_, _, rfl, rfl, rfl⟩ rfl rfl (fun ρ w E H => ex_move E rfl rfl) ?_
              refine SxL.val (v := .string ⟨sq.toArray⟩) ⟨_, _, rfl, rfl, rfl⟩ rfl rfl (fun ρ w E H => ex_move E rfl rfl) ?_
              refine SxL.valB ⟨_, _, rfl, rfl, rfl⟩ rfl rfl (fun ρ w E H => ex_seql E rfl rfl rfl rfl) fun c52 hc52 => ?_
              refine SxL.val (v := .agg #[.int .u8 (mk : Int), .int .u64 (mn : Int), .int .u8 (mr : Int), .int .u64 (mb : Int), .int .u64 (ms : Int), .int .u8 (mo : Int), .string ⟨mv.toArray⟩, .slice A vl.length ka, .slice B il.length kb, .int .u8 (ca : Int), .int .u32 (cb : Int), .int .u8 (ck : Int), .string ⟨cs.toArray⟩, .string ⟨ct.toArray⟩, .string ⟨cu.toArray⟩, .int .u8 (cz : Int), .int .u8 (mc : Int), .string ⟨mt.toArray⟩]) ⟨_, _, rfl, rfl, rfl⟩ rfl rfl (fun ρ w E H => ex_load (part := [.int .u8 (mk : Int), .int .u64 (mn : Int), .int .u8 (mr : Int), .int .u64 (mb : Int), .int .u64 (ms : Int), .int .u8 (mo : Int), .string ⟨mv.toArray⟩, .slice A vl.length ka, .slice B il.length kb, .int .u8 (ca : Int), .int .u32 (cb : Int), .int .u8 (ck : Int), .string ⟨cs.toArray⟩, .string ⟨ct.toArray⟩, .string ⟨cu.toArray⟩, .int .u8 (cz : Int), .int .u8 (mc : Int), .string ⟨mt.toArray⟩]) E (H.get (i := 1) rfl) rfl rfl Try.underlying45 rfl sz_palaver_api_Msg rfl rfl) ?_
              refine SxL.val (v := .agg #[.int .u8 (xk : Int), .int .u64 (xn : Int), .int .u8 (xr : Int), .int .u64 (xb : Int), .int .u64 (xs : Int), .int .u8 (xo : Int), .string ⟨xv.toArray⟩, .slice C wl.length kc, .slice D jl.length kd, .int .u8 (da : Int), .int .u32 (db : Int), .int .u8 (dk : Int), .string ⟨ds.toArray⟩, .string ⟨dt.toArray⟩, .string ⟨du.toArray⟩, .int .u8 (dz : Int), .int .u8 (xc : Int), .string ⟨xt.toArray⟩]) ⟨_, _, rfl, rfl, rfl⟩ rfl rfl (fun ρ w E H => ex_load (part := [.int .u8 (xk : Int), .int .u64 (xn : Int), .int .u8 (xr : Int), .int .u64 (xb : Int), .int .u64 (xs : Int), .int .u8 (xo : Int), .string ⟨xv.toArray⟩, .slice C wl.length kc, .slice D jl.length kd, .int .u8 (da : Int), .int .u32 (db : Int), .int .u8 (dk : Int), .string ⟨ds.toArray⟩, .string ⟨dt.toArray⟩, .string ⟨du.toArray⟩, .int .u8 (dz : Int), .int .u8 (xc : Int), .string ⟨xt.toArray⟩]) E (H.get (i := 0) rfl) rfl rfl Try.underlying45 rfl sz_palaver_api_Msg rfl rfl) ?_
              refine SxL.callB (v := .bool c52) ⟨_, _, rfl, rfl, rfl⟩ rfl rfl (fun ρ w E => ex_call E en_palaver_palaverref18_Same rfl rfl) (fun w H => (rsame_any ⟨mk, mn, mr, mb, ms, mo, mv, vl, il, ⟨ca, cb, ck, cs, ct, cu, cz⟩, mc, mt⟩ ⟨xk, xn, xr, xb, xs, xo, xv, wl, jl, ⟨da, db, dk, ds, dt, du, dz⟩, xc, xt⟩ A B C D ka kb kc kd w (hr.below (H.toBelow ⟨(fun g hg => by rw [List.mem_singleton.1 hg]; exact hg2), (fun g hg => by rw [List.mem_singleton.1 hg]; exact hg1), trivial⟩)) (hr2.below (H.toBelow ⟨(fun g hg => by rw [List.mem_singleton.1 hg]; exact hg2), (fun g hg => by rw [List.mem_singleton.1 hg]; exact hg1), trivial⟩)) (Nat.le_trans (hlim22 rfl).h2 (by decide)) (Nat.le_trans (hlim22 rfl).h3 (by decide))).mono fun _ _ h => ⟨by rw [h.1, hsm (by have h := hc44; simp [cmpB] at h; omega) (by have h := hc47; simp [cmpB] at h; omega), hc52], h.2⟩) ?_
              refine SxL.val (v := .bool false) ⟨_, _, rfl, rfl, rfl⟩ rfl rfl (fun ρ w E H => ex_bneq E rfl Try.underlying4 rfl rfl (by simp)) ?_
              refine SxL.val (v := .bool false) trivial rfl rfl (fun ρ w E H => ex_pick E rfl (t := true) rfl rfl) ?_
              refine SxL.nil ?_
              refine SxN.then_ ?_
              refine SxC.condF rfl ?_
              refine SxC.skip ?_
              refine SxN.meet () True.intro ⟨rfl, rfl, rfl, rfl, trivial⟩ [0, 1] rfl (by decide) ⟨.inl rfl, .inl rfl, trivial⟩
        refine SxN.then_ ?_
        refine SxC.seq ?_
        refine SxC.cut1 (fun (_ : Unit) => [(2, .string ⟨s.toArray⟩)]) (fun _ => [cell g2 45 [.int .u8 (xk : Int), .int .u64 (xn : Int), .int .u8 (xr : Int), .int .u64 (xb : Int), .int .u64 (xs : Int), .int .u8 (xo : Int), .string ⟨xv.toArray⟩, .slice C wl.length kc, .slice D jl.length kd, .int .u8 (da : Int), .int .u32 (db : Int), .int .u8 (dk : Int), .string ⟨ds.toArray⟩, .string ⟨dt.toArray⟩, .string ⟨du.toArray⟩, .int .u8 (dz : Int), .int .u8 (xc : Int), .string ⟨xt.toArray⟩], cell g1 45 [.int .u8 (mk : Int), .int .u64 (mn : Int), .int .u8 (mr : Int), .int .u64 (mb : Int), .int .u64 (ms : Int), .int .u8 (mo : Int), .string ⟨mv.toArray⟩, .slice A vl.length ka, .slice B il.length kb, .int .u8 (ca : Int), .int .u32 (cb : Int), .int .u8 (ck : Int), .string ⟨cs.toArray⟩, .string ⟨ct.toArray⟩, .string ⟨cu.toArray⟩, .int .u8 (cz : Int), .int .u8 (mc : Int), .string ⟨mt.toArray⟩]]) (fun _ => True) ?_ fun _ _ => ?_
        · refine SxC.seq ?_
          refine SxC.region ?_
          refine SxL.val (v := .int .i64 (ep : Int)) trivial rfl rfl (fun ρ w E H => ex_move E rfl rfl) ?_
          refine SxL.valB trivial rfl rfl (fun ρ w E H => ex_cmp E rfl rfl rfl rfl rfl) fun c59 hc59 => ?_
          refine SxL.nil ?_
          refine SxN.then_ ?_
          cases c59
          · refine SxC.condF rfl ?_
            refine SxC.skip ?_
            refine SxN.meet () True.intro ⟨rfl, trivial⟩ [0, 1] rfl (by decide) ⟨.inl rfl, .inl rfl, trivial⟩
          · refine SxC.condT rfl ?_
            refine SxC.seq ?_
            refine SxC.seq ?_
            have he0 : ep = 0 := by have h := hc59; simp [cmpB] at h; omega
            subst he0
            have hok := putM_ok (m := ⟨mk, mn, mr, mb, ms, mo, mv, vl, il, ⟨ca, cb, ck, cs, ct, cu, cz⟩, mc, mt⟩) (by rw [hpm])
            have hsp : sp = Frame.frameB (insideB ⟨mk, mn, mr, mb, ms, mo, mv, vl, il, ⟨ca, cb, ck, cs, ct, cu, cz⟩, mc, mt⟩) := by rw [← hok.2.2, hpm]
            have htk : takeM sp = (⟨mk, mn, mr, mb, ms, mo, mv, vl, il, ⟨ca, cb, ck, cs, ct, cu, cz⟩, mc, mt⟩, 0) := by rw [hsp]; exact takeM_put _ hf (hlim22 rfl).short hok.1 hok.2.1
            have hsl : sp.length ≤ 90000 := by rw [hsp]; have h1 := (Frame.frame_len9 _ hok.2.1).2; have h2 := hok.2.1; omega
            have hsg : 1 ≤ sp.length := by rw [hsp]; have h1 := (Frame.frame_len9 _ hok.2.1).1; omega
            have hse : sp ≠ [] := fun e => by rw [e] at hsg; exact absurd hsg (by decide)
            have htl : takeM sp.dropLast = (ms0 0, 3) := by rw [hsp]; exact takeM_less _ hok.2.1
            have htq : takeM (sp ++ [0]) = (ms0 0, 4) := by rw [hsp]; exact takeM_more _ hok.2.1 0
            have hdl : List.take (sp.length - 1) sp = sp.dropLast := by rw [List.dropLast_eq_take]
            refine SxC.region ?_
            refine SxL.val (v := .string ⟨sp.toArray⟩) trivial rfl rfl (fun ρ w E H => ex_move E rfl rfl) ?_
            refine SxL.val (v := .bool false) trivial rfl rfl (fun ρ w E H => ex_seql E rfl rfl rfl (by simp [hse])) ?_
            refine SxL.nil ?_
            refine SxN.then_ ?_
            refine SxC.condF rfl ?_
            refine SxC.skip ?_
            refine SxN.then_ ?_
            refine SxC.seq ?_
            refine SxC.region ?_
            refine SxL.val (v := .string ⟨sp.toArray⟩) trivial rfl rfl (fun ρ w E H => ex_move E rfl rfl) ?_
            refine SxL.call2 (fun V I => .tuple #[.agg (msL ⟨mk, mn, mr, mb, ms, mo, mv, vl, il, ⟨ca, cb, ck, cs, ct, cu, cz⟩, mc, mt⟩ V I).toArray, .int .i64 0]) (fun V I => OwnIn w [] V ∧ OwnIn w [] I) (fun V I => _) trivial rfl rfl (fun ρ w E => ex_call E en_palaver_msg_Take rfl rfl) (call_takeM sp (by omega) htk rfl) fun V64 I64 hVI64 => ?_
            refine SxL.with (fun W H => own_is_slice (H.get (i := 0) rfl)) ?_
            rintro ⟨A64, k64, rfl⟩
            refine SxL.with (fun W H => own_is_slice (H.get (i := 1) rfl)) ?_
            rintro ⟨B64, l64, rfl⟩
            refine SxL.val (v := .tuple #[.agg #[.int .u8 (mk : Int), .int .u64 (mn : Int), .int .u8 (mr : Int), .int .u64 (mb : Int), .int .u64 (ms : Int), .int .u8 (mo : Int), .string ⟨mv.toArray⟩, .slice A64 vl.length k64, .slice B64 il.length l64, .int .u8 (ca : Int), .int .u32 (cb : Int), .int .u8 (ck : Int), .string ⟨cs.toArray⟩, .string ⟨ct.toArray⟩, .string ⟨cu.toArray⟩, .int .u8 (cz : Int), .int .u8 (mc : Int), .string ⟨mt.toArray⟩], .int .i64 0]) trivial rfl rfl (fun ρ w E H => ex_move E rfl rfl) ?_
            refine SxL.val (v := .agg #[.int .u8 (mk : Int), .int .u64 (mn : Int), .int .u8 (mr : Int), .int .u64 (mb : Int), .int .u64 (ms : Int), .int .u8 (mo : Int), .string ⟨mv.toArray⟩, .slice A64 vl.length k64, .slice B64 il.length l64, .int .u8 (ca : Int), .int .u32 (cb : Int), .int .u8 (ck : Int), .string ⟨cs.toArray⟩, .string ⟨ct.toArray⟩, .string ⟨cu.toArray⟩, .int .u8 (cz : Int), .int .u8 (mc : Int), .string ⟨mt.toArray⟩]) trivial rfl rfl (fun ρ w E H => ex_extract E rfl rfl rfl) ?_
            refine SxL.val (v := .int .i64 0) trivial rfl rfl (fun ρ w E H => ex_extract E rfl rfl rfl) ?_
            refine SxL.new (cs := [.int .u8 0, .int .u64 0, .int .u8 0, .int .u64 0, .int .u64 0, .int .u8 0, .string ⟨[].toArray⟩, .slice none 0 0, .slice none 0 0, .int .u8 0, .int .u32 0, .int .u8 0, .string ⟨[].toArray⟩, .string ⟨[].toArray⟩, .string ⟨[].toArray⟩, .int .u8 0, .int .u8 0, .string ⟨[].toArray⟩]) trivial rfl rfl (fun ρ w E H => ex_alloc rfl zr_palaver_api_Msg rfl) fun g3 hg3 => ?_
            refine SxL.store (i := 0) trivial rfl rfl rfl rfl rfl sz_palaver_api_Msg rfl rfl rfl ?_
            refine SxL.val (v := .int .i64 0) trivial rfl rfl (fun ρ w E H => ex_assign E rfl rfl) ?_
            refine SxL.nil ?_
            refine SxN.then_ ?_
            refine SxC.seq ?_
            refine SxC.region ?_
            refine SxL.val (v := .string ⟨sp.toArray⟩) trivial rfl rfl (fun ρ w E H => ex_move E rfl rfl) ?_
            refine SxL.val (v := .string ⟨sp.toArray⟩) trivial rfl rfl (fun ρ w E H => ex_move E rfl rfl) ?_
            refine SxL.val (v := .int .i64 (sp.length : Int)) trivial rfl rfl (fun ρ w E H => ex_lenT E rfl Try.underlying9 rfl) ?_
            refine SxL.val (v := .int .i64 ((sp.length - 1 : Nat) : Int)) trivial rfl rfl (fun ρ w E H => ex_sub E rfl rfl rfl (by rw [IntKind.wrap_i64]; omega)) ?_
            refine SxL.val (v := .string ⟨sp.dropLast.toArray⟩) trivial rfl rfl (fun ρ w E H => ex_sliceTh (n := (sp.length - 1 : Nat)) (r := sp.dropLast) E rfl Try.underlying9 rfl rfl (by omega) hdl) ?_
            refine SxL.call2 (fun V I => .tuple #[.agg (msL (ms0 0) V I).toArray, .int .i64 3]) (fun V I => OwnIn w [] V ∧ OwnIn w [] I) (fun V I => _) trivial rfl rfl (fun ρ w E => ex_call E en_palaver_msg_Take rfl rfl) (call_takeM sp.dropLast (by rw [List.length_dropLast]; omega) htl rfl) fun V73 I73 hVI73 => ?_
            refine SxL.with (fun W H => own_is_slice (H.get (i := 0) rfl)) ?_
            rintro ⟨A73, k73, rfl⟩
            refine SxL.with (fun W H => own_is_slice (H.get (i := 1) rfl)) ?_
            rintro ⟨B73, l73, rfl⟩
            refine SxL.val (v := .tuple #[.agg #[.int .u8 ((ms0 0).kind : Int), .int .u64 ((ms0 0).bn : Int), .int .u8 ((ms0 0).br : Int), .int .u64 ((ms0 0).base : Int), .int .u64 ((ms0 0).slot : Int), .int .u8 ((ms0 0).node : Int), .string ⟨((ms0 0).value).toArray⟩, .slice A73 (ms0 0).votes.length k73, .slice B73 (ms0 0).items.length l73, .int .u8 ((ms0 0).cmd.client : Int), .int .u32 ((ms0 0).cmd.seq : Int), .int .u8 ((ms0 0).cmd.kind : Int), .string ⟨((ms0 0).cmd.key).toArray⟩, .string ⟨((ms0 0).cmd.old).toArray⟩, .string ⟨((ms0 0).cmd.new).toArray⟩, .int .u8 ((ms0 0).cmd.set : Int), .int .u8 ((ms0 0).code : Int), .string ⟨((ms0 0).text).toArray⟩], .int .i64 3]) trivial rfl rfl (fun ρ w E H => ex_move E rfl rfl) ?_
            refine SxL.val (v := .agg #[.int .u8 ((ms0 0).kind : Int), .int .u64 ((ms0 0).bn : Int), .int .u8 ((ms0 0).br : Int), .int .u64 ((ms0 0).base : Int), .int .u64 ((ms0 0).slot : Int), .int .u8 ((ms0 0).node : Int), .string ⟨((ms0 0).value).toArray⟩, .slice A73 (ms0 0).votes.length k73, .slice B73 (ms0 0).items.length l73, .int .u8 ((ms0 0).cmd.client : Int), .int .u32 ((ms0 0).cmd.seq : Int), .int .u8 ((ms0 0).cmd.kind : Int), .string ⟨((ms0 0).cmd.key).toArray⟩, .string ⟨((ms0 0).cmd.old).toArray⟩, .string ⟨((ms0 0).cmd.new).toArray⟩, .int .u8 ((ms0 0).cmd.set : Int), .int .u8 ((ms0 0).code : Int), .string ⟨((ms0 0).text).toArray⟩]) trivial rfl rfl (fun ρ w E H => ex_extract E rfl rfl rfl) ?_
            refine SxL.val (v := .int .i64 3) trivial rfl rfl (fun ρ w E H => ex_extract E rfl rfl rfl) ?_
            refine SxL.new (cs := [.int .u8 0, .int .u64 0, .int .u8 0, .int .u64 0, .int .u64 0, .int .u8 0, .string ⟨[].toArray⟩, .slice none 0 0, .slice none 0 0, .int .u8 0, .int .u32 0, .int .u8 0, .string ⟨[].toArray⟩, .string ⟨[].toArray⟩, .string ⟨[].toArray⟩, .int .u8 0, .int .u8 0, .string ⟨[].toArray⟩]) trivial rfl rfl (fun ρ w E H => ex_alloc rfl zr_palaver_api_Msg rfl) fun g4 hg4 => ?_
            refine SxL.store (i := 0) trivial rfl rfl rfl rfl rfl sz_palaver_api_Msg rfl rfl rfl ?_
            refine SxL.val (v := .int .i64 3) trivial rfl rfl (fun ρ w E H => ex_assign E rfl rfl) ?_
            refine SxL.nil ?_
            refine SxN.then_ ?_
            refine SxC.seq ?_
            refine SxC.region ?_
            refine SxL.val (v := .string ⟨sp.toArray⟩) trivial rfl rfl (fun ρ w E H => ex_move E rfl rfl) ?_
            refine SxL.val (v := .string ⟨((sp ++ [0])).toArray⟩) trivial rfl rfl (fun ρ w E H => ex_sadd E rfl rfl rfl (by simp; omega)) ?_
            refine SxL.call2 (fun V I => .tuple #[.agg (msL (ms0 0) V I).toArray, .int .i64 4]) (fun V I => OwnIn w [] V ∧ OwnIn w [] I) (fun V I => _) trivial rfl rfl (fun ρ w E => ex_call E en_palaver_msg_Take rfl rfl) (call_takeM (sp ++ [0]) (by rw [List.length_append]; simp; omega) htq rfl) fun V79 I79 hVI79 => ?_
            refine SxL.with (fun W H => own_is_slice (H.get (i := 0) rfl)) ?_
            rintro ⟨A79, k79, rfl⟩
            refine SxL.with (fun W H => own_is_slice (H.get (i := 1) rfl)) ?_
            rintro ⟨B79, l79, rfl⟩
            refine SxL.val (v := .tuple #[.agg #[.int .u8 ((ms0 0).kind : Int), .int .u64 ((ms0 0).bn : Int), .int .u8 ((ms0 0).br : Int), .int .u64 ((ms0 0).base : Int), .int .u64 ((ms0 0).slot : Int), .int .u8 ((ms0 0).node : Int), .string ⟨((ms0 0).value).toArray⟩, .slice A79 (ms0 0).votes.length k79, .slice B79 (ms0 0).items.length l79, .int .u8 ((ms0 0).cmd.client : Int), .int .u32 ((ms0 0).cmd.seq : Int), .int .u8 ((ms0 0).cmd.kind : Int), .string ⟨((ms0 0).cmd.key).toArray⟩, .string ⟨((ms0 0).cmd.old).toArray⟩, .string ⟨((ms0 0).cmd.new).toArray⟩, .int .u8 ((ms0 0).cmd.set : Int), .int .u8 ((ms0 0).code : Int), .string ⟨((ms0 0).text).toArray⟩], .int .i64 4]) trivial rfl rfl (fun ρ w E H => ex_move E rfl rfl) ?_
            refine SxL.val (v := .agg #[.int .u8 ((ms0 0).kind : Int), .int .u64 ((ms0 0).bn : Int), .int .u8 ((ms0 0).br : Int), .int .u64 ((ms0 0).base : Int), .int .u64 ((ms0 0).slot : Int), .int .u8 ((ms0 0).node : Int), .string ⟨((ms0 0).value).toArray⟩, .slice A79 (ms0 0).votes.length k79, .slice B79 (ms0 0).items.length l79, .int .u8 ((ms0 0).cmd.client : Int), .int .u32 ((ms0 0).cmd.seq : Int), .int .u8 ((ms0 0).cmd.kind : Int), .string ⟨((ms0 0).cmd.key).toArray⟩, .string ⟨((ms0 0).cmd.old).toArray⟩, .string ⟨((ms0 0).cmd.new).toArray⟩, .int .u8 ((ms0 0).cmd.set : Int), .int .u8 ((ms0 0).code : Int), .string ⟨((ms0 0).text).toArray⟩]) trivial rfl rfl (fun ρ w E H => ex_extract E rfl rfl rfl) ?_
            refine SxL.val (v := .int .i64 4) trivial rfl rfl (fun ρ w E H => ex_extract E rfl rfl rfl) ?_
            refine SxL.new (cs := [.int .u8 0, .int .u64 0, .int .u8 0, .int .u64 0, .int .u64 0, .int .u8 0, .string ⟨[].toArray⟩, .slice none 0 0, .slice none 0 0, .int .u8 0, .int .u32 0, .int .u8 0, .string ⟨[].toArray⟩, .string ⟨[].toArray⟩, .string ⟨[].toArray⟩, .int .u8 0, .int .u8 0, .string ⟨[].toArray⟩]) trivial rfl rfl (fun ρ w E H => ex_alloc rfl zr_palaver_api_Msg rfl) fun g5 hg5 => ?_
            refine SxL.store (i := 0) trivial rfl rfl rfl rfl rfl sz_palaver_api_Msg rfl rfl rfl ?_
            refine SxL.val (v := .int .i64 4) trivial rfl rfl (fun ρ w E H => ex_assign E rfl rfl) ?_
            refine SxL.nil ?_
            refine SxN.then_ ?_
            refine SxC.seq ?_
            refine SxC.region ?_
            refine SxL.val (v := .int .i64 0) trivial rfl rfl (fun ρ w E H => ex_move E rfl rfl) ?_
            refine SxL.val (v := .bool false) trivial rfl rfl (fun ρ w E H => ex_cmp E rfl rfl rfl rfl (by decide)) ?_
            refine SxL.val (v := .bool false) trivial rfl rfl (fun ρ w E H => ex_move E rfl rfl) ?_
            refine SxL.val (v := .agg #[.int .u8 (mk : Int), .int .u64 (mn : Int), .int .u8 (mr : Int), .int .u64 (mb : Int), .int .u64 (ms : Int), .int .u8 (mo : Int), .string ⟨mv.toArray⟩, .slice A64 vl.length k64, .slice B64 il.length l64, .int .u8 (ca : Int), .int .u32 (cb : Int), .int .u8 (ck : Int), .string ⟨cs.toArray⟩, .string ⟨ct.toArray⟩, .string ⟨cu.toArray⟩, .int .u8 (cz : Int), .int .u8 (mc : Int), .string ⟨mt.toArray⟩]) ⟨_, _, rfl, rfl, rfl⟩ rfl rfl (fun ρ w E H => ex_load (part := [.int .u8 (mk : Int), .int .u64 (mn : Int), .int .u8 (mr : Int), .int .u64 (mb : Int), .int .u64 (ms : Int), .int .u8 (mo : Int), .string ⟨mv.toArray⟩, .slice A64 vl.length k64, .slice B64 il.length l64, .int .u8 (ca : Int), .int .u32 (cb : Int), .int .u8 (ck : Int), .string ⟨cs.toArray⟩, .string ⟨ct.toArray⟩, .string ⟨cu.toArray⟩, .int .u8 (cz : Int), .int .u8 (mc : Int), .string ⟨mt.toArray⟩]) E (H.get (i := 6) rfl) rfl rfl Try.underlying45 rfl sz_palaver_api_Msg rfl rfl) ?_
            refine SxL.val (v := .agg #[.int .u8 (mk : Int), .int .u64 (mn : Int), .int .u8 (mr : Int), .int .u64 (mb : Int), .int .u64 (ms : Int), .int .u8 (mo : Int), .string ⟨mv.toArray⟩, .slice A vl.length ka, .slice B il.length kb, .int .u8 (ca : Int), .int .u32 (cb : Int), .int .u8 (ck : Int), .string ⟨cs.toArray⟩, .string ⟨ct.toArray⟩, .string ⟨cu.toArray⟩, .int .u8 (cz : Int), .int .u8 (mc : Int), .string ⟨mt.toArray⟩]) ⟨_, _, rfl, rfl, rfl⟩ rfl rfl (fun ρ w E H => ex_load (part := [.int .u8 (mk : Int), .int .u64 (mn : Int), .int .u8 (mr : Int), .int .u64 (mb : Int), .int .u64 (ms : Int), .int .u8 (mo : Int), .string ⟨mv.toArray⟩, .slice A vl.length ka, .slice B il.length kb, .int .u8 (ca : Int), .int .u32 (cb : Int), .int .u8 (ck : Int), .string ⟨cs.toArray⟩, .string ⟨ct.toArray⟩, .string ⟨cu.toArray⟩, .int .u8 (cz : Int), .int .u8 (mc : Int), .string ⟨mt.toArray⟩]) E (H.get (i := 10) rfl) rfl rfl Try.underlying45 rfl sz_palaver_api_Msg rfl rfl) ?_
            refine SxL.callB (v := .bool true) ⟨_, _, rfl, rfl, rfl⟩ rfl rfl (fun ρ w E => ex_call E en_palaver_palaverref18_Same rfl rfl) (fun w H => (rsame_any ⟨mk, mn, mr, mb, ms, mo, mv, vl, il, ⟨ca, cb, ck, cs, ct, cu, cz⟩, mc, mt⟩ ⟨mk, mn, mr, mb, ms, mo, mv, vl, il, ⟨ca, cb, ck, cs, ct, cu, cz⟩, mc, mt⟩ A64 B64 A B k64 l64 ka kb w ⟨own_read voL_len (by decide) (H.get (i := 7) rfl), own_read imL_len (by decide) (H.get (i := 8) rfl)⟩ (hr.below (H.toBelow ⟨(fun g hg => by rw [List.mem_singleton.1 hg]; exact hg5), hVI79.1.fresh, hVI79.2.fresh, (fun g hg => by rw [List.mem_singleton.1 hg]; exact hg4), hVI73.1.fresh, hVI73.2.fresh, (fun g hg => by rw [List.mem_singleton.1 hg]; exact hg3), hVI64.1.fresh, hVI64.2.fresh, (fun g hg => by rw [List.mem_singleton.1 hg]; exact hg2), (fun g hg => by rw [List.mem_singleton.1 hg]; exact hg1), trivial⟩)) (Nat.le_trans (hlim22 rfl).h2 (by decide)) (Nat.le_trans (hlim22 rfl).h3 (by decide))).mono fun _ _ h => ⟨by rw [h.1]; simp, h.2⟩) ?_
            refine SxL.val (v := .bool false) ⟨_, _, rfl, rfl, rfl⟩ rfl rfl (fun ρ w E H => ex_not (t := true) E rfl rfl) ?_
            refine SxL.val (v := .bool false) trivial rfl rfl (fun ρ w E H => ex_pick E rfl (t := false) rfl rfl) ?_
            refine SxL.val (v := .bool false) trivial rfl rfl (fun ρ w E H => ex_move E rfl rfl) ?_
            refine SxL.val (v := .int .i64 3) ⟨_, _, rfl, rfl, rfl⟩ rfl rfl (fun ρ w E H => ex_move E rfl rfl) ?_
            refine SxL.val (v := .bool false) ⟨_, _, rfl, rfl, rfl⟩ rfl rfl (fun ρ w E H => ex_cmp E rfl rfl rfl rfl (by decide)) ?_
            refine SxL.val (v := .bool false) trivial rfl rfl (fun ρ w E H => ex_pick E rfl (t := false) rfl rfl) ?_
            refine SxL.val (v := .bool false) trivial rfl rfl (fun ρ w E H => ex_move E rfl rfl) ?_
            refine SxL.val (v := .int .i64 4) ⟨_, _, rfl, rfl, rfl⟩ rfl rfl (fun ρ w E H => ex_move E rfl rfl) ?_
            refine SxL.val (v := .bool false) ⟨_, _, rfl, rfl, rfl⟩ rfl rfl (fun ρ w E H => ex_cmp E rfl rfl rfl rfl (by decide)) ?_
            refine SxL.val (v := .bool false) trivial rfl rfl (fun ρ w E H => ex_pick E rfl (t := false) rfl rfl) ?_
            refine SxL.nil ?_
            refine SxN.then_ ?_
            refine SxC.condF rfl ?_
            refine SxC.skip ?_
            refine SxN.meet () True.intro ⟨rfl, trivial⟩ [9, 10] rfl (by decide) ⟨.inr (fun g hg => by rw [List.mem_singleton.1 hg]; exact hg5), .inr (hVI79.1.fresh), .inr (hVI79.2.fresh), .inr (fun g hg => by rw [List.mem_singleton.1 hg]; exact hg4), .inr (hVI73.1.fresh), .inr (hVI73.2.fresh), .inr (fun g hg => by rw [List.mem_singleton.1 hg]; exact hg3), .inr (hVI64.1.fresh), .inr (hVI64.2.fresh), .inl rfl, .inl rfl, trivial⟩
        refine SxN.then_ ?_
        refine SxC.seq ?_
        have hs5 : s.length ≤ 100000 := by have h := hc30; simp [cmpB] at h; omega
        obtain ⟨⟨tm, te⟩, htm⟩ : ∃ x, takeM s = x := ⟨_, rfl⟩
        refine SxC.region ?_
        refine SxL.val (v := .string ⟨s.toArray⟩) trivial rfl rfl (fun ρ w E H => ex_move E rfl rfl) ?_
        refine SxL.call2 (fun V I => .tuple #[.agg (msL tm V I).toArray, .int .i64 (te : Int)]) (fun V I => OwnIn w [] V ∧ OwnIn w [] I) (fun V I => _) trivial rfl rfl (fun ρ w E => ex_call E en_palaver_msg_Take rfl rfl) (call_takeM s hs5 htm rfl) fun V100 I100 hVI100 => ?_
        refine SxL.with (fun W H => own_is_slice (H.get (i := 0) rfl)) ?_
        rintro ⟨A100, k100, rfl⟩
        refine SxL.with (fun W H => own_is_slice (H.get (i := 1) rfl)) ?_
        rintro ⟨B100, l100, rfl⟩
        refine SxL.val (v := .tuple #[.agg #[.int .u8 (tm.kind : Int), .int .u64 (tm.bn : Int), .int .u8 (tm.br : Int), .int .u64 (tm.base : Int), .int .u64 (tm.slot : Int), .int .u8 (tm.node : Int), .string ⟨tm.value.toArray⟩, .slice A100 tm.votes.length k100, .slice B100 tm.items.length l100, .int .u8 (tm.cmd.client : Int), .int .u32 (tm.cmd.seq : Int), .int .u8 (tm.cmd.kind : Int), .string ⟨tm.cmd.key.toArray⟩, .string ⟨tm.cmd.old.toArray⟩, .string ⟨tm.cmd.new.toArray⟩, .int .u8 (tm.cmd.set : Int), .int .u8 (tm.code : Int), .string ⟨tm.text.toArray⟩], .int .i64 (te : Int)]) trivial rfl rfl (fun ρ w E H => ex_move E rfl rfl) ?_
        refine SxL.val (v := .agg #[.int .u8 (tm.kind : Int), .int .u64 (tm.bn : Int), .int .u8 (tm.br : Int), .int .u64 (tm.base : Int), .int .u64 (tm.slot : Int), .int .u8 (tm.node : Int), .string ⟨tm.value.toArray⟩, .slice A100 tm.votes.length k100, .slice B100 tm.items.length l100, .int .u8 (tm.cmd.client : Int), .int .u32 (tm.cmd.seq : Int), .int .u8 (tm.cmd.kind : Int), .string ⟨tm.cmd.key.toArray⟩, .string ⟨tm.cmd.old.toArray⟩, .string ⟨tm.cmd.new.toArray⟩, .int .u8 (tm.cmd.set : Int), .int .u8 (tm.code : Int), .string ⟨tm.text.toArray⟩]) trivial rfl rfl (fun ρ w E H => ex_extract E rfl rfl rfl) ?_
        refine SxL.val (v := .int .i64 (te : Int)) trivial rfl rfl (fun ρ w E H => ex_extract E rfl rfl rfl) ?_
        refine SxL.new (cs := [.int .u8 0, .int .u64 0, .int .u8 0, .int .u64 0, .int .u64 0, .int .u8 0, .string ⟨[].toArray⟩, .slice none 0 0, .slice none 0 0, .int .u8 0, .int .u32 0, .int .u8 0, .string ⟨[].toArray⟩, .string ⟨[].toArray⟩, .string ⟨[].toArray⟩, .int .u8 0, .int .u8 0, .string ⟨[].toArray⟩]) trivial rfl rfl (fun ρ w E H => ex_alloc rfl zr_palaver_api_Msg rfl) fun g6 hg6 => ?_
        refine SxL.store (i := 0) trivial rfl rfl rfl rfl rfl sz_palaver_api_Msg rfl rfl rfl ?_
        refine SxL.val (v := .int .i64 (te : Int)) trivial rfl rfl (fun ρ w E H => ex_assign E rfl rfl) ?_
        refine SxL.nil ?_
        refine SxN.then_ ?_
        refine SxC.seq ?_
        refine SxC.seq ?_
        refine SxC.region ?_
        refine SxL.val (v := .int .i64 (te : Int)) trivial rfl rfl (fun ρ w E H => ex_move E rfl rfl) ?_
        refine SxL.valB trivial rfl rfl (fun ρ w E H => ex_cmp E rfl rfl rfl rfl rfl) fun c104 hc104 => ?_
        refine SxL.nil ?_
        refine SxN.then_ ?_
        cases c104
        · refine SxC.condF rfl ?_
          refine SxC.skip ?_
          refine SxN.then_ ?_
          refine SxC.seq ?_
          have ht0 : te = 0 := by have h := hc104; simp [cmpB] at h; omega
          subst ht0
          have hbk := takeM_back hs5 htm
          have hpt : putM tm = (s, 0) := by rw [putM_is_ok hbk.2.2.2.1 hbk.2.2.2.2.1, ← hbk.2.2.2.2.2]
          refine SxC.region ?_
          refine SxL.val (v := .agg #[.int .u8 (tm.kind : Int), .int .u64 (tm.bn : Int), .int .u8 (tm.br : Int), .int .u64 (tm.base : Int), .int .u64 (tm.slot : Int), .int .u8 (tm.node : Int), .string ⟨tm.value.toArray⟩, .slice A100 tm.votes.length k100, .slice B100 tm.items.length l100, .int .u8 (tm.cmd.client : Int), .int .u32 (tm.cmd.seq : Int), .int .u8 (tm.cmd.kind : Int), .string ⟨tm.cmd.key.toArray⟩, .string ⟨tm.cmd.old.toArray⟩, .string ⟨tm.cmd.new.toArray⟩, .int .u8 (tm.cmd.set : Int), .int .u8 (tm.code : Int), .string ⟨tm.text.toArray⟩]) trivial rfl rfl (fun ρ w E H => ex_load (part := [.int .u8 (tm.kind : Int), .int .u64 (tm.bn : Int), .int .u8 (tm.br : Int), .int .u64 (tm.base : Int), .int .u64 (tm.slot : Int), .int .u8 (tm.node : Int), .string ⟨tm.value.toArray⟩, .slice A100 tm.votes.length k100, .slice B100 tm.items.length l100, .int .u8 (tm.cmd.client : Int), .int .u32 (tm.cmd.seq : Int), .int .u8 (tm.cmd.kind : Int), .string ⟨tm.cmd.key.toArray⟩, .string ⟨tm.cmd.old.toArray⟩, .string ⟨tm.cmd.new.toArray⟩, .int .u8 (tm.cmd.set : Int), .int .u8 (tm.code : Int), .string ⟨tm.text.toArray⟩]) E (H.get (i := 0) rfl) rfl rfl Try.underlying45 rfl sz_palaver_api_Msg rfl rfl) ?_
          refine SxL.callB (v := .tuple #[.string ⟨s.toArray⟩, .int .i64 0]) trivial rfl rfl (fun ρ w E => ex_call E en_palaver_msg_Put rfl rfl) (fun w H => (put_any tm A100 B100 k100 l100 w hbk.1 hbk.2.1 ⟨own_read voL_len (by decide) (H.get (i := 1) rfl), own_read imL_len (by decide) (H.get (i := 2) rfl)⟩).mono fun _ _ h => ⟨by rw [h.1, hpt]; rfl, h.2⟩) ?_
          refine SxL.val (v := .tuple #[.string ⟨s.toArray⟩, .int .i64 0]) trivial rfl rfl (fun ρ w E H => ex_move E rfl rfl) ?_
          refine SxL.val (v := .string ⟨s.toArray⟩) trivial rfl rfl (fun ρ w E H => ex_extract E rfl rfl rfl) ?_
          refine SxL.val (v := .int .i64 0) trivial rfl rfl (fun ρ w E H => ex_extract E rfl rfl rfl) ?_
          refine SxL.val (v := .string ⟨s.toArray⟩) trivial rfl rfl (fun ρ w E H => ex_assign E rfl rfl) ?_
          refine SxL.val (v := .int .i64 0) trivial rfl rfl (fun ρ w E H => ex_assign E rfl rfl) ?_
          refine SxL.nil ?_
          refine SxN.then_ ?_
          refine SxC.seq ?_
          refine SxC.region ?_
          refine SxL.val (v := .int .i64 0) trivial rfl rfl (fun ρ w E H => ex_move E rfl rfl) ?_
          refine SxL.val (v := .bool true) trivial rfl rfl (fun ρ w E H => ex_cmp E rfl rfl rfl rfl (by decide)) ?_
          refine SxL.val (v := .bool true) trivial rfl rfl (fun ρ w E H => ex_move E rfl rfl) ?_
          refine SxL.val (v := .string ⟨s.toArray⟩) ⟨_, _, rfl, rfl, rfl⟩ rfl rfl (fun ρ w E H => ex_move E rfl rfl) ?_
          refine SxL.val (v := .string ⟨s.toArray⟩) ⟨_, _, rfl, rfl, rfl⟩ rfl rfl (fun ρ w E H => ex_move E rfl rfl) ?_
          refine SxL.val (v := .bool true) ⟨_, _, rfl, rfl, rfl⟩ rfl rfl (fun ρ w E H => ex_seql E rfl rfl rfl (by simp)) ?_
          refine SxL.val (v := .bool true) trivial rfl rfl (fun ρ w E H => ex_pick E rfl (t := true) rfl rfl) ?_
          refine SxL.val (v := .bool true) trivial rfl rfl (fun ρ w E H => ex_move E rfl rfl) ?_
          refine SxL.val (v := .agg #[.int .u8 (tm.kind : Int), .int .u64 (tm.bn : Int), .int .u8 (tm.br : Int), .int .u64 (tm.base : Int), .int .u64 (tm.slot : Int), .int .u8 (tm.node : Int), .string ⟨tm.value.toArray⟩, .slice A100 tm.votes.length k100, .slice B100 tm.items.length l100, .int .u8 (tm.cmd.client : Int), .int .u32 (tm.cmd.seq : Int), .int .u8 (tm.cmd.kind : Int), .string ⟨tm.cmd.key.toArray⟩, .string ⟨tm.cmd.old.toArray⟩, .string ⟨tm.cmd.new.toArray⟩, .int .u8 (tm.cmd.set : Int), .int .u8 (tm.code : Int), .string ⟨tm.text.toArray⟩]) ⟨_, _, rfl, rfl, rfl⟩ rfl rfl (fun ρ w E H => ex_load (part := [.int .u8 (tm.kind : Int), .int .u64 (tm.bn : Int), .int .u8 (tm.br : Int), .int .u64 (tm.base : Int), .int .u64 (tm.slot : Int), .int .u8 (tm.node : Int), .string ⟨tm.value.toArray⟩, .slice A100 tm.votes.length k100, .slice B100 tm.items.length l100, .int .u8 (tm.cmd.client : Int), .int .u32 (tm.cmd.seq : Int), .int .u8 (tm.cmd.kind : Int), .string ⟨tm.cmd.key.toArray⟩, .string ⟨tm.cmd.old.toArray⟩, .string ⟨tm.cmd.new.toArray⟩, .int .u8 (tm.cmd.set : Int), .int .u8 (tm.code : Int), .string ⟨tm.text.toArray⟩]) E (H.get (i := 0) rfl) rfl rfl Try.underlying45 rfl sz_palaver_api_Msg rfl rfl) ?_
          refine SxL.callB (v := .int .i64 0) ⟨_, _, rfl, rfl, rfl⟩ rfl rfl (fun ρ w E => ex_call E en_palaver_msg_Check rfl rfl) (fun w H => (check_any tm A100 B100 k100 l100 w hbk.1 hbk.2.1 ⟨own_read voL_len (by decide) (H.get (i := 1) rfl), own_read imL_len (by decide) (H.get (i := 2) rfl)⟩).mono fun _ _ h => ⟨by rw [h.1, hbk.2.2.2.1]; rfl, h.2⟩) ?_
          refine SxL.val (v := .bool true) ⟨_, _, rfl, rfl, rfl⟩ rfl rfl (fun ρ w E H => ex_cmp E rfl rfl rfl rfl (by decide)) ?_
          refine SxL.val (v := .bool true) trivial rfl rfl (fun ρ w E H => ex_pick E rfl (t := true) rfl rfl) ?_
          refine SxL.val (v := .bool true) trivial rfl rfl (fun ρ w E H => ex_move E rfl rfl) ?_
          refine SxL.callB (v := .bool true) ⟨_, _, rfl, rfl, rfl⟩ rfl rfl (fun ρ w E => ex_call E en_palaver_palaverlaw18_wakes rfl rfl) (fun w H => wakes_any w) ?_
          refine SxL.val (v := .bool true) trivial rfl rfl (fun ρ w E H => ex_pick E rfl (t := true) rfl rfl) ?_
          refine SxL.val (v := .bool true) trivial rfl rfl (fun ρ w E H => ex_assign E rfl rfl) ?_
          refine SxL.nil ?_
          refine SxN.then_ ?_
          refine SxC.ret ?_
          refine SxX.done (.bool true) (fun a w K H => res1 K rfl rfl) (fun w H => ?_)
          exact ⟨rfl, H.toBelow ⟨(fun g hg => by rw [List.mem_singleton.1 hg]; exact hg6), hVI100.1.fresh, hVI100.2.fresh, (fun g hg => by rw [List.mem_singleton.1 hg]; exact hg2), (fun g hg => by rw [List.mem_singleton.1 hg]; exact hg1), trivial⟩⟩
        · refine SxC.condT rfl ?_
          refine SxC.seq ?_
          have htb : tm = ms0 0 := by have h := takeM_bad (s := s) (by rw [htm]; have h := hc104; simp [cmpB] at h; show te ≠ 0; omega); rw [htm] at h; exact h
          refine SxC.region ?_
          refine SxL.val (v := .agg #[.int .u8 (tm.kind : Int), .int .u64 (tm.bn : Int), .int .u8 (tm.br : Int), .int .u64 (tm.base : Int), .int .u64 (tm.slot : Int), .int .u8 (tm.node : Int), .string ⟨tm.value.toArray⟩, .slice A100 tm.votes.length k100, .slice B100 tm.items.length l100, .int .u8 (tm.cmd.client : Int), .int .u32 (tm.cmd.seq : Int), .int .u8 (tm.cmd.kind : Int), .string ⟨tm.cmd.key.toArray⟩, .string ⟨tm.cmd.old.toArray⟩, .string ⟨tm.cmd.new.toArray⟩, .int .u8 (tm.cmd.set : Int), .int .u8 (tm.code : Int), .string ⟨tm.text.toArray⟩]) trivial rfl rfl (fun ρ w E H => ex_load (part := [.int .u8 (tm.kind : Int), .int .u64 (tm.bn : Int), .int .u8 (tm.br : Int), .int .u64 (tm.base : Int), .int .u64 (tm.slot : Int), .int .u8 (tm.node : Int), .string ⟨tm.value.toArray⟩, .slice A100 tm.votes.length k100, .slice B100 tm.items.length l100, .int .u8 (tm.cmd.client : Int), .int .u32 (tm.cmd.seq : Int), .int .u8 (tm.cmd.kind : Int), .string ⟨tm.cmd.key.toArray⟩, .string ⟨tm.cmd.old.toArray⟩, .string ⟨tm.cmd.new.toArray⟩, .int .u8 (tm.cmd.set : Int), .int .u8 (tm.code : Int), .string ⟨tm.text.toArray⟩]) E (H.get (i := 0) rfl) rfl rfl Try.underlying45 rfl sz_palaver_api_Msg rfl rfl) ?_
          refine SxL.val (v := .agg #[.int .u8 0, .int .u64 0, .int .u8 0, .int .u64 0, .int .u64 0, .int .u8 0, .string ⟨[].toArray⟩, .slice none 0 0, .slice none 0 0, .int .u8 0, .int .u32 0, .int .u8 0, .string ⟨[].toArray⟩, .string ⟨[].toArray⟩, .string ⟨[].toArray⟩, .int .u8 0, .int .u8 0, .string ⟨[].toArray⟩]) trivial rfl rfl (fun ρ w E H => ex_build (cs := [.int .u8 0, .int .u64 0, .int .u8 0, .int .u64 0, .int .u64 0, .int .u8 0, .string ⟨[].toArray⟩, .slice none 0 0, .slice none 0 0, .int .u8 0, .int .u32 0, .int .u8 0, .string ⟨[].toArray⟩, .string ⟨[].toArray⟩, .string ⟨[].toArray⟩, .int .u8 0, .int .u8 0, .string ⟨[].toArray⟩]) E rfl rfl (by kernel_rfl)) ?_
          refine SxL.callB (v := .bool true) trivial rfl rfl (fun ρ w E => ex_call E en_palaver_palaverref18_Same rfl rfl) (fun w H => (rsame_any tm (ms0 0) A100 B100 none none k100 l100 0 0 w ⟨own_read voL_len (by decide) (H.get (i := 1) rfl), own_read imL_len (by decide) (H.get (i := 2) rfl)⟩ (none_rows _ _ rfl rfl) (by rw [htb]; decide) (by rw [htb]; decide)).mono fun _ _ h => ⟨by rw [h.1, htb]; simp, h.2⟩) ?_
          refine SxL.val (v := .bool true) trivial rfl rfl (fun ρ w E H => ex_move E rfl rfl) ?_
          refine SxL.callB (v := .bool true) ⟨_, _, rfl, rfl, rfl⟩ rfl rfl (fun ρ w E => ex_call E en_palaver_palaverlaw18_wakes rfl rfl) (fun w H => wakes_any w) ?_
          refine SxL.val (v := .bool true) trivial rfl rfl (fun ρ w E H => ex_pick E rfl (t := true) rfl rfl) ?_
          refine SxL.val (v := .bool true) trivial rfl rfl (fun ρ w E H => ex_assign E rfl rfl) ?_
          refine SxL.nil ?_
          refine SxN.then_ ?_
          refine SxC.ret ?_
          refine SxX.thenR ?_
          refine SxX.done (.bool true) (fun a w K H => res1 K rfl rfl) (fun w H => ?_)
          exact ⟨rfl, H.toBelow ⟨(fun g hg => by rw [List.mem_singleton.1 hg]; exact hg6), hVI100.1.fresh, hVI100.2.fresh, (fun g hg => by rw [List.mem_singleton.1 hg]; exact hg2), (fun g hg => by rw [List.mem_singleton.1 hg]; exact hg1), trivial⟩⟩
      · refine SxC.condT rfl ?_
        refine SxC.seq ?_
        refine SxC.region ?_
        refine SxL.callB (v := .bool true) trivial rfl rfl (fun ρ w E => ex_call E en_palaver_palaverlaw18_wakes rfl rfl) (fun w H => wakes_any w) ?_
        refine SxL.val (v := .bool true) trivial rfl rfl (fun ρ w E H => ex_assign E rfl rfl) ?_
        refine SxL.nil ?_
        refine SxN.then_ ?_
        refine SxC.ret ?_
        refine SxX.thenR ?_
        refine SxX.done (.bool true) (fun a w K H => res1 K rfl rfl) (fun w H => ?_)
        exact ⟨rfl, H.toBelow ⟨(fun g hg => by rw [List.mem_singleton.1 hg]; exact hg2), (fun g hg => by rw [List.mem_singleton.1 hg]; exact hg1), trivial⟩⟩
    · refine SxL.off ⟨_, _, _, rfl, rfl, rfl, nofun⟩ rfl rfl ?_
      refine SxL.off ⟨_, _, _, rfl, rfl, rfl, nofun⟩ rfl rfl ?_
      refine SxL.off ⟨_, _, _, rfl, rfl, rfl, nofun⟩ rfl rfl ?_
      refine SxL.val (v := .bool true) trivial rfl rfl (fun ρ w E H => ex_pick E rfl (t := true) rfl rfl) ?_
      refine SxL.nil ?_
      refine SxN.then_ ?_
      refine SxC.condT rfl ?_
      refine SxC.seq ?_
      refine SxC.region ?_
      refine SxL.callB (v := .bool true) trivial rfl rfl (fun ρ w E => ex_call E en_palaver_palaverlaw18_wakes rfl rfl) (fun w H => wakes_any w) ?_
      refine SxL.val (v := .bool true) trivial rfl rfl (fun ρ w E H => ex_assign E rfl rfl) ?_
      refine SxL.nil ?_
      refine SxN.then_ ?_
      refine SxC.ret ?_
      refine SxX.thenR ?_
      refine SxX.done (.bool true) (fun a w K H => res1 K rfl rfl) (fun w H => ?_)
      exact ⟨rfl, H.toBelow ⟨(fun g hg => by rw [List.mem_singleton.1 hg]; exact hg2), (fun g hg => by rw [List.mem_singleton.1 hg]; exact hg1), trivial⟩⟩
  · refine SxL.off ⟨_, _, _, rfl, rfl, rfl, nofun⟩ rfl rfl ?_
    refine SxL.off ⟨_, _, _, rfl, rfl, rfl, nofun⟩ rfl rfl ?_
    refine SxL.val (v := .bool true) trivial rfl rfl (fun ρ w E H => ex_pick E rfl (t := true) rfl rfl) ?_
    refine SxL.val (v := .bool true) trivial rfl rfl (fun ρ w E H => ex_move E rfl rfl) ?_
    refine SxL.off ⟨_, _, _, rfl, rfl, rfl, nofun⟩ rfl rfl ?_
    refine SxL.off ⟨_, _, _, rfl, rfl, rfl, nofun⟩ rfl rfl ?_
    refine SxL.off ⟨_, _, _, rfl, rfl, rfl, nofun⟩ rfl rfl ?_
    refine SxL.val (v := .bool true) trivial rfl rfl (fun ρ w E H => ex_pick E rfl (t := true) rfl rfl) ?_
    refine SxL.nil ?_
    refine SxN.then_ ?_
    refine SxC.condT rfl ?_
    refine SxC.seq ?_
    refine SxC.region ?_
    refine SxL.callB (v := .bool true) trivial rfl rfl (fun ρ w E => ex_call E en_palaver_palaverlaw18_wakes rfl rfl) (fun w H => wakes_any w) ?_
    refine SxL.val (v := .bool true) trivial rfl rfl (fun ρ w E H => ex_assign E rfl rfl) ?_
    refine SxL.nil ?_
    refine SxN.then_ ?_
    refine SxC.ret ?_
    refine SxX.thenR ?_
    refine SxX.done (.bool true) (fun a w K H => res1 K rfl rfl) (fun w H => ?_)
    exact ⟨rfl, H.toBelow ⟨(fun g hg => by rw [List.mem_singleton.1 hg]; exact hg2), (fun g hg => by rw [List.mem_singleton.1 hg]; exact hg1), trivial⟩⟩

theorem back_any (m x : Ms) (s : List UInt8) (A B C D : Option Addr) (ka kb kc kd : Nat) (w : World) (hf : m.Fits) (hr : MsRows w m A B) (hn1 : m.votes.length ≤ 9223372036854775807) (hn2 : m.items.length ≤ 9223372036854775807) (hf2 : x.Fits) (hr2 : MsRows w x C D) (hn3 : x.votes.length ≤ 9223372036854775807) (hn4 : x.items.length ≤ 9223372036854775807) : Calls Try.prog 5 #[msV m A ka B kb, msV x C kc D kd, .string ⟨s.toArray⟩] w fun e w' => e = .returned (.bool true) ∧ Below w.heap.size w w' := by
  obtain ⟨mk, mn, mr, mb, ms, mo, mv, vl, il, ⟨ca, cb, ck, cs, ct, cu, cz⟩, mc, mt⟩ := m
  obtain ⟨xk, xn, xr, xb, xs, xo, xv, wl, jl, ⟨da, db, dk, ds, dt, du, dz⟩, xc, xt⟩ := x
  exact back_lit _ _ _ _ _ _ _ _ _ _ _ _ _ _ _ _ _ _ _ _ _ _ _ _ _ _ _ _ _ _ _ _ _ _ _ _ _ _ _ _ _ _ _ _ _ w hf hr hn1 hn2 hf2 hr2 hn3 hn4
end Go.Proofs.Yteiaiilfekojfaa.Msg
end
section
set_option linter.unusedVariables false
namespace Go.Proofs.Yteiaiilfekojfaa.Msg
open Go.Joins Go.RowKit Go.WideShapes Go.ChangeShapes Go.Deep

structure Vx where
  slot : Nat
  n : Nat
  r : Nat
  value : List UInt8
def Vx.Fits (x : Vx) : Prop := x.slot < 18446744073709551616 ∧ x.n < 18446744073709551616 ∧ x.r < 256 ∧ x.value.length ≤ 9223372036854775807
def vxC (x : Vx) : List Value := [.int .u64 (x.slot : Int), .int .u64 (x.n : Int), .int .u8 (x.r : Int), .string ⟨x.value.toArray⟩]
set_option linter.unusedSimpArgs false in
set_option maxRecDepth 100000 in
theorem dec_vx {w : World} : ∀ n es, es.length = 4 → Leafy Try.prog w n 76 es → ∃ x, Vx.Fits x ∧ es = vxC x := by
  intro n es hlen h
  match es, hlen with
  | [c0, c1, c2, c3], _ =>
    have e0 : Try.prog.cellsOf 39 = 2 := by kernel_rfl
    have e1 : Try.prog.cellsOf 9 = 1 := by kernel_rfl
    have e2 : Try.prog.cellsOf 37 = 1 := by kernel_rfl
    have e3 : Try.prog.cellsOf 5 = 1 := by kernel_rfl
    obtain ⟨m1, _, hf1⟩ := leafy_struct Try.underlying76 h
    have g1_0 : Leafy Try.prog w m1 37 ((([c0, c1, c2, c3] : List Value).drop 0).take (Try.prog.cellsOf 37)) := hf1 0 _ rfl
    rw [e2] at g1_0
    simp only [List.drop_zero, List.drop_succ_cons, List.take_succ_cons, List.take_zero] at g1_0
    have g1_1 : Leafy Try.prog w m1 39 ((([c0, c1, c2, c3] : List Value).drop 1).take (Try.prog.cellsOf 39)) := hf1 1 _ rfl
    rw [e0] at g1_1
    simp only [List.drop_zero, List.drop_succ_cons, List.take_succ_cons, List.take_zero] at g1_1
    have g1_2 : Leafy Try.prog w m1 9 ((([c0, c1, c2, c3] : List Value).drop 3).take (Try.prog.cellsOf 9)) := hf1 2 _ rfl
    rw [e1] at g1_2
    simp only [List.drop_zero, List.drop_succ_cons, List.take_succ_cons, List.take_zero] at g1_2
    obtain ⟨z0, q0, w0⟩ := leafy_int Try.underlying37 g1_0
    obtain rfl : c0 = _ := List.head_eq_of_cons_eq q0
    have b0 := bounds_u64 w0
    obtain ⟨x0, rfl⟩ := Int.eq_ofNat_of_zero_le b0.1
    obtain ⟨m2, _, hf2⟩ := leafy_struct Try.underlying39 g1_1
    have g2_0 : Leafy Try.prog w m2 37 ((([c1, c2] : List Value).drop 0).take (Try.prog.cellsOf 37)) := hf2 0 _ rfl
    rw [e2] at g2_0
    simp only [List.drop_zero, List.drop_succ_cons, List.take_succ_cons, List.take_zero] at g2_0
    have g2_1 : Leafy Try.prog w m2 5 ((([c1, c2] : List Value).drop 1).take (Try.prog.cellsOf 5)) := hf2 1 _ rfl
    rw [e3] at g2_1
    simp only [List.drop_zero, List.drop_succ_cons, List.take_succ_cons, List.take_zero] at g2_1
    obtain ⟨z1, q1, w1⟩ := leafy_int Try.underlying37 g2_0
    obtain rfl : c1 = _ := List.head_eq_of_cons_eq q1
    have b1 := bounds_u64 w1
    obtain ⟨x1, rfl⟩ := Int.eq_ofNat_of_zero_le b1.1
    obtain ⟨z2, q2, w2⟩ := leafy_int Try.underlying5 g2_1
    obtain rfl : c2 = _ := List.head_eq_of_cons_eq q2
    have b2 := bounds_u8 w2
    obtain ⟨x2, rfl⟩ := Int.eq_ofNat_of_zero_le b2.1
    obtain ⟨x3, q3, b3⟩ := leafy_string Try.underlying9 g1_2
    obtain rfl : c3 = _ := List.head_eq_of_cons_eq q3
    exact ⟨⟨x0, x1, x2, x3⟩, by simp only [Vx.Fits]; omega, rfl⟩

set_option maxRecDepth 100000 in
theorem dec_vo {w : World} : ∀ n es, es.length = 4 → Leafy Try.prog w n 76 es → ∃ x : Vo, x.Fits ∧ es = voL x := by
  intro n es hl h
  obtain ⟨x, hx, he⟩ := dec_vx n es hl h
  simp only [Vx.Fits] at hx
  exact ⟨⟨x.slot, x.n, x.r, x.value⟩, ⟨hx.1, hx.2.1, hx.2.2.1⟩, he⟩
structure Ix where
  slot : Nat
  value : List UInt8
def Ix.Fits (x : Ix) : Prop := x.slot < 18446744073709551616 ∧ x.value.length ≤ 9223372036854775807
def ixC (x : Ix) : List Value := [.int .u64 (x.slot : Int), .string ⟨x.value.toArray⟩]
set_option linter.unusedSimpArgs false in
set_option maxRecDepth 100000 in
theorem dec_ix {w : World} : ∀ n es, es.length = 2 → Leafy Try.prog w n 78 es → ∃ x, Ix.Fits x ∧ es = ixC x := by
  intro n es hlen h
  match es, hlen with
  | [c0, c1], _ =>
    have e0 : Try.prog.cellsOf 9 = 1 := by kernel_rfl
    have e1 : Try.prog.cellsOf 37 = 1 := by kernel_rfl
    obtain ⟨m1, _, hf1⟩ := leafy_struct Try.underlying78 h
    have g1_0 : Leafy Try.prog w m1 37 ((([c0, c1] : List Value).drop 0).take (Try.prog.cellsOf 37)) := hf1 0 _ rfl
    rw [e1] at g1_0
    simp only [List.drop_zero, List.drop_succ_cons, List.take_succ_cons, List.take_zero] at g1_0
    have g1_1 : Leafy Try.prog w m1 9 ((([c0, c1] : List Value).drop 1).take (Try.prog.cellsOf 9)) := hf1 1 _ rfl
    rw [e0] at g1_1
    simp only [List.drop_zero, List.drop_succ_cons, List.take_succ_cons, List.take_zero] at g1_1
    obtain ⟨z0, q0, w0⟩ := leafy_int Try.underlying37 g1_0
    obtain rfl : c0 = _ := List.head_eq_of_cons_eq q0
    have b0 := bounds_u64 w0
    obtain ⟨x0, rfl⟩ := Int.eq_ofNat_of_zero_le b0.1
    obtain ⟨x1, q1, b1⟩ := leafy_string Try.underlying9 g1_1
    obtain rfl : c1 = _ := List.head_eq_of_cons_eq q1
    exact ⟨⟨x0, x1⟩, by simp only [Ix.Fits]; omega, rfl⟩

theorem dec_im {w : World} : ∀ n es, es.length = 2 → Leafy Try.prog w n 78 es → ∃ x : Im, x.slot < 18446744073709551616 ∧ es = imL x := by
  intro n es hl h
  obtain ⟨x, hx, he⟩ := dec_ix n es hl h
  simp only [Ix.Fits] at hx
  exact ⟨⟨x.slot, x.value⟩, hx.1, he⟩
set_option maxRecDepth 100000 in
theorem leafy_vos {w : World} {n : Nat} {cs : List Value} (h : Leafy Try.prog w n 40 cs) : ∃ (A : Option Addr) (c : Nat) (V : List Vo), cs = [.slice A V.length c] ∧ Rows w A 4 voL V ∧ (∀ x ∈ V, x.Fits) ∧ V.length ≤ 9223372036854775807 := by
  cases n with
  | zero => exact h.elim
  | succ n =>
    unfold Leafy at h
    rw [Try.underlying40] at h
    have e4 : Try.prog.cellsOf 76 = 4 := by kernel_rfl
    rcases h with h0 | ⟨a, len, cap, h0, hl, hc, hi⟩
    · exact ⟨none, 0, [], h0, Rows.nil _ _ _ _, by simp, by simp⟩
    · obtain ⟨l, h1, h2, h3⟩ := rows_of (w := w) (sz := 4) (cells := voL) (a := a) (m := len) (Q := fun x => x.Fits) (fun i hil => by
        obtain ⟨es, e1, e2, e3⟩ := hi i hil
        obtain ⟨x, hx, he⟩ := dec_vo n es (by rw [e1, e4]) e2
        exact ⟨x, hx, es, he, by rw [e4] at e3; exact e3⟩) (fun x => by rw [voL_len]; omega)
      exact ⟨some a, cap, l, by rw [h1]; exact h0, h3, h2, by omega⟩
set_option maxRecDepth 100000 in
theorem leafy_ims {w : World} {n : Nat} {cs : List Value} (h : Leafy Try.prog w n 41 cs) : ∃ (A : Option Addr) (c : Nat) (V : List Im), cs = [.slice A V.length c] ∧ Rows w A 2 imL V ∧ (∀ x ∈ V, x.slot < 18446744073709551616) ∧ V.length ≤ 9223372036854775807 := by
  cases n with
  | zero => exact h.elim
  | succ n =>
    unfold Leafy at h
    rw [Try.underlying41] at h
    have e4 : Try.prog.cellsOf 78 = 2 := by kernel_rfl
    rcases h with h0 | ⟨a, len, cap, h0, hl, hc, hi⟩
    · exact ⟨none, 0, [], h0, Rows.nil _ _ _ _, by simp, by simp⟩
    · obtain ⟨l, h1, h2, h3⟩ := rows_of (w := w) (sz := 2) (cells := imL) (a := a) (m := len) (Q := fun x => x.slot < 18446744073709551616) (fun i hil => by
        obtain ⟨es, e1, e2, e3⟩ := hi i hil
        obtain ⟨x, hx, he⟩ := dec_im n es (by rw [e1, e4]) e2
        exact ⟨x, hx, es, he, by rw [e4] at e3; exact e3⟩) (fun x => by rw [imL_len]; omega)
      exact ⟨some a, cap, l, by rw [h1]; exact h0, h3, h2, by omega⟩
set_option linter.unusedSimpArgs false in
set_option maxRecDepth 100000 in
theorem dec_msg {w : World} : ∀ n es, es.length = 18 → Leafy Try.prog w n 45 es → ∃ (m : Ms) (A : Option Addr) (ka : Nat) (B : Option Addr) (kb : Nat), m.Fits ∧ MsRows w m A B ∧ (m.votes.length ≤ 9223372036854775807 ∧ m.items.length ≤ 9223372036854775807) ∧ es = msL m (.slice A m.votes.length ka) (.slice B m.items.length kb) := by
  intro n es hlen h
  match es, hlen with
  | [c0, c1, c2, c3, c4, c5, c6, c7, c8, c9, c10, c11, c12, c13, c14, c15, c16, c17], _ =>
    have e0 : Try.prog.cellsOf 41 = 1 := by kernel_rfl
    have e1 : Try.prog.cellsOf 40 = 1 := by kernel_rfl
    have e2 : Try.prog.cellsOf 39 = 2 := by kernel_rfl
    have e3 : Try.prog.cellsOf 36 = 7 := by kernel_rfl
    have e4 : Try.prog.cellsOf 43 = 2 := by kernel_rfl
    have e5 : Try.prog.cellsOf 9 = 1 := by kernel_rfl
    have e6 : Try.prog.cellsOf 34 = 1 := by kernel_rfl
    have e7 : Try.prog.cellsOf 37 = 1 := by kernel_rfl
    have e8 : Try.prog.cellsOf 5 = 1 := by kernel_rfl
    obtain ⟨m1, _, hf1⟩ := leafy_struct Try.underlying45 h
    have g1_0 : Leafy Try.prog w m1 5 ((([c0, c1, c2, c3, c4, c5, c6, c7, c8, c9, c10, c11, c12, c13, c14, c15, c16, c17] : List Value).drop 0).take (Try.prog.cellsOf 5)) := hf1 0 _ rfl
    rw [e8] at g1_0
    simp only [List.drop_zero, List.drop_succ_cons, List.take_succ_cons, List.take_zero] at g1_0
    have g1_1 : Leafy Try.prog w m1 39 ((([c0, c1, c2, c3, c4, c5, c6, c7, c8, c9, c10, c11, c12, c13, c14, c15, c16, c17] : List Value).drop 1).take (Try.prog.cellsOf 39)) := hf1 1 _ rfl
    rw [e2] at g1_1
    simp only [List.drop_zero, List.drop_succ_cons, List.take_succ_cons, List.take_zero] at g1_1
    have g1_2 : Leafy Try.prog w m1 37 ((([c0, c1, c2, c3, c4, c5, c6, c7, c8, c9, c10, c11, c12, c13, c14, c15, c16, c17] : List Value).drop 3).take (Try.prog.cellsOf 37)) := hf1 2 _ rfl
    rw [e7] at g1_2
    simp only [List.drop_zero, List.drop_succ_cons, List.take_succ_cons, List.take_zero] at g1_2
    have g1_3 : Leafy Try.prog w m1 37 ((([c0, c1, c2, c3, c4, c5, c6, c7, c8, c9, c10, c11, c12, c13, c14, c15, c16, c17] : List Value).drop 4).take (Try.prog.cellsOf 37)) := hf1 3 _ rfl
    rw [e7] at g1_3
    simp only [List.drop_zero, List.drop_succ_cons, List.take_succ_cons, List.take_zero] at g1_3
    have g1_4 : Leafy Try.prog w m1 5 ((([c0, c1, c2, c3, c4, c5, c6, c7, c8, c9, c10, c11, c12, c13, c14, c15, c16, c17] : List Value).drop 5).take (Try.prog.cellsOf 5)) := hf1 4 _ rfl
    rw [e8] at g1_4
    simp only [List.drop_zero, List.drop_succ_cons, List.take_succ_cons, List.take_zero] at g1_4
    have g1_5 : Leafy Try.prog w m1 9 ((([c0, c1, c2, c3, c4, c5, c6, c7, c8, c9, c10, c11, c12, c13, c14, c15, c16, c17] : List Value).drop 6).take (Try.prog.cellsOf 9)) := hf1 5 _ rfl
    rw [e5] at g1_5
    simp only [List.drop_zero, List.drop_succ_cons, List.take_succ_cons, List.take_zero] at g1_5
    have g1_6 : Leafy Try.prog w m1 40 ((([c0, c1, c2, c3, c4, c5, c6, c7, c8, c9, c10, c11, c12, c13, c14, c15, c16, c17] : List Value).drop 7).take (Try.prog.cellsOf 40)) := hf1 6 _ rfl
    rw [e1] at g1_6
    simp only [List.drop_zero, List.drop_succ_cons, List.take_succ_cons, List.take_zero] at g1_6
    have g1_7 : Leafy Try.prog w m1 41 ((([c0, c1, c2, c3, c4, c5, c6, c7, c8, c9, c10, c11, c12, c13, c14, c15, c16, c17] : List Value).drop 8).take (Try.prog.cellsOf 41)) := hf1 7 _ rfl
    rw [e0] at g1_7
    simp only [List.drop_zero, List.drop_succ_cons, List.take_succ_cons, List.take_zero] at g1_7
    have g1_8 : Leafy Try.prog w m1 36 ((([c0, c1, c2, c3, c4, c5, c6, c7, c8, c9, c10, c11, c12, c13, c14, c15, c16, c17] : List Value).drop 9).take (Try.prog.cellsOf 36)) := hf1 8 _ rfl
    rw [e3] at g1_8
    simp only [List.drop_zero, List.drop_succ_cons, List.take_succ_cons, List.take_zero] at g1_8
    have g1_9 : Leafy Try.prog w m1 43 ((([c0, c1, c2, c3, c4, c5, c6, c7, c8, c9, c10, c11, c12, c13, c14, c15, c16, c17] : List Value).drop 16).take (Try.prog.cellsOf 43)) := hf1 9 _ rfl
    rw [e4] at g1_9
    simp only [List.drop_zero, List.drop_succ_cons, List.take_succ_cons, List.take_zero] at g1_9
    obtain ⟨z0, q0, w0⟩ := leafy_int Try.underlying5 g1_0
    obtain rfl : c0 = _ := List.head_eq_of_cons_eq q0
    have b0 := bounds_u8 w0
    obtain ⟨x0, rfl⟩ := Int.eq_ofNat_of_zero_le b0.1
    obtain ⟨m2, _, hf2⟩ := leafy_struct Try.underlying39 g1_1
    have g2_0 : Leafy Try.prog w m2 37 ((([c1, c2] : List Value).drop 0).take (Try.prog.cellsOf 37)) := hf2 0 _ rfl
    rw [e7] at g2_0
    simp only [List.drop_zero, List.drop_succ_cons, List.take_succ_cons, List.take_zero] at g2_0
    have g2_1 : Leafy Try.prog w m2 5 ((([c1, c2] : List Value).drop 1).take (Try.prog.cellsOf 5)) := hf2 1 _ rfl
    rw [e8] at g2_1
    simp only [List.drop_zero, List.drop_succ_cons, List.take_succ_cons, List.take_zero] at g2_1
    obtain ⟨z1, q1, w1⟩ := leafy_int Try.underlying37 g2_0
    obtain rfl : c1 = _ := List.head_eq_of_cons_eq q1
    have b1 := bounds_u64 w1
    obtain ⟨x1, rfl⟩ := Int.eq_ofNat_of_zero_le b1.1
    obtain ⟨z2, q2, w2⟩ := leafy_int Try.underlying5 g2_1
    obtain rfl : c2 = _ := List.head_eq_of_cons_eq q2
    have b2 := bounds_u8 w2
    obtain ⟨x2, rfl⟩ := Int.eq_ofNat_of_zero_le b2.1
    obtain ⟨z3, q3, w3⟩ := leafy_int Try.underlying37 g1_2
    obtain rfl : c3 = _ := List.head_eq_of_cons_eq q3
    have b3 := bounds_u64 w3
    obtain ⟨x3, rfl⟩ := Int.eq_ofNat_of_zero_le b3.1
    obtain ⟨z4, q4, w4⟩ := leafy_int Try.underlying37 g1_3
    obtain rfl : c4 = _ := List.head_eq_of_cons_eq q4
    have b4 := bounds_u64 w4
    obtain ⟨x4, rfl⟩ := Int.eq_ofNat_of_zero_le b4.1
    obtain ⟨z5, q5, w5⟩ := leafy_int Try.underlying5 g1_4
    obtain rfl : c5 = _ := List.head_eq_of_cons_eq q5
    have b5 := bounds_u8 w5
    obtain ⟨x5, rfl⟩ := Int.eq_ofNat_of_zero_le b5.1
    obtain ⟨x6, q6, b6⟩ := leafy_string Try.underlying9 g1_5
    obtain rfl : c6 = _ := List.head_eq_of_cons_eq q6
    obtain ⟨A7, k7, V7, q7, r7, f7, n7⟩ := leafy_vos g1_6
    obtain rfl : c7 = _ := List.head_eq_of_cons_eq q7
    obtain ⟨A8, k8, V8, q8, r8, f8, n8⟩ := leafy_ims g1_7
    obtain rfl : c8 = _ := List.head_eq_of_cons_eq q8
    obtain ⟨m3, _, hf3⟩ := leafy_struct Try.underlying36 g1_8
    have g3_0 : Leafy Try.prog w m3 5 ((([c9, c10, c11, c12, c13, c14, c15] : List Value).drop 0).take (Try.prog.cellsOf 5)) := hf3 0 _ rfl
    rw [e8] at g3_0
    simp only [List.drop_zero, List.drop_succ_cons, List.take_succ_cons, List.take_zero] at g3_0
    have g3_1 : Leafy Try.prog w m3 34 ((([c9, c10, c11, c12, c13, c14, c15] : List Value).drop 1).take (Try.prog.cellsOf 34)) := hf3 1 _ rfl
    rw [e6] at g3_1
    simp only [List.drop_zero, List.drop_succ_cons, List.take_succ_cons, List.take_zero] at g3_1
    have g3_2 : Leafy Try.prog w m3 5 ((([c9, c10, c11, c12, c13, c14, c15] : List Value).drop 2).take (Try.prog.cellsOf 5)) := hf3 2 _ rfl
    rw [e8] at g3_2
    simp only [List.drop_zero, List.drop_succ_cons, List.take_succ_cons, List.take_zero] at g3_2
    have g3_3 : Leafy Try.prog w m3 9 ((([c9, c10, c11, c12, c13, c14, c15] : List Value).drop 3).take (Try.prog.cellsOf 9)) := hf3 3 _ rfl
    rw [e5] at g3_3
    simp only [List.drop_zero, List.drop_succ_cons, List.take_succ_cons, List.take_zero] at g3_3
    have g3_4 : Leafy Try.prog w m3 9 ((([c9, c10, c11, c12, c13, c14, c15] : List Value).drop 4).take (Try.prog.cellsOf 9)) := hf3 4 _ rfl
    rw [e5] at g3_4
    simp only [List.drop_zero, List.drop_succ_cons, List.take_succ_cons, List.take_zero] at g3_4
    have g3_5 : Leafy Try.prog w m3 9 ((([c9, c10, c11, c12, c13, c14, c15] : List Value).drop 5).take (Try.prog.cellsOf 9)) := hf3 5 _ rfl
    rw [e5] at g3_5
    simp only [List.drop_zero, List.drop_succ_cons, List.take_succ_cons, List.take_zero] at g3_5
    have g3_6 : Leafy Try.prog w m3 5 ((([c9, c10, c11, c12, c13, c14, c15] : List Value).drop 6).take (Try.prog.cellsOf 5)) := hf3 6 _ rfl
    rw [e8] at g3_6
    simp only [List.drop_zero, List.drop_succ_cons, List.take_succ_cons, List.take_zero] at g3_6
    obtain ⟨z9, q9, w9⟩ := leafy_int Try.underlying5 g3_0
    obtain rfl : c9 = _ := List.head_eq_of_cons_eq q9
    have b9 := bounds_u8 w9
    obtain ⟨x9, rfl⟩ := Int.eq_ofNat_of_zero_le b9.1
    obtain ⟨z10, q10, w10⟩ := leafy_int Try.underlying34 g3_1
    obtain rfl : c10 = _ := List.head_eq_of_cons_eq q10
    have b10 := bounds_u32 w10
    obtain ⟨x10, rfl⟩ := Int.eq_ofNat_of_zero_le b10.1
    obtain ⟨z11, q11, w11⟩ := leafy_int Try.underlying5 g3_2
    obtain rfl : c11 = _ := List.head_eq_of_cons_eq q11
    have b11 := bounds_u8 w11
    obtain ⟨x11, rfl⟩ := Int.eq_ofNat_of_zero_le b11.1
    obtain ⟨x12, q12, b12⟩ := leafy_string Try.underlying9 g3_3
    obtain rfl : c12 = _ := List.head_eq_of_cons_eq q12
    obtain ⟨x13, q13, b13⟩ := leafy_string Try.underlying9 g3_4
    obtain rfl : c13 = _ := List.head_eq_of_cons_eq q13
    obtain ⟨x14, q14, b14⟩ := leafy_string Try.underlying9 g3_5
    obtain rfl : c14 = _ := List.head_eq_of_cons_eq q14
    obtain ⟨z15, q15, w15⟩ := leafy_int Try.underlying5 g3_6
    obtain rfl : c15 = _ := List.head_eq_of_cons_eq q15
    have b15 := bounds_u8 w15
    obtain ⟨x15, rfl⟩ := Int.eq_ofNat_of_zero_le b15.1
    obtain ⟨m4, _, hf4⟩ := leafy_struct Try.underlying43 g1_9
    have g4_0 : Leafy Try.prog w m4 5 ((([c16, c17] : List Value).drop 0).take (Try.prog.cellsOf 5)) := hf4 0 _ rfl
    rw [e8] at g4_0
    simp only [List.drop_zero, List.drop_succ_cons, List.take_succ_cons, List.take_zero] at g4_0
    have g4_1 : Leafy Try.prog w m4 9 ((([c16, c17] : List Value).drop 1).take (Try.prog.cellsOf 9)) := hf4 1 _ rfl
    rw [e5] at g4_1
    simp only [List.drop_zero, List.drop_succ_cons, List.take_succ_cons, List.take_zero] at g4_1
    obtain ⟨z16, q16, w16⟩ := leafy_int Try.underlying5 g4_0
    obtain rfl : c16 = _ := List.head_eq_of_cons_eq q16
    have b16 := bounds_u8 w16
    obtain ⟨x16, rfl⟩ := Int.eq_ofNat_of_zero_le b16.1
    obtain ⟨x17, q17, b17⟩ := leafy_string Try.underlying9 g4_1
    obtain rfl : c17 = _ := List.head_eq_of_cons_eq q17
    exact ⟨⟨x0, x1, x2, x3, x4, x5, x6, V7, V8, ⟨x9, x10, x11, x12, x13, x14, x15⟩, x16, x17⟩, A7, k7, A8, k8, ⟨(show x0 < 256 by omega), (show x1 < 18446744073709551616 by omega), (show x2 < 256 by omega), (show x3 < 18446744073709551616 by omega), (show x4 < 18446744073709551616 by omega), (show x5 < 256 by omega), f7, f8, ⟨(show x9 < 256 by omega), (show x10 < 4294967296 by omega), (show x11 < 256 by omega), b12, b13, b14, (show x15 < 256 by omega)⟩, (show x16 < 256 by omega)⟩, ⟨r7, r8⟩, ⟨n7, n8⟩, rfl⟩

set_option maxRecDepth 100000 in
theorem open_msg {H : Type} {enc : TypeId × Value → H} {w : World} {v : Value} {d : DataW H} {p : List MemPlace} (h : DataW.Trod enc Try.prog w 0 (fun _ => true) true 45 v d p) : ∃ (m : Ms) (A : Option Addr) (ka : Nat) (B : Option Addr) (kb : Nat), v = msV m A ka B kb ∧ m.Fits ∧ MsRows w m A B ∧ m.votes.length ≤ 9223372036854775807 ∧ m.items.length ≤ 9223372036854775807 := by
  obtain ⟨n, hn⟩ := leafy_trod h
  have hlen : v.cells.toList.length = 18 := by
    obtain ⟨m, hl, _⟩ := leafy_struct Try.underlying45 hn
    rw [hl]
    kernel_rfl
  obtain ⟨m, A, ka, B, kb, h1, h2, h3, he⟩ := dec_msg n _ hlen hn
  refine ⟨m, A, ka, B, kb, ?_, h1, h2, h3⟩
  cases v with
  | agg cs =>
    have e : cs.toList = _ := he
    exact congrArg Value.agg (Array.ext' e)
  | _ => simp [Value.cells] at hlen
end Go.Proofs.Yteiaiilfekojfaa.Msg
end
