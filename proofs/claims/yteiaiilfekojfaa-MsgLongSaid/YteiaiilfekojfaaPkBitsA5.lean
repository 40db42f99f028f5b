/- Texts that the proof of MsgBits and MsgLong leans on, put together (5 of 5). Conditions: each theorem states its own. -/
import Derived.Test.YteiaiilfekojfaaPkBitsA4
section
set_option linter.unusedVariables false
set_option linter.unusedSimpArgs false
namespace Go.Proofs.Yteiaiilfekojfaa.Msg
open Go.RowKit Sx Wire DrawInv
set_option maxRecDepth 100000 in
set_option maxHeartbeats 4000000 in
theorem rsame_lit (mk mn mr mb ms mo ca cb ck cz mc : Nat) (mv cs ct cu mt : List UInt8) (vl : List Vo) (il : List Im)(xk xn xr xb xs xo da db dk dz xc : Nat) (xv ds dt du xt : List UInt8) (wl : List Vo) (jl : List Im) (A B : Option Addr) (ka kb : Nat) (C D : Option Addr) (kc kd : Nat) (w : World) (hv : Rows w A 4 voL vl) (hi : Rows w B 2 imL il) (hv2 : Rows w C 4 voL wl) (hi2 : Rows w D 2 imL jl) (hl1 : vl.length ≤ 1000000) (hl2 : il.length ≤ 1000000) : Calls Try.prog 26 #[.agg #[.int .u8 (mk : Int), .int .u64 (mn : Int), .int .u8 (mr : Int), .int .u64 (mb : Int), .int .u64 (ms : Int), .int .u8 (mo : Int), .string ⟨mv.toArray⟩, .slice A vl.length ka, .slice B il.length kb, .int .u8 (ca : Int), .int .u32 (cb : Int), .int .u8 (ck : Int), .string ⟨cs.toArray⟩, .string ⟨ct.toArray⟩, .string ⟨cu.toArray⟩, .int .u8 (cz : Int), .int .u8 (mc : Int), .string ⟨mt.toArray⟩], .agg #[.int .u8 (xk : Int), .int .u64 (xn : Int), .int .u8 (xr : Int), .int .u64 (xb : Int), .int .u64 (xs : Int), .int .u8 (xo : Int), .string ⟨xv.toArray⟩, .slice C wl.length kc, .slice D jl.length kd, .int .u8 (da : Int), .int .u32 (db : Int), .int .u8 (dk : Int), .string ⟨ds.toArray⟩, .string ⟨dt.toArray⟩, .string ⟨du.toArray⟩, .int .u8 (dz : Int), .int .u8 (xc : Int), .string ⟨xt.toArray⟩]] w fun e w' => e = .returned (.bool (decide ((⟨mk, mn, mr, mb, ms, mo, mv, vl, il, ⟨ca, cb, ck, cs, ct, cu, cz⟩, mc, mt⟩ : Ms) = ⟨xk, xn, xr, xb, xs, xo, xv, wl, jl, ⟨da, db, dk, ds, dt, du, dz⟩, xc, xt⟩))) ∧ Below w.heap.size w w' := by
  refine sx_enter (n := 113) [.agg #[.int .u8 (mk : Int), .int .u64 (mn : Int), .int .u8 (mr : Int), .int .u64 (mb : Int), .int .u64 (ms : Int), .int .u8 (mo : Int), .string ⟨mv.toArray⟩, .slice A vl.length ka, .slice B il.length kb, .int .u8 (ca : Int), .int .u32 (cb : Int), .int .u8 (ck : Int), .string ⟨cs.toArray⟩, .string ⟨ct.toArray⟩, .string ⟨cu.toArray⟩, .int .u8 (cz : Int), .int .u8 (mc : Int), .string ⟨mt.toArray⟩], .agg #[.int .u8 (xk : Int), .int .u64 (xn : Int), .int .u8 (xr : Int), .int .u64 (xb : Int), .int .u64 (xs : Int), .int .u8 (xo : Int), .string ⟨xv.toArray⟩, .slice C wl.length kc, .slice D jl.length kd, .int .u8 (da : Int), .int .u32 (db : Int), .int .u8 (dk : Int), .string ⟨ds.toArray⟩, .string ⟨dt.toArray⟩, .string ⟨du.toArray⟩, .int .u8 (dz : Int), .int .u8 (xc : Int), .string ⟨xt.toArray⟩]] Try.func26 rfl rfl rfl (Hp.start w) ?_
  refine SxC.seq ?_
  refine SxC.region ?_
  refine SxL.new (cs := [.int .u8 (mk : Int), .int .u64 (mn : Int), .int .u8 (mr : Int), .int .u64 (mb : Int), .int .u64 (ms : Int), .int .u8 (mo : Int), .string ⟨mv.toArray⟩, .slice A vl.length ka, .slice B il.length kb, .int .u8 (ca : Int), .int .u32 (cb : Int), .int .u8 (ck : Int), .string ⟨cs.toArray⟩, .string ⟨ct.toArray⟩, .string ⟨cu.toArray⟩, .int .u8 (cz : Int), .int .u8 (mc : Int), .string ⟨mt.toArray⟩]) trivial rfl rfl (fun ρ w E H => ex_box E rfl rfl rfl) fun g1 hg1 => ?_
  refine SxL.new (cs := [.int .u8 (xk : Int), .int .u64 (xn : Int), .int .u8 (xr : Int), .int .u64 (xb : Int), .int .u64 (xs : Int), .int .u8 (xo : Int), .string ⟨xv.toArray⟩, .slice C wl.length kc, .slice D jl.length kd, .int .u8 (da : Int), .int .u32 (db : Int), .int .u8 (dk : Int), .string ⟨ds.toArray⟩, .string ⟨dt.toArray⟩, .string ⟨du.toArray⟩, .int .u8 (dz : Int), .int .u8 (xc : Int), .string ⟨xt.toArray⟩]) trivial rfl rfl (fun ρ w E H => ex_box E rfl rfl rfl) fun g2 hg2 => ?_
  refine SxL.val (v := .bool false) trivial rfl rfl (fun ρ w E H => ex_assign E rfl rfl) ?_
  refine SxL.nil ?_
  refine SxN.then_ ?_
  refine SxC.seq ?_
  refine SxC.seq ?_
  refine SxC.region ?_
  refine SxL.val (v := .pointer (some ⟨g1, 7, none⟩)) trivial rfl rfl (fun ρ w E H => ex_field E rfl fa_palaver_api_Msg_6 rfl rfl) ?_
  refine SxL.val (v := .slice A vl.length ka) trivial rfl rfl (fun ρ w E H => ex_load1 E (H.get (i := 1) rfl) rfl rfl Try.underlying40 rfl rfl) ?_
  refine SxL.val (v := .int .i64 (vl.length : Int)) trivial rfl rfl (fun ρ w E H => ex_lenS E rfl Try.underlying40 rfl) ?_
  refine SxL.val (v := .pointer (some ⟨g2, 7, none⟩)) trivial rfl rfl (fun ρ w E H => ex_field E rfl fa_palaver_api_Msg_6 rfl rfl) ?_
  refine SxL.val (v := .slice C wl.length kc) trivial rfl rfl (fun ρ w E H => ex_load1 E (H.get (i := 0) rfl) rfl rfl Try.underlying40 rfl rfl) ?_
  refine SxL.val (v := .int .i64 (wl.length : Int)) trivial rfl rfl (fun ρ w E H => ex_lenS E rfl Try.underlying40 rfl) ?_
  refine SxL.valB trivial rfl rfl (fun ρ w E H => ex_cmp E rfl rfl rfl rfl rfl) fun c13 hc13 => ?_
  refine SxL.val (v := .bool c13) trivial rfl rfl (fun ρ w E H => ex_move E rfl rfl) ?_
  cases c13
  · refine SxL.val (v := .pointer (some ⟨g1, 8, none⟩)) ⟨_, _, rfl, rfl, rfl⟩ rfl rfl (fun ρ w E H => ex_field E rfl fa_palaver_api_Msg_7 rfl rfl) ?_
    refine SxL.val (v := .slice B il.length kb) ⟨_, _, rfl, rfl, rfl⟩ rfl rfl (fun ρ w E H => ex_load1 E (H.get (i := 1) rfl) rfl rfl Try.underlying41 rfl rfl) ?_
    refine SxL.val (v := .int .i64 (il.length : Int)) ⟨_, _, rfl, rfl, rfl⟩ rfl rfl (fun ρ w E H => ex_lenS E rfl Try.underlying41 rfl) ?_
    refine SxL.val (v := .pointer (some ⟨g2, 8, none⟩)) ⟨_, _, rfl, rfl, rfl⟩ rfl rfl (fun ρ w E H => ex_field E rfl fa_palaver_api_Msg_7 rfl rfl) ?_
    refine SxL.val (v := .slice D jl.length kd) ⟨_, _, rfl, rfl, rfl⟩ rfl rfl (fun ρ w E H => ex_load1 E (H.get (i := 0) rfl) rfl rfl Try.underlying41 rfl rfl) ?_
    refine SxL.val (v := .int .i64 (jl.length : Int)) ⟨_, _, rfl, rfl, rfl⟩ rfl rfl (fun ρ w E H => ex_lenS E rfl Try.underlying41 rfl) ?_
    refine SxL.valB ⟨_, _, rfl, rfl, rfl⟩ rfl rfl (fun ρ w E H => ex_cmp E rfl rfl rfl rfl rfl) fun c21 hc21 => ?_
    refine SxL.val (v := .bool c21) trivial rfl rfl (fun ρ w E H => ex_pick E rfl (t := false) rfl rfl) ?_
    refine SxL.nil ?_
    refine SxN.then_ ?_
    cases c21
    · refine SxC.condF rfl ?_
      refine SxC.skip ?_
      refine SxN.then_ ?_
      refine SxC.seq ?_
      refine SxC.seq ?_
      refine SxC.region ?_
      refine SxL.val (v := .int .i64 0) trivial rfl rfl (fun ρ w E H => ex_assign E rfl rfl) ?_
      refine SxL.nil ?_
      refine SxN.then_ ?_
      refine SxC.block ?_
      refine SxC.loop1 (fun (k : Nat) => [(2, .pointer (some ⟨g1, 0, none⟩)), (3, .pointer (some ⟨g2, 0, none⟩)), (5, .int .i64 (k : Int))]) (fun (k : Nat) => [cell g2 45 [.int .u8 (xk : Int), .int .u64 (xn : Int), .int .u8 (xr : Int), .int .u64 (xb : Int), .int .u64 (xs : Int), .int .u8 (xo : Int), .string ⟨xv.toArray⟩, .slice C wl.length kc, .slice D jl.length kd, .int .u8 (da : Int), .int .u32 (db : Int), .int .u8 (dk : Int), .string ⟨ds.toArray⟩, .string ⟨dt.toArray⟩, .string ⟨du.toArray⟩, .int .u8 (dz : Int), .int .u8 (xc : Int), .string ⟨xt.toArray⟩], cell g1 45 [.int .u8 (mk : Int), .int .u64 (mn : Int), .int .u8 (mr : Int), .int .u64 (mb : Int), .int .u64 (ms : Int), .int .u8 (mo : Int), .string ⟨mv.toArray⟩, .slice A vl.length ka, .slice B il.length kb, .int .u8 (ca : Int), .int .u32 (cb : Int), .int .u8 (ck : Int), .string ⟨cs.toArray⟩, .string ⟨ct.toArray⟩, .string ⟨cu.toArray⟩, .int .u8 (cz : Int), .int .u8 (mc : Int), .string ⟨mt.toArray⟩]]) (fun (gk : Nat) (k : Nat) => k + gk = vl.length ∧ vl.take k = wl.take k ∧ vl.length = wl.length) vl.length 0 ⟨by omega, rfl, by have h := hc13; simp [cmpB] at h; omega⟩ ⟨rfl, rfl, rfl, trivial⟩ [0, 1] rfl (by decide) ⟨.inl rfl, .inl rfl, trivial⟩ fun gk k hF => ?_
      obtain ⟨hkg, hrel, hle⟩ := hF
      refine SxC.seq ?_
      refine SxC.seq ?_
      refine SxC.region ?_
      refine SxL.val (v := .int .i64 (k : Int)) trivial rfl rfl (fun ρ w E H => ex_move E rfl rfl) ?_
      refine SxL.val (v := .pointer (some ⟨g1, 7, none⟩)) trivial rfl rfl (fun ρ w E H => ex_field E rfl fa_palaver_api_Msg_6 rfl rfl) ?_
      refine SxL.val (v := .slice A vl.length ka) trivial rfl rfl (fun ρ w E H => ex_load1 E (H.get (i := 1) rfl) rfl rfl Try.underlying40 rfl rfl) ?_
      refine SxL.val (v := .int .i64 (vl.length : Int)) trivial rfl rfl (fun ρ w E H => ex_lenS E rfl Try.underlying40 rfl) ?_
      refine SxL.valB trivial rfl rfl (fun ρ w E H => ex_cmp E rfl rfl rfl rfl rfl) fun c27 hc27 => ?_
      refine SxL.nil ?_
      refine SxN.then_ ?_
      cases c27
      · refine SxC.condF rfl ?_
        refine SxC.exit ?_
        refine SxX.thenE ?_
        refine SxX.thenE ?_
        refine SxX.blockE ?_
        refine SxN.then_ ?_
        refine SxC.seq ?_
        refine SxC.seq ?_
        have hV : vl = wl := by have h := hc27; simp [cmpB] at h; rw [List.take_of_length_le (by omega), List.take_of_length_le (by omega)] at hrel; exact hrel
        refine SxC.region ?_
        refine SxL.val (v := .int .i64 0) trivial rfl rfl (fun ρ w E H => ex_assign E rfl rfl) ?_
        refine SxL.nil ?_
        refine SxN.then_ ?_
        refine SxC.block ?_
        refine SxC.loop1 (fun (k : Nat) => [(2, .pointer (some ⟨g1, 0, none⟩)), (3, .pointer (some ⟨g2, 0, none⟩)), (6, .int .i64 (k : Int))]) (fun (k : Nat) => [cell g2 45 [.int .u8 (xk : Int), .int .u64 (xn : Int), .int .u8 (xr : Int), .int .u64 (xb : Int), .int .u64 (xs : Int), .int .u8 (xo : Int), .string ⟨xv.toArray⟩, .slice C wl.length kc, .slice D jl.length kd, .int .u8 (da : Int), .int .u32 (db : Int), .int .u8 (dk : Int), .string ⟨ds.toArray⟩, .string ⟨dt.toArray⟩, .string ⟨du.toArray⟩, .int .u8 (dz : Int), .int .u8 (xc : Int), .string ⟨xt.toArray⟩], cell g1 45 [.int .u8 (mk : Int), .int .u64 (mn : Int), .int .u8 (mr : Int), .int .u64 (mb : Int), .int .u64 (ms : Int), .int .u8 (mo : Int), .string ⟨mv.toArray⟩, .slice A vl.length ka, .slice B il.length kb, .int .u8 (ca : Int), .int .u32 (cb : Int), .int .u8 (ck : Int), .string ⟨cs.toArray⟩, .string ⟨ct.toArray⟩, .string ⟨cu.toArray⟩, .int .u8 (cz : Int), .int .u8 (mc : Int), .string ⟨mt.toArray⟩]]) (fun (gk : Nat) (k : Nat) => k + gk = il.length ∧ il.take k = jl.take k ∧ il.length = jl.length) il.length 0 ⟨by omega, rfl, by have h := hc21; simp [cmpB] at h; omega⟩ ⟨rfl, rfl, rfl, trivial⟩ [0, 1] rfl (by decide) ⟨.inl rfl, .inl rfl, trivial⟩ fun gk k hF => ?_
        obtain ⟨hkg, hrel, hle⟩ := hF
        refine SxC.seq ?_
        refine SxC.seq ?_
        refine SxC.region ?_
        refine SxL.val (v := .int .i64 (k : Int)) trivial rfl rfl (fun ρ w E H => ex_move E rfl rfl) ?_
        refine SxL.val (v := .pointer (some ⟨g1, 8, none⟩)) trivial rfl rfl (fun ρ w E H => ex_field E rfl fa_palaver_api_Msg_7 rfl rfl) ?_
        refine SxL.val (v := .slice B il.length kb) trivial rfl rfl (fun ρ w E H => ex_load1 E (H.get (i := 1) rfl) rfl rfl Try.underlying41 rfl rfl) ?_
        refine SxL.val (v := .int .i64 (il.length : Int)) trivial rfl rfl (fun ρ w E H => ex_lenS E rfl Try.underlying41 rfl) ?_
        refine SxL.valB trivial rfl rfl (fun ρ w E H => ex_cmp E rfl rfl rfl rfl rfl) fun c45 hc45 => ?_
        refine SxL.nil ?_
        refine SxN.then_ ?_
        cases c45
        · refine SxC.condF rfl ?_
          refine SxC.exit ?_
          refine SxX.thenE ?_
          refine SxX.thenE ?_
          refine SxX.blockE ?_
          refine SxN.then_ ?_
          refine SxC.seq ?_
          have hI : il = jl := by have h := hc45; simp [cmpB] at h; rw [List.take_of_length_le (by omega), List.take_of_length_le (by omega)] at hrel; exact hrel
          refine SxC.region ?_
          refine SxL.val (v := .pointer (some ⟨g1, 0, none⟩)) trivial rfl rfl (fun ρ w E H => ex_field E rfl fa_palaver_api_Msg_0 rfl rfl) ?_
          refine SxL.val (v := .int .u8 (mk : Int)) trivial rfl rfl (fun ρ w E H => ex_load1 E (H.get (i := 1) rfl) rfl rfl Try.underlying5 rfl rfl) ?_
          refine SxL.val (v := .pointer (some ⟨g2, 0, none⟩)) trivial rfl rfl (fun ρ w E H => ex_field E rfl fa_palaver_api_Msg_0 rfl rfl) ?_
          refine SxL.val (v := .int .u8 (xk : Int)) trivial rfl rfl (fun ρ w E H => ex_load1 E (H.get (i := 0) rfl) rfl rfl Try.underlying5 rfl rfl) ?_
          refine SxL.valB trivial rfl rfl (fun ρ w E H => ex_cmp E rfl rfl rfl rfl rfl) fun c63 hc63 => ?_
          refine SxL.val (v := .bool c63) trivial rfl rfl (fun ρ w E H => ex_move E rfl rfl) ?_
          cases c63
          · refine SxL.off ⟨_, _, _, rfl, rfl, rfl, nofun⟩ rfl rfl ?_
            refine SxL.off ⟨_, _, _, rfl, rfl, rfl, nofun⟩ rfl rfl ?_
            refine SxL.off ⟨_, _, _, rfl, rfl, rfl, nofun⟩ rfl rfl ?_
            refine SxL.off ⟨_, _, _, rfl, rfl, rfl, nofun⟩ rfl rfl ?_
            refine SxL.off ⟨_, _, _, rfl, rfl, rfl, nofun⟩ rfl rfl ?_
            refine SxL.val (v := .bool false) trivial rfl rfl (fun ρ w E H => ex_pick E rfl (t := false) rfl rfl) ?_
            refine SxL.val (v := .bool false) trivial rfl rfl (fun ρ w E H => ex_move E rfl rfl) ?_
            refine SxL.off ⟨_, _, _, rfl, rfl, rfl, nofun⟩ rfl rfl ?_
            refine SxL.off ⟨_, _, _, rfl, rfl, rfl, nofun⟩ rfl rfl ?_
            refine SxL.off ⟨_, _, _, rfl, rfl, rfl, nofun⟩ rfl rfl ?_
            refine SxL.off ⟨_, _, _, rfl, rfl, rfl, nofun⟩ rfl rfl ?_
            refine SxL.off ⟨_, _, _, rfl, rfl, rfl, nofun⟩ rfl rfl ?_
            refine SxL.val (v := .bool false) trivial rfl rfl (fun ρ w E H => ex_pick E rfl (t := false) rfl rfl) ?_
            refine SxL.val (v := .bool false) trivial rfl rfl (fun ρ w E H => ex_move E rfl rfl) ?_
            refine SxL.off ⟨_, _, _, rfl, rfl, rfl, nofun⟩ rfl rfl ?_
            refine SxL.off ⟨_, _, _, rfl, rfl, rfl, nofun⟩ rfl rfl ?_
            refine SxL.off ⟨_, _, _, rfl, rfl, rfl, nofun⟩ rfl rfl ?_
            refine SxL.off ⟨_, _, _, rfl, rfl, rfl, nofun⟩ rfl rfl ?_
            refine SxL.off ⟨_, _, _, rfl, rfl, rfl, nofun⟩ rfl rfl ?_
            refine SxL.val (v := .bool false) trivial rfl rfl (fun ρ w E H => ex_pick E rfl (t := false) rfl rfl) ?_
            refine SxL.val (v := .bool false) trivial rfl rfl (fun ρ w E H => ex_move E rfl rfl) ?_
            refine SxL.off ⟨_, _, _, rfl, rfl, rfl, nofun⟩ rfl rfl ?_
            refine SxL.off ⟨_, _, _, rfl, rfl, rfl, nofun⟩ rfl rfl ?_
            refine SxL.off ⟨_, _, _, rfl, rfl, rfl, nofun⟩ rfl rfl ?_
            refine SxL.off ⟨_, _, _, rfl, rfl, rfl, nofun⟩ rfl rfl ?_
            refine SxL.off ⟨_, _, _, rfl, rfl, rfl, nofun⟩ rfl rfl ?_
            refine SxL.val (v := .bool false) trivial rfl rfl (fun ρ w E H => ex_pick E rfl (t := false) rfl rfl) ?_
            refine SxL.val (v := .bool false) trivial rfl rfl (fun ρ w E H => ex_move E rfl rfl) ?_
            refine SxL.off ⟨_, _, _, rfl, rfl, rfl, nofun⟩ rfl rfl ?_
            refine SxL.off ⟨_, _, _, rfl, rfl, rfl, nofun⟩ rfl rfl ?_
            refine SxL.off ⟨_, _, _, rfl, rfl, rfl, nofun⟩ rfl rfl ?_
            refine SxL.off ⟨_, _, _, rfl, rfl, rfl, nofun⟩ rfl rfl ?_
            refine SxL.off ⟨_, _, _, rfl, rfl, rfl, nofun⟩ rfl rfl ?_
            refine SxL.val (v := .bool false) trivial rfl rfl (fun ρ w E H => ex_pick E rfl (t := false) rfl rfl) ?_
            refine SxL.val (v := .bool false) trivial rfl rfl (fun ρ w E H => ex_move E rfl rfl) ?_
            refine SxL.off ⟨_, _, _, rfl, rfl, rfl, nofun⟩ rfl rfl ?_
            refine SxL.off ⟨_, _, _, rfl, rfl, rfl, nofun⟩ rfl rfl ?_
            refine SxL.off ⟨_, _, _, rfl, rfl, rfl, nofun⟩ rfl rfl ?_
            refine SxL.off ⟨_, _, _, rfl, rfl, rfl, nofun⟩ rfl rfl ?_
            refine SxL.off ⟨_, _, _, rfl, rfl, rfl, nofun⟩ rfl rfl ?_
            refine SxL.val (v := .bool false) trivial rfl rfl (fun ρ w E H => ex_pick E rfl (t := false) rfl rfl) ?_
            refine SxL.val (v := .bool false) trivial rfl rfl (fun ρ w E H => ex_move E rfl rfl) ?_
            refine SxL.off ⟨_, _, _, rfl, rfl, rfl, nofun⟩ rfl rfl ?_
            refine SxL.off ⟨_, _, _, rfl, rfl, rfl, nofun⟩ rfl rfl ?_
            refine SxL.off ⟨_, _, _, rfl, rfl, rfl, nofun⟩ rfl rfl ?_
            refine SxL.off ⟨_, _, _, rfl, rfl, rfl, nofun⟩ rfl rfl ?_
            refine SxL.off ⟨_, _, _, rfl, rfl, rfl, nofun⟩ rfl rfl ?_
            refine SxL.val (v := .bool false) trivial rfl rfl (fun ρ w E H => ex_pick E rfl (t := false) rfl rfl) ?_
            refine SxL.val (v := .bool false) trivial rfl rfl (fun ρ w E H => ex_assign E rfl rfl) ?_
            refine SxL.nil ?_
            refine SxN.then_ ?_
            refine SxC.ret ?_
            refine SxX.done (.bool false) (fun a w K H => res1 K rfl rfl) (fun w H => ?_)
            have hq : false = decide ((⟨mk, mn, mr, mb, ms, mo, mv, vl, il, ⟨ca, cb, ck, cs, ct, cu, cz⟩, mc, mt⟩ : Ms) = ⟨xk, xn, xr, xb, xs, xo, xv, wl, jl, ⟨da, db, dk, ds, dt, du, dz⟩, xc, xt⟩) := by clear H; grind [cmpB]
            exact ⟨by rw [hq], H.toBelow ⟨(fun g hg => by rw [List.mem_singleton.1 hg]; exact hg2), (fun g hg => by rw [List.mem_singleton.1 hg]; exact hg1), trivial⟩⟩
          · refine SxL.val (v := .pointer (some ⟨g1, 1, none⟩)) ⟨_, _, rfl, rfl, rfl⟩ rfl rfl (fun ρ w E H => ex_field E rfl fa_palaver_api_Msg_1 rfl rfl) ?_
            refine SxL.val (v := .agg #[.int .u64 (mn : Int), .int .u8 (mr : Int)]) ⟨_, _, rfl, rfl, rfl⟩ rfl rfl (fun ρ w E H => ex_load (part := [.int .u64 (mn : Int), .int .u8 (mr : Int)]) E (H.get (i := 1) rfl) rfl rfl Try.underlying39 rfl sz_palaver_api_Ballot rfl rfl) ?_
            refine SxL.val (v := .pointer (some ⟨g2, 1, none⟩)) ⟨_, _, rfl, rfl, rfl⟩ rfl rfl (fun ρ w E H => ex_field E rfl fa_palaver_api_Msg_1 rfl rfl) ?_
            refine SxL.val (v := .agg #[.int .u64 (xn : Int), .int .u8 (xr : Int)]) ⟨_, _, rfl, rfl, rfl⟩ rfl rfl (fun ρ w E H => ex_load (part := [.int .u64 (xn : Int), .int .u8 (xr : Int)]) E (H.get (i := 0) rfl) rfl rfl Try.underlying39 rfl sz_palaver_api_Ballot rfl rfl) ?_
            refine SxL.valB ⟨_, _, rfl, rfl, rfl⟩ rfl rfl (fun ρ w E H => ex_aeql E rfl (by kernel_rfl) rfl rfl (fun w => eq_bal mn mr xn xr w)) fun c69 hc69 => ?_
            refine SxL.val (v := .bool c69) trivial rfl rfl (fun ρ w E H => ex_pick E rfl (t := true) rfl rfl) ?_
            refine SxL.val (v := .bool c69) trivial rfl rfl (fun ρ w E H => ex_move E rfl rfl) ?_
            cases c69
            · refine SxL.off ⟨_, _, _, rfl, rfl, rfl, nofun⟩ rfl rfl ?_
              refine SxL.off ⟨_, _, _, rfl, rfl, rfl, nofun⟩ rfl rfl ?_
              refine SxL.off ⟨_, _, _, rfl, rfl, rfl, nofun⟩ rfl rfl ?_
              refine SxL.off ⟨_, _, _, rfl, rfl, rfl, nofun⟩ rfl rfl ?_
              refine SxL.off ⟨_, _, _, rfl, rfl, rfl, nofun⟩ rfl rfl ?_
              refine SxL.val (v := .bool false) trivial rfl rfl (fun ρ w E H => ex_pick E rfl (t := false) rfl rfl) ?_
              refine SxL.val (v := .bool false) trivial rfl rfl (fun ρ w E H => ex_move E rfl rfl) ?_
              refine SxL.off ⟨_, _, _, rfl, rfl, rfl, nofun⟩ rfl rfl ?_
              refine SxL.off ⟨_, _, _, rfl, rfl, rfl, nofun⟩ rfl rfl ?_
              refine SxL.off ⟨_, _, _, rfl, rfl, rfl, nofun⟩ rfl rfl ?_
              refine SxL.off ⟨_, _, _, rfl, rfl, rfl, nofun⟩ rfl rfl ?_
              refine SxL.off ⟨_, _, _, rfl, rfl, rfl, nofun⟩ rfl rfl ?_
              refine SxL.val (v := .bool false) trivial rfl rfl (fun ρ w E H => ex_pick E rfl (t := false) rfl rfl) ?_
              refine SxL.val (v := .bool false) trivial rfl rfl (fun ρ w E H => ex_move E rfl rfl) ?_
              refine SxL.off ⟨_, _, _, rfl, rfl, rfl, nofun⟩ rfl rfl ?_
              refine SxL.off ⟨_, _, _, rfl, rfl, rfl, nofun⟩ rfl rfl ?_
              refine SxL.off ⟨_, _, _, rfl, rfl, rfl, nofun⟩ rfl rfl ?_
              refine SxL.off ⟨_, _, _, rfl, rfl, rfl, nofun⟩ rfl rfl ?_
              refine SxL.off ⟨_, _, _, rfl, rfl, rfl, nofun⟩ rfl rfl ?_
              refine SxL.val (v := .bool false) trivial rfl rfl (fun ρ w E H => ex_pick E rfl (t := false) rfl rfl) ?_
              refine SxL.val (v := .bool false) trivial rfl rfl (fun ρ w E H => ex_move E rfl rfl) ?_
              refine SxL.off ⟨_, _, _, rfl, rfl, rfl, nofun⟩ rfl rfl ?_
              refine SxL.off ⟨_, _, _, rfl, rfl, rfl, nofun⟩ rfl rfl ?_
              refine SxL.off ⟨_, _, _, rfl, rfl, rfl, nofun⟩ rfl rfl ?_
              refine SxL.off ⟨_, _, _, rfl, rfl, rfl, nofun⟩ rfl rfl ?_
              refine SxL.off ⟨_, _, _, rfl, rfl, rfl, nofun⟩ rfl rfl ?_
              refine SxL.val (v := .bool false) trivial rfl rfl (fun ρ w E H => ex_pick E rfl (t := false) rfl rfl) ?_
              refine SxL.val (v := .bool false) trivial rfl rfl (fun ρ w E H => ex_move E rfl rfl) ?_
              refine SxL.off ⟨_, _, _, rfl, rfl, rfl, nofun⟩ rfl rfl ?_
              refine SxL.off ⟨_, _, _, rfl, rfl, rfl, nofun⟩ rfl rfl ?_
              refine SxL.off ⟨_, _, _, rfl, rfl, rfl, nofun⟩ rfl rfl ?_
              refine SxL.off ⟨_, _, _, rfl, rfl, rfl, nofun⟩ rfl rfl ?_
              refine SxL.off ⟨_, _, _, rfl, rfl, rfl, nofun⟩ rfl rfl ?_
              refine SxL.val (v := .bool false) trivial rfl rfl (fun ρ w E H => ex_pick E rfl (t := false) rfl rfl) ?_
              refine SxL.val (v := .bool false) trivial rfl rfl (fun ρ w E H => ex_move E rfl rfl) ?_
              refine SxL.off ⟨_, _, _, rfl, rfl, rfl, nofun⟩ rfl rfl ?_
              refine SxL.off ⟨_, _, _, rfl, rfl, rfl, nofun⟩ rfl rfl ?_
              refine SxL.off ⟨_, _, _, rfl, rfl, rfl, nofun⟩ rfl rfl ?_
              refine SxL.off ⟨_, _, _, rfl, rfl, rfl, nofun⟩ rfl rfl ?_
              refine SxL.off ⟨_, _, _, rfl, rfl, rfl, nofun⟩ rfl rfl ?_
              refine SxL.val (v := .bool false) trivial rfl rfl (fun ρ w E H => ex_pick E rfl (t := false) rfl rfl) ?_
              refine SxL.val (v := .bool false) trivial rfl rfl (fun ρ w E H => ex_assign E rfl rfl) ?_
              refine SxL.nil ?_
              refine SxN.then_ ?_
              refine SxC.ret ?_
              refine SxX.done (.bool false) (fun a w K H => res1 K rfl rfl) (fun w H => ?_)
              have hq : false = decide ((⟨mk, mn, mr, mb, ms, mo, mv, vl, il, ⟨ca, cb, ck, cs, ct, cu, cz⟩, mc, mt⟩ : Ms) = ⟨xk, xn, xr, xb, xs, xo, xv, wl, jl, ⟨da, db, dk, ds, dt, du, dz⟩, xc, xt⟩) := by clear H; grind [cmpB]
              exact ⟨by rw [hq], H.toBelow ⟨(fun g hg => by rw [List.mem_singleton.1 hg]; exact hg2), (fun g hg => by rw [List.mem_singleton.1 hg]; exact hg1), trivial⟩⟩
            · refine SxL.val (v := .pointer (some ⟨g1, 3, none⟩)) ⟨_, _, rfl, rfl, rfl⟩ rfl rfl (fun ρ w E H => ex_field E rfl fa_palaver_api_Msg_2 rfl rfl) ?_
              refine SxL.val (v := .int .u64 (mb : Int)) ⟨_, _, rfl, rfl, rfl⟩ rfl rfl (fun ρ w E H => ex_load1 E (H.get (i := 1) rfl) rfl rfl Try.underlying37 rfl rfl) ?_
              refine SxL.val (v := .pointer (some ⟨g2, 3, none⟩)) ⟨_, _, rfl, rfl, rfl⟩ rfl rfl (fun ρ w E H => ex_field E rfl fa_palaver_api_Msg_2 rfl rfl) ?_
              refine SxL.val (v := .int .u64 (xb : Int)) ⟨_, _, rfl, rfl, rfl⟩ rfl rfl (fun ρ w E H => ex_load1 E (H.get (i := 0) rfl) rfl rfl Try.underlying37 rfl rfl) ?_
              refine SxL.valB ⟨_, _, rfl, rfl, rfl⟩ rfl rfl (fun ρ w E H => ex_cmp E rfl rfl rfl rfl rfl) fun c76 hc76 => ?_
              refine SxL.val (v := .bool c76) trivial rfl rfl (fun ρ w E H => ex_pick E rfl (t := true) rfl rfl) ?_
              refine SxL.val (v := .bool c76) trivial rfl rfl (fun ρ w E H => ex_move E rfl rfl) ?_
              cases c76
              · refine SxL.off ⟨_, _, _, rfl, rfl, rfl, nofun⟩ rfl rfl ?_
                refine SxL.off ⟨_, _, _, rfl, rfl, rfl, nofun⟩ rfl rfl ?_
                refine SxL.off ⟨_, _, _, rfl, rfl, rfl, nofun⟩ rfl rfl ?_
                refine SxL.off ⟨_, _, _, rfl, rfl, rfl, nofun⟩ rfl rfl ?_
                refine SxL.off ⟨_, _, _, rfl, rfl, rfl, nofun⟩ rfl rfl ?_
                refine SxL.val (v := .bool false) trivial rfl rfl (fun ρ w E H => ex_pick E rfl (t := false) rfl rfl) ?_
                refine SxL.val (v := .bool false) trivial rfl rfl (fun ρ w E H => ex_move E rfl rfl) ?_
                refine SxL.off ⟨_, _, _, rfl, rfl, rfl, nofun⟩ rfl rfl ?_
                refine SxL.off ⟨_, _, _, rfl, rfl, rfl, nofun⟩ rfl rfl ?_
                refine SxL.off ⟨_, _, _, rfl, rfl, rfl, nofun⟩ rfl rfl ?_
                refine SxL.off ⟨_, _, _, rfl, rfl, rfl, nofun⟩ rfl rfl ?_
                refine SxL.off ⟨_, _, _, rfl, rfl, rfl, nofun⟩ rfl rfl ?_
                refine SxL.val (v := .bool false) trivial rfl rfl (fun ρ w E H => ex_pick E rfl (t := false) rfl rfl) ?_
                refine SxL.val (v := .bool false) trivial rfl rfl (fun ρ w E H => ex_move E rfl rfl) ?_
                refine SxL.off ⟨_, _, _, rfl, rfl, rfl, nofun⟩ rfl rfl ?_
                refine SxL.off ⟨_, _, _, rfl, rfl, rfl, nofun⟩ rfl rfl ?_
                refine SxL.off ⟨_, _, _, rfl, rfl, rfl, nofun⟩ rfl rfl ?_
                refine SxL.off ⟨_, _, _, rfl, rfl, rfl, nofun⟩ rfl rfl ?_
                refine SxL.off ⟨_, _, _, rfl, rfl, rfl, nofun⟩ rfl rfl ?_
                refine SxL.val (v := .bool false) trivial rfl rfl (fun ρ w E H => ex_pick E rfl (t := false) rfl rfl) ?_
                refine SxL.val (v := .bool false) trivial rfl rfl (fun ρ w E H => ex_move E rfl rfl) ?_
                refine SxL.off ⟨_, _, _, rfl, rfl, rfl, nofun⟩ rfl rfl ?_
                refine SxL.off ⟨_, _, _, rfl, rfl, rfl, nofun⟩ rfl rfl ?_
                refine SxL.off ⟨_, _, _, rfl, rfl, rfl, nofun⟩ rfl rfl ?_
                refine SxL.off ⟨_, _, _, rfl, rfl, rfl, nofun⟩ rfl rfl ?_
                refine SxL.off ⟨_, _, _, rfl, rfl, rfl, nofun⟩ rfl rfl ?_
                refine SxL.val (v := .bool false) trivial rfl rfl (fun ρ w E H => ex_pick E rfl (t := false) rfl rfl) ?_
                refine SxL.val (v := .bool false) trivial rfl rfl (fun ρ w E H => ex_move E rfl rfl) ?_
                refine SxL.off ⟨_, _, _, rfl, rfl, rfl, nofun⟩ rfl rfl ?_
                refine SxL.off ⟨_, _, _, rfl, rfl, rfl, nofun⟩ rfl rfl ?_
                refine SxL.off ⟨_, _, _, rfl, rfl, rfl, nofun⟩ rfl rfl ?_
                refine SxL.off ⟨_, _, _, rfl, rfl, rfl, nofun⟩ rfl rfl ?_
                refine SxL.off ⟨_, _, _, rfl, rfl, rfl, nofun⟩ rfl rfl ?_
                refine SxL.val (v := .bool false) trivial rfl rfl (fun ρ w E H => ex_pick E rfl (t := false) rfl rfl) ?_
                refine SxL.val (v := .bool false) trivial rfl rfl (fun ρ w E H => ex_assign E rfl rfl) ?_
                refine SxL.nil ?_
                refine SxN.then_ ?_
                refine SxC.ret ?_
                refine SxX.done (.bool false) (fun a w K H => res1 K rfl rfl) (fun w H => ?_)
                have hq : false = decide ((⟨mk, mn, mr, mb, ms, mo, mv, vl, il, ⟨ca, cb, ck, cs, ct, cu, cz⟩, mc, mt⟩ : Ms) = ⟨xk, xn, xr, xb, xs, xo, xv, wl, jl, ⟨da, db, dk, ds, dt, du, dz⟩, xc, xt⟩) := by clear H; grind [cmpB]
                exact ⟨by rw [hq], H.toBelow ⟨(fun g hg => by rw [List.mem_singleton.1 hg]; exact hg2), (fun g hg => by rw [List.mem_singleton.1 hg]; exact hg1), trivial⟩⟩
              · refine SxL.val (v := .pointer (some ⟨g1, 4, none⟩)) ⟨_, _, rfl, rfl, rfl⟩ rfl rfl (fun ρ w E H => ex_field E rfl fa_palaver_api_Msg_3 rfl rfl) ?_
                refine SxL.val (v := .int .u64 (ms : Int)) ⟨_, _, rfl, rfl, rfl⟩ rfl rfl (fun ρ w E H => ex_load1 E (H.get (i := 1) rfl) rfl rfl Try.underlying37 rfl rfl) ?_
                refine SxL.val (v := .pointer (some ⟨g2, 4, none⟩)) ⟨_, _, rfl, rfl, rfl⟩ rfl rfl (fun ρ w E H => ex_field E rfl fa_palaver_api_Msg_3 rfl rfl) ?_
                refine SxL.val (v := .int .u64 (xs : Int)) ⟨_, _, rfl, rfl, rfl⟩ rfl rfl (fun ρ w E H => ex_load1 E (H.get (i := 0) rfl) rfl rfl Try.underlying37 rfl rfl) ?_
                refine SxL.valB ⟨_, _, rfl, rfl, rfl⟩ rfl rfl (fun ρ w E H => ex_cmp E rfl rfl rfl rfl rfl) fun c83 hc83 => ?_
                refine SxL.val (v := .bool c83) trivial rfl rfl (fun ρ w E H => ex_pick E rfl (t := true) rfl rfl) ?_
                refine SxL.val (v := .bool c83) trivial rfl rfl (fun ρ w E H => ex_move E rfl rfl) ?_
                cases c83
                · refine SxL.off ⟨_, _, _, rfl, rfl, rfl, nofun⟩ rfl rfl ?_
                  refine SxL.off ⟨_, _, _, rfl, rfl, rfl, nofun⟩ rfl rfl ?_
                  refine SxL.off ⟨_, _, _, rfl, rfl, rfl, nofun⟩ rfl rfl ?_
                  refine SxL.off ⟨_, _, _, rfl, rfl, rfl, nofun⟩ rfl rfl ?_
                  refine SxL.off ⟨_, _, _, rfl, rfl, rfl, nofun⟩ rfl rfl ?_
                  refine SxL.val (v := .bool false) trivial rfl rfl (fun ρ w E H => ex_pick E rfl (t := false) rfl rfl) ?_
                  refine SxL.val (v := .bool false) trivial rfl rfl (fun ρ w E H => ex_move E rfl rfl) ?_
                  refine SxL.off ⟨_, _, _, rfl, rfl, rfl, nofun⟩ rfl rfl ?_
                  refine SxL.off ⟨_, _, _, rfl, rfl, rfl, nofun⟩ rfl rfl ?_
                  refine SxL.off ⟨_, _, _, rfl, rfl, rfl, nofun⟩ rfl rfl ?_
                  refine SxL.off ⟨_, _, _, rfl, rfl, rfl, nofun⟩ rfl rfl ?_
                  refine SxL.off ⟨_, _, _, rfl, rfl, rfl, nofun⟩ rfl rfl ?_
                  refine SxL.val (v := .bool false) trivial rfl rfl (fun ρ w E H => ex_pick E rfl (t := false) rfl rfl) ?_
                  refine SxL.val (v := .bool false) trivial rfl rfl (fun ρ w E H => ex_move E rfl rfl) ?_
                  refine SxL.off ⟨_, _, _, rfl, rfl, rfl, nofun⟩ rfl rfl ?_
                  refine SxL.off ⟨_, _, _, rfl, rfl, rfl, nofun⟩ rfl rfl ?_
                  refine SxL.off ⟨_, _, _, rfl, rfl, rfl, nofun⟩ rfl rfl ?_
                  refine SxL.off ⟨_, _, _, rfl, rfl, rfl, nofun⟩ rfl rfl ?_
                  refine SxL.off ⟨_, _, _, rfl, rfl, rfl, nofun⟩ rfl rfl ?_
                  refine SxL.val (v := .bool false) trivial rfl rfl (fun ρ w E H => ex_pick E rfl (t := false) rfl rfl) ?_
                  refine SxL.val (v := .bool false) trivial rfl rfl (fun ρ w E H => ex_move E rfl rfl) ?_
                  refine SxL.off ⟨_, _, _, rfl, rfl, rfl, nofun⟩ rfl rfl ?_
                  refine SxL.off ⟨_, _, _, rfl, rfl, rfl, nofun⟩ rfl rfl ?_
                  refine SxL.off ⟨_, _, _, rfl, rfl, rfl, nofun⟩ rfl rfl ?_
                  refine SxL.off ⟨_, _, _, rfl, rfl, rfl, nofun⟩ rfl rfl ?_
                  refine SxL.off ⟨_, _, _, rfl, rfl, rfl, nofun⟩ rfl rfl ?_
                  refine SxL.val (v := .bool false) trivial rfl rfl (fun ρ w E H => ex_pick E rfl (t := false) rfl rfl) ?_
                  refine SxL.val (v := .bool false) trivial rfl rfl (fun ρ w E H => ex_assign E rfl rfl) ?_
                  refine SxL.nil ?_
                  refine SxN.then_ ?_
                  refine SxC.ret ?_
                  refine SxX.done (.bool false) (fun a w K H => res1 K rfl rfl) (fun w H => ?_)
                  have hq : false = decide ((⟨mk, mn, mr, mb, ms, mo, mv, vl, il, ⟨ca, cb, ck, cs, ct, cu, cz⟩, mc, mt⟩ : Ms) = ⟨xk, xn, xr, xb, xs, xo, xv, wl, jl, ⟨da, db, dk, ds, dt, du, dz⟩, xc, xt⟩) := by clear H; grind [cmpB]
                  exact ⟨by rw [hq], H.toBelow ⟨(fun g hg => by rw [List.mem_singleton.1 hg]; exact hg2), (fun g hg => by rw [List.mem_singleton.1 hg]; exact hg1), trivial⟩⟩
                · refine SxL.val (v := .pointer (some ⟨g1, 5, none⟩)) ⟨_, _, rfl, rfl, rfl⟩ rfl rfl (fun ρ w E H => ex_field E rfl fa_palaver_api_Msg_4 rfl rfl) ?_
                  refine SxL.val (v := .int .u8 (mo : Int)) ⟨_, _, rfl, rfl, rfl⟩ rfl rfl (fun ρ w E H => ex_load1 E (H.get (i := 1) rfl) rfl rfl Try.underlying5 rfl rfl) ?_
                  refine SxL.val (v := .pointer (some ⟨g2, 5, none⟩)) ⟨_, _, rfl, rfl, rfl⟩ rfl rfl (fun ρ w E H => ex_field E rfl fa_palaver_api_Msg_4 rfl rfl) ?_
                  refine SxL.val (v := .int .u8 (xo : Int)) ⟨_, _, rfl, rfl, rfl⟩ rfl rfl (fun ρ w E H => ex_load1 E (H.get (i := 0) rfl) rfl rfl Try.underlying5 rfl rfl) ?_
                  refine SxL.valB ⟨_, _, rfl, rfl, rfl⟩ rfl rfl (fun ρ w E H => ex_cmp E rfl rfl rfl rfl rfl) fun c90 hc90 => ?_
                  refine SxL.val (v := .bool c90) trivial rfl rfl (fun ρ w E H => ex_pick E rfl (t := true) rfl rfl) ?_
                  refine SxL.val (v := .bool c90) trivial rfl rfl (fun ρ w E H => ex_move E rfl rfl) ?_
                  cases c90
                  · refine SxL.off ⟨_, _, _, rfl, rfl, rfl, nofun⟩ rfl rfl ?_
                    refine SxL.off ⟨_, _, _, rfl, rfl, rfl, nofun⟩ rfl rfl ?_
                    refine SxL.off ⟨_, _, _, rfl, rfl, rfl, nofun⟩ rfl rfl ?_
                    refine SxL.off ⟨_, _, _, rfl, rfl, rfl, nofun⟩ rfl rfl ?_
                    refine SxL.off ⟨_, _, _, rfl, rfl, rfl, nofun⟩ rfl rfl ?_
                    refine SxL.val (v := .bool false) trivial rfl rfl (fun ρ w E H => ex_pick E rfl (t := false) rfl rfl) ?_
                    refine SxL.val (v := .bool false) trivial rfl rfl (fun ρ w E H => ex_move E rfl rfl) ?_
                    refine SxL.off ⟨_, _, _, rfl, rfl, rfl, nofun⟩ rfl rfl ?_
                    refine SxL.off ⟨_, _, _, rfl, rfl, rfl, nofun⟩ rfl rfl ?_
                    refine SxL.off ⟨_, _, _, rfl, rfl, rfl, nofun⟩ rfl rfl ?_
                    refine SxL.off ⟨_, _, _, rfl, rfl, rfl, nofun⟩ rfl rfl ?_
                    refine SxL.off ⟨_, _, _, rfl, rfl, rfl, nofun⟩ rfl rfl ?_
                    refine SxL.val (v := .bool false) trivial rfl rfl (fun ρ w E H => ex_pick E rfl (t := false) rfl rfl) ?_
                    refine SxL.val (v := .bool false) trivial rfl rfl (fun ρ w E H => ex_move E rfl rfl) ?_
                    refine SxL.off ⟨_, _, _, rfl, rfl, rfl, nofun⟩ rfl rfl ?_
                    refine SxL.off ⟨_, _, _, rfl, rfl, rfl, nofun⟩ rfl rfl ?_
                    refine SxL.off ⟨_, _, _, rfl, rfl, rfl, nofun⟩ rfl rfl ?_
                    refine SxL.off ⟨_, _, _, rfl, rfl, rfl, nofun⟩ rfl rfl ?_
                    refine SxL.off ⟨_, _, _, rfl, rfl, rfl, nofun⟩ rfl rfl ?_
                    refine SxL.val (v := .bool false) trivial rfl rfl (fun ρ w E H => ex_pick E rfl (t := false) rfl rfl) ?_
                    refine SxL.val (v := .bool false) trivial rfl rfl (fun ρ w E H => ex_assign E rfl rfl) ?_
                    refine SxL.nil ?_
                    refine SxN.then_ ?_
                    refine SxC.ret ?_
                    refine SxX.done (.bool false) (fun a w K H => res1 K rfl rfl) (fun w H => ?_)
                    have hq : false = decide ((⟨mk, mn, mr, mb, ms, mo, mv, vl, il, ⟨ca, cb, ck, cs, ct, cu, cz⟩, mc, mt⟩ : Ms) = ⟨xk, xn, xr, xb, xs, xo, xv, wl, jl, ⟨da, db, dk, ds, dt, du, dz⟩, xc, xt⟩) := by clear H; grind [cmpB]
                    exact ⟨by rw [hq], H.toBelow ⟨(fun g hg => by rw [List.mem_singleton.1 hg]; exact hg2), (fun g hg => by rw [List.mem_singleton.1 hg]; exact hg1), trivial⟩⟩
                  · refine SxL.val (v := .pointer (some ⟨g1, 6, none⟩)) ⟨_, _, rfl, rfl, rfl⟩ rfl rfl (fun ρ w E H => ex_field E rfl fa_palaver_api_Msg_5 rfl rfl) ?_
                    refine SxL.val (v := .string ⟨mv.toArray⟩) ⟨_, _, rfl, rfl, rfl⟩ rfl rfl (fun ρ w E H => ex_load1 E (H.get (i := 1) rfl) rfl rfl Try.underlying9 rfl rfl) ?_
                    refine SxL.val (v := .pointer (some ⟨g2, 6, none⟩)) ⟨_, _, rfl, rfl, rfl⟩ rfl rfl (fun ρ w E H => ex_field E rfl fa_palaver_api_Msg_5 rfl rfl) ?_
                    refine SxL.val (v := .string ⟨xv.toArray⟩) ⟨_, _, rfl, rfl, rfl⟩ rfl rfl (fun ρ w E H => ex_load1 E (H.get (i := 0) rfl) rfl rfl Try.underlying9 rfl rfl) ?_
                    refine SxL.valB ⟨_, _, rfl, rfl, rfl⟩ rfl rfl (fun ρ w E H => ex_seql E rfl rfl rfl rfl) fun c97 hc97 => ?_
                    refine SxL.val (v := .bool c97) trivial rfl rfl (fun ρ w E H => ex_pick E rfl (t := true) rfl rfl) ?_
                    refine SxL.val (v := .bool c97) trivial rfl rfl (fun ρ w E H => ex_move E rfl rfl) ?_
                    cases c97
                    · refine SxL.off ⟨_, _, _, rfl, rfl, rfl, nofun⟩ rfl rfl ?_
                      refine SxL.off ⟨_, _, _, rfl, rfl, rfl, nofun⟩ rfl rfl ?_
                      refine SxL.off ⟨_, _, _, rfl, rfl, rfl, nofun⟩ rfl rfl ?_
                      refine SxL.off ⟨_, _, _, rfl, rfl, rfl, nofun⟩ rfl rfl ?_
                      refine SxL.off ⟨_, _, _, rfl, rfl, rfl, nofun⟩ rfl rfl ?_
                      refine SxL.val (v := .bool false) trivial rfl rfl (fun ρ w E H => ex_pick E rfl (t := false) rfl rfl) ?_
                      refine SxL.val (v := .bool false) trivial rfl rfl (fun ρ w E H => ex_move E rfl rfl) ?_
                      refine SxL.off ⟨_, _, _, rfl, rfl, rfl, nofun⟩ rfl rfl ?_
                      refine SxL.off ⟨_, _, _, rfl, rfl, rfl, nofun⟩ rfl rfl ?_
                      refine SxL.off ⟨_, _, _, rfl, rfl, rfl, nofun⟩ rfl rfl ?_
                      refine SxL.off ⟨_, _, _, rfl, rfl, rfl, nofun⟩ rfl rfl ?_
                      refine SxL.off ⟨_, _, _, rfl, rfl, rfl, nofun⟩ rfl rfl ?_
                      refine SxL.val (v := .bool false) trivial rfl rfl (fun ρ w E H => ex_pick E rfl (t := false) rfl rfl) ?_
                      refine SxL.val (v := .bool false) trivial rfl rfl (fun ρ w E H => ex_assign E rfl rfl) ?_
                      refine SxL.nil ?_
                      refine SxN.then_ ?_
                      refine SxC.ret ?_
                      refine SxX.done (.bool false) (fun a w K H => res1 K rfl rfl) (fun w H => ?_)
                      have hq : false = decide ((⟨mk, mn, mr, mb, ms, mo, mv, vl, il, ⟨ca, cb, ck, cs, ct, cu, cz⟩, mc, mt⟩ : Ms) = ⟨xk, xn, xr, xb, xs, xo, xv, wl, jl, ⟨da, db, dk, ds, dt, du, dz⟩, xc, xt⟩) := by clear H; grind [cmpB]
                      exact ⟨by rw [hq], H.toBelow ⟨(fun g hg => by rw [List.mem_singleton.1 hg]; exact hg2), (fun g hg => by rw [List.mem_singleton.1 hg]; exact hg1), trivial⟩⟩
                    · refine SxL.val (v := .pointer (some ⟨g1, 9, none⟩)) ⟨_, _, rfl, rfl, rfl⟩ rfl rfl (fun ρ w E H => ex_field E rfl fa_palaver_api_Msg_8 rfl rfl) ?_
                      refine SxL.val (v := .agg #[.int .u8 (ca : Int), .int .u32 (cb : Int), .int .u8 (ck : Int), .string ⟨cs.toArray⟩, .string ⟨ct.toArray⟩, .string ⟨cu.toArray⟩, .int .u8 (cz : Int)]) ⟨_, _, rfl, rfl, rfl⟩ rfl rfl (fun ρ w E H => ex_load (part := [.int .u8 (ca : Int), .int .u32 (cb : Int), .int .u8 (ck : Int), .string ⟨cs.toArray⟩, .string ⟨ct.toArray⟩, .string ⟨cu.toArray⟩, .int .u8 (cz : Int)]) E (H.get (i := 1) rfl) rfl rfl Try.underlying36 rfl sz_palaver_api_Cmd rfl rfl) ?_
                      refine SxL.val (v := .pointer (some ⟨g2, 9, none⟩)) ⟨_, _, rfl, rfl, rfl⟩ rfl rfl (fun ρ w E H => ex_field E rfl fa_palaver_api_Msg_8 rfl rfl) ?_
                      refine SxL.val (v := .agg #[.int .u8 (da : Int), .int .u32 (db : Int), .int .u8 (dk : Int), .string ⟨ds.toArray⟩, .string ⟨dt.toArray⟩, .string ⟨du.toArray⟩, .int .u8 (dz : Int)]) ⟨_, _, rfl, rfl, rfl⟩ rfl rfl (fun ρ w E H => ex_load (part := [.int .u8 (da : Int), .int .u32 (db : Int), .int .u8 (dk : Int), .string ⟨ds.toArray⟩, .string ⟨dt.toArray⟩, .string ⟨du.toArray⟩, .int .u8 (dz : Int)]) E (H.get (i := 0) rfl) rfl rfl Try.underlying36 rfl sz_palaver_api_Cmd rfl rfl) ?_
                      refine SxL.valB ⟨_, _, rfl, rfl, rfl⟩ rfl rfl (fun ρ w E H => ex_aeql E rfl (by kernel_rfl) rfl rfl (fun w => eq_cm (⟨ca, cb, ck, cs, ct, cu, cz⟩ : Cmd.Cm) ⟨da, db, dk, ds, dt, du, dz⟩ w)) fun c104 hc104 => ?_
                      refine SxL.val (v := .bool c104) trivial rfl rfl (fun ρ w E H => ex_pick E rfl (t := true) rfl rfl) ?_
                      refine SxL.val (v := .bool c104) trivial rfl rfl (fun ρ w E H => ex_move E rfl rfl) ?_
                      cases c104
                      · refine SxL.off ⟨_, _, _, rfl, rfl, rfl, nofun⟩ rfl rfl ?_
                        refine SxL.off ⟨_, _, _, rfl, rfl, rfl, nofun⟩ rfl rfl ?_
                        refine SxL.off ⟨_, _, _, rfl, rfl, rfl, nofun⟩ rfl rfl ?_
                        refine SxL.off ⟨_, _, _, rfl, rfl, rfl, nofun⟩ rfl rfl ?_
                        refine SxL.off ⟨_, _, _, rfl, rfl, rfl, nofun⟩ rfl rfl ?_
                        refine SxL.val (v := .bool false) trivial rfl rfl (fun ρ w E H => ex_pick E rfl (t := false) rfl rfl) ?_
                        refine SxL.val (v := .bool false) trivial rfl rfl (fun ρ w E H => ex_assign E rfl rfl) ?_
                        refine SxL.nil ?_
                        refine SxN.then_ ?_
                        refine SxC.ret ?_
                        refine SxX.done (.bool false) (fun a w K H => res1 K rfl rfl) (fun w H => ?_)
                        have hq : false = decide ((⟨mk, mn, mr, mb, ms, mo, mv, vl, il, ⟨ca, cb, ck, cs, ct, cu, cz⟩, mc, mt⟩ : Ms) = ⟨xk, xn, xr, xb, xs, xo, xv, wl, jl, ⟨da, db, dk, ds, dt, du, dz⟩, xc, xt⟩) := by clear H; grind [cmpB]
                        exact ⟨by rw [hq], H.toBelow ⟨(fun g hg => by rw [List.mem_singleton.1 hg]; exact hg2), (fun g hg => by rw [List.mem_singleton.1 hg]; exact hg1), trivial⟩⟩
                      · refine SxL.val (v := .pointer (some ⟨g1, 16, none⟩)) ⟨_, _, rfl, rfl, rfl⟩ rfl rfl (fun ρ w E H => ex_field E rfl fa_palaver_api_Msg_9 rfl rfl) ?_
                        refine SxL.val (v := .agg #[.int .u8 (mc : Int), .string ⟨mt.toArray⟩]) ⟨_, _, rfl, rfl, rfl⟩ rfl rfl (fun ρ w E H => ex_load (part := [.int .u8 (mc : Int), .string ⟨mt.toArray⟩]) E (H.get (i := 1) rfl) rfl rfl Try.underlying43 rfl sz_palaver_api_Reply rfl rfl) ?_
                        refine SxL.val (v := .pointer (some ⟨g2, 16, none⟩)) ⟨_, _, rfl, rfl, rfl⟩ rfl rfl (fun ρ w E H => ex_field E rfl fa_palaver_api_Msg_9 rfl rfl) ?_
                        refine SxL.val (v := .agg #[.int .u8 (xc : Int), .string ⟨xt.toArray⟩]) ⟨_, _, rfl, rfl, rfl⟩ rfl rfl (fun ρ w E H => ex_load (part := [.int .u8 (xc : Int), .string ⟨xt.toArray⟩]) E (H.get (i := 0) rfl) rfl rfl Try.underlying43 rfl sz_palaver_api_Reply rfl rfl) ?_
                        refine SxL.valB ⟨_, _, rfl, rfl, rfl⟩ rfl rfl (fun ρ w E H => ex_aeql E rfl (by kernel_rfl) rfl rfl (fun w => eq_ry mc xc mt xt w)) fun c111 hc111 => ?_
                        refine SxL.val (v := .bool c111) trivial rfl rfl (fun ρ w E H => ex_pick E rfl (t := true) rfl rfl) ?_
                        refine SxL.val (v := .bool c111) trivial rfl rfl (fun ρ w E H => ex_assign E rfl rfl) ?_
                        refine SxL.nil ?_
                        refine SxN.then_ ?_
                        refine SxC.ret ?_
                        refine SxX.done (.bool c111) (fun a w K H => res1 K rfl rfl) (fun w H => ?_)
                        have hq : c111 = decide ((⟨mk, mn, mr, mb, ms, mo, mv, vl, il, ⟨ca, cb, ck, cs, ct, cu, cz⟩, mc, mt⟩ : Ms) = ⟨xk, xn, xr, xb, xs, xo, xv, wl, jl, ⟨da, db, dk, ds, dt, du, dz⟩, xc, xt⟩) := by
                          clear H hrel
                          have e1 : mk = xk ∧ mb = xb ∧ ms = xs ∧ mo = xo ∧ mn = xn ∧ mr = xr ∧ mv = xv := by clear hc104 hc111; grind [cmpB]
                          obtain ⟨rfl, rfl, rfl, rfl, rfl, rfl, rfl⟩ := e1
                          subst hV hI
                          have e2 := of_decide_eq_true hc104
                          injection e2 with f1 f2 f3 f4 f5 f6 f7
                          subst f1 f2 f3 f4 f5 f6 f7
                          rw [← hc111]
                          apply Bool.eq_iff_iff.2
                          simp
                        exact ⟨by rw [hq], H.toBelow ⟨(fun g hg => by rw [List.mem_singleton.1 hg]; exact hg2), (fun g hg => by rw [List.mem_singleton.1 hg]; exact hg1), trivial⟩⟩
        · refine SxC.condT rfl ?_
          refine SxC.skip ?_
          refine SxN.then_ ?_
          refine SxC.seq ?_
          refine SxC.block ?_
          refine SxC.seq ?_
          have hkl : k < il.length := by have h := hc45; simp [cmpB] at h; omega
          have hkl2 : k < jl.length := by omega
          obtain ⟨x, hx⟩ : ∃ x, il[k]? = some x := ⟨_, List.getElem?_eq_getElem hkl⟩
          obtain ⟨y, hy⟩ : ∃ x, jl[k]? = some x := ⟨_, List.getElem?_eq_getElem hkl2⟩
          obtain ⟨a1, rfl, -, -⟩ := hi.row hx
          obtain ⟨a2, rfl, -, -⟩ := hi2.row hy
          refine SxC.drawnK [] [0, 1] (by kernel_rfl) rfl ⟨(fun g hg => by rw [List.mem_singleton.1 hg]; exact .inr hg2), (fun g hg => by rw [List.mem_singleton.1 hg]; exact .inr hg1), trivial⟩ ?_
          refine SxA.take (i := 0) (v := .pointer (some ⟨g1, 8, none⟩)) rfl (by kernel_rfl) (by kernel_rfl) (by kernel_rfl) rfl rfl (fun _ _ _ h => h) trivial (fun ρ w E H => ex_field E rfl fa_palaver_api_Msg_7 rfl rfl) ?_
          refine SxA.take (i := 1) (v := .slice (some a1) il.length kb) rfl (by kernel_rfl) (by kernel_rfl) (by kernel_rfl) rfl rfl (fun _ _ _ h => h) trivial (fun ρ w E H => ex_load1 E (H.get (i := 1) rfl) rfl rfl Try.underlying41 rfl rfl) ?_
          refine SxA.take (i := 2) (v := .int .i64 (k : Int)) rfl (by kernel_rfl) (by kernel_rfl) (by kernel_rfl) rfl rfl (fun _ _ _ h => h) trivial (fun ρ w E H => ex_move E rfl rfl) ?_
          refine SxA.take (i := 3) (v := .pointer (some (a1.add (k * 2)))) rfl (by kernel_rfl) (by kernel_rfl) (by kernel_rfl) rfl rfl (fun _ _ _ h => h) trivial (fun ρ w E H => ex_index (i := k) E rfl Try.underlying41 sz_palaver_api_Item rfl rfl hkl) ?_
          refine SxA.take (i := 4) (v := .agg #[.int .u64 (x.slot : Int), .string ⟨x.value.toArray⟩]) rfl (by kernel_rfl) (by kernel_rfl) (by kernel_rfl) rfl rfl (fun _ _ _ h => h) trivial (fun ρ w E H => ex_loadX (cs := [.int .u64 (x.slot : Int), .string ⟨x.value.toArray⟩]) E ((hi.below (H.os.below (Nat.le_refl _) (by simp))).rowA hx) rfl rfl Try.underlying78 rfl sz_palaver_api_Item) ?_
          refine SxA.take (i := 5) (v := .pointer (some ⟨g2, 8, none⟩)) rfl (by kernel_rfl) (by kernel_rfl) (by kernel_rfl) rfl rfl (fun _ _ _ h => h) trivial (fun ρ w E H => ex_field E rfl fa_palaver_api_Msg_7 rfl rfl) ?_
          refine SxA.take (i := 6) (v := .slice (some a2) jl.length kd) rfl (by kernel_rfl) (by kernel_rfl) (by kernel_rfl) rfl rfl (fun _ _ _ h => h) trivial (fun ρ w E H => ex_load1 E (H.get (i := 0) rfl) rfl rfl Try.underlying41 rfl rfl) ?_
          refine SxA.take (i := 7) (v := .int .i64 (k : Int)) rfl (by kernel_rfl) (by kernel_rfl) (by kernel_rfl) rfl rfl (fun _ _ _ h => h) trivial (fun ρ w E H => ex_move E rfl rfl) ?_
          refine SxA.take (i := 8) (v := .pointer (some (a2.add (k * 2)))) rfl (by kernel_rfl) (by kernel_rfl) (by kernel_rfl) rfl rfl (fun _ _ _ h => h) trivial (fun ρ w E H => ex_index (i := k) E rfl Try.underlying41 sz_palaver_api_Item rfl rfl hkl2) ?_
          refine SxA.take (i := 9) (v := .agg #[.int .u64 (y.slot : Int), .string ⟨y.value.toArray⟩]) rfl (by kernel_rfl) (by kernel_rfl) (by kernel_rfl) rfl rfl (fun _ _ _ h => h) trivial (fun ρ w E H => ex_loadX (cs := [.int .u64 (y.slot : Int), .string ⟨y.value.toArray⟩]) E ((hi2.below (H.os.below (Nat.le_refl _) (by simp))).rowA hy) rfl rfl Try.underlying78 rfl sz_palaver_api_Item) ?_
          refine SxA.takeB (i := 10) rfl (by kernel_rfl) (by kernel_rfl) (by kernel_rfl) rfl rfl (fun _ _ _ h => h) trivial (fun ρ w E H => ex_aneq E rfl (by kernel_rfl) rfl rfl (fun w => by rw [Bool.not_not]; exact eq_im x y w)) fun c58 hc58 => ?_
          refine SxA.done (by kernel_rfl) ?_
          refine SxN.then_ ?_
          cases c58
          · refine SxC.condF rfl ?_
            refine SxC.skip ?_
            refine SxN.block ?_
            refine SxN.then_ ?_
            refine SxC.region ?_
            refine SxL.val (v := .int .i64 (k : Int)) trivial rfl rfl (fun ρ w E H => ex_move E rfl rfl) ?_
            refine SxL.val (v := .int .i64 ((k + 1 : Nat) : Int)) trivial rfl rfl (fun ρ w E H => ex_add E rfl rfl rfl (by rw [IntKind.wrap_i64]; omega)) ?_
            refine SxL.val (v := .int .i64 ((k + 1 : Nat) : Int)) trivial rfl rfl (fun ρ w E H => ex_assign E rfl rfl) ?_
            refine SxL.nil ?_
            refine SxN.back (gk - 1) (k + 1) (by omega) ⟨by omega, by rw [take_snoc hx, take_snoc hy, hrel]; have h24 : x = y := (by simpa using hc58); rw [h24], hle⟩ ⟨rfl, rfl, rfl, trivial⟩ [0, 1] rfl (by decide) ⟨.inl rfl, .inl rfl, trivial⟩
          · refine SxC.condT rfl ?_
            refine SxC.seq ?_
            refine SxC.region ?_
            refine SxL.val (v := .bool false) trivial rfl rfl (fun ρ w E H => ex_assign E rfl rfl) ?_
            refine SxL.nil ?_
            refine SxN.then_ ?_
            refine SxC.ret ?_
            refine SxX.blockR ?_
            refine SxX.thenR ?_
            refine SxX.thenR ?_
            refine SxX.blockR ?_
            refine SxX.thenR ?_
            refine SxX.done (.bool false) (fun a w K H => res1 K rfl rfl) (fun w H => ?_)
            have hq : false = decide ((⟨mk, mn, mr, mb, ms, mo, mv, vl, il, ⟨ca, cb, ck, cs, ct, cu, cz⟩, mc, mt⟩ : Ms) = ⟨xk, xn, xr, xb, xs, xo, xv, wl, jl, ⟨da, db, dk, ds, dt, du, dz⟩, xc, xt⟩) := by clear H; grind [cmpB]
            exact ⟨by rw [hq], H.toBelow ⟨(fun g hg => by rw [List.mem_singleton.1 hg]; exact hg2), (fun g hg => by rw [List.mem_singleton.1 hg]; exact hg1), trivial⟩⟩
      · refine SxC.condT rfl ?_
        refine SxC.skip ?_
        refine SxN.then_ ?_
        refine SxC.seq ?_
        refine SxC.block ?_
        refine SxC.seq ?_
        have hkl : k < vl.length := by have h := hc27; simp [cmpB] at h; omega
        have hkl2 : k < wl.length := by omega
        obtain ⟨x, hx⟩ : ∃ x, vl[k]? = some x := ⟨_, List.getElem?_eq_getElem hkl⟩
        obtain ⟨y, hy⟩ : ∃ x, wl[k]? = some x := ⟨_, List.getElem?_eq_getElem hkl2⟩
        obtain ⟨a1, rfl, -, -⟩ := hv.row hx
        obtain ⟨a2, rfl, -, -⟩ := hv2.row hy
        refine SxC.drawnK [] [0, 1] (by kernel_rfl) rfl ⟨(fun g hg => by rw [List.mem_singleton.1 hg]; exact .inr hg2), (fun g hg => by rw [List.mem_singleton.1 hg]; exact .inr hg1), trivial⟩ ?_
        refine SxA.take (i := 0) (v := .pointer (some ⟨g1, 7, none⟩)) rfl (by kernel_rfl) (by kernel_rfl) (by kernel_rfl) rfl rfl (fun _ _ _ h => h) trivial (fun ρ w E H => ex_field E rfl fa_palaver_api_Msg_6 rfl rfl) ?_
        refine SxA.take (i := 1) (v := .slice (some a1) vl.length ka) rfl (by kernel_rfl) (by kernel_rfl) (by kernel_rfl) rfl rfl (fun _ _ _ h => h) trivial (fun ρ w E H => ex_load1 E (H.get (i := 1) rfl) rfl rfl Try.underlying40 rfl rfl) ?_
        refine SxA.take (i := 2) (v := .int .i64 (k : Int)) rfl (by kernel_rfl) (by kernel_rfl) (by kernel_rfl) rfl rfl (fun _ _ _ h => h) trivial (fun ρ w E H => ex_move E rfl rfl) ?_
        refine SxA.take (i := 3) (v := .pointer (some (a1.add (k * 4)))) rfl (by kernel_rfl) (by kernel_rfl) (by kernel_rfl) rfl rfl (fun _ _ _ h => h) trivial (fun ρ w E H => ex_index (i := k) E rfl Try.underlying40 sz_palaver_api_Vote rfl rfl hkl) ?_
        refine SxA.take (i := 4) (v := .agg #[.int .u64 (x.slot : Int), .int .u64 (x.n : Int), .int .u8 (x.r : Int), .string ⟨x.value.toArray⟩]) rfl (by kernel_rfl) (by kernel_rfl) (by kernel_rfl) rfl rfl (fun _ _ _ h => h) trivial (fun ρ w E H => ex_loadX (cs := [.int .u64 (x.slot : Int), .int .u64 (x.n : Int), .int .u8 (x.r : Int), .string ⟨x.value.toArray⟩]) E ((hv.below (H.os.below (Nat.le_refl _) (by simp))).rowA hx) rfl rfl Try.underlying76 rfl sz_palaver_api_Vote) ?_
        refine SxA.take (i := 5) (v := .pointer (some ⟨g2, 7, none⟩)) rfl (by kernel_rfl) (by kernel_rfl) (by kernel_rfl) rfl rfl (fun _ _ _ h => h) trivial (fun ρ w E H => ex_field E rfl fa_palaver_api_Msg_6 rfl rfl) ?_
        refine SxA.take (i := 6) (v := .slice (some a2) wl.length kc) rfl (by kernel_rfl) (by kernel_rfl) (by kernel_rfl) rfl rfl (fun _ _ _ h => h) trivial (fun ρ w E H => ex_load1 E (H.get (i := 0) rfl) rfl rfl Try.underlying40 rfl rfl) ?_
        refine SxA.take (i := 7) (v := .int .i64 (k : Int)) rfl (by kernel_rfl) (by kernel_rfl) (by kernel_rfl) rfl rfl (fun _ _ _ h => h) trivial (fun ρ w E H => ex_move E rfl rfl) ?_
        refine SxA.take (i := 8) (v := .pointer (some (a2.add (k * 4)))) rfl (by kernel_rfl) (by kernel_rfl) (by kernel_rfl) rfl rfl (fun _ _ _ h => h) trivial (fun ρ w E H => ex_index (i := k) E rfl Try.underlying40 sz_palaver_api_Vote rfl rfl hkl2) ?_
        refine SxA.take (i := 9) (v := .agg #[.int .u64 (y.slot : Int), .int .u64 (y.n : Int), .int .u8 (y.r : Int), .string ⟨y.value.toArray⟩]) rfl (by kernel_rfl) (by kernel_rfl) (by kernel_rfl) rfl rfl (fun _ _ _ h => h) trivial (fun ρ w E H => ex_loadX (cs := [.int .u64 (y.slot : Int), .int .u64 (y.n : Int), .int .u8 (y.r : Int), .string ⟨y.value.toArray⟩]) E ((hv2.below (H.os.below (Nat.le_refl _) (by simp))).rowA hy) rfl rfl Try.underlying76 rfl sz_palaver_api_Vote) ?_
        refine SxA.takeB (i := 10) rfl (by kernel_rfl) (by kernel_rfl) (by kernel_rfl) rfl rfl (fun _ _ _ h => h) trivial (fun ρ w E H => ex_aneq E rfl (by kernel_rfl) rfl rfl (fun w => by rw [Bool.not_not]; exact eq_vo x y w)) fun c40 hc40 => ?_
        refine SxA.done (by kernel_rfl) ?_
        refine SxN.then_ ?_
        cases c40
        · refine SxC.condF rfl ?_
          refine SxC.skip ?_
          refine SxN.block ?_
          refine SxN.then_ ?_
          refine SxC.region ?_
          refine SxL.val (v := .int .i64 (k : Int)) trivial rfl rfl (fun ρ w E H => ex_move E rfl rfl) ?_
          refine SxL.val (v := .int .i64 ((k + 1 : Nat) : Int)) trivial rfl rfl (fun ρ w E H => ex_add E rfl rfl rfl (by rw [IntKind.wrap_i64]; omega)) ?_
          refine SxL.val (v := .int .i64 ((k + 1 : Nat) : Int)) trivial rfl rfl (fun ρ w E H => ex_assign E rfl rfl) ?_
          refine SxL.nil ?_
          refine SxN.back (gk - 1) (k + 1) (by omega) ⟨by omega, by rw [take_snoc hx, take_snoc hy, hrel]; have h24 : x = y := (by simpa using hc40); rw [h24], hle⟩ ⟨rfl, rfl, rfl, trivial⟩ [0, 1] rfl (by decide) ⟨.inl rfl, .inl rfl, trivial⟩
        · refine SxC.condT rfl ?_
          refine SxC.seq ?_
          refine SxC.region ?_
          refine SxL.val (v := .bool false) trivial rfl rfl (fun ρ w E H => ex_assign E rfl rfl) ?_
          refine SxL.nil ?_
          refine SxN.then_ ?_
          refine SxC.ret ?_
          refine SxX.blockR ?_
          refine SxX.thenR ?_
          refine SxX.thenR ?_
          refine SxX.blockR ?_
          refine SxX.thenR ?_
          refine SxX.done (.bool false) (fun a w K H => res1 K rfl rfl) (fun w H => ?_)
          have hq : false = decide ((⟨mk, mn, mr, mb, ms, mo, mv, vl, il, ⟨ca, cb, ck, cs, ct, cu, cz⟩, mc, mt⟩ : Ms) = ⟨xk, xn, xr, xb, xs, xo, xv, wl, jl, ⟨da, db, dk, ds, dt, du, dz⟩, xc, xt⟩) := by clear H; grind [cmpB]
          exact ⟨by rw [hq], H.toBelow ⟨(fun g hg => by rw [List.mem_singleton.1 hg]; exact hg2), (fun g hg => by rw [List.mem_singleton.1 hg]; exact hg1), trivial⟩⟩
    · refine SxC.condT rfl ?_
      refine SxC.seq ?_
      refine SxC.region ?_
      refine SxL.val (v := .bool false) trivial rfl rfl (fun ρ w E H => ex_assign E rfl rfl) ?_
      refine SxL.nil ?_
      refine SxN.then_ ?_
      refine SxC.ret ?_
      refine SxX.thenR ?_
      refine SxX.done (.bool false) (fun a w K H => res1 K rfl rfl) (fun w H => ?_)
      have hq : false = decide ((⟨mk, mn, mr, mb, ms, mo, mv, vl, il, ⟨ca, cb, ck, cs, ct, cu, cz⟩, mc, mt⟩ : Ms) = ⟨xk, xn, xr, xb, xs, xo, xv, wl, jl, ⟨da, db, dk, ds, dt, du, dz⟩, xc, xt⟩) := by clear H; grind [cmpB]
      exact ⟨by rw [hq], H.toBelow ⟨(fun g hg => by rw [List.mem_singleton.1 hg]; exact hg2), (fun g hg => by rw [List.mem_singleton.1 hg]; exact hg1), trivial⟩⟩
  · refine SxL.off ⟨_, _, _, rfl, rfl, rfl, nofun⟩ rfl rfl ?_
    refine SxL.off ⟨_, _, _, rfl, rfl, rfl, nofun⟩ rfl rfl ?_
    refine SxL.off ⟨_, _, _, rfl, rfl, rfl, nofun⟩ rfl rfl ?_
    refine SxL.off ⟨_, _, _, rfl, rfl, rfl, nofun⟩ rfl rfl ?_
    refine SxL.off ⟨_, _, _, rfl, rfl, rfl, nofun⟩ rfl rfl ?_
    refine SxL.off ⟨_, _, _, rfl, rfl, rfl, nofun⟩ rfl rfl ?_
    refine SxL.off ⟨_, _, _, rfl, rfl, rfl, nofun⟩ rfl rfl ?_
    refine SxL.val (v := .bool true) trivial rfl rfl (fun ρ w E H => ex_pick E rfl (t := true) rfl rfl) ?_
    refine SxL.nil ?_
    refine SxN.then_ ?_
    refine SxC.condT rfl ?_
    refine SxC.seq ?_
    refine SxC.region ?_
    refine SxL.val (v := .bool false) trivial rfl rfl (fun ρ w E H => ex_assign E rfl rfl) ?_
    refine SxL.nil ?_
    refine SxN.then_ ?_
    refine SxC.ret ?_
    refine SxX.thenR ?_
    refine SxX.done (.bool false) (fun a w K H => res1 K rfl rfl) (fun w H => ?_)
    have hq : false = decide ((⟨mk, mn, mr, mb, ms, mo, mv, vl, il, ⟨ca, cb, ck, cs, ct, cu, cz⟩, mc, mt⟩ : Ms) = ⟨xk, xn, xr, xb, xs, xo, xv, wl, jl, ⟨da, db, dk, ds, dt, du, dz⟩, xc, xt⟩) := by clear H; grind [cmpB]
    exact ⟨by rw [hq], H.toBelow ⟨(fun g hg => by rw [List.mem_singleton.1 hg]; exact hg2), (fun g hg => by rw [List.mem_singleton.1 hg]; exact hg1), trivial⟩⟩

theorem rsame_any (m x : Ms) (A B C D : Option Addr) (ka kb kc kd : Nat) (w : World) (h1 : MsRows w m A B) (h2 : MsRows w x C D) (hl1 : m.votes.length ≤ 1000000) (hl2 : m.items.length ≤ 1000000) :
    Calls Try.prog 26 #[msV m A ka B kb, msV x C kc D kd] w fun e w' => e = .returned (.bool (decide (m = x))) ∧ Below w.heap.size w w' := by
  obtain ⟨mk, mn, mr, mb, ms, mo, mv, vl, il, ⟨ca, cb, ck, cs, ct, cu, cz⟩, mc, mt⟩ := m
  obtain ⟨xk, xn, xr, xb, xs, xo, xv, wl, jl, ⟨da, db, dk, ds, dt, du, dz⟩, xc, xt⟩ := x
  exact rsame_lit _ _ _ _ _ _ _ _ _ _ _ _ _ _ _ _ _ _ _ _ _ _ _ _ _ _ _ _ _ _ _ _ _ _ _ _ _ _ _ _ _ _ _ _ w h1.hv h1.hi h2.hv h2.hi hl1 hl2
end Go.Proofs.Yteiaiilfekojfaa.Msg
end
section
set_option linter.unusedVariables false
set_option linter.unusedSimpArgs false
namespace Go.Proofs.Yteiaiilfekojfaa.Msg
open Go.RowKit Sx Wire DrawInv
theorem head_num (n : Nat) (h : n ≤ 65536) : ∃ b t, numB n = b :: t ∧ (b.toNat < 248 → (numB n).length = 1) ∧ (248 ≤ b.toNat → (numB n).length = b.toNat - 246) ∧ (numB n).length ≤ 9 := by
  have hl := numB_length n (by omega)
  unfold numB at hl ⊢
  by_cases h1 : n < 248
  · rw [if_pos h1] at hl ⊢
    have e : (UInt8.ofNat n).toNat = n := by simp; omega
    exact ⟨_, _, rfl, fun _ => rfl, fun h2 => by rw [e] at h2; omega, hl.1⟩
  · rw [if_neg h1] at hl ⊢
    have hw : (beB (widthN n) n).length = widthN n := beB_length _ _
    rw [List.length_cons, hw] at hl
    have hp : 0 < widthN n := width_ge n (by omega) (by omega)
    have e : (UInt8.ofNat (247 + widthN n)).toNat = 247 + widthN n := by simp; omega
    refine ⟨_, _, rfl, fun h2 => ?_, fun h2 => ?_, ?_⟩
    · rw [e] at h2; omega
    · rw [List.length_cons, hw, e]; omega
    · rw [List.length_cons, hw]; omega
theorem takeM_turn (m : Ms) (hl : (insideB m).length ≤ 65536) (i : Nat) (h1 : (numB (insideB m).length).length ≤ i) (h2 : i < (Frame.frameB (insideB m)).length) (b v : UInt8) (hb : (Frame.frameB (insideB m))[i]? = some b) (hv : v ≠ b) : takeM ((Frame.frameB (insideB m)).set i v) = (ms0 0, 5) := by
  have hp : 0 < (insideB m).length := by simp [insideB]
  have hlen := Frame.frame_len (insideB m) hl
  unfold takeM
  have ht : Frame.takeF ((Frame.frameB (insideB m)).set i v) = ([], 0, 5) := by
    unfold Frame.frameB at hb ⊢
    rw [List.getElem?_append_right h1] at hb
    rw [List.set_append_right _ _ h1]
    exact Frame.take_turn _ hp hl _ (by omega) v (fun e => hv (by rw [hb] at e; exact (Option.some.inj e).symm))
  rw [ht]
  rfl
theorem lm_check (v : List UInt8) : checkB (⟨12, 0, 0, 0, 1, 0, v, [], [], Cmd.cm0, 0, []⟩ : Ms) = true := by
  have e : partsOf 12 = [.slot 1, .value] := rfl
  simp [checkB, e, Pt.may, moved, Pt.move, ms0]
theorem lm_inside (v : List UInt8) : insideB (⟨12, 0, 0, 0, 1, 0, v, [], [], Cmd.cm0, 0, []⟩ : Ms) = UInt8.ofNat 12 :: (numB 1 ++ (strB v ++ [])) := rfl
theorem num3 (n : Nat) (h1 : 256 ≤ n) (h2 : n < 65536) : (numB n).length = 3 := by
  have hw := width_unique n 2 (by omega) (by omega) (by omega) (by simpa using h1) (by simpa using h2)
  unfold numB
  rw [if_neg (by omega), List.length_cons, beB_length, hw]
theorem lm_len (v : List UInt8) (h1 : 256 ≤ v.length) (h2 : v.length < 65536) : (insideB (⟨12, 0, 0, 0, 1, 0, v, [], [], Cmd.cm0, 0, []⟩ : Ms)).length = 5 + v.length := by
  have e1 : (numB 1).length = 1 := by decide
  rw [lm_inside, List.length_cons, List.length_append, List.length_append, e1]
  unfold strB
  rw [List.length_append, num3 _ h1 h2, List.length_nil]
  omega
theorem lm_fits (v : List UInt8) : Ms.Fits (⟨12, 0, 0, 0, 1, 0, v, [], [], Cmd.cm0, 0, []⟩ : Ms) := ⟨(show 12 < 256 by decide), (show 0 < 18446744073709551616 by decide), (show 0 < 256 by decide), (show 0 < 18446744073709551616 by decide), (show 1 < 18446744073709551616 by decide), (show 0 < 256 by decide), (fun v h => by cases h), (fun v h => by cases h), Cmd.cm0_fits, (show 0 < 256 by decide)⟩
theorem lm_small (v : List UInt8) (h : v.length ≤ 100000) : Ms.Small (⟨12, 0, 0, 0, 1, 0, v, [], [], Cmd.cm0, 0, []⟩ : Ms) := ⟨h, (show 0 ≤ 100000 by decide), (show 0 ≤ 100000 by decide), (fun v h => by cases h), (fun v h => by cases h), (show 0 ≤ 1000 by decide), (show 0 ≤ 1000 by decide), (show 0 ≤ 1000 by decide), (show 0 ≤ 1000 by decide), (show 0 ≤ 400000 by decide), (show 0 ≤ 400000 by decide)⟩
theorem long_facts : ∃ (N : Nat) (s : List UInt8), (N : Int) = 65531 ∧ N ≤ 65531 ∧ putM (⟨12, 0, 0, 0, 1, 0, (List.replicate N 0), [], [], Cmd.cm0, 0, []⟩ : Ms) = (s, 0) ∧ takeM s = ((⟨12, 0, 0, 0, 1, 0, (List.replicate N 0), [], [], Cmd.cm0, 0, []⟩ : Ms), 0) ∧ s.length ≤ 90000 ∧ putM (⟨12, 0, 0, 0, 1, 0, (List.replicate N 0 ++ [120]), [], [], Cmd.cm0, 0, []⟩ : Ms) = ([], 6) := by
  obtain ⟨N, hN⟩ : ∃ N : Nat, N = 65531 := ⟨_, rfl⟩
  have hl : (List.replicate N (0 : UInt8)).length = N := List.length_replicate
  have h1 := lm_len (List.replicate N 0) (by omega) (by omega)
  have h2 := lm_len (List.replicate N 0 ++ [120]) (by rw [List.length_append, hl, List.length_singleton]; omega) (by rw [List.length_append, hl, List.length_singleton]; omega)
  rw [List.length_append, hl, List.length_singleton] at h2
  rw [hl] at h1
  have hk := lm_check (List.replicate N 0)
  refine ⟨N, _, by omega, by omega, putM_is_ok hk (by omega), takeM_put _ (lm_fits _) ⟨(show (List.replicate N (0 : UInt8)).length ≤ 65536 by omega), (fun v h => by cases h), (fun v h => by cases h)⟩ hk (by omega), ?_, ?_⟩
  · have := (Frame.frame_len9 (insideB (⟨12, 0, 0, 0, 1, 0, (List.replicate N 0), [], [], Cmd.cm0, 0, []⟩ : Ms)) (by omega)).2
    omega
  · unfold putM
    rw [if_pos (lm_check _), if_neg (by omega)]
end Go.Proofs.Yteiaiilfekojfaa.Msg
end
section
set_option linter.unusedVariables false
set_option linter.unusedSimpArgs false
namespace Go.Proofs.Yteiaiilfekojfaa.Sx
open Go.RowKit DrawInv Wire
section
variable {P : Program} {ρ : Operand → Value} {o : Oper} {w : World} {vs : Vs}
theorem ex_mul {T U : TypeId} {x y : Operand} {k : IntKind} {a b z : Int} (E : Env vs ρ) (ho : o.op = .binOp .mul T x y U) (hx : opv vs x = some (.int k a)) (hy : opv vs y = some (.int k b)) (hz : k.wrap (a * b) = z) : (execOp ρ o).run P w = .ok (.value (.int k z)) w := by
  unfold execOp; rw [ho]; subst hz
  simp [E.ev hx, E.ev hy, eqGuard, binOp, Op.intArith]
theorem ex_quo {T U : TypeId} {x y : Operand} {k : IntKind} {a b z : Int} (E : Env vs ρ) (ho : o.op = .binOp .quo T x y U) (hx : opv vs x = some (.int k a)) (hy : opv vs y = some (.int k b)) (h0 : b ≠ 0) (hz : k.wrap (a.tdiv b) = z) : (execOp ρ o).run P w = .ok (.value (.int k z)) w := by
  unfold execOp; rw [ho]; subst hz
  simp [E.ev hx, E.ev hy, eqGuard, binOp, Op.intDiv, h0]
theorem ex_rem {T U : TypeId} {x y : Operand} {k : IntKind} {a b z : Int} (E : Env vs ρ) (ho : o.op = .binOp .rem T x y U) (hx : opv vs x = some (.int k a)) (hy : opv vs y = some (.int k b)) (h0 : b ≠ 0) (hz : a.tmod b = z) : (execOp ρ o).run P w = .ok (.value (.int k z)) w := by
  unfold execOp; rw [ho]; subst hz
  simp [E.ev hx, E.ev hy, eqGuard, binOp, Op.intDiv, h0]
theorem ex_shl {T U : TypeId} {x y : Operand} {k k' : IntKind} {a z : Int} {n : Nat} (E : Env vs ρ) (ho : o.op = .binOp .shl T x y U) (hx : opv vs x = some (.int k a)) (hy : opv vs y = some (.int k' (n : Int))) (hz : k.wrap (a * 2 ^ (min n k.bits)) = z) : (execOp ρ o).run P w = .ok (.value (.int k z)) w := by
  unfold execOp; rw [ho]; subst hz
  have h0 : ¬ ((n : Int) < 0) := by omega
  simp [E.ev hx, E.ev hy, eqGuard, binOp, Op.shift, h0]
theorem ex_xor {T U : TypeId} {x y : Operand} {k : IntKind} {a b z : Int} (E : Env vs ρ) (ho : o.op = .binOp .xor T x y U) (hx : opv vs x = some (.int k a)) (hy : opv vs y = some (.int k b)) (hz : k.wrap ((BitVec.ofInt k.bits a ^^^ BitVec.ofInt k.bits b).toNat) = z) : (execOp ρ o).run P w = .ok (.value (.int k z)) w := by
  unfold execOp; rw [ho]; subst hz
  simp [E.ev hx, E.ev hy, eqGuard, binOp, Op.intBits]
/-- Cells in a block of their own that may be written; what lies behind them, and its mark, is not told. -/
def RowC (w : World) (g : Nat) (cs : List Value) : Prop := ∃ full e m, w.heap[g]? = some (.cells full e m) ∧ ∀ j v, cs[j]? = some v → full[j]? = some v ∧ (j < m.1 ∨ m.2 ≤ j)
def rowC (g : Nat) (cs : List Value) : Ft := ⟨[g], fun w => RowC w g cs⟩
theorem rowC_loc (g : Nat) (cs : List Value) : (rowC g cs).Loc := fun w w' h ⟨full, e, m, h1, h2⟩ => ⟨full, e, m, (h g (List.mem_singleton.2 rfl)).trans h1, h2⟩
theorem RowC.cell {g : Nat} {cs : List Value} (h : RowC w g cs) {j : Nat} {v : Value} (hv : cs[j]? = some v) : w.cell? ⟨g, j, none⟩ = some v := by
  obtain ⟨full, e, m, h1, h2⟩ := h
  unfold World.cell?
  rw [h1]
  exact (h2 j v hv).1
theorem RowC.frozen {g : Nat} {cs : List Value} (h : RowC w g cs) {j : Nat} {v : Value} (hv : cs[j]? = some v) : w.frozen? ⟨g, j, none⟩ = false := by
  obtain ⟨full, e, ⟨m1, m2⟩, h1, h2⟩ := h
  unfold World.frozen?
  rw [h1]
  have := (h2 j v hv).2
  simp
  omega
theorem RowC.lt {g : Nat} {cs : List Value} (h : RowC w g cs) : g < w.heap.size := by obtain ⟨full, e, m, h1, _⟩ := h; exact (Array.getElem?_eq_some_iff.1 h1).1
theorem RowC.reads {g n : Nat} {cs : List Value} (h : RowC w g cs) (hn : cs.length = n) : Reads w w.heap.size 1 (some ⟨g, 0, none⟩) n cs :=
  ⟨by rw [hn, Nat.mul_one], fun _ => ⟨_, rfl, h.lt, fun j u hu => by rw [add_none, Nat.zero_add]; exact h.cell hu⟩⟩
theorem RowC.at {g : Nat} {cs : List Value} (h : RowC w g cs) {k : Nat} {v : Value} (hv : cs[k]? = some v) : RowAt w ((⟨g, 0, none⟩ : Addr).add (k * 1)) [v] := fun j u hu => by
  have hj : j = 0 := by have := (List.getElem?_eq_some_iff.1 hu).1; simp at this; omega
  subst hj
  obtain rfl : v = u := by simpa using hu
  rw [add_none, add_none, Nat.zero_add, Nat.mul_one, Nat.add_zero]
  exact h.cell hv
theorem run_storeC {t : TypeId} {g k : Nat} {cs : List Value} {v : Value} (h : RowC w g cs) (hk : k < cs.length) (hz : (P.info? t).map (·.size) = some 1) (h1 : v.cells = #[v]) (ho : v.oneCell' = true) :
    (Instr.storeAt t (.pointer (some ⟨g, k, none⟩)) v).run P w = .ok () (w.setCell ⟨g, k, none⟩ v) := by
  have h3 := h.cell (j := k) (v := cs[k]) (List.getElem?_eq_getElem hk)
  have h4 := h.frozen (j := k) (v := cs[k]) (List.getElem?_eq_getElem hk)
  cases hi : P.info? t with
  | none => rw [hi] at hz; cases hz
  | some i =>
    rw [hi] at hz
    have hs : i.size = 1 := Option.some.inj hz
    have ha : (⟨g, k, none⟩ : Addr).add 0 = ⟨g, k, none⟩ := rfl
    have hst : (store ⟨g, k, none⟩ v).run P w = .ok () (w.setCell ⟨g, k, none⟩ v) := by
      rw [run_store P w ⟨g, k, none⟩ v _ ho, h3, h4]
      rfl
    simp [Instr.storeAt, Instr.sureAddr, storeVar, sizeOf, typeInfo, hi, hs, h1, storeCells, ha, hst]
theorem RowC.set {g k : Nat} {cs : List Value} (h : RowC w g cs) (v : Value) : RowC (w.setCell ⟨g, k, none⟩ v) g (cs.set k v) := by
  obtain ⟨full, e, m, h1, h2⟩ := h
  refine ⟨full.setIfInBounds k v, e, m, ?_, fun j u hu => ?_⟩
  · unfold World.setCell
    simp [Array.getElem?_modify, h1]
  · rw [List.getElem?_set] at hu
    by_cases hk : k = j
    · subst hk
      by_cases hl : k < cs.length
      · rw [if_pos rfl, if_pos hl] at hu
        obtain ⟨h3, h4⟩ := h2 k cs[k] (List.getElem?_eq_getElem hl)
        have hlt : k < full.size := (Array.getElem?_eq_some_iff.1 h3).1
        rw [← hu]
        exact ⟨by rw [Array.getElem?_setIfInBounds_self_of_lt hlt], h4⟩
      · rw [if_pos rfl, if_neg hl] at hu; cases hu
    · rw [if_neg hk] at hu
      obtain ⟨h3, h4⟩ := h2 j u hu
      exact ⟨by rw [Array.getElem?_setIfInBounds_ne hk]; exact h3, h4⟩
/-- A text's bytes laid anew. -/
theorem ex_toBytes {src dst e : TypeId} {x : Operand} {l : List UInt8} {d : TypeDesc} {vs : Vs} (E : Env vs ρ) (ho : o.op = .convert src dst x) (hs : P.underlying src = some d) (ht : P.underlying dst = some (.slice e)) (he : P.underlying e = some (.int .u8)) (hx : opv vs x = some (.string ⟨l.toArray⟩)) :
    ∃ c w', (execOp ρ o).run P w = .ok (.value (.slice (some ⟨w.heap.size, 0, none⟩) l.length c)) w' ∧ l.length ≤ c ∧ Below w.heap.size w w' ∧ RowC w' w.heap.size (bv l) := by
  have hl : (⟨l.toArray⟩ : ByteArray).size = l.length := by simp [ByteArray.size]
  refine ⟨grownCap w (⟨l.toArray⟩ : ByteArray).size 0 e, Lib.bytesWorld w e ⟨l.toArray⟩, ?_, ?_, ?_, ?_⟩
  · unfold execOp; rw [ho]
    simp only [E.ev hx, Sem.run_bind, Lib.run_convert_string_bytes (P := P) w src dst e ⟨l.toArray⟩ hs ht he, Result.andThen_ok, hl]
    rfl
  · rw [← hl]; exact grownCap_ge w _ 0 e
  · exact ⟨rfl, rfl, rfl, by rw [Lib.bytesWorld_size]; omega, fun k hk => Lib.bytesWorld_at_old w e _ k hk⟩
  · refine ⟨_, e, _, Lib.bytesWorld_at_new w e _, fun j v hv => ?_⟩
    have hj : j < l.length := by have := (List.getElem?_eq_some_iff.1 hv).1; rwa [bv_length] at this
    have hsz : l.length ≤ (Lib.bytesCells w e ⟨l.toArray⟩).size := by
      unfold Lib.bytesCells
      simp
    refine ⟨?_, .inl (by show j < (Lib.bytesCells w e ⟨l.toArray⟩).size; omega)⟩
    unfold Lib.bytesCells
    rw [Array.getElem?_append_left (by simpa using hj)]
    rw [← hv]
    have hf : (fun b : UInt8 => Value.int .u8 (b.toNat : Int)) = byteV := rfl
    simp [bv, hf]
theorem ex_fromBytes {src dst e : TypeId} {x : Operand} {g n c : Nat} {l : List UInt8} {vs : Vs} (E : Env vs ρ) (h : RowC w g (bv l)) (ho : o.op = .convert src dst x) (hs : P.underlying src = some (.slice e)) (he : P.underlying e = some (.int .u8)) (hd : P.underlying dst = some .string) (hx : opv vs x = some (.slice (some ⟨g, 0, none⟩) n c)) (hn : l.length = n) : (execOp ρ o).run P w = .ok (.value (.string ⟨l.toArray⟩)) w := by
  unfold execOp; rw [ho]
  simp only [E.ev hx, Sem.run_bind]
  rw [conv_str hs he hd c (h.reads (by rw [bv_length, hn]))]
  rfl
/-- A slice made. -/
theorem ex_makeSlice {t e : TypeId} {x y : Operand} {k k' : IntKind} {z : Int} {n b : Nat} {v : Value} {vs : Vs} (E : Env vs ρ) (ho : o.op = .makeSlice t x y) (ht : P.underlying t = some (.slice e)) (hi : (P.info? e).map (fun i => (i.zero, i.size, i.bytes)) = some (some v, 1, b)) (hx : opv vs x = some (.int k z)) (hy : opv vs y = some (.int k' z)) (hz : z = (n : Int)) (hsm : n * 1 ≤ 16777216) (hb : b * n ≤ 281474976710656) (hm : n ≤ 9223372036854775807) (h1 : v.cells = #[v]) :
    ∃ w', (execOp ρ o).run P w = .ok (.value (.slice (some ⟨w.heap.size, 0, none⟩) n n)) w' ∧ w'.ownsRow w.heap.size e 1 (.slice (some ⟨w.heap.size, 0, none⟩) n n) n (List.replicate n v) ∧ Below w.heap.size w w' := by
  subst hz
  obtain ⟨i, h2, h3, h4, h5⟩ := info_parts hi
  obtain ⟨w', hr, hown, hg⟩ := run_makeSlice_full (P := P) w w.heap.size t e i v 1 ht h2 h3 h4 k k' n hsm (by rw [h5]; exact hb) (by unfold maxLen; omega) (Nat.le_refl _)
  refine ⟨w', ?_, ?_, ⟨hg.os, hg.tape, hg.output, hg.size, fun k hk => hg.block k hk (by simp)⟩⟩
  · unfold execOp; rw [ho]
    simp only [E.ev hx, E.ev hy, Sem.run_bind, hr, Result.andThen_ok]
    rfl
  · have e1 : (madeCells v.cells (n * 1)).toList = List.replicate n v := by
      rw [h1]
      unfold madeCells
      refine List.ext_getElem (by simp) fun j hj hj2 => ?_
      simp [Nat.mod_one]
    rw [e1] at hown
    exact hown
end
section
variable {P : Program} {ops : Array Oper} {Q Q' : Exit → Act → World → Prop} {n : Nat} {vs : Vs} {w0 : World} {L : List Ft} {o : Oper} {rest : List Oper} {S : World → Prop} {fuel : Nat} {listed : Array Bool}
/-- An operation that tells a value and turns what is known. -/
theorem SxL.newG {σ : Type} {d : Nat} (v : σ → Value) (F : σ → Prop) (L' : σ → List Ft) (hon : GOn ops vs o.guard) (hd : o.dst = some d) (hdn : Nat.blt d n = true)
    (hr : ∀ ρ w, Env vs ρ → Hp w0 L w → ∃ s w', (execOp ρ o).run P w = .ok (.value (v s)) w' ∧ F s ∧ Hp w0 (L' s) w')
    (h : ∀ s, F s → SxL P ops Q rest n ((d, v s) :: vs) w0 (L' s)) : SxL P ops Q (o :: rest) n vs w0 L := fun a w K H => by
  refine on_list (hon.on K.env) ?_
  unfold Oper.wp
  obtain ⟨s, w', hr, hF, H'⟩ := hr a.eval w K.env H
  rw [hr]
  show wpList P ops Q rest (a.put o.dst _) _
  rw [hd]
  exact h s hF _ _ (K.put hdn _) H'
theorem SxL.skipG (L' : List Ft) (hon : GOn ops vs o.guard) (hd : o.dst = none) (hr : ∀ ρ w, Env vs ρ → Hp w0 L w → ∃ w', (execOp ρ o).run P w = .ok .skip w' ∧ Hp w0 L' w') (h : SxL P ops Q rest n vs w0 L') : SxL P ops Q (o :: rest) n vs w0 L := fun a w K H => by
  refine on_list (hon.on K.env) ?_
  unfold Oper.wp
  obtain ⟨w', hr, H'⟩ := hr a.eval w K.env H
  rw [hr]
  show wpList P ops Q rest (a.put o.dst _) _
  rw [hd]
  exact h _ _ K H'
theorem SxO.skipG {i : Nat} {o : Oper} (L' : List Ft) (hi : ops[i]? = some o) (hon : GOn ops vs o.guard) (hd : o.dst = none) (hr : ∀ ρ w, Env vs ρ → Hp w0 L w → ∃ w', (execOp ρ o).run P w = .ok .skip w' ∧ Hp w0 L' w') (hS : ∀ w, Hp w0 L' w → S w)
    (h : SxA P ops Q S fuel (listed.setIfInBounds i true) n vs w0 L') : SxO P ops Q S fuel listed i n vs w0 L := fun a w K H _ => by
  refine op_on hi (hon.on K.env) ?_
  unfold Oper.wp
  obtain ⟨w', hr, H'⟩ := hr a.eval w K.env H
  rw [hr]
  show S _ ∧ wpAnyH _ _ _ _ _ _ _ (a.put o.dst _) _
  rw [hd]
  exact ⟨hS _ H', h _ _ K H' (hS _ H')⟩
theorem SxL.toBytes {d : Nat} {src dst e : TypeId} {x : Operand} {l : List UInt8} {td : TypeDesc} (hon : GOn ops vs o.guard) (hd : o.dst = some d) (hdn : Nat.blt d n = true) (ho : o.op = .convert src dst x) (hs : P.underlying src = some td) (ht : P.underlying dst = some (.slice e)) (he : P.underlying e = some (.int .u8)) (hx : opv vs x = some (.string ⟨l.toArray⟩))
    (h : ∀ g c, w0.heap.size ≤ g → l.length ≤ c → SxL P ops Q rest n ((d, .slice (some ⟨g, 0, none⟩) l.length c) :: vs) w0 (rowC g (bv l) :: L)) : SxL P ops Q (o :: rest) n vs w0 L :=
  SxL.newG (σ := Nat × Nat) (fun s => .slice (some ⟨s.1, 0, none⟩) l.length s.2) (fun s => w0.heap.size ≤ s.1 ∧ l.length ≤ s.2) (fun s => rowC s.1 (bv l) :: L) hon hd hdn (fun ρ w E H => by
    obtain ⟨c, w', hr, hc, hb, hrow⟩ := ex_toBytes (P := P) (w := w) E ho hs ht he hx
    refine ⟨(w.heap.size, c), w', hr, ⟨H.os.size, hc⟩, H.add hb _ (rowC_loc _ _) (fun g hg => ?_) hrow⟩
    obtain rfl := List.mem_singleton.1 hg
    exact ⟨hrow.lt, Nat.le_refl _⟩) fun s hF => h s.1 s.2 hF.1 hF.2
/-- A cell of such a row stored. -/
theorem Hp.storeC {w : World} {ρ : Operand → Value} {i g k : Nat} {t : TypeId} {p x : Operand} {cs : List Value} {v : Value} (E : Env vs ρ) (H : Hp w0 L w) (ho : o.op = .store t p x) (hp : opv vs p = some (.pointer (some ((⟨g, 0, none⟩ : Addr).add (k * 1))))) (hx : opv vs x = some v) (hi : nth L i = some (rowC g cs)) (hk : k < cs.length) (hz : (P.info? t).map (·.size) = some 1) (h1 : v.cells = #[v]) (h2 : v.oneCell' = true) :
    ∃ w', (execOp ρ o).run P w = .ok .skip w' ∧ Hp w0 (putF L i (rowC g (cs.set k v))) w' := by
  have hrow : RowC w g cs := H.get hi
  refine ⟨w.setCell ⟨g, k, none⟩ v, exec_store p x ho (E.ev hp) (E.ev hx) ?_, ?_⟩
  · rw [add_none, Nat.zero_add, Nat.mul_one]
    exact run_storeC hrow hk hz h1 h2
  · have hg : w.grownBy (w.setCell ⟨g, k, none⟩ v) (some g) := only_setCell (World.grownBy.refl _ _) (p := ⟨g, k, none⟩) (.inl rfl) v
    have hrow' := hrow.set (k := k) v
    refine H.chg hi _ (Outs.of_grown hg (List.mem_singleton.2 rfl)) (rowC_loc _ _) (fun g' hg' => ?_) (fun g' hg' => .inl hg') hrow'
    obtain rfl := List.mem_singleton.1 hg'
    exact ⟨hrow'.lt, .inl (List.mem_singleton.2 rfl)⟩
/-- A slice made: a row of one's own. -/
theorem SxL.make {d b m : Nat} {t e : TypeId} {x y : Operand} {k k' : IntKind} {z : Int} {v : Value} (hon : GOn ops vs o.guard) (hd : o.dst = some d) (hdn : Nat.blt d n = true) (ho : o.op = .makeSlice t x y) (ht : P.underlying t = some (.slice e)) (hi : (P.info? e).map (fun i => (i.zero, i.size, i.bytes)) = some (some v, 1, b)) (hx : opv vs x = some (.int k z)) (hy : opv vs y = some (.int k' z)) (hz : z = (m : Int)) (hsm : m * 1 ≤ 16777216) (hb : b * m ≤ 281474976710656) (hm : m ≤ 9223372036854775807) (h1 : v.cells = #[v])
    (h : ∀ g, OwnIn w0 [] (.slice (some ⟨g, 0, none⟩) m m) → SxL P ops Q rest n ((d, .slice (some ⟨g, 0, none⟩) m m) :: vs) w0 (rowX [] w0.heap.size e 1 (.slice (some ⟨g, 0, none⟩) m m) m (List.replicate m v) :: L)) : SxL P ops Q (o :: rest) n vs w0 L :=
  SxL.newG (σ := Nat) (fun g => .slice (some ⟨g, 0, none⟩) m m) (fun g => OwnIn w0 [] (.slice (some ⟨g, 0, none⟩) m m)) (fun g => rowX [] w0.heap.size e 1 (.slice (some ⟨g, 0, none⟩) m m) m (List.replicate m v) :: L) hon hd hdn (fun ρ w E H => by
    obtain ⟨w', hr, hown, hb⟩ := ex_makeSlice (P := P) (w := w) E ho ht hi hx hy hz hsm hb hm h1
    refine ⟨w.heap.size, w', hr, fun g hg => .inr (Nat.le_trans H.os.size (own_lt hown g hg).1), H.add hb _ (rowX_loc _ _ _ _ _ _ _) (fun g hg => ⟨(own_lt hown g (by simpa [rowX] using hg)).2, (own_lt hown g (by simpa [rowX] using hg)).1⟩) (own_base hown H.os.size)⟩) h
end
theorem flip_bit (b : UInt8) (r : Nat) (hr : r < 8) : ∃ (p : Nat) (v : UInt8), IntKind.u8.wrap (1 * 2 ^ (min r IntKind.u8.bits)) = (p : Int) ∧ IntKind.u8.wrap ((BitVec.ofInt IntKind.u8.bits (b.toNat : Int) ^^^ BitVec.ofInt IntKind.u8.bits (p : Int)).toNat) = (v.toNat : Int) ∧ v ≠ b := by
  have all : ∀ n < 256, ∀ r < 8, IntKind.u8.wrap (1 * 2 ^ (min r IntKind.u8.bits)) = ((2 ^ r : Nat) : Int) ∧ IntKind.u8.wrap ((BitVec.ofInt IntKind.u8.bits ((n : Nat) : Int) ^^^ BitVec.ofInt IntKind.u8.bits ((2 ^ r : Nat) : Int)).toNat) = ((n ^^^ 2 ^ r : Nat) : Int) ∧ n ^^^ 2 ^ r < 256 ∧ n ^^^ 2 ^ r ≠ n := by decide +kernel
  obtain ⟨h1, h2, h3, h4⟩ := all b.toNat b.toNat_lt r hr
  have e : (UInt8.ofNat (b.toNat ^^^ 2 ^ r)).toNat = b.toNat ^^^ 2 ^ r := by rw [UInt8.toNat_ofNat', Nat.mod_eq_of_lt (by simpa using h3)]
  exact ⟨2 ^ r, UInt8.ofNat (b.toNat ^^^ 2 ^ r), h1, by rw [e, h2], fun h => h4 (by rw [← e, h])⟩
end Go.Proofs.Yteiaiilfekojfaa.Sx
end
section
set_option linter.unusedVariables false
set_option linter.unusedSimpArgs false
namespace Go.Proofs.Yteiaiilfekojfaa.Msg
open Go.RowKit Sx Wire DrawInv
set_option maxRecDepth 100000 in
set_option maxHeartbeats 4000000 in
theorem bits_lit (mk mn mr mb ms mo ca cb ck cz mc : Nat) (mv cs ct cu mt : List UInt8) (vl : List Vo) (il : List Im) (at_ : Nat) (A B : Option Addr) (ka kb : Nat) (w : World) (hf : Ms.Fits ⟨mk, mn, mr, mb, ms, mo, mv, vl, il, ⟨ca, cb, ck, cs, ct, cu, cz⟩, mc, mt⟩) (hr : MsRows w ⟨mk, mn, mr, mb, ms, mo, mv, vl, il, ⟨ca, cb, ck, cs, ct, cu, cz⟩, mc, mt⟩ A B) (hn1 : vl.length ≤ 9223372036854775807) (hn2 : il.length ≤ 9223372036854775807) (hat : at_ < 4294967296) : Calls Try.prog 6 #[.agg #[.int .u8 (mk : Int), .int .u64 (mn : Int), .int .u8 (mr : Int), .int .u64 (mb : Int), .int .u64 (ms : Int), .int .u8 (mo : Int), .string ⟨mv.toArray⟩, .slice A vl.length ka, .slice B il.length kb, .int .u8 (ca : Int), .int .u32 (cb : Int), .int .u8 (ck : Int), .string ⟨cs.toArray⟩, .string ⟨ct.toArray⟩, .string ⟨cu.toArray⟩, .int .u8 (cz : Int), .int .u8 (mc : Int), .string ⟨mt.toArray⟩], .int .u32 (at_ : Int)] w fun e w' => e = .returned (.bool true) ∧ Below w.heap.size w w' := by
  obtain ⟨⟨sp, ep⟩, hpm⟩ : ∃ x, putM ⟨mk, mn, mr, mb, ms, mo, mv, vl, il, ⟨ca, cb, ck, cs, ct, cu, cz⟩, mc, mt⟩ = x := ⟨_, rfl⟩
  refine sx_enter (n := 89) [.agg #[.int .u8 (mk : Int), .int .u64 (mn : Int), .int .u8 (mr : Int), .int .u64 (mb : Int), .int .u64 (ms : Int), .int .u8 (mo : Int), .string ⟨mv.toArray⟩, .slice A vl.length ka, .slice B il.length kb, .int .u8 (ca : Int), .int .u32 (cb : Int), .int .u8 (ck : Int), .string ⟨cs.toArray⟩, .string ⟨ct.toArray⟩, .string ⟨cu.toArray⟩, .int .u8 (cz : Int), .int .u8 (mc : Int), .string ⟨mt.toArray⟩], .int .u32 (at_ : Int)] Try.func6 rfl rfl rfl (Hp.start w) ?_
  refine SxC.seq ?_
  refine SxC.region ?_
  refine SxL.new (cs := [.int .u8 (mk : Int), .int .u64 (mn : Int), .int .u8 (mr : Int), .int .u64 (mb : Int), .int .u64 (ms : Int), .int .u8 (mo : Int), .string ⟨mv.toArray⟩, .slice A vl.length ka, .slice B il.length kb, .int .u8 (ca : Int), .int .u32 (cb : Int), .int .u8 (ck : Int), .string ⟨cs.toArray⟩, .string ⟨ct.toArray⟩, .string ⟨cu.toArray⟩, .int .u8 (cz : Int), .int .u8 (mc : Int), .string ⟨mt.toArray⟩]) trivial rfl rfl (fun ρ w E H => ex_box E rfl rfl rfl) fun g1 hg1 => ?_
  refine SxL.val (v := .bool false) trivial rfl rfl (fun ρ w E H => ex_assign E rfl rfl) ?_
  refine SxL.nil ?_
  refine SxN.then_ ?_
  refine SxC.seq ?_
  refine SxC.seq ?_
  refine SxC.region ?_
  refine SxL.val (v := .agg #[.int .u8 (mk : Int), .int .u64 (mn : Int), .int .u8 (mr : Int), .int .u64 (mb : Int), .int .u64 (ms : Int), .int .u8 (mo : Int), .string ⟨mv.toArray⟩, .slice A vl.length ka, .slice B il.length kb, .int .u8 (ca : Int), .int .u32 (cb : Int), .int .u8 (ck : Int), .string ⟨cs.toArray⟩, .string ⟨ct.toArray⟩, .string ⟨cu.toArray⟩, .int .u8 (cz : Int), .int .u8 (mc : Int), .string ⟨mt.toArray⟩]) trivial rfl rfl (fun ρ w E H => ex_load (part := [.int .u8 (mk : Int), .int .u64 (mn : Int), .int .u8 (mr : Int), .int .u64 (mb : Int), .int .u64 (ms : Int), .int .u8 (mo : Int), .string ⟨mv.toArray⟩, .slice A vl.length ka, .slice B il.length kb, .int .u8 (ca : Int), .int .u32 (cb : Int), .int .u8 (ck : Int), .string ⟨cs.toArray⟩, .string ⟨ct.toArray⟩, .string ⟨cu.toArray⟩, .int .u8 (cz : Int), .int .u8 (mc : Int), .string ⟨mt.toArray⟩]) E (H.get (i := 0) rfl) rfl rfl Try.underlying45 rfl sz_palaver_api_Msg rfl rfl) ?_
  refine SxL.call (σ := Bool) (fun b => .bool b) (fun b => b = false → Ms.Lim ⟨mk, mn, mr, mb, ms, mo, mv, vl, il, ⟨ca, cb, ck, cs, ct, cu, cz⟩, mc, mt⟩) (fun _ => _) trivial rfl rfl (fun ρ w E => ex_call E en_palaver_palaverlaw18_Great rfl rfl) (fun w H => (great_any ⟨mk, mn, mr, mb, ms, mo, mv, vl, il, ⟨ca, cb, ck, cs, ct, cu, cz⟩, mc, mt⟩ A B ka kb w (hr.below (H.toBelow ⟨(fun g hg => by rw [List.mem_singleton.1 hg]; exact hg1), trivial⟩)) hn1 hn2).mono fun _ _ ⟨b, h1, h2, h3⟩ => ⟨b, h1, h2, H.below h3⟩) fun c13 hlim => ?_
  refine SxL.nil ?_
  refine SxN.then_ ?_
  cases c13
  · refine SxC.condF rfl ?_
    refine SxC.skip ?_
    refine SxN.then_ ?_
    refine SxC.seq ?_
    refine SxC.region ?_
    refine SxL.val (v := .agg #[.int .u8 (mk : Int), .int .u64 (mn : Int), .int .u8 (mr : Int), .int .u64 (mb : Int), .int .u64 (ms : Int), .int .u8 (mo : Int), .string ⟨mv.toArray⟩, .slice A vl.length ka, .slice B il.length kb, .int .u8 (ca : Int), .int .u32 (cb : Int), .int .u8 (ck : Int), .string ⟨cs.toArray⟩, .string ⟨ct.toArray⟩, .string ⟨cu.toArray⟩, .int .u8 (cz : Int), .int .u8 (mc : Int), .string ⟨mt.toArray⟩]) trivial rfl rfl (fun ρ w E H => ex_load (part := [.int .u8 (mk : Int), .int .u64 (mn : Int), .int .u8 (mr : Int), .int .u64 (mb : Int), .int .u64 (ms : Int), .int .u8 (mo : Int), .string ⟨mv.toArray⟩, .slice A vl.length ka, .slice B il.length kb, .int .u8 (ca : Int), .int .u32 (cb : Int), .int .u8 (ck : Int), .string ⟨cs.toArray⟩, .string ⟨ct.toArray⟩, .string ⟨cu.toArray⟩, .int .u8 (cz : Int), .int .u8 (mc : Int), .string ⟨mt.toArray⟩]) E (H.get (i := 0) rfl) rfl rfl Try.underlying45 rfl sz_palaver_api_Msg rfl rfl) ?_
    refine SxL.callB (v := .tuple #[.string ⟨sp.toArray⟩, .int .i64 (ep : Int)]) trivial rfl rfl (fun ρ w E => ex_call E en_palaver_msg_Put rfl rfl) (fun w H => (put_any ⟨mk, mn, mr, mb, ms, mo, mv, vl, il, ⟨ca, cb, ck, cs, ct, cu, cz⟩, mc, mt⟩ A B ka kb w hf ((hlim rfl).small hf) (hr.below (H.toBelow ⟨(fun g hg => by rw [List.mem_singleton.1 hg]; exact hg1), trivial⟩))).mono fun _ _ h => ⟨by rw [h.1, hpm], h.2⟩) ?_
    refine SxL.val (v := .tuple #[.string ⟨sp.toArray⟩, .int .i64 (ep : Int)]) trivial rfl rfl (fun ρ w E H => ex_move E rfl rfl) ?_
    refine SxL.val (v := .string ⟨sp.toArray⟩) trivial rfl rfl (fun ρ w E H => ex_extract E rfl rfl rfl) ?_
    refine SxL.val (v := .int .i64 (ep : Int)) trivial rfl rfl (fun ρ w E H => ex_extract E rfl rfl rfl) ?_
    refine SxL.val (v := .string ⟨sp.toArray⟩) trivial rfl rfl (fun ρ w E H => ex_assign E rfl rfl) ?_
    refine SxL.val (v := .int .i64 (ep : Int)) trivial rfl rfl (fun ρ w E H => ex_assign E rfl rfl) ?_
    refine SxL.nil ?_
    refine SxN.then_ ?_
    refine SxC.seq ?_
    refine SxC.seq ?_
    have hok0 : ep = 0 → checkB ⟨mk, mn, mr, mb, ms, mo, mv, vl, il, ⟨ca, cb, ck, cs, ct, cu, cz⟩, mc, mt⟩ = true ∧ (insideB ⟨mk, mn, mr, mb, ms, mo, mv, vl, il, ⟨ca, cb, ck, cs, ct, cu, cz⟩, mc, mt⟩).length ≤ 65536 ∧ sp = Frame.frameB (insideB ⟨mk, mn, mr, mb, ms, mo, mv, vl, il, ⟨ca, cb, ck, cs, ct, cu, cz⟩, mc, mt⟩) := fun h0 => by have hok := putM_ok (m := ⟨mk, mn, mr, mb, ms, mo, mv, vl, il, ⟨ca, cb, ck, cs, ct, cu, cz⟩, mc, mt⟩) (by rw [hpm]; exact h0); exact ⟨hok.1, hok.2.1, by rw [← hok.2.2, hpm]⟩
    have hlen0 : ep = 0 → 10 ≤ sp.length := fun h0 => by obtain ⟨_, h2, h3⟩ := hok0 h0; rw [h3]; have h4 := (Frame.frame_len9 _ h2).1; have h5 : 0 < (insideB ⟨mk, mn, mr, mb, ms, mo, mv, vl, il, ⟨ca, cb, ck, cs, ct, cu, cz⟩, mc, mt⟩).length := (by simp [insideB]); omega
    refine SxC.region ?_
    refine SxL.val (v := .int .i64 (ep : Int)) trivial rfl rfl (fun ρ w E H => ex_move E rfl rfl) ?_
    refine SxL.valB trivial rfl rfl (fun ρ w E H => ex_cmp E rfl rfl rfl rfl rfl) fun c21 hc21 => ?_
    refine SxL.val (v := .bool c21) trivial rfl rfl (fun ρ w E H => ex_move E rfl rfl) ?_
    cases c21
    · refine SxL.val (v := .string ⟨sp.toArray⟩) ⟨_, _, rfl, rfl, rfl⟩ rfl rfl (fun ρ w E H => ex_move E rfl rfl) ?_
      refine SxL.val (v := .int .i64 (sp.length : Int)) ⟨_, _, rfl, rfl, rfl⟩ rfl rfl (fun ρ w E H => ex_lenT E rfl Try.underlying9 rfl) ?_
      refine SxL.val (v := .bool false) ⟨_, _, rfl, rfl, rfl⟩ rfl rfl (fun ρ w E H => ex_cmp E rfl rfl rfl rfl (by have h := hlen0 (by have h := hc21; simp [cmpB] at h; omega); simp [cmpB]; omega)) ?_
      refine SxL.val (v := .bool false) trivial rfl rfl (fun ρ w E H => ex_pick E rfl (t := false) rfl rfl) ?_
      refine SxL.nil ?_
      refine SxN.then_ ?_
      refine SxC.condF rfl ?_
      refine SxC.skip ?_
      refine SxN.then_ ?_
      refine SxC.seq ?_
      have he0 : ep = 0 := by have h := hc21; simp [cmpB] at h; omega
      subst he0
      obtain ⟨hck, hin, hsp⟩ := hok0 rfl
      have hl10 := hlen0 rfl
      have hln := Frame.frame_len _ hin
      rw [← hsp] at hln
      have hl1 : 1 ≤ (insideB ⟨mk, mn, mr, mb, ms, mo, mv, vl, il, ⟨ca, cb, ck, cs, ct, cu, cz⟩, mc, mt⟩).length := by simp [insideB]
      obtain ⟨b0, t0, hnb, hh1, hh2, hh9⟩ := head_num (insideB ⟨mk, mn, mr, mb, ms, mo, mv, vl, il, ⟨ca, cb, ck, cs, ct, cu, cz⟩, mc, mt⟩).length hin
      obtain ⟨hd, hhd⟩ : ∃ hd, hd = (numB (insideB ⟨mk, mn, mr, mb, ms, mo, mv, vl, il, ⟨ca, cb, ck, cs, ct, cu, cz⟩, mc, mt⟩).length).length := ⟨_, rfl⟩
      have hs0 : sp[0]? = some b0 := by rw [hsp]; unfold Frame.frameB; rw [hnb]; rfl
      rw [← hhd] at hh1 hh2 hh9 hln
      have hb0 : b0.toNat < 256 := b0.toNat_lt
      clear hok0 hlen0
      refine SxC.region ?_
      refine SxL.val (v := .int .i64 1) trivial rfl rfl (fun ρ w E H => ex_assign E rfl rfl) ?_
      refine SxL.nil ?_
      refine SxN.then_ ?_
      refine SxC.seq ?_
      refine SxC.cut1 (fun (_ : Unit) => [(1, .int .u32 (at_ : Int)), (5, .string ⟨sp.toArray⟩), (7, .int .i64 (hd : Int))]) (fun _ => [cell g1 45 [.int .u8 (mk : Int), .int .u64 (mn : Int), .int .u8 (mr : Int), .int .u64 (mb : Int), .int .u64 (ms : Int), .int .u8 (mo : Int), .string ⟨mv.toArray⟩, .slice A vl.length ka, .slice B il.length kb, .int .u8 (ca : Int), .int .u32 (cb : Int), .int .u8 (ck : Int), .string ⟨cs.toArray⟩, .string ⟨ct.toArray⟩, .string ⟨cu.toArray⟩, .int .u8 (cz : Int), .int .u8 (mc : Int), .string ⟨mt.toArray⟩]]) (fun _ => True) ?_ fun _ _ => ?_
      · refine SxC.seq ?_
        refine SxC.region ?_
        refine SxL.val (v := .string ⟨sp.toArray⟩) trivial rfl rfl (fun ρ w E H => ex_move E rfl rfl) ?_
        refine SxL.val (v := .int .u8 (b0.toNat : Int)) trivial rfl rfl (fun ρ w E H => ex_indexT (n := 0) (b := b0) E rfl Try.underlying9 rfl rfl hs0 rfl) ?_
        refine SxL.valB trivial rfl rfl (fun ρ w E H => ex_cmp E rfl rfl rfl rfl rfl) fun c34 hc34 => ?_
        refine SxL.nil ?_
        refine SxN.then_ ?_
        cases c34
        · refine SxC.condF rfl ?_
          refine SxC.skip ?_
          obtain rfl : hd = 1 := hh1 (by have h := hc34; simp [cmpB] at h; omega)
          refine SxN.meet () True.intro ⟨rfl, rfl, rfl, trivial⟩ [0] rfl (by decide) ⟨.inl rfl, trivial⟩
        · refine SxC.condT rfl ?_
          refine SxC.region ?_
          refine SxL.val (v := .string ⟨sp.toArray⟩) trivial rfl rfl (fun ρ w E H => ex_move E rfl rfl) ?_
          refine SxL.val (v := .int .u8 (b0.toNat : Int)) trivial rfl rfl (fun ρ w E H => ex_indexT (n := 0) (b := b0) E rfl Try.underlying9 rfl rfl hs0 rfl) ?_
          refine SxL.val (v := .int .i64 (b0.toNat : Int)) trivial rfl rfl (fun ρ w E H => ex_convInt E rfl Try.underlying5 Try.underlying3 rfl (by rw [IntKind.wrap_i64]; omega)) ?_
          refine SxL.val (v := .int .i64 (hd : Int)) trivial rfl rfl (fun ρ w E H => ex_sub E rfl rfl rfl (by rw [IntKind.wrap_i64]; have h := hh2 (by have h := hc34; simp [cmpB] at h; omega); omega)) ?_
          refine SxL.val (v := .int .i64 (hd : Int)) trivial rfl rfl (fun ρ w E H => ex_assign E rfl rfl) ?_
          refine SxL.nil ?_
          refine SxN.meet () True.intro ⟨rfl, rfl, rfl, trivial⟩ [0] rfl (by decide) ⟨.inl rfl, trivial⟩
      refine SxN.then_ ?_
      refine SxC.seq ?_
      refine SxC.seq ?_
      refine SxC.region ?_
      refine SxL.val (v := .int .i64 (hd : Int)) trivial rfl rfl (fun ρ w E H => ex_move E rfl rfl) ?_
      refine SxL.val (v := .bool false) trivial rfl rfl (fun ρ w E H => ex_cmp E rfl rfl rfl rfl (by simp [cmpB]; omega)) ?_
      refine SxL.val (v := .bool false) trivial rfl rfl (fun ρ w E H => ex_move E rfl rfl) ?_
      refine SxL.val (v := .string ⟨sp.toArray⟩) ⟨_, _, rfl, rfl, rfl⟩ rfl rfl (fun ρ w E H => ex_move E rfl rfl) ?_
      refine SxL.val (v := .int .i64 (sp.length : Int)) ⟨_, _, rfl, rfl, rfl⟩ rfl rfl (fun ρ w E H => ex_lenT E rfl Try.underlying9 rfl) ?_
      refine SxL.val (v := .int .i64 (hd : Int)) ⟨_, _, rfl, rfl, rfl⟩ rfl rfl (fun ρ w E H => ex_move E rfl rfl) ?_
      refine SxL.val (v := .bool false) ⟨_, _, rfl, rfl, rfl⟩ rfl rfl (fun ρ w E H => ex_cmp E rfl rfl rfl rfl (by simp [cmpB]; omega)) ?_
      refine SxL.val (v := .bool false) trivial rfl rfl (fun ρ w E H => ex_pick E rfl (t := false) rfl rfl) ?_
      refine SxL.nil ?_
      refine SxN.then_ ?_
      refine SxC.condF rfl ?_
      refine SxC.skip ?_
      refine SxN.then_ ?_
      refine SxC.seq ?_
      refine SxC.region ?_
      refine SxL.val (v := .string ⟨sp.toArray⟩) trivial rfl rfl (fun ρ w E H => ex_move E rfl rfl) ?_
      refine SxL.toBytes (l := sp) trivial rfl rfl rfl Try.underlying9 Try.underlying65 Try.underlying5 rfl fun gb cbb hgb hcbb => ?_
      have hfB : ∀ g ∈ (rowC gb (bv sp)).fp, w.heap.size ≤ g := fun g hg => by rw [List.mem_singleton.1 hg]; exact hgb
      refine SxL.val (v := .slice (some ⟨gb, 0, none⟩) sp.length cbb) trivial rfl rfl (fun ρ w E H => ex_assign E rfl rfl) ?_
      refine SxL.nil ?_
      refine SxN.then_ ?_
      refine SxC.seq ?_
      obtain ⟨mm, hmm⟩ : ∃ mm, mm = 8 * (sp.length - hd) := ⟨_, rfl⟩
      obtain ⟨rr, hrr⟩ : ∃ rr, rr = at_ % mm := ⟨_, rfl⟩
      have hrm : rr < mm := by rw [hrr]; exact Nat.mod_lt _ (by omega)
      obtain ⟨kk, hkk⟩ : ∃ kk, kk = 8 * hd + rr := ⟨_, rfl⟩
      refine SxC.region ?_
      refine SxL.val (v := .int .i64 (hd : Int)) trivial rfl rfl (fun ρ w E H => ex_move E rfl rfl) ?_
      refine SxL.val (v := .int .i64 ((8 * hd : Nat) : Int)) trivial rfl rfl (fun ρ w E H => ex_mul E rfl rfl rfl (by rw [IntKind.wrap_i64]; omega)) ?_
      refine SxL.val (v := .int .u32 (at_ : Int)) trivial rfl rfl (fun ρ w E H => ex_move E rfl rfl) ?_
      refine SxL.val (v := .int .i64 (at_ : Int)) trivial rfl rfl (fun ρ w E H => ex_convInt E rfl Try.underlying34 Try.underlying3 rfl (by rw [IntKind.wrap_i64]; omega)) ?_
      refine SxL.val (v := .slice (some ⟨gb, 0, none⟩) sp.length cbb) trivial rfl rfl (fun ρ w E H => ex_move E rfl rfl) ?_
      refine SxL.val (v := .int .i64 (sp.length : Int)) trivial rfl rfl (fun ρ w E H => ex_lenS E rfl Try.underlying65 rfl) ?_
      refine SxL.val (v := .int .i64 (hd : Int)) trivial rfl rfl (fun ρ w E H => ex_move E rfl rfl) ?_
      refine SxL.val (v := .int .i64 ((sp.length - hd : Nat) : Int)) trivial rfl rfl (fun ρ w E H => ex_sub E rfl rfl rfl (by rw [IntKind.wrap_i64]; omega)) ?_
      refine SxL.val (v := .int .i64 (mm : Int)) trivial rfl rfl (fun ρ w E H => ex_mul E rfl rfl rfl (by rw [IntKind.wrap_i64]; omega)) ?_
      refine SxL.val (v := .int .i64 (rr : Int)) trivial rfl rfl (fun ρ w E H => ex_rem E rfl rfl rfl (by omega) (by rw [hrr]; exact (Int.ofNat_tmod _ _).symm)) ?_
      refine SxL.val (v := .int .i64 (kk : Int)) trivial rfl rfl (fun ρ w E H => ex_add E rfl rfl rfl (by rw [IntKind.wrap_i64]; omega)) ?_
      refine SxL.val (v := .int .i64 (kk : Int)) trivial rfl rfl (fun ρ w E H => ex_assign E rfl rfl) ?_
      refine SxL.nil ?_
      refine SxN.then_ ?_
      refine SxC.seq ?_
      obtain ⟨ii, hii⟩ : ∃ ii, ii = kk / 8 := ⟨_, rfl⟩
      obtain ⟨jj, hjj⟩ : ∃ jj, jj = kk % 8 := ⟨_, rfl⟩
      have hi1 : hd ≤ ii := by omega
      have hi2 : ii < sp.length := by omega
      obtain ⟨b1, hb1⟩ : ∃ b, sp[ii]? = some b := ⟨_, List.getElem?_eq_getElem hi2⟩
      obtain ⟨pw, v1, hpw, hv1, hne⟩ := flip_bit b1 jj (by omega)
      have hbv : (bv sp)[ii]? = some (.int .u8 (b1.toNat : Int)) := by simp [bv, hb1, byteV]
      have hset : (bv sp).set ii (.int .u8 (v1.toNat : Int)) = bv (sp.set ii v1) := by unfold bv; rw [List.map_set]; rfl
      have hbt : takeM (sp.set ii v1) = (ms0 0, 5) := by rw [hsp]; exact takeM_turn _ hin ii (by rw [← hhd]; exact hi1) (by rw [← hsp]; exact hi2) b1 v1 (by rw [← hsp]; exact hb1) hne
      refine SxC.drawnK [] [1] (by kernel_rfl) rfl ⟨(fun g hg => .inr (hfB g hg)), (fun g hg => by rw [List.mem_singleton.1 hg]; exact .inr hg1), trivial⟩ ?_
      refine SxA.take (i := 0) (v := .slice (some ⟨gb, 0, none⟩) sp.length cbb) rfl (by kernel_rfl) (by kernel_rfl) (by kernel_rfl) rfl rfl (fun _ _ _ h => h) trivial (fun ρ w E H => ex_move E rfl rfl) ?_
      refine SxA.take (i := 1) (v := .int .i64 (kk : Int)) rfl (by kernel_rfl) (by kernel_rfl) (by kernel_rfl) rfl rfl (fun _ _ _ h => h) trivial (fun ρ w E H => ex_move E rfl rfl) ?_
      refine SxA.take (i := 2) (v := .int .i64 (ii : Int)) rfl (by kernel_rfl) (by kernel_rfl) (by kernel_rfl) rfl rfl (fun _ _ _ h => h) trivial (fun ρ w E H => ex_quo E rfl rfl rfl (by decide) (by rw [show (kk : Int).tdiv 8 = ((kk / 8 : Nat) : Int) from (Int.ofNat_tdiv kk 8).symm, ← hii, IntKind.wrap_i64]; omega)) ?_
      refine SxA.take (i := 3) (v := .slice (some ⟨gb, 0, none⟩) sp.length cbb) rfl (by kernel_rfl) (by kernel_rfl) (by kernel_rfl) rfl rfl (fun _ _ _ h => h) trivial (fun ρ w E H => ex_move E rfl rfl) ?_
      refine SxA.take (i := 4) (v := .int .i64 (kk : Int)) rfl (by kernel_rfl) (by kernel_rfl) (by kernel_rfl) rfl rfl (fun _ _ _ h => h) trivial (fun ρ w E H => ex_move E rfl rfl) ?_
      refine SxA.take (i := 5) (v := .int .i64 (ii : Int)) rfl (by kernel_rfl) (by kernel_rfl) (by kernel_rfl) rfl rfl (fun _ _ _ h => h) trivial (fun ρ w E H => ex_quo E rfl rfl rfl (by decide) (by rw [show (kk : Int).tdiv 8 = ((kk / 8 : Nat) : Int) from (Int.ofNat_tdiv kk 8).symm, ← hii, IntKind.wrap_i64]; omega)) ?_
      refine SxA.take (i := 6) (v := .pointer (some ((⟨gb, 0, none⟩ : Addr).add (ii * 1)))) rfl (by kernel_rfl) (by kernel_rfl) (by kernel_rfl) rfl rfl (fun _ _ _ h => h) trivial (fun ρ w E H => ex_index (i := ii) E rfl Try.underlying65 sz_uint8 rfl rfl hi2) ?_
      refine SxA.take (i := 8) (v := .int .i64 (kk : Int)) rfl (by kernel_rfl) (by kernel_rfl) (by kernel_rfl) rfl rfl (fun _ _ _ h => h) trivial (fun ρ w E H => ex_move E rfl rfl) ?_
      refine SxA.take (i := 9) (v := .int .i64 (jj : Int)) rfl (by kernel_rfl) (by kernel_rfl) (by kernel_rfl) rfl rfl (fun _ _ _ h => h) trivial (fun ρ w E H => ex_rem E rfl rfl rfl (by decide) (by rw [hjj]; exact (Int.ofNat_tmod kk 8).symm)) ?_
      refine SxA.take (i := 10) (v := .int .u8 (pw : Int)) rfl (by kernel_rfl) (by kernel_rfl) (by kernel_rfl) rfl rfl (fun _ _ _ h => h) trivial (fun ρ w E H => ex_shl (n := jj) E rfl rfl rfl hpw) ?_
      refine SxA.ready [7] (by kernel_rfl) (by simp) ⟨?_, trivial⟩
      refine SxO.val (v := .int .u8 (b1.toNat : Int)) rfl trivial rfl rfl (fun ρ w E H => ex_loadX0 E (RowC.at (H.get (i := 0) rfl) hbv) rfl rfl rfl Try.underlying5 rfl) ?_
      refine SxA.take (i := 11) (v := .int .u8 (v1.toNat : Int)) rfl (by kernel_rfl) (by kernel_rfl) (by kernel_rfl) rfl rfl (fun _ _ _ h => h) trivial (fun ρ w E H => ex_xor E rfl rfl rfl hv1) ?_
      refine SxA.take (i := 12) (v := .pointer (some ((⟨gb, 0, none⟩ : Addr).add (ii * 1)))) rfl (by kernel_rfl) (by kernel_rfl) (by kernel_rfl) rfl rfl (fun _ _ _ h => h) trivial (fun ρ w E H => ex_index (i := ii) E rfl Try.underlying65 sz_uint8 rfl rfl hi2) ?_
      refine SxA.ready [13] (by kernel_rfl) (by simp) ⟨?_, trivial⟩
      refine SxO.skipG _ rfl trivial rfl (fun ρ w E H => H.storeC (i := 0) (k := ii) (v := .int .u8 (v1.toNat : Int)) E rfl rfl rfl rfl (by rw [bv_length]; exact hi2) sz_uint8 rfl rfl) (fun w H => H.ks [] [1] rfl ⟨(fun g hg => .inr (hfB g hg)), (fun g hg => by rw [List.mem_singleton.1 hg]; exact .inr hg1), trivial⟩) ?_
      refine SxA.done (by kernel_rfl) ?_
      refine SxN.then_ ?_
      refine SxC.seq ?_
      refine SxC.region ?_
      refine SxL.val (v := .slice (some ⟨gb, 0, none⟩) sp.length cbb) trivial rfl rfl (fun ρ w E H => ex_move E rfl rfl) ?_
      refine SxL.val (v := .string ⟨(sp.set ii v1).toArray⟩) trivial rfl rfl (fun ρ w E H => ex_fromBytes (l := sp.set ii v1) E (by have h : RowC _ _ _ := H.get (i := 0) rfl; rw [hset] at h; exact h) rfl Try.underlying65 Try.underlying5 Try.underlying9 rfl (by rw [List.length_set])) ?_
      refine SxL.call2 (fun V I => .tuple #[.agg (msL (ms0 0) V I).toArray, .int .i64 5]) (fun V I => OwnIn w [] V ∧ OwnIn w [] I) (fun V I => _) trivial rfl rfl (fun ρ w E => ex_call E en_palaver_msg_Take rfl rfl) (call_takeM (sp.set ii v1) (by rw [List.length_set]; omega) hbt rfl) fun V76 I76 hVI76 => ?_
      refine SxL.with (fun W H => own_is_slice (H.get (i := 0) rfl)) ?_
      rintro ⟨A76, k76, rfl⟩
      refine SxL.with (fun W H => own_is_slice (H.get (i := 1) rfl)) ?_
      rintro ⟨B76, l76, rfl⟩
      refine SxL.val (v := .tuple #[.agg #[.int .u8 ((ms0 0).kind : Int), .int .u64 ((ms0 0).bn : Int), .int .u8 ((ms0 0).br : Int), .int .u64 ((ms0 0).base : Int), .int .u64 ((ms0 0).slot : Int), .int .u8 ((ms0 0).node : Int), .string ⟨((ms0 0).value).toArray⟩, .slice A76 (ms0 0).votes.length k76, .slice B76 (ms0 0).items.length l76, .int .u8 ((ms0 0).cmd.client : Int), .int .u32 ((ms0 0).cmd.seq : Int), .int .u8 ((ms0 0).cmd.kind : Int), .string ⟨((ms0 0).cmd.key).toArray⟩, .string ⟨((ms0 0).cmd.old).toArray⟩, .string ⟨((ms0 0).cmd.new).toArray⟩, .int .u8 ((ms0 0).cmd.set : Int), .int .u8 ((ms0 0).code : Int), .string ⟨((ms0 0).text).toArray⟩], .int .i64 5]) trivial rfl rfl (fun ρ w E H => ex_move E rfl rfl) ?_
      refine SxL.val (v := .agg #[.int .u8 ((ms0 0).kind : Int), .int .u64 ((ms0 0).bn : Int), .int .u8 ((ms0 0).br : Int), .int .u64 ((ms0 0).base : Int), .int .u64 ((ms0 0).slot : Int), .int .u8 ((ms0 0).node : Int), .string ⟨((ms0 0).value).toArray⟩, .slice A76 (ms0 0).votes.length k76, .slice B76 (ms0 0).items.length l76, .int .u8 ((ms0 0).cmd.client : Int), .int .u32 ((ms0 0).cmd.seq : Int), .int .u8 ((ms0 0).cmd.kind : Int), .string ⟨((ms0 0).cmd.key).toArray⟩, .string ⟨((ms0 0).cmd.old).toArray⟩, .string ⟨((ms0 0).cmd.new).toArray⟩, .int .u8 ((ms0 0).cmd.set : Int), .int .u8 ((ms0 0).code : Int), .string ⟨((ms0 0).text).toArray⟩]) trivial rfl rfl (fun ρ w E H => ex_extract E rfl rfl rfl) ?_
      refine SxL.val (v := .int .i64 5) trivial rfl rfl (fun ρ w E H => ex_extract E rfl rfl rfl) ?_
      refine SxL.new (cs := [.int .u8 0, .int .u64 0, .int .u8 0, .int .u64 0, .int .u64 0, .int .u8 0, .string ⟨[].toArray⟩, .slice none 0 0, .slice none 0 0, .int .u8 0, .int .u32 0, .int .u8 0, .string ⟨[].toArray⟩, .string ⟨[].toArray⟩, .string ⟨[].toArray⟩, .int .u8 0, .int .u8 0, .string ⟨[].toArray⟩]) trivial rfl rfl (fun ρ w E H => ex_alloc rfl zr_palaver_api_Msg rfl) fun g2 hg2 => ?_
      refine SxL.store (i := 0) trivial rfl rfl rfl rfl rfl sz_palaver_api_Msg rfl rfl rfl ?_
      refine SxL.val (v := .int .i64 5) trivial rfl rfl (fun ρ w E H => ex_assign E rfl rfl) ?_
      refine SxL.nil ?_
      refine SxN.then_ ?_
      refine SxC.seq ?_
      refine SxC.region ?_
      refine SxL.val (v := .int .i64 5) trivial rfl rfl (fun ρ w E H => ex_move E rfl rfl) ?_
      refine SxL.val (v := .bool true) trivial rfl rfl (fun ρ w E H => ex_cmp E rfl rfl rfl rfl (by decide)) ?_
      refine SxL.val (v := .bool true) trivial rfl rfl (fun ρ w E H => ex_move E rfl rfl) ?_
      refine SxL.val (v := .agg #[.int .u8 ((ms0 0).kind : Int), .int .u64 ((ms0 0).bn : Int), .int .u8 ((ms0 0).br : Int), .int .u64 ((ms0 0).base : Int), .int .u64 ((ms0 0).slot : Int), .int .u8 ((ms0 0).node : Int), .string ⟨((ms0 0).value).toArray⟩, .slice A76 (ms0 0).votes.length k76, .slice B76 (ms0 0).items.length l76, .int .u8 ((ms0 0).cmd.client : Int), .int .u32 ((ms0 0).cmd.seq : Int), .int .u8 ((ms0 0).cmd.kind : Int), .string ⟨((ms0 0).cmd.key).toArray⟩, .string ⟨((ms0 0).cmd.old).toArray⟩, .string ⟨((ms0 0).cmd.new).toArray⟩, .int .u8 ((ms0 0).cmd.set : Int), .int .u8 ((ms0 0).code : Int), .string ⟨((ms0 0).text).toArray⟩]) ⟨_, _, rfl, rfl, rfl⟩ rfl rfl (fun ρ w E H => ex_load (part := [.int .u8 ((ms0 0).kind : Int), .int .u64 ((ms0 0).bn : Int), .int .u8 ((ms0 0).br : Int), .int .u64 ((ms0 0).base : Int), .int .u64 ((ms0 0).slot : Int), .int .u8 ((ms0 0).node : Int), .string ⟨((ms0 0).value).toArray⟩, .slice A76 (ms0 0).votes.length k76, .slice B76 (ms0 0).items.length l76, .int .u8 ((ms0 0).cmd.client : Int), .int .u32 ((ms0 0).cmd.seq : Int), .int .u8 ((ms0 0).cmd.kind : Int), .string ⟨((ms0 0).cmd.key).toArray⟩, .string ⟨((ms0 0).cmd.old).toArray⟩, .string ⟨((ms0 0).cmd.new).toArray⟩, .int .u8 ((ms0 0).cmd.set : Int), .int .u8 ((ms0 0).code : Int), .string ⟨((ms0 0).text).toArray⟩]) E (H.get (i := 0) rfl) rfl rfl Try.underlying45 rfl sz_palaver_api_Msg rfl rfl) ?_
      refine SxL.val (v := .agg #[.int .u8 0, .int .u64 0, .int .u8 0, .int .u64 0, .int .u64 0, .int .u8 0, .string ⟨[].toArray⟩, .slice none 0 0, .slice none 0 0, .int .u8 0, .int .u32 0, .int .u8 0, .string ⟨[].toArray⟩, .string ⟨[].toArray⟩, .string ⟨[].toArray⟩, .int .u8 0, .int .u8 0, .string ⟨[].toArray⟩]) ⟨_, _, rfl, rfl, rfl⟩ rfl rfl (fun ρ w E H => ex_build (cs := [.int .u8 0, .int .u64 0, .int .u8 0, .int .u64 0, .int .u64 0, .int .u8 0, .string ⟨[].toArray⟩, .slice none 0 0, .slice none 0 0, .int .u8 0, .int .u32 0, .int .u8 0, .string ⟨[].toArray⟩, .string ⟨[].toArray⟩, .string ⟨[].toArray⟩, .int .u8 0, .int .u8 0, .string ⟨[].toArray⟩]) E rfl rfl (by kernel_rfl)) ?_
      refine SxL.callB (v := .bool true) ⟨_, _, rfl, rfl, rfl⟩ rfl rfl (fun ρ w E => ex_call E en_palaver_palaverref18_Same rfl rfl) (fun w H => (rsame_any (ms0 0) (ms0 0) A76 B76 none none k76 l76 0 0 w ⟨own_read voL_len (by decide) (H.get (i := 1) rfl), own_read imL_len (by decide) (H.get (i := 2) rfl)⟩ (none_rows _ _ rfl rfl) (by decide) (by decide)).mono fun _ _ h => ⟨by rw [h.1]; simp, h.2⟩) ?_
      refine SxL.val (v := .bool true) trivial rfl rfl (fun ρ w E H => ex_pick E rfl (t := true) rfl rfl) ?_
      refine SxL.val (v := .bool true) trivial rfl rfl (fun ρ w E H => ex_move E rfl rfl) ?_
      refine SxL.callB (v := .bool true) ⟨_, _, rfl, rfl, rfl⟩ rfl rfl (fun ρ w E => ex_call E en_palaver_palaverlaw18_wakes rfl rfl) (fun w H => wakes_any w) ?_
      refine SxL.val (v := .bool true) trivial rfl rfl (fun ρ w E H => ex_pick E rfl (t := true) rfl rfl) ?_
      refine SxL.val (v := .bool true) trivial rfl rfl (fun ρ w E H => ex_assign E rfl rfl) ?_
      refine SxL.nil ?_
      refine SxN.then_ ?_
      refine SxC.ret ?_
      refine SxX.done (.bool true) (fun a w K H => res1 K rfl rfl) (fun w H => ?_)
      exact ⟨rfl, H.toBelow ⟨(fun g hg => by rw [List.mem_singleton.1 hg]; exact hg2), hVI76.1.fresh, hVI76.2.fresh, hfB, (fun g hg => by rw [List.mem_singleton.1 hg]; exact hg1), trivial⟩⟩
    · refine SxL.off ⟨_, _, _, rfl, rfl, rfl, nofun⟩ rfl rfl ?_
      refine SxL.off ⟨_, _, _, rfl, rfl, rfl, nofun⟩ rfl rfl ?_
      refine SxL.off ⟨_, _, _, rfl, rfl, rfl, nofun⟩ rfl rfl ?_
      refine SxL.val (v := .bool true) trivial rfl rfl (fun ρ w E H => ex_pick E rfl (t := true) rfl rfl) ?_
      refine SxL.nil ?_
      refine SxN.then_ ?_
      refine SxC.condT rfl ?_
      refine SxC.seq ?_
      refine SxC.region ?_
      refine SxL.val (v := .int .i64 (ep : Int)) trivial rfl rfl (fun ρ w E H => ex_move E rfl rfl) ?_
      refine SxL.val (v := .bool true) trivial rfl rfl (fun ρ w E H => ex_cmp E rfl rfl rfl rfl hc21) ?_
      refine SxL.val (v := .bool true) trivial rfl rfl (fun ρ w E H => ex_move E rfl rfl) ?_
      refine SxL.callB (v := .bool true) ⟨_, _, rfl, rfl, rfl⟩ rfl rfl (fun ρ w E => ex_call E en_palaver_palaverlaw18_wakes rfl rfl) (fun w H => wakes_any w) ?_
      refine SxL.val (v := .bool true) trivial rfl rfl (fun ρ w E H => ex_pick E rfl (t := true) rfl rfl) ?_
      refine SxL.val (v := .bool true) trivial rfl rfl (fun ρ w E H => ex_assign E rfl rfl) ?_
      refine SxL.nil ?_
      refine SxN.then_ ?_
      refine SxC.ret ?_
      refine SxX.thenR ?_
      refine SxX.done (.bool true) (fun a w K H => res1 K rfl rfl) (fun w H => ?_)
      exact ⟨rfl, H.toBelow ⟨(fun g hg => by rw [List.mem_singleton.1 hg]; exact hg1), trivial⟩⟩
  · refine SxC.condT rfl ?_
    refine SxC.seq ?_
    refine SxC.region ?_
    refine SxL.callB (v := .bool true) trivial rfl rfl (fun ρ w E => ex_call E en_palaver_palaverlaw18_wakes rfl rfl) (fun w H => wakes_any w) ?_
    refine SxL.val (v := .bool true) trivial rfl rfl (fun ρ w E H => ex_assign E rfl rfl) ?_
    refine SxL.nil ?_
    refine SxN.then_ ?_
    refine SxC.ret ?_
    refine SxX.thenR ?_
    refine SxX.done (.bool true) (fun a w K H => res1 K rfl rfl) (fun w H => ?_)
    exact ⟨rfl, H.toBelow ⟨(fun g hg => by rw [List.mem_singleton.1 hg]; exact hg1), trivial⟩⟩

theorem bits_any (m : Ms) (at_ : Nat) (A B : Option Addr) (ka kb : Nat) (w : World) (hf : m.Fits) (hr : MsRows w m A B) (hn1 : m.votes.length ≤ 9223372036854775807) (hn2 : m.items.length ≤ 9223372036854775807) (hat : at_ < 4294967296) : Calls Try.prog 6 #[msV m A ka B kb, .int .u32 (at_ : Int)] w fun e w' => e = .returned (.bool true) ∧ Below w.heap.size w w' := by
  obtain ⟨mk, mn, mr, mb, ms, mo, mv, vl, il, ⟨ca, cb, ck, cs, ct, cu, cz⟩, mc, mt⟩ := m
  exact bits_lit _ _ _ _ _ _ _ _ _ _ _ _ _ _ _ _ _ _ _ _ _ _ _ w hf hr hn1 hn2 hat
end Go.Proofs.Yteiaiilfekojfaa.Msg
end
section
set_option linter.unusedVariables false
namespace Go.Proofs.Yteiaiilfekojfaa.Msg
open Go.Joins Go.RowKit Go.WideShapes Go.ChangeShapes Go.Deep

structure Vx where
  slot : Nat
  n : Nat
  r : Nat
  value : List UInt8
def Vx.Fits (x : Vx) : Prop := x.slot < 18446744073709551616 ∧ x.n < 18446744073709551616 ∧ x.r < 256 ∧ x.value.length ≤ 9223372036854775807
def vxC (x : Vx) : List Value := [.int .u64 (x.slot : Int), .int .u64 (x.n : Int), .int .u8 (x.r : Int), .string ⟨x.value.toArray⟩]
set_option linter.unusedSimpArgs false in
set_option maxRecDepth 100000 in
theorem dec_vx {w : World} : ∀ n es, es.length = 4 → Leafy Try.prog w n 76 es → ∃ x, Vx.Fits x ∧ es = vxC x := by
  intro n es hlen h
  match es, hlen with
  | [c0, c1, c2, c3], _ =>
    have e0 : Try.prog.cellsOf 39 = 2 := by kernel_rfl
    have e1 : Try.prog.cellsOf 9 = 1 := by kernel_rfl
    have e2 : Try.prog.cellsOf 37 = 1 := by kernel_rfl
    have e3 : Try.prog.cellsOf 5 = 1 := by kernel_rfl
    obtain ⟨m1, _, hf1⟩ := leafy_struct Try.underlying76 h
    have g1_0 : Leafy Try.prog w m1 37 ((([c0, c1, c2, c3] : List Value).drop 0).take (Try.prog.cellsOf 37)) := hf1 0 _ rfl
    rw [e2] at g1_0
    simp only [List.drop_zero, List.drop_succ_cons, List.take_succ_cons, List.take_zero] at g1_0
    have g1_1 : Leafy Try.prog w m1 39 ((([c0, c1, c2, c3] : List Value).drop 1).take (Try.prog.cellsOf 39)) := hf1 1 _ rfl
    rw [e0] at g1_1
    simp only [List.drop_zero, List.drop_succ_cons, List.take_succ_cons, List.take_zero] at g1_1
    have g1_2 : Leafy Try.prog w m1 9 ((([c0, c1, c2, c3] : List Value).drop 3).take (Try.prog.cellsOf 9)) := hf1 2 _ rfl
    rw [e1] at g1_2
    simp only [List.drop_zero, List.drop_succ_cons, List.take_succ_cons, List.take_zero] at g1_2
    obtain ⟨z0, q0, w0⟩ := leafy_int Try.underlying37 g1_0
    obtain rfl : c0 = _ := List.head_eq_of_cons_eq q0
    have b0 := bounds_u64 w0
    obtain ⟨x0, rfl⟩ := Int.eq_ofNat_of_zero_le b0.1
    obtain ⟨m2, _, hf2⟩ := leafy_struct Try.underlying39 g1_1
    have g2_0 : Leafy Try.prog w m2 37 ((([c1, c2] : List Value).drop 0).take (Try.prog.cellsOf 37)) := hf2 0 _ rfl
    rw [e2] at g2_0
    simp only [List.drop_zero, List.drop_succ_cons, List.take_succ_cons, List.take_zero] at g2_0
    have g2_1 : Leafy Try.prog w m2 5 ((([c1, c2] : List Value).drop 1).take (Try.prog.cellsOf 5)) := hf2 1 _ rfl
    rw [e3] at g2_1
    simp only [List.drop_zero, List.drop_succ_cons, List.take_succ_cons, List.take_zero] at g2_1
    obtain ⟨z1, q1, w1⟩ := leafy_int Try.underlying37 g2_0
    obtain rfl : c1 = _ := List.head_eq_of_cons_eq q1
    have b1 := bounds_u64 w1
    obtain ⟨x1, rfl⟩ := Int.eq_ofNat_of_zero_le b1.1
    obtain ⟨z2, q2, w2⟩ := leafy_int Try.underlying5 g2_1
    obtain rfl : c2 = _ := List.head_eq_of_cons_eq q2
    have b2 := bounds_u8 w2
    obtain ⟨x2, rfl⟩ := Int.eq_ofNat_of_zero_le b2.1
    obtain ⟨x3, q3, b3⟩ := leafy_string Try.underlying9 g1_2
    obtain rfl : c3 = _ := List.head_eq_of_cons_eq q3
    exact ⟨⟨x0, x1, x2, x3⟩, by simp only [Vx.Fits]; omega, rfl⟩

set_option maxRecDepth 100000 in
theorem dec_vo {w : World} : ∀ n es, es.length = 4 → Leafy Try.prog w n 76 es → ∃ x : Vo, x.Fits ∧ es = voL x := by
  intro n es hl h
  obtain ⟨x, hx, he⟩ := dec_vx n es hl h
  simp only [Vx.Fits] at hx
  exact ⟨⟨x.slot, x.n, x.r, x.value⟩, ⟨hx.1, hx.2.1, hx.2.2.1⟩, he⟩
structure Ix where
  slot : Nat
  value : List UInt8
def Ix.Fits (x : Ix) : Prop := x.slot < 18446744073709551616 ∧ x.value.length ≤ 9223372036854775807
def ixC (x : Ix) : List Value := [.int .u64 (x.slot : Int), .string ⟨x.value.toArray⟩]
set_option linter.unusedSimpArgs false in
set_option maxRecDepth 100000 in
theorem dec_ix {w : World} : ∀ n es, es.length = 2 → Leafy Try.prog w n 78 es → ∃ x, Ix.Fits x ∧ es = ixC x := by
  intro n es hlen h
  match es, hlen with
  | [c0, c1], _ =>
    have e0 : Try.prog.cellsOf 9 = 1 := by kernel_rfl
    have e1 : Try.prog.cellsOf 37 = 1 := by kernel_rfl
    obtain ⟨m1, _, hf1⟩ := leafy_struct Try.underlying78 h
    have g1_0 : Leafy Try.prog w m1 37 ((([c0, c1] : List Value).drop 0).take (Try.prog.cellsOf 37)) := hf1 0 _ rfl
    rw [e1] at g1_0
    simp only [List.drop_zero, List.drop_succ_cons, List.take_succ_cons, List.take_zero] at g1_0
    have g1_1 : Leafy Try.prog w m1 9 ((([c0, c1] : List Value).drop 1).take (Try.prog.cellsOf 9)) := hf1 1 _ rfl
    rw [e0] at g1_1
    simp only [List.drop_zero, List.drop_succ_cons, List.take_succ_cons, List.take_zero] at g1_1
    obtain ⟨z0, q0, w0⟩ := leafy_int Try.underlying37 g1_0
    obtain rfl : c0 = _ := List.head_eq_of_cons_eq q0
    have b0 := bounds_u64 w0
    obtain ⟨x0, rfl⟩ := Int.eq_ofNat_of_zero_le b0.1
    obtain ⟨x1, q1, b1⟩ := leafy_string Try.underlying9 g1_1
    obtain rfl : c1 = _ := List.head_eq_of_cons_eq q1
    exact ⟨⟨x0, x1⟩, by simp only [Ix.Fits]; omega, rfl⟩

theorem dec_im {w : World} : ∀ n es, es.length = 2 → Leafy Try.prog w n 78 es → ∃ x : Im, x.slot < 18446744073709551616 ∧ es = imL x := by
  intro n es hl h
  obtain ⟨x, hx, he⟩ := dec_ix n es hl h
  simp only [Ix.Fits] at hx
  exact ⟨⟨x.slot, x.value⟩, hx.1, he⟩
set_option maxRecDepth 100000 in
theorem leafy_vos {w : World} {n : Nat} {cs : List Value} (h : Leafy Try.prog w n 40 cs) : ∃ (A : Option Addr) (c : Nat) (V : List Vo), cs = [.slice A V.length c] ∧ Rows w A 4 voL V ∧ (∀ x ∈ V, x.Fits) ∧ V.length ≤ 9223372036854775807 := by
  cases n with
  | zero => exact h.elim
  | succ n =>
    unfold Leafy at h
    rw [Try.underlying40] at h
    have e4 : Try.prog.cellsOf 76 = 4 := by kernel_rfl
    rcases h with h0 | ⟨a, len, cap, h0, hl, hc, hi⟩
    · exact ⟨none, 0, [], h0, Rows.nil _ _ _ _, by simp, by simp⟩
    · obtain ⟨l, h1, h2, h3⟩ := rows_of (w := w) (sz := 4) (cells := voL) (a := a) (m := len) (Q := fun x => x.Fits) (fun i hil => by
        obtain ⟨es, e1, e2, e3⟩ := hi i hil
        obtain ⟨x, hx, he⟩ := dec_vo n es (by rw [e1, e4]) e2
        exact ⟨x, hx, es, he, by rw [e4] at e3; exact e3⟩) (fun x => by rw [voL_len]; omega)
      exact ⟨some a, cap, l, by rw [h1]; exact h0, h3, h2, by omega⟩
set_option maxRecDepth 100000 in
theorem leafy_ims {w : World} {n : Nat} {cs : List Value} (h : Leafy Try.prog w n 41 cs) : ∃ (A : Option Addr) (c : Nat) (V : List Im), cs = [.slice A V.length c] ∧ Rows w A 2 imL V ∧ (∀ x ∈ V, x.slot < 18446744073709551616) ∧ V.length ≤ 9223372036854775807 := by
  cases n with
  | zero => exact h.elim
  | succ n =>
    unfold Leafy at h
    rw [Try.underlying41] at h
    have e4 : Try.prog.cellsOf 78 = 2 := by kernel_rfl
    rcases h with h0 | ⟨a, len, cap, h0, hl, hc, hi⟩
    · exact ⟨none, 0, [], h0, Rows.nil _ _ _ _, by simp, by simp⟩
    · obtain ⟨l, h1, h2, h3⟩ := rows_of (w := w) (sz := 2) (cells := imL) (a := a) (m := len) (Q := fun x => x.slot < 18446744073709551616) (fun i hil => by
        obtain ⟨es, e1, e2, e3⟩ := hi i hil
        obtain ⟨x, hx, he⟩ := dec_im n es (by rw [e1, e4]) e2
        exact ⟨x, hx, es, he, by rw [e4] at e3; exact e3⟩) (fun x => by rw [imL_len]; omega)
      exact ⟨some a, cap, l, by rw [h1]; exact h0, h3, h2, by omega⟩
set_option linter.unusedSimpArgs false in
set_option maxRecDepth 100000 in
theorem dec_msg {w : World} : ∀ n es, es.length = 18 → Leafy Try.prog w n 45 es → ∃ (m : Ms) (A : Option Addr) (ka : Nat) (B : Option Addr) (kb : Nat), m.Fits ∧ MsRows w m A B ∧ (m.votes.length ≤ 9223372036854775807 ∧ m.items.length ≤ 9223372036854775807) ∧ es = msL m (.slice A m.votes.length ka) (.slice B m.items.length kb) := by
  intro n es hlen h
  match es, hlen with
  | [c0, c1, c2, c3, c4, c5, c6, c7, c8, c9, c10, c11, c12, c13, c14, c15, c16, c17], _ =>
    have e0 : Try.prog.cellsOf 41 = 1 := by kernel_rfl
    have e1 : Try.prog.cellsOf 40 = 1 := by kernel_rfl
    have e2 : Try.prog.cellsOf 39 = 2 := by kernel_rfl
    have e3 : Try.prog.cellsOf 36 = 7 := by kernel_rfl
    have e4 : Try.prog.cellsOf 43 = 2 := by kernel_rfl
    have e5 : Try.prog.cellsOf 9 = 1 := by kernel_rfl
    have e6 : Try.prog.cellsOf 34 = 1 := by kernel_rfl
    have e7 : Try.prog.cellsOf 37 = 1 := by kernel_rfl
    have e8 : Try.prog.cellsOf 5 = 1 := by kernel_rfl
    obtain ⟨m1, _, hf1⟩ := leafy_struct Try.underlying45 h
    have g1_0 : Leafy Try.prog w m1 5 ((([c0, c1, c2, c3, c4, c5, c6, c7, c8, c9, c10, c11, c12, c13, c14, c15, c16, c17] : List Value).drop 0).take (Try.prog.cellsOf 5)) := hf1 0 _ rfl
    rw [e8] at g1_0
    simp only [List.drop_zero, List.drop_succ_cons, List.take_succ_cons, List.take_zero] at g1_0
    have g1_1 : Leafy Try.prog w m1 39 ((([c0, c1, c2, c3, c4, c5, c6, c7, c8, c9, c10, c11, c12, c13, c14, c15, c16, c17] : List Value).drop 1).take (Try.prog.cellsOf 39)) := hf1 1 _ rfl
    rw [e2] at g1_1
    simp only [List.drop_zero, List.drop_succ_cons, List.take_succ_cons, List.take_zero] at g1_1
    have g1_2 : Leafy Try.prog w m1 37 ((([c0, c1, c2, c3, c4, c5, c6, c7, c8, c9, c10, c11, c12, c13, c14, c15, c16, c17] : List Value).drop 3).take (Try.prog.cellsOf 37)) := hf1 2 _ rfl
    rw [e7] at g1_2
    simp only [List.drop_zero, List.drop_succ_cons, List.take_succ_cons, List.take_zero] at g1_2
    have g1_3 : Leafy Try.prog w m1 37 ((([c0, c1, c2, c3, c4, c5, c6, c7, c8, c9, c10, c11, c12, c13, c14, c15, c16, c17] : List Value).drop 4).take (Try.prog.cellsOf 37)) := hf1 3 _ rfl
    rw [e7] at g1_3
    simp only [List.drop_zero, List.drop_succ_cons, List.take_succ_cons, List.take_zero] at g1_3
    have g1_4 : Leafy Try.prog w m1 5 ((([c0, c1, c2, c3, c4, c5, c6, c7, c8, c9, c10, c11, c12, c13, c14, c15, c16, c17] : List Value).drop 5).take (Try.prog.cellsOf 5)) := hf1 4 _ rfl
    rw [e8] at g1_4
    simp only [List.drop_zero, List.drop_succ_cons, List.take_succ_cons, List.take_zero] at g1_4
    have g1_5 : Leafy Try.prog w m1 9 ((([c0, c1, c2, c3, c4, c5, c6, c7, c8, c9, c10, c11, c12, c13, c14, c15, c16, c17] : List Value).drop 6).take (Try.prog.cellsOf 9)) := hf1 5 _ rfl
    rw [e5] at g1_5
    simp only [List.drop_zero, List.drop_succ_cons, List.take_succ_cons, List.take_zero] at g1_5
    have g1_6 : Leafy Try.prog w m1 40 ((([c0, c1, c2, c3, c4, c5, c6, c7, c8, c9, c10, c11, c12, c13, c14, c15, c16, c17] : List Value).drop 7).take (Try.prog.cellsOf 40)) := hf1 6 _ rfl
    rw [e1] at g1_6
    simp only [List.drop_zero, List.drop_succ_cons, List.take_succ_cons, List.take_zero] at g1_6
    have g1_7 : Leafy Try.prog w m1 41 ((([c0, c1, c2, c3, c4, c5, c6, c7, c8, c9, c10, c11, c12, c13, c14, c15, c16, c17] : List Value).drop 8).take (Try.prog.cellsOf 41)) := hf1 7 _ rfl
    rw [e0] at g1_7
    simp only [List.drop_zero, List.drop_succ_cons, List.take_succ_cons, List.take_zero] at g1_7
    have g1_8 : Leafy Try.prog w m1 36 ((([c0, c1, c2, c3, c4, c5, c6, c7, c8, c9, c10, c11, c12, c13, c14, c15, c16, c17] : List Value).drop 9).take (Try.prog.cellsOf 36)) := hf1 8 _ rfl
    rw [e3] at g1_8
    simp only [List.drop_zero, List.drop_succ_cons, List.take_succ_cons, List.take_zero] at g1_8
    have g1_9 : Leafy Try.prog w m1 43 ((([c0, c1, c2, c3, c4, c5, c6, c7, c8, c9, c10, c11, c12, c13, c14, c15, c16, c17] : List Value).drop 16).take (Try.prog.cellsOf 43)) := hf1 9 _ rfl
    rw [e4] at g1_9
    simp only [List.drop_zero, List.drop_succ_cons, List.take_succ_cons, List.take_zero] at g1_9
    obtain ⟨z0, q0, w0⟩ := leafy_int Try.underlying5 g1_0
    obtain rfl : c0 = _ := List.head_eq_of_cons_eq q0
    have b0 := bounds_u8 w0
    obtain ⟨x0, rfl⟩ := Int.eq_ofNat_of_zero_le b0.1
    obtain ⟨m2, _, hf2⟩ := leafy_struct Try.underlying39 g1_1
    have g2_0 : Leafy Try.prog w m2 37 ((([c1, c2] : List Value).drop 0).take (Try.prog.cellsOf 37)) := hf2 0 _ rfl
    rw [e7] at g2_0
    simp only [List.drop_zero, List.drop_succ_cons, List.take_succ_cons, List.take_zero] at g2_0
    have g2_1 : Leafy Try.prog w m2 5 ((([c1, c2] : List Value).drop 1).take (Try.prog.cellsOf 5)) := hf2 1 _ rfl
    rw [e8] at g2_1
    simp only [List.drop_zero, List.drop_succ_cons, List.take_succ_cons, List.take_zero] at g2_1
    obtain ⟨z1, q1, w1⟩ := leafy_int Try.underlying37 g2_0
    obtain rfl : c1 = _ := List.head_eq_of_cons_eq q1
    have b1 := bounds_u64 w1
    obtain ⟨x1, rfl⟩ := Int.eq_ofNat_of_zero_le b1.1
    obtain ⟨z2, q2, w2⟩ := leafy_int Try.underlying5 g2_1
    obtain rfl : c2 = _ := List.head_eq_of_cons_eq q2
    have b2 := bounds_u8 w2
    obtain ⟨x2, rfl⟩ := Int.eq_ofNat_of_zero_le b2.1
    obtain ⟨z3, q3, w3⟩ := leafy_int Try.underlying37 g1_2
    obtain rfl : c3 = _ := List.head_eq_of_cons_eq q3
    have b3 := bounds_u64 w3
    obtain ⟨x3, rfl⟩ := Int.eq_ofNat_of_zero_le b3.1
    obtain ⟨z4, q4, w4⟩ := leafy_int Try.underlying37 g1_3
    obtain rfl : c4 = _ := List.head_eq_of_cons_eq q4
    have b4 := bounds_u64 w4
    obtain ⟨x4, rfl⟩ := Int.eq_ofNat_of_zero_le b4.1
    obtain ⟨z5, q5, w5⟩ := leafy_int Try.underlying5 g1_4
    obtain rfl : c5 = _ := List.head_eq_of_cons_eq q5
    have b5 := bounds_u8 w5
    obtain ⟨x5, rfl⟩ := Int.eq_ofNat_of_zero_le b5.1
    obtain ⟨x6, q6, b6⟩ := leafy_string Try.underlying9 g1_5
    obtain rfl : c6 = _ := List.head_eq_of_cons_eq q6
    obtain ⟨A7, k7, V7, q7, r7, f7, n7⟩ := leafy_vos g1_6
    obtain rfl : c7 = _ := List.head_eq_of_cons_eq q7
    obtain ⟨A8, k8, V8, q8, r8, f8, n8⟩ := leafy_ims g1_7
    obtain rfl : c8 = _ := List.head_eq_of_cons_eq q8
    obtain ⟨m3, _, hf3⟩ := leafy_struct Try.underlying36 g1_8
    have g3_0 : Leafy Try.prog w m3 5 ((([c9, c10, c11, c12, c13, c14, c15] : List Value).drop 0).take (Try.prog.cellsOf 5)) := hf3 0 _ rfl
    rw [e8] at g3_0
    simp only [List.drop_zero, List.drop_succ_cons, List.take_succ_cons, List.take_zero] at g3_0
    have g3_1 : Leafy Try.prog w m3 34 ((([c9, c10, c11, c12, c13, c14, c15] : List Value).drop 1).take (Try.prog.cellsOf 34)) := hf3 1 _ rfl
    rw [e6] at g3_1
    simp only [List.drop_zero, List.drop_succ_cons, List.take_succ_cons, List.take_zero] at g3_1
    have g3_2 : Leafy Try.prog w m3 5 ((([c9, c10, c11, c12, c13, c14, c15] : List Value).drop 2).take (Try.prog.cellsOf 5)) := hf3 2 _ rfl
    rw [e8] at g3_2
    simp only [List.drop_zero, List.drop_succ_cons, List.take_succ_cons, List.take_zero] at g3_2
    have g3_3 : Leafy Try.prog w m3 9 ((([c9, c10, c11, c12, c13, c14, c15] : List Value).drop 3).take (Try.prog.cellsOf 9)) := hf3 3 _ rfl
    rw [e5] at g3_3
    simp only [List.drop_zero, List.drop_succ_cons, List.take_succ_cons, List.take_zero] at g3_3
    have g3_4 : Leafy Try.prog w m3 9 ((([c9, c10, c11, c12, c13, c14, c15] : List Value).drop 4).take (Try.prog.cellsOf 9)) := hf3 4 _ rfl
    rw [e5] at g3_4
    simp only [List.drop_zero, List.drop_succ_cons, List.take_succ_cons, List.take_zero] at g3_4
    have g3_5 : Leafy Try.prog w m3 9 ((([c9, c10, c11, c12, c13, c14, c15] : List Value).drop 5).take (Try.prog.cellsOf 9)) := hf3 5 _ rfl
    rw [e5] at g3_5
    simp only [List.drop_zero, List.drop_succ_cons, List.take_succ_cons, List.take_zero] at g3_5
    have g3_6 : Leafy Try.prog w m3 5 ((([c9, c10, c11, c12, c13, c14, c15] : List Value).drop 6).take (Try.prog.cellsOf 5)) := hf3 6 _ rfl
    rw [e8] at g3_6
    simp only [List.drop_zero, List.drop_succ_cons, List.take_succ_cons, List.take_zero] at g3_6
    obtain ⟨z9, q9, w9⟩ := leafy_int Try.underlying5 g3_0
    obtain rfl : c9 = _ := List.head_eq_of_cons_eq q9
    have b9 := bounds_u8 w9
    obtain ⟨x9, rfl⟩ := Int.eq_ofNat_of_zero_le b9.1
    obtain ⟨z10, q10, w10⟩ := leafy_int Try.underlying34 g3_1
    obtain rfl : c10 = _ := List.head_eq_of_cons_eq q10
    have b10 := bounds_u32 w10
    obtain ⟨x10, rfl⟩ := Int.eq_ofNat_of_zero_le b10.1
    obtain ⟨z11, q11, w11⟩ := leafy_int Try.underlying5 g3_2
    obtain rfl : c11 = _ := List.head_eq_of_cons_eq q11
    have b11 := bounds_u8 w11
    obtain ⟨x11, rfl⟩ := Int.eq_ofNat_of_zero_le b11.1
    obtain ⟨x12, q12, b12⟩ := leafy_string Try.underlying9 g3_3
    obtain rfl : c12 = _ := List.head_eq_of_cons_eq q12
    obtain ⟨x13, q13, b13⟩ := leafy_string Try.underlying9 g3_4
    obtain rfl : c13 = _ := List.head_eq_of_cons_eq q13
    obtain ⟨x14, q14, b14⟩ := leafy_string Try.underlying9 g3_5
    obtain rfl : c14 = _ := List.head_eq_of_cons_eq q14
    obtain ⟨z15, q15, w15⟩ := leafy_int Try.underlying5 g3_6
    obtain rfl : c15 = _ := List.head_eq_of_cons_eq q15
    have b15 := bounds_u8 w15
    obtain ⟨x15, rfl⟩ := Int.eq_ofNat_of_zero_le b15.1
    obtain ⟨m4, _, hf4⟩ := leafy_struct Try.underlying43 g1_9
    have g4_0 : Leafy Try.prog w m4 5 ((([c16, c17] : List Value).drop 0).take (Try.prog.cellsOf 5)) := hf4 0 _ rfl
    rw [e8] at g4_0
    simp only [List.drop_zero, List.drop_succ_cons, List.take_succ_cons, List.take_zero] at g4_0
    have g4_1 : Leafy Try.prog w m4 9 ((([c16, c17] : List Value).drop 1).take (Try.prog.cellsOf 9)) := hf4 1 _ rfl
    rw [e5] at g4_1
    simp only [List.drop_zero, List.drop_succ_cons, List.take_succ_cons, List.take_zero] at g4_1
    obtain ⟨z16, q16, w16⟩ := leafy_int Try.underlying5 g4_0
    obtain rfl : c16 = _ := List.head_eq_of_cons_eq q16
    have b16 := bounds_u8 w16
    obtain ⟨x16, rfl⟩ := Int.eq_ofNat_of_zero_le b16.1
    obtain ⟨x17, q17, b17⟩ := leafy_string Try.underlying9 g4_1
    obtain rfl : c17 = _ := List.head_eq_of_cons_eq q17
    exact ⟨⟨x0, x1, x2, x3, x4, x5, x6, V7, V8, ⟨x9, x10, x11, x12, x13, x14, x15⟩, x16, x17⟩, A7, k7, A8, k8, ⟨(show x0 < 256 by omega), (show x1 < 18446744073709551616 by omega), (show x2 < 256 by omega), (show x3 < 18446744073709551616 by omega), (show x4 < 18446744073709551616 by omega), (show x5 < 256 by omega), f7, f8, ⟨(show x9 < 256 by omega), (show x10 < 4294967296 by omega), (show x11 < 256 by omega), b12, b13, b14, (show x15 < 256 by omega)⟩, (show x16 < 256 by omega)⟩, ⟨r7, r8⟩, ⟨n7, n8⟩, rfl⟩

set_option maxRecDepth 100000 in
theorem open_msg {H : Type} {enc : TypeId × Value → H} {w : World} {v : Value} {d : DataW H} {p : List MemPlace} (h : DataW.Trod enc Try.prog w 0 (fun _ => true) true 45 v d p) : ∃ (m : Ms) (A : Option Addr) (ka : Nat) (B : Option Addr) (kb : Nat), v = msV m A ka B kb ∧ m.Fits ∧ MsRows w m A B ∧ m.votes.length ≤ 9223372036854775807 ∧ m.items.length ≤ 9223372036854775807 := by
  obtain ⟨n, hn⟩ := leafy_trod h
  have hlen : v.cells.toList.length = 18 := by
    obtain ⟨m, hl, _⟩ := leafy_struct Try.underlying45 hn
    rw [hl]
    kernel_rfl
  obtain ⟨m, A, ka, B, kb, h1, h2, h3, he⟩ := dec_msg n _ hlen hn
  refine ⟨m, A, ka, B, kb, ?_, h1, h2, h3⟩
  cases v with
  | agg cs =>
    have e : cs.toList = _ := he
    exact congrArg Value.agg (Array.ext' e)
  | _ => simp [Value.cells] at hlen
end Go.Proofs.Yteiaiilfekojfaa.Msg
end
section
set_option linter.unusedVariables false
set_option linter.unusedSimpArgs false
namespace Go.Proofs.Yteiaiilfekojfaa.Msg
open Go.RowKit Sx Wire DrawInv
set_option maxRecDepth 100000 in
set_option maxHeartbeats 4000000 in
theorem long_any   (w : World) : Calls Try.prog 4 #[] w fun e w' => e = .returned (.bool true) ∧ Below w.heap.size w w' := by
  obtain ⟨N, s, hN, hN2, hp1, htk, hsl, hp2⟩ := long_facts
  refine sx_enter (n := 53) [] Try.func4 rfl rfl rfl (Hp.start w) ?_
  refine SxC.seq ?_
  refine SxC.region ?_
  refine SxL.val (v := .bool false) trivial rfl rfl (fun ρ w E H => ex_assign E rfl rfl) ?_
  refine SxL.nil ?_
  refine SxN.then_ ?_
  refine SxC.seq ?_
  refine SxC.region ?_
  refine SxL.make (m := N) (v := .int .u8 0) trivial rfl rfl rfl Try.underlying65 nf_uint8 rfl rfl hN.symm (by omega) (by omega) (by omega) rfl fun gm hgm => ?_
  refine SxL.val (v := .string ⟨(List.replicate N (0 : UInt8)).toArray⟩) trivial rfl rfl (fun ρ w E H => ex_convS (l := List.replicate N 0) E rfl Try.underlying65 Try.underlying5 Try.underlying9 rfl (H.get (i := 0) rfl) (by simp [bv, byteV])) ?_
  refine SxL.val (v := .agg #[.int .u8 12, .int .u64 0, .int .u8 0, .int .u64 0, .int .u64 1, .int .u8 0, .string ⟨((List.replicate N (0 : UInt8))).toArray⟩, .slice none 0 0, .slice none 0 0, .int .u8 0, .int .u32 0, .int .u8 0, .string ⟨[].toArray⟩, .string ⟨[].toArray⟩, .string ⟨[].toArray⟩, .int .u8 0, .int .u8 0, .string ⟨[].toArray⟩]) trivial rfl rfl (fun ρ w E H => ex_build (cs := [.int .u8 12, .int .u64 0, .int .u8 0, .int .u64 0, .int .u64 1, .int .u8 0, .string ⟨((List.replicate N (0 : UInt8))).toArray⟩, .slice none 0 0, .slice none 0 0, .int .u8 0, .int .u32 0, .int .u8 0, .string ⟨[].toArray⟩, .string ⟨[].toArray⟩, .string ⟨[].toArray⟩, .int .u8 0, .int .u8 0, .string ⟨[].toArray⟩]) E rfl rfl (by kernel_rfl)) ?_
  refine SxL.new (cs := [.int .u8 0, .int .u64 0, .int .u8 0, .int .u64 0, .int .u64 0, .int .u8 0, .string ⟨[].toArray⟩, .slice none 0 0, .slice none 0 0, .int .u8 0, .int .u32 0, .int .u8 0, .string ⟨[].toArray⟩, .string ⟨[].toArray⟩, .string ⟨[].toArray⟩, .int .u8 0, .int .u8 0, .string ⟨[].toArray⟩]) trivial rfl rfl (fun ρ w E H => ex_alloc rfl zr_palaver_api_Msg rfl) fun g1 hg1 => ?_
  refine SxL.store (i := 0) trivial rfl rfl rfl rfl rfl sz_palaver_api_Msg rfl rfl rfl ?_
  refine SxL.nil ?_
  refine SxN.then_ ?_
  refine SxC.seq ?_
  refine SxC.region ?_
  refine SxL.val (v := .agg #[.int .u8 12, .int .u64 0, .int .u8 0, .int .u64 0, .int .u64 1, .int .u8 0, .string ⟨((List.replicate N (0 : UInt8))).toArray⟩, .slice none 0 0, .slice none 0 0, .int .u8 0, .int .u32 0, .int .u8 0, .string ⟨[].toArray⟩, .string ⟨[].toArray⟩, .string ⟨[].toArray⟩, .int .u8 0, .int .u8 0, .string ⟨[].toArray⟩]) trivial rfl rfl (fun ρ w E H => ex_load (part := [.int .u8 12, .int .u64 0, .int .u8 0, .int .u64 0, .int .u64 1, .int .u8 0, .string ⟨((List.replicate N (0 : UInt8))).toArray⟩, .slice none 0 0, .slice none 0 0, .int .u8 0, .int .u32 0, .int .u8 0, .string ⟨[].toArray⟩, .string ⟨[].toArray⟩, .string ⟨[].toArray⟩, .int .u8 0, .int .u8 0, .string ⟨[].toArray⟩]) E (H.get (i := 0) rfl) rfl rfl Try.underlying45 rfl sz_palaver_api_Msg rfl rfl) ?_
  refine SxL.callB (v := .tuple #[.string ⟨s.toArray⟩, .int .i64 0]) trivial rfl rfl (fun ρ w E => ex_call E en_palaver_msg_Put rfl rfl) (fun w H => (put_any (⟨12, 0, 0, 0, 1, 0, (List.replicate N 0), [], [], Cmd.cm0, 0, []⟩ : Ms) none none 0 0 w (lm_fits _) (lm_small _ (by rw [List.length_replicate]; omega)) (none_rows _ _ rfl rfl)).mono fun _ _ h => ⟨by rw [h.1, hp1]; rfl, h.2⟩) ?_
  refine SxL.val (v := .tuple #[.string ⟨s.toArray⟩, .int .i64 0]) trivial rfl rfl (fun ρ w E H => ex_move E rfl rfl) ?_
  refine SxL.val (v := .string ⟨s.toArray⟩) trivial rfl rfl (fun ρ w E H => ex_extract E rfl rfl rfl) ?_
  refine SxL.val (v := .int .i64 0) trivial rfl rfl (fun ρ w E H => ex_extract E rfl rfl rfl) ?_
  refine SxL.val (v := .string ⟨s.toArray⟩) trivial rfl rfl (fun ρ w E H => ex_assign E rfl rfl) ?_
  refine SxL.val (v := .int .i64 0) trivial rfl rfl (fun ρ w E H => ex_assign E rfl rfl) ?_
  refine SxL.nil ?_
  refine SxN.then_ ?_
  refine SxC.seq ?_
  refine SxC.region ?_
  refine SxL.val (v := .string ⟨s.toArray⟩) trivial rfl rfl (fun ρ w E H => ex_move E rfl rfl) ?_
  refine SxL.call2 (fun V I => .tuple #[.agg (msL (⟨12, 0, 0, 0, 1, 0, (List.replicate N 0), [], [], Cmd.cm0, 0, []⟩ : Ms) V I).toArray, .int .i64 0]) (fun V I => OwnIn w [] V ∧ OwnIn w [] I) (fun V I => _) trivial rfl rfl (fun ρ w E => ex_call E en_palaver_msg_Take rfl rfl) (call_takeM s (by omega) htk rfl) fun V18 I18 hVI18 => ?_
  refine SxL.with (fun W H => own_is_slice (H.get (i := 0) rfl)) ?_
  rintro ⟨A18, k18, rfl⟩
  refine SxL.with (fun W H => own_is_slice (H.get (i := 1) rfl)) ?_
  rintro ⟨B18, l18, rfl⟩
  refine SxL.val (v := .tuple #[.agg #[.int .u8 ((⟨12, 0, 0, 0, 1, 0, (List.replicate N 0), [], [], Cmd.cm0, 0, []⟩ : Ms).kind : Int), .int .u64 ((⟨12, 0, 0, 0, 1, 0, (List.replicate N 0), [], [], Cmd.cm0, 0, []⟩ : Ms).bn : Int), .int .u8 ((⟨12, 0, 0, 0, 1, 0, (List.replicate N 0), [], [], Cmd.cm0, 0, []⟩ : Ms).br : Int), .int .u64 ((⟨12, 0, 0, 0, 1, 0, (List.replicate N 0), [], [], Cmd.cm0, 0, []⟩ : Ms).base : Int), .int .u64 ((⟨12, 0, 0, 0, 1, 0, (List.replicate N 0), [], [], Cmd.cm0, 0, []⟩ : Ms).slot : Int), .int .u8 ((⟨12, 0, 0, 0, 1, 0, (List.replicate N 0), [], [], Cmd.cm0, 0, []⟩ : Ms).node : Int), .string ⟨((⟨12, 0, 0, 0, 1, 0, (List.replicate N 0), [], [], Cmd.cm0, 0, []⟩ : Ms).value).toArray⟩, .slice A18 (⟨12, 0, 0, 0, 1, 0, (List.replicate N 0), [], [], Cmd.cm0, 0, []⟩ : Ms).votes.length k18, .slice B18 (⟨12, 0, 0, 0, 1, 0, (List.replicate N 0), [], [], Cmd.cm0, 0, []⟩ : Ms).items.length l18, .int .u8 ((⟨12, 0, 0, 0, 1, 0, (List.replicate N 0), [], [], Cmd.cm0, 0, []⟩ : Ms).cmd.client : Int), .int .u32 ((⟨12, 0, 0, 0, 1, 0, (List.replicate N 0), [], [], Cmd.cm0, 0, []⟩ : Ms).cmd.seq : Int), .int .u8 ((⟨12, 0, 0, 0, 1, 0, (List.replicate N 0), [], [], Cmd.cm0, 0, []⟩ : Ms).cmd.kind : Int), .string ⟨((⟨12, 0, 0, 0, 1, 0, (List.replicate N 0), [], [], Cmd.cm0, 0, []⟩ : Ms).cmd.key).toArray⟩, .string ⟨((⟨12, 0, 0, 0, 1, 0, (List.replicate N 0), [], [], Cmd.cm0, 0, []⟩ : Ms).cmd.old).toArray⟩, .string ⟨((⟨12, 0, 0, 0, 1, 0, (List.replicate N 0), [], [], Cmd.cm0, 0, []⟩ : Ms).cmd.new).toArray⟩, .int .u8 ((⟨12, 0, 0, 0, 1, 0, (List.replicate N 0), [], [], Cmd.cm0, 0, []⟩ : Ms).cmd.set : Int), .int .u8 ((⟨12, 0, 0, 0, 1, 0, (List.replicate N 0), [], [], Cmd.cm0, 0, []⟩ : Ms).code : Int), .string ⟨((⟨12, 0, 0, 0, 1, 0, (List.replicate N 0), [], [], Cmd.cm0, 0, []⟩ : Ms).text).toArray⟩], .int .i64 0]) trivial rfl rfl (fun ρ w E H => ex_move E rfl rfl) ?_
  refine SxL.val (v := .agg #[.int .u8 ((⟨12, 0, 0, 0, 1, 0, (List.replicate N 0), [], [], Cmd.cm0, 0, []⟩ : Ms).kind : Int), .int .u64 ((⟨12, 0, 0, 0, 1, 0, (List.replicate N 0), [], [], Cmd.cm0, 0, []⟩ : Ms).bn : Int), .int .u8 ((⟨12, 0, 0, 0, 1, 0, (List.replicate N 0), [], [], Cmd.cm0, 0, []⟩ : Ms).br : Int), .int .u64 ((⟨12, 0, 0, 0, 1, 0, (List.replicate N 0), [], [], Cmd.cm0, 0, []⟩ : Ms).base : Int), .int .u64 ((⟨12, 0, 0, 0, 1, 0, (List.replicate N 0), [], [], Cmd.cm0, 0, []⟩ : Ms).slot : Int), .int .u8 ((⟨12, 0, 0, 0, 1, 0, (List.replicate N 0), [], [], Cmd.cm0, 0, []⟩ : Ms).node : Int), .string ⟨((⟨12, 0, 0, 0, 1, 0, (List.replicate N 0), [], [], Cmd.cm0, 0, []⟩ : Ms).value).toArray⟩, .slice A18 (⟨12, 0, 0, 0, 1, 0, (List.replicate N 0), [], [], Cmd.cm0, 0, []⟩ : Ms).votes.length k18, .slice B18 (⟨12, 0, 0, 0, 1, 0, (List.replicate N 0), [], [], Cmd.cm0, 0, []⟩ : Ms).items.length l18, .int .u8 ((⟨12, 0, 0, 0, 1, 0, (List.replicate N 0), [], [], Cmd.cm0, 0, []⟩ : Ms).cmd.client : Int), .int .u32 ((⟨12, 0, 0, 0, 1, 0, (List.replicate N 0), [], [], Cmd.cm0, 0, []⟩ : Ms).cmd.seq : Int), .int .u8 ((⟨12, 0, 0, 0, 1, 0, (List.replicate N 0), [], [], Cmd.cm0, 0, []⟩ : Ms).cmd.kind : Int), .string ⟨((⟨12, 0, 0, 0, 1, 0, (List.replicate N 0), [], [], Cmd.cm0, 0, []⟩ : Ms).cmd.key).toArray⟩, .string ⟨((⟨12, 0, 0, 0, 1, 0, (List.replicate N 0), [], [], Cmd.cm0, 0, []⟩ : Ms).cmd.old).toArray⟩, .string ⟨((⟨12, 0, 0, 0, 1, 0, (List.replicate N 0), [], [], Cmd.cm0, 0, []⟩ : Ms).cmd.new).toArray⟩, .int .u8 ((⟨12, 0, 0, 0, 1, 0, (List.replicate N 0), [], [], Cmd.cm0, 0, []⟩ : Ms).cmd.set : Int), .int .u8 ((⟨12, 0, 0, 0, 1, 0, (List.replicate N 0), [], [], Cmd.cm0, 0, []⟩ : Ms).code : Int), .string ⟨((⟨12, 0, 0, 0, 1, 0, (List.replicate N 0), [], [], Cmd.cm0, 0, []⟩ : Ms).text).toArray⟩]) trivial rfl rfl (fun ρ w E H => ex_extract E rfl rfl rfl) ?_
  refine SxL.val (v := .int .i64 0) trivial rfl rfl (fun ρ w E H => ex_extract E rfl rfl rfl) ?_
  refine SxL.new (cs := [.int .u8 0, .int .u64 0, .int .u8 0, .int .u64 0, .int .u64 0, .int .u8 0, .string ⟨[].toArray⟩, .slice none 0 0, .slice none 0 0, .int .u8 0, .int .u32 0, .int .u8 0, .string ⟨[].toArray⟩, .string ⟨[].toArray⟩, .string ⟨[].toArray⟩, .int .u8 0, .int .u8 0, .string ⟨[].toArray⟩]) trivial rfl rfl (fun ρ w E H => ex_alloc rfl zr_palaver_api_Msg rfl) fun g2 hg2 => ?_
  refine SxL.store (i := 0) trivial rfl rfl rfl rfl rfl sz_palaver_api_Msg rfl rfl rfl ?_
  refine SxL.val (v := .int .i64 0) trivial rfl rfl (fun ρ w E H => ex_assign E rfl rfl) ?_
  refine SxL.nil ?_
  refine SxN.then_ ?_
  refine SxC.seq ?_
  refine SxC.region ?_
  refine SxL.val (v := .pointer (some ⟨g1, 6, none⟩)) trivial rfl rfl (fun ρ w E H => ex_field E rfl fa_palaver_api_Msg_5 rfl rfl) ?_
  refine SxL.val (v := .string ⟨((List.replicate N (0 : UInt8))).toArray⟩) trivial rfl rfl (fun ρ w E H => ex_load1 E (H.get (i := 3) rfl) rfl rfl Try.underlying9 rfl rfl) ?_
  refine SxL.val (v := .string ⟨(((List.replicate N (0 : UInt8)) ++ [120])).toArray⟩) trivial rfl rfl (fun ρ w E H => ex_sadd E rfl rfl rfl (by simp only [List.length_replicate, List.length_cons, List.length_nil]; omega)) ?_
  refine SxL.val (v := .pointer (some ⟨g1, 6, none⟩)) trivial rfl rfl (fun ρ w E H => ex_field E rfl fa_palaver_api_Msg_5 rfl rfl) ?_
  refine SxL.store (i := 3) trivial rfl rfl rfl rfl rfl sz_string rfl rfl rfl ?_
  refine SxL.nil ?_
  refine SxN.then_ ?_
  refine SxC.seq ?_
  refine SxC.region ?_
  refine SxL.val (v := .agg #[.int .u8 12, .int .u64 0, .int .u8 0, .int .u64 0, .int .u64 1, .int .u8 0, .string ⟨(((List.replicate N (0 : UInt8)) ++ [120])).toArray⟩, .slice none 0 0, .slice none 0 0, .int .u8 0, .int .u32 0, .int .u8 0, .string ⟨[].toArray⟩, .string ⟨[].toArray⟩, .string ⟨[].toArray⟩, .int .u8 0, .int .u8 0, .string ⟨[].toArray⟩]) trivial rfl rfl (fun ρ w E H => ex_load (part := [.int .u8 12, .int .u64 0, .int .u8 0, .int .u64 0, .int .u64 1, .int .u8 0, .string ⟨(((List.replicate N (0 : UInt8)) ++ [120])).toArray⟩, .slice none 0 0, .slice none 0 0, .int .u8 0, .int .u32 0, .int .u8 0, .string ⟨[].toArray⟩, .string ⟨[].toArray⟩, .string ⟨[].toArray⟩, .int .u8 0, .int .u8 0, .string ⟨[].toArray⟩]) E (H.get (i := 3) rfl) rfl rfl Try.underlying45 rfl sz_palaver_api_Msg rfl rfl) ?_
  refine SxL.callB (v := .tuple #[.string ⟨[].toArray⟩, .int .i64 6]) trivial rfl rfl (fun ρ w E => ex_call E en_palaver_msg_Put rfl rfl) (fun w H => (put_any (⟨12, 0, 0, 0, 1, 0, (List.replicate N 0 ++ [120]), [], [], Cmd.cm0, 0, []⟩ : Ms) none none 0 0 w (lm_fits _) (lm_small _ (by rw [List.length_append, List.length_replicate, List.length_singleton]; omega)) (none_rows _ _ rfl rfl)).mono fun _ _ h => ⟨by rw [h.1, hp2]; rfl, h.2⟩) ?_
  refine SxL.val (v := .tuple #[.string ⟨[].toArray⟩, .int .i64 6]) trivial rfl rfl (fun ρ w E H => ex_move E rfl rfl) ?_
  refine SxL.val (v := .string ⟨[].toArray⟩) trivial rfl rfl (fun ρ w E H => ex_extract E rfl rfl rfl) ?_
  refine SxL.val (v := .int .i64 6) trivial rfl rfl (fun ρ w E H => ex_extract E rfl rfl rfl) ?_
  refine SxL.val (v := .string ⟨[].toArray⟩) trivial rfl rfl (fun ρ w E H => ex_assign E rfl rfl) ?_
  refine SxL.val (v := .int .i64 6) trivial rfl rfl (fun ρ w E H => ex_assign E rfl rfl) ?_
  refine SxL.nil ?_
  refine SxN.then_ ?_
  refine SxC.seq ?_
  refine SxC.region ?_
  refine SxL.val (v := .int .i64 0) trivial rfl rfl (fun ρ w E H => ex_move E rfl rfl) ?_
  refine SxL.val (v := .bool true) trivial rfl rfl (fun ρ w E H => ex_cmp E rfl rfl rfl rfl (by decide)) ?_
  refine SxL.val (v := .bool true) trivial rfl rfl (fun ρ w E H => ex_move E rfl rfl) ?_
  refine SxL.val (v := .int .i64 0) ⟨_, _, rfl, rfl, rfl⟩ rfl rfl (fun ρ w E H => ex_move E rfl rfl) ?_
  refine SxL.val (v := .bool true) ⟨_, _, rfl, rfl, rfl⟩ rfl rfl (fun ρ w E H => ex_cmp E rfl rfl rfl rfl (by decide)) ?_
  refine SxL.val (v := .bool true) trivial rfl rfl (fun ρ w E H => ex_pick E rfl (t := true) rfl rfl) ?_
  refine SxL.val (v := .bool true) trivial rfl rfl (fun ρ w E H => ex_move E rfl rfl) ?_
  refine SxL.val (v := .pointer (some ⟨g2, 6, none⟩)) ⟨_, _, rfl, rfl, rfl⟩ rfl rfl (fun ρ w E H => ex_field E rfl fa_palaver_api_Msg_5 rfl rfl) ?_
  refine SxL.val (v := .string ⟨((⟨12, 0, 0, 0, 1, 0, (List.replicate N 0), [], [], Cmd.cm0, 0, []⟩ : Ms).value).toArray⟩) ⟨_, _, rfl, rfl, rfl⟩ rfl rfl (fun ρ w E H => ex_load1 E (H.get (i := 0) rfl) rfl rfl Try.underlying9 rfl rfl) ?_
  refine SxL.val (v := .int .i64 ((⟨12, 0, 0, 0, 1, 0, (List.replicate N 0), [], [], Cmd.cm0, 0, []⟩ : Ms).value.length : Int)) ⟨_, _, rfl, rfl, rfl⟩ rfl rfl (fun ρ w E H => ex_lenT E rfl Try.underlying9 rfl) ?_
  refine SxL.val (v := .bool true) ⟨_, _, rfl, rfl, rfl⟩ rfl rfl (fun ρ w E H => ex_cmp E rfl rfl rfl rfl (by show (((List.replicate N (0 : UInt8)).length : Int) == 65531) = true; rw [List.length_replicate, hN]; decide)) ?_
  refine SxL.val (v := .bool true) trivial rfl rfl (fun ρ w E H => ex_pick E rfl (t := true) rfl rfl) ?_
  refine SxL.val (v := .bool true) trivial rfl rfl (fun ρ w E H => ex_move E rfl rfl) ?_
  refine SxL.val (v := .string ⟨[].toArray⟩) ⟨_, _, rfl, rfl, rfl⟩ rfl rfl (fun ρ w E H => ex_move E rfl rfl) ?_
  refine SxL.val (v := .bool true) ⟨_, _, rfl, rfl, rfl⟩ rfl rfl (fun ρ w E H => ex_seql E rfl rfl rfl (by simp)) ?_
  refine SxL.val (v := .bool true) trivial rfl rfl (fun ρ w E H => ex_pick E rfl (t := true) rfl rfl) ?_
  refine SxL.val (v := .bool true) trivial rfl rfl (fun ρ w E H => ex_move E rfl rfl) ?_
  refine SxL.val (v := .int .i64 6) ⟨_, _, rfl, rfl, rfl⟩ rfl rfl (fun ρ w E H => ex_move E rfl rfl) ?_
  refine SxL.val (v := .bool true) ⟨_, _, rfl, rfl, rfl⟩ rfl rfl (fun ρ w E H => ex_cmp E rfl rfl rfl rfl (by decide)) ?_
  refine SxL.val (v := .bool true) trivial rfl rfl (fun ρ w E H => ex_pick E rfl (t := true) rfl rfl) ?_
  refine SxL.val (v := .bool true) trivial rfl rfl (fun ρ w E H => ex_move E rfl rfl) ?_
  refine SxL.callB (v := .bool true) ⟨_, _, rfl, rfl, rfl⟩ rfl rfl (fun ρ w E => ex_call E en_palaver_palaverlaw18_wakes rfl rfl) (fun w H => wakes_any w) ?_
  refine SxL.val (v := .bool true) trivial rfl rfl (fun ρ w E H => ex_pick E rfl (t := true) rfl rfl) ?_
  refine SxL.val (v := .bool true) trivial rfl rfl (fun ρ w E H => ex_assign E rfl rfl) ?_
  refine SxL.nil ?_
  refine SxN.then_ ?_
  refine SxC.ret ?_
  refine SxX.done (.bool true) (fun a w K H => res1 K rfl rfl) (fun w H => ?_)
  exact ⟨rfl, H.toBelow ⟨(fun g hg => by rw [List.mem_singleton.1 hg]; exact hg2), hVI18.1.fresh, hVI18.2.fresh, (fun g hg => by rw [List.mem_singleton.1 hg]; exact hg1), hgm.fresh, trivial⟩⟩
end Go.Proofs.Yteiaiilfekojfaa.Msg
end
