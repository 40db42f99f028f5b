/- Texts that the proof of NetPlays leans on, put together (6 of 6). Conditions: each theorem states its own. -/
import Derived.Test.YteiaiilfekojfaaGreatPkNetPlays5
section
set_option linter.unusedVariables false
set_option linter.unusedSimpArgs false
namespace Go.Proofs.YteiaiilfekojfaaGreat.Msg
open Go.RowKit Sx Wire DrawInv
set_option maxRecDepth 100000 in
set_option maxHeartbeats 4000000 in
theorem TQ (mk mn mr mb ms mo ca cb ck cz mc : Nat) (mv cs ct cu mt : List UInt8) (vl : List Vo) (il : List Im)(xk xn xr xb xs xo da db dk dz xc : Nat) (xv ds dt du xt : List UInt8) (wl : List Vo) (jl : List Im) (A B : Option Addr) (ka kb : Nat) (C D : Option Addr) (kc kd : Nat) (w : World) (hv : Rows w A 4 voL vl) (hi : Rows w B 2 imL il) (hv2 : Rows w C 4 voL wl) (hi2 : Rows w D 2 imL jl) (hl1 : vl.length ≤ 1000000) (hl2 : il.length ≤ 1000000) : Calls Tryz.prog 14 #[.agg #[.int .u8 (mk : Int), .int .u64 (mn : Int), .int .u8 (mr : Int), .int .u64 (mb : Int), .int .u64 (ms : Int), .int .u8 (mo : Int), .string ⟨mv.toArray⟩, .slice A vl.length ka, .slice B il.length kb, .int .u8 (ca : Int), .int .u32 (cb : Int), .int .u8 (ck : Int), .string ⟨cs.toArray⟩, .string ⟨ct.toArray⟩, .string ⟨cu.toArray⟩, .int .u8 (cz : Int), .int .u8 (mc : Int), .string ⟨mt.toArray⟩], .agg #[.int .u8 (xk : Int), .int .u64 (xn : Int), .int .u8 (xr : Int), .int .u64 (xb : Int), .int .u64 (xs : Int), .int .u8 (xo : Int), .string ⟨xv.toArray⟩, .slice C wl.length kc, .slice D jl.length kd, .int .u8 (da : Int), .int .u32 (db : Int), .int .u8 (dk : Int), .string ⟨ds.toArray⟩, .string ⟨dt.toArray⟩, .string ⟨du.toArray⟩, .int .u8 (dz : Int), .int .u8 (xc : Int), .string ⟨xt.toArray⟩]] w fun e w' => e = .returned (.bool (decide ((⟨mk, mn, mr, mb, ms, mo, mv, vl, il, ⟨ca, cb, ck, cs, ct, cu, cz⟩, mc, mt⟩ : Ms) = ⟨xk, xn, xr, xb, xs, xo, xv, wl, jl, ⟨da, db, dk, ds, dt, du, dz⟩, xc, xt⟩))) ∧ Below w.heap.size w w' := by
 refine A0 (n := 113) _ Tryz.func14 rfl rfl rfl (Hp.start w) (Ae (Ac ?_))
 refine zB rfl fun g1 hg1 => ?_
 refine zB rfl fun g2 hg2 => ?_
 refine za rfl (Ad (Aa (Ae (Ae (Ac (zf 7 AH rfl (zl 1 Tryz.underlying25 rfl (zL Tryz.underlying25 rfl (zf 7 AH rfl ?_)))))))))
 refine zl 0 Tryz.underlying25 rfl (zL Tryz.underlying25 rfl ?_)
 refine zb rfl fun c13 hc13 => ?_
 refine zm rfl ?_
 cases c13
 ·refine zf 8 AE rfl (zl 1 Tryz.underlying26 rfl (zL Tryz.underlying26 rfl (zf 8 AE rfl (zl 0 Tryz.underlying26 rfl (zL Tryz.underlying26 rfl ?_)))))
  refine zb rfl fun c21 hc21 => ?_
  refine zp rfl (Ad (Aa ?_))
  cases c21
  ·refine Ah rfl (Ax (Aa (Ae (Ae (Ac (za rfl (Ad (Aa (AG ?_)))))))))
   refine Ff (fun (k : Nat) => [(2, .pointer (some ⟨g1, 0, none⟩)), (3, .pointer (some ⟨g2, 0, none⟩)), (5, .int .i64 (k : Int))]) (fun (k : Nat) => [cell g2 33 [.int .u8 (xk : Int), .int .u64 (xn : Int), .int .u8 (xr : Int), .int .u64 (xb : Int), .int .u64 (xs : Int), .int .u8 (xo : Int), .string ⟨xv.toArray⟩, .slice C wl.length kc, .slice D jl.length kd, .int .u8 (da : Int), .int .u32 (db : Int), .int .u8 (dk : Int), .string ⟨ds.toArray⟩, .string ⟨dt.toArray⟩, .string ⟨du.toArray⟩, .int .u8 (dz : Int), .int .u8 (xc : Int), .string ⟨xt.toArray⟩], cell g1 33 [.int .u8 (mk : Int), .int .u64 (mn : Int), .int .u8 (mr : Int), .int .u64 (mb : Int), .int .u64 (ms : Int), .int .u8 (mo : Int), .string ⟨mv.toArray⟩, .slice A vl.length ka, .slice B il.length kb, .int .u8 (ca : Int), .int .u32 (cb : Int), .int .u8 (ck : Int), .string ⟨cs.toArray⟩, .string ⟨ct.toArray⟩, .string ⟨cu.toArray⟩, .int .u8 (cz : Int), .int .u8 (mc : Int), .string ⟨mt.toArray⟩]]) (fun (gk : Nat) (k : Nat) => k + gk = vl.length ∧ vl.take k = wl.take k ∧ vl.length = wl.length) vl.length 0 ⟨by omega, rfl, by have h := hc13; simp [AB] at h; omega⟩ ⟨rfl, rfl, rfl, trivial⟩ [0, 1] rfl (by decide) ⟨.inl rfl, .inl rfl, trivial⟩ fun gk k hF => ?_
   obtain ⟨hkg, hrel, hle⟩ := hF
   refine Ae (Ae (Ac (zm rfl (zf 7 AH rfl (zl 1 Tryz.underlying25 rfl (zL Tryz.underlying25 rfl ?_))))))
   refine zb rfl fun c27 hc27 => ?_
   refine Ad (Aa ?_)
   cases c27
   ·refine Ah rfl (Cd (AW (AW (BH (Aa (Ae (Ae ?_)))))))
    have hV : vl = wl := by have h := hc27; simp [AB] at h; rw [List.take_of_length_le (by omega), List.take_of_length_le (by omega)] at hrel; exact hrel
    refine Ac (za rfl (Ad (Aa (AG ?_))))
    refine Ff (fun (k : Nat) => [(2, .pointer (some ⟨g1, 0, none⟩)), (3, .pointer (some ⟨g2, 0, none⟩)), (6, .int .i64 (k : Int))]) (fun (k : Nat) => [cell g2 33 [.int .u8 (xk : Int), .int .u64 (xn : Int), .int .u8 (xr : Int), .int .u64 (xb : Int), .int .u64 (xs : Int), .int .u8 (xo : Int), .string ⟨xv.toArray⟩, .slice C wl.length kc, .slice D jl.length kd, .int .u8 (da : Int), .int .u32 (db : Int), .int .u8 (dk : Int), .string ⟨ds.toArray⟩, .string ⟨dt.toArray⟩, .string ⟨du.toArray⟩, .int .u8 (dz : Int), .int .u8 (xc : Int), .string ⟨xt.toArray⟩], cell g1 33 [.int .u8 (mk : Int), .int .u64 (mn : Int), .int .u8 (mr : Int), .int .u64 (mb : Int), .int .u64 (ms : Int), .int .u8 (mo : Int), .string ⟨mv.toArray⟩, .slice A vl.length ka, .slice B il.length kb, .int .u8 (ca : Int), .int .u32 (cb : Int), .int .u8 (ck : Int), .string ⟨cs.toArray⟩, .string ⟨ct.toArray⟩, .string ⟨cu.toArray⟩, .int .u8 (cz : Int), .int .u8 (mc : Int), .string ⟨mt.toArray⟩]]) (fun (gk : Nat) (k : Nat) => k + gk = il.length ∧ il.take k = jl.take k ∧ il.length = jl.length) il.length 0 ⟨by omega, rfl, by have h := hc21; simp [AB] at h; omega⟩ ⟨rfl, rfl, rfl, trivial⟩ [0, 1] rfl (by decide) ⟨.inl rfl, .inl rfl, trivial⟩ fun gk k hF => ?_
    obtain ⟨hkg, hrel, hle⟩ := hF
    refine Ae (Ae (Ac (zm rfl (zf 8 AE rfl (zl 1 Tryz.underlying26 rfl (zL Tryz.underlying26 rfl ?_))))))
    refine zb rfl fun c45 hc45 => ?_
    refine Ad (Aa ?_)
    cases c45
    ·refine Ah rfl (Cd (AW (AW (BH (Aa (Ae ?_))))))
     have hI : il = jl := by have h := hc45; simp [AB] at h; rw [List.take_of_length_le (by omega), List.take_of_length_le (by omega)] at hrel; exact hrel
     refine Ac (zf 0 Aw rfl (zl 1 Tryz.underlying5 rfl (zf 0 Aw rfl (zl 0 Tryz.underlying5 rfl ?_))))
     refine zb rfl fun c63 hc63 => ?_
     refine zm rfl ?_
     cases c63
     ·refine zo rfl (zo rfl (zo rfl (zo rfl (zo rfl (zp rfl (zm rfl (zo rfl (zo rfl (zo rfl ?_)))))))))
      refine zo rfl (zo rfl (zp rfl (zm rfl (zo rfl (zo rfl (zo rfl (zo rfl (zo rfl (zp rfl ?_)))))))))
      refine zm rfl (zo rfl (zo rfl (zo rfl (zo rfl (zo rfl (zp rfl (zm rfl (zo rfl (zo rfl ?_)))))))))
      refine zo rfl (zo rfl (zo rfl (zp rfl (zm rfl (zo rfl (zo rfl (zo rfl (zo rfl (zo rfl ?_)))))))))
      refine zp rfl (zm rfl (zo rfl (zo rfl (zo rfl (zo rfl (zo rfl (zp rfl (za rfl (Ad ?_)))))))))
      refine Aa (Am ?_)
      refine Ai (.bool false) (fun a w K H => BC K rfl rfl) (fun w H => ?_)
      have hq : false = decide ((⟨mk, mn, mr, mb, ms, mo, mv, vl, il, ⟨ca, cb, ck, cs, ct, cu, cz⟩, mc, mt⟩ : Ms) = ⟨xk, xn, xr, xb, xs, xo, xv, wl, jl, ⟨da, db, dk, ds, dt, du, dz⟩, xc, xt⟩) := by clear H; grind [AB]
      exact ⟨by rw [hq], H.toBelow ⟨(zq hg2), (zq hg1), trivial⟩⟩
     ·refine zf 1 BM rfl (zv 1 [.int .u64 (mn : Int), .int .u8 (mr : Int)] Tryz.underlying24 Bi rfl (zf 1 BM rfl (zv 0 [.int .u64 (xn : Int), .int .u8 (xr : Int)] Tryz.underlying24 Bi rfl ?_)))
      refine DT (gK rfl) rfl rfl (fun ρ w E H => Ht E rfl (by kernel_rfl) rfl rfl (fun w => NE mn mr xn xr w)) fun c69 hc69 => ?_
      refine zp rfl (zm rfl ?_)
      cases c69
      ·refine zo rfl (zo rfl (zo rfl (zo rfl (zo rfl (zp rfl (zm rfl (zo rfl (zo rfl (zo rfl ?_)))))))))
       refine zo rfl (zo rfl (zp rfl (zm rfl (zo rfl (zo rfl (zo rfl (zo rfl (zo rfl (zp rfl ?_)))))))))
       refine zm rfl (zo rfl (zo rfl (zo rfl (zo rfl (zo rfl (zp rfl (zm rfl (zo rfl (zo rfl ?_)))))))))
       refine zo rfl (zo rfl (zo rfl (zp rfl (zm rfl (zo rfl (zo rfl (zo rfl (zo rfl (zo rfl ?_)))))))))
       refine zp rfl (za rfl (Ad (Aa (Am ?_))))
       refine Ai (.bool false) (fun a w K H => BC K rfl rfl) (fun w H => ?_)
       have hq : false = decide ((⟨mk, mn, mr, mb, ms, mo, mv, vl, il, ⟨ca, cb, ck, cs, ct, cu, cz⟩, mc, mt⟩ : Ms) = ⟨xk, xn, xr, xb, xs, xo, xv, wl, jl, ⟨da, db, dk, ds, dt, du, dz⟩, xc, xt⟩) := by clear H; grind [AB]
       exact ⟨by rw [hq], H.toBelow ⟨(zq hg2), (zq hg1), trivial⟩⟩
      ·refine zf 3 BX rfl (zl 1 Tryz.underlying22 rfl (zf 3 BX rfl (zl 0 Tryz.underlying22 rfl ?_)))
       refine zb rfl fun c76 hc76 => ?_
       refine zp rfl (zm rfl ?_)
       cases c76
       ·refine zo rfl (zo rfl (zo rfl (zo rfl (zo rfl (zp rfl (zm rfl (zo rfl (zo rfl (zo rfl ?_)))))))))
        refine zo rfl (zo rfl (zp rfl (zm rfl (zo rfl (zo rfl (zo rfl (zo rfl (zo rfl (zp rfl ?_)))))))))
        refine zm rfl (zo rfl (zo rfl (zo rfl (zo rfl (zo rfl (zp rfl (zm rfl (zo rfl (zo rfl ?_)))))))))
        refine zo rfl (zo rfl (zo rfl (zp rfl (za rfl (Ad (Aa (Am ?_)))))))
        refine Ai (.bool false) (fun a w K H => BC K rfl rfl) (fun w H => ?_)
        have hq : false = decide ((⟨mk, mn, mr, mb, ms, mo, mv, vl, il, ⟨ca, cb, ck, cs, ct, cu, cz⟩, mc, mt⟩ : Ms) = ⟨xk, xn, xr, xb, xs, xo, xv, wl, jl, ⟨da, db, dk, ds, dt, du, dz⟩, xc, xt⟩) := by clear H; grind [AB]
        exact ⟨by rw [hq], H.toBelow ⟨(zq hg2), (zq hg1), trivial⟩⟩
       ·refine zf 4 Bq rfl (zl 1 Tryz.underlying22 rfl (zf 4 Bq rfl (zl 0 Tryz.underlying22 rfl ?_)))
        refine zb rfl fun c83 hc83 => ?_
        refine zp rfl (zm rfl ?_)
        cases c83
        ·refine zo rfl (zo rfl (zo rfl (zo rfl (zo rfl (zp rfl (zm rfl (zo rfl (zo rfl (zo rfl ?_)))))))))
         refine zo rfl (zo rfl (zp rfl (zm rfl (zo rfl (zo rfl (zo rfl (zo rfl (zo rfl (zp rfl ?_)))))))))
         refine zm rfl (zo rfl (zo rfl (zo rfl (zo rfl (zo rfl (zp rfl (za rfl (Ad (Aa ?_)))))))))
         refine Am ?_
         refine Ai (.bool false) (fun a w K H => BC K rfl rfl) (fun w H => ?_)
         have hq : false = decide ((⟨mk, mn, mr, mb, ms, mo, mv, vl, il, ⟨ca, cb, ck, cs, ct, cu, cz⟩, mc, mt⟩ : Ms) = ⟨xk, xn, xr, xb, xs, xo, xv, wl, jl, ⟨da, db, dk, ds, dt, du, dz⟩, xc, xt⟩) := by clear H; grind [AB]
         exact ⟨by rw [hq], H.toBelow ⟨(zq hg2), (zq hg1), trivial⟩⟩
        ·refine zf 5 BW rfl (zl 1 Tryz.underlying5 rfl (zf 5 BW rfl (zl 0 Tryz.underlying5 rfl ?_)))
         refine zb rfl fun c90 hc90 => ?_
         refine zp rfl (zm rfl ?_)
         cases c90
         ·refine zo rfl (zo rfl (zo rfl (zo rfl (zo rfl (zp rfl (zm rfl (zo rfl (zo rfl (zo rfl ?_)))))))))
          refine zo rfl (zo rfl (zp rfl (zm rfl (zo rfl (zo rfl (zo rfl (zo rfl (zo rfl (zp rfl ?_)))))))))
          refine za rfl (Ad (Aa (Am ?_)))
          refine Ai (.bool false) (fun a w K H => BC K rfl rfl) (fun w H => ?_)
          have hq : false = decide ((⟨mk, mn, mr, mb, ms, mo, mv, vl, il, ⟨ca, cb, ck, cs, ct, cu, cz⟩, mc, mt⟩ : Ms) = ⟨xk, xn, xr, xb, xs, xo, xv, wl, jl, ⟨da, db, dk, ds, dt, du, dz⟩, xc, xt⟩) := by clear H; grind [AB]
          exact ⟨by rw [hq], H.toBelow ⟨(zq hg2), (zq hg1), trivial⟩⟩
         ·refine zf 6 Cf rfl (zl 1 Tryz.underlying9 rfl (zf 6 Cf rfl (zl 0 Tryz.underlying9 rfl ?_)))
          refine DT (gK rfl) rfl rfl (fun ρ w E H => MR E rfl rfl rfl rfl) fun c97 hc97 => ?_
          refine zp rfl (zm rfl ?_)
          cases c97
          ·refine zo rfl (zo rfl (zo rfl (zo rfl (zo rfl (zp rfl (zm rfl (zo rfl (zo rfl (zo rfl ?_)))))))))
           refine zo rfl (zo rfl (zp rfl (za rfl (Ad (Aa (Am ?_))))))
           refine Ai (.bool false) (fun a w K H => BC K rfl rfl) (fun w H => ?_)
           have hq : false = decide ((⟨mk, mn, mr, mb, ms, mo, mv, vl, il, ⟨ca, cb, ck, cs, ct, cu, cz⟩, mc, mt⟩ : Ms) = ⟨xk, xn, xr, xb, xs, xo, xv, wl, jl, ⟨da, db, dk, ds, dt, du, dz⟩, xc, xt⟩) := by clear H; grind [AB]
           exact ⟨by rw [hq], H.toBelow ⟨(zq hg2), (zq hg1), trivial⟩⟩
          ·refine zf 9 Bd rfl (zv 1 [.int .u8 (ca : Int), .int .u32 (cb : Int), .int .u8 (ck : Int), .string ⟨cs.toArray⟩, .string ⟨ct.toArray⟩, .string ⟨cu.toArray⟩, .int .u8 (cz : Int)] Tryz.underlying29 BG rfl (zf 9 Bd rfl (zv 0 [.int .u8 (da : Int), .int .u32 (db : Int), .int .u8 (dk : Int), .string ⟨ds.toArray⟩, .string ⟨dt.toArray⟩, .string ⟨du.toArray⟩, .int .u8 (dz : Int)] Tryz.underlying29 BG rfl ?_)))
           refine DT (gK rfl) rfl rfl (fun ρ w E H => Ht E rfl (by kernel_rfl) rfl rfl (fun w => Qn (⟨ca, cb, ck, cs, ct, cu, cz⟩ : Cmd.Cm) ⟨da, db, dk, ds, dt, du, dz⟩ w)) fun c104 hc104 => ?_
           refine zp rfl (zm rfl ?_)
           cases c104
           ·refine zo rfl (zo rfl (zo rfl (zo rfl (zo rfl (zp rfl (za rfl (Ad (Aa (Am ?_)))))))))
            refine Ai (.bool false) (fun a w K H => BC K rfl rfl) (fun w H => ?_)
            have hq : false = decide ((⟨mk, mn, mr, mb, ms, mo, mv, vl, il, ⟨ca, cb, ck, cs, ct, cu, cz⟩, mc, mt⟩ : Ms) = ⟨xk, xn, xr, xb, xs, xo, xv, wl, jl, ⟨da, db, dk, ds, dt, du, dz⟩, xc, xt⟩) := by clear H; grind [AB]
            exact ⟨by rw [hq], H.toBelow ⟨(zq hg2), (zq hg1), trivial⟩⟩
           ·refine zf 16 B9 rfl (zv 1 [.int .u8 (mc : Int), .string ⟨mt.toArray⟩] Tryz.underlying31 Do rfl (zf 16 B9 rfl (zv 0 [.int .u8 (xc : Int), .string ⟨xt.toArray⟩] Tryz.underlying31 Do rfl ?_)))
            refine DT (gK rfl) rfl rfl (fun ρ w E H => Ht E rfl (by kernel_rfl) rfl rfl (fun w => Wh mc xc mt xt w)) fun c111 hc111 => ?_
            refine zp rfl (za rfl (Ad (Aa (Am ?_))))
            refine Ai (.bool c111) (fun a w K H => BC K rfl rfl) (fun w H => ?_)
            have hq : c111 = decide ((⟨mk, mn, mr, mb, ms, mo, mv, vl, il, ⟨ca, cb, ck, cs, ct, cu, cz⟩, mc, mt⟩ : Ms) = ⟨xk, xn, xr, xb, xs, xo, xv, wl, jl, ⟨da, db, dk, ds, dt, du, dz⟩, xc, xt⟩) := by
             clear H hrel
             have e1 : mk = xk ∧ mb = xb ∧ ms = xs ∧ mo = xo ∧ mn = xn ∧ mr = xr ∧ mv = xv := by clear hc104 hc111; grind [AB]
             obtain ⟨rfl, rfl, rfl, rfl, rfl, rfl, rfl⟩ := e1
             subst hV hI
             have e2 := of_decide_eq_true hc104
             injection e2 with f1 f2 f3 f4 f5 f6 f7
             subst f1 f2 f3 f4 f5 f6 f7
             rw [← hc111]
             apply Bool.eq_iff_iff.2
             simp
            exact ⟨by rw [hq], H.toBelow ⟨(zq hg2), (zq hg1), trivial⟩⟩
    ·refine Ap rfl (Ax (Aa (Ae (AG (Ae ?_)))))
     have hkl : k < il.length := by have h := hc45; simp [AB] at h; omega
     have hkl2 : k < jl.length := by omega
     obtain ⟨x, hx⟩ : ∃ x, il[k]? = some x := ⟨_, List.getElem?_eq_getElem hkl⟩
     obtain ⟨y, hy⟩ : ∃ x, jl[k]? = some x := ⟨_, List.getElem?_eq_getElem hkl2⟩
     obtain ⟨a1, rfl, -, -⟩ := hi.row hx
     obtain ⟨a2, rfl, -, -⟩ := hi2.row hy
     refine BN [] [0, 1] (by kernel_rfl) rfl ⟨(zh hg2), (zh hg1), trivial⟩ (yf 0 8 AE rfl (by kernel_rfl) zI (yl 1 1 Tryz.underlying26 rfl (by kernel_rfl) zI (ym 2 rfl (by kernel_rfl) zI (yt (i := 3) (v := .pointer (some (a1.add (k * 2)))) (by kernel_rfl) zI rfl rfl rfl rfl (fun ρ w E H => BA (i := k) E rfl Tryz.underlying26 Bg rfl rfl hkl) (yt (i := 4) (v := .agg #[.int .u64 (x.slot : Int), .string ⟨x.value.toArray⟩]) (by kernel_rfl) zI rfl rfl rfl rfl (fun ρ w E H => C7 (cs := [.int .u64 (x.slot : Int), .string ⟨x.value.toArray⟩]) E ((hi.below (H.os.below (Nat.le_refl _) (by simp))).rowA hx) rfl rfl Tryz.underlying94 rfl Bg) (yf 5 8 AE rfl (by kernel_rfl) zI (yl 6 0 Tryz.underlying26 rfl (by kernel_rfl) zI (ym 7 rfl (by kernel_rfl) zI (yt (i := 8) (v := .pointer (some (a2.add (k * 2)))) (by kernel_rfl) zI rfl rfl rfl rfl (fun ρ w E H => BA (i := k) E rfl Tryz.underlying26 Bg rfl rfl hkl2) ?_)))))))))
     refine yt (i := 9) (v := .agg #[.int .u64 (y.slot : Int), .string ⟨y.value.toArray⟩]) (by kernel_rfl) zI rfl rfl rfl rfl (fun ρ w E H => C7 (cs := [.int .u64 (y.slot : Int), .string ⟨y.value.toArray⟩]) E ((hi2.below (H.os.below (Nat.le_refl _) (by simp))).rowA hy) rfl rfl Tryz.underlying94 rfl Bg) ?_
     refine DW (i := 10) rfl (by kernel_rfl) (by kernel_rfl) (by kernel_rfl) rfl rfl (fun _ _ _ h => h) trivial (fun ρ w E H => FV E rfl (by kernel_rfl) rfl rfl (fun w => by rw [Bool.not_not]; exact XN x y w)) fun c58 hc58 => ?_
     refine BE (by kernel_rfl) (Aa ?_)
     cases c58
     ·refine Ah rfl (Ax (AA (Aa (Ac (zm rfl (Ag (v := .int .i64 ((k + 1 : Nat) : Int)) trivial rfl rfl (fun ρ w E H => BQ E rfl rfl rfl (by rw [IntKind.wrap_i64]; omega)) (za rfl (Ad ?_))))))))
      refine B7 (gk - 1) (k + 1) (by omega) ⟨by omega, by rw [D1 hx, D1 hy, hrel]; have h24 : x = y := (by simpa using hc58); rw [h24], hle⟩ ⟨rfl, rfl, rfl, trivial⟩ [0, 1] rfl (by decide) ⟨.inl rfl, .inl rfl, trivial⟩
     ·refine Ap rfl (Ae (Ac (za rfl (Ad (Aa (Am (AU (Ak (Ak ?_)))))))))
      refine AU (Ak ?_)
      refine Ai (.bool false) (fun a w K H => BC K rfl rfl) (fun w H => ?_)
      have hq : false = decide ((⟨mk, mn, mr, mb, ms, mo, mv, vl, il, ⟨ca, cb, ck, cs, ct, cu, cz⟩, mc, mt⟩ : Ms) = ⟨xk, xn, xr, xb, xs, xo, xv, wl, jl, ⟨da, db, dk, ds, dt, du, dz⟩, xc, xt⟩) := by clear H; grind [AB]
      exact ⟨by rw [hq], H.toBelow ⟨(zq hg2), (zq hg1), trivial⟩⟩
   ·refine Ap rfl (Ax (Aa (Ae (AG (Ae ?_)))))
    have hkl : k < vl.length := by have h := hc27; simp [AB] at h; omega
    have hkl2 : k < wl.length := by omega
    obtain ⟨x, hx⟩ : ∃ x, vl[k]? = some x := ⟨_, List.getElem?_eq_getElem hkl⟩
    obtain ⟨y, hy⟩ : ∃ x, wl[k]? = some x := ⟨_, List.getElem?_eq_getElem hkl2⟩
    obtain ⟨a1, rfl, -, -⟩ := hv.row hx
    obtain ⟨a2, rfl, -, -⟩ := hv2.row hy
    refine BN [] [0, 1] (by kernel_rfl) rfl ⟨(zh hg2), (zh hg1), trivial⟩ (yf 0 7 AH rfl (by kernel_rfl) zI (yl 1 1 Tryz.underlying25 rfl (by kernel_rfl) zI (ym 2 rfl (by kernel_rfl) zI (yt (i := 3) (v := .pointer (some (a1.add (k * 4)))) (by kernel_rfl) zI rfl rfl rfl rfl (fun ρ w E H => BA (i := k) E rfl Tryz.underlying25 AZ rfl rfl hkl) (yt (i := 4) (v := .agg #[.int .u64 (x.slot : Int), .int .u64 (x.n : Int), .int .u8 (x.r : Int), .string ⟨x.value.toArray⟩]) (by kernel_rfl) zI rfl rfl rfl rfl (fun ρ w E H => C7 (cs := [.int .u64 (x.slot : Int), .int .u64 (x.n : Int), .int .u8 (x.r : Int), .string ⟨x.value.toArray⟩]) E ((hv.below (H.os.below (Nat.le_refl _) (by simp))).rowA hx) rfl rfl Tryz.underlying92 rfl AZ) (yf 5 7 AH rfl (by kernel_rfl) zI (yl 6 0 Tryz.underlying25 rfl (by kernel_rfl) zI (ym 7 rfl (by kernel_rfl) zI (yt (i := 8) (v := .pointer (some (a2.add (k * 4)))) (by kernel_rfl) zI rfl rfl rfl rfl (fun ρ w E H => BA (i := k) E rfl Tryz.underlying25 AZ rfl rfl hkl2) ?_)))))))))
    refine yt (i := 9) (v := .agg #[.int .u64 (y.slot : Int), .int .u64 (y.n : Int), .int .u8 (y.r : Int), .string ⟨y.value.toArray⟩]) (by kernel_rfl) zI rfl rfl rfl rfl (fun ρ w E H => C7 (cs := [.int .u64 (y.slot : Int), .int .u64 (y.n : Int), .int .u8 (y.r : Int), .string ⟨y.value.toArray⟩]) E ((hv2.below (H.os.below (Nat.le_refl _) (by simp))).rowA hy) rfl rfl Tryz.underlying92 rfl AZ) ?_
    refine DW (i := 10) rfl (by kernel_rfl) (by kernel_rfl) (by kernel_rfl) rfl rfl (fun _ _ _ h => h) trivial (fun ρ w E H => FV E rfl (by kernel_rfl) rfl rfl (fun w => by rw [Bool.not_not]; exact XM x y w)) fun c40 hc40 => ?_
    refine BE (by kernel_rfl) (Aa ?_)
    cases c40
    ·refine Ah rfl (Ax (AA (Aa (Ac (zm rfl (Ag (v := .int .i64 ((k + 1 : Nat) : Int)) trivial rfl rfl (fun ρ w E H => BQ E rfl rfl rfl (by rw [IntKind.wrap_i64]; omega)) (za rfl (Ad ?_))))))))
     refine B7 (gk - 1) (k + 1) (by omega) ⟨by omega, by rw [D1 hx, D1 hy, hrel]; have h24 : x = y := (by simpa using hc40); rw [h24], hle⟩ ⟨rfl, rfl, rfl, trivial⟩ [0, 1] rfl (by decide) ⟨.inl rfl, .inl rfl, trivial⟩
    ·refine Ap rfl (Ae (Ac (za rfl (Ad (Aa (Am (AU (Ak (Ak ?_)))))))))
     refine AU (Ak ?_)
     refine Ai (.bool false) (fun a w K H => BC K rfl rfl) (fun w H => ?_)
     have hq : false = decide ((⟨mk, mn, mr, mb, ms, mo, mv, vl, il, ⟨ca, cb, ck, cs, ct, cu, cz⟩, mc, mt⟩ : Ms) = ⟨xk, xn, xr, xb, xs, xo, xv, wl, jl, ⟨da, db, dk, ds, dt, du, dz⟩, xc, xt⟩) := by clear H; grind [AB]
     exact ⟨by rw [hq], H.toBelow ⟨(zq hg2), (zq hg1), trivial⟩⟩
  ·refine Ap rfl (Ae (Ac (za rfl (Ad (Aa (Am (Ak ?_)))))))
   refine Ai (.bool false) (fun a w K H => BC K rfl rfl) (fun w H => ?_)
   have hq : false = decide ((⟨mk, mn, mr, mb, ms, mo, mv, vl, il, ⟨ca, cb, ck, cs, ct, cu, cz⟩, mc, mt⟩ : Ms) = ⟨xk, xn, xr, xb, xs, xo, xv, wl, jl, ⟨da, db, dk, ds, dt, du, dz⟩, xc, xt⟩) := by clear H; grind [AB]
   exact ⟨by rw [hq], H.toBelow ⟨(zq hg2), (zq hg1), trivial⟩⟩
 ·refine zo rfl (zo rfl (zo rfl (zo rfl (zo rfl (zo rfl (zo rfl (zp rfl (Ad (Aa ?_)))))))))
  refine Ap rfl (Ae (Ac (za rfl (Ad (Aa (Am (Ak ?_)))))))
  refine Ai (.bool false) (fun a w K H => BC K rfl rfl) (fun w H => ?_)
  have hq : false = decide ((⟨mk, mn, mr, mb, ms, mo, mv, vl, il, ⟨ca, cb, ck, cs, ct, cu, cz⟩, mc, mt⟩ : Ms) = ⟨xk, xn, xr, xb, xs, xo, xv, wl, jl, ⟨da, db, dk, ds, dt, du, dz⟩, xc, xt⟩) := by clear H; grind [AB]
  exact ⟨by rw [hq], H.toBelow ⟨(zq hg2), (zq hg1), trivial⟩⟩

theorem I8 (m x : Ms) (A B C D : Option Addr) (ka kb kc kd : Nat) (w : World) (h1 : MsRows w m A B) (h2 : MsRows w x C D) (hl1 : m.votes.length ≤ 1000000) (hl2 : m.items.length ≤ 1000000) :
  Calls Tryz.prog 14 #[msV m A ka B kb, msV x C kc D kd] w fun e w' => e = .returned (.bool (decide (m = x))) ∧ Below w.heap.size w w' := by
 obtain ⟨mk, mn, mr, mb, ms, mo, mv, vl, il, ⟨ca, cb, ck, cs, ct, cu, cz⟩, mc, mt⟩ := m
 obtain ⟨xk, xn, xr, xb, xs, xo, xv, wl, jl, ⟨da, db, dk, ds, dt, du, dz⟩, xc, xt⟩ := x
 exact TQ _ _ _ _ _ _ _ _ _ _ _ _ _ _ _ _ _ _ _ _ _ _ _ _ _ _ _ _ _ _ _ _ _ _ _ _ _ _ _ _ _ _ _ _ w h1.hv h1.hi h2.hv h2.hi hl1 hl2
end Go.Proofs.YteiaiilfekojfaaGreat.Msg
end
section
set_option linter.unusedVariables false
set_option linter.unusedSimpArgs false
namespace Go.Proofs.YteiaiilfekojfaaGreat.Net
open Go.RowKit Sx Wire DrawInv
open Msg
set_option maxRecDepth 100000 in
set_option maxHeartbeats 4000000 in
theorem LC   (w : World) : Calls Tryz.prog 21 #[] w fun e w' => e = .returned (.bool true) ∧ Below w.heap.size w w' := by
 obtain ⟨sb, hp1, hby0, htk⟩ := XC 3 (by decide)
 have hs1 : FY [] 0 1 (Ij 3) = ([⟨0, 1, sb⟩], 0) := by unfold FY; rw [if_pos (by decide), hp1]; rfl
 have hby1 : ∀ p ∈ [(⟨0, 1, sb⟩ : Pa)], p.bytes.length ≤ 100000 := fun p hp => by rw [List.mem_singleton.1 hp]; exact hby0
 have ht4 : FX [(⟨0, 1, sb⟩ : Pa)] [] 0 1 0 = (([] : List Pa), ((0, 1, Ij 3) : Nat × Nat × Ms), 0) := by
  show (if (EX sb).2 ≠ 0 then ([(⟨0, 1, sb⟩ : Pa)], ((0, 0, ms0 0) : Nat × Nat × Ms), (EX sb).2) else (([] : List Pa), ((0, 1, (EX sb).1) : Nat × Nat × Ms), 0)) = _
  rw [htk, if_neg (by decide)]
 refine A0 (n := 84) _ Tryz.func21 rfl rfl rfl (Hp.start w) (Ae (Ac (za rfl (Ad (Aa (Ae (Ac ?_)))))))
 refine AP (σ := Nat × Nat) (fun s => .pointer (some ⟨s.1, 0, none⟩)) (fun s => w.heap.size ≤ s.1 ∧ w.heap.size ≤ s.2) (fun s => _) trivial rfl rfl (zk Ie rfl) O5 fun s hgn => ?_
 obtain ⟨gn, gm⟩ := s
 dsimp only at hgn ⊢
 refine za rfl (Ad (Aa (Ae (Ac (zm rfl (Ao (v := .agg #[.int .u8 10, .int .u64 0, .int .u8 0, .int .u64 0, .int .u64 3, .int .u8 0, .string ⟨[].toArray⟩, .slice none 0 0, .slice none 0 0, .int .u8 0, .int .u32 0, .int .u8 0, .string ⟨[].toArray⟩, .string ⟨[].toArray⟩, .string ⟨[].toArray⟩, .int .u8 0, .int .u8 0, .string ⟨[].toArray⟩]) trivial rfl rfl (zk FA rfl) (fun w H => Tt 3 w) (Ag trivial rfl rfl (fun ρ w E H => Bh (cs := [.int .u8 0, .int .u8 1, .int .u8 10, .int .u64 0, .int .u8 0, .int .u64 0, .int .u64 3, .int .u8 0, .string ⟨[].toArray⟩, .slice none 0 0, .slice none 0 0, .int .u8 0, .int .u32 0, .int .u8 0, .string ⟨[].toArray⟩, .string ⟨[].toArray⟩, .string ⟨[].toArray⟩, .int .u8 0, .int .u8 0, .string ⟨[].toArray⟩]) E rfl rfl (by kernel_rfl)) ?_)))))))
 refine AP (σ := Value) (fun _ => .int .i64 0) (fun s => OwnIn w [] s) (fun s => _) trivial rfl rfl (zk Dn rfl) (EE (i := 0) (bag' := [(⟨0, 1, sb⟩ : Pa)]) (M' := ([] : Df)) rfl (fun b hb => by simp [Value.ownBlock] at hb) (fun W H => (I7 w.heap.size gn gm _ [] [] 0 1 (Ij 3) none none 0 0 W (H.get (i := 0) rfl) (by simp) H.os.size (NM 3 (by decide)) ((To 3).small (NM 3 (by decide))) (FS W _ rfl rfl)).mono fun _ _ h => by rw [hs1] at h; exact h)) fun V17 hV17 => ?_
 refine za rfl (Ad (Aa (Ae (Ac (zm rfl ?_)))))
 refine AP (σ := Value × Value × Value) (fun q => .tuple #[.agg (.int .u8 ((([(⟨0, 1, sb⟩ : Pa)], ((0, 0, ms0 0) : Nat × Nat × Ms), 11)).2.1.1 : Int) :: .int .u8 ((([(⟨0, 1, sb⟩ : Pa)], ((0, 0, ms0 0) : Nat × Nat × Ms), 11)).2.1.2.1 : Int) :: msL (([(⟨0, 1, sb⟩ : Pa)], ((0, 0, ms0 0) : Nat × Nat × Ms), 11)).2.1.2.2 q.2.1 q.2.2).toArray, .int .i64 ((([(⟨0, 1, sb⟩ : Pa)], ((0, 0, ms0 0) : Nat × Nat × Ms), 11)).2.2 : Int)]) (fun q => OwnIn w [] q.1 ∧ OwnIn w [] q.2.1 ∧ OwnIn w [] q.2.2) (fun q => _) trivial rfl rfl (zk CL rfl) (FN (i := 0) (r := ([(⟨0, 1, sb⟩ : Pa)], ((0, 0, ms0 0) : Nat × Nat × Ms), 11)) rfl hV17 (by simp) (fun p hp => by cases hp) hby1 rfl) fun q hq20 => ?_
 obtain ⟨V20, U20, I20⟩ := q
 dsimp only at hq20
 refine CZ (fun W H => Bf (H.get (i := 0) rfl)) ?_
 rintro ⟨UA20, uk20, rfl⟩
 refine CZ (fun W H => Bf (H.get (i := 1) rfl)) ?_
 rintro ⟨IA20, ik20, rfl⟩
 refine zm rfl (zx rfl (zX (.int .i64 11) rfl ?_))
 refine zA AI rfl fun g1 hg1 => ?_
 refine zS 0 Aj rfl (za rfl (Ad (Aa (Ae (Ac (zm rfl ?_))))))
 refine AP (σ := Value × Value × Value) (fun q => .tuple #[.agg (.int .u8 ((([(⟨0, 1, sb⟩ : Pa)], ((0, 0, ms0 0) : Nat × Nat × Ms), 11)).2.1.1 : Int) :: .int .u8 ((([(⟨0, 1, sb⟩ : Pa)], ((0, 0, ms0 0) : Nat × Nat × Ms), 11)).2.1.2.1 : Int) :: msL (([(⟨0, 1, sb⟩ : Pa)], ((0, 0, ms0 0) : Nat × Nat × Ms), 11)).2.1.2.2 q.2.1 q.2.2).toArray, .int .i64 ((([(⟨0, 1, sb⟩ : Pa)], ((0, 0, ms0 0) : Nat × Nat × Ms), 11)).2.2 : Int)]) (fun q => OwnIn w [] q.1 ∧ OwnIn w [] q.2.1 ∧ OwnIn w [] q.2.2) (fun q => _) trivial rfl rfl (zk CL rfl) (FN (i := 3) (r := ([(⟨0, 1, sb⟩ : Pa)], ((0, 0, ms0 0) : Nat × Nat × Ms), 11)) rfl hq20.1 (by simp) (fun p hp => by cases hp) hby1 rfl) fun q hq25 => ?_
 obtain ⟨V25, U25, I25⟩ := q
 dsimp only at hq25
 refine CZ (fun W H => Bf (H.get (i := 0) rfl)) ?_
 rintro ⟨UA25, uk25, rfl⟩
 refine CZ (fun W H => Bf (H.get (i := 1) rfl)) ?_
 rintro ⟨IA25, ik25, rfl⟩
 refine zm rfl (zx rfl (zX (.int .i64 11) rfl ?_))
 refine zA AI rfl fun g2 hg2 => ?_
 refine zS 0 Aj rfl (za rfl (Ad (Aa (Ae (Ac (zm rfl ?_))))))
 refine AP (σ := Value) (fun _ => .int .i64 0) (fun s => OwnIn w [] s) (fun s => _) trivial rfl rfl (zk Fv rfl) (EE (i := 6) (bag' := [(⟨0, 1, sb⟩ : Pa)]) (M' := [((0, 1), Value.bool true)]) rfl hq25.1 (fun W H => (Pj _ _ _ _ _ _ 1 0 W (H.get (i := 6) rfl)).mono fun _ _ h => h)) fun V29 hV29 => ?_
 refine za rfl (Ad (Aa (Ae (Ac (zm rfl ?_)))))
 refine AP (σ := Value × Value × Value) (fun q => .tuple #[.agg (.int .u8 ((([(⟨0, 1, sb⟩ : Pa)], ((0, 0, ms0 0) : Nat × Nat × Ms), 13)).2.1.1 : Int) :: .int .u8 ((([(⟨0, 1, sb⟩ : Pa)], ((0, 0, ms0 0) : Nat × Nat × Ms), 13)).2.1.2.1 : Int) :: msL (([(⟨0, 1, sb⟩ : Pa)], ((0, 0, ms0 0) : Nat × Nat × Ms), 13)).2.1.2.2 q.2.1 q.2.2).toArray, .int .i64 ((([(⟨0, 1, sb⟩ : Pa)], ((0, 0, ms0 0) : Nat × Nat × Ms), 13)).2.2 : Int)]) (fun q => OwnIn w [] q.1 ∧ OwnIn w [] q.2.1 ∧ OwnIn w [] q.2.2) (fun q => _) trivial rfl rfl (zk CL rfl) (FN (i := 6) (r := ([(⟨0, 1, sb⟩ : Pa)], ((0, 0, ms0 0) : Nat × Nat × Ms), 13)) rfl hV29 (by simp) (fun p hp => by rw [List.mem_singleton.1 hp]) hby1 rfl) fun q hq32 => ?_
 obtain ⟨V32, U32, I32⟩ := q
 dsimp only at hq32
 refine CZ (fun W H => Bf (H.get (i := 0) rfl)) ?_
 rintro ⟨UA32, uk32, rfl⟩
 refine CZ (fun W H => Bf (H.get (i := 1) rfl)) ?_
 rintro ⟨IA32, ik32, rfl⟩
 refine zm rfl (zx rfl (zX (.int .i64 13) rfl ?_))
 refine zA AI rfl fun g3 hg3 => ?_
 refine zS 0 Aj rfl (za rfl (Ad (Aa (Ae (Ac (zm rfl ?_))))))
 refine AP (σ := Value) (fun _ => .int .i64 0) (fun s => OwnIn w [] s) (fun s => _) trivial rfl rfl (zk Gs rfl) (EE (i := 9) (bag' := [(⟨0, 1, sb⟩ : Pa)]) (M' := ([] : Df)) rfl hq32.1 (fun W H => (Qe _ _ _ _ _ _ W (H.get (i := 9) rfl)).mono fun _ _ h => h)) fun V36 hV36 => ?_
 refine za rfl (Ad (Aa (Ae (Ac (zm rfl ?_)))))
 refine AP (σ := Value × Value × Value) (fun q => .tuple #[.agg (.int .u8 (((([] : List Pa), ((0, 1, Ij 3) : Nat × Nat × Ms), 0)).2.1.1 : Int) :: .int .u8 (((([] : List Pa), ((0, 1, Ij 3) : Nat × Nat × Ms), 0)).2.1.2.1 : Int) :: msL ((([] : List Pa), ((0, 1, Ij 3) : Nat × Nat × Ms), 0)).2.1.2.2 q.2.1 q.2.2).toArray, .int .i64 (((([] : List Pa), ((0, 1, Ij 3) : Nat × Nat × Ms), 0)).2.2 : Int)]) (fun q => OwnIn w [] q.1 ∧ OwnIn w [] q.2.1 ∧ OwnIn w [] q.2.2) (fun q => _) trivial rfl rfl (zk CL rfl) (FN (i := 9) (r := (([] : List Pa), ((0, 1, Ij 3) : Nat × Nat × Ms), 0)) rfl hV36 (by simp) (fun p hp => by cases hp) hby1 ht4) fun q hq39 => ?_
 obtain ⟨V39, U39, I39⟩ := q
 dsimp only at hq39
 refine CZ (fun W H => Bf (H.get (i := 0) rfl)) ?_
 rintro ⟨UA39, uk39, rfl⟩
 refine CZ (fun W H => Bf (H.get (i := 1) rfl)) ?_
 rintro ⟨IA39, ik39, rfl⟩
 refine zm rfl (zx rfl (zX (.int .i64 0) rfl ?_))
 refine zA AI rfl fun g4 hg4 => ?_
 refine zS 0 Aj rfl (za rfl (Ad (Aa (Ae (BN [] [0, 1, 2, 3, 4, 5, 6, 7, 8, 9, 10, 11, 12] (by kernel_rfl) rfl ⟨(zh hg4), (zj hq39.2.1.fresh), (zj hq39.2.2.fresh), (zh hg3), (zj hq32.2.1.fresh), (zj hq32.2.2.fresh), (zh hg2), (zj hq25.2.1.fresh), (zj hq25.2.2.fresh), (zh hg1), (zj hq20.2.1.fresh), (zj hq20.2.2.fresh), (zj (CH hgn.1 hgn.2 hq39.1)), trivial⟩ (ym 0 rfl (by kernel_rfl) zI (yt (i := 1) (v := .bool true) (by kernel_rfl) zI rfl rfl rfl rfl (fun ρ w E H => E9 E rfl rfl rfl rfl (by decide)) (ym 2 rfl (by kernel_rfl) zI (ym 3 rfl (by kernel_rfl) zI ?_)))))))))
 refine yt (i := 4) (v := .bool true) (by kernel_rfl) zI rfl rfl rfl rfl (fun ρ w E H => E9 E rfl rfl rfl rfl (by decide)) (yp 5 rfl (by kernel_rfl) zI (ym 6 rfl (by kernel_rfl) zI (ym 7 rfl (by kernel_rfl) zI (yt (i := 8) (v := .bool true) (by kernel_rfl) zI rfl rfl rfl rfl (fun ρ w E H => E9 E rfl rfl rfl rfl (by decide)) (yp 9 rfl (by kernel_rfl) zI (ym 10 rfl (by kernel_rfl) zI (ym 11 rfl (by kernel_rfl) zI (yt (i := 12) (v := .bool true) (by kernel_rfl) zI rfl rfl rfl rfl (fun ρ w E H => E9 E rfl rfl rfl rfl (by decide)) (yp 13 rfl (by kernel_rfl) zI ?_)))))))))
 refine ym 14 rfl (by kernel_rfl) zI (ym 15 rfl (by kernel_rfl) zI (yt (i := 16) (v := .bool true) (by kernel_rfl) zI rfl rfl rfl rfl (fun ρ w E H => E9 E rfl rfl rfl rfl (by decide)) (yp 17 rfl (by kernel_rfl) zI (ym 18 rfl (by kernel_rfl) zI (ym 19 rfl (by kernel_rfl) zI (yt (i := 20) (v := .bool true) (by kernel_rfl) zI rfl rfl rfl rfl (fun ρ w E H => E9 E rfl rfl rfl rfl (by decide)) (yp 21 rfl (by kernel_rfl) zI (ym 22 rfl (by kernel_rfl) zI (ym 23 rfl (by kernel_rfl) zI ?_)))))))))
 refine yt (i := 24) (v := .bool true) (by kernel_rfl) zI rfl rfl rfl rfl (fun ρ w E H => E9 E rfl rfl rfl rfl (by decide)) (yp 25 rfl (by kernel_rfl) zI (ym 26 rfl (by kernel_rfl) zI (yf 27 1 Bm rfl (by kernel_rfl) zI (yl 28 0 Tryz.underlying5 rfl (by kernel_rfl) zI (yt (i := 29) (v := .bool true) (by kernel_rfl) zI rfl rfl rfl rfl (fun ρ w E H => E9 E rfl rfl rfl rfl (by decide)) (yp 30 rfl (by kernel_rfl) zI (ym 31 rfl (by kernel_rfl) zI (yf 32 2 Bl rfl (by kernel_rfl) zI (yv 33 0 [.int .u8 10, .int .u64 0, .int .u8 0, .int .u64 0, .int .u64 3, .int .u8 0, .string ⟨[].toArray⟩, .slice UA39 0 uk39, .slice IA39 0 ik39, .int .u8 0, .int .u32 0, .int .u8 0, .string ⟨[].toArray⟩, .string ⟨[].toArray⟩, .string ⟨[].toArray⟩, .int .u8 0, .int .u8 0, .string ⟨[].toArray⟩] Tryz.underlying33 Av rfl (by kernel_rfl) zI ?_)))))))))
 refine yr 34 (by kernel_rfl) (BO (v := .agg #[.int .u8 10, .int .u64 0, .int .u8 0, .int .u64 0, .int .u64 3, .int .u8 0, .string ⟨[].toArray⟩, .slice none 0 0, .slice none 0 0, .int .u8 0, .int .u32 0, .int .u8 0, .string ⟨[].toArray⟩, .string ⟨[].toArray⟩, .string ⟨[].toArray⟩, .int .u8 0, .int .u8 0, .string ⟨[].toArray⟩]) rfl (gK rfl) rfl rfl (zk FA rfl) (fun w H => Tt 3 w) (fun w H => H.ks [] [0, 1, 2, 3, 4, 5, 6, 7, 8, 9, 10, 11, 12] rfl ⟨(zh hg4), (zj hq39.2.1.fresh), (zj hq39.2.2.fresh), (zh hg3), (zj hq32.2.1.fresh), (zj hq32.2.2.fresh), (zh hg2), (zj hq25.2.1.fresh), (zj hq25.2.2.fresh), (zh hg1), (zj hq20.2.1.fresh), (zj hq20.2.2.fresh), (zj (CH hgn.1 hgn.2 hq39.1)), trivial⟩) (yr 35 (by kernel_rfl) (BO (v := .bool true) rfl (gK rfl) rfl rfl (zk Db rfl) (fun w H => (I8 (Ij 3) (Ij 3) UA39 IA39 none none uk39 ik39 0 0 w ⟨Su (H.get (i := 1) rfl), SQ (H.get (i := 2) rfl)⟩ (FS w _ rfl rfl) (by decide) (by decide)).mono fun _ _ h => ⟨by rw [h.1]; simp, h.2⟩) (fun w H => H.ks [] [0, 1, 2, 3, 4, 5, 6, 7, 8, 9, 10, 11, 12] rfl ⟨(zh hg4), (zj hq39.2.1.fresh), (zj hq39.2.2.fresh), (zh hg3), (zj hq32.2.1.fresh), (zj hq32.2.2.fresh), (zh hg2), (zj hq25.2.1.fresh), (zj hq25.2.2.fresh), (zh hg1), (zj hq20.2.1.fresh), (zj hq20.2.2.fresh), (zj (CH hgn.1 hgn.2 hq39.1)), trivial⟩) (yp 36 rfl (by kernel_rfl) zI (ym 37 rfl (by kernel_rfl) zI (ym 38 rfl (by kernel_rfl) zI (yr 39 (by kernel_rfl) (BO (v := .int .i64 0) rfl (gK rfl) rfl rfl (zk Fq rfl) (fun w H => OZ _ _ _ _ ([] : List Pa) _ w (H.get (i := 12) rfl)) (fun w H => H.ks [] [0, 1, 2, 3, 4, 5, 6, 7, 8, 9, 10, 11, 12] rfl ⟨(zh hg4), (zj hq39.2.1.fresh), (zj hq39.2.2.fresh), (zh hg3), (zj hq32.2.1.fresh), (zj hq32.2.2.fresh), (zh hg2), (zj hq25.2.1.fresh), (zj hq25.2.2.fresh), (zh hg1), (zj hq20.2.1.fresh), (zj hq20.2.2.fresh), (zj (CH hgn.1 hgn.2 hq39.1)), trivial⟩) (yt (i := 40) (v := .bool true) (by kernel_rfl) zI rfl rfl rfl rfl (fun ρ w E H => E9 E rfl rfl rfl rfl (by decide)) ?_)))))))))
 refine yp 41 rfl (by kernel_rfl) zI (yA 42 rfl (by kernel_rfl) zI (BE (by kernel_rfl) (Aa (Am ?_))))
 refine Ai (.bool true) (fun a w K H => BC K rfl rfl) (fun w H => ?_)
 exact ⟨rfl, H.toBelow ⟨(zq hg4), hq39.2.1.fresh, hq39.2.2.fresh, (zq hg3), hq32.2.1.fresh, hq32.2.2.fresh, (zq hg2), hq25.2.1.fresh, hq25.2.2.fresh, (zq hg1), hq20.2.1.fresh, hq20.2.2.fresh, (CH hgn.1 hgn.2 hq39.1), trivial⟩⟩
end Go.Proofs.YteiaiilfekojfaaGreat.Net
end
section
set_option linter.unusedVariables false
set_option linter.unusedSimpArgs false
namespace Go.Proofs.YteiaiilfekojfaaGreat.Net
open Go.RowKit Sx Wire DrawInv
open Msg
theorem Na.Ok.bel {w w' : World} {x : Na} (h : x.Ok w) (hb : Below w.heap.size w w') : x.Ok w' := ⟨h.d, h.f, h.t, h.k, h.m, h.r.below hb, h.n1, h.n2⟩

set_option maxRecDepth 100000 in
set_option maxHeartbeats 4000000 in
theorem plays_any (l : List Na) (aa bb : Nat) (A : Option Addr) (c : Nat) (w : World) (hA : Rows w A 22 naL l) (hQ : ∀ x ∈ l, x.Ok w) (hl : l.length ≤ 9223372036854775807) : Calls Tryz.prog 7 #[.slice A l.length c, .int .u8 (aa : Int), .int .u8 (bb : Int)] w fun e w' => e = .returned (.bool true) ∧ Below w.heap.size w w' := by
 have hD0 : ∀ b ∈ (D9 w.heap.size none 0 none 0 [] [] []).fp, w.heap.size ≤ b := fun b hb => by simp [D9, Value.ownBlock] at hb
 refine A0 (n := 214) _ Tryz.func7 rfl rfl rfl (Hp.start w) (Ae (Ac (za rfl (Ad (Aa (Ae (Ae (Ac (zm rfl ?_)))))))))
 refine AP (σ := Bool) (fun b => .bool b) (fun b => b = false → l.length ≤ 200 ∧ ∀ x ∈ l, x.m.Lim) (fun _ => []) trivial rfl rfl (zk GR rfl) (fun W H => (Qg l A c W (hA.below (H.toBelow trivial)) (fun x hx => (hQ x hx).bel (H.toBelow trivial)) hl).mono fun _ _ ⟨b, h1, h2, h3⟩ => ⟨b, h1, h2, H.below h3⟩) fun c19 hgr => ?_
 refine Ad (Aa ?_)
 cases c19
 ·refine Ah rfl (Ax (Aa (Ae (Ac ?_))))
  refine AP (σ := Nat × Nat) (fun s => .pointer (some ⟨s.1, 0, none⟩)) (fun s => w.heap.size ≤ s.1 ∧ w.heap.size ≤ s.2) (fun s => _) trivial rfl rfl (zk Ie rfl) O5 fun s hgn => ?_
  obtain ⟨gn, gm⟩ := s
  dsimp only at hgn ⊢
  refine za rfl (Ad (Aa (Ae (Ac ?_))))
  refine zA AC rfl fun g1 hg1 => ?_
  refine Ad (Aa (Ae (Ae (Ac (za rfl (Ad (Aa (AG (Ep (fun W H => H.know (D9 w.heap.size none 0 none 0 [] [] []) (IQ _ _ _ _ _ _ _ _) (fun g hg => by simp [D9, Value.ownBlock] at hg) (Wn _ _)) ?_)))))))))
  refine Sj (fun (V : Value) (LA : Option Addr) (lk : Nat) (CA : Option Addr) (ckp : Nat) (i : Nat) (bag : List Pa) (M : Df) (L : List Rl) (gs : List Nat) (pp : List (Nat × Nat)) => [(0, .slice A l.length c), (1, .int .u8 (aa : Int)), (2, .int .u8 (bb : Int)), (7, .pointer (some ⟨gn, 0, none⟩)), (8, .pointer (some ⟨g1, 0, none⟩)), (9, .int .i64 (i : Int))]) (fun (V : Value) (LA : Option Addr) (lk : Nat) (CA : Option Addr) (ckp : Nat) (i : Nat) (bag : List Pa) (M : Df) (L : List Rl) (gs : List Nat) (pp : List (Nat × Nat)) => [E7 w.heap.size gn gm V bag M, D9 w.heap.size LA lk CA ckp L gs pp, cell g1 78 [.slice LA L.length lk, .slice CA gs.length ckp]]) (fun (gk : Nat) (V : Value) (LA : Option Addr) (lk : Nat) (CA : Option Addr) (ckp : Nat) (i : Nat) (bag : List Pa) (M : Df) (L : List Rl) (gs : List Nat) (pp : List (Nat × Nat)) => i + gk = l.length ∧ NR bag M L pp ∧ (∀ x ∈ L, MsRows w x.m x.A x.B) ∧ OwnIn w [] V ∧ (∀ b ∈ (D9 w.heap.size LA lk CA ckp L gs pp).fp, w.heap.size ≤ b) ∧ gs.length ≤ i) l.length (.slice none 0 0) none 0 none 0 0 ([] : List Pa) ([] : Df) ([] : List Rl) ([] : List Nat) ([] : List (Nat × Nat)) ⟨by omega, NR.start, (fun x h => by cases h), (fun b hb => by simp [Value.ownBlock] at hb), hD0, Nat.le_refl _⟩ ⟨rfl, rfl, rfl, rfl, rfl, rfl, trivial⟩ [2, 0, 1] rfl (by decide) ⟨.inl rfl, .inl rfl, .inl rfl, trivial⟩ fun gk V LA lk CA ckp i bag M L gs pp hF => ?_
  obtain ⟨hkg, hN, hMs, hV, hD, hgi⟩ := hF
  refine Ae (Ae (Ac (zm rfl (zm rfl (zL Tryz.underlying47 rfl ?_)))))
  refine zb rfl fun c25 hc25 => ?_
  refine Ad (Aa ?_)
  cases c25
  ·refine Ah rfl (Cd (AW (AW (BH (Aa (Ae ?_))))))
   obtain ⟨hl2, hlm⟩ := hgr rfl
   have hg5 : gs.length ≤ 100000 := by omega
   refine Ac (zm rfl (zw 2 Tryz.underlying78 Af rfl (zm rfl (zm rfl (Ao (v := .bool true) trivial rfl rfl (zk GZ rfl) (fun w H => (fun hr => QU _ gn gm V bag M L gs pp LA CA lk ckp aa bb w (H.get (i := 0) rfl) hN hr.1 hr.2.1 hr.2.2.1 hr.2.2.2 hg5) (I5 (H.get (i := 1) rfl))) (zm rfl (Ao (v := .bool true) (gK rfl) rfl rfl (zk Fh rfl) (fun w H => LC w) (zp rfl (za rfl ?_)))))))))
   refine Ad (Aa (Am ?_))
   refine Ai (.bool true) (fun a w K H => BC K rfl rfl) (fun w H => ?_)
   exact ⟨rfl, H.toBelow ⟨(CH hgn.1 hgn.2 hV), hD, (zq hg1), trivial⟩⟩
  ·refine Ap rfl (Ax (Aa (Ae (AG (Ae ?_)))))
   have hkl : i < l.length := by have h := hc25; simp [AB] at h; omega
   obtain ⟨hl2, hlm⟩ := hgr rfl
   obtain ⟨xx, hx⟩ : ∃ a, l[i]? = some a := ⟨_, List.getElem?_eq_getElem hkl⟩
   have hq := hQ xx (List.mem_of_getElem? hx)
   have hlx := hlm xx (List.mem_of_getElem? hx)
   obtain ⟨ad, rfl, -, -⟩ := hA.row hx
   obtain ⟨d, f, t, k, ⟨mk, mn, mr, mb, ms, mo, mv, vl, il, ⟨ca, cb, ck, cs, ct, cu, cz⟩, mc, mt⟩, A2, ka, B, kb⟩ := xx
   dsimp only at hlx
   have hle := hN.le
   have hbl := hN.len
   have hby := hN.bytes
   have hb512 : bag.length ≤ 512 := by omega
   have hg5 : gs.length ≤ 100000 := by omega
   refine Ac (zm rfl (zm rfl (Ag (v := .pointer (some (ad.add (i * 22)))) trivial rfl rfl (fun ρ w E H => BA (i := i) E rfl Tryz.underlying47 D6 rfl rfl hkl) (Ag (v := .agg #[.int .u8 (d : Int), .int .u8 (f : Int), .int .u8 (t : Int), .int .i64 (k), .int .u8 (mk : Int), .int .u64 (mn : Int), .int .u8 (mr : Int), .int .u64 (mb : Int), .int .u64 (ms : Int), .int .u8 (mo : Int), .string ⟨mv.toArray⟩, .slice A2 vl.length ka, .slice B il.length kb, .int .u8 (ca : Int), .int .u32 (cb : Int), .int .u8 (ck : Int), .string ⟨cs.toArray⟩, .string ⟨ct.toArray⟩, .string ⟨cu.toArray⟩, .int .u8 (cz : Int), .int .u8 (mc : Int), .string ⟨mt.toArray⟩]) trivial rfl rfl (fun ρ w E H => C7 (cs := [.int .u8 (d : Int), .int .u8 (f : Int), .int .u8 (t : Int), .int .i64 (k), .int .u8 (mk : Int), .int .u64 (mn : Int), .int .u8 (mr : Int), .int .u64 (mb : Int), .int .u64 (ms : Int), .int .u8 (mo : Int), .string ⟨mv.toArray⟩, .slice A2 vl.length ka, .slice B il.length kb, .int .u8 (ca : Int), .int .u32 (cb : Int), .int .u8 (ck : Int), .string ⟨cs.toArray⟩, .string ⟨ct.toArray⟩, .string ⟨cu.toArray⟩, .int .u8 (cz : Int), .int .u8 (mc : Int), .string ⟨mt.toArray⟩]) E ((hA.below (H.toBelow ⟨(CH hgn.1 hgn.2 hV), hD, (zq hg1), trivial⟩)).rowA hx) rfl rfl Tryz.underlying55 rfl D6) ?_))))
   refine zA Hj rfl fun g2 hg2 => ?_
   refine zS 0 D6 rfl (Ad (Aa (Ae (Ac (za rfl (za rfl (Ad (Aa (Ae ?_)))))))))
   refine UX (fun (V2 : Value) (LA2 : Option Addr) (lk2 : Nat) (CA2 : Option Addr) (ck2 : Nat) (bag2 : List Pa) (Mt2 : Df) (L2 : List Rl) (gs2 : List Nat) (pp2 : List (Nat × Nat)) (ec : Int) => [(0, .slice (some ad) l.length c), (1, .int .u8 (aa : Int)), (2, .int .u8 (bb : Int)), (7, .pointer (some ⟨gn, 0, none⟩)), (8, .pointer (some ⟨g1, 0, none⟩)), (9, .int .i64 (i : Int)), (10, .pointer (some ⟨g2, 0, none⟩)), (11, .int .i64 (ec)), (12, .int .i64 (ec))]) (fun (V2 : Value) (LA2 : Option Addr) (lk2 : Nat) (CA2 : Option Addr) (ck2 : Nat) (bag2 : List Pa) (Mt2 : Df) (L2 : List Rl) (gs2 : List Nat) (pp2 : List (Nat × Nat)) (ec : Int) => [cell g2 55 [.int .u8 (d : Int), .int .u8 (f : Int), .int .u8 (t : Int), .int .i64 (k), .int .u8 (mk : Int), .int .u64 (mn : Int), .int .u8 (mr : Int), .int .u64 (mb : Int), .int .u64 (ms : Int), .int .u8 (mo : Int), .string ⟨mv.toArray⟩, .slice A2 vl.length ka, .slice B il.length kb, .int .u8 (ca : Int), .int .u32 (cb : Int), .int .u8 (ck : Int), .string ⟨cs.toArray⟩, .string ⟨ct.toArray⟩, .string ⟨cu.toArray⟩, .int .u8 (cz : Int), .int .u8 (mc : Int), .string ⟨mt.toArray⟩], E7 w.heap.size gn gm V2 bag2 Mt2, D9 w.heap.size LA2 lk2 CA2 ck2 L2 gs2 pp2, cell g1 78 [.slice LA2 L2.length lk2, .slice CA2 gs2.length ck2]]) (fun (V2 : Value) (LA2 : Option Addr) (lk2 : Nat) (CA2 : Option Addr) (ck2 : Nat) (bag2 : List Pa) (Mt2 : Df) (L2 : List Rl) (gs2 : List Nat) (pp2 : List (Nat × Nat)) (ec : Int) => NR bag2 Mt2 L2 pp2 ∧ (∀ x ∈ L2, MsRows w x.m x.A x.B) ∧ OwnIn w [] V2 ∧ (∀ b ∈ (D9 w.heap.size LA2 lk2 CA2 ck2 L2 gs2 pp2).fp, w.heap.size ≤ b) ∧ gs2.length ≤ i + 1) ?_ fun V2 LA2 lk2 CA2 ck2 bag2 Mt2 L2 gs2 pp2 ec hF2 => ?_
   ·refine Ae (Ac (zf 0 GQ rfl (zl 0 Tryz.underlying5 rfl (Ad (Aa (AG (Ae (Ac ?_))))))))
    refine zb rfl fun c56 hc56 => ?_
    refine za rfl (Ad (Aa ?_))
    cases c56
    ·refine Ah rfl (Ae (Ac ?_))
     refine zb rfl fun c104 hc104 => ?_
     refine za rfl (Ad (Aa ?_))
     cases c104
     ·refine Ah rfl (Ae (Ac ?_))
      refine zb rfl fun c126 hc126 => ?_
      refine za rfl (Ad (Aa ?_))
      cases c126
      ·refine Ah rfl (Ae (Ac ?_))
       refine zb rfl fun c148 hc148 => ?_
       refine za rfl (Ad (Aa ?_))
       cases c148
       ·refine Ah rfl (Ae (Ac ?_))
        refine zb rfl fun c165 hc165 => ?_
        refine za rfl (Ad (Aa ?_))
        cases c165
        ·refine Ah rfl (Ae ?_)
         rcases hN.send f t ⟨mk, mn, mr, mb, ms, mo, mv, vl, il, ⟨ca, cb, ck, cs, ct, cu, cz⟩, mc, mt⟩ with ⟨hap, htk⟩ | ⟨hap, hck, htk⟩ | ⟨hap, hck, hin, htk⟩ | ⟨hap, hck, hin, hfu, htk⟩ | ⟨hap, hck, hin, hfu, htk⟩
         ·have hN2 := hN
          refine Ac (zm rfl (zf 1 Ar rfl (zl 0 Tryz.underlying5 rfl (zf 2 Aq rfl (zl 0 Tryz.underlying5 rfl (zf 4 BD rfl (zv 0 [.int .u8 (mk : Int), .int .u64 (mn : Int), .int .u8 (mr : Int), .int .u64 (mb : Int), .int .u64 (ms : Int), .int .u8 (mo : Int), .string ⟨mv.toArray⟩, .slice A2 vl.length ka, .slice B il.length kb, .int .u8 (ca : Int), .int .u32 (cb : Int), .int .u8 (ck : Int), .string ⟨cs.toArray⟩, .string ⟨ct.toArray⟩, .string ⟨cu.toArray⟩, .int .u8 (cz : Int), .int .u8 (mc : Int), .string ⟨mt.toArray⟩] Tryz.underlying33 Av rfl (Ag trivial rfl rfl (fun ρ w E H => Bh (cs := [.int .u8 (f : Int), .int .u8 (t : Int), .int .u8 (mk : Int), .int .u64 (mn : Int), .int .u8 (mr : Int), .int .u64 (mb : Int), .int .u64 (ms : Int), .int .u8 (mo : Int), .string ⟨mv.toArray⟩, .slice A2 vl.length ka, .slice B il.length kb, .int .u8 (ca : Int), .int .u32 (cb : Int), .int .u8 (ck : Int), .string ⟨cs.toArray⟩, .string ⟨ct.toArray⟩, .string ⟨cu.toArray⟩, .int .u8 (cz : Int), .int .u8 (mc : Int), .string ⟨mt.toArray⟩]) E rfl rfl (by kernel_rfl)) ?_))))))))
          refine AP (σ := Value) (fun _ => .int .i64 2) (fun s => OwnIn w [] s) (fun s => _) trivial rfl rfl (zk Dn rfl) (EE (i := 1) (bag' := bag) (M' := M) rfl hV (fun W H => (I7 _ _ _ _ _ _ f t ⟨mk, mn, mr, mb, ms, mo, mv, vl, il, ⟨ca, cb, ck, cs, ct, cu, cz⟩, mc, mt⟩ A2 B ka kb W (H.get (i := 1) rfl) hb512 H.os.size hq.m (hlx.small hq.m) (hq.r.below (H.toBelow ⟨(zq hg2), (CH hgn.1 hgn.2 hV), hD, (zq hg1), trivial⟩))).mono fun _ _ h => by rw [htk] at h; exact h)) fun V42 hV42 => ?_
          refine za rfl (Ad (Aa (Ac (zw 3 Tryz.underlying78 Af rfl (zf 1 Ar rfl (zl 0 Tryz.underlying5 rfl (zf 2 Aq rfl (zl 0 Tryz.underlying5 rfl (zf 4 BD rfl ?_)))))))))
          refine zv 0 [.int .u8 (mk : Int), .int .u64 (mn : Int), .int .u8 (mr : Int), .int .u64 (mb : Int), .int .u64 (ms : Int), .int .u8 (mo : Int), .string ⟨mv.toArray⟩, .slice A2 vl.length ka, .slice B il.length kb, .int .u8 (ca : Int), .int .u32 (cb : Int), .int .u8 (ck : Int), .string ⟨cs.toArray⟩, .string ⟨ct.toArray⟩, .string ⟨cu.toArray⟩, .int .u8 (cz : Int), .int .u8 (mc : Int), .string ⟨mt.toArray⟩] Tryz.underlying33 Av rfl (Ag trivial rfl rfl (fun ρ w E H => Bh (cs := [.int .u8 (f : Int), .int .u8 (t : Int), .int .u8 (mk : Int), .int .u64 (mn : Int), .int .u8 (mr : Int), .int .u64 (mb : Int), .int .u64 (ms : Int), .int .u8 (mo : Int), .string ⟨mv.toArray⟩, .slice A2 vl.length ka, .slice B il.length kb, .int .u8 (ca : Int), .int .u32 (cb : Int), .int .u8 (ck : Int), .string ⟨cs.toArray⟩, .string ⟨ct.toArray⟩, .string ⟨cu.toArray⟩, .int .u8 (cz : Int), .int .u8 (mc : Int), .string ⟨mt.toArray⟩]) E rfl rfl (by kernel_rfl)) (Ao (v := .tuple #[.agg #[.slice LA L.length lk, .slice CA gs.length ckp], .int .i64 2]) trivial rfl rfl (zk CP rfl) (fun w H => TP L gs pp LA CA lk ckp f t ka kb A2 B _ _ _ _ _ _ _ _ _ _ _ _ _ _ _ _ _ _ w hap) (zm rfl (zx rfl (zX (.int .i64 2) rfl (zS 3 Af rfl (za rfl (Ad (AA ?_)))))))))
          refine Bn (V42, LA, lk, CA, ckp, bag, M, L, gs, pp, 2) ⟨hN2, hMs, hV42, hD, show gs.length ≤ i + 1 by omega⟩ ⟨rfl, rfl, rfl, rfl, rfl, rfl, rfl, rfl, rfl, trivial⟩ [0, 1, 2, 3] rfl (by decide) ⟨.inl rfl, .inl rfl, .inl rfl, .inl rfl, trivial⟩
         ·have hN2 := hN
          refine Ac (zm rfl (zf 1 Ar rfl (zl 0 Tryz.underlying5 rfl (zf 2 Aq rfl (zl 0 Tryz.underlying5 rfl (zf 4 BD rfl (zv 0 [.int .u8 (mk : Int), .int .u64 (mn : Int), .int .u8 (mr : Int), .int .u64 (mb : Int), .int .u64 (ms : Int), .int .u8 (mo : Int), .string ⟨mv.toArray⟩, .slice A2 vl.length ka, .slice B il.length kb, .int .u8 (ca : Int), .int .u32 (cb : Int), .int .u8 (ck : Int), .string ⟨cs.toArray⟩, .string ⟨ct.toArray⟩, .string ⟨cu.toArray⟩, .int .u8 (cz : Int), .int .u8 (mc : Int), .string ⟨mt.toArray⟩] Tryz.underlying33 Av rfl (Ag trivial rfl rfl (fun ρ w E H => Bh (cs := [.int .u8 (f : Int), .int .u8 (t : Int), .int .u8 (mk : Int), .int .u64 (mn : Int), .int .u8 (mr : Int), .int .u64 (mb : Int), .int .u64 (ms : Int), .int .u8 (mo : Int), .string ⟨mv.toArray⟩, .slice A2 vl.length ka, .slice B il.length kb, .int .u8 (ca : Int), .int .u32 (cb : Int), .int .u8 (ck : Int), .string ⟨cs.toArray⟩, .string ⟨ct.toArray⟩, .string ⟨cu.toArray⟩, .int .u8 (cz : Int), .int .u8 (mc : Int), .string ⟨mt.toArray⟩]) E rfl rfl (by kernel_rfl)) ?_))))))))
          refine AP (σ := Value) (fun _ => .int .i64 2) (fun s => OwnIn w [] s) (fun s => _) trivial rfl rfl (zk Dn rfl) (EE (i := 1) (bag' := bag) (M' := M) rfl hV (fun W H => (I7 _ _ _ _ _ _ f t ⟨mk, mn, mr, mb, ms, mo, mv, vl, il, ⟨ca, cb, ck, cs, ct, cu, cz⟩, mc, mt⟩ A2 B ka kb W (H.get (i := 1) rfl) hb512 H.os.size hq.m (hlx.small hq.m) (hq.r.below (H.toBelow ⟨(zq hg2), (CH hgn.1 hgn.2 hV), hD, (zq hg1), trivial⟩))).mono fun _ _ h => by rw [htk] at h; exact h)) fun V42 hV42 => ?_
          refine za rfl (Ad (Aa (Ac (zw 3 Tryz.underlying78 Af rfl (zf 1 Ar rfl (zl 0 Tryz.underlying5 rfl (zf 2 Aq rfl (zl 0 Tryz.underlying5 rfl (zf 4 BD rfl ?_)))))))))
          refine zv 0 [.int .u8 (mk : Int), .int .u64 (mn : Int), .int .u8 (mr : Int), .int .u64 (mb : Int), .int .u64 (ms : Int), .int .u8 (mo : Int), .string ⟨mv.toArray⟩, .slice A2 vl.length ka, .slice B il.length kb, .int .u8 (ca : Int), .int .u32 (cb : Int), .int .u8 (ck : Int), .string ⟨cs.toArray⟩, .string ⟨ct.toArray⟩, .string ⟨cu.toArray⟩, .int .u8 (cz : Int), .int .u8 (mc : Int), .string ⟨mt.toArray⟩] Tryz.underlying33 Av rfl (Ag trivial rfl rfl (fun ρ w E H => Bh (cs := [.int .u8 (f : Int), .int .u8 (t : Int), .int .u8 (mk : Int), .int .u64 (mn : Int), .int .u8 (mr : Int), .int .u64 (mb : Int), .int .u64 (ms : Int), .int .u8 (mo : Int), .string ⟨mv.toArray⟩, .slice A2 vl.length ka, .slice B il.length kb, .int .u8 (ca : Int), .int .u32 (cb : Int), .int .u8 (ck : Int), .string ⟨cs.toArray⟩, .string ⟨ct.toArray⟩, .string ⟨cu.toArray⟩, .int .u8 (cz : Int), .int .u8 (mc : Int), .string ⟨mt.toArray⟩]) E rfl rfl (by kernel_rfl)) (Ao (v := .tuple #[.agg #[.slice LA L.length lk, .slice CA gs.length ckp], .int .i64 2]) trivial rfl rfl (zk CP rfl) (fun w H => TM L gs pp LA CA lk ckp f t ka kb A2 B _ _ _ _ _ _ _ _ _ _ _ _ _ _ _ _ _ _ w hap hck hq.m hlx (hq.r.below (H.toBelow ⟨(zq hg2), (CH hgn.1 hgn.2 hV42), hD, (zq hg1), trivial⟩))) (zm rfl (zx rfl (zX (.int .i64 2) rfl (zS 3 Af rfl (za rfl (Ad (AA ?_)))))))))
          refine Bn (V42, LA, lk, CA, ckp, bag, M, L, gs, pp, 2) ⟨hN2, hMs, hV42, hD, show gs.length ≤ i + 1 by omega⟩ ⟨rfl, rfl, rfl, rfl, rfl, rfl, rfl, rfl, rfl, trivial⟩ [0, 1, 2, 3] rfl (by decide) ⟨.inl rfl, .inl rfl, .inl rfl, .inl rfl, trivial⟩
         ·have hN2 := hN
          refine Ac (zm rfl (zf 1 Ar rfl (zl 0 Tryz.underlying5 rfl (zf 2 Aq rfl (zl 0 Tryz.underlying5 rfl (zf 4 BD rfl (zv 0 [.int .u8 (mk : Int), .int .u64 (mn : Int), .int .u8 (mr : Int), .int .u64 (mb : Int), .int .u64 (ms : Int), .int .u8 (mo : Int), .string ⟨mv.toArray⟩, .slice A2 vl.length ka, .slice B il.length kb, .int .u8 (ca : Int), .int .u32 (cb : Int), .int .u8 (ck : Int), .string ⟨cs.toArray⟩, .string ⟨ct.toArray⟩, .string ⟨cu.toArray⟩, .int .u8 (cz : Int), .int .u8 (mc : Int), .string ⟨mt.toArray⟩] Tryz.underlying33 Av rfl (Ag trivial rfl rfl (fun ρ w E H => Bh (cs := [.int .u8 (f : Int), .int .u8 (t : Int), .int .u8 (mk : Int), .int .u64 (mn : Int), .int .u8 (mr : Int), .int .u64 (mb : Int), .int .u64 (ms : Int), .int .u8 (mo : Int), .string ⟨mv.toArray⟩, .slice A2 vl.length ka, .slice B il.length kb, .int .u8 (ca : Int), .int .u32 (cb : Int), .int .u8 (ck : Int), .string ⟨cs.toArray⟩, .string ⟨ct.toArray⟩, .string ⟨cu.toArray⟩, .int .u8 (cz : Int), .int .u8 (mc : Int), .string ⟨mt.toArray⟩]) E rfl rfl (by kernel_rfl)) ?_))))))))
          refine AP (σ := Value) (fun _ => .int .i64 6) (fun s => OwnIn w [] s) (fun s => _) trivial rfl rfl (zk Dn rfl) (EE (i := 1) (bag' := bag) (M' := M) rfl hV (fun W H => (I7 _ _ _ _ _ _ f t ⟨mk, mn, mr, mb, ms, mo, mv, vl, il, ⟨ca, cb, ck, cs, ct, cu, cz⟩, mc, mt⟩ A2 B ka kb W (H.get (i := 1) rfl) hb512 H.os.size hq.m (hlx.small hq.m) (hq.r.below (H.toBelow ⟨(zq hg2), (CH hgn.1 hgn.2 hV), hD, (zq hg1), trivial⟩))).mono fun _ _ h => by rw [htk] at h; exact h)) fun V42 hV42 => ?_
          refine za rfl (Ad (Aa (Ac (zw 3 Tryz.underlying78 Af rfl (zf 1 Ar rfl (zl 0 Tryz.underlying5 rfl (zf 2 Aq rfl (zl 0 Tryz.underlying5 rfl (zf 4 BD rfl ?_)))))))))
          refine zv 0 [.int .u8 (mk : Int), .int .u64 (mn : Int), .int .u8 (mr : Int), .int .u64 (mb : Int), .int .u64 (ms : Int), .int .u8 (mo : Int), .string ⟨mv.toArray⟩, .slice A2 vl.length ka, .slice B il.length kb, .int .u8 (ca : Int), .int .u32 (cb : Int), .int .u8 (ck : Int), .string ⟨cs.toArray⟩, .string ⟨ct.toArray⟩, .string ⟨cu.toArray⟩, .int .u8 (cz : Int), .int .u8 (mc : Int), .string ⟨mt.toArray⟩] Tryz.underlying33 Av rfl (Ag trivial rfl rfl (fun ρ w E H => Bh (cs := [.int .u8 (f : Int), .int .u8 (t : Int), .int .u8 (mk : Int), .int .u64 (mn : Int), .int .u8 (mr : Int), .int .u64 (mb : Int), .int .u64 (ms : Int), .int .u8 (mo : Int), .string ⟨mv.toArray⟩, .slice A2 vl.length ka, .slice B il.length kb, .int .u8 (ca : Int), .int .u32 (cb : Int), .int .u8 (ck : Int), .string ⟨cs.toArray⟩, .string ⟨ct.toArray⟩, .string ⟨cu.toArray⟩, .int .u8 (cz : Int), .int .u8 (mc : Int), .string ⟨mt.toArray⟩]) E rfl rfl (by kernel_rfl)) (Ao (v := .tuple #[.agg #[.slice LA L.length lk, .slice CA gs.length ckp], .int .i64 6]) trivial rfl rfl (zk CP rfl) (fun w H => QV L gs pp LA CA lk ckp f t ka kb A2 B _ _ _ _ _ _ _ _ _ _ _ _ _ _ _ _ _ _ w hap hck hq.m hlx (hq.r.below (H.toBelow ⟨(zq hg2), (CH hgn.1 hgn.2 hV42), hD, (zq hg1), trivial⟩)) hin) (zm rfl (zx rfl (zX (.int .i64 6) rfl (zS 3 Af rfl (za rfl (Ad (AA ?_)))))))))
          refine Bn (V42, LA, lk, CA, ckp, bag, M, L, gs, pp, 6) ⟨hN2, hMs, hV42, hD, show gs.length ≤ i + 1 by omega⟩ ⟨rfl, rfl, rfl, rfl, rfl, rfl, rfl, rfl, rfl, trivial⟩ [0, 1, 2, 3] rfl (by decide) ⟨.inl rfl, .inl rfl, .inl rfl, .inl rfl, trivial⟩
         ·have hN2 := hN
          refine Ac (zm rfl (zf 1 Ar rfl (zl 0 Tryz.underlying5 rfl (zf 2 Aq rfl (zl 0 Tryz.underlying5 rfl (zf 4 BD rfl (zv 0 [.int .u8 (mk : Int), .int .u64 (mn : Int), .int .u8 (mr : Int), .int .u64 (mb : Int), .int .u64 (ms : Int), .int .u8 (mo : Int), .string ⟨mv.toArray⟩, .slice A2 vl.length ka, .slice B il.length kb, .int .u8 (ca : Int), .int .u32 (cb : Int), .int .u8 (ck : Int), .string ⟨cs.toArray⟩, .string ⟨ct.toArray⟩, .string ⟨cu.toArray⟩, .int .u8 (cz : Int), .int .u8 (mc : Int), .string ⟨mt.toArray⟩] Tryz.underlying33 Av rfl (Ag trivial rfl rfl (fun ρ w E H => Bh (cs := [.int .u8 (f : Int), .int .u8 (t : Int), .int .u8 (mk : Int), .int .u64 (mn : Int), .int .u8 (mr : Int), .int .u64 (mb : Int), .int .u64 (ms : Int), .int .u8 (mo : Int), .string ⟨mv.toArray⟩, .slice A2 vl.length ka, .slice B il.length kb, .int .u8 (ca : Int), .int .u32 (cb : Int), .int .u8 (ck : Int), .string ⟨cs.toArray⟩, .string ⟨ct.toArray⟩, .string ⟨cu.toArray⟩, .int .u8 (cz : Int), .int .u8 (mc : Int), .string ⟨mt.toArray⟩]) E rfl rfl (by kernel_rfl)) ?_))))))))
          refine AP (σ := Value) (fun _ => .int .i64 7) (fun s => OwnIn w [] s) (fun s => _) trivial rfl rfl (zk Dn rfl) (EE (i := 1) (bag' := bag) (M' := M) rfl hV (fun W H => (I7 _ _ _ _ _ _ f t ⟨mk, mn, mr, mb, ms, mo, mv, vl, il, ⟨ca, cb, ck, cs, ct, cu, cz⟩, mc, mt⟩ A2 B ka kb W (H.get (i := 1) rfl) hb512 H.os.size hq.m (hlx.small hq.m) (hq.r.below (H.toBelow ⟨(zq hg2), (CH hgn.1 hgn.2 hV), hD, (zq hg1), trivial⟩))).mono fun _ _ h => by rw [htk] at h; exact h)) fun V42 hV42 => ?_
          refine za rfl (Ad (Aa (Ac (zw 3 Tryz.underlying78 Af rfl (zf 1 Ar rfl (zl 0 Tryz.underlying5 rfl (zf 2 Aq rfl (zl 0 Tryz.underlying5 rfl (zf 4 BD rfl ?_)))))))))
          refine zv 0 [.int .u8 (mk : Int), .int .u64 (mn : Int), .int .u8 (mr : Int), .int .u64 (mb : Int), .int .u64 (ms : Int), .int .u8 (mo : Int), .string ⟨mv.toArray⟩, .slice A2 vl.length ka, .slice B il.length kb, .int .u8 (ca : Int), .int .u32 (cb : Int), .int .u8 (ck : Int), .string ⟨cs.toArray⟩, .string ⟨ct.toArray⟩, .string ⟨cu.toArray⟩, .int .u8 (cz : Int), .int .u8 (mc : Int), .string ⟨mt.toArray⟩] Tryz.underlying33 Av rfl (Ag trivial rfl rfl (fun ρ w E H => Bh (cs := [.int .u8 (f : Int), .int .u8 (t : Int), .int .u8 (mk : Int), .int .u64 (mn : Int), .int .u8 (mr : Int), .int .u64 (mb : Int), .int .u64 (ms : Int), .int .u8 (mo : Int), .string ⟨mv.toArray⟩, .slice A2 vl.length ka, .slice B il.length kb, .int .u8 (ca : Int), .int .u32 (cb : Int), .int .u8 (ck : Int), .string ⟨cs.toArray⟩, .string ⟨ct.toArray⟩, .string ⟨cu.toArray⟩, .int .u8 (cz : Int), .int .u8 (mc : Int), .string ⟨mt.toArray⟩]) E rfl rfl (by kernel_rfl)) (Ao (v := .tuple #[.agg #[.slice LA L.length lk, .slice CA gs.length ckp], .int .i64 7]) trivial rfl rfl (zk CP rfl) (fun w H => QW L gs pp LA CA lk ckp f t ka kb A2 B _ _ _ _ _ _ _ _ _ _ _ _ _ _ _ _ _ _ w hap hck hq.m hlx (hq.r.below (H.toBelow ⟨(zq hg2), (CH hgn.1 hgn.2 hV42), hD, (zq hg1), trivial⟩)) hin hfu) (zm rfl (zx rfl (zX (.int .i64 7) rfl (zS 3 Af rfl (za rfl (Ad (AA ?_)))))))))
          refine Bn (V42, LA, lk, CA, ckp, bag, M, L, gs, pp, 7) ⟨hN2, hMs, hV42, hD, show gs.length ≤ i + 1 by omega⟩ ⟨rfl, rfl, rfl, rfl, rfl, rfl, rfl, rfl, rfl, trivial⟩ [0, 1, 2, 3] rfl (by decide) ⟨.inl rfl, .inl rfl, .inl rfl, .inl rfl, trivial⟩
         ·have hN2 := hN.add (x := ⟨f, t, ⟨mk, mn, mr, mb, ms, mo, mv, vl, il, ⟨ca, cb, ck, cs, ct, cu, cz⟩, mc, mt⟩, A2, ka, B, kb⟩) hfu ⟨hck, hin, hq.m, hlx⟩ hap
          refine Ac (zm rfl (zf 1 Ar rfl (zl 0 Tryz.underlying5 rfl (zf 2 Aq rfl (zl 0 Tryz.underlying5 rfl (zf 4 BD rfl (zv 0 [.int .u8 (mk : Int), .int .u64 (mn : Int), .int .u8 (mr : Int), .int .u64 (mb : Int), .int .u64 (ms : Int), .int .u8 (mo : Int), .string ⟨mv.toArray⟩, .slice A2 vl.length ka, .slice B il.length kb, .int .u8 (ca : Int), .int .u32 (cb : Int), .int .u8 (ck : Int), .string ⟨cs.toArray⟩, .string ⟨ct.toArray⟩, .string ⟨cu.toArray⟩, .int .u8 (cz : Int), .int .u8 (mc : Int), .string ⟨mt.toArray⟩] Tryz.underlying33 Av rfl (Ag trivial rfl rfl (fun ρ w E H => Bh (cs := [.int .u8 (f : Int), .int .u8 (t : Int), .int .u8 (mk : Int), .int .u64 (mn : Int), .int .u8 (mr : Int), .int .u64 (mb : Int), .int .u64 (ms : Int), .int .u8 (mo : Int), .string ⟨mv.toArray⟩, .slice A2 vl.length ka, .slice B il.length kb, .int .u8 (ca : Int), .int .u32 (cb : Int), .int .u8 (ck : Int), .string ⟨cs.toArray⟩, .string ⟨ct.toArray⟩, .string ⟨cu.toArray⟩, .int .u8 (cz : Int), .int .u8 (mc : Int), .string ⟨mt.toArray⟩]) E rfl rfl (by kernel_rfl)) ?_))))))))
          refine AP (σ := Value) (fun _ => .int .i64 0) (fun s => OwnIn w [] s) (fun s => _) trivial rfl rfl (zk Dn rfl) (EE (i := 1) (bag' := (bag ++ [paR ⟨f, t, ⟨mk, mn, mr, mb, ms, mo, mv, vl, il, ⟨ca, cb, ck, cs, ct, cu, cz⟩, mc, mt⟩, A2, ka, B, kb⟩])) (M' := M) rfl hV (fun W H => (I7 _ _ _ _ _ _ f t ⟨mk, mn, mr, mb, ms, mo, mv, vl, il, ⟨ca, cb, ck, cs, ct, cu, cz⟩, mc, mt⟩ A2 B ka kb W (H.get (i := 1) rfl) hb512 H.os.size hq.m (hlx.small hq.m) (hq.r.below (H.toBelow ⟨(zq hg2), (CH hgn.1 hgn.2 hV), hD, (zq hg1), trivial⟩))).mono fun _ _ h => by rw [htk] at h; exact h)) fun V42 hV42 => ?_
          refine za rfl (Ad (Aa (Ac (zw 3 Tryz.underlying78 Af rfl (zf 1 Ar rfl (zl 0 Tryz.underlying5 rfl (zf 2 Aq rfl (zl 0 Tryz.underlying5 rfl (zf 4 BD rfl ?_)))))))))
          refine zv 0 [.int .u8 (mk : Int), .int .u64 (mn : Int), .int .u8 (mr : Int), .int .u64 (mb : Int), .int .u64 (ms : Int), .int .u8 (mo : Int), .string ⟨mv.toArray⟩, .slice A2 vl.length ka, .slice B il.length kb, .int .u8 (ca : Int), .int .u32 (cb : Int), .int .u8 (ck : Int), .string ⟨cs.toArray⟩, .string ⟨ct.toArray⟩, .string ⟨cu.toArray⟩, .int .u8 (cz : Int), .int .u8 (mc : Int), .string ⟨mt.toArray⟩] Tryz.underlying33 Av rfl (Ag trivial rfl rfl (fun ρ w E H => Bh (cs := [.int .u8 (f : Int), .int .u8 (t : Int), .int .u8 (mk : Int), .int .u64 (mn : Int), .int .u8 (mr : Int), .int .u64 (mb : Int), .int .u64 (ms : Int), .int .u8 (mo : Int), .string ⟨mv.toArray⟩, .slice A2 vl.length ka, .slice B il.length kb, .int .u8 (ca : Int), .int .u32 (cb : Int), .int .u8 (ck : Int), .string ⟨cs.toArray⟩, .string ⟨ct.toArray⟩, .string ⟨cu.toArray⟩, .int .u8 (cz : Int), .int .u8 (mc : Int), .string ⟨mt.toArray⟩]) E rfl rfl (by kernel_rfl)) ?_)
          refine AP (σ := Option Addr × Nat) (fun s => .tuple #[.agg #[.slice s.1 (L ++ [(⟨f, t, ⟨mk, mn, mr, mb, ms, mo, mv, vl, il, ⟨ca, cb, ck, cs, ct, cu, cz⟩, mc, mt⟩, A2, ka, B, kb⟩ : Rl)]).length s.2, .slice CA gs.length ckp], .int .i64 0]) (fun s => ∀ b ∈ (D9 w.heap.size s.1 s.2 CA ckp (L ++ [(⟨f, t, ⟨mk, mn, mr, mb, ms, mo, mv, vl, il, ⟨ca, cb, ck, cs, ct, cu, cz⟩, mc, mt⟩, A2, ka, B, kb⟩ : Rl)]) gs pp).fp, w.heap.size ≤ b) (fun s => _) trivial rfl rfl (zk CP rfl) (RS (i := 2) rfl hD ⟨f, t, ⟨mk, mn, mr, mb, ms, mo, mv, vl, il, ⟨ca, cb, ck, cs, ct, cu, cz⟩, mc, mt⟩, A2, ka, B, kb⟩ hap hck hq.m hlx (fun W H => by exact hq.r.below (H.toBelow ⟨(zq hg2), (CH hgn.1 hgn.2 hV42), hD, (zq hg1), trivial⟩)) hin hfu) fun s hD52 => ?_
          obtain ⟨LA52, lk52⟩ := s
          dsimp only at hD52
          refine zm rfl (zx rfl (zX (.int .i64 0) rfl (zS 3 Af rfl (za rfl (Ad (AA ?_))))))
          refine Bn (V42, LA52, lk52, CA, ckp, (bag ++ [paR ⟨f, t, ⟨mk, mn, mr, mb, ms, mo, mv, vl, il, ⟨ca, cb, ck, cs, ct, cu, cz⟩, mc, mt⟩, A2, ka, B, kb⟩]), M, (L ++ [(⟨f, t, ⟨mk, mn, mr, mb, ms, mo, mv, vl, il, ⟨ca, cb, ck, cs, ct, cu, cz⟩, mc, mt⟩, A2, ka, B, kb⟩ : Rl)]), gs, pp, 0) ⟨hN2, (fun y hy => (List.mem_append.1 hy).elim (hMs y) (fun h => by rw [List.mem_singleton.1 h]; exact hq.r)), hV42, hD52, show gs.length ≤ i + 1 by omega⟩ ⟨rfl, rfl, rfl, rfl, rfl, rfl, rfl, rfl, rfl, trivial⟩ [0, 1, 2, 3] rfl (by decide) ⟨.inl rfl, .inl rfl, .inl rfl, .inl rfl, trivial⟩
        ·refine Ap rfl (Ae (Ac (zm rfl ?_)))
         have hN2 := hN.heal
         refine AP (σ := Value) (fun _ => .int .i64 0) (fun s => OwnIn w [] s) (fun s => _) trivial rfl rfl (zk Gs rfl) (EE (i := 1) (bag' := bag) (M' := ([] : Df)) rfl hV (fun W H => Qe _ _ _ _ _ _ W (H.get (i := 1) rfl))) fun V167 hV167 => ?_
         refine za rfl (Ad (Aa (Ac (zf 1 BV rfl (zQ 3 [.slice LA L.length lk, .slice none 0 0] Nk rfl rfl (Ad (AA (KP (fun W H => Hp.docHeal (i := 2) H rfl hD) ?_))))))))
         have hDh : ∀ b ∈ (D9 w.heap.size LA lk none 0 L [] []).fp, w.heap.size ≤ b := fun b hb => hD b (Qs b hb)
         refine Bn (V167, LA, lk, none, 0, bag, ([] : Df), L, ([] : List Nat), ([] : List (Nat × Nat)), 0) ⟨hN2, hMs, hV167, hDh, show ([] : List Nat).length ≤ i + 1 by simp⟩ ⟨rfl, rfl, rfl, rfl, rfl, rfl, rfl, rfl, rfl, trivial⟩ [0, 1, 2, 3] rfl (by decide) ⟨.inl rfl, .inl rfl, .inl rfl, .inl rfl, trivial⟩
       ·refine Ap rfl (Ae ?_)
        rcases hap : BJ f t with _ | _
        ·have hN2 := hN
         refine Ac (zm rfl (zf 1 Ar rfl (zl 0 Tryz.underlying5 rfl (zf 2 Aq rfl (zl 0 Tryz.underlying5 rfl ?_)))))
         refine AP (σ := Value) (fun _ => .int .i64 2) (fun s => OwnIn w [] s) (fun s => _) trivial rfl rfl (zk Fv rfl) (EE (i := 1) (bag' := bag) (M' := M) rfl hV (fun W H => (Pj _ _ _ _ _ _ f t W (H.get (i := 1) rfl)).mono fun _ _ h => by rw [hap] at h; exact h)) fun V154 hV154 => ?_
         refine za rfl (Ad (Aa (Ac (zw 3 Tryz.underlying78 Af rfl (zf 1 Ar rfl (zl 0 Tryz.underlying5 rfl (zf 2 Aq rfl (zl 0 Tryz.underlying5 rfl (Ao (v := .tuple #[.agg #[.slice LA L.length lk, .slice CA gs.length ckp], .int .i64 2]) trivial rfl rfl (zk EQ rfl) (fun w H => Vv L gs pp LA CA lk ckp f t w hap) ?_)))))))))
         refine zm rfl (zx rfl (zX (.int .i64 2) rfl (zS 3 Af rfl (za rfl (Ad (AA ?_))))))
         refine Bn (V154, LA, lk, CA, ckp, bag, M, L, gs, pp, 2) ⟨hN2, hMs, hV154, hD, show gs.length ≤ i + 1 by omega⟩ ⟨rfl, rfl, rfl, rfl, rfl, rfl, rfl, rfl, rfl, trivial⟩ [0, 1, 2, 3] rfl (by decide) ⟨.inl rfl, .inl rfl, .inl rfl, .inl rfl, trivial⟩
        ·have hN2 := hN.cuts f t
         refine Ac (zm rfl (zf 1 Ar rfl (zl 0 Tryz.underlying5 rfl (zf 2 Aq rfl (zl 0 Tryz.underlying5 rfl ?_)))))
         refine AP (σ := Value) (fun _ => .int .i64 0) (fun s => OwnIn w [] s) (fun s => _) trivial rfl rfl (zk Fv rfl) (EE (i := 1) (bag' := bag) (M' := (GX M (Ii f t) (.bool true))) rfl hV (fun W H => (Pj _ _ _ _ _ _ f t W (H.get (i := 1) rfl)).mono fun _ _ h => by rw [hap] at h; exact h)) fun V154 hV154 => ?_
         refine za rfl (Ad (Aa (Ac (zw 3 Tryz.underlying78 Af rfl (zf 1 Ar rfl (zl 0 Tryz.underlying5 rfl (zf 2 Aq rfl (zl 0 Tryz.underlying5 rfl ?_))))))))
         refine AP (σ := (Option Addr × Nat) × Nat) (fun s => .tuple #[.agg #[.slice LA L.length lk, .slice s.1.1 (gs ++ [s.2]).length s.1.2], .int .i64 0]) (fun s => ∀ b ∈ (D9 w.heap.size LA lk s.1.1 s.1.2 L (gs ++ [s.2]) (pp ++ [(f, t)])).fp, w.heap.size ≤ b) (fun s => _) trivial rfl rfl (zk EQ rfl) (RV (i := 2) rfl hD hap hg5) fun s hD161 => ?_
         obtain ⟨⟨CA161, ck161⟩, gn161⟩ := s
         dsimp only at hD161
         refine zm rfl (zx rfl (zX (.int .i64 0) rfl (zS 3 Af rfl (za rfl (Ad (AA ?_))))))
         refine Bn (V154, LA, lk, CA161, ck161, bag, (GX M (Ii f t) (.bool true)), L, (gs ++ [gn161]), (pp ++ [(f, t)]), 0) ⟨hN2, hMs, hV154, hD161, show (gs ++ [gn161]).length ≤ i + 1 by rw [List.length_append, List.length_singleton]; omega⟩ ⟨rfl, rfl, rfl, rfl, rfl, rfl, rfl, rfl, rfl, trivial⟩ [0, 1, 2, 3] rfl (by decide) ⟨.inl rfl, .inl rfl, .inl rfl, .inl rfl, trivial⟩
      ·refine Ap rfl (Ae ?_)
       rcases hN.double f t k with ⟨hap, htk⟩ | ⟨hap, hfo, htk⟩ | ⟨j, hap, hfo, hfu, htk⟩ | ⟨j, x, hap, hfo, hfu, hx2, htk⟩
       ·have hN2 := hN
        refine Ac (zm rfl (zf 1 Ar rfl (zl 0 Tryz.underlying5 rfl (zf 2 Aq rfl (zl 0 Tryz.underlying5 rfl (zf 3 AD rfl (zl 0 Tryz.underlying3 rfl ?_)))))))
        refine AP (σ := Value) (fun _ => .int .i64 2) (fun s => OwnIn w [] s) (fun s => _) trivial rfl rfl (zk DY rfl) (EE (i := 1) (bag' := bag) (M' := M) rfl hV (fun W H => (Ji _ _ _ _ _ _ f t k W (H.get (i := 1) rfl) hb512 H.os.size).mono fun _ _ h => by rw [htk] at h; exact h)) fun V134 hV134 => ?_
        refine za rfl (Ad (Aa (Ac (zw 3 Tryz.underlying78 Af rfl (zf 1 Ar rfl (zl 0 Tryz.underlying5 rfl (zf 2 Aq rfl (zl 0 Tryz.underlying5 rfl (zf 3 AD rfl ?_)))))))))
        refine zl 0 Tryz.underlying3 rfl (Ao (v := .tuple #[.agg #[.slice LA L.length lk, .slice CA gs.length ckp], .agg #[.int .u8 0, .int .u8 0, .int .u8 0, .int .u64 0, .int .u8 0, .int .u64 0, .int .u64 0, .int .u8 0, .string ⟨[].toArray⟩, .slice none 0 0, .slice none 0 0, .int .u8 0, .int .u32 0, .int .u8 0, .string ⟨[].toArray⟩, .string ⟨[].toArray⟩, .string ⟨[].toArray⟩, .int .u8 0, .int .u8 0, .string ⟨[].toArray⟩], .int .i64 2]) trivial rfl rfl (zk Bt rfl) (fun w H => U9 L gs pp LA CA lk ckp f t k w hap) (zm rfl (zx rfl (zx rfl (zX (.int .i64 2) rfl (zS 3 Af rfl (za rfl (Ad (AA ?_)))))))))
        refine Bn (V134, LA, lk, CA, ckp, bag, M, L, gs, pp, 2) ⟨hN2, hMs, hV134, hD, show gs.length ≤ i + 1 by omega⟩ ⟨rfl, rfl, rfl, rfl, rfl, rfl, rfl, rfl, rfl, trivial⟩ [0, 1, 2, 3] rfl (by decide) ⟨.inl rfl, .inl rfl, .inl rfl, .inl rfl, trivial⟩
       ·have hN2 := hN
        refine Ac (zm rfl (zf 1 Ar rfl (zl 0 Tryz.underlying5 rfl (zf 2 Aq rfl (zl 0 Tryz.underlying5 rfl (zf 3 AD rfl (zl 0 Tryz.underlying3 rfl ?_)))))))
        refine AP (σ := Value) (fun _ => .int .i64 11) (fun s => OwnIn w [] s) (fun s => _) trivial rfl rfl (zk DY rfl) (EE (i := 1) (bag' := bag) (M' := M) rfl hV (fun W H => (Ji _ _ _ _ _ _ f t k W (H.get (i := 1) rfl) hb512 H.os.size).mono fun _ _ h => by rw [htk] at h; exact h)) fun V134 hV134 => ?_
        refine za rfl (Ad (Aa (Ac (zw 3 Tryz.underlying78 Af rfl (zf 1 Ar rfl (zl 0 Tryz.underlying5 rfl (zf 2 Aq rfl (zl 0 Tryz.underlying5 rfl (zf 3 AD rfl ?_)))))))))
        refine zl 0 Tryz.underlying3 rfl (Ao (v := .tuple #[.agg #[.slice LA L.length lk, .slice CA gs.length ckp], .agg #[.int .u8 0, .int .u8 0, .int .u8 0, .int .u64 0, .int .u8 0, .int .u64 0, .int .u64 0, .int .u8 0, .string ⟨[].toArray⟩, .slice none 0 0, .slice none 0 0, .int .u8 0, .int .u32 0, .int .u8 0, .string ⟨[].toArray⟩, .string ⟨[].toArray⟩, .string ⟨[].toArray⟩, .int .u8 0, .int .u8 0, .string ⟨[].toArray⟩], .int .i64 11]) trivial rfl rfl (zk Bt rfl) (fun w H => (fun hr => RI L gs pp LA CA lk ckp f t k w hap hr.1 hr.2.1 hle hfo) (I5 (H.get (i := 2) rfl))) (zm rfl (zx rfl (zx rfl (zX (.int .i64 11) rfl (zS 3 Af rfl (za rfl (Ad (AA ?_)))))))))
        refine Bn (V134, LA, lk, CA, ckp, bag, M, L, gs, pp, 11) ⟨hN2, hMs, hV134, hD, show gs.length ≤ i + 1 by omega⟩ ⟨rfl, rfl, rfl, rfl, rfl, rfl, rfl, rfl, rfl, trivial⟩ [0, 1, 2, 3] rfl (by decide) ⟨.inl rfl, .inl rfl, .inl rfl, .inl rfl, trivial⟩
       ·have hN2 := hN
        refine Ac (zm rfl (zf 1 Ar rfl (zl 0 Tryz.underlying5 rfl (zf 2 Aq rfl (zl 0 Tryz.underlying5 rfl (zf 3 AD rfl (zl 0 Tryz.underlying3 rfl ?_)))))))
        refine AP (σ := Value) (fun _ => .int .i64 7) (fun s => OwnIn w [] s) (fun s => _) trivial rfl rfl (zk DY rfl) (EE (i := 1) (bag' := bag) (M' := M) rfl hV (fun W H => (Ji _ _ _ _ _ _ f t k W (H.get (i := 1) rfl) hb512 H.os.size).mono fun _ _ h => by rw [htk] at h; exact h)) fun V134 hV134 => ?_
        refine za rfl (Ad (Aa (Ac (zw 3 Tryz.underlying78 Af rfl (zf 1 Ar rfl (zl 0 Tryz.underlying5 rfl (zf 2 Aq rfl (zl 0 Tryz.underlying5 rfl (zf 3 AD rfl ?_)))))))))
        refine zl 0 Tryz.underlying3 rfl (Ao (v := .tuple #[.agg #[.slice LA L.length lk, .slice CA gs.length ckp], .agg #[.int .u8 0, .int .u8 0, .int .u8 0, .int .u64 0, .int .u8 0, .int .u64 0, .int .u64 0, .int .u8 0, .string ⟨[].toArray⟩, .slice none 0 0, .slice none 0 0, .int .u8 0, .int .u32 0, .int .u8 0, .string ⟨[].toArray⟩, .string ⟨[].toArray⟩, .string ⟨[].toArray⟩, .int .u8 0, .int .u8 0, .string ⟨[].toArray⟩], .int .i64 7]) trivial rfl rfl (zk Bt rfl) (fun w H => (fun hr => RJ L gs pp LA CA lk ckp f t k j w hap hr.1 hr.2.1 hle hfo hfu) (I5 (H.get (i := 2) rfl))) (zm rfl (zx rfl (zx rfl (zX (.int .i64 7) rfl (zS 3 Af rfl (za rfl (Ad (AA ?_)))))))))
        refine Bn (V134, LA, lk, CA, ckp, bag, M, L, gs, pp, 7) ⟨hN2, hMs, hV134, hD, show gs.length ≤ i + 1 by omega⟩ ⟨rfl, rfl, rfl, rfl, rfl, rfl, rfl, rfl, rfl, trivial⟩ [0, 1, 2, 3] rfl (by decide) ⟨.inl rfl, .inl rfl, .inl rfl, .inl rfl, trivial⟩
       ·have hxm := List.mem_of_getElem? hx2
        have hN2 := hN.add hfu (hN.ok x hxm) (hN.ap x hxm)
        refine Ac (zm rfl (zf 1 Ar rfl (zl 0 Tryz.underlying5 rfl (zf 2 Aq rfl (zl 0 Tryz.underlying5 rfl (zf 3 AD rfl (zl 0 Tryz.underlying3 rfl ?_)))))))
        refine AP (σ := Value) (fun _ => .int .i64 0) (fun s => OwnIn w [] s) (fun s => _) trivial rfl rfl (zk DY rfl) (EE (i := 1) (bag' := (bag ++ [paR x])) (M' := M) rfl hV (fun W H => (Ji _ _ _ _ _ _ f t k W (H.get (i := 1) rfl) hb512 H.os.size).mono fun _ _ h => by rw [htk] at h; exact h)) fun V134 hV134 => ?_
        refine za rfl (Ad (Aa (Ac (zw 3 Tryz.underlying78 Af rfl (zf 1 Ar rfl (zl 0 Tryz.underlying5 rfl (zf 2 Aq rfl (zl 0 Tryz.underlying5 rfl (zf 3 AD rfl ?_)))))))))
        refine zl 0 Tryz.underlying3 rfl ?_
        refine AP (σ := Option Addr × Nat) (fun s => .tuple #[.agg #[.slice s.1 (L ++ [x]).length s.2, .slice CA gs.length ckp], .agg #[.int .u8 0, .int .u8 0, .int .u8 0, .int .u64 0, .int .u8 0, .int .u64 0, .int .u64 0, .int .u8 0, .string ⟨[].toArray⟩, .slice none 0 0, .slice none 0 0, .int .u8 0, .int .u32 0, .int .u8 0, .string ⟨[].toArray⟩, .string ⟨[].toArray⟩, .string ⟨[].toArray⟩, .int .u8 0, .int .u8 0, .string ⟨[].toArray⟩], .int .i64 0]) (fun s => ∀ b ∈ (D9 w.heap.size s.1 s.2 CA ckp (L ++ [x]) gs pp).fp, w.heap.size ≤ b) (fun s => _) trivial rfl rfl (zk Bt rfl) (Pq (i := 2) (x := x) rfl hD hap hfu hfo hx2 _ rfl) fun s hD143 => ?_
        obtain ⟨LA143, lk143⟩ := s
        dsimp only at hD143
        refine zm rfl (zx rfl (zx rfl (zX (.int .i64 0) rfl (zS 3 Af rfl (za rfl (Ad (AA ?_)))))))
        refine Bn (V134, LA143, lk143, CA, ckp, (bag ++ [paR x]), M, (L ++ [x]), gs, pp, 0) ⟨hN2, (fun y hy => (List.mem_append.1 hy).elim (hMs y) (fun h => by rw [List.mem_singleton.1 h]; exact hMs x hxm)), hV134, hD143, show gs.length ≤ i + 1 by omega⟩ ⟨rfl, rfl, rfl, rfl, rfl, rfl, rfl, rfl, rfl, trivial⟩ [0, 1, 2, 3] rfl (by decide) ⟨.inl rfl, .inl rfl, .inl rfl, .inl rfl, trivial⟩
     ·refine Ap rfl (Ae ?_)
      rcases hN.drop f t k with ⟨hap, htk⟩ | ⟨hap, hfo, htk⟩ | ⟨j, x, hap, hfo, hx2, htk⟩
      ·have hN2 := hN
       refine Ac (zm rfl (zf 1 Ar rfl (zl 0 Tryz.underlying5 rfl (zf 2 Aq rfl (zl 0 Tryz.underlying5 rfl (zf 3 AD rfl (zl 0 Tryz.underlying3 rfl ?_)))))))
       refine AP (σ := Value) (fun _ => .int .i64 2) (fun s => OwnIn w [] s) (fun s => _) trivial rfl rfl (zk Fe rfl) (EE (i := 1) (bag' := bag) (M' := M) rfl hV (fun W H => (NF _ _ _ _ _ _ f t k W (H.get (i := 1) rfl) hb512).mono fun _ _ h => by rw [htk] at h; exact h)) fun V112 hV112 => ?_
       refine za rfl (Ad (Aa (Ac (zw 3 Tryz.underlying78 Af rfl (zf 1 Ar rfl (zl 0 Tryz.underlying5 rfl (zf 2 Aq rfl (zl 0 Tryz.underlying5 rfl (zf 3 AD rfl ?_)))))))))
       refine zl 0 Tryz.underlying3 rfl (Ao (v := .tuple #[.agg #[.slice LA L.length lk, .slice CA gs.length ckp], .agg #[.int .u8 0, .int .u8 0, .int .u8 0, .int .u64 0, .int .u8 0, .int .u64 0, .int .u64 0, .int .u8 0, .string ⟨[].toArray⟩, .slice none 0 0, .slice none 0 0, .int .u8 0, .int .u32 0, .int .u8 0, .string ⟨[].toArray⟩, .string ⟨[].toArray⟩, .string ⟨[].toArray⟩, .int .u8 0, .int .u8 0, .string ⟨[].toArray⟩], .int .i64 2]) trivial rfl rfl (zk Bt rfl) (fun w H => UB L gs pp LA CA lk ckp f t k w hap) (zm rfl (zx rfl (zx rfl (zX (.int .i64 2) rfl (zS 3 Af rfl (za rfl (Ad (AA ?_)))))))))
       refine Bn (V112, LA, lk, CA, ckp, bag, M, L, gs, pp, 2) ⟨hN2, hMs, hV112, hD, show gs.length ≤ i + 1 by omega⟩ ⟨rfl, rfl, rfl, rfl, rfl, rfl, rfl, rfl, rfl, trivial⟩ [0, 1, 2, 3] rfl (by decide) ⟨.inl rfl, .inl rfl, .inl rfl, .inl rfl, trivial⟩
      ·have hN2 := hN
       refine Ac (zm rfl (zf 1 Ar rfl (zl 0 Tryz.underlying5 rfl (zf 2 Aq rfl (zl 0 Tryz.underlying5 rfl (zf 3 AD rfl (zl 0 Tryz.underlying3 rfl ?_)))))))
       refine AP (σ := Value) (fun _ => .int .i64 11) (fun s => OwnIn w [] s) (fun s => _) trivial rfl rfl (zk Fe rfl) (EE (i := 1) (bag' := bag) (M' := M) rfl hV (fun W H => (NF _ _ _ _ _ _ f t k W (H.get (i := 1) rfl) hb512).mono fun _ _ h => by rw [htk] at h; exact h)) fun V112 hV112 => ?_
       refine za rfl (Ad (Aa (Ac (zw 3 Tryz.underlying78 Af rfl (zf 1 Ar rfl (zl 0 Tryz.underlying5 rfl (zf 2 Aq rfl (zl 0 Tryz.underlying5 rfl (zf 3 AD rfl ?_)))))))))
       refine zl 0 Tryz.underlying3 rfl (Ao (v := .tuple #[.agg #[.slice LA L.length lk, .slice CA gs.length ckp], .agg #[.int .u8 0, .int .u8 0, .int .u8 0, .int .u64 0, .int .u8 0, .int .u64 0, .int .u64 0, .int .u8 0, .string ⟨[].toArray⟩, .slice none 0 0, .slice none 0 0, .int .u8 0, .int .u32 0, .int .u8 0, .string ⟨[].toArray⟩, .string ⟨[].toArray⟩, .string ⟨[].toArray⟩, .int .u8 0, .int .u8 0, .string ⟨[].toArray⟩], .int .i64 11]) trivial rfl rfl (zk Bt rfl) (fun w H => (fun hr => RL L gs pp LA CA lk ckp f t k w hap hr.1 hr.2.1 hle hfo) (I5 (H.get (i := 2) rfl))) (zm rfl (zx rfl (zx rfl (zX (.int .i64 11) rfl (zS 3 Af rfl (za rfl (Ad (AA ?_)))))))))
       refine Bn (V112, LA, lk, CA, ckp, bag, M, L, gs, pp, 11) ⟨hN2, hMs, hV112, hD, show gs.length ≤ i + 1 by omega⟩ ⟨rfl, rfl, rfl, rfl, rfl, rfl, rfl, rfl, rfl, trivial⟩ [0, 1, 2, 3] rfl (by decide) ⟨.inl rfl, .inl rfl, .inl rfl, .inl rfl, trivial⟩
      ·have hN2 := hN.erase j
       refine Ac (zm rfl (zf 1 Ar rfl (zl 0 Tryz.underlying5 rfl (zf 2 Aq rfl (zl 0 Tryz.underlying5 rfl (zf 3 AD rfl (zl 0 Tryz.underlying3 rfl ?_)))))))
       refine AP (σ := Value) (fun _ => .int .i64 0) (fun s => OwnIn w [] s) (fun s => _) trivial rfl rfl (zk Fe rfl) (EE (i := 1) (bag' := (bag.eraseIdx j)) (M' := M) rfl hV (fun W H => (NF _ _ _ _ _ _ f t k W (H.get (i := 1) rfl) hb512).mono fun _ _ h => by rw [htk] at h; exact h)) fun V112 hV112 => ?_
       refine za rfl (Ad (Aa (Ac (zw 3 Tryz.underlying78 Af rfl (zf 1 Ar rfl (zl 0 Tryz.underlying5 rfl (zf 2 Aq rfl (zl 0 Tryz.underlying5 rfl (zf 3 AD rfl ?_)))))))))
       refine zl 0 Tryz.underlying3 rfl ?_
       refine AP (σ := Option Addr × Nat) (fun s => .tuple #[.agg #[.slice s.1 (L.eraseIdx j).length s.2, .slice CA gs.length ckp], .agg #[.int .u8 0, .int .u8 0, .int .u8 0, .int .u64 0, .int .u8 0, .int .u64 0, .int .u64 0, .int .u8 0, .string ⟨[].toArray⟩, .slice none 0 0, .slice none 0 0, .int .u8 0, .int .u32 0, .int .u8 0, .string ⟨[].toArray⟩, .string ⟨[].toArray⟩, .string ⟨[].toArray⟩, .int .u8 0, .int .u8 0, .string ⟨[].toArray⟩], .int .i64 0]) (fun s => ∀ b ∈ (D9 w.heap.size s.1 s.2 CA ckp (L.eraseIdx j) gs pp).fp, w.heap.size ≤ b) (fun s => _) trivial rfl rfl (zk Bt rfl) (RU (i := 2) (x := x) rfl hD hap hle hfo hx2 _ rfl) fun s hD121 => ?_
       obtain ⟨LA121, lk121⟩ := s
       dsimp only at hD121
       refine zm rfl (zx rfl (zx rfl (zX (.int .i64 0) rfl (zS 3 Af rfl (za rfl (Ad (AA ?_)))))))
       refine Bn (V112, LA121, lk121, CA, ckp, (bag.eraseIdx j), M, (L.eraseIdx j), gs, pp, 0) ⟨hN2, (fun x hx => hMs x (List.mem_of_mem_eraseIdx hx)), hV112, hD121, show gs.length ≤ i + 1 by omega⟩ ⟨rfl, rfl, rfl, rfl, rfl, rfl, rfl, rfl, rfl, trivial⟩ [0, 1, 2, 3] rfl (by decide) ⟨.inl rfl, .inl rfl, .inl rfl, .inl rfl, trivial⟩
    ·refine Ap rfl (Ae ?_)
     rcases hN.take f t k with ⟨hap, htk⟩ | ⟨hap, hcu, htk⟩ | ⟨hap, hcu, hfo, htk⟩ | ⟨j, x, hap, hcu, hfo, hx2, hs, hd, htk⟩
     ·have hN2 := hN
      refine Ac (zm rfl (zf 1 Ar rfl (zl 0 Tryz.underlying5 rfl (zf 2 Aq rfl (zl 0 Tryz.underlying5 rfl (zf 3 AD rfl (zl 0 Tryz.underlying3 rfl ?_)))))))
      refine AP (σ := Value × Value × Value) (fun q => .tuple #[.agg (.int .u8 (((bag, ((0, 0, ms0 0) : Nat × Nat × Ms), 2)).2.1.1 : Int) :: .int .u8 (((bag, ((0, 0, ms0 0) : Nat × Nat × Ms), 2)).2.1.2.1 : Int) :: msL ((bag, ((0, 0, ms0 0) : Nat × Nat × Ms), 2)).2.1.2.2 q.2.1 q.2.2).toArray, .int .i64 (((bag, ((0, 0, ms0 0) : Nat × Nat × Ms), 2)).2.2 : Int)]) (fun q => OwnIn w [] q.1 ∧ OwnIn w [] q.2.1 ∧ OwnIn w [] q.2.2) (fun q => _) trivial rfl rfl (zk CL rfl) (FN (i := 1) (r := (bag, ((0, 0, ms0 0) : Nat × Nat × Ms), 2)) rfl hV hb512 hN.mt hby htk) fun q hq65 => ?_
      obtain ⟨V65, U65, I65⟩ := q
      dsimp only at hq65
      refine CZ (fun W H => Bf (H.get (i := 0) rfl)) ?_
      rintro ⟨UA65, uk65, rfl⟩
      refine CZ (fun W H => Bf (H.get (i := 1) rfl)) ?_
      rintro ⟨IA65, ik65, rfl⟩
      refine zm rfl (zx rfl (zX (.int .i64 2) rfl ?_))
      refine zA AI rfl fun g3 hg3 => ?_
      refine zQ 0 [.int .u8 0, .int .u8 0, .int .u8 0, .int .u64 0, .int .u8 0, .int .u64 0, .int .u64 0, .int .u8 0, .string ⟨[].toArray⟩, .slice UA65 0 uk65, .slice IA65 0 ik65, .int .u8 0, .int .u32 0, .int .u8 0, .string ⟨[].toArray⟩, .string ⟨[].toArray⟩, .string ⟨[].toArray⟩, .int .u8 0, .int .u8 0, .string ⟨[].toArray⟩] Aj rfl (DF _ _ rfl) (za rfl (Ad (Aa (Ae (Ac (zw 6 Tryz.underlying78 Af rfl (zf 1 Ar rfl (zl 3 Tryz.underlying5 rfl (zf 2 Aq rfl ?_)))))))))
      refine zl 3 Tryz.underlying5 rfl (zf 3 AD rfl (zl 3 Tryz.underlying3 rfl (Ao (v := .tuple #[.agg #[.slice LA L.length lk, .slice CA gs.length ckp], .agg #[.int .u8 0, .int .u8 0, .int .u8 0, .int .u64 0, .int .u8 0, .int .u64 0, .int .u64 0, .int .u8 0, .string ⟨[].toArray⟩, .slice none 0 0, .slice none 0 0, .int .u8 0, .int .u32 0, .int .u8 0, .string ⟨[].toArray⟩, .string ⟨[].toArray⟩, .string ⟨[].toArray⟩, .int .u8 0, .int .u8 0, .string ⟨[].toArray⟩], .int .i64 2]) trivial rfl rfl (zk Bt rfl) (fun w H => UE L gs pp LA CA lk ckp f t k w hap) (zm rfl (zx rfl (zx rfl (zX (.int .i64 2) rfl ?_)))))))
      refine zA AC rfl fun g4 hg4 => ?_
      refine zA AI rfl fun g5 hg5 => ?_
      refine zS 1 Af rfl (zQ 0 [.int .u8 0, .int .u8 0, .int .u8 0, .int .u64 0, .int .u8 0, .int .u64 0, .int .u64 0, .int .u8 0, .string ⟨[].toArray⟩, .slice none 0 0, .slice none 0 0, .int .u8 0, .int .u32 0, .int .u8 0, .string ⟨[].toArray⟩, .string ⟨[].toArray⟩, .string ⟨[].toArray⟩, .int .u8 0, .int .u8 0, .string ⟨[].toArray⟩] Aj rfl (DF _ _ rfl) (za rfl (Ad (Aa (Ae (Ac (zw 1 Tryz.underlying78 Af rfl (zS 8 Af rfl (Ad ?_)))))))))
      refine Aa (Ae (Ac (zm rfl (zm rfl (za rfl (za rfl (Ad (Aa (Ae ?_)))))))))
      refine Ac (zf 0 Bv rfl (zl 2 Tryz.underlying5 rfl (zf 0 Bv rfl (zl 0 Tryz.underlying5 rfl (zc false rfl (by decide) (zm rfl (zf 1 Bm rfl (zl 2 Tryz.underlying5 rfl (zf 1 Bm rfl ?_)))))))))
      refine zl 0 Tryz.underlying5 rfl (zc false rfl (by decide) (zp rfl (zm rfl (zf 2 Bl rfl (zv 2 [.int .u8 0, .int .u64 0, .int .u8 0, .int .u64 0, .int .u64 0, .int .u8 0, .string ⟨[].toArray⟩, .slice UA65 0 uk65, .slice IA65 0 ik65, .int .u8 0, .int .u32 0, .int .u8 0, .string ⟨[].toArray⟩, .string ⟨[].toArray⟩, .string ⟨[].toArray⟩, .int .u8 0, .int .u8 0, .string ⟨[].toArray⟩] Tryz.underlying33 Av rfl (zf 2 Bl rfl (zv 0 [.int .u8 0, .int .u64 0, .int .u8 0, .int .u64 0, .int .u64 0, .int .u8 0, .string ⟨[].toArray⟩, .slice none 0 0, .slice none 0 0, .int .u8 0, .int .u32 0, .int .u8 0, .string ⟨[].toArray⟩, .string ⟨[].toArray⟩, .string ⟨[].toArray⟩, .int .u8 0, .int .u8 0, .string ⟨[].toArray⟩] Tryz.underlying33 Av rfl (Ao (v := .bool true) (gK rfl) rfl rfl (zk Db rfl) (fun w H => (I8 (ms0 0) (ms0 0) UA65 IA65 none none uk65 ik65 0 0 w ⟨Su (H.get (i := 3) rfl), SQ (H.get (i := 4) rfl)⟩ (FS w _ rfl rfl) (by show 0 ≤ 1000000; decide) (by show 0 ≤ 1000000; decide)).mono fun _ _ h => ⟨by rw [h.1]; simp, h.2⟩) (zn false rfl ?_)))))))))
      refine zp rfl (Ad (Aa (Ah rfl (Ax (AA ?_)))))
      refine Bn (V65, LA, lk, CA, ckp, bag, M, L, gs, pp, 2) ⟨hN2, hMs, hq65.1, hD, show gs.length ≤ i + 1 by omega⟩ ⟨rfl, rfl, rfl, rfl, rfl, rfl, rfl, rfl, rfl, trivial⟩ [5, 6, 7, 8] rfl (by decide) ⟨.inr (zq hg5), .inr (zq hg4), .inr (zq hg3), .inr (hq65.2.1.fresh), .inr (hq65.2.2.fresh), .inl rfl, .inl rfl, .inl rfl, .inl rfl, trivial⟩
     ·have hN2 := hN
      refine Ac (zm rfl (zf 1 Ar rfl (zl 0 Tryz.underlying5 rfl (zf 2 Aq rfl (zl 0 Tryz.underlying5 rfl (zf 3 AD rfl (zl 0 Tryz.underlying3 rfl ?_)))))))
      refine AP (σ := Value × Value × Value) (fun q => .tuple #[.agg (.int .u8 (((bag, ((0, 0, ms0 0) : Nat × Nat × Ms), 13)).2.1.1 : Int) :: .int .u8 (((bag, ((0, 0, ms0 0) : Nat × Nat × Ms), 13)).2.1.2.1 : Int) :: msL ((bag, ((0, 0, ms0 0) : Nat × Nat × Ms), 13)).2.1.2.2 q.2.1 q.2.2).toArray, .int .i64 (((bag, ((0, 0, ms0 0) : Nat × Nat × Ms), 13)).2.2 : Int)]) (fun q => OwnIn w [] q.1 ∧ OwnIn w [] q.2.1 ∧ OwnIn w [] q.2.2) (fun q => _) trivial rfl rfl (zk CL rfl) (FN (i := 1) (r := (bag, ((0, 0, ms0 0) : Nat × Nat × Ms), 13)) rfl hV hb512 hN.mt hby htk) fun q hq65 => ?_
      obtain ⟨V65, U65, I65⟩ := q
      dsimp only at hq65
      refine CZ (fun W H => Bf (H.get (i := 0) rfl)) ?_
      rintro ⟨UA65, uk65, rfl⟩
      refine CZ (fun W H => Bf (H.get (i := 1) rfl)) ?_
      rintro ⟨IA65, ik65, rfl⟩
      refine zm rfl (zx rfl (zX (.int .i64 13) rfl ?_))
      refine zA AI rfl fun g6 hg6 => ?_
      refine zQ 0 [.int .u8 0, .int .u8 0, .int .u8 0, .int .u64 0, .int .u8 0, .int .u64 0, .int .u64 0, .int .u8 0, .string ⟨[].toArray⟩, .slice UA65 0 uk65, .slice IA65 0 ik65, .int .u8 0, .int .u32 0, .int .u8 0, .string ⟨[].toArray⟩, .string ⟨[].toArray⟩, .string ⟨[].toArray⟩, .int .u8 0, .int .u8 0, .string ⟨[].toArray⟩] Aj rfl (DF _ _ rfl) (za rfl (Ad (Aa (Ae (Ac (zw 6 Tryz.underlying78 Af rfl (zf 1 Ar rfl (zl 3 Tryz.underlying5 rfl (zf 2 Aq rfl ?_)))))))))
      refine zl 3 Tryz.underlying5 rfl (zf 3 AD rfl (zl 3 Tryz.underlying3 rfl (Ao (v := .tuple #[.agg #[.slice LA L.length lk, .slice CA gs.length ckp], .agg #[.int .u8 0, .int .u8 0, .int .u8 0, .int .u64 0, .int .u8 0, .int .u64 0, .int .u64 0, .int .u8 0, .string ⟨[].toArray⟩, .slice none 0 0, .slice none 0 0, .int .u8 0, .int .u32 0, .int .u8 0, .string ⟨[].toArray⟩, .string ⟨[].toArray⟩, .string ⟨[].toArray⟩, .int .u8 0, .int .u8 0, .string ⟨[].toArray⟩], .int .i64 13]) trivial rfl rfl (zk Bt rfl) (fun w H => (fun hr => UD L gs pp LA CA lk ckp f t k w hap hcu hr.2.2.1 hr.2.2.2 hg5) (I5 (H.get (i := 5) rfl))) (zm rfl (zx rfl (zx rfl (zX (.int .i64 13) rfl ?_)))))))
      refine zA AC rfl fun g7 hg7 => ?_
      refine zA AI rfl fun g8 hg8 => ?_
      refine zS 1 Af rfl (zQ 0 [.int .u8 0, .int .u8 0, .int .u8 0, .int .u64 0, .int .u8 0, .int .u64 0, .int .u64 0, .int .u8 0, .string ⟨[].toArray⟩, .slice none 0 0, .slice none 0 0, .int .u8 0, .int .u32 0, .int .u8 0, .string ⟨[].toArray⟩, .string ⟨[].toArray⟩, .string ⟨[].toArray⟩, .int .u8 0, .int .u8 0, .string ⟨[].toArray⟩] Aj rfl (DF _ _ rfl) (za rfl (Ad (Aa (Ae (Ac (zw 1 Tryz.underlying78 Af rfl (zS 8 Af rfl (Ad ?_)))))))))
      refine Aa (Ae (Ac (zm rfl (zm rfl (za rfl (za rfl (Ad (Aa (Ae ?_)))))))))
      refine Ac (zf 0 Bv rfl (zl 2 Tryz.underlying5 rfl (zf 0 Bv rfl (zl 0 Tryz.underlying5 rfl (zc false rfl (by decide) (zm rfl (zf 1 Bm rfl (zl 2 Tryz.underlying5 rfl (zf 1 Bm rfl ?_)))))))))
      refine zl 0 Tryz.underlying5 rfl (zc false rfl (by decide) (zp rfl (zm rfl (zf 2 Bl rfl (zv 2 [.int .u8 0, .int .u64 0, .int .u8 0, .int .u64 0, .int .u64 0, .int .u8 0, .string ⟨[].toArray⟩, .slice UA65 0 uk65, .slice IA65 0 ik65, .int .u8 0, .int .u32 0, .int .u8 0, .string ⟨[].toArray⟩, .string ⟨[].toArray⟩, .string ⟨[].toArray⟩, .int .u8 0, .int .u8 0, .string ⟨[].toArray⟩] Tryz.underlying33 Av rfl (zf 2 Bl rfl (zv 0 [.int .u8 0, .int .u64 0, .int .u8 0, .int .u64 0, .int .u64 0, .int .u8 0, .string ⟨[].toArray⟩, .slice none 0 0, .slice none 0 0, .int .u8 0, .int .u32 0, .int .u8 0, .string ⟨[].toArray⟩, .string ⟨[].toArray⟩, .string ⟨[].toArray⟩, .int .u8 0, .int .u8 0, .string ⟨[].toArray⟩] Tryz.underlying33 Av rfl (Ao (v := .bool true) (gK rfl) rfl rfl (zk Db rfl) (fun w H => (I8 (ms0 0) (ms0 0) UA65 IA65 none none uk65 ik65 0 0 w ⟨Su (H.get (i := 3) rfl), SQ (H.get (i := 4) rfl)⟩ (FS w _ rfl rfl) (by show 0 ≤ 1000000; decide) (by show 0 ≤ 1000000; decide)).mono fun _ _ h => ⟨by rw [h.1]; simp, h.2⟩) (zn false rfl ?_)))))))))
      refine zp rfl (Ad (Aa (Ah rfl (Ax (AA ?_)))))
      refine Bn (V65, LA, lk, CA, ckp, bag, M, L, gs, pp, 13) ⟨hN2, hMs, hq65.1, hD, show gs.length ≤ i + 1 by omega⟩ ⟨rfl, rfl, rfl, rfl, rfl, rfl, rfl, rfl, rfl, trivial⟩ [5, 6, 7, 8] rfl (by decide) ⟨.inr (zq hg8), .inr (zq hg7), .inr (zq hg6), .inr (hq65.2.1.fresh), .inr (hq65.2.2.fresh), .inl rfl, .inl rfl, .inl rfl, .inl rfl, trivial⟩
     ·have hN2 := hN
      refine Ac (zm rfl (zf 1 Ar rfl (zl 0 Tryz.underlying5 rfl (zf 2 Aq rfl (zl 0 Tryz.underlying5 rfl (zf 3 AD rfl (zl 0 Tryz.underlying3 rfl ?_)))))))
      refine AP (σ := Value × Value × Value) (fun q => .tuple #[.agg (.int .u8 (((bag, ((0, 0, ms0 0) : Nat × Nat × Ms), 11)).2.1.1 : Int) :: .int .u8 (((bag, ((0, 0, ms0 0) : Nat × Nat × Ms), 11)).2.1.2.1 : Int) :: msL ((bag, ((0, 0, ms0 0) : Nat × Nat × Ms), 11)).2.1.2.2 q.2.1 q.2.2).toArray, .int .i64 (((bag, ((0, 0, ms0 0) : Nat × Nat × Ms), 11)).2.2 : Int)]) (fun q => OwnIn w [] q.1 ∧ OwnIn w [] q.2.1 ∧ OwnIn w [] q.2.2) (fun q => _) trivial rfl rfl (zk CL rfl) (FN (i := 1) (r := (bag, ((0, 0, ms0 0) : Nat × Nat × Ms), 11)) rfl hV hb512 hN.mt hby htk) fun q hq65 => ?_
      obtain ⟨V65, U65, I65⟩ := q
      dsimp only at hq65
      refine CZ (fun W H => Bf (H.get (i := 0) rfl)) ?_
      rintro ⟨UA65, uk65, rfl⟩
      refine CZ (fun W H => Bf (H.get (i := 1) rfl)) ?_
      rintro ⟨IA65, ik65, rfl⟩
      refine zm rfl (zx rfl (zX (.int .i64 11) rfl ?_))
      refine zA AI rfl fun g9 hg9 => ?_
      refine zQ 0 [.int .u8 0, .int .u8 0, .int .u8 0, .int .u64 0, .int .u8 0, .int .u64 0, .int .u64 0, .int .u8 0, .string ⟨[].toArray⟩, .slice UA65 0 uk65, .slice IA65 0 ik65, .int .u8 0, .int .u32 0, .int .u8 0, .string ⟨[].toArray⟩, .string ⟨[].toArray⟩, .string ⟨[].toArray⟩, .int .u8 0, .int .u8 0, .string ⟨[].toArray⟩] Aj rfl (DF _ _ rfl) (za rfl (Ad (Aa (Ae (Ac (zw 6 Tryz.underlying78 Af rfl (zf 1 Ar rfl (zl 3 Tryz.underlying5 rfl (zf 2 Aq rfl ?_)))))))))
      refine zl 3 Tryz.underlying5 rfl (zf 3 AD rfl (zl 3 Tryz.underlying3 rfl (Ao (v := .tuple #[.agg #[.slice LA L.length lk, .slice CA gs.length ckp], .agg #[.int .u8 0, .int .u8 0, .int .u8 0, .int .u64 0, .int .u8 0, .int .u64 0, .int .u64 0, .int .u8 0, .string ⟨[].toArray⟩, .slice none 0 0, .slice none 0 0, .int .u8 0, .int .u32 0, .int .u8 0, .string ⟨[].toArray⟩, .string ⟨[].toArray⟩, .string ⟨[].toArray⟩, .int .u8 0, .int .u8 0, .string ⟨[].toArray⟩], .int .i64 11]) trivial rfl rfl (zk Bt rfl) (fun w H => (fun hr => RN L gs pp LA CA lk ckp f t k w hap hcu hr.2.2.1 hr.2.2.2 hg5 hr.1 hr.2.1 hle hfo) (I5 (H.get (i := 5) rfl))) (zm rfl (zx rfl (zx rfl (zX (.int .i64 11) rfl ?_)))))))
      refine zA AC rfl fun g10 hg10 => ?_
      refine zA AI rfl fun g11 hg11 => ?_
      refine zS 1 Af rfl (zQ 0 [.int .u8 0, .int .u8 0, .int .u8 0, .int .u64 0, .int .u8 0, .int .u64 0, .int .u64 0, .int .u8 0, .string ⟨[].toArray⟩, .slice none 0 0, .slice none 0 0, .int .u8 0, .int .u32 0, .int .u8 0, .string ⟨[].toArray⟩, .string ⟨[].toArray⟩, .string ⟨[].toArray⟩, .int .u8 0, .int .u8 0, .string ⟨[].toArray⟩] Aj rfl (DF _ _ rfl) (za rfl (Ad (Aa (Ae (Ac (zw 1 Tryz.underlying78 Af rfl (zS 8 Af rfl (Ad ?_)))))))))
      refine Aa (Ae (Ac (zm rfl (zm rfl (za rfl (za rfl (Ad (Aa (Ae ?_)))))))))
      refine Ac (zf 0 Bv rfl (zl 2 Tryz.underlying5 rfl (zf 0 Bv rfl (zl 0 Tryz.underlying5 rfl (zc false rfl (by decide) (zm rfl (zf 1 Bm rfl (zl 2 Tryz.underlying5 rfl (zf 1 Bm rfl ?_)))))))))
      refine zl 0 Tryz.underlying5 rfl (zc false rfl (by decide) (zp rfl (zm rfl (zf 2 Bl rfl (zv 2 [.int .u8 0, .int .u64 0, .int .u8 0, .int .u64 0, .int .u64 0, .int .u8 0, .string ⟨[].toArray⟩, .slice UA65 0 uk65, .slice IA65 0 ik65, .int .u8 0, .int .u32 0, .int .u8 0, .string ⟨[].toArray⟩, .string ⟨[].toArray⟩, .string ⟨[].toArray⟩, .int .u8 0, .int .u8 0, .string ⟨[].toArray⟩] Tryz.underlying33 Av rfl (zf 2 Bl rfl (zv 0 [.int .u8 0, .int .u64 0, .int .u8 0, .int .u64 0, .int .u64 0, .int .u8 0, .string ⟨[].toArray⟩, .slice none 0 0, .slice none 0 0, .int .u8 0, .int .u32 0, .int .u8 0, .string ⟨[].toArray⟩, .string ⟨[].toArray⟩, .string ⟨[].toArray⟩, .int .u8 0, .int .u8 0, .string ⟨[].toArray⟩] Tryz.underlying33 Av rfl (Ao (v := .bool true) (gK rfl) rfl rfl (zk Db rfl) (fun w H => (I8 (ms0 0) (ms0 0) UA65 IA65 none none uk65 ik65 0 0 w ⟨Su (H.get (i := 3) rfl), SQ (H.get (i := 4) rfl)⟩ (FS w _ rfl rfl) (by show 0 ≤ 1000000; decide) (by show 0 ≤ 1000000; decide)).mono fun _ _ h => ⟨by rw [h.1]; simp, h.2⟩) (zn false rfl ?_)))))))))
      refine zp rfl (Ad (Aa (Ah rfl (Ax (AA ?_)))))
      refine Bn (V65, LA, lk, CA, ckp, bag, M, L, gs, pp, 11) ⟨hN2, hMs, hq65.1, hD, show gs.length ≤ i + 1 by omega⟩ ⟨rfl, rfl, rfl, rfl, rfl, rfl, rfl, rfl, rfl, trivial⟩ [5, 6, 7, 8] rfl (by decide) ⟨.inr (zq hg11), .inr (zq hg10), .inr (zq hg9), .inr (hq65.2.1.fresh), .inr (hq65.2.2.fresh), .inl rfl, .inl rfl, .inl rfl, .inl rfl, trivial⟩
     ·obtain ⟨xs, xd, ⟨ymk, ymn, ymr, ymb, yms, ymo, ymv, yvl, yil, ⟨yca, ycb, yck, ycs, yct, ycu, ycz⟩, ymc, ymt⟩, xA, xka, xB, xkb⟩ := x
      dsimp only at hs hd htk
      subst xs
      subst xd
      have hxm := List.mem_of_getElem? hx2
      have hN2 := hN.erase j
      have hyl := (hN.ok _ hxm).2.2.2
      have hy1 := hyl.h2
      have hy2 := hyl.h3
      dsimp only at hy1 hy2
      refine Ac (zm rfl (zf 1 Ar rfl (zl 0 Tryz.underlying5 rfl (zf 2 Aq rfl (zl 0 Tryz.underlying5 rfl (zf 3 AD rfl (zl 0 Tryz.underlying3 rfl ?_)))))))
      refine AP (σ := Value × Value × Value) (fun q => .tuple #[.agg (.int .u8 (((bag.eraseIdx j, ((f, t, ⟨ymk, ymn, ymr, ymb, yms, ymo, ymv, yvl, yil, ⟨yca, ycb, yck, ycs, yct, ycu, ycz⟩, ymc, ymt⟩) : Nat × Nat × Ms), 0)).2.1.1 : Int) :: .int .u8 (((bag.eraseIdx j, ((f, t, ⟨ymk, ymn, ymr, ymb, yms, ymo, ymv, yvl, yil, ⟨yca, ycb, yck, ycs, yct, ycu, ycz⟩, ymc, ymt⟩) : Nat × Nat × Ms), 0)).2.1.2.1 : Int) :: msL ((bag.eraseIdx j, ((f, t, ⟨ymk, ymn, ymr, ymb, yms, ymo, ymv, yvl, yil, ⟨yca, ycb, yck, ycs, yct, ycu, ycz⟩, ymc, ymt⟩) : Nat × Nat × Ms), 0)).2.1.2.2 q.2.1 q.2.2).toArray, .int .i64 (((bag.eraseIdx j, ((f, t, ⟨ymk, ymn, ymr, ymb, yms, ymo, ymv, yvl, yil, ⟨yca, ycb, yck, ycs, yct, ycu, ycz⟩, ymc, ymt⟩) : Nat × Nat × Ms), 0)).2.2 : Int)]) (fun q => OwnIn w [] q.1 ∧ OwnIn w [] q.2.1 ∧ OwnIn w [] q.2.2) (fun q => _) trivial rfl rfl (zk CL rfl) (FN (i := 1) (r := (bag.eraseIdx j, ((f, t, ⟨ymk, ymn, ymr, ymb, yms, ymo, ymv, yvl, yil, ⟨yca, ycb, yck, ycs, yct, ycu, ycz⟩, ymc, ymt⟩) : Nat × Nat × Ms), 0)) rfl hV hb512 hN.mt hby htk) fun q hq65 => ?_
      obtain ⟨V65, U65, I65⟩ := q
      dsimp only at hq65
      refine CZ (p := ∃ A c, U65 = .slice A yvl.length c) (fun W H => Bf (H.get (i := 0) rfl)) ?_
      rintro ⟨UA65, uk65, rfl⟩
      refine CZ (p := ∃ A c, I65 = .slice A yil.length c) (fun W H => Bf (H.get (i := 1) rfl)) ?_
      rintro ⟨IA65, ik65, rfl⟩
      refine zm rfl (zx rfl (zX (.int .i64 0) rfl ?_))
      refine zA AI rfl fun g12 hg12 => ?_
      refine zS 0 Aj rfl (za rfl (Ad (Aa (Ae (Ac (zw 6 Tryz.underlying78 Af rfl (zf 1 Ar rfl (zl 3 Tryz.underlying5 rfl (zf 2 Aq rfl ?_)))))))))
      refine zl 3 Tryz.underlying5 rfl (zf 3 AD rfl (zl 3 Tryz.underlying3 rfl ?_))
      refine AP (σ := Option Addr × Nat) (fun s => .tuple #[.agg #[.slice s.1 (L.eraseIdx j).length s.2, .slice CA gs.length ckp], .agg #[.int .u8 (f : Int), .int .u8 (t : Int), .int .u8 (ymk : Int), .int .u64 (ymn : Int), .int .u8 (ymr : Int), .int .u64 (ymb : Int), .int .u64 (yms : Int), .int .u8 (ymo : Int), .string ⟨ymv.toArray⟩, .slice xA yvl.length xka, .slice xB yil.length xkb, .int .u8 (yca : Int), .int .u32 (ycb : Int), .int .u8 (yck : Int), .string ⟨ycs.toArray⟩, .string ⟨yct.toArray⟩, .string ⟨ycu.toArray⟩, .int .u8 (ycz : Int), .int .u8 (ymc : Int), .string ⟨ymt.toArray⟩], .int .i64 0]) (fun s => ∀ b ∈ (D9 w.heap.size s.1 s.2 CA ckp (L.eraseIdx j) gs pp).fp, w.heap.size ≤ b) (fun s => _) trivial rfl rfl (zk Bt rfl) (RR (i := 5) (x := (⟨f, t, ⟨ymk, ymn, ymr, ymb, yms, ymo, ymv, yvl, yil, ⟨yca, ycb, yck, ycs, yct, ycu, ycz⟩, ymc, ymt⟩, xA, xka, xB, xkb⟩ : Rl)) rfl hD hap hcu hg5 hle hfo hx2) fun s hD76 => ?_
      obtain ⟨LA76, lk76⟩ := s
      dsimp only at hD76
      refine zm rfl (zx rfl (zx rfl (zX (.int .i64 0) rfl ?_)))
      refine zA AC rfl fun g13 hg13 => ?_
      refine zA AI rfl fun g14 hg14 => ?_
      refine zS 1 Af rfl (zS 0 Aj rfl (za rfl (Ad (Aa (Ae (Ac (zw 1 Tryz.underlying78 Af rfl (zS 8 Af rfl (Ad ?_)))))))))
      refine Aa (Ae (Ac (zm rfl (zm rfl (za rfl (za rfl (Ad (Aa (Ae ?_)))))))))
      refine Ac (zf 0 Bv rfl (zl 2 Tryz.underlying5 rfl (zf 0 Bv rfl (zl 0 Tryz.underlying5 rfl (zc false rfl (by simp [AB]) (zm rfl (zf 1 Bm rfl (zl 2 Tryz.underlying5 rfl (zf 1 Bm rfl ?_)))))))))
      refine zl 0 Tryz.underlying5 rfl (zc false rfl (by simp [AB]) (zp rfl (zm rfl (zf 2 Bl rfl (zv 2 [.int .u8 (ymk : Int), .int .u64 (ymn : Int), .int .u8 (ymr : Int), .int .u64 (ymb : Int), .int .u64 (yms : Int), .int .u8 (ymo : Int), .string ⟨ymv.toArray⟩, .slice UA65 yvl.length uk65, .slice IA65 yil.length ik65, .int .u8 (yca : Int), .int .u32 (ycb : Int), .int .u8 (yck : Int), .string ⟨ycs.toArray⟩, .string ⟨yct.toArray⟩, .string ⟨ycu.toArray⟩, .int .u8 (ycz : Int), .int .u8 (ymc : Int), .string ⟨ymt.toArray⟩] Tryz.underlying33 Av rfl (zf 2 Bl rfl (zv 0 [.int .u8 (ymk : Int), .int .u64 (ymn : Int), .int .u8 (ymr : Int), .int .u64 (ymb : Int), .int .u64 (yms : Int), .int .u8 (ymo : Int), .string ⟨ymv.toArray⟩, .slice xA yvl.length xka, .slice xB yil.length xkb, .int .u8 (yca : Int), .int .u32 (ycb : Int), .int .u8 (yck : Int), .string ⟨ycs.toArray⟩, .string ⟨yct.toArray⟩, .string ⟨ycu.toArray⟩, .int .u8 (ycz : Int), .int .u8 (ymc : Int), .string ⟨ymt.toArray⟩] Tryz.underlying33 Av rfl (Ao (v := .bool true) (gK rfl) rfl rfl (zk Db rfl) (fun w H => (I8 ⟨ymk, ymn, ymr, ymb, yms, ymo, ymv, yvl, yil, ⟨yca, ycb, yck, ycs, yct, ycu, ycz⟩, ymc, ymt⟩ ⟨ymk, ymn, ymr, ymb, yms, ymo, ymv, yvl, yil, ⟨yca, ycb, yck, ycs, yct, ycu, ycz⟩, ymc, ymt⟩ UA65 IA65 xA xB uk65 ik65 xka xkb w ⟨EY JJ (by decide) (H.get (i := 3) rfl), EY JX (by decide) (H.get (i := 4) rfl)⟩ ((hMs _ hxm).below (H.toBelow ⟨(zq hg14), (zq hg13), (zq hg12), hq65.2.1.fresh, hq65.2.2.fresh, (zq hg2), (CH hgn.1 hgn.2 hq65.1), hD76, (zq hg1), trivial⟩)) (Nat.le_trans hy1 (by decide)) (Nat.le_trans hy2 (by decide))).mono fun _ _ h => ⟨by rw [h.1]; simp, h.2⟩) (zn false rfl ?_)))))))))
      refine zp rfl (Ad (Aa (Ah rfl (Ax (AA ?_)))))
      refine Bn (V65, LA76, lk76, CA, ckp, (bag.eraseIdx j), M, (L.eraseIdx j), gs, pp, 0) ⟨hN2, (fun x hx => hMs x (List.mem_of_mem_eraseIdx hx)), hq65.1, hD76, show gs.length ≤ i + 1 by omega⟩ ⟨rfl, rfl, rfl, rfl, rfl, rfl, rfl, rfl, rfl, trivial⟩ [5, 6, 7, 8] rfl (by decide) ⟨.inr (zq hg14), .inr (zq hg13), .inr (zq hg12), .inr (hq65.2.1.fresh), .inr (hq65.2.2.fresh), .inl rfl, .inl rfl, .inl rfl, .inl rfl, trivial⟩
   obtain ⟨hN2, hM2, hV2, hD2, hg2i⟩ := hF2
   refine Aa (Ae ?_)
   obtain ⟨cb1, hcb1⟩ : ∃ x, GI pp2 aa bb = x := ⟨_, rfl⟩
   have hle2 := hN2.le
   have hln2 := hN2.len
   have hg52 : gs2.length ≤ 100000 := by omega
   refine BN [] [0, 1, 2, 3] (by kernel_rfl) rfl ⟨(zh hg2), (zj (CH hgn.1 hgn.2 hV2)), (zj hD2), (zh hg1), trivial⟩ (ym 0 rfl (by kernel_rfl) zI (ym 1 rfl (by kernel_rfl) zI (yt (i := 2) (v := .bool false) (by kernel_rfl) zI rfl rfl rfl rfl (fun ρ w E H => E9 E rfl rfl rfl rfl (by simp [AB])) (ym 3 rfl (by kernel_rfl) zI (ym 4 rfl (by kernel_rfl) zI (yf 6 0 Ba rfl (by kernel_rfl) zI (yl 7 3 Tryz.underlying75 rfl (by kernel_rfl) zI (yt (i := 8) (v := .int .i64 (L2.length : Int)) (by kernel_rfl) zI rfl rfl rfl rfl (fun ρ w E H => Hr E rfl Tryz.underlying75 rfl) (yr 5 (by kernel_rfl) ?_)))))))))
   refine BO (v := .int .i64 (L2.length : Int)) rfl (gK rfl) rfl rfl (zk Fq rfl) (fun w H => (OZ _ _ _ _ _ _ w (H.get (i := 1) rfl)).mono fun _ _ h => ⟨by rw [h.1, hln2], h.2⟩) (fun w H => H.ks [] [0, 1, 2, 3] rfl ⟨(zh hg2), (zj (CH hgn.1 hgn.2 hV2)), (zj hD2), (zh hg1), trivial⟩) (yt (i := 9) (v := .bool false) (by kernel_rfl) zI rfl rfl rfl rfl (fun ρ w E H => E9 E rfl rfl rfl rfl (by simp [AB])) (yp 10 rfl (by kernel_rfl) zI (ym 11 rfl (by kernel_rfl) zI (ym 12 rfl (by kernel_rfl) zI (yf 13 1 Ar rfl (by kernel_rfl) zI (yl 14 0 Tryz.underlying5 rfl (by kernel_rfl) zI (yf 15 2 Aq rfl (by kernel_rfl) zI (yl 16 0 Tryz.underlying5 rfl (by kernel_rfl) zI (yw 18 3 Tryz.underlying78 Af rfl (by kernel_rfl) zI ?_)))))))))
   refine yf 19 1 Ar rfl (by kernel_rfl) zI (yl 20 0 Tryz.underlying5 rfl (by kernel_rfl) zI (yf 21 2 Aq rfl (by kernel_rfl) zI (yl 22 0 Tryz.underlying5 rfl (by kernel_rfl) zI (yr 17 (by kernel_rfl) (BO (v := .int .i64 ((Fa (CO L2) f t (CO L2).length).length : Int)) rfl (gK rfl) rfl rfl (zk Gi rfl) (fun w H => (RQ _ _ _ _ _ _ f t w (H.get (i := 1) rfl) (by rw [hln2]; exact hle2)).mono fun _ _ h => ⟨by rw [h.1, hN2.bag], h.2⟩) (fun w H => H.ks [] [0, 1, 2, 3] rfl ⟨(zh hg2), (zj (CH hgn.1 hgn.2 hV2)), (zj hD2), (zh hg1), trivial⟩) (yr 23 (by kernel_rfl) (BO (v := .int .i64 ((Fa (CO L2) f t (CO L2).length).length : Int)) rfl (gK rfl) rfl rfl (zk EJ rfl) (fun w H => (fun hr => Nq L2 gs2 pp2 LA2 CA2 lk2 ck2 f t w hr.1 hr.2.1 hle2) (I5 (H.get (i := 2) rfl))) (fun w H => H.ks [] [0, 1, 2, 3] rfl ⟨(zh hg2), (zj (CH hgn.1 hgn.2 hV2)), (zj hD2), (zh hg1), trivial⟩) (yt (i := 24) (v := .bool false) (by kernel_rfl) zI rfl rfl rfl rfl (fun ρ w E H => E9 E rfl rfl rfl rfl (by simp [AB])) (yp 25 rfl (by kernel_rfl) zI ?_)))))))))
   refine ym 26 rfl (by kernel_rfl) zI (ym 27 rfl (by kernel_rfl) zI (ym 28 rfl (by kernel_rfl) zI (ym 29 rfl (by kernel_rfl) zI (yw 31 3 Tryz.underlying78 Af rfl (by kernel_rfl) zI (ym 32 rfl (by kernel_rfl) zI (ym 33 rfl (by kernel_rfl) zI (yr 30 (by kernel_rfl) (BO (v := .bool cb1) rfl (gK rfl) rfl rfl (zk Ee rfl) (fun w H => (JW _ _ _ _ _ _ aa bb w (H.get (i := 1) rfl) hN2.mt).mono fun _ _ h => ⟨by rw [h.1, hN2.cut, hcb1], h.2⟩) (fun w H => H.ks [] [0, 1, 2, 3] rfl ⟨(zh hg2), (zj (CH hgn.1 hgn.2 hV2)), (zj hD2), (zh hg1), trivial⟩) (yr 34 (by kernel_rfl) ?_)))))))))
   refine BO (v := .bool cb1) rfl (gK rfl) rfl rfl (zk Ce rfl) (fun w H => (fun hr => (G9 L2 gs2 pp2 LA2 CA2 lk2 ck2 aa bb w hr.2.2.1 hr.2.2.2 hg52).mono fun _ _ h => ⟨by rw [h.1, hcb1], h.2⟩) (I5 (H.get (i := 2) rfl))) (fun w H => H.ks [] [0, 1, 2, 3] rfl ⟨(zh hg2), (zj (CH hgn.1 hgn.2 hV2)), (zj hD2), (zh hg1), trivial⟩) (yt (i := 35) (v := .bool false) (by kernel_rfl) zI rfl rfl rfl rfl (fun ρ w E H => Jg E rfl Tryz.underlying4 rfl rfl (by simp)) (yp 36 rfl (by kernel_rfl) zI (BE (by kernel_rfl) (Aa (Ah rfl (Ax (AA (Aa (Ac ?_)))))))))
   refine zm rfl (Ag (v := .int .i64 ((i + 1 : Nat) : Int)) trivial rfl rfl (fun ρ w E H => BQ E rfl rfl rfl (by rw [IntKind.wrap_i64]; omega)) (za rfl (Ad ?_)))
   refine B7 (gk - 1) (V2, LA2, lk2, CA2, ck2, (i + 1), bag2, Mt2, L2, gs2, pp2) (by omega) ⟨show i + 1 + (gk - 1) = l.length by omega, hN2, hM2, hV2, hD2, show gs2.length ≤ i + 1 by omega⟩ ⟨rfl, rfl, rfl, rfl, rfl, rfl, trivial⟩ [1, 2, 3] rfl (by decide) ⟨.inr (zq hg2), .inl rfl, .inl rfl, .inl rfl, trivial⟩
 ·refine Ap rfl (Ae (Ac (Ao (v := .bool true) trivial rfl rfl (zk Fh rfl) (fun w H => LC w) (za rfl (Ad (Aa (Am (Ak ?_))))))))
  refine Ai (.bool true) (fun a w K H => BC K rfl rfl) (fun w H => ?_)
  exact ⟨rfl, H.toBelow trivial⟩
end Go.Proofs.YteiaiilfekojfaaGreat.Net
end
