/- Texts that the proof of NetPlays leans on, put together (5 of 6). Conditions: each theorem states its own. -/
import Derived.Test.YteiaiilfekojfaaGreatPkNetPlays4
section
set_option linter.unusedVariables false
set_option linter.unusedSimpArgs false
namespace Go.Proofs.YteiaiilfekojfaaGreat.Msg
open Go.RowKit Sx Wire DrawInv
set_option maxRecDepth 100000 in
set_option maxHeartbeats 4000000 in
theorem Vp (mk mn mr mb ms mo ca cb ck cz mc : Nat) (mv cs ct cu mt : List UInt8) (vl : List Vo) (il : List Im) (A B : Option Addr) (ka kb : Nat) (w : World) (hf : Ms.Fits ⟨mk, mn, mr, mb, ms, mo, mv, vl, il, ⟨ca, cb, ck, cs, ct, cu, cz⟩, mc, mt⟩) (hs : Ms.Small ⟨mk, mn, mr, mb, ms, mo, mv, vl, il, ⟨ca, cb, ck, cs, ct, cu, cz⟩, mc, mt⟩) (hr : MsRows w ⟨mk, mn, mr, mb, ms, mo, mv, vl, il, ⟨ca, cb, ck, cs, ct, cu, cz⟩, mc, mt⟩ A B) : Calls Tryz.prog 16 #[.agg #[.int .u8 (mk : Int), .int .u64 (mn : Int), .int .u8 (mr : Int), .int .u64 (mb : Int), .int .u64 (ms : Int), .int .u8 (mo : Int), .string ⟨mv.toArray⟩, .slice A vl.length ka, .slice B il.length kb, .int .u8 (ca : Int), .int .u32 (cb : Int), .int .u8 (ck : Int), .string ⟨cs.toArray⟩, .string ⟨ct.toArray⟩, .string ⟨cu.toArray⟩, .int .u8 (cz : Int), .int .u8 (mc : Int), .string ⟨mt.toArray⟩]] w fun e w' => e = .returned (.bool (C9 ⟨mk, mn, mr, mb, ms, mo, mv, vl, il, ⟨ca, cb, ck, cs, ct, cu, cz⟩, mc, mt⟩)) ∧ Below w.heap.size w w' := by
 obtain ⟨h99, hh99⟩ : ∃ b, BK (AO mk) 99 = b := ⟨_, rfl⟩
 obtain ⟨h110, hh110⟩ : ∃ b, BK (AO mk) 110 = b := ⟨_, rfl⟩
 obtain ⟨h114, hh114⟩ : ∃ b, BK (AO mk) 114 = b := ⟨_, rfl⟩
 obtain ⟨h111, hh111⟩ : ∃ b, BK (AO mk) 111 = b := ⟨_, rfl⟩
 obtain ⟨h98, hh98⟩ : ∃ b, BK (AO mk) 98 = b := ⟨_, rfl⟩
 obtain ⟨h97, hh97⟩ : ∃ b, BK (AO mk) 97 = b := ⟨_, rfl⟩
 obtain ⟨h117, hh117⟩ : ∃ b, BK (AO mk) 117 = b := ⟨_, rfl⟩
 obtain ⟨h115, hh115⟩ : ∃ b, BK (AO mk) 115 = b := ⟨_, rfl⟩
 obtain ⟨h118, hh118⟩ : ∃ b, BK (AO mk) 118 = b := ⟨_, rfl⟩
 obtain ⟨h116, hh116⟩ : ∃ b, BK (AO mk) 116 = b := ⟨_, rfl⟩
 obtain ⟨h105, hh105⟩ : ∃ b, BK (AO mk) 105 = b := ⟨_, rfl⟩
 have hn1 := hs.h2
 have hn2 := hs.h3
 dsimp only at hn1 hn2
 refine A0 (n := 279) _ Tryz.func16 rfl rfl rfl (Hp.start w) (Ae (Ac ?_))
 refine zB rfl fun g1 hg1 => ?_
 refine za rfl (Ad (Aa (Ae (Ae (Ac (zf 0 Aw rfl (zl 0 Tryz.underlying5 rfl (Ao (v := .string ⟨((AO mk)).toArray⟩) trivial rfl rfl (zk Eh rfl) (fun w H => KB mk hf.h1 w) ?_))))))))
 refine DT trivial rfl rfl (fun ρ w E H => MR E rfl rfl rfl rfl) fun c11 hc11 => ?_
 refine Ad (Aa ?_)
 cases c11
 ·refine Ah rfl (Ax (Aa (Ae (Ac (zf 9 Bd rfl (zv 0 [.int .u8 (ca : Int), .int .u32 (cb : Int), .int .u8 (ck : Int), .string ⟨cs.toArray⟩, .string ⟨ct.toArray⟩, .string ⟨cu.toArray⟩, .int .u8 (cz : Int)] Tryz.underlying29 BG rfl ?_))))))
  refine zA H9 rfl fun g2 hg2 => ?_
  refine zS 0 BG rfl (Ad (Aa (Ae (Ae ?_))))
  refine JI (fun (b62 : Bool) => [(1, .pointer (some ⟨g1, 0, none⟩)), (3, .pointer (some ⟨g2, 0, none⟩)), (62, .bool b62)]) (fun _ => [cell g2 29 [.int .u8 (ca : Int), .int .u32 (cb : Int), .int .u8 (ck : Int), .string ⟨cs.toArray⟩, .string ⟨ct.toArray⟩, .string ⟨cu.toArray⟩, .int .u8 (cz : Int)], cell g1 33 [.int .u8 (mk : Int), .int .u64 (mn : Int), .int .u8 (mr : Int), .int .u64 (mb : Int), .int .u64 (ms : Int), .int .u8 (mo : Int), .string ⟨mv.toArray⟩, .slice A vl.length ka, .slice B il.length kb, .int .u8 (ca : Int), .int .u32 (cb : Int), .int .u8 (ck : Int), .string ⟨cs.toArray⟩, .string ⟨ct.toArray⟩, .string ⟨cu.toArray⟩, .int .u8 (cz : Int), .int .u8 (mc : Int), .string ⟨mt.toArray⟩]]) (fun b62 => b62 = Ha (BK (AO mk) 99) (BK (AO mk) 110) ⟨ca, cb, ck, cs, ct, cu, cz⟩) ?_ fun b62 hb62 => ?_
  ·refine Ac (zf 0 Aw rfl (zl 1 Tryz.underlying5 rfl (Ao (v := .bool h99) trivial rfl rfl (zk Au rfl) (fun w H => (Cb mk 99 hf.h1 w).mono fun _ _ h => ⟨by rw [h.1, hh99], h.2⟩) (zm rfl ?_))))
   cases h99
   ·refine zo rfl (zo rfl (zo rfl (zp rfl (zm rfl (zf 0 Aw rfl (zl 1 Tryz.underlying5 rfl (Ao (v := .bool h110) (gK rfl) rfl rfl (zk Au rfl) (fun w H => (Cb mk 110 hf.h1 w).mono fun _ _ h => ⟨by rw [h.1, hh110], h.2⟩) (zm rfl ?_))))))))
    cases h110
    ·refine zo rfl (zo rfl (zo rfl (zo rfl (zo rfl (zo rfl (zo rfl (zo rfl (zo rfl (zo rfl ?_)))))))))
     refine zo rfl (zo rfl (zo rfl (zo rfl (zo rfl (zo rfl (zo rfl (zp rfl (zp rfl (zm rfl ?_)))))))))
     refine zf 0 Aw rfl (zl 1 Tryz.underlying5 rfl (Ao (v := .bool false) (gK rfl) rfl rfl (zk Au rfl) (fun w H => (Cb mk 99 hf.h1 w).mono fun _ _ h => ⟨by rw [h.1, hh99], h.2⟩) (zn true rfl (zm rfl (zf 0 Aw rfl (zl 1 Tryz.underlying5 rfl (Ao (v := .bool false) (gK rfl) rfl rfl (zk Au rfl) (fun w H => (Cb mk 110 hf.h1 w).mono fun _ _ h => ⟨by rw [h.1, hh110], h.2⟩) (zn true rfl (zp rfl ?_)))))))))
     refine zm rfl (zw 0 Tryz.underlying29 BG rfl (Ag (gK rfl) rfl rfl (fun ρ w E H => Bh (cs := [.int .u8 0, .int .u32 0, .int .u8 0, .string ⟨[].toArray⟩, .string ⟨[].toArray⟩, .string ⟨[].toArray⟩, .int .u8 0]) E rfl rfl (by kernel_rfl)) ?_))
     refine DT (gK rfl) rfl rfl (fun ρ w E H => FV E rfl (by kernel_rfl) rfl rfl (fun w => by rw [Bool.not_not]; exact Qn ⟨ca, cb, ck, cs, ct, cu, cz⟩ Cmd.cm0 w)) fun c60 hc60 => ?_
     refine zp rfl (zp rfl (Ad ?_))
     have hq : c60 = Ha (BK (AO mk) 99) (BK (AO mk) 110) ⟨ca, cb, ck, cs, ct, cu, cz⟩ := by rw [hh99, hh110]; unfold Ha; grind [AB]
     refine Bn c60 hq ⟨rfl, rfl, rfl, trivial⟩ [0, 1] rfl (by decide) ⟨.inl rfl, .inl rfl, trivial⟩
    ·refine zf 0 CG rfl (zl 0 Tryz.underlying5 rfl ?_)
     refine zb rfl fun c29 hc29 => ?_
     refine zm rfl ?_
     cases c29
     ·refine zf 1 CE rfl (zl 0 Tryz.underlying27 rfl ?_)
      refine zb rfl fun c33 hc33 => ?_
      refine zp rfl (zm rfl ?_)
      cases c33
      ·refine zw 0 Tryz.underlying29 BG rfl (zf 0 CG rfl (zl 0 Tryz.underlying5 rfl (zf 1 CE rfl (zl 0 Tryz.underlying27 rfl (Ag (gK rfl) rfl rfl (fun ρ w E H => Bh (cs := [.int .u8 (ca : Int), .int .u32 (cb : Int), .int .u8 0, .string ⟨[].toArray⟩, .string ⟨[].toArray⟩, .string ⟨[].toArray⟩, .int .u8 0]) E rfl rfl (by kernel_rfl)) ?_)))))
       refine DT (gK rfl) rfl rfl (fun ρ w E H => FV E rfl (by kernel_rfl) rfl rfl (fun w => by rw [Bool.not_not]; exact Qn ⟨ca, cb, ck, cs, ct, cu, cz⟩ ⟨ca, cb, 0, [], [], [], 0⟩ w)) fun c42 hc42 => ?_
       refine zp rfl (zp rfl (zp rfl (zm rfl ?_)))
       cases c42
       ·refine zf 0 Aw rfl (zl 1 Tryz.underlying5 rfl (Ao (v := .bool false) (gK rfl) rfl rfl (zk Au rfl) (fun w H => (Cb mk 99 hf.h1 w).mono fun _ _ h => ⟨by rw [h.1, hh99], h.2⟩) (zn true rfl (zm rfl (zf 0 Aw rfl (zl 1 Tryz.underlying5 rfl (Ao (v := .bool true) (gK rfl) rfl rfl (zk Au rfl) (fun w H => (Cb mk 110 hf.h1 w).mono fun _ _ h => ⟨by rw [h.1, hh110], h.2⟩) (zn false rfl (zp rfl ?_)))))))))
        refine zm rfl (zo rfl (zo rfl (zo rfl (zp rfl (zp rfl (Ad ?_))))))
        have hq : false = Ha (BK (AO mk) 99) (BK (AO mk) 110) ⟨ca, cb, ck, cs, ct, cu, cz⟩ := by rw [hh99, hh110]; unfold Ha; grind [AB]
        refine Bn false hq ⟨rfl, rfl, rfl, trivial⟩ [0, 1] rfl (by decide) ⟨.inl rfl, .inl rfl, trivial⟩
       ·refine zo rfl (zo rfl (zo rfl (zo rfl (zo rfl (zo rfl (zo rfl (zo rfl (zo rfl (zo rfl ?_)))))))))
        refine zo rfl (zo rfl (zo rfl (zo rfl (zo rfl (zp rfl (Ad ?_))))))
        have hq : true = Ha (BK (AO mk) 99) (BK (AO mk) 110) ⟨ca, cb, ck, cs, ct, cu, cz⟩ := by rw [hh99, hh110]; unfold Ha; grind [AB]
        refine Bn true hq ⟨rfl, rfl, rfl, trivial⟩ [0, 1] rfl (by decide) ⟨.inl rfl, .inl rfl, trivial⟩
      ·refine zo rfl (zo rfl (zo rfl (zo rfl (zo rfl (zo rfl (zo rfl (zp rfl (zp rfl (zp rfl ?_)))))))))
       refine zm rfl (zo rfl (zo rfl (zo rfl (zo rfl (zo rfl (zo rfl (zo rfl (zo rfl (zo rfl ?_)))))))))
       refine zo rfl (zo rfl (zo rfl (zo rfl (zo rfl (zo rfl (zp rfl (Ad ?_)))))))
       have hq : true = Ha (BK (AO mk) 99) (BK (AO mk) 110) ⟨ca, cb, ck, cs, ct, cu, cz⟩ := by rw [hh99, hh110]; unfold Ha; grind [AB]
       refine Bn true hq ⟨rfl, rfl, rfl, trivial⟩ [0, 1] rfl (by decide) ⟨.inl rfl, .inl rfl, trivial⟩
     ·refine zo rfl (zo rfl (zo rfl (zp rfl (zm rfl (zo rfl (zo rfl (zo rfl (zo rfl (zo rfl ?_)))))))))
      refine zo rfl (zo rfl (zp rfl (zp rfl (zp rfl (zm rfl (zo rfl (zo rfl (zo rfl (zo rfl ?_)))))))))
      refine zo rfl (zo rfl (zo rfl (zo rfl (zo rfl (zo rfl (zo rfl (zo rfl (zo rfl (zo rfl ?_)))))))))
      refine zo rfl (zp rfl (Ad ?_))
      have hq : true = Ha (BK (AO mk) 99) (BK (AO mk) 110) ⟨ca, cb, ck, cs, ct, cu, cz⟩ := by rw [hh99, hh110]; unfold Ha; grind [AB]
      refine Bn true hq ⟨rfl, rfl, rfl, trivial⟩ [0, 1] rfl (by decide) ⟨.inl rfl, .inl rfl, trivial⟩
   ·refine zw 0 Tryz.underlying29 BG rfl ?_
    refine CN (b := (Cmd.mayB ⟨ca, cb, ck, cs, ct, cu, cz⟩)) (gK rfl) rfl rfl (zk Hw rfl) (fun w H => Cmd.refMay_any ⟨ca, cb, ck, cs, ct, cu, cz⟩ w) fun c19 hc19 => ?_
    cases c19
    ·refine zn true rfl (zp rfl (zm rfl (zo rfl (zo rfl (zo rfl (zo rfl (zo rfl (zo rfl (zo rfl ?_)))))))))
     refine zo rfl (zo rfl (zo rfl (zo rfl (zo rfl (zo rfl (zo rfl (zo rfl (zo rfl (zo rfl ?_)))))))))
     refine zo rfl (zo rfl (zo rfl (zo rfl (zo rfl (zp rfl (zm rfl (zo rfl (zo rfl (zo rfl ?_)))))))))
     refine zo rfl (zo rfl (zo rfl (zo rfl (zo rfl (zo rfl (zo rfl (zo rfl (zo rfl (zo rfl ?_)))))))))
     refine zo rfl (zo rfl (zp rfl (Ad ?_)))
     have hq : true = Ha (BK (AO mk) 99) (BK (AO mk) 110) ⟨ca, cb, ck, cs, ct, cu, cz⟩ := by rw [hh99, hh110]; unfold Ha; grind [AB]
     refine Bn true hq ⟨rfl, rfl, rfl, trivial⟩ [0, 1] rfl (by decide) ⟨.inl rfl, .inl rfl, trivial⟩
    ·refine zn false rfl (zp rfl (zm rfl (zf 0 Aw rfl (zl 1 Tryz.underlying5 rfl (Ao (v := .bool h110) (gK rfl) rfl rfl (zk Au rfl) (fun w H => (Cb mk 110 hf.h1 w).mono fun _ _ h => ⟨by rw [h.1, hh110], h.2⟩) (zm rfl ?_))))))
     cases h110
     ·refine zo rfl (zo rfl (zo rfl (zo rfl (zo rfl (zo rfl (zo rfl (zo rfl (zo rfl (zo rfl ?_)))))))))
      refine zo rfl (zo rfl (zo rfl (zo rfl (zo rfl (zo rfl (zo rfl (zp rfl (zp rfl (zm rfl ?_)))))))))
      refine zf 0 Aw rfl (zl 1 Tryz.underlying5 rfl (Ao (v := .bool true) (gK rfl) rfl rfl (zk Au rfl) (fun w H => (Cb mk 99 hf.h1 w).mono fun _ _ h => ⟨by rw [h.1, hh99], h.2⟩) (zn false rfl (zm rfl (zo rfl (zo rfl (zo rfl (zo rfl (zp rfl ?_)))))))))
      refine zm rfl (zo rfl (zo rfl (zo rfl (zp rfl (zp rfl (Ad ?_))))))
      have hq : false = Ha (BK (AO mk) 99) (BK (AO mk) 110) ⟨ca, cb, ck, cs, ct, cu, cz⟩ := by rw [hh99, hh110]; unfold Ha; grind [AB]
      refine Bn false hq ⟨rfl, rfl, rfl, trivial⟩ [0, 1] rfl (by decide) ⟨.inl rfl, .inl rfl, trivial⟩
     ·refine zf 0 CG rfl (zl 0 Tryz.underlying5 rfl ?_)
      refine zb rfl fun c29 hc29 => ?_
      refine zm rfl ?_
      cases c29
      ·refine zf 1 CE rfl (zl 0 Tryz.underlying27 rfl ?_)
       refine zb rfl fun c33 hc33 => ?_
       refine zp rfl (zm rfl ?_)
       cases c33
       ·refine zw 0 Tryz.underlying29 BG rfl (zf 0 CG rfl (zl 0 Tryz.underlying5 rfl (zf 1 CE rfl (zl 0 Tryz.underlying27 rfl (Ag (gK rfl) rfl rfl (fun ρ w E H => Bh (cs := [.int .u8 (ca : Int), .int .u32 (cb : Int), .int .u8 0, .string ⟨[].toArray⟩, .string ⟨[].toArray⟩, .string ⟨[].toArray⟩, .int .u8 0]) E rfl rfl (by kernel_rfl)) ?_)))))
        refine DT (gK rfl) rfl rfl (fun ρ w E H => FV E rfl (by kernel_rfl) rfl rfl (fun w => by rw [Bool.not_not]; exact Qn ⟨ca, cb, ck, cs, ct, cu, cz⟩ ⟨ca, cb, 0, [], [], [], 0⟩ w)) fun c42 hc42 => ?_
        refine zp rfl (zp rfl (zp rfl (zm rfl ?_)))
        cases c42
        ·refine zf 0 Aw rfl (zl 1 Tryz.underlying5 rfl (Ao (v := .bool true) (gK rfl) rfl rfl (zk Au rfl) (fun w H => (Cb mk 99 hf.h1 w).mono fun _ _ h => ⟨by rw [h.1, hh99], h.2⟩) (zn false rfl (zm rfl (zo rfl (zo rfl (zo rfl (zo rfl (zp rfl ?_)))))))))
         refine zm rfl (zo rfl (zo rfl (zo rfl (zp rfl (zp rfl (Ad ?_))))))
         have hq : false = Ha (BK (AO mk) 99) (BK (AO mk) 110) ⟨ca, cb, ck, cs, ct, cu, cz⟩ := by rw [hh99, hh110]; unfold Ha; grind [AB]
         refine Bn false hq ⟨rfl, rfl, rfl, trivial⟩ [0, 1] rfl (by decide) ⟨.inl rfl, .inl rfl, trivial⟩
        ·refine zo rfl (zo rfl (zo rfl (zo rfl (zo rfl (zo rfl (zo rfl (zo rfl (zo rfl (zo rfl ?_)))))))))
         refine zo rfl (zo rfl (zo rfl (zo rfl (zo rfl (zp rfl (Ad ?_))))))
         have hq : true = Ha (BK (AO mk) 99) (BK (AO mk) 110) ⟨ca, cb, ck, cs, ct, cu, cz⟩ := by rw [hh99, hh110]; unfold Ha; grind [AB]
         refine Bn true hq ⟨rfl, rfl, rfl, trivial⟩ [0, 1] rfl (by decide) ⟨.inl rfl, .inl rfl, trivial⟩
       ·refine zo rfl (zo rfl (zo rfl (zo rfl (zo rfl (zo rfl (zo rfl (zp rfl (zp rfl (zp rfl ?_)))))))))
        refine zm rfl (zo rfl (zo rfl (zo rfl (zo rfl (zo rfl (zo rfl (zo rfl (zo rfl (zo rfl ?_)))))))))
        refine zo rfl (zo rfl (zo rfl (zo rfl (zo rfl (zo rfl (zp rfl (Ad ?_)))))))
        have hq : true = Ha (BK (AO mk) 99) (BK (AO mk) 110) ⟨ca, cb, ck, cs, ct, cu, cz⟩ := by rw [hh99, hh110]; unfold Ha; grind [AB]
        refine Bn true hq ⟨rfl, rfl, rfl, trivial⟩ [0, 1] rfl (by decide) ⟨.inl rfl, .inl rfl, trivial⟩
      ·refine zo rfl (zo rfl (zo rfl (zp rfl (zm rfl (zo rfl (zo rfl (zo rfl (zo rfl (zo rfl ?_)))))))))
       refine zo rfl (zo rfl (zp rfl (zp rfl (zp rfl (zm rfl (zo rfl (zo rfl (zo rfl (zo rfl ?_)))))))))
       refine zo rfl (zo rfl (zo rfl (zo rfl (zo rfl (zo rfl (zo rfl (zo rfl (zo rfl (zo rfl ?_)))))))))
       refine zo rfl (zp rfl (Ad ?_))
       have hq : true = Ha (BK (AO mk) 99) (BK (AO mk) 110) ⟨ca, cb, ck, cs, ct, cu, cz⟩ := by rw [hh99, hh110]; unfold Ha; grind [AB]
       refine Bn true hq ⟨rfl, rfl, rfl, trivial⟩ [0, 1] rfl (by decide) ⟨.inl rfl, .inl rfl, trivial⟩
  refine Aa ?_
  cases b62
  ·refine Ah rfl (Ax (Aa (Ae (Ae ?_))))
   refine JI (fun (b90 : Bool) => [(1, .pointer (some ⟨g1, 0, none⟩)), (3, .pointer (some ⟨g2, 0, none⟩)), (90, .bool b90)]) (fun _ => [cell g2 29 [.int .u8 (ca : Int), .int .u32 (cb : Int), .int .u8 (ck : Int), .string ⟨cs.toArray⟩, .string ⟨ct.toArray⟩, .string ⟨cu.toArray⟩, .int .u8 (cz : Int)], cell g1 33 [.int .u8 (mk : Int), .int .u64 (mn : Int), .int .u8 (mr : Int), .int .u64 (mb : Int), .int .u64 (ms : Int), .int .u8 (mo : Int), .string ⟨mv.toArray⟩, .slice A vl.length ka, .slice B il.length kb, .int .u8 (ca : Int), .int .u32 (cb : Int), .int .u8 (ck : Int), .string ⟨cs.toArray⟩, .string ⟨ct.toArray⟩, .string ⟨cu.toArray⟩, .int .u8 (cz : Int), .int .u8 (mc : Int), .string ⟨mt.toArray⟩]]) (fun b90 => b90 = NL (BK (AO mk) 114) mc mt) ?_ fun b90 hb90 => ?_
   ·refine Ac (zf 0 Aw rfl (zl 1 Tryz.underlying5 rfl (Ao (v := .bool h114) trivial rfl rfl (zk Au rfl) (fun w H => (Cb mk 114 hf.h1 w).mono fun _ _ h => ⟨by rw [h.1, hh114], h.2⟩) (zm rfl ?_))))
    cases h114
    ·refine zo rfl (zo rfl (zo rfl (zo rfl (zo rfl (zo rfl (zo rfl (zo rfl (zo rfl (zo rfl ?_)))))))))
     refine zo rfl (zp rfl (zm rfl (zf 0 Aw rfl (zl 1 Tryz.underlying5 rfl (Ao (v := .bool false) (gK rfl) rfl rfl (zk Au rfl) (fun w H => (Cb mk 114 hf.h1 w).mono fun _ _ h => ⟨by rw [h.1, hh114], h.2⟩) (zn true rfl (zm rfl (zf 16 B9 rfl (zv 1 [.int .u8 (mc : Int), .string ⟨mt.toArray⟩] Tryz.underlying31 Do rfl ?_)))))))))
     refine Ag (gK rfl) rfl rfl (fun ρ w E H => Bh (cs := [.int .u8 0, .string ⟨[].toArray⟩]) E rfl rfl (by kernel_rfl)) ?_
     refine DT (gK rfl) rfl rfl (fun ρ w E H => FV E rfl (by kernel_rfl) rfl rfl (fun w => by rw [Bool.not_not]; exact Wh mc 0 mt [] w)) fun c88 hc88 => ?_
     refine zp rfl (zp rfl (Ad ?_))
     have hq : c88 = NL (BK (AO mk) 114) mc mt := by rw [hh114]; unfold NL; grind [AB]
     refine Bn c88 hq ⟨rfl, rfl, rfl, trivial⟩ [0, 1] rfl (by decide) ⟨.inl rfl, .inl rfl, trivial⟩
    ·refine zf 16 B9 rfl (zf 16 DL rfl (zl 1 Tryz.underlying5 rfl ?_))
     refine zb rfl fun c70 hc70 => ?_
     refine zm rfl ?_
     cases c70
     ·refine zf 16 B9 rfl (zf 17 Dv rfl (zl 1 Tryz.underlying9 rfl (Ag (v := .int .i64 (mt.length : Int)) (gK rfl) rfl rfl (fun ρ w E H => FT E rfl Tryz.underlying9 rfl) ?_)))
      refine zb rfl fun c76 hc76 => ?_
      refine zp rfl (zp rfl (zm rfl ?_))
      cases c76
      ·refine zf 0 Aw rfl (zl 1 Tryz.underlying5 rfl (Ao (v := .bool true) (gK rfl) rfl rfl (zk Au rfl) (fun w H => (Cb mk 114 hf.h1 w).mono fun _ _ h => ⟨by rw [h.1, hh114], h.2⟩) (zn false rfl (zm rfl (zo rfl (zo rfl (zo rfl (zo rfl (zp rfl ?_)))))))))
       refine zp rfl (Ad ?_)
       have hq : false = NL (BK (AO mk) 114) mc mt := by rw [hh114]; unfold NL; grind [AB]
       refine Bn false hq ⟨rfl, rfl, rfl, trivial⟩ [0, 1] rfl (by decide) ⟨.inl rfl, .inl rfl, trivial⟩
      ·refine zo rfl (zo rfl (zo rfl (zo rfl (zo rfl (zo rfl (zo rfl (zo rfl (zo rfl (zo rfl ?_)))))))))
       refine zp rfl (Ad ?_)
       have hq : true = NL (BK (AO mk) 114) mc mt := by rw [hh114]; unfold NL; grind [AB]
       refine Bn true hq ⟨rfl, rfl, rfl, trivial⟩ [0, 1] rfl (by decide) ⟨.inl rfl, .inl rfl, trivial⟩
     ·refine zo rfl (zo rfl (zo rfl (zo rfl (zo rfl (zp rfl (zp rfl (zm rfl (zo rfl (zo rfl ?_)))))))))
      refine zo rfl (zo rfl (zo rfl (zo rfl (zo rfl (zo rfl (zo rfl (zo rfl (zp rfl (Ad ?_)))))))))
      have hq : true = NL (BK (AO mk) 114) mc mt := by rw [hh114]; unfold NL; grind [AB]
      refine Bn true hq ⟨rfl, rfl, rfl, trivial⟩ [0, 1] rfl (by decide) ⟨.inl rfl, .inl rfl, trivial⟩
   refine Aa ?_
   cases b90
   ·refine Ah rfl (Ax (Aa (Ae (Ae ?_))))
    refine JI (fun (b127 : Bool) => [(1, .pointer (some ⟨g1, 0, none⟩)), (3, .pointer (some ⟨g2, 0, none⟩)), (127, .bool b127)]) (fun _ => [cell g2 29 [.int .u8 (ca : Int), .int .u32 (cb : Int), .int .u8 (ck : Int), .string ⟨cs.toArray⟩, .string ⟨ct.toArray⟩, .string ⟨cu.toArray⟩, .int .u8 (cz : Int)], cell g1 33 [.int .u8 (mk : Int), .int .u64 (mn : Int), .int .u8 (mr : Int), .int .u64 (mb : Int), .int .u64 (ms : Int), .int .u8 (mo : Int), .string ⟨mv.toArray⟩, .slice A vl.length ka, .slice B il.length kb, .int .u8 (ca : Int), .int .u32 (cb : Int), .int .u8 (ck : Int), .string ⟨cs.toArray⟩, .string ⟨ct.toArray⟩, .string ⟨cu.toArray⟩, .int .u8 (cz : Int), .int .u8 (mc : Int), .string ⟨mt.toArray⟩]]) (fun b127 => b127 = Jl (BK (AO mk) 111) (BK (AO mk) 98) mo mn mr) ?_ fun b127 hb127 => ?_
    ·refine Ac (zf 5 BW rfl (zl 1 Tryz.underlying5 rfl ?_))
     refine zb rfl fun c93 hc93 => ?_
     refine zm rfl ?_
     cases c93
     ·refine zf 0 Aw rfl (zl 1 Tryz.underlying5 rfl (Ao (v := .bool h111) (gK rfl) rfl rfl (zk Au rfl) (fun w H => (Cb mk 111 hf.h1 w).mono fun _ _ h => ⟨by rw [h.1, hh111], h.2⟩) ?_))
      cases h111
      ·refine zn true rfl (zm rfl (zf 5 BW rfl (zl 1 Tryz.underlying5 rfl ?_)))
       refine zb rfl fun c102 hc102 => ?_
       refine zp rfl (zp rfl (zm rfl ?_))
       cases c102
       ·refine zf 0 Aw rfl (zl 1 Tryz.underlying5 rfl (Ao (v := .bool h98) (gK rfl) rfl rfl (zk Au rfl) (fun w H => (Cb mk 98 hf.h1 w).mono fun _ _ h => ⟨by rw [h.1, hh98], h.2⟩) (zm rfl ?_)))
        cases h98
        ·refine zo rfl (zo rfl (zo rfl (zo rfl (zp rfl (zp rfl (zm rfl (zf 0 Aw rfl (zl 1 Tryz.underlying5 rfl (Ao (v := .bool false) (gK rfl) rfl rfl (zk Au rfl) (fun w H => (Cb mk 98 hf.h1 w).mono fun _ _ h => ⟨by rw [h.1, hh98], h.2⟩) ?_)))))))))
         refine zn true rfl (zm rfl (zf 1 BM rfl (zv 1 [.int .u64 (mn : Int), .int .u8 (mr : Int)] Tryz.underlying24 Bi rfl (Ag (gK rfl) rfl rfl (fun ρ w E H => Bh (cs := [.int .u64 0, .int .u8 0]) E rfl rfl (by kernel_rfl)) ?_))))
         refine DT (gK rfl) rfl rfl (fun ρ w E H => FV E rfl (by kernel_rfl) rfl rfl (fun w => by rw [Bool.not_not]; exact NE mn mr 0 0 w)) fun c125 hc125 => ?_
         refine zp rfl (zp rfl (Ad ?_))
         have hq : c125 = Jl (BK (AO mk) 111) (BK (AO mk) 98) mo mn mr := by rw [hh111, hh98]; unfold Jl; grind [AB]
         refine Bn c125 hq ⟨rfl, rfl, rfl, trivial⟩ [0, 1] rfl (by decide) ⟨.inl rfl, .inl rfl, trivial⟩
        ·refine zf 1 BM rfl (zv 1 [.int .u64 (mn : Int), .int .u8 (mr : Int)] Tryz.underlying24 Bi rfl ?_)
         refine CN (b := (FD mn mr)) (gK rfl) rfl rfl (zk Eo rfl) (fun w H => LI mn mr w) fun c112 hc112 => ?_
         cases c112
         ·refine zn true rfl (zp rfl (zp rfl (zm rfl (zo rfl (zo rfl (zo rfl (zo rfl (zo rfl (zo rfl ?_)))))))))
          refine zo rfl (zo rfl (zo rfl (zo rfl (zp rfl (Ad ?_)))))
          have hq : true = Jl (BK (AO mk) 111) (BK (AO mk) 98) mo mn mr := by rw [hh111, hh98]; unfold Jl; grind [AB]
          refine Bn true hq ⟨rfl, rfl, rfl, trivial⟩ [0, 1] rfl (by decide) ⟨.inl rfl, .inl rfl, trivial⟩
         ·refine zn false rfl (zp rfl (zp rfl (zm rfl (zf 0 Aw rfl (zl 1 Tryz.underlying5 rfl (Ao (v := .bool true) (gK rfl) rfl rfl (zk Au rfl) (fun w H => (Cb mk 98 hf.h1 w).mono fun _ _ h => ⟨by rw [h.1, hh98], h.2⟩) (zn false rfl (zm rfl (zo rfl ?_)))))))))
          refine zo rfl (zo rfl (zo rfl (zp rfl (zp rfl (Ad ?_)))))
          have hq : false = Jl (BK (AO mk) 111) (BK (AO mk) 98) mo mn mr := by rw [hh111, hh98]; unfold Jl; grind [AB]
          refine Bn false hq ⟨rfl, rfl, rfl, trivial⟩ [0, 1] rfl (by decide) ⟨.inl rfl, .inl rfl, trivial⟩
       ·refine zo rfl (zo rfl (zo rfl (zo rfl (zo rfl (zo rfl (zo rfl (zo rfl (zo rfl (zp rfl ?_)))))))))
        refine zm rfl (zo rfl (zo rfl (zo rfl (zo rfl (zo rfl (zo rfl (zo rfl (zo rfl (zo rfl ?_)))))))))
        refine zo rfl (zp rfl (Ad ?_))
        have hq : true = Jl (BK (AO mk) 111) (BK (AO mk) 98) mo mn mr := by rw [hh111, hh98]; unfold Jl; grind [AB]
        refine Bn true hq ⟨rfl, rfl, rfl, trivial⟩ [0, 1] rfl (by decide) ⟨.inl rfl, .inl rfl, trivial⟩
      ·refine zn false rfl (zm rfl (zo rfl (zo rfl (zo rfl (zp rfl (zp rfl (zm rfl (zf 0 Aw rfl (zl 1 Tryz.underlying5 rfl ?_)))))))))
       refine Ao (v := .bool h98) (gK rfl) rfl rfl (zk Au rfl) (fun w H => (Cb mk 98 hf.h1 w).mono fun _ _ h => ⟨by rw [h.1, hh98], h.2⟩) (zm rfl ?_)
       cases h98
       ·refine zo rfl (zo rfl (zo rfl (zo rfl (zp rfl (zp rfl (zm rfl (zf 0 Aw rfl (zl 1 Tryz.underlying5 rfl (Ao (v := .bool false) (gK rfl) rfl rfl (zk Au rfl) (fun w H => (Cb mk 98 hf.h1 w).mono fun _ _ h => ⟨by rw [h.1, hh98], h.2⟩) ?_)))))))))
        refine zn true rfl (zm rfl (zf 1 BM rfl (zv 1 [.int .u64 (mn : Int), .int .u8 (mr : Int)] Tryz.underlying24 Bi rfl (Ag (gK rfl) rfl rfl (fun ρ w E H => Bh (cs := [.int .u64 0, .int .u8 0]) E rfl rfl (by kernel_rfl)) ?_))))
        refine DT (gK rfl) rfl rfl (fun ρ w E H => FV E rfl (by kernel_rfl) rfl rfl (fun w => by rw [Bool.not_not]; exact NE mn mr 0 0 w)) fun c125 hc125 => ?_
        refine zp rfl (zp rfl (Ad ?_))
        have hq : c125 = Jl (BK (AO mk) 111) (BK (AO mk) 98) mo mn mr := by rw [hh111, hh98]; unfold Jl; grind [AB]
        refine Bn c125 hq ⟨rfl, rfl, rfl, trivial⟩ [0, 1] rfl (by decide) ⟨.inl rfl, .inl rfl, trivial⟩
       ·refine zf 1 BM rfl (zv 1 [.int .u64 (mn : Int), .int .u8 (mr : Int)] Tryz.underlying24 Bi rfl ?_)
        refine CN (b := (FD mn mr)) (gK rfl) rfl rfl (zk Eo rfl) (fun w H => LI mn mr w) fun c112 hc112 => ?_
        cases c112
        ·refine zn true rfl (zp rfl (zp rfl (zm rfl (zo rfl (zo rfl (zo rfl (zo rfl (zo rfl (zo rfl ?_)))))))))
         refine zo rfl (zo rfl (zo rfl (zo rfl (zp rfl (Ad ?_)))))
         have hq : true = Jl (BK (AO mk) 111) (BK (AO mk) 98) mo mn mr := by rw [hh111, hh98]; unfold Jl; grind [AB]
         refine Bn true hq ⟨rfl, rfl, rfl, trivial⟩ [0, 1] rfl (by decide) ⟨.inl rfl, .inl rfl, trivial⟩
        ·refine zn false rfl (zp rfl (zp rfl (zm rfl (zf 0 Aw rfl (zl 1 Tryz.underlying5 rfl (Ao (v := .bool true) (gK rfl) rfl rfl (zk Au rfl) (fun w H => (Cb mk 98 hf.h1 w).mono fun _ _ h => ⟨by rw [h.1, hh98], h.2⟩) (zn false rfl (zm rfl (zo rfl ?_)))))))))
         refine zo rfl (zo rfl (zo rfl (zp rfl (zp rfl (Ad ?_)))))
         have hq : false = Jl (BK (AO mk) 111) (BK (AO mk) 98) mo mn mr := by rw [hh111, hh98]; unfold Jl; grind [AB]
         refine Bn false hq ⟨rfl, rfl, rfl, trivial⟩ [0, 1] rfl (by decide) ⟨.inl rfl, .inl rfl, trivial⟩
     ·refine zo rfl (zo rfl (zo rfl (zo rfl (zo rfl (zo rfl (zo rfl (zo rfl (zo rfl (zp rfl ?_)))))))))
      refine zm rfl (zo rfl (zo rfl (zo rfl (zo rfl (zo rfl (zo rfl (zo rfl (zo rfl (zo rfl ?_)))))))))
      refine zp rfl (zm rfl (zo rfl (zo rfl (zo rfl (zo rfl (zo rfl (zo rfl (zo rfl (zo rfl ?_)))))))))
      refine zo rfl (zo rfl (zp rfl (Ad ?_)))
      have hq : true = Jl (BK (AO mk) 111) (BK (AO mk) 98) mo mn mr := by rw [hh111, hh98]; unfold Jl; grind [AB]
      refine Bn true hq ⟨rfl, rfl, rfl, trivial⟩ [0, 1] rfl (by decide) ⟨.inl rfl, .inl rfl, trivial⟩
    refine Aa ?_
    cases b127
    ·refine Ah rfl (Ax (Aa (Ae (Ac (za rfl (Ad (Aa (Ae (Ae ?_)))))))))
     refine JI (fun (b175 : Bool) => [(1, .pointer (some ⟨g1, 0, none⟩)), (3, .pointer (some ⟨g2, 0, none⟩)), (4, .int .u64 4611686018427387904), (175, .bool b175)]) (fun _ => [cell g2 29 [.int .u8 (ca : Int), .int .u32 (cb : Int), .int .u8 (ck : Int), .string ⟨cs.toArray⟩, .string ⟨ct.toArray⟩, .string ⟨cu.toArray⟩, .int .u8 (cz : Int)], cell g1 33 [.int .u8 (mk : Int), .int .u64 (mn : Int), .int .u8 (mr : Int), .int .u64 (mb : Int), .int .u64 (ms : Int), .int .u8 (mo : Int), .string ⟨mv.toArray⟩, .slice A vl.length ka, .slice B il.length kb, .int .u8 (ca : Int), .int .u32 (cb : Int), .int .u8 (ck : Int), .string ⟨cs.toArray⟩, .string ⟨ct.toArray⟩, .string ⟨cu.toArray⟩, .int .u8 (cz : Int), .int .u8 (mc : Int), .string ⟨mt.toArray⟩]]) (fun b175 => b175 = Gz (BK (AO mk) 97) (BK (AO mk) 117) (BK (AO mk) 115) mb ms) ?_ fun b175 hb175 => ?_
     ·refine Ac (zf 3 BX rfl (zl 1 Tryz.underlying22 rfl (zm rfl ?_)))
      refine zb rfl fun c131 hc131 => ?_
      refine zm rfl ?_
      cases c131
      ·refine zf 4 Bq rfl (zl 1 Tryz.underlying22 rfl (zm rfl ?_))
       refine zb rfl fun c136 hc136 => ?_
       refine zp rfl (zm rfl ?_)
       cases c136
       ·refine zf 0 Aw rfl (zl 1 Tryz.underlying5 rfl (Ao (v := .bool h97) (gK rfl) rfl rfl (zk Au rfl) (fun w H => (Cb mk 97 hf.h1 w).mono fun _ _ h => ⟨by rw [h.1, hh97], h.2⟩) ?_))
        cases h97
        ·refine zn true rfl (zm rfl (zf 3 BX rfl (zl 1 Tryz.underlying22 rfl ?_)))
         refine zb rfl fun c146 hc146 => ?_
         refine zp rfl (zp rfl (zm rfl ?_))
         cases c146
         ·refine zf 0 Aw rfl (zl 1 Tryz.underlying5 rfl (Ao (v := .bool h117) (gK rfl) rfl rfl (zk Au rfl) (fun w H => (Cb mk 117 hf.h1 w).mono fun _ _ h => ⟨by rw [h.1, hh117], h.2⟩) ?_))
          cases h117
          ·refine zn true rfl (zm rfl (zf 0 Aw rfl (zl 1 Tryz.underlying5 rfl (Ao (v := .bool h115) (gK rfl) rfl rfl (zk Au rfl) (fun w H => (Cb mk 115 hf.h1 w).mono fun _ _ h => ⟨by rw [h.1, hh115], h.2⟩) ?_))))
           cases h115
           ·refine zn true rfl (zp rfl (zm rfl (zf 4 Bq rfl (zl 1 Tryz.underlying22 rfl ?_))))
            refine zb rfl fun c163 hc163 => ?_
            refine zp rfl (zp rfl (zm rfl ?_))
            cases c163
            ·refine zf 0 Aw rfl (zl 1 Tryz.underlying5 rfl (Ao (v := .bool false) (gK rfl) rfl rfl (zk Au rfl) (fun w H => (Cb mk 115 hf.h1 w).mono fun _ _ h => ⟨by rw [h.1, hh115], h.2⟩) (zm rfl (zo rfl (zo rfl (zo rfl (zp rfl (zp rfl (Ad ?_)))))))))
             have hq : false = Gz (BK (AO mk) 97) (BK (AO mk) 117) (BK (AO mk) 115) mb ms := by rw [hh97, hh117, hh115]; unfold Gz; grind [AB]
             refine Bn false hq ⟨rfl, rfl, rfl, rfl, trivial⟩ [0, 1] rfl (by decide) ⟨.inl rfl, .inl rfl, trivial⟩
            ·refine zo rfl (zo rfl (zo rfl (zo rfl (zo rfl (zo rfl (zo rfl (zo rfl (zp rfl (Ad ?_)))))))))
             have hq : true = Gz (BK (AO mk) 97) (BK (AO mk) 117) (BK (AO mk) 115) mb ms := by rw [hh97, hh117, hh115]; unfold Gz; grind [AB]
             refine Bn true hq ⟨rfl, rfl, rfl, rfl, trivial⟩ [0, 1] rfl (by decide) ⟨.inl rfl, .inl rfl, trivial⟩
           ·refine zn false rfl (zp rfl (zm rfl (zo rfl (zo rfl (zo rfl (zp rfl (zp rfl (zm rfl (zf 0 Aw rfl ?_)))))))))
            refine zl 1 Tryz.underlying5 rfl (Ao (v := .bool true) (gK rfl) rfl rfl (zk Au rfl) (fun w H => (Cb mk 115 hf.h1 w).mono fun _ _ h => ⟨by rw [h.1, hh115], h.2⟩) (zm rfl (zf 4 Bq rfl (zl 1 Tryz.underlying22 rfl ?_))))
            refine zb rfl fun c173 hc173 => ?_
            refine zp rfl (zp rfl (Ad ?_))
            have hq : c173 = Gz (BK (AO mk) 97) (BK (AO mk) 117) (BK (AO mk) 115) mb ms := by rw [hh97, hh117, hh115]; unfold Gz; grind [AB]
            refine Bn c173 hq ⟨rfl, rfl, rfl, rfl, trivial⟩ [0, 1] rfl (by decide) ⟨.inl rfl, .inl rfl, trivial⟩
          ·refine zn false rfl (zm rfl (zo rfl (zo rfl (zo rfl (zo rfl (zp rfl (zm rfl (zo rfl (zo rfl ?_)))))))))
           refine zo rfl (zp rfl (zp rfl (zm rfl (zf 0 Aw rfl (zl 1 Tryz.underlying5 rfl (Ao (v := .bool h115) (gK rfl) rfl rfl (zk Au rfl) (fun w H => (Cb mk 115 hf.h1 w).mono fun _ _ h => ⟨by rw [h.1, hh115], h.2⟩) (zm rfl ?_)))))))
           cases h115
           ·refine zo rfl (zo rfl (zo rfl (zp rfl (zp rfl (Ad ?_)))))
            have hq : false = Gz (BK (AO mk) 97) (BK (AO mk) 117) (BK (AO mk) 115) mb ms := by rw [hh97, hh117, hh115]; unfold Gz; grind [AB]
            refine Bn false hq ⟨rfl, rfl, rfl, rfl, trivial⟩ [0, 1] rfl (by decide) ⟨.inl rfl, .inl rfl, trivial⟩
           ·refine zf 4 Bq rfl (zl 1 Tryz.underlying22 rfl ?_)
            refine zb rfl fun c173 hc173 => ?_
            refine zp rfl (zp rfl (Ad ?_))
            have hq : c173 = Gz (BK (AO mk) 97) (BK (AO mk) 117) (BK (AO mk) 115) mb ms := by rw [hh97, hh117, hh115]; unfold Gz; grind [AB]
            refine Bn c173 hq ⟨rfl, rfl, rfl, rfl, trivial⟩ [0, 1] rfl (by decide) ⟨.inl rfl, .inl rfl, trivial⟩
         ·refine zo rfl (zo rfl (zo rfl (zo rfl (zo rfl (zo rfl (zo rfl (zo rfl (zo rfl (zo rfl ?_)))))))))
          refine zo rfl (zo rfl (zo rfl (zo rfl (zo rfl (zp rfl (zm rfl (zo rfl (zo rfl (zo rfl ?_)))))))))
          refine zo rfl (zo rfl (zo rfl (zo rfl (zo rfl (zp rfl (Ad ?_))))))
          have hq : true = Gz (BK (AO mk) 97) (BK (AO mk) 117) (BK (AO mk) 115) mb ms := by rw [hh97, hh117, hh115]; unfold Gz; grind [AB]
          refine Bn true hq ⟨rfl, rfl, rfl, rfl, trivial⟩ [0, 1] rfl (by decide) ⟨.inl rfl, .inl rfl, trivial⟩
        ·refine zn false rfl (zm rfl (zo rfl (zo rfl (zo rfl (zp rfl (zp rfl (zm rfl (zf 0 Aw rfl (zl 1 Tryz.underlying5 rfl ?_)))))))))
         refine Ao (v := .bool h117) (gK rfl) rfl rfl (zk Au rfl) (fun w H => (Cb mk 117 hf.h1 w).mono fun _ _ h => ⟨by rw [h.1, hh117], h.2⟩) ?_
         cases h117
         ·refine zn true rfl (zm rfl (zf 0 Aw rfl (zl 1 Tryz.underlying5 rfl (Ao (v := .bool h115) (gK rfl) rfl rfl (zk Au rfl) (fun w H => (Cb mk 115 hf.h1 w).mono fun _ _ h => ⟨by rw [h.1, hh115], h.2⟩) ?_))))
          cases h115
          ·refine zn true rfl (zp rfl (zm rfl (zf 4 Bq rfl (zl 1 Tryz.underlying22 rfl ?_))))
           refine zb rfl fun c163 hc163 => ?_
           refine zp rfl (zp rfl (zm rfl ?_))
           cases c163
           ·refine zf 0 Aw rfl (zl 1 Tryz.underlying5 rfl (Ao (v := .bool false) (gK rfl) rfl rfl (zk Au rfl) (fun w H => (Cb mk 115 hf.h1 w).mono fun _ _ h => ⟨by rw [h.1, hh115], h.2⟩) (zm rfl (zo rfl (zo rfl (zo rfl (zp rfl (zp rfl (Ad ?_)))))))))
            have hq : false = Gz (BK (AO mk) 97) (BK (AO mk) 117) (BK (AO mk) 115) mb ms := by rw [hh97, hh117, hh115]; unfold Gz; grind [AB]
            refine Bn false hq ⟨rfl, rfl, rfl, rfl, trivial⟩ [0, 1] rfl (by decide) ⟨.inl rfl, .inl rfl, trivial⟩
           ·refine zo rfl (zo rfl (zo rfl (zo rfl (zo rfl (zo rfl (zo rfl (zo rfl (zp rfl (Ad ?_)))))))))
            have hq : true = Gz (BK (AO mk) 97) (BK (AO mk) 117) (BK (AO mk) 115) mb ms := by rw [hh97, hh117, hh115]; unfold Gz; grind [AB]
            refine Bn true hq ⟨rfl, rfl, rfl, rfl, trivial⟩ [0, 1] rfl (by decide) ⟨.inl rfl, .inl rfl, trivial⟩
          ·refine zn false rfl (zp rfl (zm rfl (zo rfl (zo rfl (zo rfl (zp rfl (zp rfl (zm rfl (zf 0 Aw rfl ?_)))))))))
           refine zl 1 Tryz.underlying5 rfl (Ao (v := .bool true) (gK rfl) rfl rfl (zk Au rfl) (fun w H => (Cb mk 115 hf.h1 w).mono fun _ _ h => ⟨by rw [h.1, hh115], h.2⟩) (zm rfl (zf 4 Bq rfl (zl 1 Tryz.underlying22 rfl ?_))))
           refine zb rfl fun c173 hc173 => ?_
           refine zp rfl (zp rfl (Ad ?_))
           have hq : c173 = Gz (BK (AO mk) 97) (BK (AO mk) 117) (BK (AO mk) 115) mb ms := by rw [hh97, hh117, hh115]; unfold Gz; grind [AB]
           refine Bn c173 hq ⟨rfl, rfl, rfl, rfl, trivial⟩ [0, 1] rfl (by decide) ⟨.inl rfl, .inl rfl, trivial⟩
         ·refine zn false rfl (zm rfl (zo rfl (zo rfl (zo rfl (zo rfl (zp rfl (zm rfl (zo rfl (zo rfl ?_)))))))))
          refine zo rfl (zp rfl (zp rfl (zm rfl (zf 0 Aw rfl (zl 1 Tryz.underlying5 rfl (Ao (v := .bool h115) (gK rfl) rfl rfl (zk Au rfl) (fun w H => (Cb mk 115 hf.h1 w).mono fun _ _ h => ⟨by rw [h.1, hh115], h.2⟩) (zm rfl ?_)))))))
          cases h115
          ·refine zo rfl (zo rfl (zo rfl (zp rfl (zp rfl (Ad ?_)))))
           have hq : false = Gz (BK (AO mk) 97) (BK (AO mk) 117) (BK (AO mk) 115) mb ms := by rw [hh97, hh117, hh115]; unfold Gz; grind [AB]
           refine Bn false hq ⟨rfl, rfl, rfl, rfl, trivial⟩ [0, 1] rfl (by decide) ⟨.inl rfl, .inl rfl, trivial⟩
          ·refine zf 4 Bq rfl (zl 1 Tryz.underlying22 rfl ?_)
           refine zb rfl fun c173 hc173 => ?_
           refine zp rfl (zp rfl (Ad ?_))
           have hq : c173 = Gz (BK (AO mk) 97) (BK (AO mk) 117) (BK (AO mk) 115) mb ms := by rw [hh97, hh117, hh115]; unfold Gz; grind [AB]
           refine Bn c173 hq ⟨rfl, rfl, rfl, rfl, trivial⟩ [0, 1] rfl (by decide) ⟨.inl rfl, .inl rfl, trivial⟩
       ·refine zo rfl (zo rfl (zo rfl (zo rfl (zo rfl (zo rfl (zo rfl (zo rfl (zo rfl (zp rfl ?_)))))))))
        refine zm rfl (zo rfl (zo rfl (zo rfl (zo rfl (zo rfl (zo rfl (zo rfl (zo rfl (zo rfl ?_)))))))))
        refine zo rfl (zo rfl (zo rfl (zo rfl (zo rfl (zo rfl (zp rfl (zm rfl (zo rfl (zo rfl ?_)))))))))
        refine zo rfl (zo rfl (zo rfl (zo rfl (zo rfl (zo rfl (zp rfl (Ad ?_)))))))
        have hq : true = Gz (BK (AO mk) 97) (BK (AO mk) 117) (BK (AO mk) 115) mb ms := by rw [hh97, hh117, hh115]; unfold Gz; grind [AB]
        refine Bn true hq ⟨rfl, rfl, rfl, rfl, trivial⟩ [0, 1] rfl (by decide) ⟨.inl rfl, .inl rfl, trivial⟩
      ·refine zo rfl (zo rfl (zo rfl (zo rfl (zp rfl (zm rfl (zo rfl (zo rfl (zo rfl (zo rfl ?_)))))))))
       refine zo rfl (zo rfl (zo rfl (zo rfl (zo rfl (zp rfl (zm rfl (zo rfl (zo rfl (zo rfl ?_)))))))))
       refine zo rfl (zo rfl (zo rfl (zo rfl (zo rfl (zo rfl (zo rfl (zo rfl (zo rfl (zo rfl ?_)))))))))
       refine zo rfl (zo rfl (zp rfl (zm rfl (zo rfl (zo rfl (zo rfl (zo rfl (zo rfl (zo rfl ?_)))))))))
       refine zo rfl (zo rfl (zp rfl (Ad ?_)))
       have hq : true = Gz (BK (AO mk) 97) (BK (AO mk) 117) (BK (AO mk) 115) mb ms := by rw [hh97, hh117, hh115]; unfold Gz; grind [AB]
       refine Bn true hq ⟨rfl, rfl, rfl, rfl, trivial⟩ [0, 1] rfl (by decide) ⟨.inl rfl, .inl rfl, trivial⟩
     refine Aa ?_
     cases b175
     ·refine Ah rfl (Ax (Aa (Ae (Ae ?_))))
      refine JI (fun (b206 : Bool) => [(1, .pointer (some ⟨g1, 0, none⟩)), (3, .pointer (some ⟨g2, 0, none⟩)), (4, .int .u64 4611686018427387904), (206, .bool b206)]) (fun _ => [cell g2 29 [.int .u8 (ca : Int), .int .u32 (cb : Int), .int .u8 (ck : Int), .string ⟨cs.toArray⟩, .string ⟨ct.toArray⟩, .string ⟨cu.toArray⟩, .int .u8 (cz : Int)], cell g1 33 [.int .u8 (mk : Int), .int .u64 (mn : Int), .int .u8 (mr : Int), .int .u64 (mb : Int), .int .u64 (ms : Int), .int .u8 (mo : Int), .string ⟨mv.toArray⟩, .slice A vl.length ka, .slice B il.length kb, .int .u8 (ca : Int), .int .u32 (cb : Int), .int .u8 (ck : Int), .string ⟨cs.toArray⟩, .string ⟨ct.toArray⟩, .string ⟨cu.toArray⟩, .int .u8 (cz : Int), .int .u8 (mc : Int), .string ⟨mt.toArray⟩]]) (fun b206 => b206 = JF (BK (AO mk) 118) (BK (AO mk) 116) (BK (AO mk) 105) mv vl.length il.length) ?_ fun b206 hb206 => ?_
      ·refine BN [] [0, 1] (by kernel_rfl) rfl ⟨(zh hg2), (zh hg1), trivial⟩ (yf 0 0 Aw rfl (by kernel_rfl) zI (yl 1 1 Tryz.underlying5 rfl (by kernel_rfl) zI (yr 2 (by kernel_rfl) (BO (v := .bool h118) rfl trivial rfl rfl (zk Au rfl) (fun w H => (Cb mk 118 hf.h1 w).mono fun _ _ h => ⟨by rw [h.1, hh118], h.2⟩) (fun w H => H.ks [] [0, 1] rfl ⟨(zh hg2), (zh hg1), trivial⟩) ?_))))
       cases h118
       ·refine yt (i := 3) (v := .bool true) (by kernel_rfl) zI rfl rfl rfl rfl (fun ρ w E H => Jf (t := false) E rfl rfl) (ym 4 rfl (by kernel_rfl) zI (yf 5 6 Cf rfl (by kernel_rfl) zI (yl 6 1 Tryz.underlying9 rfl (by kernel_rfl) zI ?_)))
        refine DW (i := 7) rfl (by kernel_rfl) (by kernel_rfl) (by kernel_rfl) rfl rfl (fun _ _ _ h => h) ⟨_, _, rfl, rfl, rfl⟩ (fun ρ w E H => Xr E rfl rfl rfl rfl) fun c183 hc183 => ?_
        refine yp 8 rfl (by kernel_rfl) zI (ym 9 rfl (by kernel_rfl) zI ?_)
        cases c183
        ·refine yf 10 0 Aw rfl (by kernel_rfl) zI (yl 11 1 Tryz.underlying5 rfl (by kernel_rfl) zI (yr 12 (by kernel_rfl) (BO (v := .bool h116) rfl (gK rfl) rfl rfl (zk Au rfl) (fun w H => (Cb mk 116 hf.h1 w).mono fun _ _ h => ⟨by rw [h.1, hh116], h.2⟩) (fun w H => H.ks [] [0, 1] rfl ⟨(zh hg2), (zh hg1), trivial⟩) ?_)))
         cases h116
         ·refine yt (i := 13) (v := .bool true) (by kernel_rfl) zI rfl rfl rfl rfl (fun ρ w E H => Jf (t := false) E rfl rfl) (ym 14 rfl (by kernel_rfl) zI (yf 15 7 AH rfl (by kernel_rfl) zI (yl 16 1 Tryz.underlying25 rfl (by kernel_rfl) zI (yt (i := 17) (v := .int .i64 (vl.length : Int)) (by kernel_rfl) zI rfl rfl rfl rfl (fun ρ w E H => Hr E rfl Tryz.underlying25 rfl) ?_))))
          refine DW (i := 18) rfl (by kernel_rfl) (by kernel_rfl) (by kernel_rfl) rfl rfl (fun _ _ _ h => h) ⟨_, _, rfl, rfl, rfl⟩ (fun ρ w E H => E9 E rfl rfl rfl rfl rfl) fun c194 hc194 => ?_
          refine yp 19 rfl (by kernel_rfl) zI (yp 20 rfl (by kernel_rfl) zI (ym 21 rfl (by kernel_rfl) zI ?_))
          cases c194
          ·refine yf 22 0 Aw rfl (by kernel_rfl) zI (yl 23 1 Tryz.underlying5 rfl (by kernel_rfl) zI (yf 25 8 AE rfl (by kernel_rfl) zI (yl 26 1 Tryz.underlying26 rfl (by kernel_rfl) zI (yt (i := 27) (v := .int .i64 (il.length : Int)) (by kernel_rfl) zI rfl rfl rfl rfl (fun ρ w E H => Hr E rfl Tryz.underlying26 rfl) ?_))))
           refine DW (i := 28) rfl (by kernel_rfl) (by kernel_rfl) (by kernel_rfl) rfl rfl (fun _ _ _ h => h) ⟨_, _, rfl, rfl, rfl⟩ (fun ρ w E H => E9 E rfl rfl rfl rfl rfl) fun c204 hc204 => ?_
           refine yr 24 (by kernel_rfl) (BO (v := .bool h105) rfl (gK rfl) rfl rfl (zk Au rfl) (fun w H => (Cb mk 105 hf.h1 w).mono fun _ _ h => ⟨by rw [h.1, hh105], h.2⟩) (fun w H => H.ks [] [0, 1] rfl ⟨(zh hg2), (zh hg1), trivial⟩) (yt (i := 29) (v := .bool ((h105 != c204))) (by kernel_rfl) zI rfl rfl rfl rfl (fun ρ w E H => Jg E rfl Tryz.underlying4 rfl rfl rfl) (yp 30 rfl (by kernel_rfl) zI (BE (by kernel_rfl) ?_))))
           have hq : (h105 != c204) = JF (BK (AO mk) 118) (BK (AO mk) 116) (BK (AO mk) 105) mv vl.length il.length := by rw [hh118, hh116, hh105]; unfold JF; grind [AB]
           refine Bn (h105 != c204) hq ⟨rfl, rfl, rfl, rfl, trivial⟩ [0, 1] rfl (by decide) ⟨.inl rfl, .inl rfl, trivial⟩
          ·refine yo 22 rfl (by kernel_rfl) zI (yo 23 rfl (by kernel_rfl) zI (yo 24 rfl (by kernel_rfl) zI (yo 25 rfl (by kernel_rfl) zI (yo 26 rfl (by kernel_rfl) zI (yo 27 rfl (by kernel_rfl) zI (yo 28 rfl (by kernel_rfl) zI (yo 29 rfl (by kernel_rfl) zI (yp 30 rfl (by kernel_rfl) zI (BE (by kernel_rfl) ?_)))))))))
           have hq : true = JF (BK (AO mk) 118) (BK (AO mk) 116) (BK (AO mk) 105) mv vl.length il.length := by rw [hh118, hh116, hh105]; unfold JF; grind [AB]
           refine Bn true hq ⟨rfl, rfl, rfl, rfl, trivial⟩ [0, 1] rfl (by decide) ⟨.inl rfl, .inl rfl, trivial⟩
         ·refine yt (i := 13) (v := .bool false) (by kernel_rfl) zI rfl rfl rfl rfl (fun ρ w E H => Jf (t := true) E rfl rfl) (ym 14 rfl (by kernel_rfl) zI (yo 15 rfl (by kernel_rfl) zI (yo 16 rfl (by kernel_rfl) zI (yo 17 rfl (by kernel_rfl) zI (yo 18 rfl (by kernel_rfl) zI (yp 19 rfl (by kernel_rfl) zI (yp 20 rfl (by kernel_rfl) zI (ym 21 rfl (by kernel_rfl) zI (yf 22 0 Aw rfl (by kernel_rfl) zI ?_)))))))))
          refine yl 23 1 Tryz.underlying5 rfl (by kernel_rfl) zI (yf 25 8 AE rfl (by kernel_rfl) zI (yl 26 1 Tryz.underlying26 rfl (by kernel_rfl) zI (yt (i := 27) (v := .int .i64 (il.length : Int)) (by kernel_rfl) zI rfl rfl rfl rfl (fun ρ w E H => Hr E rfl Tryz.underlying26 rfl) ?_)))
          refine DW (i := 28) rfl (by kernel_rfl) (by kernel_rfl) (by kernel_rfl) rfl rfl (fun _ _ _ h => h) ⟨_, _, rfl, rfl, rfl⟩ (fun ρ w E H => E9 E rfl rfl rfl rfl rfl) fun c204 hc204 => ?_
          refine yr 24 (by kernel_rfl) (BO (v := .bool h105) rfl (gK rfl) rfl rfl (zk Au rfl) (fun w H => (Cb mk 105 hf.h1 w).mono fun _ _ h => ⟨by rw [h.1, hh105], h.2⟩) (fun w H => H.ks [] [0, 1] rfl ⟨(zh hg2), (zh hg1), trivial⟩) (yt (i := 29) (v := .bool ((h105 != c204))) (by kernel_rfl) zI rfl rfl rfl rfl (fun ρ w E H => Jg E rfl Tryz.underlying4 rfl rfl rfl) (yp 30 rfl (by kernel_rfl) zI (BE (by kernel_rfl) ?_))))
          have hq : (h105 != c204) = JF (BK (AO mk) 118) (BK (AO mk) 116) (BK (AO mk) 105) mv vl.length il.length := by rw [hh118, hh116, hh105]; unfold JF; grind [AB]
          refine Bn (h105 != c204) hq ⟨rfl, rfl, rfl, rfl, trivial⟩ [0, 1] rfl (by decide) ⟨.inl rfl, .inl rfl, trivial⟩
        ·refine yo 10 rfl (by kernel_rfl) zI (yo 11 rfl (by kernel_rfl) zI (yo 12 rfl (by kernel_rfl) zI (yo 13 rfl (by kernel_rfl) zI (yo 14 rfl (by kernel_rfl) zI (yo 15 rfl (by kernel_rfl) zI (yo 16 rfl (by kernel_rfl) zI (yo 17 rfl (by kernel_rfl) zI (yo 18 rfl (by kernel_rfl) zI (yo 19 rfl (by kernel_rfl) zI ?_)))))))))
         refine yp 20 rfl (by kernel_rfl) zI (ym 21 rfl (by kernel_rfl) zI (yo 22 rfl (by kernel_rfl) zI (yo 23 rfl (by kernel_rfl) zI (yo 24 rfl (by kernel_rfl) zI (yo 25 rfl (by kernel_rfl) zI (yo 26 rfl (by kernel_rfl) zI (yo 27 rfl (by kernel_rfl) zI (yo 28 rfl (by kernel_rfl) zI (yo 29 rfl (by kernel_rfl) zI ?_)))))))))
         refine yp 30 rfl (by kernel_rfl) zI (BE (by kernel_rfl) ?_)
         have hq : true = JF (BK (AO mk) 118) (BK (AO mk) 116) (BK (AO mk) 105) mv vl.length il.length := by rw [hh118, hh116, hh105]; unfold JF; grind [AB]
         refine Bn true hq ⟨rfl, rfl, rfl, rfl, trivial⟩ [0, 1] rfl (by decide) ⟨.inl rfl, .inl rfl, trivial⟩
       ·refine yt (i := 3) (v := .bool false) (by kernel_rfl) zI rfl rfl rfl rfl (fun ρ w E H => Jf (t := true) E rfl rfl) (ym 4 rfl (by kernel_rfl) zI (yo 5 rfl (by kernel_rfl) zI (yo 6 rfl (by kernel_rfl) zI (yo 7 rfl (by kernel_rfl) zI (yp 8 rfl (by kernel_rfl) zI (ym 9 rfl (by kernel_rfl) zI (yf 10 0 Aw rfl (by kernel_rfl) zI (yl 11 1 Tryz.underlying5 rfl (by kernel_rfl) zI (yr 12 (by kernel_rfl) ?_)))))))))
        refine BO (v := .bool h116) rfl (gK rfl) rfl rfl (zk Au rfl) (fun w H => (Cb mk 116 hf.h1 w).mono fun _ _ h => ⟨by rw [h.1, hh116], h.2⟩) (fun w H => H.ks [] [0, 1] rfl ⟨(zh hg2), (zh hg1), trivial⟩) ?_
        cases h116
        ·refine yt (i := 13) (v := .bool true) (by kernel_rfl) zI rfl rfl rfl rfl (fun ρ w E H => Jf (t := false) E rfl rfl) (ym 14 rfl (by kernel_rfl) zI (yf 15 7 AH rfl (by kernel_rfl) zI (yl 16 1 Tryz.underlying25 rfl (by kernel_rfl) zI (yt (i := 17) (v := .int .i64 (vl.length : Int)) (by kernel_rfl) zI rfl rfl rfl rfl (fun ρ w E H => Hr E rfl Tryz.underlying25 rfl) ?_))))
         refine DW (i := 18) rfl (by kernel_rfl) (by kernel_rfl) (by kernel_rfl) rfl rfl (fun _ _ _ h => h) ⟨_, _, rfl, rfl, rfl⟩ (fun ρ w E H => E9 E rfl rfl rfl rfl rfl) fun c194 hc194 => ?_
         refine yp 19 rfl (by kernel_rfl) zI (yp 20 rfl (by kernel_rfl) zI (ym 21 rfl (by kernel_rfl) zI ?_))
         cases c194
         ·refine yf 22 0 Aw rfl (by kernel_rfl) zI (yl 23 1 Tryz.underlying5 rfl (by kernel_rfl) zI (yf 25 8 AE rfl (by kernel_rfl) zI (yl 26 1 Tryz.underlying26 rfl (by kernel_rfl) zI (yt (i := 27) (v := .int .i64 (il.length : Int)) (by kernel_rfl) zI rfl rfl rfl rfl (fun ρ w E H => Hr E rfl Tryz.underlying26 rfl) ?_))))
          refine DW (i := 28) rfl (by kernel_rfl) (by kernel_rfl) (by kernel_rfl) rfl rfl (fun _ _ _ h => h) ⟨_, _, rfl, rfl, rfl⟩ (fun ρ w E H => E9 E rfl rfl rfl rfl rfl) fun c204 hc204 => ?_
          refine yr 24 (by kernel_rfl) (BO (v := .bool h105) rfl (gK rfl) rfl rfl (zk Au rfl) (fun w H => (Cb mk 105 hf.h1 w).mono fun _ _ h => ⟨by rw [h.1, hh105], h.2⟩) (fun w H => H.ks [] [0, 1] rfl ⟨(zh hg2), (zh hg1), trivial⟩) (yt (i := 29) (v := .bool ((h105 != c204))) (by kernel_rfl) zI rfl rfl rfl rfl (fun ρ w E H => Jg E rfl Tryz.underlying4 rfl rfl rfl) (yp 30 rfl (by kernel_rfl) zI (BE (by kernel_rfl) ?_))))
          have hq : (h105 != c204) = JF (BK (AO mk) 118) (BK (AO mk) 116) (BK (AO mk) 105) mv vl.length il.length := by rw [hh118, hh116, hh105]; unfold JF; grind [AB]
          refine Bn (h105 != c204) hq ⟨rfl, rfl, rfl, rfl, trivial⟩ [0, 1] rfl (by decide) ⟨.inl rfl, .inl rfl, trivial⟩
         ·refine yo 22 rfl (by kernel_rfl) zI (yo 23 rfl (by kernel_rfl) zI (yo 24 rfl (by kernel_rfl) zI (yo 25 rfl (by kernel_rfl) zI (yo 26 rfl (by kernel_rfl) zI (yo 27 rfl (by kernel_rfl) zI (yo 28 rfl (by kernel_rfl) zI (yo 29 rfl (by kernel_rfl) zI (yp 30 rfl (by kernel_rfl) zI (BE (by kernel_rfl) ?_)))))))))
          have hq : true = JF (BK (AO mk) 118) (BK (AO mk) 116) (BK (AO mk) 105) mv vl.length il.length := by rw [hh118, hh116, hh105]; unfold JF; grind [AB]
          refine Bn true hq ⟨rfl, rfl, rfl, rfl, trivial⟩ [0, 1] rfl (by decide) ⟨.inl rfl, .inl rfl, trivial⟩
        ·refine yt (i := 13) (v := .bool false) (by kernel_rfl) zI rfl rfl rfl rfl (fun ρ w E H => Jf (t := true) E rfl rfl) (ym 14 rfl (by kernel_rfl) zI (yo 15 rfl (by kernel_rfl) zI (yo 16 rfl (by kernel_rfl) zI (yo 17 rfl (by kernel_rfl) zI (yo 18 rfl (by kernel_rfl) zI (yp 19 rfl (by kernel_rfl) zI (yp 20 rfl (by kernel_rfl) zI (ym 21 rfl (by kernel_rfl) zI (yf 22 0 Aw rfl (by kernel_rfl) zI ?_)))))))))
         refine yl 23 1 Tryz.underlying5 rfl (by kernel_rfl) zI (yf 25 8 AE rfl (by kernel_rfl) zI (yl 26 1 Tryz.underlying26 rfl (by kernel_rfl) zI (yt (i := 27) (v := .int .i64 (il.length : Int)) (by kernel_rfl) zI rfl rfl rfl rfl (fun ρ w E H => Hr E rfl Tryz.underlying26 rfl) ?_)))
         refine DW (i := 28) rfl (by kernel_rfl) (by kernel_rfl) (by kernel_rfl) rfl rfl (fun _ _ _ h => h) ⟨_, _, rfl, rfl, rfl⟩ (fun ρ w E H => E9 E rfl rfl rfl rfl rfl) fun c204 hc204 => ?_
         refine yr 24 (by kernel_rfl) (BO (v := .bool h105) rfl (gK rfl) rfl rfl (zk Au rfl) (fun w H => (Cb mk 105 hf.h1 w).mono fun _ _ h => ⟨by rw [h.1, hh105], h.2⟩) (fun w H => H.ks [] [0, 1] rfl ⟨(zh hg2), (zh hg1), trivial⟩) (yt (i := 29) (v := .bool ((h105 != c204))) (by kernel_rfl) zI rfl rfl rfl rfl (fun ρ w E H => Jg E rfl Tryz.underlying4 rfl rfl rfl) (yp 30 rfl (by kernel_rfl) zI (BE (by kernel_rfl) ?_))))
         have hq : (h105 != c204) = JF (BK (AO mk) 118) (BK (AO mk) 116) (BK (AO mk) 105) mv vl.length il.length := by rw [hh118, hh116, hh105]; unfold JF; grind [AB]
         refine Bn (h105 != c204) hq ⟨rfl, rfl, rfl, rfl, trivial⟩ [0, 1] rfl (by decide) ⟨.inl rfl, .inl rfl, trivial⟩
      refine Aa ?_
      cases b206
      ·refine Ah rfl (Ax (Aa (Ae (Ac (za rfl (Ad (Aa (Ae (Ae ?_)))))))))
       refine Ac (za rfl (Ad (Aa (AG ?_))))
       refine Ec (fun (k : Nat) (last : Nat) => [(1, .pointer (some ⟨g1, 0, none⟩)), (4, .int .u64 4611686018427387904), (5, .int .u64 (last : Int)), (6, .int .i64 (k : Int))]) (fun (k : Nat) (last : Nat) => [cell g2 29 [.int .u8 (ca : Int), .int .u32 (cb : Int), .int .u8 (ck : Int), .string ⟨cs.toArray⟩, .string ⟨ct.toArray⟩, .string ⟨cu.toArray⟩, .int .u8 (cz : Int)], cell g1 33 [.int .u8 (mk : Int), .int .u64 (mn : Int), .int .u8 (mr : Int), .int .u64 (mb : Int), .int .u64 (ms : Int), .int .u8 (mo : Int), .string ⟨mv.toArray⟩, .slice A vl.length ka, .slice B il.length kb, .int .u8 (ca : Int), .int .u32 (cb : Int), .int .u8 (ck : Int), .string ⟨cs.toArray⟩, .string ⟨ct.toArray⟩, .string ⟨cu.toArray⟩, .int .u8 (cz : Int), .int .u8 (mc : Int), .string ⟨mt.toArray⟩]]) (fun (gk : Nat) (k : Nat) (last : Nat) => k + gk = vl.length ∧ ES 0 vl = ES last (vl.drop k)) vl.length 0 0 ⟨by omega, rfl⟩ ⟨rfl, rfl, rfl, rfl, trivial⟩ [0, 1] rfl (by decide) ⟨.inl rfl, .inl rfl, trivial⟩ fun gk k last hF => ?_
       obtain ⟨hkg, hrel⟩ := hF
       refine Ae (Ae (Ac (zm rfl (zf 7 AH rfl (zl 1 Tryz.underlying25 rfl (zL Tryz.underlying25 rfl ?_))))))
       refine zb rfl fun c211 hc211 => ?_
       refine Ad (Aa ?_)
       cases c211
       ·refine Ah rfl (Cd (AW (AW (BH (Aa (Ae ?_))))))
        have hV : ES 0 vl = true := by rw [hrel, List.drop_eq_nil_of_le (by simpa [AB] using hc211)]; rfl
        clear hrel hkg
        refine Ac (za rfl (Ad (Aa (Ae (Ae (Ac (za rfl (Ad (Aa ?_)))))))))
        refine AG ?_
        refine Ec (fun (k : Nat) (last : Nat) => [(1, .pointer (some ⟨g1, 0, none⟩)), (4, .int .u64 4611686018427387904), (5, .int .u64 (last : Int)), (7, .int .i64 (k : Int))]) (fun (k : Nat) (last : Nat) => [cell g2 29 [.int .u8 (ca : Int), .int .u32 (cb : Int), .int .u8 (ck : Int), .string ⟨cs.toArray⟩, .string ⟨ct.toArray⟩, .string ⟨cu.toArray⟩, .int .u8 (cz : Int)], cell g1 33 [.int .u8 (mk : Int), .int .u64 (mn : Int), .int .u8 (mr : Int), .int .u64 (mb : Int), .int .u64 (ms : Int), .int .u8 (mo : Int), .string ⟨mv.toArray⟩, .slice A vl.length ka, .slice B il.length kb, .int .u8 (ca : Int), .int .u32 (cb : Int), .int .u8 (ck : Int), .string ⟨cs.toArray⟩, .string ⟨ct.toArray⟩, .string ⟨cu.toArray⟩, .int .u8 (cz : Int), .int .u8 (mc : Int), .string ⟨mt.toArray⟩]]) (fun (gk : Nat) (k : Nat) (last : Nat) => k + gk = il.length ∧ F8 0 il = F8 last (il.drop k)) il.length 0 0 ⟨by omega, rfl⟩ ⟨rfl, rfl, rfl, rfl, trivial⟩ [0, 1] rfl (by decide) ⟨.inl rfl, .inl rfl, trivial⟩ fun gk k last hF => ?_
        obtain ⟨hkg, hrel⟩ := hF
        refine Ae (Ae (Ac (zm rfl (zf 8 AE rfl (zl 1 Tryz.underlying26 rfl (zL Tryz.underlying26 rfl ?_))))))
        refine zb rfl fun c252 hc252 => ?_
        refine Ad (Aa ?_)
        cases c252
        ·refine Ah rfl (Cd (AW (AW (BH (Aa (Ae (Ac (za rfl (Ad ?_)))))))))
         refine Aa (Am ?_)
         refine Ai (.bool true) (fun a w K H => BC K rfl rfl) (fun w H => ?_)
         have hq : true = Eb ⟨mk, mn, mr, mb, ms, mo, mv, vl, il, ⟨ca, cb, ck, cs, ct, cu, cz⟩, mc, mt⟩ := by
          unfold Eb; dsimp only
          have hI : F8 0 il = true := by rw [hrel, List.drop_eq_nil_of_le (by simpa [AB] using hc252)]; rfl
          rw [hc11, ← hb62, ← hb90, ← hb127, ← hb175, ← hb206, hV, hI]; rfl
         exact ⟨by rw [← EN, ← hq], H.toBelow ⟨(zq hg2), (zq hg1), trivial⟩⟩
        ·refine Ap rfl (Ax (Aa (Ae (AG (Ae (Ae ?_))))))
         have hkl : k < il.length := by simpa [AB] using hc252
         obtain ⟨⟨xs, xv⟩, hx⟩ : ∃ x, il[k]? = some x := ⟨_, List.getElem?_eq_getElem hkl⟩
         have hd : il.drop k = ⟨xs, xv⟩ :: il.drop (k + 1) := by rw [List.drop_eq_getElem_cons hkl]; congr 1; rw [List.getElem?_eq_getElem hkl] at hx; exact Option.some.inj hx
         obtain ⟨ad, rfl, -, -⟩ := hr.hi.row hx
         refine Ac (zf 8 AE rfl (zl 1 Tryz.underlying26 rfl (zm rfl (Ag (v := .pointer (some (ad.add (k * 2)))) trivial rfl rfl (fun ρ w E H => BA (i := k) E rfl Tryz.underlying26 Bg rfl rfl hkl) (Ag (v := .pointer (some (ad.add (k * 2)))) trivial rfl rfl (fun ρ w E H => FU E rfl CW rfl) (Ag (v := .int .u64 (xs : Int)) trivial rfl rfl (fun ρ w E H => Em E ((hr.hi.below (H.toBelow ⟨(zq hg2), (zq hg1), trivial⟩)).rowA hx) rfl rfl rfl Tryz.underlying22 rfl) (zm rfl ?_)))))))
         refine zb rfl fun c262 hc262 => ?_
         refine zm rfl ?_
         cases c262
         ·refine zf 8 AE rfl (zl 1 Tryz.underlying26 rfl (zm rfl (Ag (v := .pointer (some (ad.add (k * 2)))) (gK rfl) rfl rfl (fun ρ w E H => BA (i := k) E rfl Tryz.underlying26 Bg rfl rfl hkl) (Ag (v := .pointer (some (ad.add (k * 2)))) (gK rfl) rfl rfl (fun ρ w E H => FU E rfl CW rfl) (Ag (v := .int .u64 (xs : Int)) (gK rfl) rfl rfl (fun ρ w E H => Em E ((hr.hi.below (H.toBelow ⟨(zq hg2), (zq hg1), trivial⟩)).rowA hx) rfl rfl rfl Tryz.underlying22 rfl) (zm rfl ?_))))))
          refine zb rfl fun c271 hc271 => ?_
          refine zp rfl (Ad (Aa ?_))
          cases c271
          ·refine Ah rfl (Ax (Aa (Ac (zf 8 AE rfl (zl 1 Tryz.underlying26 rfl (zm rfl (Ag (v := .pointer (some (ad.add (k * 2)))) trivial rfl rfl (fun ρ w E H => BA (i := k) E rfl Tryz.underlying26 Bg rfl rfl hkl) (Ag (v := .pointer (some (ad.add (k * 2)))) trivial rfl rfl (fun ρ w E H => FU E rfl CW rfl) (Ag (v := .int .u64 (xs : Int)) trivial rfl rfl (fun ρ w E H => Em E ((hr.hi.below (H.toBelow ⟨(zq hg2), (zq hg1), trivial⟩)).rowA hx) rfl rfl rfl Tryz.underlying22 rfl) ?_)))))))))
           refine za rfl (Ad (AA (Aa (Ac (zm rfl (Ag (v := .int .i64 ((k + 1 : Nat) : Int)) trivial rfl rfl (fun ρ w E H => BQ E rfl rfl rfl (by rw [IntKind.wrap_i64]; omega)) (za rfl (Ad ?_))))))))
           refine B7 (gk - 1) (k + 1, xs) (by omega) ⟨by omega, by rw [hrel, hd]; grind [F8, AB]⟩ ⟨rfl, rfl, rfl, rfl, trivial⟩ [0, 1] rfl (by decide) ⟨.inl rfl, .inl rfl, trivial⟩
          ·refine Ap rfl (Ae (Ac (za rfl (Ad (Aa (Am (Ak (AU (Ak ?_)))))))))
           refine Ak (AU (Ak ?_))
           refine Ai (.bool false) (fun a w K H => BC K rfl rfl) (fun w H => ?_)
           have hq : false = Eb ⟨mk, mn, mr, mb, ms, mo, mv, vl, il, ⟨ca, cb, ck, cs, ct, cu, cz⟩, mc, mt⟩ := by
            unfold Eb; dsimp only
            have hI : F8 0 il = false := by rw [hrel, hd]; grind [F8, AB]
            rw [hI]; simp
           exact ⟨by rw [← EN, ← hq], H.toBelow ⟨(zq hg2), (zq hg1), trivial⟩⟩
         ·refine zo rfl (zo rfl (zo rfl (zo rfl (zo rfl (zo rfl (zo rfl (zo rfl (zp rfl (Ad ?_)))))))))
          refine Aa (Ap rfl (Ae (Ac (za rfl (Ad (Aa (Am (Ak (AU ?_)))))))))
          refine Ak (Ak (AU (Ak ?_)))
          refine Ai (.bool false) (fun a w K H => BC K rfl rfl) (fun w H => ?_)
          have hq : false = Eb ⟨mk, mn, mr, mb, ms, mo, mv, vl, il, ⟨ca, cb, ck, cs, ct, cu, cz⟩, mc, mt⟩ := by
           unfold Eb; dsimp only
           have hI : F8 0 il = false := by rw [hrel, hd]; grind [F8, AB]
           rw [hI]; simp
          exact ⟨by rw [← EN, ← hq], H.toBelow ⟨(zq hg2), (zq hg1), trivial⟩⟩
       ·refine Ap rfl (Ax (Aa (Ae (AG (Ae (Ae ?_))))))
        have hkl : k < vl.length := by simpa [AB] using hc211
        obtain ⟨⟨xs, xn, xr, xv⟩, hx⟩ : ∃ x, vl[k]? = some x := ⟨_, List.getElem?_eq_getElem hkl⟩
        have hd : vl.drop k = ⟨xs, xn, xr, xv⟩ :: vl.drop (k + 1) := by rw [List.drop_eq_getElem_cons hkl]; congr 1; rw [List.getElem?_eq_getElem hkl] at hx; exact Option.some.inj hx
        obtain ⟨ad, rfl, -, -⟩ := hr.hv.row hx
        refine Ac (zf 7 AH rfl (zl 1 Tryz.underlying25 rfl (zm rfl (Ag (v := .pointer (some (ad.add (k * 4)))) trivial rfl rfl (fun ρ w E H => BA (i := k) E rfl Tryz.underlying25 AZ rfl rfl hkl) (Ag (v := .pointer (some (ad.add (k * 4)))) trivial rfl rfl (fun ρ w E H => FU E rfl CV rfl) (Ag (v := .int .u64 (xs : Int)) trivial rfl rfl (fun ρ w E H => Em E ((hr.hv.below (H.toBelow ⟨(zq hg2), (zq hg1), trivial⟩)).rowA hx) rfl rfl rfl Tryz.underlying22 rfl) (zm rfl ?_)))))))
        refine zb rfl fun c221 hc221 => ?_
        refine zm rfl ?_
        cases c221
        ·refine zf 7 AH rfl (zl 1 Tryz.underlying25 rfl (zm rfl (Ag (v := .pointer (some (ad.add (k * 4)))) (gK rfl) rfl rfl (fun ρ w E H => BA (i := k) E rfl Tryz.underlying25 AZ rfl rfl hkl) (Ag (v := .pointer (some (ad.add (k * 4)))) (gK rfl) rfl rfl (fun ρ w E H => FU E rfl CV rfl) (Ag (v := .int .u64 (xs : Int)) (gK rfl) rfl rfl (fun ρ w E H => Em E ((hr.hv.below (H.toBelow ⟨(zq hg2), (zq hg1), trivial⟩)).rowA hx) rfl rfl rfl Tryz.underlying22 rfl) (zm rfl ?_))))))
         refine zb rfl fun c230 hc230 => ?_
         refine zp rfl (zm rfl ?_)
         cases c230
         ·refine zf 7 AH rfl (zl 1 Tryz.underlying25 rfl (zm rfl (Ag (v := .pointer (some (ad.add (k * 4)))) (gK rfl) rfl rfl (fun ρ w E H => BA (i := k) E rfl Tryz.underlying25 AZ rfl rfl hkl) (Ag (v := .pointer (some ((ad.add (k * 4)).add 1))) (gK rfl) rfl rfl (fun ρ w E H => Fb E rfl EB rfl) (Ag (v := .agg #[.int .u64 (xn : Int), .int .u8 (xr : Int)]) (gK rfl) rfl rfl (fun ρ w E H => C7 (cs := [.int .u64 (xn : Int), .int .u8 (xr : Int)]) E (RowAt.mid ((hr.hv.below (H.toBelow ⟨(zq hg2), (zq hg1), trivial⟩)).rowA hx) 1 2 rfl) rfl rfl Tryz.underlying24 rfl Bi) ?_)))))
          refine CN (b := (FD xn xr)) (gK rfl) rfl rfl (zk Eo rfl) (fun w H => LI xn xr w) fun c239 hc239 => ?_
          cases c239
          ·refine zn true rfl (zp rfl (Ad (Aa (Ap rfl (Ae (Ac (za rfl (Ad (Aa ?_)))))))))
           refine Am (Ak (AU (Ak (Ak (AU (Ak ?_))))))
           refine Ai (.bool false) (fun a w K H => BC K rfl rfl) (fun w H => ?_)
           have hq : false = Eb ⟨mk, mn, mr, mb, ms, mo, mv, vl, il, ⟨ca, cb, ck, cs, ct, cu, cz⟩, mc, mt⟩ := by
            unfold Eb; dsimp only
            have hI : ES 0 vl = false := by rw [hrel, hd]; grind [ES, AB]
            rw [hI]; simp
           exact ⟨by rw [← EN, ← hq], H.toBelow ⟨(zq hg2), (zq hg1), trivial⟩⟩
          ·refine zn false rfl (zp rfl (Ad (Aa (Ah rfl (Ax (Aa (Ac (zf 7 AH rfl (zl 1 Tryz.underlying25 rfl ?_)))))))))
           refine zm rfl (Ag (v := .pointer (some (ad.add (k * 4)))) trivial rfl rfl (fun ρ w E H => BA (i := k) E rfl Tryz.underlying25 AZ rfl rfl hkl) (Ag (v := .pointer (some (ad.add (k * 4)))) trivial rfl rfl (fun ρ w E H => FU E rfl CV rfl) (Ag (v := .int .u64 (xs : Int)) trivial rfl rfl (fun ρ w E H => Em E ((hr.hv.below (H.toBelow ⟨(zq hg2), (zq hg1), trivial⟩)).rowA hx) rfl rfl rfl Tryz.underlying22 rfl) (za rfl (Ad (AA (Aa (Ac (zm rfl ?_)))))))))
           refine Ag (v := .int .i64 ((k + 1 : Nat) : Int)) trivial rfl rfl (fun ρ w E H => BQ E rfl rfl rfl (by rw [IntKind.wrap_i64]; omega)) (za rfl (Ad ?_))
           refine B7 (gk - 1) (k + 1, xs) (by omega) ⟨by omega, by rw [hrel, hd]; grind [ES, AB]⟩ ⟨rfl, rfl, rfl, rfl, trivial⟩ [0, 1] rfl (by decide) ⟨.inl rfl, .inl rfl, trivial⟩
         ·refine zo rfl (zo rfl (zo rfl (zo rfl (zo rfl (zo rfl (zo rfl (zo rfl (zp rfl (Ad ?_)))))))))
          refine Aa (Ap rfl (Ae (Ac (za rfl (Ad (Aa (Am (Ak (AU ?_)))))))))
          refine Ak (Ak (AU (Ak ?_)))
          refine Ai (.bool false) (fun a w K H => BC K rfl rfl) (fun w H => ?_)
          have hq : false = Eb ⟨mk, mn, mr, mb, ms, mo, mv, vl, il, ⟨ca, cb, ck, cs, ct, cu, cz⟩, mc, mt⟩ := by
           unfold Eb; dsimp only
           have hI : ES 0 vl = false := by rw [hrel, hd]; grind [ES, AB]
           rw [hI]; simp
          exact ⟨by rw [← EN, ← hq], H.toBelow ⟨(zq hg2), (zq hg1), trivial⟩⟩
        ·refine zo rfl (zo rfl (zo rfl (zo rfl (zo rfl (zo rfl (zo rfl (zo rfl (zp rfl (zm rfl ?_)))))))))
         refine zo rfl (zo rfl (zo rfl (zo rfl (zo rfl (zo rfl (zo rfl (zo rfl (zp rfl (Ad ?_)))))))))
         refine Aa (Ap rfl (Ae (Ac (za rfl (Ad (Aa (Am (Ak (AU ?_)))))))))
         refine Ak (Ak (AU (Ak ?_)))
         refine Ai (.bool false) (fun a w K H => BC K rfl rfl) (fun w H => ?_)
         have hq : false = Eb ⟨mk, mn, mr, mb, ms, mo, mv, vl, il, ⟨ca, cb, ck, cs, ct, cu, cz⟩, mc, mt⟩ := by
          unfold Eb; dsimp only
          have hI : ES 0 vl = false := by rw [hrel, hd]; grind [ES, AB]
          rw [hI]; simp
         exact ⟨by rw [← EN, ← hq], H.toBelow ⟨(zq hg2), (zq hg1), trivial⟩⟩
      ·refine Ap rfl (Ae (Ac (za rfl (Ad (Aa (Am (Ak ?_)))))))
       refine Ai (.bool false) (fun a w K H => BC K rfl rfl) (fun w H => ?_)
       have hq : false = Eb ⟨mk, mn, mr, mb, ms, mo, mv, vl, il, ⟨ca, cb, ck, cs, ct, cu, cz⟩, mc, mt⟩ := by
        unfold Eb; dsimp only
        rw [← hb206]; simp
       exact ⟨by rw [← EN, ← hq], H.toBelow ⟨(zq hg2), (zq hg1), trivial⟩⟩
     ·refine Ap rfl (Ae (Ac (za rfl (Ad (Aa (Am (Ak ?_)))))))
      refine Ai (.bool false) (fun a w K H => BC K rfl rfl) (fun w H => ?_)
      have hq : false = Eb ⟨mk, mn, mr, mb, ms, mo, mv, vl, il, ⟨ca, cb, ck, cs, ct, cu, cz⟩, mc, mt⟩ := by
       unfold Eb; dsimp only
       rw [← hb175]; simp
      exact ⟨by rw [← EN, ← hq], H.toBelow ⟨(zq hg2), (zq hg1), trivial⟩⟩
    ·refine Ap rfl (Ae (Ac (za rfl (Ad (Aa (Am (Ak ?_)))))))
     refine Ai (.bool false) (fun a w K H => BC K rfl rfl) (fun w H => ?_)
     have hq : false = Eb ⟨mk, mn, mr, mb, ms, mo, mv, vl, il, ⟨ca, cb, ck, cs, ct, cu, cz⟩, mc, mt⟩ := by
      unfold Eb; dsimp only
      rw [← hb127]; simp
     exact ⟨by rw [← EN, ← hq], H.toBelow ⟨(zq hg2), (zq hg1), trivial⟩⟩
   ·refine Ap rfl (Ae (Ac (za rfl (Ad (Aa (Am (Ak ?_)))))))
    refine Ai (.bool false) (fun a w K H => BC K rfl rfl) (fun w H => ?_)
    have hq : false = Eb ⟨mk, mn, mr, mb, ms, mo, mv, vl, il, ⟨ca, cb, ck, cs, ct, cu, cz⟩, mc, mt⟩ := by
     unfold Eb; dsimp only
     rw [← hb90]; simp
    exact ⟨by rw [← EN, ← hq], H.toBelow ⟨(zq hg2), (zq hg1), trivial⟩⟩
  ·refine Ap rfl (Ae (Ac (za rfl (Ad (Aa (Am (Ak ?_)))))))
   refine Ai (.bool false) (fun a w K H => BC K rfl rfl) (fun w H => ?_)
   have hq : false = Eb ⟨mk, mn, mr, mb, ms, mo, mv, vl, il, ⟨ca, cb, ck, cs, ct, cu, cz⟩, mc, mt⟩ := by
    unfold Eb; dsimp only
    rw [← hb62]; simp
   exact ⟨by rw [← EN, ← hq], H.toBelow ⟨(zq hg2), (zq hg1), trivial⟩⟩
 ·refine Ap rfl (Ae (Ac (za rfl (Ad (Aa (Am (Ak ?_)))))))
  refine Ai (.bool false) (fun a w K H => BC K rfl rfl) (fun w H => ?_)
  have hq : false = Eb ⟨mk, mn, mr, mb, ms, mo, mv, vl, il, ⟨ca, cb, ck, cs, ct, cu, cz⟩, mc, mt⟩ := by
   unfold Eb; dsimp only
   rw [hc11]; simp
  exact ⟨by rw [← EN, ← hq], H.toBelow ⟨(zq hg1), trivial⟩⟩

theorem KZ (m : Ms) (A B : Option Addr) (ka kb : Nat) (w : World) (hf : m.Fits) (hs : m.Small) (hr : MsRows w m A B) : Calls Tryz.prog 16 #[msV m A ka B kb] w fun e w' => e = .returned (.bool (C9 m)) ∧ Below w.heap.size w w' := by
 obtain ⟨mk, mn, mr, mb, ms, mo, mv, vl, il, ⟨ca, cb, ck, cs, ct, cu, cz⟩, mc, mt⟩ := m
 exact Vp _ _ _ _ _ _ _ _ _ _ _ _ _ _ _ _ _ _ _ _ _ _ w hf hs hr
end Go.Proofs.YteiaiilfekojfaaGreat.Msg
end
section
namespace Go.Proofs.YteiaiilfekojfaaGreat.Cmd
open Go.RowKit Wire DrawInv

def IsOne (W : World) (v : Value) (x : Nat) : Prop := ∃ g, v = .slice (some ⟨g, 0, none⟩) 1 1 ∧ Reads W W.heap.size 1 (some ⟨g, 0, none⟩) 1 (bv [UInt8.ofNat x])
theorem IsOne.below {w w' : World} {v : Value} {x : Nat} (h : IsOne w v x) (hb : Below w.heap.size w w') : IsOne w' v x := by
 obtain ⟨g, e, r⟩ := h
 exact ⟨g, e, (r.below hb).more hb.size⟩
def VA (c : Cm) (tm : List Value) (k : Nat) (v : Value) (W : World) : Prop :=
 if k = 5 then IsOne W v c.client else if k = 14 then IsOne W v c.kind else if k = 31 then IsOne W v c.set else v = tm.getD k undef
theorem Rn (c : Cm) (tm : List Value) (k : Nat) (v : Value) (w w' : World) (h : VA c tm k v w) (hb : Below w.heap.size w w') : VA c tm k v w' := by
 unfold VA at *
 by_cases h1 : k = 5
 ·rw [if_pos h1] at h ⊢; exact h.below hb
 rw [if_neg h1] at h ⊢
 by_cases h2 : k = 14
 ·rw [if_pos h2] at h ⊢; exact h.below hb
 rw [if_neg h2] at h ⊢
 by_cases h3 : k = 31
 ·rw [if_pos h3] at h ⊢; exact h.below hb
 rw [if_neg h3] at h ⊢
 exact h
set_option linter.unusedSimpArgs false in
set_option maxRecDepth 100000 in
set_option maxHeartbeats 4000000 in
theorem refOne_any (c : Cm) (hc : c.Fits) (hk : c.key.length ≤ 1000) (ho : c.old.length ≤ 1000) (hn : c.new.length ≤ 1000) (w : World) : Calls Tryz.prog 53 #[cmV c] w fun e w' => Mc w (oneB c) e w' := by
 have h1 := hc.h1
 have h2 := hc.h2
 have h3 := hc.h3
 have h7 := hc.h7
 have kb := Blk.new w 29 (cmC c)
 have hB1 : Below w.heap.size w (w.alloc (.cells (cmC c) 29)) := (Below.refl _ w).alloc (Nat.le_refl _) _
 have HB1 := Lib.hid hB1
 clear hB1
 have hwr : IntKind.u64.wrap (c.seq : Int) = (c.seq : Int) := by rw [IntKind.wrap_u64]; omega
 have lns := (B0 c.seq (by omega)).1
 have lsk : (CM c.key).length ≤ 1009 := by unfold CM; rw [List.length_append]; have := (B0 c.key.length (by omega)).1; omega
 have lso : (CM c.old).length ≤ 1009 := by unfold CM; rw [List.length_append]; have := (B0 c.old.length (by omega)).1; omega
 have lsn : (CM c.new).length ≤ 1009 := by unfold CM; rw [List.length_append]; have := (B0 c.new.length (by omega)).1; omega
 obtain ⟨L1, hL1⟩ : ∃ L, L = [UInt8.ofNat c.client] ++ BI c.seq := ⟨_, rfl⟩
 obtain ⟨L2, hL2⟩ : ∃ L, L = L1 ++ [UInt8.ofNat c.kind] := ⟨_, rfl⟩
 obtain ⟨L3, hL3⟩ : ∃ L, L = L2 ++ CM c.key := ⟨_, rfl⟩
 obtain ⟨L4, hL4⟩ : ∃ L, L = L3 ++ CM c.old := ⟨_, rfl⟩
 obtain ⟨L5, hL5⟩ : ∃ L, L = L4 ++ CM c.new := ⟨_, rfl⟩
 obtain ⟨L6, hL6⟩ : ∃ L, L = L5 ++ [UInt8.ofNat c.set] := ⟨_, rfl⟩
 have ad1 := I0 ([UInt8.ofNat c.client]) (BI c.seq)
 rw [← hL1] at ad1
 have ad2 := I0 (L1) ([UInt8.ofNat c.kind])
 rw [← hL2] at ad2
 have ad3 := I0 (L2) (CM c.key)
 rw [← hL3] at ad3
 have ad4 := I0 (L3) (CM c.old)
 rw [← hL4] at ad4
 have ad5 := I0 (L4) (CM c.new)
 rw [← hL5] at ad5
 have ad6 := I0 (L5) ([UInt8.ofNat c.set])
 rw [← hL6] at ad6
 have ln1 : L1.length ≤ 10 := by rw [hL1, List.length_append]; (try simp only [List.length_cons, List.length_nil]); omega
 have ln2 : L2.length ≤ 11 := by rw [hL2, List.length_append]; (try simp only [List.length_cons, List.length_nil]); omega
 have ln3 : L3.length ≤ 1020 := by rw [hL3, List.length_append]; (try simp only [List.length_cons, List.length_nil]); omega
 have ln4 : L4.length ≤ 2029 := by rw [hL4, List.length_append]; (try simp only [List.length_cons, List.length_nil]); omega
 have ln5 : L5.length ≤ 3038 := by rw [hL5, List.length_append]; (try simp only [List.length_cons, List.length_nil]); omega
 have ln6 : L6.length ≤ 3039 := by rw [hL6, List.length_append]; (try simp only [List.length_cons, List.length_nil]); omega
 have lt1 : ¬ (9223372036854775807 < ([UInt8.ofNat c.client]).length + (BI c.seq).length) := by (try simp only [List.length_cons, List.length_nil]); omega
 have lt2 : ¬ (9223372036854775807 < (L1).length + ([UInt8.ofNat c.kind]).length) := by (try simp only [List.length_cons, List.length_nil]); omega
 have lt3 : ¬ (9223372036854775807 < (L2).length + (CM c.key).length) := by (try simp only [List.length_cons, List.length_nil]); omega
 have lt4 : ¬ (9223372036854775807 < (L3).length + (CM c.old).length) := by (try simp only [List.length_cons, List.length_nil]); omega
 have lt5 : ¬ (9223372036854775807 < (L4).length + (CM c.new).length) := by (try simp only [List.length_cons, List.length_nil]); omega
 have lt6 : ¬ (9223372036854775807 < (L5).length + ([UInt8.ofNat c.set]).length) := by (try simp only [List.length_cons, List.length_nil]); omega
 have hres : L6 = oneB c := by rw [hL6, hL5, hL4, hL3, hL2, hL1]; unfold oneB; simp
 clear hL1 hL2 hL3 hL4 hL5 hL6
 have sz1 := size_str L1
 have sz2 := size_str L2
 have sz3 := size_str L3
 have sz4 := size_str L4
 have sz5 := size_str L5
 have sz6 := size_str L6
 unfold cmV
 unfold cmC at *
 go_enter Tryz.func53, Tryz.ntmps53
 go_upto_region 1 with fail
 have kd := kb.drew
 generalize hw1 : w.alloc (.cells #[.int .u8 (c.client : Int), .int .u32 (c.seq : Int), .int .u8 (c.kind : Int), .string ⟨(c.key).toArray⟩, .string ⟨(c.old).toArray⟩, .string ⟨(c.new).toArray⟩, .int .u8 (c.set : Int)] 29) = w1 at *
 have k0 : w1.drew.cell? ⟨w.heap.size, 0, none⟩ = some (.int .u8 (c.client : Int)) := kd.cell 0
 have k1 : w1.drew.cell? ⟨w.heap.size, 1, none⟩ = some (.int .u32 (c.seq : Int)) := kd.cell 1
 have k2 : w1.drew.cell? ⟨w.heap.size, 2, none⟩ = some (.int .u8 (c.kind : Int)) := kd.cell 2
 have k3 : w1.drew.cell? ⟨w.heap.size, 3, none⟩ = some (.string ⟨(c.key).toArray⟩) := kd.cell 3
 have k4 : w1.drew.cell? ⟨w.heap.size, 4, none⟩ = some (.string ⟨(c.old).toArray⟩) := kd.cell 4
 have k5 : w1.drew.cell? ⟨w.heap.size, 5, none⟩ = some (.string ⟨(c.new).toArray⟩) := kd.cell 5
 have k6 : w1.drew.cell? ⟨w.heap.size, 6, none⟩ = some (.int .u8 (c.set : Int)) := kd.cell 6
 have hlt : w.heap.size < w1.drew.heap.size := kd.lt
 refine Rb (by kernel_rfl) (VA c [.agg #[.int .u8 (c.client : Int), .int .u32 (c.seq : Int), .int .u8 (c.kind : Int), .string ⟨(c.key).toArray⟩, .string ⟨(c.old).toArray⟩, .string ⟨(c.new).toArray⟩, .int .u8 (c.set : Int)], .pointer (some ⟨w.heap.size, 0, none⟩), .string ⟨(L6).toArray⟩, .pointer (some ⟨w.heap.size, 0, none⟩), .int .u8 (c.client : Int), undef, .string ⟨([UInt8.ofNat c.client]).toArray⟩, .pointer (some ⟨w.heap.size, 1, none⟩), .int .u32 (c.seq : Int), .int .u64 (c.seq : Int), .string ⟨(BI c.seq).toArray⟩, .string ⟨(L1).toArray⟩, .pointer (some ⟨w.heap.size, 2, none⟩), .int .u8 (c.kind : Int), undef, .string ⟨([UInt8.ofNat c.kind]).toArray⟩, .string ⟨(L2).toArray⟩, .pointer (some ⟨w.heap.size, 3, none⟩), .string ⟨(c.key).toArray⟩, .string ⟨(CM c.key).toArray⟩, .string ⟨(L3).toArray⟩, .pointer (some ⟨w.heap.size, 4, none⟩), .string ⟨(c.old).toArray⟩, .string ⟨(CM c.old).toArray⟩, .string ⟨(L4).toArray⟩, .pointer (some ⟨w.heap.size, 5, none⟩), .string ⟨(c.new).toArray⟩, .string ⟨(CM c.new).toArray⟩, .string ⟨(L5).toArray⟩, .pointer (some ⟨w.heap.size, 6, none⟩), .int .u8 (c.set : Int), undef, .string ⟨([UInt8.ofNat c.set]).toArray⟩, .string ⟨(L6).toArray⟩]) [0, 1] (by kernel_rfl) (by kernel_rfl) rfl (by kernel_rfl) (Rn _ _) ?_ ?_ ?_ ?_
 ·intro k hk
  rcases List.mem_cons.1 hk with rfl | hk
  ·rfl
  ·obtain rfl := List.mem_singleton.1 hk
   rfl
 ·intro k hk
  have hk : 34 ≤ k := hk
  unfold VA
  rw [if_neg (by omega), if_neg (by omega), if_neg (by omega)]
  rw [List.getD_eq_getElem?_getD, List.getElem?_eq_none (by simpa using hk)]
  rfl
 ·refine And.intro ?_ ?_
  ·intro d hd ρ W hcs bw hn hg
   refine .inl ⟨trivial, ?_⟩
   clear hg
   cases hd
   have e1 : ρ (.tmp 1) = .pointer (some ⟨w.heap.size, 0, none⟩) := hn 1 (by decide)
   refine .inl ⟨.pointer (some ⟨w.heap.size, 0, none⟩), W, ?_, rfl, Below.refl _ _⟩
   clear hn
   go_simp
  refine And.intro ?_ ?_
  ·intro d hd ρ W hcs bw hn hg
   refine .inl ⟨trivial, ?_⟩
   clear hg
   cases hd
   have e3 : ρ (.tmp 3) = .pointer (some ⟨w.heap.size, 0, none⟩) := hn 3 (by decide)
   have kx : W.cell? ⟨w.heap.size, 0, none⟩ = some (.int .u8 (c.client : Int)) := (bw.cell hlt).trans k0
   refine .inl ⟨.int .u8 (c.client : Int), W, ?_, rfl, Below.refl _ _⟩
   clear hn
   go_simp
  refine And.intro ?_ ?_
  ·intro d hd ρ W hcs bw hn hg
   refine .inl ⟨trivial, ?_⟩
   clear hg
   cases hd
   have e4 : ρ (.tmp 4) = .int .u8 (c.client : Int) := hn 4 (by decide)
   refine .inl ⟨.slice (some ⟨W.heap.size, 0, none⟩) 1 1, W.alloc (.cells #[.int .u8 (c.client : Int)] 5), ?_, ⟨W.heap.size, rfl, IG W (by omega)⟩, (Below.refl _ W).alloc (Nat.le_refl _) _⟩
   clear hn
   go_simp
  refine And.intro ?_ ?_
  ·intro d hd ρ W hcs bw hn hg
   refine .inl ⟨trivial, ?_⟩
   clear hg
   cases hd
   have e5 : IsOne W (ρ (.tmp 5)) c.client := hn 5 (by decide)
   obtain ⟨g, eg, rg⟩ := e5
   refine .inl ⟨.string ⟨([UInt8.ofNat c.client]).toArray⟩, W, ?_, rfl, Below.refl _ _⟩
   have hcv := Ih Tryz.underlying103 Tryz.underlying5 Tryz.underlying9 1 rg
   clear hn
   go_simp
  refine And.intro ?_ ?_
  ·intro d hd ρ W hcs bw hn hg
   refine .inl ⟨trivial, ?_⟩
   clear hg
   cases hd
   have e1 : ρ (.tmp 1) = .pointer (some ⟨w.heap.size, 0, none⟩) := hn 1 (by decide)
   refine .inl ⟨.pointer (some ⟨w.heap.size, 1, none⟩), W, ?_, rfl, Below.refl _ _⟩
   clear hn
   go_simp
  refine And.intro ?_ ?_
  ·intro d hd ρ W hcs bw hn hg
   refine .inl ⟨trivial, ?_⟩
   clear hg
   cases hd
   have e7 : ρ (.tmp 7) = .pointer (some ⟨w.heap.size, 1, none⟩) := hn 7 (by decide)
   have kx : W.cell? ⟨w.heap.size, 1, none⟩ = some (.int .u32 (c.seq : Int)) := (bw.cell hlt).trans k1
   refine .inl ⟨.int .u32 (c.seq : Int), W, ?_, rfl, Below.refl _ _⟩
   clear hn
   go_simp
  refine And.intro ?_ ?_
  ·intro d hd ρ W hcs bw hn hg
   refine .inl ⟨trivial, ?_⟩
   clear hg
   cases hd
   have e8 : ρ (.tmp 8) = .int .u32 (c.seq : Int) := hn 8 (by decide)
   refine .inl ⟨.int .u64 (c.seq : Int), W, ?_, rfl, Below.refl _ _⟩
   clear hn
   go_simp
  refine And.intro ?_ ?_
  ·intro d hd ρ W hcs bw hn hg
   refine .inl ⟨trivial, ?_⟩
   clear hg
   cases hd
   have e9 : ρ (.tmp 9) = .int .u64 (c.seq : Int) := hn 9 (by decide)
   have ef : ρ (.func 52) = .func (.func 52) #[] #[] := hcs.2 _
   refine .inr ⟨52, #[.int .u64 (c.seq : Int)], ?_, (DD c.seq (by omega) W).mono ?_⟩
   ·clear hn; go_simp
   ·rintro e w2 ⟨rfl, B2⟩; exact ⟨_, rfl, rfl, B2⟩
  refine And.intro ?_ ?_
  ·intro d hd ρ W hcs bw hn hg
   refine .inl ⟨trivial, ?_⟩
   clear hg
   cases hd
   have e6 : ρ (.tmp 6) = .string ⟨([UInt8.ofNat c.client]).toArray⟩ := hn 6 (by decide)
   have e10 : ρ (.tmp 10) = .string ⟨(BI c.seq).toArray⟩ := hn 10 (by decide)
   refine .inl ⟨.string ⟨(L1).toArray⟩, W, ?_, rfl, Below.refl _ _⟩
   clear hn
   go_simp <;> omega
  refine And.intro ?_ ?_
  ·intro d hd ρ W hcs bw hn hg
   refine .inl ⟨trivial, ?_⟩
   clear hg
   cases hd
   have e1 : ρ (.tmp 1) = .pointer (some ⟨w.heap.size, 0, none⟩) := hn 1 (by decide)
   refine .inl ⟨.pointer (some ⟨w.heap.size, 2, none⟩), W, ?_, rfl, Below.refl _ _⟩
   clear hn
   go_simp
  refine And.intro ?_ ?_
  ·intro d hd ρ W hcs bw hn hg
   refine .inl ⟨trivial, ?_⟩
   clear hg
   cases hd
   have e12 : ρ (.tmp 12) = .pointer (some ⟨w.heap.size, 2, none⟩) := hn 12 (by decide)
   have kx : W.cell? ⟨w.heap.size, 2, none⟩ = some (.int .u8 (c.kind : Int)) := (bw.cell hlt).trans k2
   refine .inl ⟨.int .u8 (c.kind : Int), W, ?_, rfl, Below.refl _ _⟩
   clear hn
   go_simp
  refine And.intro ?_ ?_
  ·intro d hd ρ W hcs bw hn hg
   refine .inl ⟨trivial, ?_⟩
   clear hg
   cases hd
   have e13 : ρ (.tmp 13) = .int .u8 (c.kind : Int) := hn 13 (by decide)
   refine .inl ⟨.slice (some ⟨W.heap.size, 0, none⟩) 1 1, W.alloc (.cells #[.int .u8 (c.kind : Int)] 5), ?_, ⟨W.heap.size, rfl, IG W (by omega)⟩, (Below.refl _ W).alloc (Nat.le_refl _) _⟩
   clear hn
   go_simp
  refine And.intro ?_ ?_
  ·intro d hd ρ W hcs bw hn hg
   refine .inl ⟨trivial, ?_⟩
   clear hg
   cases hd
   have e14 : IsOne W (ρ (.tmp 14)) c.kind := hn 14 (by decide)
   obtain ⟨g, eg, rg⟩ := e14
   refine .inl ⟨.string ⟨([UInt8.ofNat c.kind]).toArray⟩, W, ?_, rfl, Below.refl _ _⟩
   have hcv := Ih Tryz.underlying103 Tryz.underlying5 Tryz.underlying9 1 rg
   clear hn
   go_simp
  refine And.intro ?_ ?_
  ·intro d hd ρ W hcs bw hn hg
   refine .inl ⟨trivial, ?_⟩
   clear hg
   cases hd
   have e11 : ρ (.tmp 11) = .string ⟨(L1).toArray⟩ := hn 11 (by decide)
   have e15 : ρ (.tmp 15) = .string ⟨([UInt8.ofNat c.kind]).toArray⟩ := hn 15 (by decide)
   refine .inl ⟨.string ⟨(L2).toArray⟩, W, ?_, rfl, Below.refl _ _⟩
   clear hn
   go_simp <;> omega
  refine And.intro ?_ ?_
  ·intro d hd ρ W hcs bw hn hg
   refine .inl ⟨trivial, ?_⟩
   clear hg
   cases hd
   have e1 : ρ (.tmp 1) = .pointer (some ⟨w.heap.size, 0, none⟩) := hn 1 (by decide)
   refine .inl ⟨.pointer (some ⟨w.heap.size, 3, none⟩), W, ?_, rfl, Below.refl _ _⟩
   clear hn
   go_simp
  refine And.intro ?_ ?_
  ·intro d hd ρ W hcs bw hn hg
   refine .inl ⟨trivial, ?_⟩
   clear hg
   cases hd
   have e17 : ρ (.tmp 17) = .pointer (some ⟨w.heap.size, 3, none⟩) := hn 17 (by decide)
   have kx : W.cell? ⟨w.heap.size, 3, none⟩ = some (.string ⟨(c.key).toArray⟩) := (bw.cell hlt).trans k3
   refine .inl ⟨.string ⟨(c.key).toArray⟩, W, ?_, rfl, Below.refl _ _⟩
   clear hn
   go_simp
  refine And.intro ?_ ?_
  ·intro d hd ρ W hcs bw hn hg
   refine .inl ⟨trivial, ?_⟩
   clear hg
   cases hd
   have e18 : ρ (.tmp 18) = .string ⟨(c.key).toArray⟩ := hn 18 (by decide)
   have ef : ρ (.func 54) = .func (.func 54) #[] #[] := hcs.2 _
   refine .inr ⟨54, #[.string ⟨(c.key).toArray⟩], ?_, (Fj c.key (by omega) W).mono ?_⟩
   ·clear hn; go_simp
   ·rintro e w2 ⟨rfl, B2⟩; exact ⟨_, rfl, rfl, B2⟩
  refine And.intro ?_ ?_
  ·intro d hd ρ W hcs bw hn hg
   refine .inl ⟨trivial, ?_⟩
   clear hg
   cases hd
   have e16 : ρ (.tmp 16) = .string ⟨(L2).toArray⟩ := hn 16 (by decide)
   have e19 : ρ (.tmp 19) = .string ⟨(CM c.key).toArray⟩ := hn 19 (by decide)
   refine .inl ⟨.string ⟨(L3).toArray⟩, W, ?_, rfl, Below.refl _ _⟩
   clear hn
   go_simp <;> omega
  refine And.intro ?_ ?_
  ·intro d hd ρ W hcs bw hn hg
   refine .inl ⟨trivial, ?_⟩
   clear hg
   cases hd
   have e1 : ρ (.tmp 1) = .pointer (some ⟨w.heap.size, 0, none⟩) := hn 1 (by decide)
   refine .inl ⟨.pointer (some ⟨w.heap.size, 4, none⟩), W, ?_, rfl, Below.refl _ _⟩
   clear hn
   go_simp
  refine And.intro ?_ ?_
  ·intro d hd ρ W hcs bw hn hg
   refine .inl ⟨trivial, ?_⟩
   clear hg
   cases hd
   have e21 : ρ (.tmp 21) = .pointer (some ⟨w.heap.size, 4, none⟩) := hn 21 (by decide)
   have kx : W.cell? ⟨w.heap.size, 4, none⟩ = some (.string ⟨(c.old).toArray⟩) := (bw.cell hlt).trans k4
   refine .inl ⟨.string ⟨(c.old).toArray⟩, W, ?_, rfl, Below.refl _ _⟩
   clear hn
   go_simp
  refine And.intro ?_ ?_
  ·intro d hd ρ W hcs bw hn hg
   refine .inl ⟨trivial, ?_⟩
   clear hg
   cases hd
   have e22 : ρ (.tmp 22) = .string ⟨(c.old).toArray⟩ := hn 22 (by decide)
   have ef : ρ (.func 54) = .func (.func 54) #[] #[] := hcs.2 _
   refine .inr ⟨54, #[.string ⟨(c.old).toArray⟩], ?_, (Fj c.old (by omega) W).mono ?_⟩
   ·clear hn; go_simp
   ·rintro e w2 ⟨rfl, B2⟩; exact ⟨_, rfl, rfl, B2⟩
  refine And.intro ?_ ?_
  ·intro d hd ρ W hcs bw hn hg
   refine .inl ⟨trivial, ?_⟩
   clear hg
   cases hd
   have e20 : ρ (.tmp 20) = .string ⟨(L3).toArray⟩ := hn 20 (by decide)
   have e23 : ρ (.tmp 23) = .string ⟨(CM c.old).toArray⟩ := hn 23 (by decide)
   refine .inl ⟨.string ⟨(L4).toArray⟩, W, ?_, rfl, Below.refl _ _⟩
   clear hn
   go_simp <;> omega
  refine And.intro ?_ ?_
  ·intro d hd ρ W hcs bw hn hg
   refine .inl ⟨trivial, ?_⟩
   clear hg
   cases hd
   have e1 : ρ (.tmp 1) = .pointer (some ⟨w.heap.size, 0, none⟩) := hn 1 (by decide)
   refine .inl ⟨.pointer (some ⟨w.heap.size, 5, none⟩), W, ?_, rfl, Below.refl _ _⟩
   clear hn
   go_simp
  refine And.intro ?_ ?_
  ·intro d hd ρ W hcs bw hn hg
   refine .inl ⟨trivial, ?_⟩
   clear hg
   cases hd
   have e25 : ρ (.tmp 25) = .pointer (some ⟨w.heap.size, 5, none⟩) := hn 25 (by decide)
   have kx : W.cell? ⟨w.heap.size, 5, none⟩ = some (.string ⟨(c.new).toArray⟩) := (bw.cell hlt).trans k5
   refine .inl ⟨.string ⟨(c.new).toArray⟩, W, ?_, rfl, Below.refl _ _⟩
   clear hn
   go_simp
  refine And.intro ?_ ?_
  ·intro d hd ρ W hcs bw hn hg
   refine .inl ⟨trivial, ?_⟩
   clear hg
   cases hd
   have e26 : ρ (.tmp 26) = .string ⟨(c.new).toArray⟩ := hn 26 (by decide)
   have ef : ρ (.func 54) = .func (.func 54) #[] #[] := hcs.2 _
   refine .inr ⟨54, #[.string ⟨(c.new).toArray⟩], ?_, (Fj c.new (by omega) W).mono ?_⟩
   ·clear hn; go_simp
   ·rintro e w2 ⟨rfl, B2⟩; exact ⟨_, rfl, rfl, B2⟩
  refine And.intro ?_ ?_
  ·intro d hd ρ W hcs bw hn hg
   refine .inl ⟨trivial, ?_⟩
   clear hg
   cases hd
   have e24 : ρ (.tmp 24) = .string ⟨(L4).toArray⟩ := hn 24 (by decide)
   have e27 : ρ (.tmp 27) = .string ⟨(CM c.new).toArray⟩ := hn 27 (by decide)
   refine .inl ⟨.string ⟨(L5).toArray⟩, W, ?_, rfl, Below.refl _ _⟩
   clear hn
   go_simp <;> omega
  refine And.intro ?_ ?_
  ·intro d hd ρ W hcs bw hn hg
   refine .inl ⟨trivial, ?_⟩
   clear hg
   cases hd
   have e1 : ρ (.tmp 1) = .pointer (some ⟨w.heap.size, 0, none⟩) := hn 1 (by decide)
   refine .inl ⟨.pointer (some ⟨w.heap.size, 6, none⟩), W, ?_, rfl, Below.refl _ _⟩
   clear hn
   go_simp
  refine And.intro ?_ ?_
  ·intro d hd ρ W hcs bw hn hg
   refine .inl ⟨trivial, ?_⟩
   clear hg
   cases hd
   have e29 : ρ (.tmp 29) = .pointer (some ⟨w.heap.size, 6, none⟩) := hn 29 (by decide)
   have kx : W.cell? ⟨w.heap.size, 6, none⟩ = some (.int .u8 (c.set : Int)) := (bw.cell hlt).trans k6
   refine .inl ⟨.int .u8 (c.set : Int), W, ?_, rfl, Below.refl _ _⟩
   clear hn
   go_simp
  refine And.intro ?_ ?_
  ·intro d hd ρ W hcs bw hn hg
   refine .inl ⟨trivial, ?_⟩
   clear hg
   cases hd
   have e30 : ρ (.tmp 30) = .int .u8 (c.set : Int) := hn 30 (by decide)
   refine .inl ⟨.slice (some ⟨W.heap.size, 0, none⟩) 1 1, W.alloc (.cells #[.int .u8 (c.set : Int)] 5), ?_, ⟨W.heap.size, rfl, IG W (by omega)⟩, (Below.refl _ W).alloc (Nat.le_refl _) _⟩
   clear hn
   go_simp
  refine And.intro ?_ ?_
  ·intro d hd ρ W hcs bw hn hg
   refine .inl ⟨trivial, ?_⟩
   clear hg
   cases hd
   have e31 : IsOne W (ρ (.tmp 31)) c.set := hn 31 (by decide)
   obtain ⟨g, eg, rg⟩ := e31
   refine .inl ⟨.string ⟨([UInt8.ofNat c.set]).toArray⟩, W, ?_, rfl, Below.refl _ _⟩
   have hcv := Ih Tryz.underlying103 Tryz.underlying5 Tryz.underlying9 1 rg
   clear hn
   go_simp
  refine And.intro ?_ ?_
  ·intro d hd ρ W hcs bw hn hg
   refine .inl ⟨trivial, ?_⟩
   clear hg
   cases hd
   have e28 : ρ (.tmp 28) = .string ⟨(L5).toArray⟩ := hn 28 (by decide)
   have e32 : ρ (.tmp 32) = .string ⟨([UInt8.ofNat c.set]).toArray⟩ := hn 32 (by decide)
   refine .inl ⟨.string ⟨(L6).toArray⟩, W, ?_, rfl, Below.refl _ _⟩
   clear hn
   go_simp <;> omega
  refine And.intro ?_ ?_
  ·intro d hd ρ W hcs bw hn hg
   refine .inl ⟨trivial, ?_⟩
   clear hg
   cases hd
   have e33 : ρ (.tmp 33) = .string ⟨(L6).toArray⟩ := hn 33 (by decide)
   refine .inl ⟨.string ⟨(L6).toArray⟩, W, ?_, rfl, Below.refl _ _⟩
   show Result.ok (Next.value (ρ (.tmp 33))) W = _
   rw [e33]
  trivial
 ·intro a' w' hsz hdf hb hVs
  have hr : a'.eval (.tmp 2) = .string ⟨(L6).toArray⟩ := hVs 2
  have q0 : a'.eval (.tmp 0) = .agg #[.int .u8 (c.client : Int), .int .u32 (c.seq : Int), .int .u8 (c.kind : Int), .string ⟨(c.key).toArray⟩, .string ⟨(c.old).toArray⟩, .string ⟨(c.new).toArray⟩, .int .u8 (c.set : Int)] := hVs 0
  have q1 : a'.eval (.tmp 1) = .pointer (some ⟨w.heap.size, 0, none⟩) := hVs 1
  have q2 : a'.eval (.tmp 2) = .string ⟨(L6).toArray⟩ := hVs 2
  have q3 : a'.eval (.tmp 3) = .pointer (some ⟨w.heap.size, 0, none⟩) := hVs 3
  have q4 : a'.eval (.tmp 4) = .int .u8 (c.client : Int) := hVs 4
  have q6 : a'.eval (.tmp 6) = .string ⟨([UInt8.ofNat c.client]).toArray⟩ := hVs 6
  have q7 : a'.eval (.tmp 7) = .pointer (some ⟨w.heap.size, 1, none⟩) := hVs 7
  have q8 : a'.eval (.tmp 8) = .int .u32 (c.seq : Int) := hVs 8
  have q9 : a'.eval (.tmp 9) = .int .u64 (c.seq : Int) := hVs 9
  have q10 : a'.eval (.tmp 10) = .string ⟨(BI c.seq).toArray⟩ := hVs 10
  have q11 : a'.eval (.tmp 11) = .string ⟨(L1).toArray⟩ := hVs 11
  have q12 : a'.eval (.tmp 12) = .pointer (some ⟨w.heap.size, 2, none⟩) := hVs 12
  have q13 : a'.eval (.tmp 13) = .int .u8 (c.kind : Int) := hVs 13
  have q15 : a'.eval (.tmp 15) = .string ⟨([UInt8.ofNat c.kind]).toArray⟩ := hVs 15
  have q16 : a'.eval (.tmp 16) = .string ⟨(L2).toArray⟩ := hVs 16
  have q17 : a'.eval (.tmp 17) = .pointer (some ⟨w.heap.size, 3, none⟩) := hVs 17
  have q18 : a'.eval (.tmp 18) = .string ⟨(c.key).toArray⟩ := hVs 18
  have q19 : a'.eval (.tmp 19) = .string ⟨(CM c.key).toArray⟩ := hVs 19
  have q20 : a'.eval (.tmp 20) = .string ⟨(L3).toArray⟩ := hVs 20
  have q21 : a'.eval (.tmp 21) = .pointer (some ⟨w.heap.size, 4, none⟩) := hVs 21
  have q22 : a'.eval (.tmp 22) = .string ⟨(c.old).toArray⟩ := hVs 22
  have q23 : a'.eval (.tmp 23) = .string ⟨(CM c.old).toArray⟩ := hVs 23
  have q24 : a'.eval (.tmp 24) = .string ⟨(L4).toArray⟩ := hVs 24
  have q25 : a'.eval (.tmp 25) = .pointer (some ⟨w.heap.size, 5, none⟩) := hVs 25
  have q26 : a'.eval (.tmp 26) = .string ⟨(c.new).toArray⟩ := hVs 26
  have q27 : a'.eval (.tmp 27) = .string ⟨(CM c.new).toArray⟩ := hVs 27
  have q28 : a'.eval (.tmp 28) = .string ⟨(L5).toArray⟩ := hVs 28
  have q29 : a'.eval (.tmp 29) = .pointer (some ⟨w.heap.size, 6, none⟩) := hVs 29
  have q30 : a'.eval (.tmp 30) = .int .u8 (c.set : Int) := hVs 30
  have q32 : a'.eval (.tmp 32) = .string ⟨([UInt8.ofNat c.set]).toArray⟩ := hVs 32
  have q33 : a'.eval (.tmp 33) = .string ⟨(L6).toArray⟩ := hVs 33
  have ha := US a' 34 hsz hdf
  rw [show List.range 34 = [0, 1, 2, 3, 4, 5, 6, 7, 8, 9, 10, 11, 12, 13, 14, 15, 16, 17, 18, 19, 20, 21, 22, 23, 24, 25, 26, 27, 28, 29, 30, 31, 32, 33] from rfl] at ha
  simp only [List.map_cons, List.map_nil, q0, q1, q2, q3, q4, q6, q7, q8, q9, q10, q11, q12, q13, q15, q16, q17, q18, q19, q20, q21, q22, q23, q24, q25, q26, q27, q28, q29, q30, q32, q33] at ha
  generalize a'.eval (.tmp 5) = x5 at ha
  generalize a'.eval (.tmp 14) = x14 at ha
  generalize a'.eval (.tmp 31) = x31 at ha
  subst ha
  have bw := HB1.out.drew.trans (hb.mono HB1.out.drew.size)
  clear hVs hr
  go_wp2
  go_ret
  exact ⟨by rw [← hres]; rfl, bw⟩
end Go.Proofs.YteiaiilfekojfaaGreat.Cmd
end
section
set_option linter.unusedVariables false
set_option linter.unusedSimpArgs false
namespace Go.Proofs.YteiaiilfekojfaaGreat.Msg
open Go.RowKit Sx Wire DrawInv
theorem Iz (x : Nat) (h : x < 256) : [Value.int .u8 (x : Int)] = bv [UInt8.ofNat x] := by
 show _ = [Value.int .u8 ((UInt8.ofNat x).toNat : Int)]
 rw [show (UInt8.ofNat x).toNat = x from by simp; omega]

set_option maxRecDepth 100000 in
set_option maxHeartbeats 4000000 in
theorem PD (mk mn mr mb ms mo ca cb ck cz mc : Nat) (mv cs ct cu mt : List UInt8) (vl : List Vo) (il : List Im) (A B : Option Addr) (ka kb : Nat) (w : World) (hf : Ms.Fits ⟨mk, mn, mr, mb, ms, mo, mv, vl, il, ⟨ca, cb, ck, cs, ct, cu, cz⟩, mc, mt⟩) (hs : Ms.Small ⟨mk, mn, mr, mb, ms, mo, mv, vl, il, ⟨ca, cb, ck, cs, ct, cu, cz⟩, mc, mt⟩) (hr : MsRows w ⟨mk, mn, mr, mb, ms, mo, mv, vl, il, ⟨ca, cb, ck, cs, ct, cu, cz⟩, mc, mt⟩ A B) : Calls Tryz.prog 18 #[.agg #[.int .u8 (mk : Int), .int .u64 (mn : Int), .int .u8 (mr : Int), .int .u64 (mb : Int), .int .u64 (ms : Int), .int .u8 (mo : Int), .string ⟨mv.toArray⟩, .slice A vl.length ka, .slice B il.length kb, .int .u8 (ca : Int), .int .u32 (cb : Int), .int .u8 (ck : Int), .string ⟨cs.toArray⟩, .string ⟨ct.toArray⟩, .string ⟨cu.toArray⟩, .int .u8 (cz : Int), .int .u8 (mc : Int), .string ⟨mt.toArray⟩]] w fun e w' => Mc w (BP ⟨mk, mn, mr, mb, ms, mo, mv, vl, il, ⟨ca, cb, ck, cs, ct, cu, cz⟩, mc, mt⟩) e w' := by
 obtain ⟨f1, f2, f3, f4, f5, f6, f7, f8, f9, f10⟩ := hf
 have hf : Ms.Fits ⟨mk, mn, mr, mb, ms, mo, mv, vl, il, ⟨ca, cb, ck, cs, ct, cu, cz⟩, mc, mt⟩ := ⟨f1, f2, f3, f4, f5, f6, f7, f8, f9, f10⟩
 obtain ⟨s1, s2, s3, s4, s5, s6, s7, s8, s9, s10, s11⟩ := hs
 have hs : Ms.Small ⟨mk, mn, mr, mb, ms, mo, mv, vl, il, ⟨ca, cb, ck, cs, ct, cu, cz⟩, mc, mt⟩ := ⟨s1, s2, s3, s4, s5, s6, s7, s8, s9, s10, s11⟩
 have hfc := f9.h1
 have hfs := f9.h2
 dsimp only at f1 f2 f3 f4 f5 f6 f7 f8 f10 s1 s2 s3 s4 s5 s6 s7 s8 s9 s10 s11 hfc hfs
 refine A0 (n := 172) _ Tryz.func18 rfl rfl rfl (Hp.start w) (Ae (Ac ?_))
 refine zB rfl fun g1 hg1 => ?_
 refine za rfl (Ad (Aa (Ae (Ac (zf 0 Aw rfl (zl 0 Tryz.underlying5 rfl ?_))))))
 refine Dx (cs := [.int .u8 (mk : Int)]) trivial rfl rfl (fun ρ w E H => AV E rfl rfl Tryz.underlying103 DC Fz rfl rfl (by kernel_rfl)) fun g2 hg2 => ?_
 refine Ag (v := .string ⟨[UInt8.ofNat mk].toArray⟩) trivial rfl rfl (fun ρ w E H => Gh (l := [UInt8.ofNat mk]) E rfl Tryz.underlying103 Tryz.underlying5 Tryz.underlying9 rfl (Gu (base := 0) (H.get (i := 0) rfl) (Nat.zero_le _)) (Iz mk f1)) (za rfl (Ad (Aa (Ae (Ac (zf 0 Aw rfl (zl 1 Tryz.underlying5 rfl (Ao (v := .string ⟨((AO mk)).toArray⟩) trivial rfl rfl (zk Eh rfl) (fun w H => KB mk hf.h1 w) (za rfl ?_)))))))))
 refine Ad (Aa (Ae (Ae (Ac (za rfl (Ad (Aa (AG ?_))))))))
 refine Ec (fun (i : Nat) (out : List UInt8) => [(1, .pointer (some ⟨g1, 0, none⟩)), (3, .string ⟨out.toArray⟩), (4, .string ⟨((AO mk)).toArray⟩), (5, .int .i64 (i : Int))]) (fun (i : Nat) (out : List UInt8) => [cell g2 5 [.int .u8 (mk : Int)], cell g1 33 [.int .u8 (mk : Int), .int .u64 (mn : Int), .int .u8 (mr : Int), .int .u64 (mb : Int), .int .u64 (ms : Int), .int .u8 (mo : Int), .string ⟨mv.toArray⟩, .slice A vl.length ka, .slice B il.length kb, .int .u8 (ca : Int), .int .u32 (cb : Int), .int .u8 (ck : Int), .string ⟨cs.toArray⟩, .string ⟨ct.toArray⟩, .string ⟨cu.toArray⟩, .int .u8 (cz : Int), .int .u8 (mc : Int), .string ⟨mt.toArray⟩]]) (fun (gk : Nat) (i : Nat) (out : List UInt8) => i + gk = (AO mk).length ∧ out = I3 ⟨mk, mn, mr, mb, ms, mo, mv, vl, il, ⟨ca, cb, ck, cs, ct, cu, cz⟩, mc, mt⟩ i) (AO mk).length 0 [UInt8.ofNat mk] ⟨by omega, by simp [I3]⟩ ⟨rfl, rfl, rfl, rfl, trivial⟩ [0, 1] rfl (by decide) ⟨.inl rfl, .inl rfl, trivial⟩ fun gk i out hF => ?_
 obtain ⟨hkg, hout⟩ := hF
 obtain ⟨gk1, hgk1⟩ : ∃ x, x = gk := ⟨_, rfl⟩
 have hlo : out.length ≤ 1000000 := by rw [hout]; exact Lm ⟨mk, mn, mr, mb, ms, mo, mv, vl, il, ⟨ca, cb, ck, cs, ct, cu, cz⟩, mc, mt⟩ hf hs i
 refine Ae (Ae (Ac (zm rfl (zm rfl (Ag (v := .int .i64 ((AO mk).length : Int)) trivial rfl rfl (fun ρ w E H => FT E rfl Tryz.underlying9 rfl) ?_)))))
 refine zb rfl fun c18 hc18 => ?_
 refine Ad (Aa ?_)
 cases c18
 ·refine Ah rfl (Cd (AW (AW (BH (Aa (Ae (Ac (zm rfl (za rfl ?_)))))))))
  refine Ad (Aa (Am ?_))
  refine Ai (.string ⟨out.toArray⟩) (fun a w K H => BC K rfl rfl) (fun w H => ?_)
  have hq : out = BP ⟨mk, mn, mr, mb, ms, mo, mv, vl, il, ⟨ca, cb, ck, cs, ct, cu, cz⟩, mc, mt⟩ := by rw [hout]; exact Qc (by show (AK mk).length ≤ i; have h := hc18; simp [AB] at h; unfold AO at h; rw [List.length_map] at h; omega)
  exact ⟨by rw [hq], H.toBelow ⟨(zq hg2), (zq hg1), trivial⟩⟩
 ·refine Ap rfl (Ax (Aa (Ae (AG (Ae ?_)))))
  have hkl : i < (AO mk).length := by have h := hc18; simp [AB] at h; omega
  have hkp : i < (AK mk).length := by unfold AO at hkl; rwa [List.length_map] at hkl
  obtain ⟨p, hp⟩ : ∃ p, (AK mk)[i]? = some p := ⟨_, List.getElem?_eq_getElem hkp⟩
  have hch := X6 hp
  have hnx : out.length + (p.put ⟨mk, mn, mr, mb, ms, mo, mv, vl, il, ⟨ca, cb, ck, cs, ct, cu, cz⟩, mc, mt⟩).length ≤ 1000000 := by have h := Lm ⟨mk, mn, mr, mb, ms, mo, mv, vl, il, ⟨ca, cb, ck, cs, ct, cu, cz⟩, mc, mt⟩ hf hs (i + 1); rw [D3 hp, ← hout, List.length_append] at h; exact h
  rcases p with _ | _ | _ | _ | _ | _ | (_ | ls) | _ | _ | _
  ·simp only [Pt.put, List.length_append, List.length_cons, List.length_nil] at hnx
   refine Ac (zm rfl (zm rfl (Ag (v := .int .u8 99) trivial rfl rfl (fun ρ w E H => EM (n := i) (b := (UInt8.ofNat 99)) E rfl Tryz.underlying9 rfl rfl hch rfl) (Ad (Aa (AG (Ae (Ac (zc true rfl (by decide) ?_)))))))))
   refine za rfl (Ad (Aa (Ap rfl (Ac (zm rfl (zf 9 Bd rfl (zv 1 [.int .u8 (ca : Int), .int .u32 (cb : Int), .int .u8 (ck : Int), .string ⟨cs.toArray⟩, .string ⟨ct.toArray⟩, .string ⟨cu.toArray⟩, .int .u8 (cz : Int)] Tryz.underlying29 BG rfl (Ao (v := .string ⟨((Cmd.oneB ⟨ca, cb, ck, cs, ct, cu, cz⟩)).toArray⟩) trivial rfl rfl (zk Hv rfl) (fun w H => Cmd.refOne_any ⟨ca, cb, ck, cs, ct, cu, cz⟩ f9 s6 s7 s8 w) (Ag (v := .string ⟨((out ++ (Cmd.oneB ⟨ca, cb, ck, cs, ct, cu, cz⟩))).toArray⟩) trivial rfl rfl (fun ρ w E H => Dz E rfl rfl rfl (by (try simp only [List.length_append, List.length_cons, List.length_nil]); omega)) ?_)))))))))
   refine za rfl (Ad (AA (AA (Aa (Ac (zm rfl (Ag (v := .int .i64 ((i + 1 : Nat) : Int)) trivial rfl rfl (fun ρ w E H => BQ E rfl rfl rfl (by have h := DV mk; rw [IntKind.wrap_i64]; omega)) (za rfl (Ad ?_)))))))))
   refine B7 (gk1 - 1) (i + 1, (out ++ (Cmd.oneB ⟨ca, cb, ck, cs, ct, cu, cz⟩))) (by omega) ⟨by omega, by rw [D3 hp, ← hout]; (try rw [ho2]); (try rw [Eu (by simpa [AB] using hc110)]); (try rw [Ew (by simpa [AB] using hc151)]); simp [Pt.put, voB, imB]⟩ ⟨rfl, rfl, rfl, rfl, trivial⟩ [0, 1] rfl (by decide) ⟨.inl rfl, .inl rfl, trivial⟩
  ·simp only [Pt.put, List.length_append, List.length_cons, List.length_nil] at hnx
   refine Ac (zm rfl (zm rfl (Ag (v := .int .u8 110) trivial rfl rfl (fun ρ w E H => EM (n := i) (b := (UInt8.ofNat 110)) E rfl Tryz.underlying9 rfl rfl hch rfl) (Ad (Aa (AG (Ae (Ac (zc false rfl (by decide) ?_)))))))))
   refine za rfl (Ad (Aa (Ah rfl (Ae (Ac (zc true rfl (by decide) (za rfl (Ad (Aa ?_)))))))))
   refine Ap rfl (BN [] [0, 1] (by kernel_rfl) rfl ⟨(zh hg2), (zh hg1), trivial⟩ (ym 0 rfl (by kernel_rfl) zI (yf 1 9 Bd rfl (by kernel_rfl) zI (yf 2 9 CG rfl (by kernel_rfl) zI (yl 3 1 Tryz.underlying5 rfl (by kernel_rfl) zI (yf 7 9 Bd rfl (by kernel_rfl) zI (yf 8 10 CE rfl (by kernel_rfl) zI (yl 9 1 Tryz.underlying27 rfl (by kernel_rfl) zI (yt (i := 10) (v := .int .u64 (cb : Int)) (by kernel_rfl) zI rfl rfl rfl rfl (fun ρ w E H => DN E rfl Tryz.underlying27 Tryz.underlying22 rfl (by rw [IntKind.wrap_u64]; omega)) ?_)))))))))
   refine Ed [4, 11] (by kernel_rfl) (by simp) ⟨?_, ?_, trivial⟩
   ·refine Dc (cs := [.int .u8 (ca : Int)]) rfl trivial rfl rfl (fun ρ w E H => AV E rfl rfl Tryz.underlying103 DC Fz rfl rfl (by kernel_rfl)) (fun g3 w hg3 H => H.ks [] [1, 2] rfl ⟨(zh hg3), (zh hg2), (zh hg1), trivial⟩) fun g3 hg3 => ?_
    refine Ed [5, 11] (by kernel_rfl) (by simp) ⟨?_, ?_, trivial⟩
    ·refine DZ (v := .string ⟨[UInt8.ofNat ca].toArray⟩) rfl trivial rfl rfl (fun ρ w E H => Gh (l := [UInt8.ofNat ca]) E rfl Tryz.underlying103 Tryz.underlying5 Tryz.underlying9 rfl (Gu (base := 0) (H.get (i := 0) rfl) (Nat.zero_le _)) (Iz ca hfc)) (yt (i := 6) (v := .string ⟨((out ++ [UInt8.ofNat ca])).toArray⟩) (by kernel_rfl) zI rfl rfl rfl rfl (fun ρ w E H => Dz E rfl rfl rfl (by (try simp only [List.length_append, List.length_cons, List.length_nil]); omega)) (yr 11 (by kernel_rfl) (BO (v := .string ⟨((BI cb)).toArray⟩) rfl trivial rfl rfl (zk BL rfl) (fun w H => DD cb (by omega) w) (fun w H => H.ks [] [1, 2] rfl ⟨(zh hg3), (zh hg2), (zh hg1), trivial⟩) (yt (i := 12) (v := .string ⟨(((out ++ [UInt8.ofNat ca]) ++ (BI cb))).toArray⟩) (by kernel_rfl) zI rfl rfl rfl rfl (fun ρ w E H => Dz E rfl rfl rfl (by (try simp only [List.length_append, List.length_cons, List.length_nil]); omega)) (yA 13 rfl (by kernel_rfl) zI (BE (by kernel_rfl) (AA (AA (Aa ?_)))))))))
     refine Ac (zm rfl (Ag (v := .int .i64 ((i + 1 : Nat) : Int)) trivial rfl rfl (fun ρ w E H => BQ E rfl rfl rfl (by have h := DV mk; rw [IntKind.wrap_i64]; omega)) (za rfl (Ad ?_))))
     refine B7 (gk1 - 1) (i + 1, ((out ++ [UInt8.ofNat ca]) ++ (BI cb))) (by omega) ⟨by omega, by rw [D3 hp, ← hout]; (try rw [ho2]); (try rw [Eu (by simpa [AB] using hc110)]); (try rw [Ew (by simpa [AB] using hc151)]); simp [Pt.put, voB, imB]⟩ ⟨rfl, rfl, rfl, rfl, trivial⟩ [1, 2] rfl (by decide) ⟨.inr (zq hg3), .inl rfl, .inl rfl, trivial⟩
    ·refine BO (v := .string ⟨((BI cb)).toArray⟩) rfl trivial rfl rfl (zk BL rfl) (fun w H => DD cb (by omega) w) (fun w H => H.ks [] [1, 2] rfl ⟨(zh hg3), (zh hg2), (zh hg1), trivial⟩) (yr 5 (by kernel_rfl) (DZ (v := .string ⟨[UInt8.ofNat ca].toArray⟩) rfl trivial rfl rfl (fun ρ w E H => Gh (l := [UInt8.ofNat ca]) E rfl Tryz.underlying103 Tryz.underlying5 Tryz.underlying9 rfl (Gu (base := 0) (H.get (i := 0) rfl) (Nat.zero_le _)) (Iz ca hfc)) (yt (i := 6) (v := .string ⟨((out ++ [UInt8.ofNat ca])).toArray⟩) (by kernel_rfl) zI rfl rfl rfl rfl (fun ρ w E H => Dz E rfl rfl rfl (by (try simp only [List.length_append, List.length_cons, List.length_nil]); omega)) (yt (i := 12) (v := .string ⟨(((out ++ [UInt8.ofNat ca]) ++ (BI cb))).toArray⟩) (by kernel_rfl) zI rfl rfl rfl rfl (fun ρ w E H => Dz E rfl rfl rfl (by (try simp only [List.length_append, List.length_cons, List.length_nil]); omega)) (yA 13 rfl (by kernel_rfl) zI (BE (by kernel_rfl) (AA (AA (Aa ?_)))))))))
     refine Ac (zm rfl (Ag (v := .int .i64 ((i + 1 : Nat) : Int)) trivial rfl rfl (fun ρ w E H => BQ E rfl rfl rfl (by have h := DV mk; rw [IntKind.wrap_i64]; omega)) (za rfl (Ad ?_))))
     refine B7 (gk1 - 1) (i + 1, ((out ++ [UInt8.ofNat ca]) ++ (BI cb))) (by omega) ⟨by omega, by rw [D3 hp, ← hout]; (try rw [ho2]); (try rw [Eu (by simpa [AB] using hc110)]); (try rw [Ew (by simpa [AB] using hc151)]); simp [Pt.put, voB, imB]⟩ ⟨rfl, rfl, rfl, rfl, trivial⟩ [1, 2] rfl (by decide) ⟨.inr (zq hg3), .inl rfl, .inl rfl, trivial⟩
   ·refine BO (v := .string ⟨((BI cb)).toArray⟩) rfl trivial rfl rfl (zk BL rfl) (fun w H => DD cb (by omega) w) (fun w H => H.ks [] [0, 1] rfl ⟨(zh hg2), (zh hg1), trivial⟩) (yr 4 (by kernel_rfl) ?_)
    refine Dc (cs := [.int .u8 (ca : Int)]) rfl trivial rfl rfl (fun ρ w E H => AV E rfl rfl Tryz.underlying103 DC Fz rfl rfl (by kernel_rfl)) (fun g4 w hg4 H => H.ks [] [1, 2] rfl ⟨(zh hg4), (zh hg2), (zh hg1), trivial⟩) fun g4 hg4 => ?_
    refine yr 5 (by kernel_rfl) (DZ (v := .string ⟨[UInt8.ofNat ca].toArray⟩) rfl trivial rfl rfl (fun ρ w E H => Gh (l := [UInt8.ofNat ca]) E rfl Tryz.underlying103 Tryz.underlying5 Tryz.underlying9 rfl (Gu (base := 0) (H.get (i := 0) rfl) (Nat.zero_le _)) (Iz ca hfc)) (yt (i := 6) (v := .string ⟨((out ++ [UInt8.ofNat ca])).toArray⟩) (by kernel_rfl) zI rfl rfl rfl rfl (fun ρ w E H => Dz E rfl rfl rfl (by (try simp only [List.length_append, List.length_cons, List.length_nil]); omega)) (yt (i := 12) (v := .string ⟨(((out ++ [UInt8.ofNat ca]) ++ (BI cb))).toArray⟩) (by kernel_rfl) zI rfl rfl rfl rfl (fun ρ w E H => Dz E rfl rfl rfl (by (try simp only [List.length_append, List.length_cons, List.length_nil]); omega)) (yA 13 rfl (by kernel_rfl) zI (BE (by kernel_rfl) (AA (AA (Aa (Ac ?_)))))))))
    refine zm rfl (Ag (v := .int .i64 ((i + 1 : Nat) : Int)) trivial rfl rfl (fun ρ w E H => BQ E rfl rfl rfl (by have h := DV mk; rw [IntKind.wrap_i64]; omega)) (za rfl (Ad ?_)))
    refine B7 (gk1 - 1) (i + 1, ((out ++ [UInt8.ofNat ca]) ++ (BI cb))) (by omega) ⟨by omega, by rw [D3 hp, ← hout]; (try rw [ho2]); (try rw [Eu (by simpa [AB] using hc110)]); (try rw [Ew (by simpa [AB] using hc151)]); simp [Pt.put, voB, imB]⟩ ⟨rfl, rfl, rfl, rfl, trivial⟩ [1, 2] rfl (by decide) ⟨.inr (zq hg4), .inl rfl, .inl rfl, trivial⟩
  ·simp only [Pt.put, List.length_append, List.length_cons, List.length_nil] at hnx
   refine Ac (zm rfl (zm rfl (Ag (v := .int .u8 114) trivial rfl rfl (fun ρ w E H => EM (n := i) (b := (UInt8.ofNat 114)) E rfl Tryz.underlying9 rfl rfl hch rfl) (Ad (Aa (AG (Ae (Ac (zc false rfl (by decide) ?_)))))))))
   refine za rfl (Ad (Aa (Ah rfl (Ae (Ac (zc false rfl (by decide) (za rfl (Ad (Aa ?_)))))))))
   refine Ah rfl (Ae (Ac (zc true rfl (by decide) (za rfl (Ad (Aa (Ap rfl (BN [] [0, 1] (by kernel_rfl) rfl ⟨(zh hg2), (zh hg1), trivial⟩ (ym 0 rfl (by kernel_rfl) zI ?_)))))))))
   refine yf 1 16 B9 rfl (by kernel_rfl) zI (yf 2 16 DL rfl (by kernel_rfl) zI (yl 3 1 Tryz.underlying5 rfl (by kernel_rfl) zI (yf 7 16 B9 rfl (by kernel_rfl) zI (yf 8 17 Dv rfl (by kernel_rfl) zI (yl 9 1 Tryz.underlying9 rfl (by kernel_rfl) zI ?_)))))
   refine Ed [4, 10] (by kernel_rfl) (by simp) ⟨?_, ?_, trivial⟩
   ·refine Dc (cs := [.int .u8 (mc : Int)]) rfl trivial rfl rfl (fun ρ w E H => AV E rfl rfl Tryz.underlying103 DC Fz rfl rfl (by kernel_rfl)) (fun g5 w hg5 H => H.ks [] [1, 2] rfl ⟨(zh hg5), (zh hg2), (zh hg1), trivial⟩) fun g5 hg5 => ?_
    refine Ed [5, 10] (by kernel_rfl) (by simp) ⟨?_, ?_, trivial⟩
    ·refine DZ (v := .string ⟨[UInt8.ofNat mc].toArray⟩) rfl trivial rfl rfl (fun ρ w E H => Gh (l := [UInt8.ofNat mc]) E rfl Tryz.underlying103 Tryz.underlying5 Tryz.underlying9 rfl (Gu (base := 0) (H.get (i := 0) rfl) (Nat.zero_le _)) (Iz mc f10)) (yt (i := 6) (v := .string ⟨((out ++ [UInt8.ofNat mc])).toArray⟩) (by kernel_rfl) zI rfl rfl rfl rfl (fun ρ w E H => Dz E rfl rfl rfl (by (try simp only [List.length_append, List.length_cons, List.length_nil]); omega)) (yr 10 (by kernel_rfl) (BO (v := .string ⟨((CM mt)).toArray⟩) rfl trivial rfl rfl (zk CU rfl) (fun w H => Fj mt (by omega) w) (fun w H => H.ks [] [1, 2] rfl ⟨(zh hg5), (zh hg2), (zh hg1), trivial⟩) (yt (i := 11) (v := .string ⟨(((out ++ [UInt8.ofNat mc]) ++ (CM mt))).toArray⟩) (by kernel_rfl) zI rfl rfl rfl rfl (fun ρ w E H => Dz E rfl rfl rfl (by (try simp only [List.length_append, List.length_cons, List.length_nil]); omega)) (yA 12 rfl (by kernel_rfl) zI (BE (by kernel_rfl) (AA (AA (Aa ?_)))))))))
     refine Ac (zm rfl (Ag (v := .int .i64 ((i + 1 : Nat) : Int)) trivial rfl rfl (fun ρ w E H => BQ E rfl rfl rfl (by have h := DV mk; rw [IntKind.wrap_i64]; omega)) (za rfl (Ad ?_))))
     refine B7 (gk1 - 1) (i + 1, ((out ++ [UInt8.ofNat mc]) ++ (CM mt))) (by omega) ⟨by omega, by rw [D3 hp, ← hout]; (try rw [ho2]); (try rw [Eu (by simpa [AB] using hc110)]); (try rw [Ew (by simpa [AB] using hc151)]); simp [Pt.put, voB, imB]⟩ ⟨rfl, rfl, rfl, rfl, trivial⟩ [1, 2] rfl (by decide) ⟨.inr (zq hg5), .inl rfl, .inl rfl, trivial⟩
    ·refine BO (v := .string ⟨((CM mt)).toArray⟩) rfl trivial rfl rfl (zk CU rfl) (fun w H => Fj mt (by omega) w) (fun w H => H.ks [] [1, 2] rfl ⟨(zh hg5), (zh hg2), (zh hg1), trivial⟩) (yr 5 (by kernel_rfl) (DZ (v := .string ⟨[UInt8.ofNat mc].toArray⟩) rfl trivial rfl rfl (fun ρ w E H => Gh (l := [UInt8.ofNat mc]) E rfl Tryz.underlying103 Tryz.underlying5 Tryz.underlying9 rfl (Gu (base := 0) (H.get (i := 0) rfl) (Nat.zero_le _)) (Iz mc f10)) (yt (i := 6) (v := .string ⟨((out ++ [UInt8.ofNat mc])).toArray⟩) (by kernel_rfl) zI rfl rfl rfl rfl (fun ρ w E H => Dz E rfl rfl rfl (by (try simp only [List.length_append, List.length_cons, List.length_nil]); omega)) (yt (i := 11) (v := .string ⟨(((out ++ [UInt8.ofNat mc]) ++ (CM mt))).toArray⟩) (by kernel_rfl) zI rfl rfl rfl rfl (fun ρ w E H => Dz E rfl rfl rfl (by (try simp only [List.length_append, List.length_cons, List.length_nil]); omega)) (yA 12 rfl (by kernel_rfl) zI (BE (by kernel_rfl) (AA (AA (Aa ?_)))))))))
     refine Ac (zm rfl (Ag (v := .int .i64 ((i + 1 : Nat) : Int)) trivial rfl rfl (fun ρ w E H => BQ E rfl rfl rfl (by have h := DV mk; rw [IntKind.wrap_i64]; omega)) (za rfl (Ad ?_))))
     refine B7 (gk1 - 1) (i + 1, ((out ++ [UInt8.ofNat mc]) ++ (CM mt))) (by omega) ⟨by omega, by rw [D3 hp, ← hout]; (try rw [ho2]); (try rw [Eu (by simpa [AB] using hc110)]); (try rw [Ew (by simpa [AB] using hc151)]); simp [Pt.put, voB, imB]⟩ ⟨rfl, rfl, rfl, rfl, trivial⟩ [1, 2] rfl (by decide) ⟨.inr (zq hg5), .inl rfl, .inl rfl, trivial⟩
   ·refine BO (v := .string ⟨((CM mt)).toArray⟩) rfl trivial rfl rfl (zk CU rfl) (fun w H => Fj mt (by omega) w) (fun w H => H.ks [] [0, 1] rfl ⟨(zh hg2), (zh hg1), trivial⟩) (yr 4 (by kernel_rfl) ?_)
    refine Dc (cs := [.int .u8 (mc : Int)]) rfl trivial rfl rfl (fun ρ w E H => AV E rfl rfl Tryz.underlying103 DC Fz rfl rfl (by kernel_rfl)) (fun g6 w hg6 H => H.ks [] [1, 2] rfl ⟨(zh hg6), (zh hg2), (zh hg1), trivial⟩) fun g6 hg6 => ?_
    refine yr 5 (by kernel_rfl) (DZ (v := .string ⟨[UInt8.ofNat mc].toArray⟩) rfl trivial rfl rfl (fun ρ w E H => Gh (l := [UInt8.ofNat mc]) E rfl Tryz.underlying103 Tryz.underlying5 Tryz.underlying9 rfl (Gu (base := 0) (H.get (i := 0) rfl) (Nat.zero_le _)) (Iz mc f10)) (yt (i := 6) (v := .string ⟨((out ++ [UInt8.ofNat mc])).toArray⟩) (by kernel_rfl) zI rfl rfl rfl rfl (fun ρ w E H => Dz E rfl rfl rfl (by (try simp only [List.length_append, List.length_cons, List.length_nil]); omega)) (yt (i := 11) (v := .string ⟨(((out ++ [UInt8.ofNat mc]) ++ (CM mt))).toArray⟩) (by kernel_rfl) zI rfl rfl rfl rfl (fun ρ w E H => Dz E rfl rfl rfl (by (try simp only [List.length_append, List.length_cons, List.length_nil]); omega)) (yA 12 rfl (by kernel_rfl) zI (BE (by kernel_rfl) (AA (AA (Aa (Ac ?_)))))))))
    refine zm rfl (Ag (v := .int .i64 ((i + 1 : Nat) : Int)) trivial rfl rfl (fun ρ w E H => BQ E rfl rfl rfl (by have h := DV mk; rw [IntKind.wrap_i64]; omega)) (za rfl (Ad ?_)))
    refine B7 (gk1 - 1) (i + 1, ((out ++ [UInt8.ofNat mc]) ++ (CM mt))) (by omega) ⟨by omega, by rw [D3 hp, ← hout]; (try rw [ho2]); (try rw [Eu (by simpa [AB] using hc110)]); (try rw [Ew (by simpa [AB] using hc151)]); simp [Pt.put, voB, imB]⟩ ⟨rfl, rfl, rfl, rfl, trivial⟩ [1, 2] rfl (by decide) ⟨.inr (zq hg6), .inl rfl, .inl rfl, trivial⟩
  ·simp only [Pt.put, List.length_append, List.length_cons, List.length_nil] at hnx
   refine Ac (zm rfl (zm rfl (Ag (v := .int .u8 111) trivial rfl rfl (fun ρ w E H => EM (n := i) (b := (UInt8.ofNat 111)) E rfl Tryz.underlying9 rfl rfl hch rfl) (Ad (Aa (AG (Ae (Ac (zc false rfl (by decide) ?_)))))))))
   refine za rfl (Ad (Aa (Ah rfl (Ae (Ac (zc false rfl (by decide) (za rfl (Ad (Aa ?_)))))))))
   refine Ah rfl (Ae (Ac (zc false rfl (by decide) (za rfl (Ad (Aa (Ah rfl (Ae (Ac ?_)))))))))
   refine zc true rfl (by decide) (za rfl (Ad (Aa (Ap rfl (Ac (zm rfl (zf 5 BW rfl (zl 1 Tryz.underlying5 rfl ?_))))))))
   refine Dx (cs := [.int .u8 (mo : Int)]) trivial rfl rfl (fun ρ w E H => AV E rfl rfl Tryz.underlying103 DC Fz rfl rfl (by kernel_rfl)) fun g7 hg7 => ?_
   refine Ag (v := .string ⟨[UInt8.ofNat mo].toArray⟩) trivial rfl rfl (fun ρ w E H => Gh (l := [UInt8.ofNat mo]) E rfl Tryz.underlying103 Tryz.underlying5 Tryz.underlying9 rfl (Gu (base := 0) (H.get (i := 0) rfl) (Nat.zero_le _)) (Iz mo f6)) (Ag (v := .string ⟨((out ++ [UInt8.ofNat mo])).toArray⟩) trivial rfl rfl (fun ρ w E H => Dz E rfl rfl rfl (by (try simp only [List.length_append, List.length_cons, List.length_nil]); omega)) (za rfl (Ad (AA (AA (Aa (Ac (zm rfl (Ag (v := .int .i64 ((i + 1 : Nat) : Int)) trivial rfl rfl (fun ρ w E H => BQ E rfl rfl rfl (by have h := DV mk; rw [IntKind.wrap_i64]; omega)) ?_)))))))))
   refine za rfl (Ad ?_)
   refine B7 (gk1 - 1) (i + 1, (out ++ [UInt8.ofNat mo])) (by omega) ⟨by omega, by rw [D3 hp, ← hout]; (try rw [ho2]); (try rw [Eu (by simpa [AB] using hc110)]); (try rw [Ew (by simpa [AB] using hc151)]); simp [Pt.put, voB, imB]⟩ ⟨rfl, rfl, rfl, rfl, trivial⟩ [1, 2] rfl (by decide) ⟨.inr (zq hg7), .inl rfl, .inl rfl, trivial⟩
  ·simp only [Pt.put, List.length_append, List.length_cons, List.length_nil] at hnx
   refine Ac (zm rfl (zm rfl (Ag (v := .int .u8 98) trivial rfl rfl (fun ρ w E H => EM (n := i) (b := (UInt8.ofNat 98)) E rfl Tryz.underlying9 rfl rfl hch rfl) (Ad (Aa (AG (Ae (Ac (zc false rfl (by decide) ?_)))))))))
   refine za rfl (Ad (Aa (Ah rfl (Ae (Ac (zc false rfl (by decide) (za rfl (Ad (Aa ?_)))))))))
   refine Ah rfl (Ae (Ac (zc false rfl (by decide) (za rfl (Ad (Aa (Ah rfl (Ae (Ac ?_)))))))))
   refine zc false rfl (by decide) (za rfl (Ad (Aa (Ah rfl (Ae (Ac (zc true rfl (by decide) (za rfl (Ad ?_)))))))))
   refine Aa (Ap rfl (Ac (zm rfl (zf 1 BM rfl (zv 1 [.int .u64 (mn : Int), .int .u8 (mr : Int)] Tryz.underlying24 Bi rfl (Ao (v := .string ⟨((Bal.balB ⟨mn, mr⟩)).toArray⟩) trivial rfl rfl (zk Fg rfl) (fun w H => Bal.refBytes_any ⟨mn, mr⟩ (by show _ < 18446744073709551616; assumption) (by show _ < 256; assumption) w) (Ag (v := .string ⟨((out ++ (Bal.balB ⟨mn, mr⟩))).toArray⟩) trivial rfl rfl (fun ρ w E H => Dz E rfl rfl rfl (by (try simp only [List.length_append, List.length_cons, List.length_nil]); omega)) (za rfl (Ad ?_)))))))))
   refine AA (AA (Aa (Ac (zm rfl (Ag (v := .int .i64 ((i + 1 : Nat) : Int)) trivial rfl rfl (fun ρ w E H => BQ E rfl rfl rfl (by have h := DV mk; rw [IntKind.wrap_i64]; omega)) (za rfl (Ad ?_)))))))
   refine B7 (gk1 - 1) (i + 1, (out ++ (Bal.balB ⟨mn, mr⟩))) (by omega) ⟨by omega, by rw [D3 hp, ← hout]; (try rw [ho2]); (try rw [Eu (by simpa [AB] using hc110)]); (try rw [Ew (by simpa [AB] using hc151)]); simp [Pt.put, voB, imB]⟩ ⟨rfl, rfl, rfl, rfl, trivial⟩ [0, 1] rfl (by decide) ⟨.inl rfl, .inl rfl, trivial⟩
  ·simp only [Pt.put, List.length_append, List.length_cons, List.length_nil] at hnx
   refine Ac (zm rfl (zm rfl (Ag (v := .int .u8 97) trivial rfl rfl (fun ρ w E H => EM (n := i) (b := (UInt8.ofNat 97)) E rfl Tryz.underlying9 rfl rfl hch rfl) (Ad (Aa (AG (Ae (Ac (zc false rfl (by decide) ?_)))))))))
   refine za rfl (Ad (Aa (Ah rfl (Ae (Ac (zc false rfl (by decide) (za rfl (Ad (Aa ?_)))))))))
   refine Ah rfl (Ae (Ac (zc false rfl (by decide) (za rfl (Ad (Aa (Ah rfl (Ae (Ac ?_)))))))))
   refine zc false rfl (by decide) (za rfl (Ad (Aa (Ah rfl (Ae (Ac (zc false rfl (by decide) (za rfl (Ad ?_)))))))))
   refine Aa (Ah rfl (Ae (Ac (zc true rfl (by decide) (za rfl (Ad (Aa (Ap rfl (Ac ?_)))))))))
   refine zm rfl (zf 3 BX rfl (zl 1 Tryz.underlying22 rfl (Ao (v := .string ⟨((BI mb)).toArray⟩) trivial rfl rfl (zk BL rfl) (fun w H => DD mb (by omega) w) (Ag (v := .string ⟨((out ++ (BI mb))).toArray⟩) trivial rfl rfl (fun ρ w E H => Dz E rfl rfl rfl (by (try simp only [List.length_append, List.length_cons, List.length_nil]); omega)) (za rfl (Ad (AA (AA (Aa ?_)))))))))
   refine Ac (zm rfl (Ag (v := .int .i64 ((i + 1 : Nat) : Int)) trivial rfl rfl (fun ρ w E H => BQ E rfl rfl rfl (by have h := DV mk; rw [IntKind.wrap_i64]; omega)) (za rfl (Ad ?_))))
   refine B7 (gk1 - 1) (i + 1, (out ++ (BI mb))) (by omega) ⟨by omega, by rw [D3 hp, ← hout]; (try rw [ho2]); (try rw [Eu (by simpa [AB] using hc110)]); (try rw [Ew (by simpa [AB] using hc151)]); simp [Pt.put, voB, imB]⟩ ⟨rfl, rfl, rfl, rfl, trivial⟩ [0, 1] rfl (by decide) ⟨.inl rfl, .inl rfl, trivial⟩
  ·simp only [Pt.put, List.length_append, List.length_cons, List.length_nil] at hnx
   refine Ac (zm rfl (zm rfl (Ag (v := .int .u8 117) trivial rfl rfl (fun ρ w E H => EM (n := i) (b := (UInt8.ofNat 117)) E rfl Tryz.underlying9 rfl rfl hch rfl) (Ad (Aa (AG (Ae (Ac (zc false rfl (by decide) ?_)))))))))
   refine za rfl (Ad (Aa (Ah rfl (Ae (Ac (zc false rfl (by decide) (za rfl (Ad (Aa ?_)))))))))
   refine Ah rfl (Ae (Ac (zc false rfl (by decide) (za rfl (Ad (Aa (Ah rfl (Ae (Ac ?_)))))))))
   refine zc false rfl (by decide) (za rfl (Ad (Aa (Ah rfl (Ae (Ac (zc false rfl (by decide) (za rfl (Ad ?_)))))))))
   refine Aa (Ah rfl (Ae (Ac (zc false rfl (by decide) (za rfl (Ad (Aa (Ah rfl (Ae ?_)))))))))
   refine Ae (Ac (zc true rfl (by decide) (za rfl (Ad (Aa (Ap rfl (Ax (Aa (Ap rfl ?_)))))))))
   refine Ac (zm rfl (zf 4 Bq rfl (zl 1 Tryz.underlying22 rfl (Ao (v := .string ⟨((BI ms)).toArray⟩) trivial rfl rfl (zk BL rfl) (fun w H => DD ms (by omega) w) (Ag (v := .string ⟨((out ++ (BI ms))).toArray⟩) trivial rfl rfl (fun ρ w E H => Dz E rfl rfl rfl (by (try simp only [List.length_append, List.length_cons, List.length_nil]); omega)) (za rfl (Ad (AA (AA ?_)))))))))
   refine Aa (Ac (zm rfl (Ag (v := .int .i64 ((i + 1 : Nat) : Int)) trivial rfl rfl (fun ρ w E H => BQ E rfl rfl rfl (by have h := DV mk; rw [IntKind.wrap_i64]; omega)) (za rfl (Ad ?_)))))
   refine B7 (gk1 - 1) (i + 1, (out ++ (BI ms))) (by omega) ⟨by omega, by rw [D3 hp, ← hout]; (try rw [ho2]); (try rw [Eu (by simpa [AB] using hc110)]); (try rw [Ew (by simpa [AB] using hc151)]); simp [Pt.put, voB, imB]⟩ ⟨rfl, rfl, rfl, rfl, trivial⟩ [0, 1] rfl (by decide) ⟨.inl rfl, .inl rfl, trivial⟩
  ·simp only [Pt.put, List.length_append, List.length_cons, List.length_nil] at hnx
   refine Ac (zm rfl (zm rfl (Ag (v := .int .u8 115) trivial rfl rfl (fun ρ w E H => EM (n := i) (b := (UInt8.ofNat 115)) E rfl Tryz.underlying9 rfl rfl hch rfl) (Ad (Aa (AG (Ae (Ac (zc false rfl (by decide) ?_)))))))))
   refine za rfl (Ad (Aa (Ah rfl (Ae (Ac (zc false rfl (by decide) (za rfl (Ad (Aa ?_)))))))))
   refine Ah rfl (Ae (Ac (zc false rfl (by decide) (za rfl (Ad (Aa (Ah rfl (Ae (Ac ?_)))))))))
   refine zc false rfl (by decide) (za rfl (Ad (Aa (Ah rfl (Ae (Ac (zc false rfl (by decide) (za rfl (Ad ?_)))))))))
   refine Aa (Ah rfl (Ae (Ac (zc false rfl (by decide) (za rfl (Ad (Aa (Ah rfl (Ae ?_)))))))))
   refine Ae (Ac (zc false rfl (by decide) (za rfl (Ad (Aa (Ah rfl (Ac (zc true rfl (by decide) (za rfl ?_)))))))))
   refine Ad (Aa (Ap rfl (Ac (zm rfl (zf 4 Bq rfl (zl 1 Tryz.underlying22 rfl (Ao (v := .string ⟨((BI ms)).toArray⟩) trivial rfl rfl (zk BL rfl) (fun w H => DD ms (by omega) w) (Ag (v := .string ⟨((out ++ (BI ms))).toArray⟩) trivial rfl rfl (fun ρ w E H => Dz E rfl rfl rfl (by (try simp only [List.length_append, List.length_cons, List.length_nil]); omega)) (za rfl ?_)))))))))
   refine Ad (AA (AA (Aa (Ac (zm rfl (Ag (v := .int .i64 ((i + 1 : Nat) : Int)) trivial rfl rfl (fun ρ w E H => BQ E rfl rfl rfl (by have h := DV mk; rw [IntKind.wrap_i64]; omega)) (za rfl (Ad ?_))))))))
   refine B7 (gk1 - 1) (i + 1, (out ++ (BI ms))) (by omega) ⟨by omega, by rw [D3 hp, ← hout]; (try rw [ho2]); (try rw [Eu (by simpa [AB] using hc110)]); (try rw [Ew (by simpa [AB] using hc151)]); simp [Pt.put, voB, imB]⟩ ⟨rfl, rfl, rfl, rfl, trivial⟩ [0, 1] rfl (by decide) ⟨.inl rfl, .inl rfl, trivial⟩
  ·simp only [Pt.put, List.length_append, List.length_cons, List.length_nil] at hnx
   refine Ac (zm rfl (zm rfl (Ag (v := .int .u8 118) trivial rfl rfl (fun ρ w E H => EM (n := i) (b := (UInt8.ofNat 118)) E rfl Tryz.underlying9 rfl rfl hch rfl) (Ad (Aa (AG (Ae (Ac (zc false rfl (by decide) ?_)))))))))
   refine za rfl (Ad (Aa (Ah rfl (Ae (Ac (zc false rfl (by decide) (za rfl (Ad (Aa ?_)))))))))
   refine Ah rfl (Ae (Ac (zc false rfl (by decide) (za rfl (Ad (Aa (Ah rfl (Ae (Ac ?_)))))))))
   refine zc false rfl (by decide) (za rfl (Ad (Aa (Ah rfl (Ae (Ac (zc false rfl (by decide) (za rfl (Ad ?_)))))))))
   refine Aa (Ah rfl (Ae (Ac (zc false rfl (by decide) (za rfl (Ad (Aa (Ah rfl (Ae ?_)))))))))
   refine Ae (Ac (zc false rfl (by decide) (za rfl (Ad (Aa (Ah rfl (Ac (zc false rfl (by decide) (za rfl ?_)))))))))
   refine Ad (Aa (Ah rfl (Ae (Ac (zc true rfl (by decide) (za rfl (Ad (Aa (Ap rfl ?_)))))))))
   refine Ac (zm rfl (zf 6 Cf rfl (zl 1 Tryz.underlying9 rfl (Ao (v := .string ⟨((CM mv)).toArray⟩) trivial rfl rfl (zk CU rfl) (fun w H => Fj mv (by omega) w) (Ag (v := .string ⟨((out ++ (CM mv))).toArray⟩) trivial rfl rfl (fun ρ w E H => Dz E rfl rfl rfl (by (try simp only [List.length_append, List.length_cons, List.length_nil]); omega)) (za rfl (Ad (AA (AA ?_)))))))))
   refine Aa (Ac (zm rfl (Ag (v := .int .i64 ((i + 1 : Nat) : Int)) trivial rfl rfl (fun ρ w E H => BQ E rfl rfl rfl (by have h := DV mk; rw [IntKind.wrap_i64]; omega)) (za rfl (Ad ?_)))))
   refine B7 (gk1 - 1) (i + 1, (out ++ (CM mv))) (by omega) ⟨by omega, by rw [D3 hp, ← hout]; (try rw [ho2]); (try rw [Eu (by simpa [AB] using hc110)]); (try rw [Ew (by simpa [AB] using hc151)]); simp [Pt.put, voB, imB]⟩ ⟨rfl, rfl, rfl, rfl, trivial⟩ [0, 1] rfl (by decide) ⟨.inl rfl, .inl rfl, trivial⟩
  ·simp only [Pt.put, List.length_append, List.length_cons, List.length_nil] at hnx
   clear hnx
   have hnl := (B0 vl.length (by omega)).1
   refine Ac (zm rfl (zm rfl (Ag (v := .int .u8 116) trivial rfl rfl (fun ρ w E H => EM (n := i) (b := (UInt8.ofNat 116)) E rfl Tryz.underlying9 rfl rfl hch rfl) (Ad (Aa (AG (Ae (Ac (zc false rfl (by decide) ?_)))))))))
   refine za rfl (Ad (Aa (Ah rfl (Ae (Ac (zc false rfl (by decide) (za rfl (Ad (Aa ?_)))))))))
   refine Ah rfl (Ae (Ac (zc false rfl (by decide) (za rfl (Ad (Aa (Ah rfl (Ae (Ac ?_)))))))))
   refine zc false rfl (by decide) (za rfl (Ad (Aa (Ah rfl (Ae (Ac (zc false rfl (by decide) (za rfl (Ad ?_)))))))))
   refine Aa (Ah rfl (Ae (Ac (zc false rfl (by decide) (za rfl (Ad (Aa (Ah rfl (Ae ?_)))))))))
   refine Ae (Ac (zc false rfl (by decide) (za rfl (Ad (Aa (Ah rfl (Ac (zc false rfl (by decide) (za rfl ?_)))))))))
   refine Ad (Aa (Ah rfl (Ae (Ac (zc false rfl (by decide) (za rfl (Ad (Aa (Ah rfl ?_)))))))))
   refine Ae (Ac (zc true rfl (by decide) (za rfl (Ad (Aa (Ap rfl (Ae (Ac (zm rfl ?_)))))))))
   refine zf 7 AH rfl (zl 1 Tryz.underlying25 rfl (zL Tryz.underlying25 rfl (Ag (v := .int .u64 (vl.length : Int)) trivial rfl rfl (fun ρ w E H => DN E rfl Tryz.underlying3 Tryz.underlying22 rfl (by rw [IntKind.wrap_u64]; omega)) (Ao (v := .string ⟨((BI vl.length)).toArray⟩) trivial rfl rfl (zk BL rfl) (fun w H => DD vl.length (by omega) w) (Ag (v := .string ⟨((out ++ (BI vl.length))).toArray⟩) trivial rfl rfl (fun ρ w E H => Dz E rfl rfl rfl (by (try simp only [List.length_append, List.length_cons, List.length_nil]); omega)) (za rfl (Ad (Aa (Ae ?_)))))))))
   refine Ac (za rfl (Ad (Aa (AG ?_))))
   refine Ec (fun (k : Nat) (o2 : List UInt8) => [(1, .pointer (some ⟨g1, 0, none⟩)), (3, .string ⟨o2.toArray⟩), (4, .string ⟨((AO mk)).toArray⟩), (5, .int .i64 (i : Int)), (6, .int .i64 (k : Int))]) (fun (k : Nat) (o2 : List UInt8) => [cell g2 5 [.int .u8 (mk : Int)], cell g1 33 [.int .u8 (mk : Int), .int .u64 (mn : Int), .int .u8 (mr : Int), .int .u64 (mb : Int), .int .u64 (ms : Int), .int .u8 (mo : Int), .string ⟨mv.toArray⟩, .slice A vl.length ka, .slice B il.length kb, .int .u8 (ca : Int), .int .u32 (cb : Int), .int .u8 (ck : Int), .string ⟨cs.toArray⟩, .string ⟨ct.toArray⟩, .string ⟨cu.toArray⟩, .int .u8 (cz : Int), .int .u8 (mc : Int), .string ⟨mt.toArray⟩]]) (fun (gk : Nat) (k : Nat) (o2 : List UInt8) => k + gk = vl.length ∧ o2 = out ++ HJ vl k) vl.length 0 (out ++ (BI vl.length)) ⟨by omega, by simp [HJ]⟩ ⟨rfl, rfl, rfl, rfl, rfl, trivial⟩ [0, 1] rfl (by decide) ⟨.inl rfl, .inl rfl, trivial⟩ fun gk k o2 hF => ?_
   obtain ⟨hkg2, ho2⟩ := hF
   refine Ae (Ae (Ac (zm rfl (zf 7 AH rfl (zl 1 Tryz.underlying25 rfl (zL Tryz.underlying25 rfl ?_))))))
   refine zb rfl fun c110 hc110 => ?_
   refine Ad (Aa ?_)
   cases c110
   ·refine Ah rfl (Cd (AW (AW (BH (AA (AA (Aa (Ac (zm rfl ?_)))))))))
    refine Ag (v := .int .i64 ((i + 1 : Nat) : Int)) trivial rfl rfl (fun ρ w E H => BQ E rfl rfl rfl (by have h := DV mk; rw [IntKind.wrap_i64]; omega)) (za rfl (Ad ?_))
    refine B7 (gk1 - 1) (i + 1, o2) (by omega) ⟨by omega, by rw [D3 hp, ← hout]; (try rw [ho2]); (try rw [Eu (by simpa [AB] using hc110)]); (try rw [Ew (by simpa [AB] using hc151)]); simp [Pt.put, voB, imB]⟩ ⟨rfl, rfl, rfl, rfl, trivial⟩ [0, 1] rfl (by decide) ⟨.inl rfl, .inl rfl, trivial⟩
   ·refine Ap rfl (Ax (Aa (Ae (AG ?_))))
    have hkl2 : k < vl.length := by simpa [AB] using hc110
    obtain ⟨⟨xs, xn, xr, xv⟩, hx⟩ : ∃ x, vl[k]? = some x := ⟨_, List.getElem?_eq_getElem hkl2⟩
    obtain ⟨ad, rfl, -, -⟩ := hr.hv.row hx
    have hxm := List.mem_of_getElem? hx
    have hxf := f7 _ hxm
    have hxs := s4 _ hxm
    have q1 := hxf.h1
    have q2 := hxf.h2
    have q3 := hxf.h3
    dsimp only at hxs q1 q2 q3
    have hb0 := Nr vl k s2 s10
    have hb1 := Nr vl (k + 1) s2 s10
    rw [LJ hx] at hb1
    simp only [voB, List.length_append] at hb1
    have hol2 : o2.length = out.length + (HJ vl k).length := by rw [ho2, List.length_append]
    have hol := hlo
    refine BN [] [0, 1] (by kernel_rfl) rfl ⟨(zh hg2), (zh hg1), trivial⟩ (ym 0 rfl (by kernel_rfl) zI (yf 1 7 AH rfl (by kernel_rfl) zI (yl 2 1 Tryz.underlying25 rfl (by kernel_rfl) zI (ym 3 rfl (by kernel_rfl) zI (yt (i := 4) (v := .pointer (some (ad.add (k * 4)))) (by kernel_rfl) zI rfl rfl rfl rfl (fun ρ w E H => BA (i := k) E rfl Tryz.underlying25 AZ rfl rfl hkl2) (yt (i := 5) (v := .pointer (some (ad.add (k * 4)))) (by kernel_rfl) zI rfl rfl rfl rfl (fun ρ w E H => FU E rfl CV rfl) (yt (i := 6) (v := .int .u64 (xs : Int)) (by kernel_rfl) zI rfl rfl rfl rfl (fun ρ w E H => Em E ((hr.hv.below (H.os.below (Nat.le_refl _) (by simp))).rowA hx) rfl rfl rfl Tryz.underlying22 rfl) (yf 9 7 AH rfl (by kernel_rfl) zI (yl 10 1 Tryz.underlying25 rfl (by kernel_rfl) zI ?_)))))))))
    refine ym 11 rfl (by kernel_rfl) zI (yt (i := 12) (v := .pointer (some (ad.add (k * 4)))) (by kernel_rfl) zI rfl rfl rfl rfl (fun ρ w E H => BA (i := k) E rfl Tryz.underlying25 AZ rfl rfl hkl2) (yt (i := 13) (v := .pointer (some ((ad.add (k * 4)).add 1))) (by kernel_rfl) zI rfl rfl rfl rfl (fun ρ w E H => Fb E rfl EB rfl) (yt (i := 14) (v := .agg #[.int .u64 (xn : Int), .int .u8 (xr : Int)]) (by kernel_rfl) zI rfl rfl rfl rfl (fun ρ w E H => C7 (cs := [.int .u64 (xn : Int), .int .u8 (xr : Int)]) E (RowAt.mid ((hr.hv.below (H.os.below (Nat.le_refl _) (by simp))).rowA hx) 1 2 rfl) rfl rfl Tryz.underlying24 rfl Bi) (yf 17 7 AH rfl (by kernel_rfl) zI (yl 18 1 Tryz.underlying25 rfl (by kernel_rfl) zI (ym 19 rfl (by kernel_rfl) zI (yt (i := 20) (v := .pointer (some (ad.add (k * 4)))) (by kernel_rfl) zI rfl rfl rfl rfl (fun ρ w E H => BA (i := k) E rfl Tryz.underlying25 AZ rfl rfl hkl2) (yt (i := 21) (v := .pointer (some ((ad.add (k * 4)).add 3))) (by kernel_rfl) zI rfl rfl rfl rfl (fun ρ w E H => Fb E rfl EA rfl) (yt (i := 22) (v := .string ⟨xv.toArray⟩) (by kernel_rfl) zI rfl rfl rfl rfl (fun ρ w E H => H3 E ((hr.hv.below (H.os.below (Nat.le_refl _) (by simp))).rowA hx) 3 rfl rfl rfl Tryz.underlying9 rfl) ?_)))))))))
    refine yr 7 (by kernel_rfl) (BO (v := .string ⟨((BI xs)).toArray⟩) rfl trivial rfl rfl (zk BL rfl) (fun w H => DD xs (by omega) w) (fun w H => H.ks [] [0, 1] rfl ⟨(zh hg2), (zh hg1), trivial⟩) (yt (i := 8) (v := .string ⟨((o2 ++ (BI xs))).toArray⟩) (by kernel_rfl) zI rfl rfl rfl rfl (fun ρ w E H => Dz E rfl rfl rfl (by (try simp only [List.length_append, List.length_cons, List.length_nil]); omega)) (yr 15 (by kernel_rfl) (BO (v := .string ⟨((Bal.balB ⟨xn, xr⟩)).toArray⟩) rfl trivial rfl rfl (zk Fg rfl) (fun w H => Bal.refBytes_any ⟨xn, xr⟩ (by show _ < 18446744073709551616; assumption) (by show _ < 256; assumption) w) (fun w H => H.ks [] [0, 1] rfl ⟨(zh hg2), (zh hg1), trivial⟩) (yt (i := 16) (v := .string ⟨(((o2 ++ (BI xs)) ++ (Bal.balB ⟨xn, xr⟩))).toArray⟩) (by kernel_rfl) zI rfl rfl rfl rfl (fun ρ w E H => Dz E rfl rfl rfl (by (try simp only [List.length_append, List.length_cons, List.length_nil]); omega)) (yr 23 (by kernel_rfl) (BO (v := .string ⟨((CM xv)).toArray⟩) rfl trivial rfl rfl (zk CU rfl) (fun w H => Fj xv (by omega) w) (fun w H => H.ks [] [0, 1] rfl ⟨(zh hg2), (zh hg1), trivial⟩) (yt (i := 24) (v := .string ⟨((((o2 ++ (BI xs)) ++ (Bal.balB ⟨xn, xr⟩)) ++ (CM xv))).toArray⟩) (by kernel_rfl) zI rfl rfl rfl rfl (fun ρ w E H => Dz E rfl rfl rfl (by (try simp only [List.length_append, List.length_cons, List.length_nil]); omega)) (yA 25 rfl (by kernel_rfl) zI ?_)))))))))
    refine BE (by kernel_rfl) (AA (Aa (Ac (zm rfl (Ag (v := .int .i64 ((k + 1 : Nat) : Int)) trivial rfl rfl (fun ρ w E H => BQ E rfl rfl rfl (by rw [IntKind.wrap_i64]; omega)) (za rfl (Ad ?_)))))))
    refine B7 (gk - 1) (k + 1, (((o2 ++ (BI xs)) ++ (Bal.balB ⟨xn, xr⟩)) ++ (CM xv))) (by omega) ⟨by omega, by rw [LJ hx, ho2]; simp [voB, imB]⟩ ⟨rfl, rfl, rfl, rfl, rfl, trivial⟩ [0, 1] rfl (by decide) ⟨.inl rfl, .inl rfl, trivial⟩
  ·simp only [Pt.put, List.length_append, List.length_cons, List.length_nil] at hnx
   clear hnx
   have hnl := (B0 il.length (by omega)).1
   refine Ac (zm rfl (zm rfl (Ag (v := .int .u8 105) trivial rfl rfl (fun ρ w E H => EM (n := i) (b := (UInt8.ofNat 105)) E rfl Tryz.underlying9 rfl rfl hch rfl) (Ad (Aa (AG (Ae (Ac (zc false rfl (by decide) ?_)))))))))
   refine za rfl (Ad (Aa (Ah rfl (Ae (Ac (zc false rfl (by decide) (za rfl (Ad (Aa ?_)))))))))
   refine Ah rfl (Ae (Ac (zc false rfl (by decide) (za rfl (Ad (Aa (Ah rfl (Ae (Ac ?_)))))))))
   refine zc false rfl (by decide) (za rfl (Ad (Aa (Ah rfl (Ae (Ac (zc false rfl (by decide) (za rfl (Ad ?_)))))))))
   refine Aa (Ah rfl (Ae (Ac (zc false rfl (by decide) (za rfl (Ad (Aa (Ah rfl (Ae ?_)))))))))
   refine Ae (Ac (zc false rfl (by decide) (za rfl (Ad (Aa (Ah rfl (Ac (zc false rfl (by decide) (za rfl ?_)))))))))
   refine Ad (Aa (Ah rfl (Ae (Ac (zc false rfl (by decide) (za rfl (Ad (Aa (Ah rfl ?_)))))))))
   refine Ae (Ac (zc false rfl (by decide) (za rfl (Ad (Aa (Ah rfl (Ae (Ac (zc true rfl (by decide) ?_)))))))))
   refine za rfl (Ad (Aa (Ap rfl (Ae (Ac (zm rfl (zf 8 AE rfl (zl 1 Tryz.underlying26 rfl (zL Tryz.underlying26 rfl ?_)))))))))
   refine Ag (v := .int .u64 (il.length : Int)) trivial rfl rfl (fun ρ w E H => DN E rfl Tryz.underlying3 Tryz.underlying22 rfl (by rw [IntKind.wrap_u64]; omega)) (Ao (v := .string ⟨((BI il.length)).toArray⟩) trivial rfl rfl (zk BL rfl) (fun w H => DD il.length (by omega) w) (Ag (v := .string ⟨((out ++ (BI il.length))).toArray⟩) trivial rfl rfl (fun ρ w E H => Dz E rfl rfl rfl (by (try simp only [List.length_append, List.length_cons, List.length_nil]); omega)) (za rfl (Ad (Aa (Ae (Ac (za rfl (Ad ?_)))))))))
   refine Aa (AG ?_)
   refine Ec (fun (k : Nat) (o2 : List UInt8) => [(1, .pointer (some ⟨g1, 0, none⟩)), (3, .string ⟨o2.toArray⟩), (4, .string ⟨((AO mk)).toArray⟩), (5, .int .i64 (i : Int)), (7, .int .i64 (k : Int))]) (fun (k : Nat) (o2 : List UInt8) => [cell g2 5 [.int .u8 (mk : Int)], cell g1 33 [.int .u8 (mk : Int), .int .u64 (mn : Int), .int .u8 (mr : Int), .int .u64 (mb : Int), .int .u64 (ms : Int), .int .u8 (mo : Int), .string ⟨mv.toArray⟩, .slice A vl.length ka, .slice B il.length kb, .int .u8 (ca : Int), .int .u32 (cb : Int), .int .u8 (ck : Int), .string ⟨cs.toArray⟩, .string ⟨ct.toArray⟩, .string ⟨cu.toArray⟩, .int .u8 (cz : Int), .int .u8 (mc : Int), .string ⟨mt.toArray⟩]]) (fun (gk : Nat) (k : Nat) (o2 : List UInt8) => k + gk = il.length ∧ o2 = out ++ Io il k) il.length 0 (out ++ (BI il.length)) ⟨by omega, by simp [Io]⟩ ⟨rfl, rfl, rfl, rfl, rfl, trivial⟩ [0, 1] rfl (by decide) ⟨.inl rfl, .inl rfl, trivial⟩ fun gk k o2 hF => ?_
   obtain ⟨hkg2, ho2⟩ := hF
   refine Ae (Ae (Ac (zm rfl (zf 8 AE rfl (zl 1 Tryz.underlying26 rfl (zL Tryz.underlying26 rfl ?_))))))
   refine zb rfl fun c151 hc151 => ?_
   refine Ad (Aa ?_)
   cases c151
   ·refine Ah rfl (Cd (AW (AW (BH (AA (AA (Aa (Ac (zm rfl ?_)))))))))
    refine Ag (v := .int .i64 ((i + 1 : Nat) : Int)) trivial rfl rfl (fun ρ w E H => BQ E rfl rfl rfl (by have h := DV mk; rw [IntKind.wrap_i64]; omega)) (za rfl (Ad ?_))
    refine B7 (gk1 - 1) (i + 1, o2) (by omega) ⟨by omega, by rw [D3 hp, ← hout]; (try rw [ho2]); (try rw [Eu (by simpa [AB] using hc110)]); (try rw [Ew (by simpa [AB] using hc151)]); simp [Pt.put, voB, imB]⟩ ⟨rfl, rfl, rfl, rfl, trivial⟩ [0, 1] rfl (by decide) ⟨.inl rfl, .inl rfl, trivial⟩
   ·refine Ap rfl (Ax (Aa (Ae (AG ?_))))
    have hkl2 : k < il.length := by simpa [AB] using hc151
    obtain ⟨⟨xs, xv⟩, hx⟩ : ∃ x, il[k]? = some x := ⟨_, List.getElem?_eq_getElem hkl2⟩
    obtain ⟨ad, rfl, -, -⟩ := hr.hi.row hx
    have hxm := List.mem_of_getElem? hx
    have q1 := f8 _ hxm
    have hxs := s5 _ hxm
    dsimp only at hxs q1
    have hb0 := Ns il k s3 s11
    have hb1 := Ns il (k + 1) s3 s11
    rw [LL hx] at hb1
    simp only [imB, List.length_append] at hb1
    have hol2 : o2.length = out.length + (Io il k).length := by rw [ho2, List.length_append]
    refine BN [] [0, 1] (by kernel_rfl) rfl ⟨(zh hg2), (zh hg1), trivial⟩ (ym 0 rfl (by kernel_rfl) zI (yf 1 8 AE rfl (by kernel_rfl) zI (yl 2 1 Tryz.underlying26 rfl (by kernel_rfl) zI (ym 3 rfl (by kernel_rfl) zI (yt (i := 4) (v := .pointer (some (ad.add (k * 2)))) (by kernel_rfl) zI rfl rfl rfl rfl (fun ρ w E H => BA (i := k) E rfl Tryz.underlying26 Bg rfl rfl hkl2) (yt (i := 5) (v := .pointer (some (ad.add (k * 2)))) (by kernel_rfl) zI rfl rfl rfl rfl (fun ρ w E H => FU E rfl CW rfl) (yt (i := 6) (v := .int .u64 (xs : Int)) (by kernel_rfl) zI rfl rfl rfl rfl (fun ρ w E H => Em E ((hr.hi.below (H.os.below (Nat.le_refl _) (by simp))).rowA hx) rfl rfl rfl Tryz.underlying22 rfl) (yf 9 8 AE rfl (by kernel_rfl) zI (yl 10 1 Tryz.underlying26 rfl (by kernel_rfl) zI ?_)))))))))
    refine ym 11 rfl (by kernel_rfl) zI (yt (i := 12) (v := .pointer (some (ad.add (k * 2)))) (by kernel_rfl) zI rfl rfl rfl rfl (fun ρ w E H => BA (i := k) E rfl Tryz.underlying26 Bg rfl rfl hkl2) (yt (i := 13) (v := .pointer (some ((ad.add (k * 2)).add 1))) (by kernel_rfl) zI rfl rfl rfl rfl (fun ρ w E H => Fb E rfl EC rfl) (yt (i := 14) (v := .string ⟨xv.toArray⟩) (by kernel_rfl) zI rfl rfl rfl rfl (fun ρ w E H => H3 E ((hr.hi.below (H.os.below (Nat.le_refl _) (by simp))).rowA hx) 1 rfl rfl rfl Tryz.underlying9 rfl) (yr 7 (by kernel_rfl) (BO (v := .string ⟨((BI xs)).toArray⟩) rfl trivial rfl rfl (zk BL rfl) (fun w H => DD xs (by omega) w) (fun w H => H.ks [] [0, 1] rfl ⟨(zh hg2), (zh hg1), trivial⟩) (yt (i := 8) (v := .string ⟨((o2 ++ (BI xs))).toArray⟩) (by kernel_rfl) zI rfl rfl rfl rfl (fun ρ w E H => Dz E rfl rfl rfl (by (try simp only [List.length_append, List.length_cons, List.length_nil]); omega)) (yr 15 (by kernel_rfl) (BO (v := .string ⟨((CM xv)).toArray⟩) rfl trivial rfl rfl (zk CU rfl) (fun w H => Fj xv (by omega) w) (fun w H => H.ks [] [0, 1] rfl ⟨(zh hg2), (zh hg1), trivial⟩) (yt (i := 16) (v := .string ⟨(((o2 ++ (BI xs)) ++ (CM xv))).toArray⟩) (by kernel_rfl) zI rfl rfl rfl rfl (fun ρ w E H => Dz E rfl rfl rfl (by (try simp only [List.length_append, List.length_cons, List.length_nil]); omega)) ?_)))))))))
    refine yA 17 rfl (by kernel_rfl) zI (BE (by kernel_rfl) (AA (Aa (Ac (zm rfl (Ag (v := .int .i64 ((k + 1 : Nat) : Int)) trivial rfl rfl (fun ρ w E H => BQ E rfl rfl rfl (by rw [IntKind.wrap_i64]; omega)) (za rfl (Ad ?_))))))))
    refine B7 (gk - 1) (k + 1, ((o2 ++ (BI xs)) ++ (CM xv))) (by omega) ⟨by omega, by rw [LL hx, ho2]; simp [voB, imB]⟩ ⟨rfl, rfl, rfl, rfl, rfl, trivial⟩ [0, 1] rfl (by decide) ⟨.inl rfl, .inl rfl, trivial⟩

theorem Jz (m : Ms) (A B : Option Addr) (ka kb : Nat) (w : World) (hf : m.Fits) (hs : m.Small) (hr : MsRows w m A B) : Calls Tryz.prog 18 #[msV m A ka B kb] w fun e w' => Mc w (BP m) e w' := by
 obtain ⟨mk, mn, mr, mb, ms, mo, mv, vl, il, ⟨ca, cb, ck, cs, ct, cu, cz⟩, mc, mt⟩ := m
 exact PD _ _ _ _ _ _ _ _ _ _ _ _ _ _ _ _ _ _ _ _ _ _ w hf hs hr
end Go.Proofs.YteiaiilfekojfaaGreat.Msg
end
section
set_option linter.unusedVariables false
set_option linter.unusedSimpArgs false
namespace Go.Proofs.YteiaiilfekojfaaGreat.Msg
open Go.RowKit Sx Wire DrawInv
set_option maxRecDepth 100000 in
set_option maxHeartbeats 4000000 in
theorem U4 (mk mn mr mb ms mo ca cb ck cz mc : Nat) (mv cs ct cu mt : List UInt8) (vl : List Vo) (il : List Im) (A B : Option Addr) (ka kb : Nat) (w : World) (hr : MsRows w ⟨mk, mn, mr, mb, ms, mo, mv, vl, il, ⟨ca, cb, ck, cs, ct, cu, cz⟩, mc, mt⟩ A B) (hl1 : vl.length ≤ 9223372036854775807) (hl2 : il.length ≤ 9223372036854775807) : Calls Tryz.prog 9 #[.agg #[.int .u8 (mk : Int), .int .u64 (mn : Int), .int .u8 (mr : Int), .int .u64 (mb : Int), .int .u64 (ms : Int), .int .u8 (mo : Int), .string ⟨mv.toArray⟩, .slice A vl.length ka, .slice B il.length kb, .int .u8 (ca : Int), .int .u32 (cb : Int), .int .u8 (ck : Int), .string ⟨cs.toArray⟩, .string ⟨ct.toArray⟩, .string ⟨cu.toArray⟩, .int .u8 (cz : Int), .int .u8 (mc : Int), .string ⟨mt.toArray⟩]] w fun e w' => ∃ b, e = .returned (.bool b) ∧ (b = false → Ms.Lim ⟨mk, mn, mr, mb, ms, mo, mv, vl, il, ⟨ca, cb, ck, cs, ct, cu, cz⟩, mc, mt⟩) ∧ Below w.heap.size w w' := by
 refine A0 (n := 64) _ Tryz.func9 rfl rfl rfl (Hp.start w) (Ae (Ac ?_))
 refine zB rfl fun g1 hg1 => ?_
 refine za rfl (Ad (Aa (Ae (Ae (Ac (zf 7 AH rfl (zl 0 Tryz.underlying25 rfl (zL Tryz.underlying25 rfl ?_))))))))
 refine zb rfl fun c8 hc8 => ?_
 refine zm rfl ?_
 cases c8
 ·refine zf 8 AE rfl (zl 0 Tryz.underlying26 rfl (zL Tryz.underlying26 rfl ?_))
  refine zb rfl fun c13 hc13 => ?_
  refine zp rfl (zm rfl ?_)
  cases c13
  ·refine zf 6 Cf rfl (zl 0 Tryz.underlying9 rfl (Ag (v := .int .i64 (mv.length : Int)) (gK rfl) rfl rfl (fun ρ w E H => FT E rfl Tryz.underlying9 rfl) ?_))
   refine zb rfl fun c19 hc19 => ?_
   refine zp rfl (zm rfl ?_)
   cases c19
   ·refine zf 16 B9 rfl (zf 17 Dv rfl (zl 0 Tryz.underlying9 rfl (Ag (v := .int .i64 (mt.length : Int)) (gK rfl) rfl rfl (fun ρ w E H => FT E rfl Tryz.underlying9 rfl) ?_)))
    refine zb rfl fun c26 hc26 => ?_
    refine zp rfl (zm rfl ?_)
    cases c26
    ·refine zf 9 Bd rfl (zv 0 [.int .u8 (ca : Int), .int .u32 (cb : Int), .int .u8 (ck : Int), .string ⟨cs.toArray⟩, .string ⟨ct.toArray⟩, .string ⟨cu.toArray⟩, .int .u8 (cz : Int)] Tryz.underlying29 BG rfl ?_)
     refine Dx (cs := [.int .u8 (ca : Int), .int .u32 (cb : Int), .int .u8 (ck : Int), .string ⟨cs.toArray⟩, .string ⟨ct.toArray⟩, .string ⟨cu.toArray⟩, .int .u8 (cz : Int)]) (gK rfl) rfl rfl (fun ρ w E H => AV E rfl rfl Tryz.underlying90 BG H9 rfl rfl (by kernel_rfl)) fun g2 hg2 => ?_
     refine CN (b := (Cmd.greatB [⟨ca, cb, ck, cs, ct, cu, cz⟩])) (gK rfl) rfl rfl (zk GU rfl) (fun w H => Cmd.great_any [⟨ca, cb, ck, cs, ct, cu, cz⟩] (show 1 ≤ 9223372036854775807 by decide) _ _ w (TT (cells := Cmd.cmL) (x := ⟨ca, cb, ck, cs, ct, cu, cz⟩) (H.get (i := 0) rfl))) fun c32 hc32 => ?_
     refine zp rfl (Ad (Aa ?_))
     cases c32
     ·refine Ah rfl (Ax (Aa (Ae (Ae (Ac (za rfl (Ad (Aa (AG ?_)))))))))
      refine Ff (fun (k : Nat) => [(1, .pointer (some ⟨g1, 0, none⟩)), (3, .int .i64 (k : Int))]) (fun (k : Nat) => [cell g2 29 [.int .u8 (ca : Int), .int .u32 (cb : Int), .int .u8 (ck : Int), .string ⟨cs.toArray⟩, .string ⟨ct.toArray⟩, .string ⟨cu.toArray⟩, .int .u8 (cz : Int)], cell g1 33 [.int .u8 (mk : Int), .int .u64 (mn : Int), .int .u8 (mr : Int), .int .u64 (mb : Int), .int .u64 (ms : Int), .int .u8 (mo : Int), .string ⟨mv.toArray⟩, .slice A vl.length ka, .slice B il.length kb, .int .u8 (ca : Int), .int .u32 (cb : Int), .int .u8 (ck : Int), .string ⟨cs.toArray⟩, .string ⟨ct.toArray⟩, .string ⟨cu.toArray⟩, .int .u8 (cz : Int), .int .u8 (mc : Int), .string ⟨mt.toArray⟩]]) (fun (gk : Nat) (k : Nat) => k + gk = vl.length ∧ ∀ v ∈ vl.take k, v.value.length ≤ 300) vl.length 0 ⟨by omega, fun v hv => by cases hv⟩ ⟨rfl, rfl, trivial⟩ [0, 1] rfl (by decide) ⟨.inl rfl, .inl rfl, trivial⟩ fun gk k hF => ?_
      obtain ⟨hkg, hall⟩ := hF
      refine Ae (Ae (Ac (zm rfl (zf 7 AH rfl (zl 1 Tryz.underlying25 rfl (zL Tryz.underlying25 rfl ?_))))))
      refine zb rfl fun c38 hc38 => ?_
      refine Ad (Aa ?_)
      cases c38
      ·refine Ah rfl (Cd (AW (AW (BH (Aa (Ae (Ae ?_)))))))
       have hallV : ∀ v ∈ vl, v.value.length ≤ 300 := by rw [List.take_of_length_le (by have h := hc38; simp [AB] at h; omega)] at hall; exact hall
       refine Ac (za rfl (Ad (Aa (AG ?_))))
       refine Ff (fun (k : Nat) => [(1, .pointer (some ⟨g1, 0, none⟩)), (4, .int .i64 (k : Int))]) (fun (k : Nat) => [cell g2 29 [.int .u8 (ca : Int), .int .u32 (cb : Int), .int .u8 (ck : Int), .string ⟨cs.toArray⟩, .string ⟨ct.toArray⟩, .string ⟨cu.toArray⟩, .int .u8 (cz : Int)], cell g1 33 [.int .u8 (mk : Int), .int .u64 (mn : Int), .int .u8 (mr : Int), .int .u64 (mb : Int), .int .u64 (ms : Int), .int .u8 (mo : Int), .string ⟨mv.toArray⟩, .slice A vl.length ka, .slice B il.length kb, .int .u8 (ca : Int), .int .u32 (cb : Int), .int .u8 (ck : Int), .string ⟨cs.toArray⟩, .string ⟨ct.toArray⟩, .string ⟨cu.toArray⟩, .int .u8 (cz : Int), .int .u8 (mc : Int), .string ⟨mt.toArray⟩]]) (fun (gk : Nat) (k : Nat) => k + gk = il.length ∧ ∀ v ∈ il.take k, v.value.length ≤ 300) il.length 0 ⟨by omega, fun v hv => by cases hv⟩ ⟨rfl, rfl, trivial⟩ [0, 1] rfl (by decide) ⟨.inl rfl, .inl rfl, trivial⟩ fun gk k hF => ?_
       obtain ⟨hkg, hall⟩ := hF
       refine Ae (Ae (Ac (zm rfl (zf 8 AE rfl (zl 1 Tryz.underlying26 rfl (zL Tryz.underlying26 rfl ?_))))))
       refine zb rfl fun c53 hc53 => ?_
       refine Ad (Aa ?_)
       cases c53
       ·refine Ah rfl (Cd (AW (AW (BH (Aa (Ae (Ac (za rfl (Ad ?_)))))))))
        refine Aa (Am ?_)
        refine Ai (.bool false) (fun a w K H => BC K rfl rfl) (fun w H => ?_)
        have hallI : ∀ v ∈ il, v.value.length ≤ 300 := by rw [List.take_of_length_le (by have h := hc53; simp [AB] at h; omega)] at hall; exact hall
        have n8 := hc8
        have n13 := hc13
        have n19 := hc19
        have n26 := hc26
        simp [AB] at n8 n13 n19 n26
        have n32 := hc32
        simp [Cmd.greatB, Cmd.longB] at n32
        exact ⟨_, rfl, fun _ => ⟨(show mv.length ≤ 300 by omega), (show vl.length ≤ 100 by omega), (show il.length ≤ 100 by omega), hallV, hallI, (show cs.length ≤ 300 by omega), (show ct.length ≤ 300 by omega), (show cu.length ≤ 300 by omega), (show mt.length ≤ 300 by omega)⟩, H.toBelow ⟨(zq hg2), (zq hg1), trivial⟩⟩
       ·refine Ap rfl (Ax (Aa (Ae (AG (Ae ?_)))))
        have hkl : k < il.length := by have h := hc53; simp [AB] at h; omega
        obtain ⟨x, hx⟩ : ∃ x, il[k]? = some x := ⟨_, List.getElem?_eq_getElem hkl⟩
        obtain ⟨ad, rfl, -, -⟩ := hr.hi.row hx
        refine Ac (zf 8 AE rfl (zl 1 Tryz.underlying26 rfl (zm rfl (Ag (v := .pointer (some (ad.add (k * 2)))) trivial rfl rfl (fun ρ w E H => BA (i := k) E rfl Tryz.underlying26 Bg rfl rfl hkl) (Ag (v := .pointer (some ((ad.add (k * 2)).add 1))) trivial rfl rfl (fun ρ w E H => Fb E rfl EC rfl) (Ag (v := .string ⟨x.value.toArray⟩) trivial rfl rfl (fun ρ w E H => H3 E ((hr.hi.below (H.toBelow ⟨(zq hg2), (zq hg1), trivial⟩)).rowA hx) 1 rfl rfl rfl Tryz.underlying9 rfl) (Ag (v := .int .i64 (x.value.length : Int)) trivial rfl rfl (fun ρ w E H => FT E rfl Tryz.underlying9 rfl) ?_)))))))
        refine zb rfl fun c63 hc63 => ?_
        refine Ad (Aa ?_)
        cases c63
        ·refine Ah rfl (Ax (AA (Aa (Ac (zm rfl (Ag (v := .int .i64 ((k + 1 : Nat) : Int)) trivial rfl rfl (fun ρ w E H => BQ E rfl rfl rfl (by rw [IntKind.wrap_i64]; omega)) (za rfl (Ad ?_))))))))
         refine B7 (gk - 1) (k + 1) (by omega) ⟨by omega, fun v hv => by rw [D1 hx] at hv; rcases List.mem_append.1 hv with hv | hv; exact hall v hv; rw [List.mem_singleton.1 hv]; have h := hc63; simp [AB] at h; omega⟩ ⟨rfl, rfl, trivial⟩ [0, 1] rfl (by decide) ⟨.inl rfl, .inl rfl, trivial⟩
        ·refine Ap rfl (Ae (Ac (za rfl (Ad (Aa (Am (AU (Ak (Ak ?_)))))))))
         refine AU (Ak ?_)
         refine Ai (.bool true) (fun a w K H => BC K rfl rfl) (fun w H => ?_)
         exact ⟨_, rfl, (fun h => by cases h), H.toBelow ⟨(zq hg2), (zq hg1), trivial⟩⟩
      ·refine Ap rfl (Ax (Aa (Ae (AG (Ae ?_)))))
       have hkl : k < vl.length := by have h := hc38; simp [AB] at h; omega
       obtain ⟨x, hx⟩ : ∃ x, vl[k]? = some x := ⟨_, List.getElem?_eq_getElem hkl⟩
       obtain ⟨ad, rfl, -, -⟩ := hr.hv.row hx
       refine Ac (zf 7 AH rfl (zl 1 Tryz.underlying25 rfl (zm rfl (Ag (v := .pointer (some (ad.add (k * 4)))) trivial rfl rfl (fun ρ w E H => BA (i := k) E rfl Tryz.underlying25 AZ rfl rfl hkl) (Ag (v := .pointer (some ((ad.add (k * 4)).add 3))) trivial rfl rfl (fun ρ w E H => Fb E rfl EA rfl) (Ag (v := .string ⟨x.value.toArray⟩) trivial rfl rfl (fun ρ w E H => H3 E ((hr.hv.below (H.toBelow ⟨(zq hg2), (zq hg1), trivial⟩)).rowA hx) 3 rfl rfl rfl Tryz.underlying9 rfl) (Ag (v := .int .i64 (x.value.length : Int)) trivial rfl rfl (fun ρ w E H => FT E rfl Tryz.underlying9 rfl) ?_)))))))
       refine zb rfl fun c48 hc48 => ?_
       refine Ad (Aa ?_)
       cases c48
       ·refine Ah rfl (Ax (AA (Aa (Ac (zm rfl (Ag (v := .int .i64 ((k + 1 : Nat) : Int)) trivial rfl rfl (fun ρ w E H => BQ E rfl rfl rfl (by rw [IntKind.wrap_i64]; omega)) (za rfl (Ad ?_))))))))
        refine B7 (gk - 1) (k + 1) (by omega) ⟨by omega, fun v hv => by rw [D1 hx] at hv; rcases List.mem_append.1 hv with hv | hv; exact hall v hv; rw [List.mem_singleton.1 hv]; have h := hc48; simp [AB] at h; omega⟩ ⟨rfl, rfl, trivial⟩ [0, 1] rfl (by decide) ⟨.inl rfl, .inl rfl, trivial⟩
       ·refine Ap rfl (Ae (Ac (za rfl (Ad (Aa (Am (AU (Ak (Ak ?_)))))))))
        refine AU (Ak ?_)
        refine Ai (.bool true) (fun a w K H => BC K rfl rfl) (fun w H => ?_)
        exact ⟨_, rfl, (fun h => by cases h), H.toBelow ⟨(zq hg2), (zq hg1), trivial⟩⟩
     ·refine Ap rfl (Ae (Ac (za rfl (Ad (Aa (Am (Ak ?_)))))))
      refine Ai (.bool true) (fun a w K H => BC K rfl rfl) (fun w H => ?_)
      exact ⟨_, rfl, (fun h => by cases h), H.toBelow ⟨(zq hg2), (zq hg1), trivial⟩⟩
    ·refine zo rfl (zo rfl (zo rfl (zo rfl (zp rfl (Ad (Aa (Ap rfl (Ae (Ac ?_)))))))))
     refine za rfl (Ad (Aa (Am (Ak ?_))))
     refine Ai (.bool true) (fun a w K H => BC K rfl rfl) (fun w H => ?_)
     exact ⟨_, rfl, (fun h => by cases h), H.toBelow ⟨(zq hg1), trivial⟩⟩
   ·refine zo rfl (zo rfl (zo rfl (zo rfl (zo rfl (zp rfl (zm rfl (zo rfl (zo rfl (zo rfl ?_)))))))))
    refine zo rfl (zp rfl (Ad (Aa (Ap rfl (Ae (Ac (za rfl (Ad (Aa ?_)))))))))
    refine Am (Ak ?_)
    refine Ai (.bool true) (fun a w K H => BC K rfl rfl) (fun w H => ?_)
    exact ⟨_, rfl, (fun h => by cases h), H.toBelow ⟨(zq hg1), trivial⟩⟩
  ·refine zo rfl (zo rfl (zo rfl (zo rfl (zp rfl (zm rfl (zo rfl (zo rfl (zo rfl (zo rfl ?_)))))))))
   refine zo rfl (zp rfl (zm rfl (zo rfl (zo rfl (zo rfl (zo rfl (zp rfl (Ad (Aa ?_)))))))))
   refine Ap rfl (Ae (Ac (za rfl (Ad (Aa (Am (Ak ?_)))))))
   refine Ai (.bool true) (fun a w K H => BC K rfl rfl) (fun w H => ?_)
   exact ⟨_, rfl, (fun h => by cases h), H.toBelow ⟨(zq hg1), trivial⟩⟩
 ·refine zo rfl (zo rfl (zo rfl (zo rfl (zp rfl (zm rfl (zo rfl (zo rfl (zo rfl (zo rfl ?_)))))))))
  refine zp rfl (zm rfl (zo rfl (zo rfl (zo rfl (zo rfl (zo rfl (zp rfl (zm rfl (zo rfl ?_)))))))))
  refine zo rfl (zo rfl (zo rfl (zp rfl (Ad (Aa (Ap rfl (Ae (Ac (za rfl ?_)))))))))
  refine Ad (Aa (Am (Ak ?_)))
  refine Ai (.bool true) (fun a w K H => BC K rfl rfl) (fun w H => ?_)
  exact ⟨_, rfl, (fun h => by cases h), H.toBelow ⟨(zq hg1), trivial⟩⟩

theorem great_any (m : Ms) (A B : Option Addr) (ka kb : Nat) (w : World) (hr : MsRows w m A B) (hl1 : m.votes.length ≤ 9223372036854775807) (hl2 : m.items.length ≤ 9223372036854775807) : Calls Tryz.prog 9 #[msV m A ka B kb] w fun e w' => ∃ b, e = .returned (.bool b) ∧ (b = false → m.Lim) ∧ Below w.heap.size w w' := by
 obtain ⟨mk, mn, mr, mb, ms, mo, mv, vl, il, ⟨ca, cb, ck, cs, ct, cu, cz⟩, mc, mt⟩ := m
 exact U4 _ _ _ _ _ _ _ _ _ _ _ _ _ _ _ _ _ _ _ _ _ _ w hr hl1 hl2
end Go.Proofs.YteiaiilfekojfaaGreat.Msg
end
section
set_option linter.unusedVariables false
set_option linter.unusedSimpArgs false
namespace Go.Proofs.YteiaiilfekojfaaGreat.Net
open Go.RowKit Sx Wire DrawInv
open Msg
set_option maxRecDepth 100000 in
set_option maxHeartbeats 4000000 in
theorem TP (L : List Rl) (gs : List Nat) (pp : List (Nat × Nat)) (A C : Option Addr) (kA kC : Nat) (xs xd xka xkb : Nat) (xA xB : Option Addr) (mk mn mr mb ms mo ca cb ck cz mc : Nat) (mv cs ct cu mt : List UInt8) (vl : List Vo) (il : List Im)  (w : World) (hap : BJ xs xd = false) : Calls Tryz.prog 36 #[.agg #[.slice A L.length kA, .slice C gs.length kC], .agg #[.int .u8 (xs : Int), .int .u8 (xd : Int), .int .u8 (mk : Int), .int .u64 (mn : Int), .int .u8 (mr : Int), .int .u64 (mb : Int), .int .u64 (ms : Int), .int .u8 (mo : Int), .string ⟨mv.toArray⟩, .slice xA vl.length xka, .slice xB il.length xkb, .int .u8 (ca : Int), .int .u32 (cb : Int), .int .u8 (ck : Int), .string ⟨cs.toArray⟩, .string ⟨ct.toArray⟩, .string ⟨cu.toArray⟩, .int .u8 (cz : Int), .int .u8 (mc : Int), .string ⟨mt.toArray⟩]] w fun e w' => e = .returned (.tuple #[.agg #[.slice A L.length kA, .slice C gs.length kC], .int .i64 2]) ∧ Below w.heap.size w w' := by
 refine A0 (n := 39) _ Tryz.func36 rfl rfl rfl (Hp.start w) (Ae (Ac ?_))
 refine zB rfl fun g1 hg1 => ?_
 refine zB rfl fun g2 hg2 => ?_
 refine zA AC rfl fun g3 hg3 => ?_
 refine za rfl (Ad (Aa (Ae (Ae (Ac (zf 0 Bv rfl (zl 1 Tryz.underlying5 rfl (zf 1 Bm rfl (zl 1 Tryz.underlying5 rfl ?_)))))))))
 refine Ao (v := .bool false) trivial rfl rfl (zk AX rfl) (fun w H => (Dj xs xd w).mono fun _ _ h => ⟨by rw [h.1, hap], h.2⟩) (zn true rfl (zm rfl (zo rfl (zo rfl (zo rfl (zo rfl (zp rfl (Ad (Aa ?_)))))))))
 refine Ap rfl (Ae (Ac (zw 2 Tryz.underlying78 Af rfl (zS 0 Af rfl (za rfl (Ad (Aa (Am (Ak ?_)))))))))
 refine Ai _ (fun a w K H => GF K [.agg #[.slice A L.length kA, .slice C gs.length kC], .int .i64 2] rfl rfl ⟨⟨_, rfl, AM (H.get (i := 0) rfl) Tryz.underlying78 rfl Af⟩, rfl, trivial⟩) (fun w H => ?_)
 exact ⟨rfl, H.toBelow ⟨(zq hg3), (zq hg2), (zq hg1), trivial⟩⟩

set_option maxRecDepth 100000 in
set_option maxHeartbeats 4000000 in
theorem TM (L : List Rl) (gs : List Nat) (pp : List (Nat × Nat)) (A C : Option Addr) (kA kC : Nat) (xs xd xka xkb : Nat) (xA xB : Option Addr) (mk mn mr mb ms mo ca cb ck cz mc : Nat) (mv cs ct cu mt : List UInt8) (vl : List Vo) (il : List Im)  (w : World) (hap : BJ xs xd = true) (hck : C9 ⟨mk, mn, mr, mb, ms, mo, mv, vl, il, ⟨ca, cb, ck, cs, ct, cu, cz⟩, mc, mt⟩ = false) (hf : Ms.Fits ⟨mk, mn, mr, mb, ms, mo, mv, vl, il, ⟨ca, cb, ck, cs, ct, cu, cz⟩, mc, mt⟩) (hli : Ms.Lim ⟨mk, mn, mr, mb, ms, mo, mv, vl, il, ⟨ca, cb, ck, cs, ct, cu, cz⟩, mc, mt⟩) (hr : MsRows w ⟨mk, mn, mr, mb, ms, mo, mv, vl, il, ⟨ca, cb, ck, cs, ct, cu, cz⟩, mc, mt⟩ xA xB) : Calls Tryz.prog 36 #[.agg #[.slice A L.length kA, .slice C gs.length kC], .agg #[.int .u8 (xs : Int), .int .u8 (xd : Int), .int .u8 (mk : Int), .int .u64 (mn : Int), .int .u8 (mr : Int), .int .u64 (mb : Int), .int .u64 (ms : Int), .int .u8 (mo : Int), .string ⟨mv.toArray⟩, .slice xA vl.length xka, .slice xB il.length xkb, .int .u8 (ca : Int), .int .u32 (cb : Int), .int .u8 (ck : Int), .string ⟨cs.toArray⟩, .string ⟨ct.toArray⟩, .string ⟨cu.toArray⟩, .int .u8 (cz : Int), .int .u8 (mc : Int), .string ⟨mt.toArray⟩]] w fun e w' => e = .returned (.tuple #[.agg #[.slice A L.length kA, .slice C gs.length kC], .int .i64 2]) ∧ Below w.heap.size w w' := by
 refine A0 (n := 39) _ Tryz.func36 rfl rfl rfl (Hp.start w) (Ae (Ac ?_))
 refine zB rfl fun g1 hg1 => ?_
 refine zB rfl fun g2 hg2 => ?_
 refine zA AC rfl fun g3 hg3 => ?_
 refine za rfl (Ad (Aa (Ae (Ae (Ac (zf 0 Bv rfl (zl 1 Tryz.underlying5 rfl (zf 1 Bm rfl (zl 1 Tryz.underlying5 rfl ?_)))))))))
 refine Ao (v := .bool true) trivial rfl rfl (zk AX rfl) (fun w H => (Dj xs xd w).mono fun _ _ h => ⟨by rw [h.1, hap], h.2⟩) (zn false rfl (zm rfl (zf 2 Bl rfl (zv 1 [.int .u8 (mk : Int), .int .u64 (mn : Int), .int .u8 (mr : Int), .int .u64 (mb : Int), .int .u64 (ms : Int), .int .u8 (mo : Int), .string ⟨mv.toArray⟩, .slice xA vl.length xka, .slice xB il.length xkb, .int .u8 (ca : Int), .int .u32 (cb : Int), .int .u8 (ck : Int), .string ⟨cs.toArray⟩, .string ⟨ct.toArray⟩, .string ⟨cu.toArray⟩, .int .u8 (cz : Int), .int .u8 (mc : Int), .string ⟨mt.toArray⟩] Tryz.underlying33 Av rfl (Ao (v := .bool false) (gK rfl) rfl rfl (zk D8 rfl) (fun w H => (KZ ⟨mk, mn, mr, mb, ms, mo, mv, vl, il, ⟨ca, cb, ck, cs, ct, cu, cz⟩, mc, mt⟩ xA xB xka xkb w hf (hli.small hf) (hr.below (H.toBelow ⟨(zq hg3), (zq hg2), (zq hg1), trivial⟩))).mono fun _ _ h => ⟨by rw [h.1, hck], h.2⟩) (zn true rfl (zp rfl (Ad (Aa ?_)))))))))
 refine Ap rfl (Ae (Ac (zw 2 Tryz.underlying78 Af rfl (zS 0 Af rfl (za rfl (Ad (Aa (Am (Ak ?_)))))))))
 refine Ai _ (fun a w K H => GF K [.agg #[.slice A L.length kA, .slice C gs.length kC], .int .i64 2] rfl rfl ⟨⟨_, rfl, AM (H.get (i := 0) rfl) Tryz.underlying78 rfl Af⟩, rfl, trivial⟩) (fun w H => ?_)
 exact ⟨rfl, H.toBelow ⟨(zq hg3), (zq hg2), (zq hg1), trivial⟩⟩

set_option maxRecDepth 100000 in
set_option maxHeartbeats 4000000 in
theorem QV (L : List Rl) (gs : List Nat) (pp : List (Nat × Nat)) (A C : Option Addr) (kA kC : Nat) (xs xd xka xkb : Nat) (xA xB : Option Addr) (mk mn mr mb ms mo ca cb ck cz mc : Nat) (mv cs ct cu mt : List UInt8) (vl : List Vo) (il : List Im)  (w : World) (hap : BJ xs xd = true) (hck : C9 ⟨mk, mn, mr, mb, ms, mo, mv, vl, il, ⟨ca, cb, ck, cs, ct, cu, cz⟩, mc, mt⟩ = true) (hf : Ms.Fits ⟨mk, mn, mr, mb, ms, mo, mv, vl, il, ⟨ca, cb, ck, cs, ct, cu, cz⟩, mc, mt⟩) (hli : Ms.Lim ⟨mk, mn, mr, mb, ms, mo, mv, vl, il, ⟨ca, cb, ck, cs, ct, cu, cz⟩, mc, mt⟩) (hr : MsRows w ⟨mk, mn, mr, mb, ms, mo, mv, vl, il, ⟨ca, cb, ck, cs, ct, cu, cz⟩, mc, mt⟩ xA xB) (hin : 65536 < (BP ⟨mk, mn, mr, mb, ms, mo, mv, vl, il, ⟨ca, cb, ck, cs, ct, cu, cz⟩, mc, mt⟩).length) : Calls Tryz.prog 36 #[.agg #[.slice A L.length kA, .slice C gs.length kC], .agg #[.int .u8 (xs : Int), .int .u8 (xd : Int), .int .u8 (mk : Int), .int .u64 (mn : Int), .int .u8 (mr : Int), .int .u64 (mb : Int), .int .u64 (ms : Int), .int .u8 (mo : Int), .string ⟨mv.toArray⟩, .slice xA vl.length xka, .slice xB il.length xkb, .int .u8 (ca : Int), .int .u32 (cb : Int), .int .u8 (ck : Int), .string ⟨cs.toArray⟩, .string ⟨ct.toArray⟩, .string ⟨cu.toArray⟩, .int .u8 (cz : Int), .int .u8 (mc : Int), .string ⟨mt.toArray⟩]] w fun e w' => e = .returned (.tuple #[.agg #[.slice A L.length kA, .slice C gs.length kC], .int .i64 6]) ∧ Below w.heap.size w w' := by
 obtain ⟨ib, hib⟩ : ∃ x, BP ⟨mk, mn, mr, mb, ms, mo, mv, vl, il, ⟨ca, cb, ck, cs, ct, cu, cz⟩, mc, mt⟩ = x := ⟨_, rfl⟩
 rw [hib] at hin
 refine A0 (n := 39) _ Tryz.func36 rfl rfl rfl (Hp.start w) (Ae (Ac ?_))
 refine zB rfl fun g1 hg1 => ?_
 refine zB rfl fun g2 hg2 => ?_
 refine zA AC rfl fun g3 hg3 => ?_
 refine za rfl (Ad (Aa (Ae (Ae (Ac (zf 0 Bv rfl (zl 1 Tryz.underlying5 rfl (zf 1 Bm rfl (zl 1 Tryz.underlying5 rfl ?_)))))))))
 refine Ao (v := .bool true) trivial rfl rfl (zk AX rfl) (fun w H => (Dj xs xd w).mono fun _ _ h => ⟨by rw [h.1, hap], h.2⟩) (zn false rfl (zm rfl (zf 2 Bl rfl (zv 1 [.int .u8 (mk : Int), .int .u64 (mn : Int), .int .u8 (mr : Int), .int .u64 (mb : Int), .int .u64 (ms : Int), .int .u8 (mo : Int), .string ⟨mv.toArray⟩, .slice xA vl.length xka, .slice xB il.length xkb, .int .u8 (ca : Int), .int .u32 (cb : Int), .int .u8 (ck : Int), .string ⟨cs.toArray⟩, .string ⟨ct.toArray⟩, .string ⟨cu.toArray⟩, .int .u8 (cz : Int), .int .u8 (mc : Int), .string ⟨mt.toArray⟩] Tryz.underlying33 Av rfl (Ao (v := .bool true) (gK rfl) rfl rfl (zk D8 rfl) (fun w H => (KZ ⟨mk, mn, mr, mb, ms, mo, mv, vl, il, ⟨ca, cb, ck, cs, ct, cu, cz⟩, mc, mt⟩ xA xB xka xkb w hf (hli.small hf) (hr.below (H.toBelow ⟨(zq hg3), (zq hg2), (zq hg1), trivial⟩))).mono fun _ _ h => ⟨by rw [h.1, hck], h.2⟩) (zn false rfl (zp rfl (Ad (Aa ?_)))))))))
 refine Ah rfl (Ax (Aa (Ae (Ae (Ac (zf 2 Bl rfl (zv 1 [.int .u8 (mk : Int), .int .u64 (mn : Int), .int .u8 (mr : Int), .int .u64 (mb : Int), .int .u64 (ms : Int), .int .u8 (mo : Int), .string ⟨mv.toArray⟩, .slice xA vl.length xka, .slice xB il.length xkb, .int .u8 (ca : Int), .int .u32 (cb : Int), .int .u8 (ck : Int), .string ⟨cs.toArray⟩, .string ⟨ct.toArray⟩, .string ⟨cu.toArray⟩, .int .u8 (cz : Int), .int .u8 (mc : Int), .string ⟨mt.toArray⟩] Tryz.underlying33 Av rfl (Ao (v := .string ⟨ib.toArray⟩) trivial rfl rfl (zk Ea rfl) (fun w H => (Jz ⟨mk, mn, mr, mb, ms, mo, mv, vl, il, ⟨ca, cb, ck, cs, ct, cu, cz⟩, mc, mt⟩ xA xB xka xkb w hf (hli.small hf) (hr.below (H.toBelow ⟨(zq hg3), (zq hg2), (zq hg1), trivial⟩))).mono fun _ _ h => ⟨by rw [h.1, hib], h.2⟩) (Ag (v := .int .i64 (ib.length : Int)) trivial rfl rfl (fun ρ w E H => FT E rfl Tryz.underlying9 rfl) ?_)))))))))
 refine zc true rfl (by simp [AB]; omega) (Ad (Aa (Ap rfl (Ae (Ac (zw 2 Tryz.underlying78 Af rfl (zS 0 Af rfl (za rfl (Ad ?_)))))))))
 refine Aa (Am (Ak ?_))
 refine Ai _ (fun a w K H => GF K [.agg #[.slice A L.length kA, .slice C gs.length kC], .int .i64 6] rfl rfl ⟨⟨_, rfl, AM (H.get (i := 0) rfl) Tryz.underlying78 rfl Af⟩, rfl, trivial⟩) (fun w H => ?_)
 exact ⟨rfl, H.toBelow ⟨(zq hg3), (zq hg2), (zq hg1), trivial⟩⟩

set_option maxRecDepth 100000 in
set_option maxHeartbeats 4000000 in
theorem QW (L : List Rl) (gs : List Nat) (pp : List (Nat × Nat)) (A C : Option Addr) (kA kC : Nat) (xs xd xka xkb : Nat) (xA xB : Option Addr) (mk mn mr mb ms mo ca cb ck cz mc : Nat) (mv cs ct cu mt : List UInt8) (vl : List Vo) (il : List Im)  (w : World) (hap : BJ xs xd = true) (hck : C9 ⟨mk, mn, mr, mb, ms, mo, mv, vl, il, ⟨ca, cb, ck, cs, ct, cu, cz⟩, mc, mt⟩ = true) (hf : Ms.Fits ⟨mk, mn, mr, mb, ms, mo, mv, vl, il, ⟨ca, cb, ck, cs, ct, cu, cz⟩, mc, mt⟩) (hli : Ms.Lim ⟨mk, mn, mr, mb, ms, mo, mv, vl, il, ⟨ca, cb, ck, cs, ct, cu, cz⟩, mc, mt⟩) (hr : MsRows w ⟨mk, mn, mr, mb, ms, mo, mv, vl, il, ⟨ca, cb, ck, cs, ct, cu, cz⟩, mc, mt⟩ xA xB) (hin : (BP ⟨mk, mn, mr, mb, ms, mo, mv, vl, il, ⟨ca, cb, ck, cs, ct, cu, cz⟩, mc, mt⟩).length ≤ 65536) (hfu : L.length = 512) : Calls Tryz.prog 36 #[.agg #[.slice A L.length kA, .slice C gs.length kC], .agg #[.int .u8 (xs : Int), .int .u8 (xd : Int), .int .u8 (mk : Int), .int .u64 (mn : Int), .int .u8 (mr : Int), .int .u64 (mb : Int), .int .u64 (ms : Int), .int .u8 (mo : Int), .string ⟨mv.toArray⟩, .slice xA vl.length xka, .slice xB il.length xkb, .int .u8 (ca : Int), .int .u32 (cb : Int), .int .u8 (ck : Int), .string ⟨cs.toArray⟩, .string ⟨ct.toArray⟩, .string ⟨cu.toArray⟩, .int .u8 (cz : Int), .int .u8 (mc : Int), .string ⟨mt.toArray⟩]] w fun e w' => e = .returned (.tuple #[.agg #[.slice A L.length kA, .slice C gs.length kC], .int .i64 7]) ∧ Below w.heap.size w w' := by
 obtain ⟨ib, hib⟩ : ∃ x, BP ⟨mk, mn, mr, mb, ms, mo, mv, vl, il, ⟨ca, cb, ck, cs, ct, cu, cz⟩, mc, mt⟩ = x := ⟨_, rfl⟩
 rw [hib] at hin
 refine A0 (n := 39) _ Tryz.func36 rfl rfl rfl (Hp.start w) (Ae (Ac ?_))
 refine zB rfl fun g1 hg1 => ?_
 refine zB rfl fun g2 hg2 => ?_
 refine zA AC rfl fun g3 hg3 => ?_
 refine za rfl (Ad (Aa (Ae (Ae (Ac (zf 0 Bv rfl (zl 1 Tryz.underlying5 rfl (zf 1 Bm rfl (zl 1 Tryz.underlying5 rfl ?_)))))))))
 refine Ao (v := .bool true) trivial rfl rfl (zk AX rfl) (fun w H => (Dj xs xd w).mono fun _ _ h => ⟨by rw [h.1, hap], h.2⟩) (zn false rfl (zm rfl (zf 2 Bl rfl (zv 1 [.int .u8 (mk : Int), .int .u64 (mn : Int), .int .u8 (mr : Int), .int .u64 (mb : Int), .int .u64 (ms : Int), .int .u8 (mo : Int), .string ⟨mv.toArray⟩, .slice xA vl.length xka, .slice xB il.length xkb, .int .u8 (ca : Int), .int .u32 (cb : Int), .int .u8 (ck : Int), .string ⟨cs.toArray⟩, .string ⟨ct.toArray⟩, .string ⟨cu.toArray⟩, .int .u8 (cz : Int), .int .u8 (mc : Int), .string ⟨mt.toArray⟩] Tryz.underlying33 Av rfl (Ao (v := .bool true) (gK rfl) rfl rfl (zk D8 rfl) (fun w H => (KZ ⟨mk, mn, mr, mb, ms, mo, mv, vl, il, ⟨ca, cb, ck, cs, ct, cu, cz⟩, mc, mt⟩ xA xB xka xkb w hf (hli.small hf) (hr.below (H.toBelow ⟨(zq hg3), (zq hg2), (zq hg1), trivial⟩))).mono fun _ _ h => ⟨by rw [h.1, hck], h.2⟩) (zn false rfl (zp rfl (Ad (Aa ?_)))))))))
 refine Ah rfl (Ax (Aa (Ae (Ae (Ac (zf 2 Bl rfl (zv 1 [.int .u8 (mk : Int), .int .u64 (mn : Int), .int .u8 (mr : Int), .int .u64 (mb : Int), .int .u64 (ms : Int), .int .u8 (mo : Int), .string ⟨mv.toArray⟩, .slice xA vl.length xka, .slice xB il.length xkb, .int .u8 (ca : Int), .int .u32 (cb : Int), .int .u8 (ck : Int), .string ⟨cs.toArray⟩, .string ⟨ct.toArray⟩, .string ⟨cu.toArray⟩, .int .u8 (cz : Int), .int .u8 (mc : Int), .string ⟨mt.toArray⟩] Tryz.underlying33 Av rfl (Ao (v := .string ⟨ib.toArray⟩) trivial rfl rfl (zk Ea rfl) (fun w H => (Jz ⟨mk, mn, mr, mb, ms, mo, mv, vl, il, ⟨ca, cb, ck, cs, ct, cu, cz⟩, mc, mt⟩ xA xB xka xkb w hf (hli.small hf) (hr.below (H.toBelow ⟨(zq hg3), (zq hg2), (zq hg1), trivial⟩))).mono fun _ _ h => ⟨by rw [h.1, hib], h.2⟩) (Ag (v := .int .i64 (ib.length : Int)) trivial rfl rfl (fun ρ w E H => FT E rfl Tryz.underlying9 rfl) ?_)))))))))
 refine zc false rfl (by simp [AB]; omega) (Ad (Aa (Ah rfl (Ax (Aa (Ae (Ae (Ac (zf 0 Ba rfl ?_)))))))))
 refine zl 2 Tryz.underlying75 rfl (zL Tryz.underlying75 rfl (zc true rfl (by simp [AB]; omega) (Ad (Aa (Ap rfl (Ae (Ac (zw 2 Tryz.underlying78 Af rfl (zS 0 Af rfl ?_)))))))))
 refine za rfl (Ad (Aa (Am (Ak ?_))))
 refine Ai _ (fun a w K H => GF K [.agg #[.slice A L.length kA, .slice C gs.length kC], .int .i64 7] rfl rfl ⟨⟨_, rfl, AM (H.get (i := 0) rfl) Tryz.underlying78 rfl Af⟩, rfl, trivial⟩) (fun w H => ?_)
 exact ⟨rfl, H.toBelow ⟨(zq hg3), (zq hg2), (zq hg1), trivial⟩⟩

set_option maxRecDepth 100000 in
set_option maxHeartbeats 4000000 in
theorem TN (L : List Rl) (gs : List Nat) (pp : List (Nat × Nat)) (A C : Option Addr) (kA kC : Nat) (xs xd xka xkb : Nat) (xA xB : Option Addr) (mk mn mr mb ms mo ca cb ck cz mc : Nat) (mv cs ct cu mt : List UInt8) (vl : List Vo) (il : List Im)  (w : World) (hap : BJ xs xd = true) (hck : C9 ⟨mk, mn, mr, mb, ms, mo, mv, vl, il, ⟨ca, cb, ck, cs, ct, cu, cz⟩, mc, mt⟩ = true) (hf : Ms.Fits ⟨mk, mn, mr, mb, ms, mo, mv, vl, il, ⟨ca, cb, ck, cs, ct, cu, cz⟩, mc, mt⟩) (hli : Ms.Lim ⟨mk, mn, mr, mb, ms, mo, mv, vl, il, ⟨ca, cb, ck, cs, ct, cu, cz⟩, mc, mt⟩) (hr : MsRows w ⟨mk, mn, mr, mb, ms, mo, mv, vl, il, ⟨ca, cb, ck, cs, ct, cu, cz⟩, mc, mt⟩ xA xB) (hin : (BP ⟨mk, mn, mr, mb, ms, mo, mv, vl, il, ⟨ca, cb, ck, cs, ct, cu, cz⟩, mc, mt⟩).length ≤ 65536) (hL : Rows w A 20 rlL L) (hcap : L.length ≤ kA) (hl5 : L.length ≤ 512) (hfu : L.length < 512) : Calls Tryz.prog 36 #[.agg #[.slice A L.length kA, .slice C gs.length kC], .agg #[.int .u8 (xs : Int), .int .u8 (xd : Int), .int .u8 (mk : Int), .int .u64 (mn : Int), .int .u8 (mr : Int), .int .u64 (mb : Int), .int .u64 (ms : Int), .int .u8 (mo : Int), .string ⟨mv.toArray⟩, .slice xA vl.length xka, .slice xB il.length xkb, .int .u8 (ca : Int), .int .u32 (cb : Int), .int .u8 (ck : Int), .string ⟨cs.toArray⟩, .string ⟨ct.toArray⟩, .string ⟨cu.toArray⟩, .int .u8 (cz : Int), .int .u8 (mc : Int), .string ⟨mt.toArray⟩]] w fun e w' => ∃ v, e = .returned (.tuple #[.agg #[v, .slice C gs.length kC], .int .i64 0]) ∧ w'.ownsRow w.heap.size 59 20 v (L ++ [(⟨xs, xd, ⟨mk, mn, mr, mb, ms, mo, mv, vl, il, ⟨ca, cb, ck, cs, ct, cu, cz⟩, mc, mt⟩, xA, xka, xB, xkb⟩ : Rl)]).length ((L ++ [(⟨xs, xd, ⟨mk, mn, mr, mb, ms, mo, mv, vl, il, ⟨ca, cb, ck, cs, ct, cu, cz⟩, mc, mt⟩, xA, xka, xB, xkb⟩ : Rl)]).flatMap rlL) ∧ Below w.heap.size w w' := by
 have hnone := F3 w 0 0
 obtain ⟨ib, hib⟩ : ∃ x, BP ⟨mk, mn, mr, mb, ms, mo, mv, vl, il, ⟨ca, cb, ck, cs, ct, cu, cz⟩, mc, mt⟩ = x := ⟨_, rfl⟩
 rw [hib] at hin
 refine A0 (n := 39) _ Tryz.func36 rfl rfl rfl (Hp.start w) (Ae (Ac ?_))
 refine zB rfl fun g1 hg1 => ?_
 refine zB rfl fun g2 hg2 => ?_
 refine zA AC rfl fun g3 hg3 => ?_
 refine za rfl (Ad (Aa (Ae (Ae (Ac (zf 0 Bv rfl (zl 1 Tryz.underlying5 rfl (zf 1 Bm rfl (zl 1 Tryz.underlying5 rfl ?_)))))))))
 refine Ao (v := .bool true) trivial rfl rfl (zk AX rfl) (fun w H => (Dj xs xd w).mono fun _ _ h => ⟨by rw [h.1, hap], h.2⟩) (zn false rfl (zm rfl (zf 2 Bl rfl (zv 1 [.int .u8 (mk : Int), .int .u64 (mn : Int), .int .u8 (mr : Int), .int .u64 (mb : Int), .int .u64 (ms : Int), .int .u8 (mo : Int), .string ⟨mv.toArray⟩, .slice xA vl.length xka, .slice xB il.length xkb, .int .u8 (ca : Int), .int .u32 (cb : Int), .int .u8 (ck : Int), .string ⟨cs.toArray⟩, .string ⟨ct.toArray⟩, .string ⟨cu.toArray⟩, .int .u8 (cz : Int), .int .u8 (mc : Int), .string ⟨mt.toArray⟩] Tryz.underlying33 Av rfl (Ao (v := .bool true) (gK rfl) rfl rfl (zk D8 rfl) (fun w H => (KZ ⟨mk, mn, mr, mb, ms, mo, mv, vl, il, ⟨ca, cb, ck, cs, ct, cu, cz⟩, mc, mt⟩ xA xB xka xkb w hf (hli.small hf) (hr.below (H.toBelow ⟨(zq hg3), (zq hg2), (zq hg1), trivial⟩))).mono fun _ _ h => ⟨by rw [h.1, hck], h.2⟩) (zn false rfl (zp rfl (Ad (Aa ?_)))))))))
 refine Ah rfl (Ax (Aa (Ae (Ae (Ac (zf 2 Bl rfl (zv 1 [.int .u8 (mk : Int), .int .u64 (mn : Int), .int .u8 (mr : Int), .int .u64 (mb : Int), .int .u64 (ms : Int), .int .u8 (mo : Int), .string ⟨mv.toArray⟩, .slice xA vl.length xka, .slice xB il.length xkb, .int .u8 (ca : Int), .int .u32 (cb : Int), .int .u8 (ck : Int), .string ⟨cs.toArray⟩, .string ⟨ct.toArray⟩, .string ⟨cu.toArray⟩, .int .u8 (cz : Int), .int .u8 (mc : Int), .string ⟨mt.toArray⟩] Tryz.underlying33 Av rfl (Ao (v := .string ⟨ib.toArray⟩) trivial rfl rfl (zk Ea rfl) (fun w H => (Jz ⟨mk, mn, mr, mb, ms, mo, mv, vl, il, ⟨ca, cb, ck, cs, ct, cu, cz⟩, mc, mt⟩ xA xB xka xkb w hf (hli.small hf) (hr.below (H.toBelow ⟨(zq hg3), (zq hg2), (zq hg1), trivial⟩))).mono fun _ _ h => ⟨by rw [h.1, hib], h.2⟩) (Ag (v := .int .i64 (ib.length : Int)) trivial rfl rfl (fun ρ w E H => FT E rfl Tryz.underlying9 rfl) ?_)))))))))
 refine zc false rfl (by simp [AB]; omega) (Ad (Aa (Ah rfl (Ax (Aa (Ae (Ae (Ac (zf 0 Ba rfl ?_)))))))))
 refine zl 2 Tryz.underlying75 rfl (zL Tryz.underlying75 rfl (zc false rfl (by simp [AB]; omega) (Ad (Aa (Ah rfl (Ax (Aa (Ae (Ep (fun W H => H.nilRow 59 20) ?_)))))))))
 refine BN [] [2, 3] (by kernel_rfl) rfl ⟨(zj hnone.fresh), (zh hg3), (zh hg2), (zh hg1), trivial⟩ (yf 0 0 Ba rfl (by kernel_rfl) zI (yl 1 1 Tryz.underlying75 rfl (by kernel_rfl) zI (yw 3 0 Tryz.underlying59 Aj rfl (by kernel_rfl) zI (yf 6 1 BV rfl (by kernel_rfl) zI (yl 7 1 Tryz.underlying76 rfl (by kernel_rfl) zI ?_)))))
 refine Ed [2, 4] (by kernel_rfl) (by simp) ⟨?_, ?_, trivial⟩
 ·refine BZ (i := 0) (news := L.flatMap rlL) rfl trivial rfl rfl rfl Tryz.underlying75 Ci rfl rfl rfl rfl hnone rfl (fun W H => ⟨_, En IY (by decide) (hL.below (H.toBelow ⟨hnone.fresh, (zq hg3), (zq hg2), (zq hg1), trivial⟩))⟩) (Sx.flat_one JO _) (by unfold maxLen; omega) (by omega) (Nat.le_refl _) (fun A32 k32 w hv32 H => H.ks [] [2, 3] rfl ⟨(zj hv32.fresh), (zh hg3), (zh hg2), (zh hg1), trivial⟩) fun A32 k32 hv32 => ?_
  refine yr 4 (by kernel_rfl) ?_
  refine Dc (cs := [.int .u8 (xs : Int), .int .u8 (xd : Int), .int .u8 (mk : Int), .int .u64 (mn : Int), .int .u8 (mr : Int), .int .u64 (mb : Int), .int .u64 (ms : Int), .int .u8 (mo : Int), .string ⟨mv.toArray⟩, .slice xA vl.length xka, .slice xB il.length xkb, .int .u8 (ca : Int), .int .u32 (cb : Int), .int .u8 (ck : Int), .string ⟨cs.toArray⟩, .string ⟨ct.toArray⟩, .string ⟨cu.toArray⟩, .int .u8 (cz : Int), .int .u8 (mc : Int), .string ⟨mt.toArray⟩]) rfl trivial rfl rfl (fun ρ w E H => AV E rfl rfl Tryz.underlying75 Aj AI rfl rfl (by kernel_rfl)) (fun g4 w hg4 H => H.ks [] [3, 4] rfl ⟨(zh hg4), (zj hv32.fresh), (zh hg3), (zh hg2), (zh hg1), trivial⟩) fun g4 hg4 => ?_
  refine yr 5 (by kernel_rfl) ?_
  refine BZ (i := 1) (news := [.int .u8 (xs : Int), .int .u8 (xd : Int), .int .u8 (mk : Int), .int .u64 (mn : Int), .int .u8 (mr : Int), .int .u64 (mb : Int), .int .u64 (ms : Int), .int .u8 (mo : Int), .string ⟨mv.toArray⟩, .slice xA vl.length xka, .slice xB il.length xkb, .int .u8 (ca : Int), .int .u32 (cb : Int), .int .u8 (ck : Int), .string ⟨cs.toArray⟩, .string ⟨ct.toArray⟩, .string ⟨cu.toArray⟩, .int .u8 (cz : Int), .int .u8 (mc : Int), .string ⟨mt.toArray⟩]) rfl trivial rfl rfl rfl Tryz.underlying75 Ci rfl rfl rfl rfl hv32 rfl (fun w H => CS H (i := 0) rfl rfl) (D4 rfl) (by unfold maxLen; omega) (by omega) (Nat.le_refl _) (fun A35 k35 w hv35 H => H.ks [] [3, 4] rfl ⟨(zh hg4), (zj hv35.fresh), (zh hg3), (zh hg2), (zh hg1), trivial⟩) fun A35 k35 hv35 => ?_
  refine yt (i := 8) (by kernel_rfl) zI rfl rfl rfl rfl (fun ρ w E H => Bh (cs := [.slice A35 (0 + L.length + 1) k35, .slice C gs.length kC]) E rfl rfl (by kernel_rfl)) (yr 9 (by kernel_rfl) (Dk (j := 2) [.slice A35 (0 + L.length + 1) k35, .slice C gs.length kC] rfl trivial rfl rfl rfl rfl rfl Af rfl rfl rfl (DF _ _ rfl) (fun w H => H.ks [] [3, 4] rfl ⟨(zh hg4), (zj hv35.fresh), (zh hg3), (zh hg2), (zh hg1), trivial⟩) (yA 10 rfl (by kernel_rfl) zI (BE (by kernel_rfl) (Aa (Am ?_))))))
  refine Ai _ (fun a w K H => GF K [.agg #[.slice A35 (0 + L.length + 1) k35, .slice C gs.length kC], .int .i64 0] rfl rfl ⟨⟨_, rfl, AM (H.get (i := 2) rfl) Tryz.underlying78 rfl Af⟩, rfl, trivial⟩) (fun w H => ?_)
  exact ⟨_, rfl, DI (H.get (i := 1) rfl) (by simp) (by simp [rlL, msL]), H.toBelow ⟨(zq hg4), hv35.fresh, (zq hg3), (zq hg2), (zq hg1), trivial⟩⟩
 ·refine Dc (cs := [.int .u8 (xs : Int), .int .u8 (xd : Int), .int .u8 (mk : Int), .int .u64 (mn : Int), .int .u8 (mr : Int), .int .u64 (mb : Int), .int .u64 (ms : Int), .int .u8 (mo : Int), .string ⟨mv.toArray⟩, .slice xA vl.length xka, .slice xB il.length xkb, .int .u8 (ca : Int), .int .u32 (cb : Int), .int .u8 (ck : Int), .string ⟨cs.toArray⟩, .string ⟨ct.toArray⟩, .string ⟨cu.toArray⟩, .int .u8 (cz : Int), .int .u8 (mc : Int), .string ⟨mt.toArray⟩]) rfl trivial rfl rfl (fun ρ w E H => AV E rfl rfl Tryz.underlying75 Aj AI rfl rfl (by kernel_rfl)) (fun g5 w hg5 H => H.ks [] [3, 4] rfl ⟨(zh hg5), (zj hnone.fresh), (zh hg3), (zh hg2), (zh hg1), trivial⟩) fun g5 hg5 => ?_
  refine yr 2 (by kernel_rfl) ?_
  refine BZ (i := 1) (news := L.flatMap rlL) rfl trivial rfl rfl rfl Tryz.underlying75 Ci rfl rfl rfl rfl hnone rfl (fun W H => ⟨_, En IY (by decide) (hL.below (H.toBelow ⟨(zq hg5), hnone.fresh, (zq hg3), (zq hg2), (zq hg1), trivial⟩))⟩) (Sx.flat_one JO _) (by unfold maxLen; omega) (by omega) (Nat.le_refl _) (fun A32 k32 w hv32 H => H.ks [] [3, 4] rfl ⟨(zh hg5), (zj hv32.fresh), (zh hg3), (zh hg2), (zh hg1), trivial⟩) fun A32 k32 hv32 => ?_
  refine yr 5 (by kernel_rfl) ?_
  refine BZ (i := 1) (news := [.int .u8 (xs : Int), .int .u8 (xd : Int), .int .u8 (mk : Int), .int .u64 (mn : Int), .int .u8 (mr : Int), .int .u64 (mb : Int), .int .u64 (ms : Int), .int .u8 (mo : Int), .string ⟨mv.toArray⟩, .slice xA vl.length xka, .slice xB il.length xkb, .int .u8 (ca : Int), .int .u32 (cb : Int), .int .u8 (ck : Int), .string ⟨cs.toArray⟩, .string ⟨ct.toArray⟩, .string ⟨cu.toArray⟩, .int .u8 (cz : Int), .int .u8 (mc : Int), .string ⟨mt.toArray⟩]) rfl trivial rfl rfl rfl Tryz.underlying75 Ci rfl rfl rfl rfl hv32 rfl (fun w H => CS H (i := 0) rfl rfl) (D4 rfl) (by unfold maxLen; omega) (by omega) (Nat.le_refl _) (fun A35 k35 w hv35 H => H.ks [] [3, 4] rfl ⟨(zh hg5), (zj hv35.fresh), (zh hg3), (zh hg2), (zh hg1), trivial⟩) fun A35 k35 hv35 => ?_
  refine yt (i := 8) (by kernel_rfl) zI rfl rfl rfl rfl (fun ρ w E H => Bh (cs := [.slice A35 (0 + L.length + 1) k35, .slice C gs.length kC]) E rfl rfl (by kernel_rfl)) (yr 9 (by kernel_rfl) (Dk (j := 2) [.slice A35 (0 + L.length + 1) k35, .slice C gs.length kC] rfl trivial rfl rfl rfl rfl rfl Af rfl rfl rfl (DF _ _ rfl) (fun w H => H.ks [] [3, 4] rfl ⟨(zh hg5), (zj hv35.fresh), (zh hg3), (zh hg2), (zh hg1), trivial⟩) (yA 10 rfl (by kernel_rfl) zI (BE (by kernel_rfl) (Aa (Am ?_))))))
  refine Ai _ (fun a w K H => GF K [.agg #[.slice A35 (0 + L.length + 1) k35, .slice C gs.length kC], .int .i64 0] rfl rfl ⟨⟨_, rfl, AM (H.get (i := 2) rfl) Tryz.underlying78 rfl Af⟩, rfl, trivial⟩) (fun w H => ?_)
  exact ⟨_, rfl, DI (H.get (i := 1) rfl) (by simp) (by simp [rlL, msL]), H.toBelow ⟨(zq hg5), hv35.fresh, (zq hg3), (zq hg2), (zq hg1), trivial⟩⟩

set_option maxRecDepth 100000 in
set_option maxHeartbeats 4000000 in
theorem Qg (l : List Na) (A : Option Addr) (c : Nat) (w : World) (hA : Rows w A 22 naL l) (hQ : ∀ x ∈ l, x.Ok w) (hl : l.length ≤ 9223372036854775807) : Calls Tryz.prog 33 #[.slice A l.length c] w fun e w' => ∃ b, e = .returned (.bool b) ∧ (b = false → l.length ≤ 200 ∧ ∀ x ∈ l, x.m.Lim) ∧ Below w.heap.size w w' := by
 refine A0 (n := 19) _ Tryz.func33 rfl rfl rfl (Hp.start w) (Ae (Ac (za rfl (Ad (Aa (Ae (Ae (Ac (zm rfl ?_)))))))))
 refine zL Tryz.underlying47 rfl ?_
 refine zb rfl fun c6 hc6 => ?_
 refine Ad (Aa ?_)
 cases c6
 ·refine Ah rfl (Ax (Aa (Ae (Ae (Ac (za rfl (Ad (Aa (AG ?_)))))))))
  refine Ff (fun (i : Nat) => [(0, .slice A l.length c), (3, .int .i64 (i : Int))]) (fun (i : Nat) => []) (fun (gk : Nat) (i : Nat) => i + gk = l.length ∧ ∀ j x, j < i → l[j]? = some x → x.m.Lim) l.length 0 ⟨by omega, fun j x h => by omega⟩ ⟨rfl, rfl, trivial⟩ [] rfl (by decide) trivial fun gk i hF => ?_
  obtain ⟨hkg, hlim⟩ := hF
  refine Ae (Ae (Ac (zm rfl (zm rfl (zL Tryz.underlying47 rfl ?_)))))
  refine zb rfl fun c10 hc10 => ?_
  refine Ad (Aa ?_)
  cases c10
  ·refine Ah rfl (Cd (AW (AW (BH (Aa (Ae (Ac (za rfl (Ad ?_)))))))))
   refine Aa (Am ?_)
   refine Ai (.bool false) (fun a w K H => BC K rfl rfl) (fun w H => ?_)
   exact ⟨false, rfl, (fun _ => ⟨by have h := hc6; simp [AB] at h; omega, fun x hx => by obtain ⟨j, hj⟩ := List.getElem?_of_mem hx; have h := hc10; simp [AB] at h; exact hlim j x (by have := (List.getElem?_eq_some_iff.1 hj).1; omega) hj⟩), H.toBelow trivial⟩
  ·refine Ap rfl (Ax (Aa (Ae (AG (Ae ?_)))))
   have hkl : i < l.length := by have h := hc10; simp [AB] at h; omega
   obtain ⟨a, hx⟩ : ∃ a, l[i]? = some a := ⟨_, List.getElem?_eq_getElem hkl⟩
   have hq := hQ a (List.mem_of_getElem? hx)
   obtain ⟨ad, rfl, -, -⟩ := hA.row hx
   obtain ⟨d, f, t, k, ⟨mk, mn, mr, mb, ms, mo, mv, vl, il, ⟨ca, cb, ck, cs, ct, cu, cz⟩, mc, mt⟩, A2, ka, B, kb⟩ := a
   refine Ac (zm rfl (zm rfl (Ag (v := .pointer (some (ad.add (i * 22)))) trivial rfl rfl (fun ρ w E H => BA (i := i) E rfl Tryz.underlying47 D6 rfl rfl hkl) (Ag (v := .pointer (some ((ad.add (i * 22)).add 4))) trivial rfl rfl (fun ρ w E H => Fb E rfl BD rfl) (Ag (v := .agg #[.int .u8 (mk : Int), .int .u64 (mn : Int), .int .u8 (mr : Int), .int .u64 (mb : Int), .int .u64 (ms : Int), .int .u8 (mo : Int), .string ⟨mv.toArray⟩, .slice A2 vl.length ka, .slice B il.length kb, .int .u8 (ca : Int), .int .u32 (cb : Int), .int .u8 (ck : Int), .string ⟨cs.toArray⟩, .string ⟨ct.toArray⟩, .string ⟨cu.toArray⟩, .int .u8 (cz : Int), .int .u8 (mc : Int), .string ⟨mt.toArray⟩]) trivial rfl rfl (fun ρ w E H => C7 (cs := [.int .u8 (mk : Int), .int .u64 (mn : Int), .int .u8 (mr : Int), .int .u64 (mb : Int), .int .u64 (ms : Int), .int .u8 (mo : Int), .string ⟨mv.toArray⟩, .slice A2 vl.length ka, .slice B il.length kb, .int .u8 (ca : Int), .int .u32 (cb : Int), .int .u8 (ck : Int), .string ⟨cs.toArray⟩, .string ⟨ct.toArray⟩, .string ⟨cu.toArray⟩, .int .u8 (cz : Int), .int .u8 (mc : Int), .string ⟨mt.toArray⟩]) E (RowAt.mid ((hA.below (H.toBelow trivial)).rowA hx) 4 18 rfl) rfl rfl Tryz.underlying33 rfl Av) ?_)))))
   refine AP (σ := Bool) (fun b => .bool b) (fun b => b = false → Ms.Lim ⟨mk, mn, mr, mb, ms, mo, mv, vl, il, ⟨ca, cb, ck, cs, ct, cu, cz⟩, mc, mt⟩) (fun _ => _) trivial rfl rfl (zk GT rfl) (fun W H => (great_any ⟨mk, mn, mr, mb, ms, mo, mv, vl, il, ⟨ca, cb, ck, cs, ct, cu, cz⟩, mc, mt⟩ A2 B ka kb W (hq.r.below (H.toBelow trivial)) hq.n1 hq.n2).mono fun _ _ ⟨b, h1, h2, h3⟩ => ⟨b, h1, h2, H.below h3⟩) fun c18 hli => ?_
   refine Ad (Aa ?_)
   cases c18
   ·refine Ah rfl (Ax (AA (Aa (Ac (zm rfl (Ag (v := .int .i64 ((i + 1 : Nat) : Int)) trivial rfl rfl (fun ρ w E H => BQ E rfl rfl rfl (by rw [IntKind.wrap_i64]; omega)) (za rfl (Ad ?_))))))))
    refine B7 (gk - 1) (i + 1) (by omega) ⟨show i + 1 + (gk - 1) = l.length by omega, fun j x hj hx2 => (Nat.lt_or_ge j i).elim (fun h => hlim j x h hx2) (fun h => by have h2 : j < i + 1 := hj; obtain rfl : j = i := (by omega); rw [hx] at hx2; cases hx2; exact hli rfl)⟩ ⟨rfl, rfl, trivial⟩ [] rfl (by decide) trivial
   ·refine Ap rfl (Ae (Ac (za rfl (Ad (Aa (Am (AU (Ak (Ak ?_)))))))))
    refine AU (Ak ?_)
    refine Ai (.bool true) (fun a w K H => BC K rfl rfl) (fun w H => ?_)
    exact ⟨true, rfl, (fun h => by cases h), H.toBelow trivial⟩
 ·refine Ap rfl (Ae (Ac (za rfl (Ad (Aa (Am (Ak ?_)))))))
  refine Ai (.bool true) (fun a w K H => BC K rfl rfl) (fun w H => ?_)
  exact ⟨true, rfl, (fun h => by cases h), H.toBelow trivial⟩
end Go.Proofs.YteiaiilfekojfaaGreat.Net
end
section
set_option linter.unusedVariables false
set_option linter.unusedSimpArgs false
namespace Go.Proofs.YteiaiilfekojfaaGreat.Net
open Go.RowKit Sx Wire DrawInv
open Msg
theorem LU {α : Type} [DecidableEq α] : ∀ (M : List (α × Value)) (x : α) (i : Nat), (DK M x i).map (·.2) = (DK M x 0).map (·.2)
 | [], _, _ => rfl
 | p :: M, x, i => by
  unfold DK
  by_cases e : x = p.1
  ·rw [if_pos e, if_pos e]; rfl
  ·rw [if_neg e, if_neg e, LU M x (i + 1), LU M x (0 + 1)]
def NP {α : Type} [DecidableEq α] (M : List (α × Value)) (x : α) : Option Value := (DK M x 0).map (·.2)
theorem HH {α : Type} [DecidableEq α] : ∀ (M : List (α × Value)) (x y : α) (v : Value), NP (GX M x v) y = if y = x then some v else NP M y
 | [], x, y, v => by
  unfold NP GX DK DK
  by_cases e : y = x
  ·rw [if_pos e, if_pos e]; rfl
  ·rw [if_neg e, if_neg e]
 | p :: M, x, y, v => by
  unfold NP GX
  by_cases e : x = p.1
  ·rw [if_pos e]
   unfold DK
   by_cases e2 : y = x
   ·rw [if_pos e2, if_pos e2]; rfl
   ·rw [if_neg e2, if_neg e2, if_neg (by rw [← e]; exact e2)]
  ·rw [if_neg e]
   have h := HH M x y v
   unfold NP at h
   by_cases e2 : y = p.1
   ·rw [if_neg (by rw [e2]; exact fun h => e h.symm)]
    unfold DK
    rw [if_pos e2, if_pos e2]
   ·have h1 : ∀ N : List (α × Value), (DK (p :: N) y 0).map (·.2) = (DK N y 0).map (·.2) := fun N => by
     conv => lhs; unfold DK
     rw [if_neg e2]
     exact LU N y 1
    rw [h1, h1, h]
def IC (ps : List (Nat × Nat)) (k : Nat) : Nat × Nat := (ps[k]?).getD (0, 0)
theorem Ua {ps : List (Nat × Nat)} {p : Nat × Nat} {k : Nat} (h : k < ps.length) : IC (ps ++ [p]) k = IC ps k := by
 unfold IC
 rw [List.getElem?_append_left h]
theorem Ub (ps : List (Nat × Nat)) (p : Nat × Nat) : IC (ps ++ [p]) ps.length = p := by
 unfold IC
 rw [List.getElem?_append_right (Nat.le_refl _), Nat.sub_self]
 rfl
structure KI (i : Nat) (ks ls : List Nat) (ps : List (Nat × Nat)) (M MC MT : Df) (tf : Nat × Nat → Nat) (db : Bool) : Prop where
 lt : ∀ k ∈ ks, k < ps.length
 len : ls.length = ps.length
 cnt : ∀ k, ks.count k ≤ (ls[k]?).getD 0
 small : ∀ v ∈ ls, v ≤ i
 many : ps.length ≤ i
 under : ks.length ≤ i
 mt : NU M
 mc : NU MC
 cut : ∀ p, (NP MC p).isSome = true → (NP M (Ii p.1 p.2)).isSome = true
 tv : ∀ p, (NP MT p).getD (.int .u64 0) = .int .u64 (tf p : Int)
 tl : ∀ p, tf p ≤ ps.length
 top : db = false → ks.Pairwise (· < ·) ∧ ∀ k ∈ ks, tf (IC ps k) ≤ k
theorem KI.start : KI 0 [] [] [] [] [] [] (fun _ => 0) false :=
 { lt := nofun, len := rfl, cnt := fun k => Nat.zero_le _, small := nofun, many := Nat.le_refl _, under := Nat.le_refl _, mt := nofun, mc := nofun, cut := (fun p h => by cases h), tv := fun p => rfl, tl := fun p => Nat.zero_le _, top := fun _ => ⟨.nil, nofun⟩ }
theorem KI.le {i : Nat} {ks ls : List Nat} {ps : List (Nat × Nat)} {M MC MT : Df} {tf : Nat × Nat → Nat} {db : Bool} (h : KI i ks ls ps M MC MT tf db) (hi : i ≤ 200) : ∀ k ∈ ks, k ≤ 1000 := fun k hk => by have := h.lt k hk; have := h.many; omega
theorem KI.step {i : Nat} {ks ls : List Nat} {ps : List (Nat × Nat)} {M MC MT : Df} {tf : Nat × Nat → Nat} {db : Bool} (h : KI i ks ls ps M MC MT tf db) : KI (i + 1) ks ls ps M MC MT tf db :=
 { h with small := fun v hv => Nat.le_succ_of_le (h.small v hv), many := Nat.le_succ_of_le h.many, under := Nat.le_succ_of_le h.under }
theorem Qy {ks : List Nat} {j k : Nat} (h : ks[j]? = some k) (x : Nat) : (ks.eraseIdx j).count x + (if x = k then 1 else 0) = ks.count x := by
 induction ks generalizing j with
 | nil => cases h
 | cons a l ih =>
  cases j with
  | zero =>
   injection h with h
   subst h
   show l.count x + _ = _
   rw [List.count_cons]
   by_cases e : x = a
   ·rw [if_pos e, if_pos (by simp [e])]
   ·rw [if_neg e, if_neg (by simpa using fun h => e h.symm)]
  | succ j =>
   have := ih (j := j) h
   show (a :: l.eraseIdx j).count x + _ = _
   rw [List.count_cons, List.count_cons]
   omega
theorem LO {ks : List Nat} {j x : Nat} (h : x ∈ ks.eraseIdx j) : x ∈ ks := List.mem_of_mem_eraseIdx h
theorem KI.drop {i : Nat} {ks ls : List Nat} {ps : List (Nat × Nat)} {M MC MT : Df} {tf : Nat × Nat → Nat} {db : Bool} (h : KI i ks ls ps M MC MT tf db) (j : Nat) : KI (i + 1) (ks.eraseIdx j) ls ps M MC MT tf db :=
 { h.step with
  lt := fun k hk => h.lt k (LO hk)
  cnt := fun k => Nat.le_trans (List.Sublist.count_le k (List.eraseIdx_sublist ..)) (h.cnt k)
  under := Nat.le_trans (List.length_eraseIdx_le ..) (Nat.le_succ_of_le h.under)
  top := fun e => ⟨(h.top e).1.sublist (List.eraseIdx_sublist ..), fun k hk => (h.top e).2 k (LO hk)⟩ }
theorem KI.has {i : Nat} {ks ls : List Nat} {ps : List (Nat × Nat)} {M MC MT : Df} {tf : Nat × Nat → Nat} {db : Bool} (h : KI i ks ls ps M MC MT tf db) {j k : Nat} (hj : ks[j]? = some k) : k < ls.length ∧ ∃ v, ls[k]? = some v ∧ 1 ≤ v ∧ v ≤ i := by
 have hk := h.lt k (List.mem_of_getElem? hj)
 have hl : k < ls.length := by rw [h.len]; exact hk
 refine ⟨hl, _, List.getElem?_eq_getElem hl, ?_, h.small _ (List.getElem_mem hl)⟩
 have h1 := h.cnt k
 rw [List.getElem?_eq_getElem hl] at h1
 have h2 : 0 < ks.count k := List.count_pos_iff.2 (List.mem_of_getElem? hj)
 rw [Option.getD_some] at h1
 omega
theorem VV (ls : List Nat) (k v x : Nat) : ((ls.set k v)[x]?).getD 0 = if x = k ∧ k < ls.length then v else (ls[x]?).getD 0 := by
 rw [List.getElem?_set]
 by_cases e : k = x
 ·subst e
  by_cases hl : k < ls.length
  ·rw [if_pos rfl, if_pos hl, if_pos ⟨rfl, hl⟩]; rfl
  ·rw [if_pos rfl, if_neg hl, if_neg (fun h => hl h.2), List.getElem?_eq_none (by omega)]
 ·rw [if_neg e, if_neg (fun h => e h.1.symm)]
theorem KI.take {i : Nat} {ks ls : List Nat} {ps : List (Nat × Nat)} {M MC MT : Df} {tf : Nat × Nat → Nat} {db : Bool} (h : KI i ks ls ps M MC MT tf db) {j k v : Nat} (hj : ks[j]? = some k) (hv : ls[k]? = some v) : KI (i + 1) (ks.eraseIdx j) (ls.set k (v - 1)) ps M MC MT tf db :=
 { h.drop j with
  len := by rw [List.length_set]; exact h.len
  cnt := fun x => by
   have h1 := Qy hj x
   have h2 := h.cnt x
   rw [VV]
   by_cases e : x = k
   ·subst e
    rw [if_pos rfl] at h1
    rw [hv] at h2
    rw [if_pos ⟨rfl, (List.getElem?_eq_some_iff.1 hv).1⟩]
    simp only [Option.getD_some] at h2
    omega
   ·rw [if_neg e] at h1
    rw [if_neg (fun h => e h.1)]
    omega
  small := fun u hu => by
   rcases List.mem_or_eq_of_mem_set hu with hu | rfl
   ·exact Nat.le_succ_of_le (h.small u hu)
   ·have := h.small v (List.mem_of_getElem? hv); omega }
theorem Qm {ks : List Nat} (hp : ks.Pairwise (· < ·)) : ∀ {j k x : Nat}, ks[j]? = some k → x ∈ ks.eraseIdx j → (∃ j', j' < j ∧ ks[j']? = some x) ∨ k < x := by
 induction ks with
 | nil => intro j k x h; cases h
 | cons a l ih =>
  intro j k x h hx
  obtain ⟨h1, h2⟩ := List.pairwise_cons.1 hp
  cases j with
  | zero =>
   injection h with h
   subst h
   exact .inr (h1 x hx)
  | succ j =>
   rcases List.mem_cons.1 hx with rfl | hx
   ·exact .inl ⟨0, by omega, rfl⟩
   ·rcases ih h2 (j := j) h hx with ⟨j', h3, h4⟩ | h3
    ·exact .inl ⟨j' + 1, by omega, h4⟩
    ·exact .inr h3
theorem KI.first {i : Nat} {ks ls : List Nat} {ps : List (Nat × Nat)} {M MC MT : Df} {tf : Nat × Nat → Nat} (h : KI i ks ls ps M MC MT tf false) {j k v : Nat} {p : Nat × Nat} (hj : ks[j]? = some k) (hv : ls[k]? = some v) (hp : IC ps k = p) (hf : ∀ j' < j, ∀ k', ks[j']? = some k' → IC ps k' ≠ p) :
  KI (i + 1) (ks.eraseIdx j) (ls.set k (v - 1)) ps M MC (GX MT p (.int .u64 (k : Int))) (fun q => if q = p then k else tf q) false :=
 { h.take hj hv with
  tv := fun q => by
   rw [HH]
   by_cases e : q = p
   ·rw [if_pos e, if_pos e]; rfl
   ·rw [if_neg e, if_neg e]; exact h.tv q
  tl := fun q => by
   show (if q = p then k else tf q) ≤ _
   have := h.lt k (List.mem_of_getElem? hj)
   have := h.tl q
   split <;> omega
  top := fun e => by
   obtain ⟨h1, h2⟩ := h.top e
   refine ⟨h1.sublist (List.eraseIdx_sublist ..), fun x hx => ?_⟩
   show (if IC ps x = p then k else tf (IC ps x)) ≤ x
   by_cases e2 : IC ps x = p
   ·rw [if_pos e2]
    rcases Qm h1 hj hx with ⟨j', h3, h4⟩ | h3
    ·exact absurd e2 (hf j' h3 x h4)
    ·omega
   ·rw [if_neg e2]; exact h2 x (LO hx) }
theorem KI.least {i : Nat} {ks ls : List Nat} {ps : List (Nat × Nat)} {M MC MT : Df} {tf : Nat × Nat → Nat} (h : KI i ks ls ps M MC MT tf false) {j k : Nat} {p : Nat × Nat} (hj : ks[j]? = some k) (hp : IC ps k = p) : tf p ≤ k := by
 subst hp
 exact (h.top rfl).2 k (List.mem_of_getElem? hj)
theorem KI.sent {i : Nat} {ks ls : List Nat} {ps : List (Nat × Nat)} {M MC MT : Df} {tf : Nat × Nat → Nat} {db : Bool} (h : KI i ks ls ps M MC MT tf db) (p : Nat × Nat) : KI (i + 1) (ks ++ [ls.length]) (ls ++ [1]) (ps ++ [p]) M MC MT tf db := by
 have hl := h.len
 refine { h.step with lt := fun k hk => ?_, len := by simp [hl], cnt := fun k => ?_, small := fun v hv => ?_, many := ?_, under := ?_, tl := fun q => ?_, top := fun e => ⟨?_, fun k hk => ?_⟩ }
 ·rcases List.mem_append.1 hk with hk | hk
  ·have := h.lt k hk; simp; omega
  ·have := List.mem_singleton.1 hk; simp; omega
 ·rw [List.count_append, List.count_singleton]
  have h1 := h.cnt k
  by_cases e : k < ls.length
  ·rw [List.getElem?_append_left e, if_neg (by simp; omega)]
   exact h1
  ·rw [List.getElem?_append_right (by omega)]
   rw [List.getElem?_eq_none (by omega)] at h1
   simp only [Option.getD_none] at h1
   by_cases e2 : k = ls.length
   ·subst e2; simp; omega
   ·rw [if_neg (by simp; omega)]
    omega
 ·rcases List.mem_append.1 hv with hv | hv
  ·exact Nat.le_succ_of_le (h.small v hv)
  ·rw [List.mem_singleton.1 hv]; omega
 ·have := h.many; simp; omega
 ·have := h.under; simp; omega
 ·have := h.tl q; simp; omega
 ·refine List.pairwise_append.2 ⟨(h.top e).1, List.pairwise_singleton _ _, fun a ha b hb => ?_⟩
  rw [List.mem_singleton.1 hb, hl]
  exact h.lt a ha
 ·rcases List.mem_append.1 hk with hk | hk
  ·rw [Ua (h.lt k hk)]
   exact (h.top e).2 k hk
  ·rw [List.mem_singleton.1 hk, hl, Ub]
   exact h.tl p
def MA (ls : List Nat) (ps : List (Nat × Nat)) (p : Nat × Nat) : List Nat := ls.mapIdx fun k v => if IC ps k = p ∧ 0 < v then v + 1 else v
theorem PW (ls : List Nat) (ps : List (Nat × Nat)) (p : Nat × Nat) (k : Nat) : (MA ls ps p)[k]? = (ls[k]?).map fun v => if IC ps k = p ∧ 0 < v then v + 1 else v := by
 unfold MA
 rw [List.getElem?_mapIdx]
theorem Ur (ls : List Nat) (ps : List (Nat × Nat)) (p : Nat × Nat) : (MA ls ps p).length = ls.length := List.length_mapIdx
theorem KI.doubled {i : Nat} {ks ls : List Nat} {ps : List (Nat × Nat)} {M MC MT : Df} {tf : Nat × Nat → Nat} {db : Bool} (h : KI i ks ls ps M MC MT tf db) {j k : Nat} {p : Nat × Nat} (hj : ks[j]? = some k) (hp : IC ps k = p) : KI (i + 1) (ks ++ [k]) (MA ls ps p) ps M MC MT tf true := by
 have hkm := List.mem_of_getElem? hj
 refine { h.step with lt := fun x hx => ?_, len := by rw [Ur]; exact h.len, cnt := fun x => ?_, small := fun v hv => ?_, under := ?_, top := fun e => by cases e }
 ·rcases List.mem_append.1 hx with hx | hx
  ·exact h.lt x hx
  ·rw [List.mem_singleton.1 hx]; exact h.lt k hkm
 ·rw [List.count_append, List.count_singleton, PW]
  have h1 := h.cnt x
  cases hx : ls[x]? with
  | none =>
   rw [hx] at h1
   simp only [Option.getD_none, Option.map_none] at h1 ⊢
   have : x ≠ k := fun e => by
    subst e
    have := h.lt x hkm
    rw [← h.len] at this
    rw [List.getElem?_eq_getElem this] at hx
    cases hx
   rw [if_neg (by simpa using fun h => this h.symm)]
   omega
  | some v =>
   rw [hx] at h1
   simp only [Option.getD_some, Option.map_some] at h1 ⊢
   by_cases e : x = k
   ·subst e
    have h2 : 0 < ks.count x := List.count_pos_iff.2 hkm
    rw [if_pos (by simp), if_pos ⟨hp, by omega⟩]
    omega
   ·rw [if_neg (by simpa using fun h => e h.symm)]
    split <;> omega
 ·obtain ⟨x, hx⟩ := List.getElem?_of_mem hv
  rw [PW] at hx
  cases hl : ls[x]? with
  | none => rw [hl] at hx; cases hx
  | some u =>
   rw [hl] at hx
   simp only [Option.map_some, Option.some.injEq] at hx
   have := h.small u (List.mem_of_getElem? hl)
   split at hx <;> omega
 ·have := h.under; simp; omega
theorem QG : NU [] := fun _ h => by cases h
theorem UO (a b : Nat) : Ii a b = Ii b a := by
 unfold Ii
 rw [Nat.min_comm, Nat.max_comm]
theorem Vj {M : Df} {x y : Nat × Nat} {v : Value} (h : (NP M y).isSome = true) : (NP (GX M x v) y).isSome = true := by
 rw [HH]
 split
 ·rfl
 ·exact h
theorem KI.cuts {i : Nat} {ks ls : List Nat} {ps : List (Nat × Nat)} {M MC MT : Df} {tf : Nat × Nat → Nat} {db : Bool} (h : KI i ks ls ps M MC MT tf db) (f t : Nat) : KI (i + 1) ks ls ps (GX M (Ii f t) (.bool true)) (GX (GX MC (f, t) (.bool true)) (t, f) (.bool true)) MT tf db :=
 { h.step with
  mt := JG _ _ h.mt
  mc := JG _ _ (JG _ _ h.mc)
  cut := fun p hp => by
   by_cases e1 : p = (t, f)
   ·subst e1
    rw [HH, if_pos (UO t f)]; rfl
   by_cases e2 : p = (f, t)
   ·subst e2
    rw [HH, if_pos rfl]; rfl
   ·rw [HH, if_neg e1, HH, if_neg e2] at hp
    exact Vj (h.cut p hp) }
theorem KI.heal {i : Nat} {ks ls : List Nat} {ps : List (Nat × Nat)} {M MC MT : Df} {tf : Nat × Nat → Nat} {db : Bool} (h : KI i ks ls ps M MC MT tf db) : KI (i + 1) ks ls ps [] [] MT tf db :=
 { h.step with mt := QG, mc := QG, cut := fun p hp => by cases hp }
end Go.Proofs.YteiaiilfekojfaaGreat.Net
end
section
set_option linter.unusedVariables false
set_option linter.unusedSimpArgs false
namespace Go.Proofs.YteiaiilfekojfaaGreat.Net
open Go.RowKit Sx Wire DrawInv
open Msg
theorem Iw (a b c d : Nat) (w : World) : (Op.equal 57 (.agg #[.int .u8 (a : Int), .int .u8 (b : Int)]) (.agg #[.int .u8 (c : Int), .int .u8 (d : Int)])).run Tryz.prog w = .ok (decide ((a, b) = (c, d))) w := Ta (a, b) (c, d) w
def Ek (ls : List Nat) (ps : List (Nat × Nat)) (p : Nat × Nat) (k : Nat) : List Nat := ls.mapIdx fun j v => if j < k ∧ IC ps j = p ∧ 0 < v then v + 1 else v
theorem Rx (ls : List Nat) (ps : List (Nat × Nat)) (p : Nat × Nat) : Ek ls ps p 0 = ls := by
 refine List.ext_getElem? fun i => ?_
 unfold Ek
 rw [List.getElem?_mapIdx]
 cases ls[i]? <;> simp
theorem IH (ls : List Nat) (ps : List (Nat × Nat)) (p : Nat × Nat) (k : Nat) : (Ek ls ps p k).length = ls.length := List.length_mapIdx
theorem PX {ls : List Nat} {k v : Nat} (ps : List (Nat × Nat)) (p : Nat × Nat) (h : ls[k]? = some v) : (Ek ls ps p k)[k]? = some v := by
 unfold Ek
 rw [List.getElem?_mapIdx, h]
 simp
theorem Ry (ls : List Nat) (ps : List (Nat × Nat)) (p : Nat × Nat) (k v : Nat) (h : ls[k]? = some v) : Ek ls ps p (k + 1) = if IC ps k = p ∧ 0 < v then (Ek ls ps p k).set k (v + 1) else Ek ls ps p k := by
 have hk := (List.getElem?_eq_some_iff.1 h).1
 refine List.ext_getElem? fun i => ?_
 by_cases e : i = k
 ·subst e
  have h1 : (Ek ls ps p (i + 1))[i]? = some (if IC ps i = p ∧ 0 < v then v + 1 else v) := by
   unfold Ek
   rw [List.getElem?_mapIdx, h]
   simp
  rw [h1]
  split
  ·rw [List.getElem?_set_self (by rw [IH]; exact hk)]
  ·rw [PX ps p h]
 ·have h1 : (Ek ls ps p (k + 1))[i]? = (Ek ls ps p k)[i]? := by
   unfold Ek
   rw [List.getElem?_mapIdx, List.getElem?_mapIdx]
   cases ls[i]? with
   | none => rfl
   | some u =>
    have : (i < k + 1) ↔ i < k := by omega
    simp [this]
  rw [h1]
  split
  ·rw [List.getElem?_set_ne (fun h => e h.symm)]
  ·rfl
theorem Om (ls : List Nat) (ps : List (Nat × Nat)) (p : Nat × Nat) : Ek ls ps p ls.length = MA ls ps p := by
 refine List.ext_getElem? fun i => ?_
 unfold Ek MA
 rw [List.getElem?_mapIdx, List.getElem?_mapIdx]
 cases h : ls[i]? with
 | none => rfl
 | some u =>
  have : i < ls.length := (List.getElem?_eq_some_iff.1 h).1
  simp [this]

set_option maxRecDepth 100000 in
set_option maxHeartbeats 4000000 in
theorem PV (ls : List Nat) (ps : List (Nat × Nat)) (p q : Nat) (A A2 : Option Addr) (c c2 : Nat) (w : World) (hl : Rows w A 1 iL ls) (hp : Rows w A2 2 prL ps) (hle : ls.length ≤ 1000) (hpl : ps.length = ls.length) (hsm : ∀ v ∈ ls, v ≤ 1000) : Calls Tryz.prog 27 #[.slice A ls.length c, .slice A2 ps.length c2, .agg #[.int .u8 (p : Int), .int .u8 (q : Int)]] w fun e w' => ∃ v, e = .returned v ∧ w'.ownsRow w.heap.size 3 1 v (MA ls ps (p, q)).length ((MA ls ps (p, q)).flatMap iL) ∧ Below w.heap.size w w' := by
 have hnone := F3 w 0 0
 refine A0 (n := 37) _ Tryz.func27 rfl rfl rfl (Hp.start w) (Ae (Ac ?_))
 refine zB rfl fun g1 hg1 => ?_
 refine za rfl (Ad (Aa (Ae (Ep (fun W H => H.nilRow 3 1) (Ac (zm rfl ?_))))))
 refine Ik (i := 0) (news := ls.flatMap iL) trivial rfl rfl rfl Tryz.underlying50 Yb rfl rfl rfl rfl hnone rfl (fun W H => ⟨_, En Pe (by decide) (hl.below (H.toBelow ⟨hnone.fresh, (zq hg1), trivial⟩))⟩) (Sx.flat_one Yg _) (by unfold maxLen; omega) (by omega) (Nat.le_refl _) fun A10 k10 hv10 => ?_
 refine za rfl (Ad (Aa (Ae (Ae (Ac (za rfl (Ad (Aa (AG ?_)))))))))
 refine Ep (fun W H => H.re (i := 0) rfl (BU [] w.heap.size 3 1 (.slice A10 (0 + ls.length) k10) ((Ek ls ps (p, q) 0).length) ((Ek ls ps (p, q) 0).flatMap iL)) (BF _ _ _ _ _ _ _) rfl (fun h => DI h (by rw [IH]; omega) (by rw [Rx]; rfl))) ?_
 refine G6 (p := True) (fun _ _ => trivial) fun _ => ?_
 refine Ec (fun (k : Nat) (vL : Value) => [(0, .slice A ls.length c), (1, .slice A2 ps.length c2), (5, .pointer (some ⟨g1, 0, none⟩)), (7, vL), (8, .int .i64 (k : Int))]) (fun (k : Nat) (vL : Value) => [BU [] w.heap.size 3 1 vL ((Ek ls ps (p, q) k).length) ((Ek ls ps (p, q) k).flatMap iL), cell g1 57 [.int .u8 (p : Int), .int .u8 (q : Int)]]) (fun (gk : Nat) (k : Nat) (vL : Value) => k + gk = ls.length ∧ OwnIn w [] vL) ls.length 0 (.slice A10 (0 + ls.length) k10) ⟨by omega, hv10⟩ ⟨rfl, rfl, rfl, rfl, rfl, trivial⟩ [0, 1] rfl (by decide) ⟨.inl rfl, .inl rfl, trivial⟩ fun gk k vL hF => ?_
 obtain ⟨hkg, hvL⟩ := hF
 refine Ae (Ae (G6 (fun W H => Bf (H.get (i := 0) rfl)) ?_))
 rintro ⟨AL, cL, rfl⟩
 refine Ac (zm rfl (zm rfl (zL Tryz.underlying50 rfl ?_)))
 refine zb rfl fun c14 hc14 => ?_
 refine Ad (Aa ?_)
 cases c14
 ·refine Ah rfl (Cd (AW (AW (BH (Aa (Ae (Ac (zm rfl (za rfl ?_)))))))))
  refine Ad (Aa (Am ?_))
  refine Ai (.slice AL ((Ek ls ps (p, q) k).length) cL) (fun a w K H => BC K rfl rfl) (fun w H => ?_)
  have hke : k = ls.length := by have h := hc14; simp only [AB, IH] at h; simp at h; omega
  subst hke
  exact ⟨_, rfl, DI (H.get (i := 0) rfl) (by rw [Om]) (by rw [Om]), H.toBelow ⟨hvL.fresh, (zq hg1), trivial⟩⟩
 ·refine Ap rfl (Ax (Aa (Ae (AG (Ae ?_)))))
  have hkl : k < ls.length := by have h := hc14; simp only [AB, IH] at h; simpa using h
  obtain ⟨v, hv⟩ : ∃ x, ls[k]? = some x := ⟨_, List.getElem?_eq_getElem hkl⟩
  have hvm := PX ps (p, q) hv
  have hv2 := hsm v (List.mem_of_getElem? hv)
  obtain ⟨⟨pa, pb⟩, hx⟩ : ∃ x, ps[k]? = some x := ⟨_, List.getElem?_eq_getElem (by omega)⟩
  obtain ⟨a2, rfl, -, -⟩ := hp.row hx
  have hpr : IC ps k = (pa, pb) := by unfold IC; rw [hx]; rfl
  have hkm : k < (Ek ls ps (p, q) k).length := by rw [IH]; exact hkl
  have hsu := Ry ls ps (p, q) k v hv
  rw [hpr] at hsu
  refine G6 (fun W H => PK (H.get (i := 0) rfl) (by omega)) ?_
  rintro ⟨gl, rfl⟩
  refine BN [] [0, 1] (by kernel_rfl) rfl ⟨(zj hvL.fresh), (zh hg1), trivial⟩ (ym 0 rfl (by kernel_rfl) zI (ym 1 rfl (by kernel_rfl) zI (yt (i := 2) (v := .pointer (some (a2.add (k * 2)))) (by kernel_rfl) zI rfl rfl rfl rfl (fun ρ w E H => BA (i := k) E rfl Tryz.underlying51 Bj rfl rfl (by omega)) (yt (i := 3) (v := .agg #[.int .u8 (pa : Int), .int .u8 (pb : Int)]) (by kernel_rfl) zI rfl rfl rfl rfl (fun ρ w E H => C7 (cs := [.int .u8 (pa : Int), .int .u8 (pb : Int)]) E ((hp.below (H.os.below (Nat.le_refl _) (by simp))).rowA hx) rfl rfl Tryz.underlying57 rfl Bj) (yw 4 1 Tryz.underlying57 Bj rfl (by kernel_rfl) zI ?_)))))
  refine DW (i := 5) rfl (by kernel_rfl) (by kernel_rfl) (by kernel_rfl) rfl rfl (fun _ _ _ h => h) trivial (fun ρ w E H => Ht E rfl (by kernel_rfl) rfl rfl (fun w => Iw pa pb p q w)) fun c22 hc22 => ?_
  refine ym 6 rfl (by kernel_rfl) zI ?_
  cases c22
  ·refine yo 7 rfl (by kernel_rfl) zI (yo 8 rfl (by kernel_rfl) zI (yo 9 rfl (by kernel_rfl) zI (yo 10 rfl (by kernel_rfl) zI (yo 11 rfl (by kernel_rfl) zI (yp 12 rfl (by kernel_rfl) zI (BE (by kernel_rfl) (Aa (Ah rfl (Ax ?_)))))))))
   refine AA (Aa ?_)
   rw [if_neg (fun h => by have h2 := hc22; simp at h2; have h3 := h.1; simp at h3; exact h2 h3.1 h3.2)] at hsu
   refine Ep (fun W H => H.re (i := 0) rfl (BU [] w.heap.size 3 1 (.slice (some ⟨gl, 0, none⟩) ((Ek ls ps (p, q) k).length) cL) ((Ek ls ps (p, q) (k + 1)).length) ((Ek ls ps (p, q) (k + 1)).flatMap iL)) (BF _ _ _ _ _ _ _) rfl (fun h => DI h (by rw [hsu]) (by rw [hsu]))) (Ac (zm rfl (Ag (v := .int .i64 ((k + 1 : Nat) : Int)) trivial rfl rfl (fun ρ w E H => BQ E rfl rfl rfl (by rw [IntKind.wrap_i64]; omega)) (za rfl (Ad ?_)))))
   refine B7 (gk - 1) (k + 1, (.slice (some ⟨gl, 0, none⟩) ((Ek ls ps (p, q) k).length) cL)) (by omega) ⟨by omega, hvL⟩ ⟨rfl, rfl, rfl, rfl, rfl, trivial⟩ [0, 1] rfl (by decide) ⟨.inl rfl, .inl rfl, trivial⟩
  ·refine ym 7 rfl (by kernel_rfl) zI (ym 8 rfl (by kernel_rfl) zI (yt (i := 9) (v := .pointer (some ((⟨gl, 0, none⟩ : Addr).add (k * 1)))) (by kernel_rfl) zI rfl rfl rfl rfl (fun ρ w E H => BA (i := k) E rfl Tryz.underlying50 OK rfl rfl hkm) (yt (i := 10) (v := .int .i64 (v : Int)) (by kernel_rfl) zI rfl rfl rfl rfl (fun ρ w E H => Em E ((EY Pe (by decide) (H.get (i := 0) rfl)).rowA hvm) rfl rfl rfl Tryz.underlying3 rfl) ?_)))
   refine DW (i := 11) rfl (by kernel_rfl) (by kernel_rfl) (by kernel_rfl) rfl rfl (fun _ _ _ h => h) ⟨_, _, rfl, rfl, rfl⟩ (fun ρ w E H => E9 E rfl rfl rfl rfl rfl) fun c28 hc28 => ?_
   refine yp 12 rfl (by kernel_rfl) zI (BE (by kernel_rfl) (Aa ?_))
   cases c28
   ·refine Ah rfl (Ax (AA (Aa ?_)))
    rw [if_neg (fun h => by have h2 := hc28; simp [AB] at h2; omega)] at hsu
    refine Ep (fun W H => H.re (i := 0) rfl (BU [] w.heap.size 3 1 (.slice (some ⟨gl, 0, none⟩) ((Ek ls ps (p, q) k).length) cL) ((Ek ls ps (p, q) (k + 1)).length) ((Ek ls ps (p, q) (k + 1)).flatMap iL)) (BF _ _ _ _ _ _ _) rfl (fun h => DI h (by rw [hsu]) (by rw [hsu]))) (Ac (zm rfl (Ag (v := .int .i64 ((k + 1 : Nat) : Int)) trivial rfl rfl (fun ρ w E H => BQ E rfl rfl rfl (by rw [IntKind.wrap_i64]; omega)) (za rfl (Ad ?_)))))
    refine B7 (gk - 1) (k + 1, (.slice (some ⟨gl, 0, none⟩) ((Ek ls ps (p, q) k).length) cL)) (by omega) ⟨by omega, hvL⟩ ⟨rfl, rfl, rfl, rfl, rfl, trivial⟩ [0, 1] rfl (by decide) ⟨.inl rfl, .inl rfl, trivial⟩
   ·refine Ap rfl (Ac (zm rfl (zm rfl (Ag (v := .pointer (some ((⟨gl, 0, none⟩ : Addr).add (k * 1)))) trivial rfl rfl (fun ρ w E H => BA (i := k) E rfl Tryz.underlying50 OK rfl rfl hkm) (Ag (v := .int .i64 (v : Int)) trivial rfl rfl (fun ρ w E H => Em E ((EY Pe (by decide) (H.get (i := 0) rfl)).rowA hvm) rfl rfl rfl Tryz.underlying3 rfl) (Ag (v := .int .i64 ((v + 1 : Nat) : Int)) trivial rfl rfl (fun ρ w E H => BQ E rfl rfl rfl (by rw [IntKind.wrap_i64]; omega)) (Ag (v := .pointer (some ((⟨gl, 0, none⟩ : Addr).add (k * 1)))) trivial rfl rfl (fun ρ w E H => BA (i := k) E rfl Tryz.underlying50 OK rfl rfl hkm) (OE _ trivial rfl (fun ρ w E H => Hp.storeEl (cells := iL) (l := (Ek ls ps (p, q) k)) (y := (v + 1)) (k := k) (i := 0) Pe E H rfl rfl rfl rfl hkm OK rfl rfl) (Ad ?_)))))))))
    refine AA (Aa ?_)
    rw [if_pos ⟨by simpa using hc22, by have h := hc28; simp [AB] at h; omega⟩] at hsu
    refine Ep (fun W H => H.re (i := 0) rfl (BU [] w.heap.size 3 1 (.slice (some ⟨gl, 0, none⟩) ((Ek ls ps (p, q) k).length) cL) ((Ek ls ps (p, q) (k + 1)).length) ((Ek ls ps (p, q) (k + 1)).flatMap iL)) (BF _ _ _ _ _ _ _) rfl (fun h => DI h (by rw [hsu]) (by rw [hsu]))) (Ac (zm rfl (Ag (v := .int .i64 ((k + 1 : Nat) : Int)) trivial rfl rfl (fun ρ w E H => BQ E rfl rfl rfl (by rw [IntKind.wrap_i64]; omega)) (za rfl (Ad ?_)))))
    refine B7 (gk - 1) (k + 1, (.slice (some ⟨gl, 0, none⟩) ((Ek ls ps (p, q) k).length) cL)) (by omega) ⟨by omega, hvL⟩ ⟨rfl, rfl, rfl, rfl, rfl, trivial⟩ [0, 1] rfl (by decide) ⟨.inl rfl, .inl rfl, trivial⟩
end Go.Proofs.YteiaiilfekojfaaGreat.Net
end
section
set_option linter.unusedVariables false
set_option linter.unusedSimpArgs false
namespace Go.Proofs.YteiaiilfekojfaaGreat.Net
open Go.RowKit Sx Wire DrawInv
set_option maxRecDepth 100000 in
set_option maxHeartbeats 4000000 in
theorem Pn (ps : List (Nat × Nat)) (base g n c : Nat)  (w : World) (hown : w.ownsRow base 57 2 (.slice (some ⟨g, 0, none⟩) n c) ps.length (ps.flatMap prL)) (hpn : ps.length = n) (hn63 : n ≤ 1000000) : Calls Tryz.prog 72 #[.slice (some ⟨g, 0, none⟩) n c] w fun e w' => ∃ v, e = .returned v ∧ w'.ownsRow base 57 2 v (F6 ps).length ((F6 ps).flatMap prL) ∧ OwnIn w [g] v ∧ Outs [g] w w' := by
 have hv0 : OwnIn w [g] (.slice (some ⟨g, 0, none⟩) n c) := fun b hb => .inl (by simpa [Value.ownBlock] using hb)
 have hcap := WX hown
 have H0 : Hp w [BU [g] base 57 2 (.slice (some ⟨g, 0, none⟩) n c) ps.length (ps.flatMap prL)] w := (Hp.start w).know _ (BF _ _ _ _ _ _ _) (fun b hb => ⟨(BS hown b (by simpa [BU, Value.ownBlock] using hb)).2, fun q hq => by cases hq⟩) hown
 refine A0 (n := 61) _ Tryz.func72 rfl rfl rfl H0 (Ae (Ac (za rfl (Ad (Aa (Ae (Ae (Ac (zm rfl ?_)))))))))
 refine zL Tryz.underlying51 rfl ?_
 refine zb rfl fun c8 hc8 => ?_
 refine Ad (Aa ?_)
 cases c8
 ·refine Ah rfl (Ax (Aa (Ae (Ae ?_))))
  have hn2 : 2 ≤ n := by have h := hc8; simp [AB] at h; omega
  refine Ac (za rfl (Ad (Aa (AG ?_))))
  refine Ff (fun (k : Nat) => [(0, .slice (some ⟨g, 0, none⟩) n c), (3, .int .i64 (k : Int))]) (fun (k : Nat) => [BU [g] base 57 2 (.slice (some ⟨g, 0, none⟩) n c) ps.length (ps.flatMap prL)]) (fun (gk : Nat) (k : Nat) => 1 ≤ k ∧ k + gk = n ∧ F6 (ps.take k) = ps.take k) (n - 1) 1 ⟨by omega, by omega, by obtain ⟨x, y, l, rfl⟩ : ∃ x y l, ps = x :: y :: l := (by match ps, hpn, hn2 with | x :: y :: l, _, _ => exact ⟨x, y, l, rfl⟩ | [x], h, h2 => simp at h; omega | [], h, h2 => simp at h; omega); rfl⟩ ⟨rfl, rfl, trivial⟩ [0] rfl (by decide) ⟨.inl rfl, trivial⟩ fun gk k hF => ?_
  obtain ⟨hk1, hkg, hrel⟩ := hF
  refine Ae (Ae (Ac (zm rfl (zm rfl (zL Tryz.underlying51 rfl ?_)))))
  refine zb rfl fun c13 hc13 => ?_
  refine Ad (Aa ?_)
  cases c13
  ·refine Ah rfl (Cd (AW (AW (BH (Aa (Ae (Ac (zm rfl (za rfl ?_)))))))))
   refine Ad (Aa (Am ?_))
   refine Ai (.slice (some ⟨g, 0, none⟩) n c) (fun a w K H => BC K rfl rfl) (fun w H => ?_)
   have hkn : k = n := by have h := hc13; simp [AB] at h; omega
   have hfin : F6 ps = ps := by rw [hkn, ← hpn, List.take_length] at hrel; exact hrel
   exact ⟨_, rfl, by rw [hfin]; exact H.get (i := 0) rfl, (fun b hb => .inl hb), H.toOuts _ ⟨(fun b hb => .inl (by simpa [BU, Value.ownBlock] using hb)), trivial⟩⟩
  ·refine Ap rfl (Ax (Aa (Ae (AG (Ae ?_)))))
   have hkl : k < ps.length := by have h := hc13; simp [AB] at h; omega
   obtain ⟨⟨xa, xb⟩, hx⟩ : ∃ x, ps[k]? = some x := ⟨_, List.getElem?_eq_getElem hkl⟩
   obtain ⟨⟨ya, yb⟩, hy⟩ : ∃ x, ps[k - 1]? = some x := ⟨_, List.getElem?_eq_getElem (by omega)⟩
   refine BN ([g] ++ []) [0] (by kernel_rfl) rfl ⟨(fun g hg => (hv0.in_ g hg).imp (fun h => by simp only [List.mem_append]; simp [h]) id), trivial⟩ (ym 0 rfl (by kernel_rfl) zI (ym 1 rfl (by kernel_rfl) zI (yt (i := 2) (v := .pointer (some ((⟨g, 0, none⟩ : Addr).add (k * 2)))) (by kernel_rfl) zI rfl rfl rfl rfl (fun ρ w E H => BA (i := k) E rfl Tryz.underlying51 Bj rfl rfl (by omega)) (yt (i := 3) (v := .agg #[.int .u8 (xa : Int), .int .u8 (xb : Int)]) (by kernel_rfl) zI rfl rfl rfl rfl (fun ρ w E H => C7 (cs := [.int .u8 (xa : Int), .int .u8 (xb : Int)]) E ((EY Fo (by decide) (H.get (i := 0) rfl)).rowA (k := k) hx) rfl rfl Tryz.underlying57 rfl Bj) (ym 4 rfl (by kernel_rfl) zI (ym 5 rfl (by kernel_rfl) zI (yt (i := 6) (v := .int .i64 ((k - 1 : Nat) : Int)) (by kernel_rfl) zI rfl rfl rfl rfl (fun ρ w E H => LW E rfl rfl rfl (by rw [IntKind.wrap_i64]; omega)) (yt (i := 7) (v := .pointer (some ((⟨g, 0, none⟩ : Addr).add ((k - 1 : Nat) * 2)))) (by kernel_rfl) zI rfl rfl rfl rfl (fun ρ w E H => BA (i := (k - 1 : Nat)) E rfl Tryz.underlying51 Bj rfl rfl (by omega)) (yt (i := 8) (v := .agg #[.int .u8 (ya : Int), .int .u8 (yb : Int)]) (by kernel_rfl) zI rfl rfl rfl rfl (fun ρ w E H => C7 (cs := [.int .u8 (ya : Int), .int .u8 (yb : Int)]) E ((EY Fo (by decide) (H.get (i := 0) rfl)).rowA (k := k - 1) hy) rfl rfl Tryz.underlying57 rfl Bj) ?_)))))))))
   refine DW (i := 9) rfl (by kernel_rfl) (by kernel_rfl) (by kernel_rfl) rfl rfl (fun _ _ _ h => h) trivial (fun ρ w E H => Ht E rfl (by kernel_rfl) rfl rfl (fun w => Iw xa xb ya yb w)) fun c25 hc25 => ?_
   refine BE (by kernel_rfl) (Aa ?_)
   cases c25
   ·refine Ah rfl (Ax (AA (Aa (Ac (zm rfl (Ag (v := .int .i64 ((k + 1 : Nat) : Int)) trivial rfl rfl (fun ρ w E H => BQ E rfl rfl rfl (by rw [IntKind.wrap_i64]; omega)) (za rfl (Ad ?_))))))))
    refine B7 (gk - 1) (k + 1) (by omega) ⟨by omega, by omega, by rw [Kq hk1 hy hx, hrel, if_neg (by simpa using hc25), ← Gk hx]⟩ ⟨rfl, rfl, trivial⟩ [0] rfl (by decide) ⟨.inl rfl, trivial⟩
   ·refine Ap rfl (Ae (Ac (zm rfl (zm rfl (Ag (v := .slice (some ⟨g, k * 2, none⟩) (n - k : Nat) (c - k)) trivial rfl rfl (fun ρ w E H => Ph (l := k) E rfl Tryz.underlying51 Bj rfl rfl (by omega) (M1 g k n c 2 (by omega))) (za rfl (Ad (Aa (Ae ?_)))))))))
    refine Ae (Ac (za rfl (Ad (Aa (AG ?_)))))
    refine UV (fun (i : Nat) (j : Nat) (C : List (Nat × Nat)) => [(0, .slice (some ⟨g, 0, none⟩) n c), (3, .int .i64 (i : Int)), (4, .slice (some ⟨g, k * 2, none⟩) (n - k : Nat) (c - k)), (5, .int .i64 (j : Int))]) (fun (i : Nat) (j : Nat) (C : List (Nat × Nat)) => [BU [g] base 57 2 (.slice (some ⟨g, 0, none⟩) n c) C.length (C.flatMap prL)]) (fun (gk : Nat) (i : Nat) (j : Nat) (C : List (Nat × Nat)) => C.length = n ∧ 1 ≤ j ∧ k + j + gk = n ∧ i + 1 ≤ k + j ∧ C.take i = F6 (ps.take (k + j)) ∧ C.drop (k + j - 1) = ps.drop (k + j - 1)) (n - (k + 1)) k 1 ps ⟨hpn, Nat.le_refl _, by omega, by omega, by rw [Kq hk1 hy hx, if_pos (by simpa using hc25), List.append_nil, hrel], rfl⟩ ⟨rfl, rfl, rfl, rfl, trivial⟩ [0] rfl (by decide) ⟨.inl rfl, trivial⟩ fun gk i j C hF => ?_
    obtain ⟨hCn, hj1, hjg, hij, hCt, hCd⟩ := hF
    refine Ae (Ae (Ac (zm rfl (zm rfl (zL Tryz.underlying51 rfl ?_)))))
    refine zb rfl fun c32 hc32 => ?_
    refine Ad (Aa ?_)
    cases c32
    ·refine Ah rfl (Cd (AW (AW (BH (Aa (Ae (Ac (zm rfl (zm rfl ?_)))))))))
     refine Ag (v := .slice (some ⟨g, i * 2, none⟩) (C.length - i : Nat) (c - i)) trivial rfl rfl (fun ρ w E H => Ph (l := i) E rfl Tryz.underlying51 Bj rfl rfl (by omega) ((M1 g i n c 2 (by omega)).trans (by rw [hCn]))) (Wj (.tuple #[]) _ trivial rfl (fun ρ w E H => Hp.clearRow (cells := prL) (l := C) (y := (0, 0)) (k := i) (i := 0) Fo E H rfl Tryz.underlying51 He rfl (SE _) rfl (by omega) rfl) (Ad (Aa (Ae (Ac (zm rfl (zm rfl (Ag (v := .slice (some ⟨g, 0, none⟩) i c) trivial rfl rfl (fun ρ w E H => SZ (h := i) E rfl Tryz.underlying51 Bj rfl rfl (by omega) (ON g i c 2)) (za rfl ?_)))))))))
     refine Ad (Aa (Am (AU (Ak (Ak (AU (Ak ?_)))))))
     refine Ai (.slice (some ⟨g, 0, none⟩) i c) (fun a w K H => BC K rfl rfl) (fun w H => ?_)
     have hkj : k + j = n := by have h := hc32; simp [AB] at h; omega
     have hfin : C.take i = F6 ps := by rw [hCt, hkj, ← hpn, List.take_length]
     have hown := V9 (k := i) Fo (H.get (i := 0) rfl) (by simp; omega)
     have htk : (C.take i ++ List.replicate (C.length - i) (0, 0)).take i = F6 ps := by rw [List.take_left' (by rw [List.length_take]; omega), hfin]
     rw [htk] at hown
     exact ⟨_, rfl, hown, (fun b hb => .inl hb), H.toOuts _ ⟨(fun b hb => .inl (by simpa [BU, Value.ownBlock] using hb)), trivial⟩⟩
    ·refine Ap rfl (Ax (Aa (Ae (AG (Ae ?_)))))
     have hjl : k + j < n := by have h := hc32; simp [AB] at h; omega
     obtain ⟨⟨ua, ub⟩, hu⟩ : ∃ x, ps[k + j]? = some x := ⟨_, List.getElem?_eq_getElem (by omega)⟩
     obtain ⟨⟨va, vb⟩, hv⟩ : ∃ x, ps[k + j - 1]? = some x := ⟨_, List.getElem?_eq_getElem (by omega)⟩
     have hCu : C[k + j]? = some (ua, ub) := by have h := congrArg (fun l => l[1]?) hCd; simp only [List.getElem?_drop] at h; rw [show k + j - 1 + 1 = k + j by omega] at h; rw [h]; exact hu
     have hCv : C[k + j - 1]? = some (va, vb) := by have h := congrArg (fun l => l[0]?) hCd; simp only [List.getElem?_drop, Nat.add_zero] at h; rw [h]; exact hv
     have hdr : C.drop (k + (j + 1) - 1) = ps.drop (k + (j + 1) - 1) := by have h := congrArg (fun l => l.drop 1) hCd; simp only [List.drop_drop] at h; rw [show k + (j + 1) - 1 = k + j - 1 + 1 by omega]; exact h
     refine BN ([g] ++ []) [0] (by kernel_rfl) rfl ⟨(fun g hg => (hv0.in_ g hg).imp (fun h => by simp only [List.mem_append]; simp [h]) id), trivial⟩ (ym 0 rfl (by kernel_rfl) zI (ym 1 rfl (by kernel_rfl) zI (yt (i := 2) (v := .pointer (some ((⟨g, k * 2, none⟩ : Addr).add (j * 2)))) (by kernel_rfl) zI rfl rfl rfl rfl (fun ρ w E H => BA (i := j) E rfl Tryz.underlying51 Bj rfl rfl (by omega)) (yt (i := 3) (v := .agg #[.int .u8 (ua : Int), .int .u8 (ub : Int)]) (by kernel_rfl) zI rfl rfl rfl rfl (fun ρ w E H => C7 (cs := [.int .u8 (ua : Int), .int .u8 (ub : Int)]) E (OT (a := k) (b := j) (sz := 2) (by rw [show (k + j) * 2 = (k + j) * 2 from rfl]; exact (EY Fo (by decide) (H.get (i := 0) rfl)).rowA (k := k + j) hCu)) rfl rfl Tryz.underlying57 rfl Bj) (ym 4 rfl (by kernel_rfl) zI (ym 5 rfl (by kernel_rfl) zI (yt (i := 6) (v := .int .i64 ((j - 1 : Nat) : Int)) (by kernel_rfl) zI rfl rfl rfl rfl (fun ρ w E H => LW E rfl rfl rfl (by rw [IntKind.wrap_i64]; omega)) (yt (i := 7) (v := .pointer (some ((⟨g, k * 2, none⟩ : Addr).add ((j - 1 : Nat) * 2)))) (by kernel_rfl) zI rfl rfl rfl rfl (fun ρ w E H => BA (i := (j - 1 : Nat)) E rfl Tryz.underlying51 Bj rfl rfl (by omega)) (yt (i := 8) (v := .agg #[.int .u8 (va : Int), .int .u8 (vb : Int)]) (by kernel_rfl) zI rfl rfl rfl rfl (fun ρ w E H => C7 (cs := [.int .u8 (va : Int), .int .u8 (vb : Int)]) E (OT (a := k) (b := j - 1) (sz := 2) (by rw [show (k + (j - 1)) * 2 = (k + j - 1) * 2 by omega]; exact (EY Fo (by decide) (H.get (i := 0) rfl)).rowA (k := k + j - 1) hCv)) rfl rfl Tryz.underlying57 rfl Bj) ?_)))))))))
     refine DW (i := 9) rfl (by kernel_rfl) (by kernel_rfl) (by kernel_rfl) rfl rfl (fun _ _ _ h => h) trivial (fun ρ w E H => FV E rfl (by kernel_rfl) rfl rfl (fun w => by rw [Bool.not_not]; exact Iw ua ub va vb w)) fun c44 hc44 => ?_
     refine BE (by kernel_rfl) (Aa ?_)
     cases c44
     ·refine Ah rfl (Ax (AA (Aa (Ac (zm rfl (Ag (v := .int .i64 ((j + 1 : Nat) : Int)) trivial rfl rfl (fun ρ w E H => BQ E rfl rfl rfl (by rw [IntKind.wrap_i64]; omega)) (za rfl (Ad ?_))))))))
      have hct := Kq (l := ps) (m := k + j) (by omega) hv hu
      rw [if_pos (by have h := hc44; simp at h; exact Prod.ext h.1 h.2), List.append_nil] at hct
      refine B7 (gk - 1) (i, j + 1, C) (by omega) ⟨hCn, (show 1 ≤ j + 1 by omega), (show k + (j + 1) + (gk - 1) = n by omega), (show i + 1 ≤ k + (j + 1) by omega), hCt.trans hct.symm, hdr⟩ ⟨rfl, rfl, rfl, rfl, trivial⟩ [0] rfl (by decide) ⟨.inl rfl, trivial⟩
     ·refine Ap rfl (Ae (Ac (zm rfl (zm rfl (zm rfl (zm rfl (Ag (v := .pointer (some ((⟨g, k * 2, none⟩ : Addr).add (j * 2)))) trivial rfl rfl (fun ρ w E H => BA (i := j) E rfl Tryz.underlying51 Bj rfl rfl (by omega)) (Ag (v := .agg #[.int .u8 (ua : Int), .int .u8 (ub : Int)]) trivial rfl rfl (fun ρ w E H => C7 (cs := [.int .u8 (ua : Int), .int .u8 (ub : Int)]) E (OT (a := k) (b := j) (sz := 2) (by rw [show (k + j) * 2 = (k + j) * 2 from rfl]; exact (EY Fo (by decide) (H.get (i := 0) rfl)).rowA (k := k + j) hCu)) rfl rfl Tryz.underlying57 rfl Bj) (Ag (v := .pointer (some ((⟨g, 0, none⟩ : Addr).add (i * 2)))) trivial rfl rfl (fun ρ w E H => BA (i := i) E rfl Tryz.underlying51 Bj rfl rfl (by omega)) ?_)))))))))
      refine OE _ trivial rfl (fun ρ w E H => Hp.storeEl (cells := prL) (l := C) (y := (ua, ub)) (k := i) (i := 0) Fo E H rfl rfl rfl rfl (by omega) Bj rfl rfl) (Ad (Aa (Ac (zm rfl (Ag (v := .int .i64 ((i + 1 : Nat) : Int)) trivial rfl rfl (fun ρ w E H => BQ E rfl rfl rfl (by rw [IntKind.wrap_i64]; omega)) (za rfl (Ad (AA (Aa ?_)))))))))
      refine Ac (zm rfl (Ag (v := .int .i64 ((j + 1 : Nat) : Int)) trivial rfl rfl (fun ρ w E H => BQ E rfl rfl rfl (by rw [IntKind.wrap_i64]; omega)) (za rfl (Ad ?_))))
      have hct := Kq (l := ps) (m := k + j) (by omega) hv hu
      rw [if_neg (fun h => by rw [h] at hc44; simp at hc44)] at hct
      refine B7 (gk - 1) ((i + 1 : Nat), j + 1, (C.set i (ua, ub))) (by omega) ⟨by rw [List.length_set, hCn], (show 1 ≤ j + 1 by omega), (show k + (j + 1) + (gk - 1) = n by omega), (show i + 1 + 1 ≤ k + (j + 1) by omega), by rw [NQ (by omega), hCt]; exact hct.symm, by show (C.set i (ua, ub)).drop (k + (j + 1) - 1) = ps.drop (k + (j + 1) - 1); rw [List.drop_set_of_lt (by omega)]; exact hdr⟩ ⟨rfl, rfl, rfl, rfl, trivial⟩ [0] rfl (by decide) ⟨.inl rfl, trivial⟩
 ·refine Ap rfl (Ae (Ac (zm rfl (za rfl (Ad (Aa (Am (Ak ?_))))))))
  refine Ai (.slice (some ⟨g, 0, none⟩) n c) (fun a w K H => BC K rfl rfl) (fun w H => ?_)
  have hfin : F6 ps = ps := by have h := hc8; simp [AB] at h; match ps, hpn with | [], _ => rfl | [a], _ => rfl | a :: b :: l, h2 => simp at h2; omega
  exact ⟨_, rfl, by rw [hfin]; exact H.get (i := 0) rfl, (fun b hb => .inl hb), H.toOuts _ ⟨(fun b hb => .inl (by simpa [BU, Value.ownBlock] using hb)), trivial⟩⟩

set_option maxRecDepth 100000 in
set_option maxHeartbeats 4000000 in
theorem Po (c : Nat)  (w : World) : Calls Tryz.prog 72 #[.slice none 0 c] w fun e w' => e = .returned (.slice none 0 c) ∧ Below w.heap.size w w' := by
 refine A0 (n := 61) _ Tryz.func72 rfl rfl rfl (Hp.start w) (Ae (Ac (za rfl (Ad (Aa (Ae (Ae (Ac (zm rfl ?_)))))))))
 refine zL Tryz.underlying51 rfl (zc true rfl (by decide) (Ad (Aa (Ap rfl (Ae (Ac (zm rfl (za rfl (Ad ?_)))))))))
 refine Aa (Am (Ak ?_))
 refine Ai (.slice none 0 c) (fun a w K H => BC K rfl rfl) (fun w H => ?_)
 exact ⟨rfl, H.toBelow trivial⟩

theorem Qz {ps : List (Nat × Nat)} {base n c : Nat} {A : Option Addr} {w : World} (hown : w.ownsRow base 57 2 (.slice A n c) ps.length (ps.flatMap prL)) (hn63 : ps.length ≤ 1000000) : Calls Tryz.prog 72 #[.slice A n c] w fun e w' => ∃ v, e = .returned v ∧ w'.ownsRow base 57 2 v (F6 ps).length ((F6 ps).flatMap prL) ∧ OwnIn w (Value.slice A n c).ownBlock.toList v ∧ Outs (Value.slice A n c).ownBlock.toList w w' := by
 rcases hown.2 with ⟨h0, h1⟩ | ⟨g, cap, cur, ev, _⟩
 ·injection h0 with e1 e2 e3
  subst e1 e2 e3
  have hl0 : ps = [] := List.length_eq_zero_iff.1 h1
  subst hl0
  exact (Po 0 w).mono fun E w' he => ⟨_, he.1, World.ownsRow_nil _ _ _ _, F3 w 0 0, Outs.of_below he.2⟩
 ·injection ev with e1 e2 e3
  subst e1
  exact Pn ps base g n c w hown e2.symm (by omega)
end Go.Proofs.YteiaiilfekojfaaGreat.Net
end
section
set_option linter.unusedVariables false
set_option linter.unusedSimpArgs false
namespace Go.Proofs.YteiaiilfekojfaaGreat.Net
open Go.RowKit Go.Shelf Go.Sort Sx Bal DrawInv
def sortPr_ren : Go.Shelf.Ren := ⟨fun | 6 => 68 | 15 => 106 | 14 => 105 | 28 => 175 | 29 => 176 | 20 => 167 | 21 => 168 | 22 => 169 | 23 => 170 | 24 => 171 | 25 => 172 | 26 => 173 | 27 => 174 | 46 => 182 | 47 => 183 | 48 => 184 | 49 => 185 | 50 => 186 | 57 => 187 | n => n, fun | 22 => 51 | 24 => 57 | 25 => 140 | 3 => 3 | 39 => 174 | 0 => 0 | 53 => 27 | 55 => 22 | 4 => 4 | 46 => 192 | 45 => 191 | 50 => 196 | 5 => 5 | 9 => 9 | 66 => 205 | 70 => 208 | 76 => 210 | 77 => 211 | n => n, fun | n => n⟩
theorem Vi : Go.Proofs.SlLaysF0.n6 Tryz.prog sortPr_ren := {
 mixed := (by kernel_rfl),
 f6 := ⟨Tryz.f68.name, by decide, Tryz.func68.trans (congrArg some (by kernel_rfl))⟩,
 f14 := ⟨Tryz.f105.name, by decide, Tryz.func105.trans (congrArg some (by kernel_rfl))⟩,
 f15 := Tryz.func106.trans (congrArg some (by kernel_rfl)),
 f20 := ⟨Tryz.f167.name, by decide, Tryz.func167.trans (congrArg some (by kernel_rfl))⟩,
 f21 := ⟨Tryz.f168.name, by decide, Tryz.func168.trans (congrArg some (by kernel_rfl))⟩,
 f22 := ⟨Tryz.f169.name, by decide, Tryz.func169.trans (congrArg some (by kernel_rfl))⟩,
 f23 := ⟨Tryz.f170.name, by decide, Tryz.func170.trans (congrArg some (by kernel_rfl))⟩,
 f24 := ⟨Tryz.f171.name, by decide, Tryz.func171.trans (congrArg some (by kernel_rfl))⟩,
 f25 := ⟨Tryz.f172.name, by decide, Tryz.func172.trans (congrArg some (by kernel_rfl))⟩,
 f26 := ⟨Tryz.f173.name, by decide, Tryz.func173.trans (congrArg some (by kernel_rfl))⟩,
 f27 := ⟨Tryz.f174.name, by decide, Tryz.func174.trans (congrArg some (by kernel_rfl))⟩,
 f28 := Tryz.func175.trans (congrArg some (by kernel_rfl)),
 f29 := Tryz.func176.trans (congrArg some (by kernel_rfl)),
 f46 := ⟨Tryz.f182.name, by decide, Tryz.func182.trans (congrArg some (by kernel_rfl))⟩,
 f47 := Tryz.func183.trans (congrArg some (by kernel_rfl)),
 f48 := Tryz.func184.trans (congrArg some (by kernel_rfl)),
 f49 := ⟨Tryz.f185.name, by decide, Tryz.func185.trans (congrArg some (by kernel_rfl))⟩,
 f50 := ⟨Tryz.f186.name, by decide, Tryz.func186.trans (congrArg some (by kernel_rfl))⟩,
 f57 := ⟨Tryz.f187.name, by decide, Tryz.func187.trans (congrArg some (by kernel_rfl))⟩,
 t0 := Tryz.underlying0,
 a0 := Tryz.isAgg0,
 z0 := Tryz.sizeOf0,
 v0 := Tryz.zeroValue0,
 t3 := Tryz.underlying3,
 a3 := Tryz.isAgg3,
 z3 := Tryz.sizeOf3,
 v3 := Tryz.zeroValue3,
 t4 := Tryz.underlying4,
 a4 := Tryz.isAgg4,
 z4 := Tryz.sizeOf4,
 v4 := Tryz.zeroValue4,
 t5 := Tryz.underlying5,
 a5 := Tryz.isAgg5,
 z5 := Tryz.sizeOf5,
 v5 := Tryz.zeroValue5,
 t9 := Tryz.underlying9,
 a9 := Tryz.isAgg9,
 z9 := Tryz.sizeOf9,
 v9 := Tryz.zeroValue9,
 t22 := Tryz.underlying51,
 a22 := Tryz.isAgg51,
 z22 := Tryz.sizeOf51,
 v22 := Tryz.zeroValue51,
 t25 := Tryz.underlying140,
 a25 := Tryz.isAgg140,
 z25 := Tryz.sizeOf140,
 v25 := Tryz.zeroValue140,
 t39 := Tryz.underlying174,
 a39 := Tryz.isAgg174,
 z39 := Tryz.sizeOf174,
 v39 := Tryz.zeroValue174,
 t45 := Tryz.underlying191,
 a45 := Tryz.isAgg191,
 z45 := Tryz.sizeOf191,
 v45 := Tryz.zeroValue191,
 t46 := Tryz.underlying192,
 a46 := Tryz.isAgg192,
 z46 := Tryz.sizeOf192,
 v46 := Tryz.zeroValue192,
 t50 := Tryz.underlying196,
 a50 := Tryz.isAgg196,
 z50 := Tryz.sizeOf196,
 v50 := Tryz.zeroValue196,
 t53 := Tryz.underlying27,
 a53 := Tryz.isAgg27,
 z53 := Tryz.sizeOf27,
 v53 := Tryz.zeroValue27,
 t55 := Tryz.underlying22,
 a55 := Tryz.isAgg22,
 z55 := Tryz.sizeOf22,
 v55 := Tryz.zeroValue22,
 t66 := Tryz.underlying205,
 a66 := Tryz.isAgg205,
 z66 := Tryz.sizeOf205,
 v66 := Tryz.zeroValue205,
 t70 := Tryz.underlying208,
 a70 := Tryz.isAgg208,
 z70 := Tryz.sizeOf208,
 v70 := Tryz.zeroValue208,
 t76 := Tryz.underlying210,
 a76 := Tryz.isAgg210,
 z76 := Tryz.sizeOf210,
 v76 := Tryz.zeroValue210,
 t77 := Tryz.underlying211,
 a77 := Tryz.isAgg211,
 z77 := Tryz.sizeOf211,
 v77 := Tryz.zeroValue211 }
theorem WC : ∀ w, (isAgg (sortPr_ren.t 24)).run Tryz.prog w = .ok true w := Tryz.isAgg57
theorem TK : ∀ w, (Go.sizeOf (sortPr_ren.t 24)).run Tryz.prog w = .ok 2 w := Tryz.sizeOf57
theorem TI {w : World} {base g n c : Nat} {l : List (Nat × Nat)} (h : w.ownsRow base 57 2 (.slice (some ⟨g, 0, none⟩) n c) l.length (l.flatMap prL)) (hl : l.length ≤ 1000000) : Calls Tryz.prog 68 #[.slice (some ⟨g, 0, none⟩) n c, .func (.func 69) #[] #[]] w fun e w' => e = .returned (.tuple #[]) ∧ ∃ Q : List (Nat × Nat), (Q.Perm l ∧ Q.Pairwise (fun a b => ¬ ltP b a)) ∧ w'.ownsRow base 57 2 (.slice (some ⟨g, 0, none⟩) n c) Q.length (Q.flatMap prL) ∧ w.grownBy w' (some g) := by
 have hn : n = l.toArray.size := by
  rcases h.2 with ⟨h0, _⟩ | ⟨g', cap, cur, ev, _⟩
  ·cases h0
  ·have e2 : n = l.length := by injection ev
   simpa using e2
 have hlt : g < w.heap.size := (BS h g (by simp [Value.ownBlock])).2
 have eg : ∀ args w, (callFunc 69 args).run Tryz.prog w = .ok (.enter 69 args) w := enters_of Tryz.func69 (by kernel_rfl) rfl
 have hcon := AnyQ.slices_SortFunc Vi 2 WC TK prL Fo SE Rk TE 69 #[] g 0 c l.toArray w eg (Wu g _ w) (U3 h) hlt (by simp; omega)
 change Calls Tryz.prog 68 _ _ _ at hcon
 rw [← hn] at hcon
 refine hcon.mono fun e w' ⟨he, d', m, os, hp, hs, hw⟩ => ⟨he, d'.toList, ?_⟩
 rw [hn] at hp hs
 obtain ⟨hq, hpm⟩ := WT hp
 obtain ⟨h1, h2⟩ := Rj (m := m) (os := os) h hq
 rw [hw]
 exact ⟨⟨hpm, TG (by rw [hq]; simp) hs⟩, h1, h2⟩
theorem TJ (c : Nat) (w : World) : Calls Tryz.prog 68 #[.slice none 0 c, .func (.func 69) #[] #[]] w fun e w' => e = .returned (.tuple #[]) ∧ w' = w :=
 AnyF.slices_SortFunc_none Vi none c _ w
theorem UL {w0 : World} {L : List Ft} {i base n c : Nat} {A : Option Addr} {ex : List Nat} {l : List (Nat × Nat)} (hL : nth L i = some (BU ex base 57 2 (.slice A n c) l.length (l.flatMap prL))) (hl : l.length ≤ 1000000) :
  ∀ w, Hp w0 L w → Calls Tryz.prog 68 #[.slice A n c, .func (.func 69) #[] #[]] w fun E w' => ∃ Q : List (Nat × Nat), E = .returned (.tuple #[]) ∧ (Q.Perm l ∧ Q.Pairwise (fun a b => ¬ ltP b a)) ∧ Hp w0 (putF L i (BU ex base 57 2 (.slice A n c) Q.length (Q.flatMap prL))) w' := fun w H => by
 have hown : w.ownsRow base 57 2 (.slice A n c) l.length (l.flatMap prL) := H.get hL
 rcases hown.2 with ⟨h0, h1⟩ | ⟨g, cap, cur, ev, _⟩
 ·injection h0 with e1 e2 e3
  subst e1 e2 e3
  have hl0 : l = [] := List.length_eq_zero_iff.1 h1
  subst hl0
  refine (TJ 0 w).mono fun E w' he => ⟨[], he.1, ⟨.nil, .nil⟩, ?_⟩
  rw [he.2]
  exact H.chg hL _ (Outs.refl _ _) (BF _ _ _ _ _ _ _) (fun b hb => ⟨(H.ok _ (EU hL)).2.1 b hb, .inl hb⟩) (fun b hb => .inl hb) hown
 ·injection ev with e1 e2 e3
  subst e1
  refine (TI hown hl).mono fun E w' ⟨he, Q, hq, ho, hg⟩ => ⟨Q, he, hq, ?_⟩
  have hin : g ∈ (BU ex base 57 2 (.slice (some ⟨g, 0, none⟩) n c) l.length (l.flatMap prL)).fp := by simp [BU, Value.ownBlock]
  exact H.chg hL _ (Outs.of_grown hg hin) (BF _ _ _ _ _ _ _) (fun b hb => ⟨Nat.lt_of_lt_of_le ((H.ok _ (EU hL)).2.1 b hb) hg.size, .inl hb⟩) (fun b hb => .inl hb) ho
end Go.Proofs.YteiaiilfekojfaaGreat.Net
end
section
set_option linter.unusedVariables false
set_option linter.unusedSimpArgs false
namespace Go.Proofs.YteiaiilfekojfaaGreat.Net
open Go.RowKit Sx Wire DrawInv
open Msg
def Ky (x : Pa) : Nat × Nat := (x.src, x.dst)

set_option maxRecDepth 100000 in
set_option maxHeartbeats 4000000 in
theorem Ug (base g gm : Nat) (V : Value) (bag : List Pa) (M : Df)  (w : World) (hn : (E7 base g gm V bag M).φ w) (hb512 : bag.length ≤ 512) : Calls Tryz.prog 32 #[.pointer (some ⟨g, 0, none⟩)] w fun e w' => ∃ v Q, e = .returned v ∧ PairsOf bag Q ∧ w'.ownsRow w.heap.size 57 2 v Q.length (Q.flatMap prL) ∧ Below w.heap.size w w' := by
 obtain ⟨Ab, cb, rfl⟩ := Bf hn.2.1
 have hrows := EZ hn.2.1
 have hnone := F3 w 0 0
 refine A0 (n := 27) _ Tryz.func32 rfl rfl rfl (Hp.start w) (Ae (Ac (za rfl (Ad (Aa (Ae (Ae (Ac (zm rfl ?_)))))))))
 refine Ag (v := .bool false) trivial rfl rfl (fun ρ w E H => Is E rfl Tryz.underlying48 rfl rfl rfl) (Ad (Aa (Ah rfl (Ax (Aa (Ae (Ac (za rfl (Ad ?_)))))))))
 refine Aa (Ae (Ae (Ac (zm rfl (Ag (v := .pointer (some ⟨g, 0, none⟩)) trivial rfl rfl (fun ρ w E H => Be E rfl rfl) (zf 0 Bo rfl (Ag trivial rfl rfl (fun ρ w E H => Dl (cs := [.slice Ab bag.length cb, .map (some gm)]) E (Blk.below hn.1 (H.toBelow trivial) (Blk.lt hn.1)) rfl rfl Tryz.underlying128 rfl rfl) (zL Tryz.underlying128 rfl (zm rfl ?_)))))))))
 refine Ad (Aa (AG (Ep (fun W H => H.nilRow 57 2) ?_)))
 refine Ec (fun (i : Nat) (vL : Value) => [(3, vL), (11, .slice Ab bag.length cb), (12, .int .i64 (bag.length : Int)), (13, .int .i64 (i : Int))]) (fun (i : Nat) (vL : Value) => [BU [] w.heap.size 57 2 vL (((bag.take i).map Ky).length) (((bag.take i).map Ky).flatMap prL)]) (fun (gk : Nat) (i : Nat) (vL : Value) => i + gk = bag.length ∧ OwnIn w [] vL) bag.length 0 (.slice none 0 0) ⟨by omega, hnone⟩ ⟨rfl, rfl, rfl, rfl, trivial⟩ [0] rfl (by decide) ⟨.inl rfl, trivial⟩ fun gk i vL hF => ?_
 obtain ⟨hkg, hvL⟩ := hF
 refine Ae (Ac ?_)
 refine zb rfl fun c14 hc14 => ?_
 refine Ad (Aa (Ae ?_))
 cases c14
 ·refine Ah rfl (Cd (AW (AW (BH (Aa (Ae ?_))))))
  have hle : bag.length ≤ i := by have h := hc14; simp [AB] at h; omega
  have htk : (bag.take i).map Ky = bag.map Ky := by rw [List.take_of_length_le hle]
  have hml : (bag.map Ky).length = bag.length := List.length_map _
  refine G6 (fun W H => Bf (H.get (i := 0) rfl)) ?_
  rintro ⟨AL, cL, rfl⟩
  refine Ep (fun W H => H.re (i := 0) rfl (BU [] w.heap.size 57 2 (.slice AL (((bag.take i).map Ky).length) cL) ((bag.map Ky).length) ((bag.map Ky).flatMap prL)) (BF _ _ _ _ _ _ _) rfl (fun h => DI h (by rw [htk]) (by rw [htk]))) (Ac (zm rfl ?_))
  refine AP (σ := List (Nat × Nat)) (fun _ => .tuple #[]) (fun Q => Q.Perm (bag.map Ky) ∧ Q.Pairwise (fun a b => ¬ ltP b a)) (fun Q => _) trivial rfl rfl (zk Ez rfl) (UL (i := 0) (l := bag.map Ky) rfl (by omega)) fun Q hQ => ?_
  refine Ad (Aa (Ae (Ac (zm rfl ?_))))
  refine AP (σ := Value) (fun s => s) (fun s => OwnIn w [] s) (fun s => _) trivial rfl rfl (zk E6 rfl) (Lx (i := 0) (m' := (F6 Q).length) (xs' := (F6 Q).flatMap prL) rfl hvL (fun w H => Qz (ps := Q) (H.get (i := 0) rfl) (by rw [hQ.1.length_eq]; omega))) fun vC hvC => ?_
  refine za rfl (Ad (Aa (Am ?_)))
  refine Ai (vC) (fun a w K H => BC K rfl rfl) (fun w H => ?_)
  exact ⟨_, _, rfl, PairsOf.mk' hQ.1 hQ.2, H.get (i := 0) rfl, H.toBelow ⟨hvC.fresh, trivial⟩⟩
 ·refine Ap rfl (Ax (Aa (Ae (AG (Ae ?_)))))
  have hkl : i < bag.length := by have h := hc14; simp [AB] at h; omega
  obtain ⟨⟨ps, pd, pb⟩, hx⟩ : ∃ x, bag[i]? = some x := ⟨_, List.getElem?_eq_getElem hkl⟩
  obtain ⟨ad, rfl, -, -⟩ := hrows.row hx
  have hwl : ((bag.take i).map Ky).length = i := by rw [List.length_map, List.length_take]; omega
  refine Ac (Ag (v := .pointer (some (ad.add (i * 3)))) trivial rfl rfl (fun ρ w E H => BA (i := i) E rfl Tryz.underlying128 Bc rfl rfl hkl) (Ag (v := .agg #[.int .u8 (ps : Int), .int .u8 (pd : Int), .string ⟨pb.toArray⟩]) trivial rfl rfl (fun ρ w E H => C7 (cs := [.int .u8 (ps : Int), .int .u8 (pd : Int), .string ⟨pb.toArray⟩]) E ((hrows.below (H.toBelow ⟨hvL.fresh, trivial⟩)).rowA hx) rfl rfl Tryz.underlying134 rfl Bc) ?_))
  refine zA CJ rfl fun g1 hg1 => ?_
  refine zS 0 Bc rfl (Ad (Aa (Ac (zm rfl (zf 0 Gq rfl (zv 0 [.int .u8 (ps : Int), .int .u8 (pd : Int)] Tryz.underlying57 Bj rfl ?_))))))
  refine Dx (cs := [.int .u8 (ps : Int), .int .u8 (pd : Int)]) trivial rfl rfl (fun ρ w E H => AV E rfl rfl Tryz.underlying51 Bj He rfl rfl (by kernel_rfl)) fun g2 hg2 => ?_
  refine Ik (i := 2) (news := [.int .u8 (ps : Int), .int .u8 (pd : Int)]) trivial rfl rfl rfl Tryz.underlying51 Kz rfl rfl rfl rfl hvL rfl (fun w H => CS H (i := 0) rfl rfl) (D4 rfl) (by unfold maxLen; omega) (by omega) (Nat.le_refl _) fun A21 k21 hv21 => ?_
  refine za rfl (Ad (AA (Aa (Ep (fun W H => H.re (i := 2) rfl (BU [] w.heap.size 57 2 (.slice A21 (((bag.take i).map Ky).length + 1) k21) (((bag.take (i + 1)).map Ky).length) (((bag.take (i + 1)).map Ky).flatMap prL)) (BF _ _ _ _ _ _ _) rfl (fun h => DI h (by rw [List.take_add_one, hx]; simp) (by rw [List.take_add_one, hx]; simp [Ky, prL]))) (Ac (Ag (v := .int .i64 ((i + 1 : Nat) : Int)) trivial rfl rfl (fun ρ w E H => BQ E rfl rfl rfl (by rw [IntKind.wrap_i64]; omega)) (zm rfl (Ad ?_))))))))
  refine B7 (gk - 1) (i + 1, (.slice A21 (((bag.take i).map Ky).length + 1) k21)) (by omega) ⟨show i + 1 + (gk - 1) = bag.length by omega, hv21⟩ ⟨rfl, rfl, rfl, rfl, trivial⟩ [2] rfl (by decide) ⟨.inr (zq hg2), .inr (zq hg1), .inl rfl, trivial⟩
end Go.Proofs.YteiaiilfekojfaaGreat.Net
end
section
set_option linter.unusedVariables false
set_option linter.unusedSimpArgs false
namespace Go.Proofs.YteiaiilfekojfaaGreat.Net
open Go.RowKit Sx Wire DrawInv
open Msg
def D9 (base : Nat) (A : Option Addr) (kA : Nat) (C : Option Addr) (kC : Nat) (L : List Rl) (gs : List Nat) (pp : List (Nat × Nat)) : Ft :=
 ⟨(Value.slice A L.length kA).ownBlock.toList ++ ((Value.slice C gs.length kC).ownBlock.toList ++ gs), fun w => w.ownsRow base 59 20 (.slice A L.length kA) L.length (L.flatMap rlL) ∧ w.ownsRow base 103 1 (.slice C gs.length kC) gs.length (gs.flatMap slL) ∧ InnerAt w gs pp⟩
theorem VS {w : World} {gs : List Nat} {pp : List (Nat × Nat)} (h : InnerAt w gs pp) : ∀ g ∈ gs, g < w.heap.size := fun g hg => by
 obtain ⟨i, hi⟩ := List.getElem?_of_mem hg
 have hl := (List.getElem?_eq_some_iff.1 hi).1
 exact Blk.lt (h.at_ i g _ hi (List.getElem?_eq_getElem (by rw [← h.len]; exact hl)))
theorem IQ (base : Nat) (A : Option Addr) (kA : Nat) (C : Option Addr) (kC : Nat) (L : List Rl) (gs : List Nat) (pp : List (Nat × Nat)) : (D9 base A kA C kC L gs pp).Loc := by
 intro w w' h ⟨h1, h2, h3⟩
 refine ⟨?_, ?_, h3.len, fun i g p h4 h5 => (h g (List.mem_append.2 (.inr (List.mem_append.2 (.inr (List.mem_of_getElem? h4)))))).trans (h3.at_ i g p h4 h5)⟩
 ·exact BF [] base _ 20 _ _ _ w w' (fun b hb => h b (List.mem_append.2 (.inl (by simpa [BU] using hb)))) h1
 ·exact BF [] base _ 1 _ _ _ w w' (fun b hb => h b (List.mem_append.2 (.inr (List.mem_append.2 (.inl (by simpa [BU] using hb)))))) h2
theorem Lt {base : Nat} {A : Option Addr} {kA : Nat} {C : Option Addr} {kC : Nat} {L : List Rl} {gs : List Nat} {pp : List (Nat × Nat)} {w : World} (h : (D9 base A kA C kC L gs pp).φ w) : ∀ b ∈ (D9 base A kA C kC L gs pp).fp, b < w.heap.size := fun b hb => by
 rcases List.mem_append.1 hb with hb | hb
 ·exact (BS h.1 b hb).2
 rcases List.mem_append.1 hb with hb | hb
 ·exact (BS h.2.1 b hb).2
 ·exact VS h.2.2 b hb
theorem Wn (base : Nat) (w : World) : (D9 base none 0 none 0 [] [] []).φ w := ⟨World.ownsRow_nil _ _ _ _, World.ownsRow_nil _ _ _ _, InnerAt.nil w⟩
theorem Ti {σ : Type} {w0 : World} {L : List Ft} {P : Program} {fn i : Nat} {args : Array Value} {f : Ft} (v : σ → Value) (f' : σ → Ft) (hL : nth L i = some f) (hfr : ∀ g ∈ f.fp, w0.heap.size ≤ g) (hloc : ∀ s, (f' s).Loc)
  (hc : ∀ w, Hp w0 L w → Calls P fn args w fun E w' => ∃ s, E = .returned (v s) ∧ (f' s).φ w' ∧ (∀ b ∈ (f' s).fp, b < w'.heap.size ∧ (b ∈ f.fp ∨ w.heap.size ≤ b)) ∧ Below w.heap.size w w') :
  ∀ w, Hp w0 L w → Calls P fn args w fun E w' => ∃ s, E = .returned (v s) ∧ (∀ b ∈ (f' s).fp, w0.heap.size ≤ b) ∧ Hp w0 (putF L i (f' s)) w' := fun w H => (hc w H).mono fun E w' ⟨s, he, hf, hfp, hb⟩ =>
 ⟨s, he, fun b hm => (hfp b hm).2.elim (hfr b) (fun h => Nat.le_trans H.os.size h), H.chg hL _ (Outs.of_below hb) (hloc s) hfp (zj hfr) hf⟩
section
variable {w0 : World} {Lf : List Ft} {i base : Nat} {A : Option Addr} {kA : Nat} {C : Option Addr} {kC : Nat} {L : List Rl} {gs : List Nat} {pp : List (Nat × Nat)}
theorem Xz {w w' : World} {v : Value} {L' : List Rl} (hd : (D9 base A kA C kC L gs pp).φ w) (hbase : base ≤ w.heap.size) (hown : w'.ownsRow w.heap.size 59 20 v L'.length (L'.flatMap rlL)) (hb : Below w.heap.size w w') :
  ∃ s : Option Addr × Nat, v = .slice s.1 L'.length s.2 ∧ (D9 base s.1 s.2 C kC L' gs pp).φ w' ∧ (∀ b ∈ (D9 base s.1 s.2 C kC L' gs pp).fp, b < w'.heap.size ∧ (b ∈ (D9 base A kA C kC L gs pp).fp ∨ w.heap.size ≤ b)) := by
 obtain ⟨A', k', rfl⟩ := Bf hown
 have hd' := IQ base A kA C kC L gs pp w w' (fun b hm => hb.block b (Lt hd b hm)) hd
 refine ⟨(A', k'), rfl, ⟨CY hown hbase, hd'.2⟩, fun b hm => ?_⟩
 rcases List.mem_append.1 hm with hm | hm
 ·exact ⟨(BS hown b hm).2, .inr (BS hown b hm).1⟩
 ·have h := Lt hd' b (List.mem_append.2 (.inr hm))
  exact ⟨h, .inl (List.mem_append.2 (.inr hm))⟩
theorem X0 {w w' : World} {v : Value} {g a b : Nat} (hd : (D9 base A kA C kC L gs pp).φ w) (hbase : base ≤ w.heap.size) (hown : w'.ownsRow w.heap.size 103 1 v (gs ++ [g]).length ((gs ++ [g]).flatMap slL)) (hg : Blk w' g 5 #[.int .u8 (a : Int), .int .u8 (b : Int)]) (hgs : w.heap.size ≤ g) (hb : Below w.heap.size w w') :
  ∃ s : Option Addr × Nat, v = .slice s.1 (gs ++ [g]).length s.2 ∧ (D9 base A kA s.1 s.2 L (gs ++ [g]) (pp ++ [(a, b)])).φ w' ∧ (∀ x ∈ (D9 base A kA s.1 s.2 L (gs ++ [g]) (pp ++ [(a, b)])).fp, x < w'.heap.size ∧ (x ∈ (D9 base A kA C kC L gs pp).fp ∨ w.heap.size ≤ x)) := by
 obtain ⟨A', k', rfl⟩ := Bf hown
 have hd' := IQ base A kA C kC L gs pp w w' (fun b hm => hb.block b (Lt hd b hm)) hd
 refine ⟨(A', k'), rfl, ⟨hd'.1, CY hown hbase, hd'.2.2.snoc hg⟩, fun x hm => ?_⟩
 rcases List.mem_append.1 hm with hm | hm
 ·exact ⟨Lt hd' x (List.mem_append.2 (.inl hm)), .inl (List.mem_append.2 (.inl hm))⟩
 rcases List.mem_append.1 hm with hm | hm
 ·exact ⟨(BS hown x hm).2, .inr (BS hown x hm).1⟩
 rcases List.mem_append.1 hm with hm | hm
 ·exact ⟨Lt hd' x (List.mem_append.2 (.inr (List.mem_append.2 (.inr hm)))), .inl (List.mem_append.2 (.inr (List.mem_append.2 (.inr hm))))⟩
 ·obtain rfl := List.mem_singleton.1 hm
  exact ⟨Blk.lt hg, .inr hgs⟩
theorem Hp.docHeal {w : World} (H : Hp w0 Lf w) (hL : nth Lf i = some (D9 base A kA C kC L gs pp)) (hfr : ∀ g ∈ (D9 base A kA C kC L gs pp).fp, w0.heap.size ≤ g) : Hp w0 (putF Lf i (D9 base A kA none 0 L [] [])) w := by
 have hd : (D9 base A kA C kC L gs pp).φ w := H.get hL
 refine H.chg hL _ (Outs.refl _ _) (IQ _ _ _ _ _ _ _ _) (fun b hm => ?_) (zj hfr) ⟨hd.1, World.ownsRow_nil _ _ _ _, InnerAt.nil w⟩
 have hm2 : b ∈ (Value.slice A L.length kA).ownBlock.toList := by
  rcases List.mem_append.1 hm with hm | hm
  ·exact hm
  ·simp [Value.ownBlock] at hm
 exact ⟨(BS hd.1 b hm2).2, .inl (List.mem_append.2 (.inl hm2))⟩
theorem I5 {w : World} (hd : (D9 base A kA C kC L gs pp).φ w) : Rows w A 20 rlL L ∧ L.length ≤ kA ∧ Rows w C 1 slL gs ∧ InnerAt w gs pp := ⟨(V6 hd.1).1, (V6 hd.1).2, WV hd.2.1, hd.2.2⟩
theorem Qs : ∀ g ∈ (D9 base A kA none 0 L [] []).fp, g ∈ (D9 base A kA C kC L gs pp).fp := fun g hg => by
 rcases List.mem_append.1 hg with hg | hg
 ·exact List.mem_append.2 (.inl hg)
 ·simp [Value.ownBlock] at hg
end
theorem J1 {base g gm : Nat} {V : Value} {bag : List Pa} {M : Df} {w w' : World} (hn : (E7 base g gm V bag M).φ w) (hb : Below w.heap.size w w') : (E7 base g gm V bag M).φ w' := GP base g gm V bag M w w' (fun b hm => hb.block b (OY hn b hm)) hn
theorem WW {w : World} {base e sz n : Nat} {v : Value} {xs : List Value} (h : w.ownsRow base e sz v n xs) : n ≤ 9223372036854775807 := by
 rcases h.2 with ⟨_, h0⟩ | ⟨g, cap, cur, ev, hb, hh, h1, h2, _⟩
 ·omega
 ·unfold maxLen at h2
  omega
theorem UF (pp : List (Nat × Nat)) (a b : Nat) : GI pp b a = GI pp a b := by
 unfold GI
 congr 1
 funext p
 rw [Bool.or_comm]
theorem Q2 {w0 : World} {L : List Ft} {base g gm : Nat} {V : Value} {bag : List Pa} {M : Df} (hn : ∀ w, Hp w0 L w → (E7 base g gm V bag M).φ w) (hb512 : bag.length ≤ 512) :
  ∀ w, Hp w0 L w → Calls Tryz.prog 32 #[.pointer (some ⟨g, 0, none⟩)] w fun E w' => ∃ s : Value × List (Nat × Nat), E = .returned s.1 ∧ (OwnIn w0 [] s.1 ∧ PairsOf bag s.2) ∧ Hp w0 (BU [] w0.heap.size 57 2 s.1 s.2.length (s.2.flatMap prL) :: L) w' := fun w H =>
 (Ug base g gm V bag M w (hn w H) hb512).mono fun E w' ⟨v, Q, he, hQ, hown, hb⟩ =>
  ⟨(v, Q), he, ⟨fun b hb => .inr (Nat.le_trans H.os.size (BS hown b hb).1), hQ⟩, H.add hb _ (BF _ _ _ _ _ _ _) (fun b hb => ⟨(BS hown b (by simpa [BU] using hb)).2, (BS hown b (by simpa [BU] using hb)).1⟩) (CY hown H.os.size)⟩
end Go.Proofs.YteiaiilfekojfaaGreat.Net
end
section
set_option linter.unusedVariables false
set_option linter.unusedSimpArgs false
namespace Go.Proofs.YteiaiilfekojfaaGreat.Net
open Go.RowKit Sx Wire DrawInv
open Msg
set_option maxRecDepth 100000 in
set_option maxHeartbeats 4000000 in
theorem QT (base g gm : Nat) (Ab : Option Addr) (cb : Nat) (M : Df) (L : List Rl) (gs : List Nat) (pp : List (Nat × Nat)) (A C : Option Addr) (kA kC : Nat) (a b : Nat)  (w : World) (hn : (E7 base g gm (.slice Ab (CO L).length cb) (CO L) M).φ w) (hN : NR (CO L) M L pp) (hL : Rows w A 20 rlL L) (hcap : L.length ≤ kA) (hC : Rows w C 1 slL gs) (hI : InnerAt w gs pp) (hg5 : gs.length ≤ 100000) : Calls Tryz.prog 41 #[.pointer (some ⟨g, 0, none⟩), .agg #[.slice A L.length kA, .slice C gs.length kC], .int .u8 (a : Int), .int .u8 (b : Int)] w fun e w' => e = .returned (.bool true) ∧ Below w.heap.size w w' := by
 obtain ⟨cb1, hcb1⟩ : ∃ x, GI pp a b = x := ⟨_, rfl⟩
 refine A0 (n := 91) _ Tryz.func41 rfl rfl rfl (Hp.start w) (Ae (Ac ?_))
 refine zB rfl fun g1 hg1 => ?_
 refine za rfl (Ad (Aa (Ae (Ae (BN [] [0] (by kernel_rfl) rfl ⟨(zh hg1), trivial⟩ (ym 0 rfl (by kernel_rfl) zI (yf 2 0 Ba rfl (by kernel_rfl) zI (yl 3 0 Tryz.underlying75 rfl (by kernel_rfl) zI (yt (i := 4) (v := .int .i64 (L.length : Int)) (by kernel_rfl) zI rfl rfl rfl rfl (fun ρ w E H => Hr E rfl Tryz.underlying75 rfl) ?_)))))))))
 refine yr 1 (by kernel_rfl) (BO (v := .int .i64 (L.length : Int)) rfl trivial rfl rfl (zk Fq rfl) (fun w H => (OZ _ _ _ _ (CO L) _ w (J1 hn (H.toBelow ⟨(zq hg1), trivial⟩))).mono fun _ _ h => ⟨by rw [h.1, Gy], h.2⟩) (fun w H => H.ks [] [0] rfl ⟨(zh hg1), trivial⟩) (yt (i := 5) (v := .bool false) (by kernel_rfl) zI rfl rfl rfl rfl (fun ρ w E H => E9 E rfl rfl rfl rfl (by simp [AB])) (ym 6 rfl (by kernel_rfl) zI (ym 7 rfl (by kernel_rfl) zI (ym 8 rfl (by kernel_rfl) zI (ym 9 rfl (by kernel_rfl) zI (yw 11 0 Tryz.underlying78 Af rfl (by kernel_rfl) zI (ym 12 rfl (by kernel_rfl) zI (ym 13 rfl (by kernel_rfl) zI ?_)))))))))
 refine yr 10 (by kernel_rfl) (BO (v := .int .i64 ((Fa (CO L) a b (CO L).length).length : Int)) rfl (gK rfl) rfl rfl (zk Gi rfl) (fun w H => O2 _ _ _ Ab cb (CO L) M a b w (J1 hn (H.toBelow ⟨(zq hg1), trivial⟩)) (by rw [Gy]; exact hN.le)) (fun w H => H.ks [] [0] rfl ⟨(zh hg1), trivial⟩) (yr 14 (by kernel_rfl) (BO (v := .int .i64 ((Fa (CO L) a b (CO L).length).length : Int)) rfl (gK rfl) rfl rfl (zk EJ rfl) (fun w H => Nq L gs pp A C kA kC a b w (hL.below (H.toBelow ⟨(zq hg1), trivial⟩)) hcap hN.le) (fun w H => H.ks [] [0] rfl ⟨(zh hg1), trivial⟩) (yt (i := 15) (v := .bool false) (by kernel_rfl) zI rfl rfl rfl rfl (fun ρ w E H => E9 E rfl rfl rfl rfl (by simp [AB])) (yp 16 rfl (by kernel_rfl) zI (ym 17 rfl (by kernel_rfl) zI (ym 18 rfl (by kernel_rfl) zI (ym 19 rfl (by kernel_rfl) zI (ym 20 rfl (by kernel_rfl) zI ?_)))))))))
 refine yw 22 0 Tryz.underlying78 Af rfl (by kernel_rfl) zI (ym 23 rfl (by kernel_rfl) zI (ym 24 rfl (by kernel_rfl) zI (yr 21 (by kernel_rfl) (BO (v := .bool cb1) rfl (gK rfl) rfl rfl (zk Ee rfl) (fun w H => (JW _ _ _ _ (CO L) M a b w (J1 hn (H.toBelow ⟨(zq hg1), trivial⟩)) hN.mt).mono fun _ _ h => ⟨by rw [h.1, hN.cut, hcb1], h.2⟩) (fun w H => H.ks [] [0] rfl ⟨(zh hg1), trivial⟩) (yr 25 (by kernel_rfl) (BO (v := .bool cb1) rfl (gK rfl) rfl rfl (zk Ce rfl) (fun w H => (G9 L gs pp A C kA kC a b w (hC.below (H.toBelow ⟨(zq hg1), trivial⟩)) (hI.below (H.toBelow ⟨(zq hg1), trivial⟩)) hg5).mono fun _ _ h => ⟨by rw [h.1, hcb1], h.2⟩) (fun w H => H.ks [] [0] rfl ⟨(zh hg1), trivial⟩) (yt (i := 26) (v := .bool false) (by kernel_rfl) zI rfl rfl rfl rfl (fun ρ w E H => Jg E rfl Tryz.underlying4 rfl rfl (by simp)) (yp 27 rfl (by kernel_rfl) zI (ym 28 rfl (by kernel_rfl) zI ?_)))))))))
 refine ym 29 rfl (by kernel_rfl) zI (ym 30 rfl (by kernel_rfl) zI (ym 31 rfl (by kernel_rfl) zI (yw 33 0 Tryz.underlying78 Af rfl (by kernel_rfl) zI (ym 34 rfl (by kernel_rfl) zI (ym 35 rfl (by kernel_rfl) zI (yr 32 (by kernel_rfl) (BO (v := .bool cb1) rfl (gK rfl) rfl rfl (zk Ee rfl) (fun w H => (JW _ _ _ _ (CO L) M b a w (J1 hn (H.toBelow ⟨(zq hg1), trivial⟩)) hN.mt).mono fun _ _ h => ⟨by rw [h.1, hN.cut, UF, hcb1], h.2⟩) (fun w H => H.ks [] [0] rfl ⟨(zh hg1), trivial⟩) (yr 36 (by kernel_rfl) (BO (v := .bool cb1) rfl (gK rfl) rfl rfl (zk Ce rfl) (fun w H => (G9 L gs pp A C kA kC a b w (hC.below (H.toBelow ⟨(zq hg1), trivial⟩)) (hI.below (H.toBelow ⟨(zq hg1), trivial⟩)) hg5).mono fun _ _ h => ⟨by rw [h.1, hcb1], h.2⟩) (fun w H => H.ks [] [0] rfl ⟨(zh hg1), trivial⟩) ?_)))))))))
 refine yt (i := 37) (v := .bool false) (by kernel_rfl) zI rfl rfl rfl rfl (fun ρ w E H => Jg E rfl Tryz.underlying4 rfl rfl (by simp)) (yp 38 rfl (by kernel_rfl) zI (BE (by kernel_rfl) (Aa (Ah rfl (Ax (Aa (Ae (Ac (zm rfl ?_)))))))))
 refine AP (σ := Value × List (Nat × Nat)) (fun s => s.1) (fun s => OwnIn w [] s.1 ∧ PairsOf (CO L) s.2) (fun s => _) trivial rfl rfl (zk I4 rfl) (Q2 (fun W H => J1 hn (H.toBelow ⟨(zq hg1), trivial⟩)) (by rw [Gy]; exact hN.le)) fun s hs => ?_
 obtain ⟨vQ, Q⟩ := s
 dsimp only at hs
 obtain ⟨hvQ, hPQ⟩ := hs
 refine CZ (p := ∃ A c, vQ = .slice A Q.length c) (fun W H => Bf (H.get (i := 0) rfl)) ?_
 rintro ⟨AQ, cQ, rfl⟩
 refine CZ (p := Q.length ≤ 9223372036854775807) (fun W H => WW (H.get (i := 0) rfl)) fun hQ63 => ?_
 obtain ⟨hQ1, hQ2, hQm⟩ := hN.pairs hPQ
 refine za rfl (Ad (Aa (Ae (Ac (za rfl (Ad (Aa (Ae (Ae ?_)))))))))
 refine Ac (za rfl (Ad (Aa (AG ?_))))
 refine Ec (fun (x : Nat) (k : Nat) => [(0, .pointer (some ⟨g, 0, none⟩)), (2, .int .u8 (a : Int)), (3, .int .u8 (b : Int)), (5, .pointer (some ⟨g1, 0, none⟩)), (9, .slice AQ Q.length cQ), (10, .int .i64 (k : Int)), (11, .int .i64 (x : Int))]) (fun (x : Nat) (k : Nat) => [BU [] w.heap.size 57 2 (.slice AQ Q.length cQ) Q.length (Q.flatMap prL), cell g1 78 [.slice A L.length kA, .slice C gs.length kC]]) (fun (gk : Nat) (x : Nat) (k : Nat) => gk = 20 - x ∧ x ≤ 20 ∧ SI Q k x 0) 20 0 0 ⟨rfl, by omega, SI.start Q⟩ ⟨rfl, rfl, rfl, rfl, rfl, rfl, rfl, trivial⟩ [0, 1] rfl (by decide) ⟨.inl rfl, .inl rfl, trivial⟩ fun gk x k hF => ?_
 obtain ⟨hgk, hx2, hS⟩ := hF
 subst hgk
 refine Ae (Ae (Ac (zm rfl ?_)))
 refine zb rfl fun c55 hc55 => ?_
 refine Ad (Aa ?_)
 cases c55
 ·refine Ah rfl (Cd (AW (AW (BH (Aa (Ae (Ac (zm rfl (zm rfl ?_)))))))))
  refine zL Tryz.underlying51 rfl (zc true rfl (by obtain rfl : x = 20 := (by have h := hc55; simp [AB] at h; omega); have h := hS.all hQ1; rw [h]; simp [AB]) (za rfl (Ad (Aa (Am ?_)))))
  refine Ai (.bool true) (fun a w K H => BC K rfl rfl) (fun w H => ?_)
  exact ⟨rfl, H.toBelow ⟨hvQ.fresh, (zq hg1), trivial⟩⟩
 ·refine Ap rfl (Ax (Aa (Ae (AG (Ae ?_)))))
  have hx20 : x < 20 := by have h := hc55; simp [AB] at h; omega
  refine Ac (za rfl (Ad (Aa (AG ?_))))
  refine Ec (fun (y : Nat) (m : Nat) => [(0, .pointer (some ⟨g, 0, none⟩)), (2, .int .u8 (a : Int)), (3, .int .u8 (b : Int)), (5, .pointer (some ⟨g1, 0, none⟩)), (9, .slice AQ Q.length cQ), (10, .int .i64 (m : Int)), (11, .int .i64 (x : Int)), (12, .int .i64 (y : Int))]) (fun (y : Nat) (m : Nat) => [BU [] w.heap.size 57 2 (.slice AQ Q.length cQ) Q.length (Q.flatMap prL), cell g1 78 [.slice A L.length kA, .slice C gs.length kC]]) (fun (gk : Nat) (y : Nat) (m : Nat) => gk = 20 - y ∧ y ≤ 20 ∧ SI Q m x y) 20 0 k ⟨rfl, by omega, hS⟩ ⟨rfl, rfl, rfl, rfl, rfl, rfl, rfl, rfl, trivial⟩ [0, 1] rfl (by decide) ⟨.inl rfl, .inl rfl, trivial⟩ fun gk y m hF => ?_
  obtain ⟨hgk, hy2, hS2⟩ := hF
  subst hgk
  refine Ae (Ae (Ac (zm rfl ?_)))
  refine zb rfl fun c59 hc59 => ?_
  refine Ad (Aa ?_)
  cases c59
  ·refine Ah rfl (Cd (AW (AW (BH (AA (Aa (Ac (zm rfl (Ag (v := .int .i64 ((x + 1 : Nat) : Int)) trivial rfl rfl (fun ρ w E H => BQ E rfl rfl rfl (by rw [IntKind.wrap_i64]; omega)) ?_)))))))))
   refine za rfl (Ad ?_)
   refine B7 (20 - (x + 1)) (x + 1, m) (by omega) ⟨rfl, show x + 1 ≤ 20 by omega, by obtain rfl : y = 20 := (by have h := hc59; simp [AB] at h; omega); exact hS2.wrap hQ2⟩ ⟨rfl, rfl, rfl, rfl, rfl, rfl, rfl, trivial⟩ [0, 1] rfl (by decide) ⟨.inl rfl, .inl rfl, trivial⟩
  ·refine Ap rfl (Ax (Aa (Ae (AG (Ae (Ae ?_))))))
   have hy20 : y < 20 := by have h := hc59; simp [AB] at h; omega
   rcases hfo : Dq (CO L) x y 0 with _ | fi
   ·refine Ac (zw 1 Tryz.underlying78 Af rfl (zm rfl (Ag (v := .int .u8 (x : Int)) trivial rfl rfl (fun ρ w E H => DN E rfl Tryz.underlying3 Tryz.underlying5 rfl (by rw [IntKind.wrap_u8]; omega)) (zm rfl (Ag (v := .int .u8 (y : Int)) trivial rfl rfl (fun ρ w E H => DN E rfl Tryz.underlying3 Tryz.underlying5 rfl (by rw [IntKind.wrap_u8]; omega)) (Ao (v := .int .i64 (-1)) trivial rfl rfl (zk Br rfl) (fun w H => HI L gs A C kA kC x y 0 w (hL.below (H.toBelow ⟨hvQ.fresh, (zq hg1), trivial⟩)) hcap hN.le hfo) (zc true rfl (by decide) (Ad (Aa ?_)))))))))
    refine Ap rfl (Cd (AW (BH (Aa (Ac (zm rfl (Ag (v := .int .i64 ((y + 1 : Nat) : Int)) trivial rfl rfl (fun ρ w E H => BQ E rfl rfl rfl (by rw [IntKind.wrap_i64]; omega)) (za rfl (Ad ?_)))))))))
    refine B7 (20 - (y + 1)) (y + 1, m) (by omega) ⟨rfl, show y + 1 ≤ 20 by omega, hS2.miss (fun h => (hQm x y).1 h hfo)⟩ ⟨rfl, rfl, rfl, rfl, rfl, rfl, rfl, rfl, trivial⟩ [0, 1] rfl (by decide) ⟨.inl rfl, .inl rfl, trivial⟩
   ·have hht := hS2.hit hPQ.lt ((hQm x y).2 (by rw [hfo]; exact fun h => by cases h))
    have hmq := hht.1
    have hqx := hht.2.1
    refine G6 (fun W H => PK (H.get (i := 0) rfl) (by omega)) ?_
    rintro ⟨gq, rfl⟩
    refine Ac (zw 1 Tryz.underlying78 Af rfl (zm rfl (Ag (v := .int .u8 (x : Int)) trivial rfl rfl (fun ρ w E H => DN E rfl Tryz.underlying3 Tryz.underlying5 rfl (by rw [IntKind.wrap_u8]; omega)) (zm rfl (Ag (v := .int .u8 (y : Int)) trivial rfl rfl (fun ρ w E H => DN E rfl Tryz.underlying3 Tryz.underlying5 rfl (by rw [IntKind.wrap_u8]; omega)) (Ao (v := .int .i64 (fi : Int)) trivial rfl rfl (zk Br rfl) (fun w H => GE L gs A C kA kC x y 0 w (hL.below (H.toBelow ⟨hvQ.fresh, (zq hg1), trivial⟩)) hcap hN.le hfo) (zc false rfl (by simp [AB]) (Ad (Aa ?_)))))))))
    refine Ah rfl (Ax (Aa (Ae (Ae (Ac (zm rfl (zm rfl (zL Tryz.underlying51 rfl (zc false rfl (by simp [AB]; omega) ?_)))))))))
    refine zm rfl (zm rfl (zm rfl (Ag (v := .pointer (some ((⟨gq, 0, none⟩ : Addr).add (m * 2)))) (gK rfl) rfl rfl (fun ρ w E H => BA (i := m) E rfl Tryz.underlying51 Bj rfl rfl hmq) (Ag (v := .agg #[.int .u8 (x : Int), .int .u8 (y : Int)]) (gK rfl) rfl rfl (fun ρ w E H => C7 (cs := [.int .u8 (x : Int), .int .u8 (y : Int)]) E ((EY Fo (by decide) (H.get (i := 0) rfl)).rowA hqx) rfl rfl Tryz.underlying57 rfl Bj) (zm rfl (Ag (v := .int .u8 (x : Int)) (gK rfl) rfl rfl (fun ρ w E H => DN E rfl Tryz.underlying3 Tryz.underlying5 rfl (by rw [IntKind.wrap_u8]; omega)) (zm rfl (Ag (v := .int .u8 (y : Int)) (gK rfl) rfl rfl (fun ρ w E H => DN E rfl Tryz.underlying3 Tryz.underlying5 rfl (by rw [IntKind.wrap_u8]; omega)) (Ag (gK rfl) rfl rfl (fun ρ w E H => Bh (cs := [.int .u8 (x : Int), .int .u8 (y : Int)]) E rfl rfl (by kernel_rfl)) ?_)))))))))
    refine Ag (v := .bool false) (gK rfl) rfl rfl (fun ρ w E H => FV E rfl (by kernel_rfl) rfl rfl (fun w => by rw [Bool.not_false, Iw]; simp)) (zp rfl (Ad (Aa (Ah rfl (Ax (Aa (Ac (zm rfl (Ag (v := .int .i64 ((m + 1 : Nat) : Int)) trivial rfl rfl (fun ρ w E H => BQ E rfl rfl rfl (by rw [IntKind.wrap_i64]; omega)) ?_)))))))))
    refine za rfl (Ad (AA (Aa (Ac (zm rfl (Ag (v := .int .i64 ((y + 1 : Nat) : Int)) trivial rfl rfl (fun ρ w E H => BQ E rfl rfl rfl (by rw [IntKind.wrap_i64]; omega)) (za rfl (Ad ?_))))))))
    refine B7 (20 - (y + 1)) (y + 1, m + 1) (by omega) ⟨rfl, show y + 1 ≤ 20 by omega, hht.2.2⟩ ⟨rfl, rfl, rfl, rfl, rfl, rfl, rfl, rfl, trivial⟩ [0, 1] rfl (by decide) ⟨.inl rfl, .inl rfl, trivial⟩

theorem QU (base g gm : Nat) (V : Value) (bag : List Pa) (M : Df) (L : List Rl) (gs : List Nat) (pp : List (Nat × Nat)) (A C : Option Addr) (kA kC : Nat) (a b : Nat) (w : World) (hn : (E7 base g gm V bag M).φ w) (hN : NR bag M L pp) (hL : Rows w A 20 rlL L) (hcap : L.length ≤ kA) (hC : Rows w C 1 slL gs) (hI : InnerAt w gs pp) (hg5 : gs.length ≤ 100000) : Calls Tryz.prog 41 #[.pointer (some ⟨g, 0, none⟩), .agg #[.slice A L.length kA, .slice C gs.length kC], .int .u8 (a : Int), .int .u8 (b : Int)] w fun e w' => e = .returned (.bool true) ∧ Below w.heap.size w w' := by
 obtain rfl := hN.bag
 obtain ⟨Ab, cb, rfl⟩ := Bf hn.2.1
 exact QT base g gm Ab cb M L gs pp A C kA kC a b w hn hN hL hcap hC hI hg5
end Go.Proofs.YteiaiilfekojfaaGreat.Net
end
section
set_option linter.unusedVariables false
set_option linter.unusedSimpArgs false
namespace Go.Proofs.YteiaiilfekojfaaGreat.Net
open Go.RowKit Sx Wire DrawInv
open Msg
section
variable {w0 : World} {Lf : List Ft} {i : Nat} {A : Option Addr} {kA : Nat} {C : Option Addr} {kC : Nat} {L : List Rl} {gs : List Nat} {pp : List (Nat × Nat)}
theorem Lu {P : Program} {fn : Nat} {args : Array Value} (hL : nth Lf i = some (D9 w0.heap.size A kA C kC L gs pp)) (hfr : ∀ g ∈ (D9 w0.heap.size A kA C kC L gs pp).fp, w0.heap.size ≤ g) {L' : List Rl} (v : Value → Value)
  (hc : ∀ w, Hp w0 Lf w → Rows w A 20 rlL L → L.length ≤ kA → Rows w C 1 slL gs → InnerAt w gs pp → Calls P fn args w fun e w' => ∃ u, e = .returned (v u) ∧ w'.ownsRow w.heap.size 59 20 u L'.length (L'.flatMap rlL) ∧ Below w.heap.size w w') :
  ∀ w, Hp w0 Lf w → Calls P fn args w fun E w' => ∃ s : Option Addr × Nat, E = .returned (v (.slice s.1 L'.length s.2)) ∧ (∀ b ∈ (D9 w0.heap.size s.1 s.2 C kC L' gs pp).fp, w0.heap.size ≤ b) ∧ Hp w0 (putF Lf i (D9 w0.heap.size s.1 s.2 C kC L' gs pp)) w' :=
 Ti (σ := Option Addr × Nat) (fun s => v (.slice s.1 L'.length s.2)) (fun s => D9 w0.heap.size s.1 s.2 C kC L' gs pp) hL hfr (fun s => IQ _ _ _ _ _ _ _ _) fun w H => by
  have hd : (D9 w0.heap.size A kA C kC L gs pp).φ w := H.get hL
  obtain ⟨r1, r2, r3, r4⟩ := I5 hd
  refine (hc w H r1 r2 r3 r4).mono ?_
  rintro e w' ⟨u, he, hown, hb⟩
  obtain ⟨s, rfl, h1, h2⟩ := Xz hd H.os.size hown hb
  exact ⟨s, he, h1, h2, hb⟩
theorem RR (hL : nth Lf i = some (D9 w0.heap.size A kA C kC L gs pp)) (hfr : ∀ g ∈ (D9 w0.heap.size A kA C kC L gs pp).fp, w0.heap.size ≤ g) {f t j : Nat} {k : Int} {x : Rl} (hap : BJ f t = true) (hcu : GI pp f t = false) (hg5 : gs.length ≤ 100000) (hl5 : L.length ≤ 512) (hfo : Dq (CO L) f t k = some j) (hx : L[j]? = some x) :
  ∀ w, Hp w0 Lf w → Calls Tryz.prog 34 #[.agg #[.slice A L.length kA, .slice C gs.length kC], .int .i64 0, .int .u8 (f : Int), .int .u8 (t : Int), .int .i64 k] w fun E w' => ∃ s : Option Addr × Nat, E = .returned (.tuple #[.agg #[.slice s.1 (L.eraseIdx j).length s.2, .slice C gs.length kC], .agg (rlL x).toArray, .int .i64 0]) ∧ (∀ b ∈ (D9 w0.heap.size s.1 s.2 C kC (L.eraseIdx j) gs pp).fp, w0.heap.size ≤ b) ∧ Hp w0 (putF Lf i (D9 w0.heap.size s.1 s.2 C kC (L.eraseIdx j) gs pp)) w' := by
 have hil := (List.getElem?_eq_some_iff.1 hx).1
 obtain ⟨xs, xd, ⟨mk, mn, mr, mb, ms, mo, mv, vl, il, ⟨ca, cb, ck, cs, ct, cu, cz⟩, mc, mt⟩, xA, xka, xB, xkb⟩ := x
 exact Lu hL hfr (fun u => .tuple #[.agg #[u, .slice C gs.length kC], .agg (rlL _).toArray, .int .i64 0]) fun w H r1 r2 r3 r4 => UC L gs pp A C kA kC f t k j xs xd xka xkb xA xB _ _ _ _ _ _ _ _ _ _ _ _ _ _ _ _ _ _ w hap hcu r3 r4 hg5 r1 r2 hl5 hfo hil hx
theorem RU (hL : nth Lf i = some (D9 w0.heap.size A kA C kC L gs pp)) (hfr : ∀ g ∈ (D9 w0.heap.size A kA C kC L gs pp).fp, w0.heap.size ≤ g) {f t j : Nat} {k : Int} {x : Rl} (hap : BJ f t = true) (hl5 : L.length ≤ 512) (hfo : Dq (CO L) f t k = some j) (hx : L[j]? = some x) (Z : Value) (hZ : Z = .agg #[.int .u8 0, .int .u8 0, .int .u8 0, .int .u64 0, .int .u8 0, .int .u64 0, .int .u64 0, .int .u8 0, .string ⟨[].toArray⟩, .slice none 0 0, .slice none 0 0, .int .u8 0, .int .u32 0, .int .u8 0, .string ⟨[].toArray⟩, .string ⟨[].toArray⟩, .string ⟨[].toArray⟩, .int .u8 0, .int .u8 0, .string ⟨[].toArray⟩]) :
  ∀ w, Hp w0 Lf w → Calls Tryz.prog 34 #[.agg #[.slice A L.length kA, .slice C gs.length kC], .int .i64 1, .int .u8 (f : Int), .int .u8 (t : Int), .int .i64 k] w fun E w' => ∃ s : Option Addr × Nat, E = .returned (.tuple #[.agg #[.slice s.1 (L.eraseIdx j).length s.2, .slice C gs.length kC], Z, .int .i64 0]) ∧ (∀ b ∈ (D9 w0.heap.size s.1 s.2 C kC (L.eraseIdx j) gs pp).fp, w0.heap.size ≤ b) ∧ Hp w0 (putF Lf i (D9 w0.heap.size s.1 s.2 C kC (L.eraseIdx j) gs pp)) w' := by
 subst hZ
 exact Lu hL hfr (fun u => .tuple #[.agg #[u, .slice C gs.length kC], _, .int .i64 0]) fun w H r1 r2 r3 r4 => Wl L gs pp A C kA kC f t k j w hap r1 r2 hl5 hfo (List.getElem?_eq_some_iff.1 hx).1
theorem Pq (hL : nth Lf i = some (D9 w0.heap.size A kA C kC L gs pp)) (hfr : ∀ g ∈ (D9 w0.heap.size A kA C kC L gs pp).fp, w0.heap.size ≤ g) {f t j : Nat} {k : Int} {x : Rl} (hap : BJ f t = true) (hl5 : L.length < 512) (hfo : Dq (CO L) f t k = some j) (hx : L[j]? = some x) (Z : Value) (hZ : Z = .agg #[.int .u8 0, .int .u8 0, .int .u8 0, .int .u64 0, .int .u8 0, .int .u64 0, .int .u64 0, .int .u8 0, .string ⟨[].toArray⟩, .slice none 0 0, .slice none 0 0, .int .u8 0, .int .u32 0, .int .u8 0, .string ⟨[].toArray⟩, .string ⟨[].toArray⟩, .string ⟨[].toArray⟩, .int .u8 0, .int .u8 0, .string ⟨[].toArray⟩]) :
  ∀ w, Hp w0 Lf w → Calls Tryz.prog 34 #[.agg #[.slice A L.length kA, .slice C gs.length kC], .int .i64 2, .int .u8 (f : Int), .int .u8 (t : Int), .int .i64 k] w fun E w' => ∃ s : Option Addr × Nat, E = .returned (.tuple #[.agg #[.slice s.1 (L ++ [x]).length s.2, .slice C gs.length kC], Z, .int .i64 0]) ∧ (∀ b ∈ (D9 w0.heap.size s.1 s.2 C kC (L ++ [x]) gs pp).fp, w0.heap.size ≤ b) ∧ Hp w0 (putF Lf i (D9 w0.heap.size s.1 s.2 C kC (L ++ [x]) gs pp)) w' := by
 subst hZ
 have hil := (List.getElem?_eq_some_iff.1 hx).1
 obtain ⟨xs, xd, ⟨mk, mn, mr, mb, ms, mo, mv, vl, il, ⟨ca, cb, ck, cs, ct, cu, cz⟩, mc, mt⟩, xA, xka, xB, xkb⟩ := x
 exact Lu hL hfr (fun u => .tuple #[.agg #[u, .slice C gs.length kC], _, .int .i64 0]) fun w H r1 r2 r3 r4 => U8 L gs pp A C kA kC f t k j xs xd xka xkb xA xB _ _ _ _ _ _ _ _ _ _ _ _ _ _ _ _ _ _ w hap r1 r2 (Nat.le_of_lt hl5) hfo hil hx hl5
theorem RS (hL : nth Lf i = some (D9 w0.heap.size A kA C kC L gs pp)) (hfr : ∀ g ∈ (D9 w0.heap.size A kA C kC L gs pp).fp, w0.heap.size ≤ g) (x : Rl) (hap : BJ x.src x.dst = true) (hck : C9 x.m = true) (hf : x.m.Fits) (hli : x.m.Lim) (hr : ∀ w, Hp w0 Lf w → MsRows w x.m x.A x.B) (hin : (BP x.m).length ≤ 65536) (hl5 : L.length < 512) :
  ∀ w, Hp w0 Lf w → Calls Tryz.prog 36 #[.agg #[.slice A L.length kA, .slice C gs.length kC], .agg (rlL x).toArray] w fun E w' => ∃ s : Option Addr × Nat, E = .returned (.tuple #[.agg #[.slice s.1 (L ++ [x]).length s.2, .slice C gs.length kC], .int .i64 0]) ∧ (∀ b ∈ (D9 w0.heap.size s.1 s.2 C kC (L ++ [x]) gs pp).fp, w0.heap.size ≤ b) ∧ Hp w0 (putF Lf i (D9 w0.heap.size s.1 s.2 C kC (L ++ [x]) gs pp)) w' := by
 obtain ⟨xs, xd, ⟨mk, mn, mr, mb, ms, mo, mv, vl, il, ⟨ca, cb, ck, cs, ct, cu, cz⟩, mc, mt⟩, xA, xka, xB, xkb⟩ := x
 exact Lu hL hfr (fun u => .tuple #[.agg #[u, .slice C gs.length kC], .int .i64 0]) fun w H r1 r2 r3 r4 => TN L gs pp A C kA kC xs xd xka xkb xA xB _ _ _ _ _ _ _ _ _ _ _ _ _ _ _ _ _ _ w hap hck hf hli (hr w H) hin r1 r2 (Nat.le_of_lt hl5) hl5
theorem RV (hL : nth Lf i = some (D9 w0.heap.size A kA C kC L gs pp)) (hfr : ∀ g ∈ (D9 w0.heap.size A kA C kC L gs pp).fp, w0.heap.size ≤ g) {f t : Nat} (hap : BJ f t = true) (hg5 : gs.length ≤ 100000) :
  ∀ w, Hp w0 Lf w → Calls Tryz.prog 35 #[.agg #[.slice A L.length kA, .slice C gs.length kC], .int .u8 (f : Int), .int .u8 (t : Int)] w fun E w' => ∃ s : (Option Addr × Nat) × Nat, E = .returned (.tuple #[.agg #[.slice A L.length kA, .slice s.1.1 (gs ++ [s.2]).length s.1.2], .int .i64 0]) ∧ (∀ b ∈ (D9 w0.heap.size A kA s.1.1 s.1.2 L (gs ++ [s.2]) (pp ++ [(f, t)])).fp, w0.heap.size ≤ b) ∧ Hp w0 (putF Lf i (D9 w0.heap.size A kA s.1.1 s.1.2 L (gs ++ [s.2]) (pp ++ [(f, t)]))) w' :=
 Ti (σ := (Option Addr × Nat) × Nat) (fun s => .tuple #[.agg #[.slice A L.length kA, .slice s.1.1 (gs ++ [s.2]).length s.1.2], .int .i64 0]) (fun s => D9 w0.heap.size A kA s.1.1 s.1.2 L (gs ++ [s.2]) (pp ++ [(f, t)])) hL hfr (fun s => IQ _ _ _ _ _ _ _ _) fun w H => by
  have hd : (D9 w0.heap.size A kA C kC L gs pp).φ w := H.get hL
  obtain ⟨r1, r2, r3, r4⟩ := I5 hd
  refine (Vu L gs pp A C kA kC f t w hap r3 r4 hg5).mono ?_
  rintro e w' ⟨u, g, he, hown, hg, hgs, hb⟩
  obtain ⟨s, rfl, h1, h2⟩ := X0 hd H.os.size hown hg hgs hb
  exact ⟨(s, g), he, h1, h2, hb⟩
end
theorem RQ (base g gm : Nat) (V : Value) (bag : List Pa) (M : Df) (f t : Nat) (w : World) (hn : (E7 base g gm V bag M).φ w) (hb : bag.length ≤ 512) : Calls Tryz.prog 37 #[.pointer (some ⟨g, 0, none⟩), .int .u8 (f : Int), .int .u8 (t : Int)] w fun e w' => e = .returned (.int .i64 ((Fa bag f t bag.length).length : Int)) ∧ Below w.heap.size w w' := by
 obtain ⟨Ab, cb, rfl⟩ := Bf hn.2.1
 exact O2 base g gm Ab cb bag M f t w hn hb
end Go.Proofs.YteiaiilfekojfaaGreat.Net
end
