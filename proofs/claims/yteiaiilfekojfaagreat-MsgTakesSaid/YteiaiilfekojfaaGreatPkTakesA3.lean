/- Texts that the proof of MsgTakes leans on, put together (3 of 4). Conditions: each theorem states its own. -/
import Derived.Test.YteiaiilfekojfaaGreatPkTakesA2
section
set_option linter.unusedVariables false
set_option linter.unusedSimpArgs false
namespace Go.Proofs.YteiaiilfekojfaaGreat.Msg
open Go.RowKit Sx Wire DrawInv
theorem parts_list (k : Nat) (h : k < 14) : ([.string ⟨[].toArray⟩, .string ⟨[99].toArray⟩, .string ⟨[110, 114].toArray⟩, .string ⟨[110, 111].toArray⟩, .string ⟨[98, 115].toArray⟩, .string ⟨[98, 97, 117, 116].toArray⟩, .string ⟨[98].toArray⟩, .string ⟨[98, 115, 118].toArray⟩, .string ⟨[98, 115].toArray⟩, .string ⟨[105].toArray⟩, .string ⟨[117].toArray⟩, .string ⟨[98, 117].toArray⟩, .string ⟨[115, 118].toArray⟩, .string ⟨[97, 115, 118].toArray⟩] : List Value)[k]? = some (.string ⟨(chars k).toArray⟩) := by
  obtain ⟨k0, k1, k2, k3, k4, k5, k6, k7, k8, k9, k10, k11, k12, k13⟩ := chars_list
  have hk : k = 0 ∨ k = 1 ∨ k = 2 ∨ k = 3 ∨ k = 4 ∨ k = 5 ∨ k = 6 ∨ k = 7 ∨ k = 8 ∨ k = 9 ∨ k = 10 ∨ k = 11 ∨ k = 12 ∨ k = 13 := by omega
  rcases hk with rfl | rfl | rfl | rfl | rfl | rfl | rfl | rfl | rfl | rfl | rfl | rfl | rfl | rfl
  · rw [k0]; rfl
  · rw [k1]; rfl
  · rw [k2]; rfl
  · rw [k3]; rfl
  · rw [k4]; rfl
  · rw [k5]; rfl
  · rw [k6]; rfl
  · rw [k7]; rfl
  · rw [k8]; rfl
  · rw [k9]; rfl
  · rw [k10]; rfl
  · rw [k11]; rfl
  · rw [k12]; rfl
  · rw [k13]; rfl
theorem blk_at {w : World} {g t k : Nat} {cs : List Value} {v : Value} (h : Blk w g t cs.toArray) (hv : cs[k]? = some v) : RowAt w ((⟨g, 0, none⟩ : Addr).add (k * 1)) [v] := fun j u hu => by
  have hj : j = 0 := by have := (List.getElem?_eq_some_iff.1 hu).1; simp at this; omega
  subst hj
  obtain rfl : v = u := by simpa using hu
  rw [add_none, add_none, Nat.zero_add, Nat.mul_one, Nat.add_zero, h.cell k]
  simpa using hv
theorem chars_len (k : Nat) : (chars k).length ≤ 4 := by
  rcases Nat.lt_or_ge k 14 with h | h
  · obtain ⟨k0, k1, k2, k3, k4, k5, k6, k7, k8, k9, k10, k11, k12, k13⟩ := chars_list
    have hk : k = 0 ∨ k = 1 ∨ k = 2 ∨ k = 3 ∨ k = 4 ∨ k = 5 ∨ k = 6 ∨ k = 7 ∨ k = 8 ∨ k = 9 ∨ k = 10 ∨ k = 11 ∨ k = 12 ∨ k = 13 := by omega
    rcases hk with rfl | rfl | rfl | rfl | rfl | rfl | rfl | rfl | rfl | rfl | rfl | rfl | rfl | rfl <;> decide
  · rw [chars_far k h]; simp
theorem has_snoc (l : List UInt8) (b : UInt8) (c : Nat) : hasS (l ++ [b]) c = (hasS l c || decide (b.toNat = c)) := by simp [hasS]
theorem has_mem {l : List UInt8} {k c : Nat} {b : UInt8} (h : l[k]? = some b) (hc : b.toNat = c) : hasS l c = true := List.any_eq_true.2 ⟨b, List.mem_of_getElem? h, by simpa using hc⟩
theorem char_at {k i : Nat} {p : Pt} (h : (partsOf k)[i]? = some p) : (chars k)[i]? = some (UInt8.ofNat p.ch) := by unfold chars; rw [List.getElem?_map, h]; rfl

set_option maxRecDepth 100000 in
set_option maxHeartbeats 4000000 in
theorem rparts_any (k : Nat) (hk : k < 256)  (w : World) : Calls Tryz.prog 47 #[.int .u8 (k : Int)] w fun e w' => e = .returned (.string ⟨(chars k).toArray⟩) ∧ Below w.heap.size w w' := by
  refine sx_enter (n := 14) _ Tryz.func47 rfl rfl rfl (Hp.start w) ?_
  refine SxC.seq (SxC.region ?_)
  refine SxL.val trivial rfl rfl (fun ρ w E H => ex_assign E rfl rfl) ?_
  refine SxL.nil (SxN.then_ (SxC.seq (SxC.region ?_)))
  refine SxL.newS (cs := [.string ⟨[].toArray⟩, .string ⟨[99].toArray⟩, .string ⟨[110, 114].toArray⟩, .string ⟨[110, 111].toArray⟩, .string ⟨[98, 115].toArray⟩, .string ⟨[98, 97, 117, 116].toArray⟩, .string ⟨[98].toArray⟩, .string ⟨[98, 115, 118].toArray⟩, .string ⟨[98, 115].toArray⟩, .string ⟨[105].toArray⟩, .string ⟨[117].toArray⟩, .string ⟨[98, 117].toArray⟩, .string ⟨[115, 118].toArray⟩, .string ⟨[97, 115, 118].toArray⟩]) trivial rfl rfl (fun ρ w E H => ex_buildSlice E rfl rfl Tryz.underlying151 sz_string zr_string rfl rfl (by kernel_rfl)) fun g1 hg1 => ?_
  refine SxL.val trivial rfl rfl (fun ρ w E H => ex_assign E rfl rfl) ?_
  refine SxL.nil (SxN.then_ (SxC.seq (SxC.seq (SxC.region ?_))))
  refine SxL.val trivial rfl rfl (fun ρ w E H => ex_move E rfl rfl) ?_
  refine SxL.val (v := .int .i64 (k : Int)) trivial rfl rfl (fun ρ w E H => ex_convInt E rfl Tryz.underlying5 Tryz.underlying3 rfl (by rw [IntKind.wrap_i64]; omega)) ?_
  refine SxL.val trivial rfl rfl (fun ρ w E H => ex_move E rfl rfl) ?_
  refine SxL.val (v := .int .i64 14) trivial rfl rfl (fun ρ w E H => ex_lenS E rfl Tryz.underlying151 rfl) ?_
  refine SxL.valB trivial rfl rfl (fun ρ w E H => ex_cmp E rfl rfl rfl rfl rfl) fun c9 hc9 => ?_
  refine SxL.nil (SxN.then_ ?_)
  cases c9
  · refine SxC.condF rfl (SxC.skip (SxN.then_ (SxC.seq ?_)))
    have hk14 : k < 14 := by have h := hc9; simp [cmpB] at h; omega
    have hck := parts_list k hk14
    refine SxC.region ?_
    iterate 2 refine SxL.val trivial rfl rfl (fun ρ w E H => ex_move E rfl rfl) ?_
    refine SxL.val (v := .pointer (some ((⟨g1, 0, none⟩ : Addr).add (k * 1)))) trivial rfl rfl (fun ρ w E H => ex_index (i := k) E rfl Tryz.underlying151 sz_string rfl rfl hk14) ?_
    refine SxL.val (v := .string ⟨((chars k)).toArray⟩) trivial rfl rfl (fun ρ w E H => ex_loadX0 E (blk_at (H.get (i := 0) rfl) hck) rfl rfl rfl Tryz.underlying9 rfl) ?_
    refine SxL.val trivial rfl rfl (fun ρ w E H => ex_assign E rfl rfl) ?_
    refine SxL.nil (SxN.then_ (SxC.ret ?_))
    refine SxX.done (.string ⟨((chars k)).toArray⟩) (fun a w K H => res1 K rfl rfl) (fun w H => ?_)
    exact ⟨rfl, H.toBelow ⟨(fun g hg => by rw [List.mem_singleton.1 hg]; exact hg1), trivial⟩⟩
  · refine SxC.condT rfl (SxC.seq (SxC.region ?_))
    refine SxL.val trivial rfl rfl (fun ρ w E H => ex_assign E rfl rfl) ?_
    refine SxL.nil (SxN.then_ (SxC.ret (SxX.thenR ?_)))
    refine SxX.done (.string ⟨[].toArray⟩) (fun a w K H => res1 K rfl rfl) (fun w H => ?_)
    have hq : chars k = [] := chars_far k (by have h := hc9; simp [cmpB] at h; omega)
    exact ⟨by rw [hq], H.toBelow ⟨(fun g hg => by rw [List.mem_singleton.1 hg]; exact hg1), trivial⟩⟩

set_option maxRecDepth 100000 in
set_option maxHeartbeats 4000000 in
theorem rhas_any (k c : Nat) (hk : k < 256)  (w : World) : Calls Tryz.prog 48 #[.int .u8 (k : Int), .int .u8 (c : Int)] w fun e w' => e = .returned (.bool (hasS (chars k) c)) ∧ Below w.heap.size w w' := by
  refine sx_enter (n := 20) _ Tryz.func48 rfl rfl rfl (Hp.start w) ?_
  refine SxC.seq (SxC.region ?_)
  refine SxL.val trivial rfl rfl (fun ρ w E H => ex_assign E rfl rfl) ?_
  refine SxL.nil (SxN.then_ (SxC.seq (SxC.region ?_)))
  refine SxL.val trivial rfl rfl (fun ρ w E H => ex_move E rfl rfl) ?_
  refine SxL.callB (v := .string ⟨((chars k)).toArray⟩) trivial rfl rfl (fun ρ w E => ex_call E en_palaver_palaverref18_Parts rfl rfl) (fun w H => rparts_any k hk w) ?_
  refine SxL.val trivial rfl rfl (fun ρ w E H => ex_assign E rfl rfl) ?_
  refine SxL.nil (SxN.then_ (SxC.seq (SxC.seq (SxC.region ?_))))
  refine SxL.val trivial rfl rfl (fun ρ w E H => ex_assign E rfl rfl) ?_
  refine SxL.nil (SxN.then_ (SxC.block ?_))
  refine SxC.loop1 (fun (i : Nat) => [(1, .int .u8 (c : Int)), (5, .string ⟨((chars k)).toArray⟩), (6, .int .i64 (i : Int))]) (fun (i : Nat) => []) (fun (gk : Nat) (i : Nat) => i + gk = (chars k).length ∧ hasS ((chars k).take i) c = false) (chars k).length 0 ⟨by omega, rfl⟩ ⟨rfl, rfl, rfl, trivial⟩ [] rfl (by decide) trivial fun gk i hF => ?_
  obtain ⟨hkg, hrel⟩ := hF
  refine SxC.seq (SxC.seq (SxC.region ?_))
  iterate 2 refine SxL.val trivial rfl rfl (fun ρ w E H => ex_move E rfl rfl) ?_
  refine SxL.val (v := .int .i64 ((chars k).length : Int)) trivial rfl rfl (fun ρ w E H => ex_lenT E rfl Tryz.underlying9 rfl) ?_
  refine SxL.valB trivial rfl rfl (fun ρ w E H => ex_cmp E rfl rfl rfl rfl rfl) fun c12 hc12 => ?_
  refine SxL.nil (SxN.then_ ?_)
  cases c12
  · refine SxC.condF rfl (SxC.exit (SxX.thenE (SxX.thenE (SxX.blockE (SxN.then_ (SxC.seq (SxC.region ?_)))))))
    refine SxL.val trivial rfl rfl (fun ρ w E H => ex_assign E rfl rfl) ?_
    refine SxL.nil (SxN.then_ (SxC.ret ?_))
    refine SxX.done (.bool false) (fun a w K H => res1 K rfl rfl) (fun w H => ?_)
    have hq : hasS (chars k) c = false := by rw [List.take_of_length_le (by have h := hc12; simp [cmpB] at h; omega)] at hrel; exact hrel
    exact ⟨by rw [hq], H.toBelow trivial⟩
  · refine SxC.condT rfl (SxC.skip (SxN.then_ (SxC.seq (SxC.block (SxC.seq ?_)))))
    have hkl : i < (chars k).length := by have h := hc12; simp [cmpB] at h; omega
    obtain ⟨b, hb⟩ : ∃ b, (chars k)[i]? = some b := ⟨_, List.getElem?_eq_getElem hkl⟩
    refine SxC.region ?_
    iterate 2 refine SxL.val trivial rfl rfl (fun ρ w E H => ex_move E rfl rfl) ?_
    refine SxL.val (v := .int .u8 (b.toNat : Int)) trivial rfl rfl (fun ρ w E H => ex_indexT (n := i) (b := b) E rfl Tryz.underlying9 rfl rfl hb rfl) ?_
    refine SxL.val trivial rfl rfl (fun ρ w E H => ex_move E rfl rfl) ?_
    refine SxL.valB trivial rfl rfl (fun ρ w E H => ex_cmp E rfl rfl rfl rfl rfl) fun c19 hc19 => ?_
    refine SxL.nil (SxN.then_ ?_)
    cases c19
    · refine SxC.condF rfl (SxC.skip (SxN.block (SxN.then_ (SxC.region ?_))))
      refine SxL.val trivial rfl rfl (fun ρ w E H => ex_move E rfl rfl) ?_
      refine SxL.val (v := .int .i64 ((i + 1 : Nat) : Int)) trivial rfl rfl (fun ρ w E H => ex_add E rfl rfl rfl (by have h := chars_len k; rw [IntKind.wrap_i64]; omega)) ?_
      refine SxL.val trivial rfl rfl (fun ρ w E H => ex_assign E rfl rfl) ?_
      refine SxL.nil ?_
      refine SxN.back (gk - 1) (i + 1) (by omega) ⟨by omega, by rw [take_snoc hb, has_snoc, hrel]; have h := hc19; simp [cmpB] at h ⊢; omega⟩ ⟨rfl, rfl, rfl, trivial⟩ [] rfl (by decide) trivial
    · refine SxC.condT rfl (SxC.seq (SxC.region ?_))
      refine SxL.val trivial rfl rfl (fun ρ w E H => ex_assign E rfl rfl) ?_
      refine SxL.nil (SxN.then_ (SxC.ret (SxX.blockR (SxX.thenR (SxX.thenR (SxX.blockR (SxX.thenR ?_)))))))
      refine SxX.done (.bool true) (fun a w K H => res1 K rfl rfl) (fun w H => ?_)
      have hq : hasS (chars k) c = true := has_mem hb (by have h := hc19; simp [cmpB] at h; omega)
      exact ⟨by rw [hq], H.toBelow trivial⟩

set_option maxRecDepth 100000 in
set_option maxHeartbeats 4000000 in
theorem rgood_any (n r : Nat)  (w : World) : Calls Tryz.prog 50 #[.agg #[.int .u64 (n : Int), .int .u8 (r : Int)]] w fun e w' => e = .returned (.bool (goodB n r)) ∧ Below w.heap.size w w' := by
  refine sx_enter (n := 10) _ Tryz.func50 rfl rfl rfl (Hp.start w) ?_
  refine SxC.seq (SxC.region ?_)
  refine SxL.new (cs := [.int .u64 (n : Int), .int .u8 (r : Int)]) trivial rfl rfl (fun ρ w E H => ex_box E rfl rfl rfl) fun g1 hg1 => ?_
  refine SxL.val trivial rfl rfl (fun ρ w E H => ex_assign E rfl rfl) ?_
  refine SxL.nil (SxN.then_ (SxC.seq (SxC.region ?_)))
  refine SxL.val (v := .pointer (some ⟨g1, 0, none⟩)) trivial rfl rfl (fun ρ w E H => ex_field E rfl fa_palaver_api_Ballot_0 rfl rfl) ?_
  refine SxL.val trivial rfl rfl (fun ρ w E H => ex_load1 E (H.get (i := 0) rfl) rfl rfl Tryz.underlying22 rfl rfl) ?_
  refine SxL.valB trivial rfl rfl (fun ρ w E H => ex_cmp E rfl rfl rfl rfl rfl) fun c5 hc5 => ?_
  refine SxL.val trivial rfl rfl (fun ρ w E H => ex_move E rfl rfl) ?_
  cases c5
  · refine SxL.off ⟨_, _, _, rfl, rfl, rfl, nofun⟩ rfl rfl ?_
    refine SxL.off ⟨_, _, _, rfl, rfl, rfl, nofun⟩ rfl rfl ?_
    refine SxL.val trivial rfl rfl (fun ρ w E H => ex_pick E rfl (t := false) rfl rfl) ?_
    refine SxL.val trivial rfl rfl (fun ρ w E H => ex_assign E rfl rfl) ?_
    refine SxL.nil (SxN.then_ (SxC.ret ?_))
    refine SxX.done (.bool false) (fun a w K H => res1 K rfl rfl) (fun w H => ?_)
    have hq : false = goodB n r := by clear H; first | rfl | grind [cmpB, goodB]
    exact ⟨by rw [hq], H.toBelow ⟨(fun g hg => by rw [List.mem_singleton.1 hg]; exact hg1), trivial⟩⟩
  · refine SxL.val ⟨_, _, rfl, rfl, rfl⟩ rfl rfl (fun ρ w E H => ex_load (part := [.int .u64 (n : Int), .int .u8 (r : Int)]) E (H.get (i := 0) rfl) rfl rfl Tryz.underlying24 rfl sz_palaver_api_Ballot rfl rfl) ?_
    refine SxL.callBB (b := (Bal.mayB ⟨n, r⟩)) ⟨_, _, rfl, rfl, rfl⟩ rfl rfl (fun ρ w E => ex_call E en_palaver_palaverref07_May rfl rfl) (fun w H => (Bal.may_any ⟨n, r⟩ w).mono fun _ _ h => ⟨h.1, h.2.below⟩) fun c8 hc8 => ?_
    refine SxL.val trivial rfl rfl (fun ρ w E H => ex_pick E rfl (t := true) rfl rfl) ?_
    refine SxL.val trivial rfl rfl (fun ρ w E H => ex_assign E rfl rfl) ?_
    refine SxL.nil (SxN.then_ (SxC.ret ?_))
    refine SxX.done (.bool c8) (fun a w K H => res1 K rfl rfl) (fun w H => ?_)
    have hq : c8 = goodB n r := by clear H; first | rfl | grind [cmpB, goodB]
    exact ⟨by rw [hq], H.toBelow ⟨(fun g hg => by rw [List.mem_singleton.1 hg]; exact hg1), trivial⟩⟩
end Go.Proofs.YteiaiilfekojfaaGreat.Msg
end
section
set_option linter.unusedVariables false
set_option linter.unusedSimpArgs false
namespace Go.Proofs.YteiaiilfekojfaaGreat.Msg
open Go.RowKit Sx Wire DrawInv
set_option maxRecDepth 100000 in
set_option maxHeartbeats 4000000 in
theorem put_lit (mk mn mr mb ms mo ca cb ck cz mc : Nat) (mv cs ct cu mt : List UInt8) (vl : List Vo) (il : List Im) (A B : Option Addr) (ka kb : Nat) (w : World) (hf : Ms.Fits ⟨mk, mn, mr, mb, ms, mo, mv, vl, il, ⟨ca, cb, ck, cs, ct, cu, cz⟩, mc, mt⟩) (hs : Ms.Small ⟨mk, mn, mr, mb, ms, mo, mv, vl, il, ⟨ca, cb, ck, cs, ct, cu, cz⟩, mc, mt⟩) (hr : MsRows w ⟨mk, mn, mr, mb, ms, mo, mv, vl, il, ⟨ca, cb, ck, cs, ct, cu, cz⟩, mc, mt⟩ A B) : Calls Tryz.prog 13 #[.agg #[.int .u8 (mk : Int), .int .u64 (mn : Int), .int .u8 (mr : Int), .int .u64 (mb : Int), .int .u64 (ms : Int), .int .u8 (mo : Int), .string ⟨mv.toArray⟩, .slice A vl.length ka, .slice B il.length kb, .int .u8 (ca : Int), .int .u32 (cb : Int), .int .u8 (ck : Int), .string ⟨cs.toArray⟩, .string ⟨ct.toArray⟩, .string ⟨cu.toArray⟩, .int .u8 (cz : Int), .int .u8 (mc : Int), .string ⟨mt.toArray⟩]] w fun e w' => e = .returned (.tuple #[.string ⟨(putM ⟨mk, mn, mr, mb, ms, mo, mv, vl, il, ⟨ca, cb, ck, cs, ct, cu, cz⟩, mc, mt⟩).1.toArray⟩, .int .i64 ((putM ⟨mk, mn, mr, mb, ms, mo, mv, vl, il, ⟨ca, cb, ck, cs, ct, cu, cz⟩, mc, mt⟩).2 : Int)]) ∧ Below w.heap.size w w' := by
  refine sx_enter (n := 43) _ Tryz.func13 rfl rfl rfl (Hp.start w) ?_
  refine SxC.seq (SxC.region ?_)
  refine SxL.new (cs := [.int .u8 (mk : Int), .int .u64 (mn : Int), .int .u8 (mr : Int), .int .u64 (mb : Int), .int .u64 (ms : Int), .int .u8 (mo : Int), .string ⟨mv.toArray⟩, .slice A vl.length ka, .slice B il.length kb, .int .u8 (ca : Int), .int .u32 (cb : Int), .int .u8 (ck : Int), .string ⟨cs.toArray⟩, .string ⟨ct.toArray⟩, .string ⟨cu.toArray⟩, .int .u8 (cz : Int), .int .u8 (mc : Int), .string ⟨mt.toArray⟩]) trivial rfl rfl (fun ρ w E H => ex_box E rfl rfl rfl) fun g1 hg1 => ?_
  iterate 2 refine SxL.val trivial rfl rfl (fun ρ w E H => ex_assign E rfl rfl) ?_
  refine SxL.nil (SxN.then_ (SxC.seq (SxC.seq (SxC.region ?_))))
  refine SxL.val trivial rfl rfl (fun ρ w E H => ex_load (part := [.int .u8 (mk : Int), .int .u64 (mn : Int), .int .u8 (mr : Int), .int .u64 (mb : Int), .int .u64 (ms : Int), .int .u8 (mo : Int), .string ⟨mv.toArray⟩, .slice A vl.length ka, .slice B il.length kb, .int .u8 (ca : Int), .int .u32 (cb : Int), .int .u8 (ck : Int), .string ⟨cs.toArray⟩, .string ⟨ct.toArray⟩, .string ⟨cu.toArray⟩, .int .u8 (cz : Int), .int .u8 (mc : Int), .string ⟨mt.toArray⟩]) E (H.get (i := 0) rfl) rfl rfl Tryz.underlying33 rfl sz_palaver_api_Msg rfl rfl) ?_
  refine SxL.callB (v := .int .i64 (if checkB ⟨mk, mn, mr, mb, ms, mo, mv, vl, il, ⟨ca, cb, ck, cs, ct, cu, cz⟩, mc, mt⟩ then 0 else 2)) trivial rfl rfl (fun ρ w E => ex_call E en_palaver_msg_Check rfl rfl) (fun w H => check_any ⟨mk, mn, mr, mb, ms, mo, mv, vl, il, ⟨ca, cb, ck, cs, ct, cu, cz⟩, mc, mt⟩ A B ka kb w hf hs (hr.below (H.toBelow ⟨(fun g hg => by rw [List.mem_singleton.1 hg]; exact hg1), trivial⟩))) ?_
  refine SxL.val trivial rfl rfl (fun ρ w E H => ex_assign E rfl rfl) ?_
  refine SxL.nil (SxN.then_ (SxC.seq (SxC.region ?_)))
  refine SxL.val trivial rfl rfl (fun ρ w E H => ex_move E rfl rfl) ?_
  refine SxL.valB trivial rfl rfl (fun ρ w E H => ex_cmp E rfl rfl rfl rfl rfl) fun c13 hc13 => ?_
  refine SxL.nil (SxN.then_ ?_)
  cases c13
  · refine SxC.condF rfl (SxC.skip (SxN.then_ (SxC.seq (SxC.region ?_))))
    refine SxL.val (v := .pointer (some ⟨g1, 0, none⟩)) trivial rfl rfl (fun ρ w E H => ex_field E rfl fa_palaver_api_Msg_0 rfl rfl) ?_
    refine SxL.val trivial rfl rfl (fun ρ w E H => ex_load1 E (H.get (i := 0) rfl) rfl rfl Tryz.underlying5 rfl rfl) ?_
    refine SxL.newS (cs := [.int .u8 (mk : Int)]) trivial rfl rfl (fun ρ w E H => ex_buildSlice E rfl rfl Tryz.underlying103 sz_uint8 zr_uint8 rfl rfl (by kernel_rfl)) fun g2 hg2 => ?_
    refine SxL.val trivial rfl rfl (fun ρ w E H => ex_assign E rfl rfl) ?_
    refine SxL.nil (SxN.then_ (SxC.seq (SxC.seq (SxC.region ?_))))
    refine SxL.val (v := .pointer (some ⟨g1, 0, none⟩)) trivial rfl rfl (fun ρ w E H => ex_field E rfl fa_palaver_api_Msg_0 rfl rfl) ?_
    refine SxL.val trivial rfl rfl (fun ρ w E H => ex_load1 E (H.get (i := 1) rfl) rfl rfl Tryz.underlying5 rfl rfl) ?_
    refine SxL.call (σ := PS) (fun s => .slice s.A (List.length s.q) s.c) (fun s => _) (fun s => _) trivial rfl rfl (fun ρ w E => ex_call E en_palaver_msg_parts rfl rfl) (call_parts mk) fun s hs_ => ?_
    obtain ⟨pA, pc, gb, q⟩ := s
    obtain ⟨⟨hq, hpA⟩, hpf⟩ := hs_
    dsimp only at hq hpA hpf
    refine SxL.val (v := .int .i64 (q.length : Int)) trivial rfl rfl (fun ρ w E H => ex_lenS E rfl Tryz.underlying95 rfl) ?_
    refine SxL.val trivial rfl rfl (fun ρ w E H => ex_move E rfl rfl) ?_
    refine SxL.nil (SxN.then_ (SxC.block ?_))
    have hv0 : OwnIn w [] (.slice (some ⟨g2, 0, none⟩) 1 1) := fun b hb => .inr (by simp [Value.ownBlock] at hb; omega)
    refine SxC.hp (fun W H => H.re (i := 1) rfl (rowX [] w.heap.size 5 1 (.slice (some ⟨g2, 0, none⟩) 1 1) ((insB ⟨mk, mn, mr, mb, ms, mo, mv, vl, il, ⟨ca, cb, ck, cs, ct, cu, cz⟩, mc, mt⟩ 0).length) (bv (insB ⟨mk, mn, mr, mb, ms, mo, mv, vl, il, ⟨ca, cb, ck, cs, ct, cu, cz⟩, mc, mt⟩ 0))) (rowX_loc _ _ _ _ _ _ _) rfl (fun h => own_as (own_new1 h hg2) (by simp [insB]) (by simp only [insB, List.take_zero, List.flatMap_nil]; have hk := hf.h1; exact bv_snoc [] mk hk))) ?_
    refine SxC.loop2 (fun (k : Nat) (v : Value) => [(1, .pointer (some ⟨g1, 0, none⟩)), (5, v), (20, .slice pA q.length pc), (21, .int .i64 (q.length : Int)), (22, .int .i64 (k : Int))]) (fun (k : Nat) (v : Value) => [partsF gb q, rowX [] w.heap.size 5 1 v ((insB ⟨mk, mn, mr, mb, ms, mo, mv, vl, il, ⟨ca, cb, ck, cs, ct, cu, cz⟩, mc, mt⟩ k).length) (bv (insB ⟨mk, mn, mr, mb, ms, mo, mv, vl, il, ⟨ca, cb, ck, cs, ct, cu, cz⟩, mc, mt⟩ k)), cell g1 33 [.int .u8 (mk : Int), .int .u64 (mn : Int), .int .u8 (mr : Int), .int .u64 (mb : Int), .int .u64 (ms : Int), .int .u8 (mo : Int), .string ⟨mv.toArray⟩, .slice A vl.length ka, .slice B il.length kb, .int .u8 (ca : Int), .int .u32 (cb : Int), .int .u8 (ck : Int), .string ⟨cs.toArray⟩, .string ⟨ct.toArray⟩, .string ⟨cu.toArray⟩, .int .u8 (cz : Int), .int .u8 (mc : Int), .string ⟨mt.toArray⟩]]) (fun (gk : Nat) (k : Nat) (v : Value) => k + gk = q.length ∧ OwnIn w [] v) q.length 0 (.slice (some ⟨g2, 0, none⟩) 1 1) ⟨by omega, hv0⟩ ⟨rfl, rfl, rfl, rfl, rfl, trivial⟩ [0, 1, 2] rfl (by decide) ⟨.inl rfl, .inl rfl, .inl rfl, trivial⟩ fun gk k v hF => ?_
    obtain ⟨hkg, hv⟩ := hF
    refine SxC.seq (SxC.region ?_)
    refine SxL.valB trivial rfl rfl (fun ρ w E H => ex_cmp E rfl rfl rfl rfl rfl) fun c23 hc23 => ?_
    refine SxL.nil (SxN.then_ (SxC.seq ?_))
    cases c23
    · refine SxC.condF rfl (SxC.exit (SxX.thenE (SxX.thenE (SxX.blockE (SxN.then_ (SxC.seq (SxC.region ?_)))))))
      refine SxL.val trivial rfl rfl (fun ρ w E H => ex_move E rfl rfl) ?_
      have hend : insB ⟨mk, mn, mr, mb, ms, mo, mv, vl, il, ⟨ca, cb, ck, cs, ct, cu, cz⟩, mc, mt⟩ k = insideB ⟨mk, mn, mr, mb, ms, mo, mv, vl, il, ⟨ca, cb, ck, cs, ct, cu, cz⟩, mc, mt⟩ := insB_end (by show (partsOf mk).length ≤ k; rw [← hq, List.length_map]; have h := hc23; simp [cmpB] at h; omega)
      refine SxL.val (v := .string ⟨(insideB ⟨mk, mn, mr, mb, ms, mo, mv, vl, il, ⟨ca, cb, ck, cs, ct, cu, cz⟩, mc, mt⟩).toArray⟩) trivial rfl rfl (fun ρ w E H => ex_convS E rfl Tryz.underlying103 Tryz.underlying5 Tryz.underlying9 rfl (H.get (i := 1) rfl) (by rw [hend])) ?_
      refine SxL.call (σ := Value) (fun s => .tuple #[s, .int .i64 ((fpB (insideB ⟨mk, mn, mr, mb, ms, mo, mv, vl, il, ⟨ca, cb, ck, cs, ct, cu, cz⟩, mc, mt⟩)).2 : Int)]) (fun s => OwnIn w [] s) (fun s => _) trivial rfl rfl (fun ρ w E => ex_call E en_palaver_frame_Put rfl rfl) (callOwnV (fun s => .tuple #[s, .int .i64 ((fpB (insideB ⟨mk, mn, mr, mb, ms, mo, mv, vl, il, ⟨ca, cb, ck, cs, ct, cu, cz⟩, mc, mt⟩)).2 : Int)]) (fun w H => fput_any (insideB ⟨mk, mn, mr, mb, ms, mo, mv, vl, il, ⟨ca, cb, ck, cs, ct, cu, cz⟩, mc, mt⟩) (by simp [insideB]) (by rw [← hend]; exact insB_len _ hf hs k) w)) fun v35 hv35 => ?_
      refine SxL.val trivial rfl rfl (fun ρ w E H => ex_move E rfl rfl) ?_
      iterate 2 refine SxL.val trivial rfl rfl (fun ρ w E H => ex_extract E rfl rfl rfl) ?_
      iterate 2 refine SxL.val trivial rfl rfl (fun ρ w E H => ex_assign E rfl rfl) ?_
      refine SxL.nil (SxN.then_ (SxC.seq (SxC.seq (SxC.region ?_))))
      refine SxL.val trivial rfl rfl (fun ρ w E H => ex_move E rfl rfl) ?_
      refine SxL.valB trivial rfl rfl (fun ρ w E H => ex_cmp E rfl rfl rfl rfl rfl) fun c39 hc39 => ?_
      refine SxL.nil (SxN.then_ ?_)
      cases c39
      · refine SxC.condF rfl (SxC.skip (SxN.then_ (SxC.seq (SxC.region ?_))))
        refine SxL.val trivial rfl rfl (fun ρ w E H => ex_move E rfl rfl) ?_
        refine SxL.val (v := .string ⟨(fpB (insideB ⟨mk, mn, mr, mb, ms, mo, mv, vl, il, ⟨ca, cb, ck, cs, ct, cu, cz⟩, mc, mt⟩)).1.toArray⟩) trivial rfl rfl (fun ρ w E H => ex_convS E rfl Tryz.underlying103 Tryz.underlying5 Tryz.underlying9 rfl (H.get (i := 0) rfl) (rfl)) ?_
        iterate 2 refine SxL.val trivial rfl rfl (fun ρ w E H => ex_assign E rfl rfl) ?_
        refine SxL.nil (SxN.then_ (SxC.ret ?_))
        refine SxX.done (.tuple #[.string ⟨((fpB (insideB ⟨mk, mn, mr, mb, ms, mo, mv, vl, il, ⟨ca, cb, ck, cs, ct, cu, cz⟩, mc, mt⟩)).1).toArray⟩, .int .i64 0]) (fun a w K H => res2 K rfl rfl rfl) (fun w H => ?_)
        -- what is told
        have hck : checkB ⟨mk, mn, mr, mb, ms, mo, mv, vl, il, ⟨ca, cb, ck, cs, ct, cu, cz⟩, mc, mt⟩ = true := by cases hb : checkB ⟨mk, mn, mr, mb, ms, mo, mv, vl, il, ⟨ca, cb, ck, cs, ct, cu, cz⟩, mc, mt⟩ with | true => rfl | false => (have h := hc13; rw [hb] at h; simp [cmpB] at h)
        have hpm := putM_is _ hck
        have h0 : (fpB (insideB ⟨mk, mn, mr, mb, ms, mo, mv, vl, il, ⟨ca, cb, ck, cs, ct, cu, cz⟩, mc, mt⟩)).2 = 0 := by have h := hc39; simp [cmpB] at h; omega
        have hq2 : putM ⟨mk, mn, mr, mb, ms, mo, mv, vl, il, ⟨ca, cb, ck, cs, ct, cu, cz⟩, mc, mt⟩ = ((fpB (insideB ⟨mk, mn, mr, mb, ms, mo, mv, vl, il, ⟨ca, cb, ck, cs, ct, cu, cz⟩, mc, mt⟩)).1, 0) := by rw [hpm, ← h0]
        rw [hq2]
        exact ⟨rfl, H.toBelow ⟨hv35.fresh, hpf, hv.fresh, (fun g hg => by rw [List.mem_singleton.1 hg]; exact hg1), trivial⟩⟩
      · refine SxC.condT rfl (SxC.seq (SxC.region ?_))
        refine SxL.val trivial rfl rfl (fun ρ w E H => ex_move E rfl rfl) ?_
        iterate 2 refine SxL.val trivial rfl rfl (fun ρ w E H => ex_assign E rfl rfl) ?_
        refine SxL.nil (SxN.then_ (SxC.ret (SxX.thenR ?_)))
        refine SxX.done (.tuple #[.string ⟨[].toArray⟩, .int .i64 ((fpB (insideB ⟨mk, mn, mr, mb, ms, mo, mv, vl, il, ⟨ca, cb, ck, cs, ct, cu, cz⟩, mc, mt⟩)).2 : Int)]) (fun a w K H => res2 K rfl rfl rfl) (fun w H => ?_)
        -- what is told
        have hck : checkB ⟨mk, mn, mr, mb, ms, mo, mv, vl, il, ⟨ca, cb, ck, cs, ct, cu, cz⟩, mc, mt⟩ = true := by cases hb : checkB ⟨mk, mn, mr, mb, ms, mo, mv, vl, il, ⟨ca, cb, ck, cs, ct, cu, cz⟩, mc, mt⟩ with | true => rfl | false => (have h := hc13; rw [hb] at h; simp [cmpB] at h)
        have hpm := putM_is _ hck
        have hq2 : putM ⟨mk, mn, mr, mb, ms, mo, mv, vl, il, ⟨ca, cb, ck, cs, ct, cu, cz⟩, mc, mt⟩ = ([], (fpB (insideB ⟨mk, mn, mr, mb, ms, mo, mv, vl, il, ⟨ca, cb, ck, cs, ct, cu, cz⟩, mc, mt⟩)).2) := by rw [hpm]; exact fpB_bad _ (by have h := hc39; simp [cmpB] at h; omega)
        rw [hq2]
        exact ⟨rfl, H.toBelow ⟨hv35.fresh, hpf, hv.fresh, (fun g hg => by rw [List.mem_singleton.1 hg]; exact hg1), trivial⟩⟩
    · refine SxC.condT rfl (SxC.skip (SxN.then_ (SxC.seq (SxC.block (SxC.seq ?_)))))
      have hkl : k < q.length := by have h := hc23; simp [cmpB] at h; omega
      obtain ⟨⟨p, gc⟩, hx⟩ : ∃ x, q[k]? = some x := ⟨_, List.getElem?_eq_getElem hkl⟩
      obtain rfl := hpA (by rintro rfl; cases hx)
      have hp : (partsOf mk)[k]? = some p := by rw [← hq, List.getElem?_map, hx]; rfl
      have hql : q.length ≤ 4 := by have h := (parts_two mk).2; rw [← hq, List.length_map] at h; exact h
      refine SxC.region ?_
      refine SxL.val (v := .pointer (some ((⟨gb, 0, none⟩ : Addr).add (k * 4)))) trivial rfl rfl (fun ρ w E H => ex_index (i := k) E rfl Tryz.underlying95 sz_palaver_msg_part rfl rfl hkl) ?_
      refine SxL.val (v := .agg #[.func (.func p.putF) #[] #[], .func (.func p.takeF) #[] #[], .func (.func p.moveF) #[] #[], .func (.func p.mayF) #[] (p.cap gc).toArray]) trivial rfl rfl (fun ρ w E H => ex_loadX (cs := [.func (.func p.putF) #[] #[], .func (.func p.takeF) #[] #[], .func (.func p.moveF) #[] #[], .func (.func p.mayF) #[] (p.cap gc).toArray]) E (parts_row (H.get (i := 0) rfl) hx) rfl rfl Tryz.underlying101 rfl sz_palaver_msg_part) ?_
      refine SxL.new (cs := [.nilFunc, .nilFunc, .nilFunc, .nilFunc]) trivial rfl rfl (fun ρ w E H => ex_alloc rfl zr_palaver_msg_part rfl) fun g3 hg3 => ?_
      refine SxL.store (i := 0) trivial rfl rfl rfl rfl rfl sz_palaver_msg_part rfl rfl rfl ?_
      refine SxL.nil (SxN.then_ (SxC.region ?_))
      refine SxL.val (v := .pointer (some ⟨g3, 0, none⟩)) trivial rfl rfl (fun ρ w E H => ex_field E rfl fa_palaver_msg_part_0 rfl rfl) ?_
      refine SxL.val trivial rfl rfl (fun ρ w E H => ex_load1 E (H.get (i := 0) rfl) rfl rfl Tryz.underlying97 rfl rfl) ?_
      refine SxL.val trivial rfl rfl (fun ρ w E H => ex_move E rfl rfl) ?_
      refine SxL.val trivial rfl rfl (fun ρ w E H => ex_load (part := [.int .u8 (mk : Int), .int .u64 (mn : Int), .int .u8 (mr : Int), .int .u64 (mb : Int), .int .u64 (ms : Int), .int .u8 (mo : Int), .string ⟨mv.toArray⟩, .slice A vl.length ka, .slice B il.length kb, .int .u8 (ca : Int), .int .u32 (cb : Int), .int .u8 (ck : Int), .string ⟨cs.toArray⟩, .string ⟨ct.toArray⟩, .string ⟨cu.toArray⟩, .int .u8 (cz : Int), .int .u8 (mc : Int), .string ⟨mt.toArray⟩]) E (H.get (i := 3) rfl) rfl rfl Tryz.underlying33 rfl sz_palaver_api_Msg rfl rfl) ?_
      refine SxL.call (σ := Value) (fun s => s) (fun s => OwnIn w [] s) (fun s => _) trivial rfl rfl (fun ρ w E => ex_callV E (enters_put p) rfl rfl rfl rfl) (callGrow (i := 2) (m' := (insB ⟨mk, mn, mr, mb, ms, mo, mv, vl, il, ⟨ca, cb, ck, cs, ct, cu, cz⟩, mc, mt⟩ k ++ p.put ⟨mk, mn, mr, mb, ms, mo, mv, vl, il, ⟨ca, cb, ck, cs, ct, cu, cz⟩, mc, mt⟩).length) (xs' := bv (insB ⟨mk, mn, mr, mb, ms, mo, mv, vl, il, ⟨ca, cb, ck, cs, ct, cu, cz⟩, mc, mt⟩ k ++ p.put ⟨mk, mn, mr, mb, ms, mo, mv, vl, il, ⟨ca, cb, ck, cs, ct, cu, cz⟩, mc, mt⟩)) rfl hv (fun w H => put_all p ⟨mk, mn, mr, mb, ms, mo, mv, vl, il, ⟨ca, cb, ck, cs, ct, cu, cz⟩, mc, mt⟩ hf hs A B ka kb _ v (insB ⟨mk, mn, mr, mb, ms, mo, mv, vl, il, ⟨ca, cb, ck, cs, ct, cu, cz⟩, mc, mt⟩ k) w (hr.below (H.toBelow ⟨(fun g hg => by rw [List.mem_singleton.1 hg]; exact hg3), hpf, hv.fresh, (fun g hg => by rw [List.mem_singleton.1 hg]; exact hg1), trivial⟩)) (insB_len _ hf hs k) H.os.size (H.get (i := 2) rfl) (fun hn ad e => hr.hv.lt hn ad e) (fun hn ad e => hr.hi.lt hn ad e))) fun v2 hv2 => ?_
      refine SxL.hp (fun W H => H.re (i := 2) rfl (rowX [] w.heap.size 5 1 v2 ((insB ⟨mk, mn, mr, mb, ms, mo, mv, vl, il, ⟨ca, cb, ck, cs, ct, cu, cz⟩, mc, mt⟩ (k + 1)).length) (bv (insB ⟨mk, mn, mr, mb, ms, mo, mv, vl, il, ⟨ca, cb, ck, cs, ct, cu, cz⟩, mc, mt⟩ (k + 1)))) (rowX_loc _ _ _ _ _ _ _) rfl (fun h => own_as h (by rw [insB_succ hp]) (by rw [insB_succ hp]))) ?_
      refine SxL.val trivial rfl rfl (fun ρ w E H => ex_assign E rfl rfl) ?_
      refine SxL.nil (SxN.block (SxN.then_ (SxC.region ?_)))
      refine SxL.val (v := .int .i64 ((k + 1 : Nat) : Int)) trivial rfl rfl (fun ρ w E H => ex_add E rfl rfl rfl (by rw [IntKind.wrap_i64]; omega)) ?_
      refine SxL.val trivial rfl rfl (fun ρ w E H => ex_move E rfl rfl) ?_
      refine SxL.nil ?_
      refine SxN.back (gk - 1) (k + 1, v2) (by omega) ⟨by omega, hv2⟩ ⟨rfl, rfl, rfl, rfl, rfl, trivial⟩ [1, 2, 3] rfl (by decide) ⟨.inr (fun g hg => by rw [List.mem_singleton.1 hg]; exact hg3), .inl rfl, .inl rfl, .inl rfl, trivial⟩
  · refine SxC.condT rfl (SxC.seq (SxC.region ?_))
    refine SxL.val trivial rfl rfl (fun ρ w E H => ex_move E rfl rfl) ?_
    iterate 2 refine SxL.val trivial rfl rfl (fun ρ w E H => ex_assign E rfl rfl) ?_
    refine SxL.nil (SxN.then_ (SxC.ret (SxX.thenR ?_)))
    refine SxX.done (.tuple #[.string ⟨[].toArray⟩, .int .i64 (if checkB ⟨mk, mn, mr, mb, ms, mo, mv, vl, il, ⟨ca, cb, ck, cs, ct, cu, cz⟩, mc, mt⟩ then 0 else 2)]) (fun a w K H => res2 K rfl rfl rfl) (fun w H => ?_)
    -- what is told
    have hck : checkB ⟨mk, mn, mr, mb, ms, mo, mv, vl, il, ⟨ca, cb, ck, cs, ct, cu, cz⟩, mc, mt⟩ = false := by cases hb : checkB ⟨mk, mn, mr, mb, ms, mo, mv, vl, il, ⟨ca, cb, ck, cs, ct, cu, cz⟩, mc, mt⟩ with | false => rfl | true => (have h := hc13; rw [hb] at h; simp [cmpB] at h)
    have hq2 : putM ⟨mk, mn, mr, mb, ms, mo, mv, vl, il, ⟨ca, cb, ck, cs, ct, cu, cz⟩, mc, mt⟩ = ([], 2) := by unfold putM; rw [if_neg (by rw [hck]; decide)]
    rw [hck]
    rw [hq2]
    exact ⟨rfl, H.toBelow ⟨(fun g hg => by rw [List.mem_singleton.1 hg]; exact hg1), trivial⟩⟩

theorem put_any (m : Ms) (A B : Option Addr) (ka kb : Nat) (w : World) (hf : m.Fits) (hs : m.Small) (hr : MsRows w m A B) : Calls Tryz.prog 13 #[msV m A ka B kb] w fun e w' => e = .returned (.tuple #[.string ⟨(putM m).1.toArray⟩, .int .i64 ((putM m).2 : Int)]) ∧ Below w.heap.size w w' := by
  obtain ⟨mk, mn, mr, mb, ms, mo, mv, vl, il, ⟨ca, cb, ck, cs, ct, cu, cz⟩, mc, mt⟩ := m
  exact put_lit _ _ _ _ _ _ _ _ _ _ _ _ _ _ _ _ _ _ _ _ _ _ w hf hs hr
end Go.Proofs.YteiaiilfekojfaaGreat.Msg
end
section
set_option linter.unusedVariables false
set_option linter.unusedSimpArgs false
namespace Go.Proofs.YteiaiilfekojfaaGreat.Msg
open Go.RowKit Sx Wire DrawInv
set_option maxRecDepth 100000 in
set_option maxHeartbeats 4000000 in
theorem take_any (s : List UInt8)  (w : World) (hsl : s.length ≤ 100000) : Calls Tryz.prog 19 #[.string ⟨s.toArray⟩] w fun e w' => TakeRet s w e w' := by
  obtain ⟨⟨fi, fn, fe⟩, hF⟩ : ∃ x, Frame.takeF s = x := ⟨_, rfl⟩
  have hfi : fi.length ≤ 65536 := by have h := takeF_len s; rw [hF] at h; exact h
  refine sx_enter (n := 54) _ Tryz.func19 rfl rfl rfl (Hp.start w) ?_
  refine SxC.seq (SxC.region ?_)
  refine SxL.new (cs := [.int .u8 0, .int .u64 0, .int .u8 0, .int .u64 0, .int .u64 0, .int .u8 0, .string ⟨[].toArray⟩, .slice none 0 0, .slice none 0 0, .int .u8 0, .int .u32 0, .int .u8 0, .string ⟨[].toArray⟩, .string ⟨[].toArray⟩, .string ⟨[].toArray⟩, .int .u8 0, .int .u8 0, .string ⟨[].toArray⟩]) trivial rfl rfl (fun ρ w E H => ex_alloc rfl zr_palaver_api_Msg rfl) fun g1 hg1 => ?_
  refine SxL.val trivial rfl rfl (fun ρ w E H => ex_assign E rfl rfl) ?_
  refine SxL.nil (SxN.then_ (SxC.seq (SxC.region ?_)))
  refine SxL.val trivial rfl rfl (fun ρ w E H => ex_move E rfl rfl) ?_
  refine SxL.callB (v := .tuple #[.string ⟨fi.toArray⟩, .int .i64 (fn : Int), .int .i64 (fe : Int)]) trivial rfl rfl (fun ρ w E => ex_call E en_palaver_frame_Take rfl rfl) (fun w H => ftake_p hF hsl w) ?_
  refine SxL.val trivial rfl rfl (fun ρ w E H => ex_move E rfl rfl) ?_
  iterate 3 refine SxL.val trivial rfl rfl (fun ρ w E H => ex_extract E rfl rfl rfl) ?_
  iterate 3 refine SxL.val trivial rfl rfl (fun ρ w E H => ex_assign E rfl rfl) ?_
  refine SxL.nil (SxN.then_ (SxC.seq (SxC.seq (SxC.region ?_))))
  refine SxL.val trivial rfl rfl (fun ρ w E H => ex_move E rfl rfl) ?_
  refine SxL.valB trivial rfl rfl (fun ρ w E H => ex_cmp E rfl rfl rfl rfl rfl) fun c18 hc18 => ?_
  refine SxL.nil (SxN.then_ ?_)
  cases c18
  · refine SxC.condF rfl (SxC.skip (SxN.then_ (SxC.seq (SxC.seq (SxC.region ?_)))))
    iterate 2 refine SxL.val trivial rfl rfl (fun ρ w E H => ex_move E rfl rfl) ?_
    refine SxL.val (v := .int .i64 (s.length : Int)) trivial rfl rfl (fun ρ w E H => ex_lenT E rfl Tryz.underlying9 rfl) ?_
    refine SxL.valB trivial rfl rfl (fun ρ w E H => ex_cmp E rfl rfl rfl rfl rfl) fun c24 hc24 => ?_
    refine SxL.nil (SxN.then_ ?_)
    cases c24
    · refine SxC.condF rfl (SxC.skip (SxN.then_ (SxC.seq (SxC.region ?_))))
      refine SxL.val trivial rfl rfl (fun ρ w E H => ex_move E rfl rfl) ?_
      refine SxL.call (σ := Nat) (fun s => .pointer (some ⟨s, 0, none⟩)) (fun s => _) (fun s => _) trivial rfl rfl (fun ρ w E => ex_call E en_palaver_wire_Of rfl rfl) (call_of fi) fun gr hgr_ => ?_
      have hgr : w.heap.size ≤ gr := hgr_.2 _ (List.mem_singleton.2 rfl)
      refine SxL.val trivial rfl rfl (fun ρ w E H => ex_assign E rfl rfl) ?_
      refine SxL.nil (SxN.then_ (SxC.seq (SxC.region ?_)))
      refine SxL.val trivial rfl rfl (fun ρ w E H => ex_move E rfl rfl) ?_
      obtain ⟨p29, hp29⟩ : ∃ p, Rd.byte (⟨0, fi⟩ : Rd) = p := ⟨_, rfl⟩
      refine SxL.call (σ := Unit) (fun _ => .int .u8 (p29.1 : Int)) (fun _ => True) (fun _ => _) trivial rfl rfl (fun ρ w E => ex_call E en_palaver_wire_Reader_Byte rfl rfl) (callTurn (i := 0) (cell gr 157 [.int .i64 (p29.2.err : Int), .string ⟨p29.2.rest.toArray⟩]) rfl (cell_loc _ _ _) rfl (fun w H => (byte_p hp29 (by have q0 := (show (⟨0, fi⟩ : Rd).rest.length ≤ 65536 from hfi); omega) w (H.get (i := 0) rfl)).mono fun _ _ h => turn_rd h)) fun _ _ => ?_
      refine SxL.val trivial rfl rfl (fun ρ w E H => ex_build (cs := [.int .u8 (p29.1 : Int), .int .u64 0, .int .u8 0, .int .u64 0, .int .u64 0, .int .u8 0, .string ⟨[].toArray⟩, .slice none 0 0, .slice none 0 0, .int .u8 0, .int .u32 0, .int .u8 0, .string ⟨[].toArray⟩, .string ⟨[].toArray⟩, .string ⟨[].toArray⟩, .int .u8 0, .int .u8 0, .string ⟨[].toArray⟩]) E rfl rfl (by kernel_rfl)) ?_
      refine SxL.new (cs := [.int .u8 0, .int .u64 0, .int .u8 0, .int .u64 0, .int .u64 0, .int .u8 0, .string ⟨[].toArray⟩, .slice none 0 0, .slice none 0 0, .int .u8 0, .int .u32 0, .int .u8 0, .string ⟨[].toArray⟩, .string ⟨[].toArray⟩, .string ⟨[].toArray⟩, .int .u8 0, .int .u8 0, .string ⟨[].toArray⟩]) trivial rfl rfl (fun ρ w E H => ex_alloc rfl zr_palaver_api_Msg rfl) fun g2 hg2 => ?_
      refine SxL.store (i := 0) trivial rfl rfl rfl rfl rfl sz_palaver_api_Msg rfl rfl rfl ?_
      refine SxL.nil (SxN.then_ (SxC.seq (SxC.seq (SxC.region ?_))))
      refine SxL.val (v := .pointer (some ⟨g2, 0, none⟩)) trivial rfl rfl (fun ρ w E H => ex_field E rfl fa_palaver_api_Msg_0 rfl rfl) ?_
      refine SxL.val trivial rfl rfl (fun ρ w E H => ex_load1 E (H.get (i := 0) rfl) rfl rfl Tryz.underlying5 rfl rfl) ?_
      refine SxL.call (σ := PS) (fun s => .slice s.A (List.length s.q) s.c) (fun s => _) (fun s => _) trivial rfl rfl (fun ρ w E => ex_call E en_palaver_msg_parts rfl rfl) (call_parts p29.1) fun s hs_ => ?_
      obtain ⟨pA, pc, gb, q⟩ := s
      obtain ⟨⟨hq, hpA⟩, hpf⟩ := hs_
      dsimp only at hq hpA hpf
      refine SxL.val (v := .int .i64 (q.length : Int)) trivial rfl rfl (fun ρ w E H => ex_lenS E rfl Tryz.underlying95 rfl) ?_
      refine SxL.val trivial rfl rfl (fun ρ w E H => ex_move E rfl rfl) ?_
      refine SxL.nil (SxN.then_ (SxC.block ?_))
      have hGG0 : GG (ms0 p29.1, p29.2) := by have q0 : p29.2.rest.length ≤ fi.length := rp_byte hp29; exact ⟨⟨by show p29.2.rest.length ≤ _; omega, (show 0 ≤ 100001 by decide), fun _ => by show 0 + p29.2.rest.length ≤ _; omega⟩, ⟨by show p29.2.rest.length ≤ _; omega, (show 0 ≤ 100001 by decide), fun _ => by show 0 + p29.2.rest.length ≤ _; omega⟩⟩
      refine SxC.hp (fun W H => H.re (i := 1) rfl (madeF w.heap.size g2 (ms0 p29.1) (.slice none 0 0) (.slice none 0 0)) (madeF_loc _ _ _ _ _) rfl (fun h => made_new (k := p29.1) h)) ?_
      refine SxC.loop4 (fun (k : Nat) (x : Ms × Rd) (V : Value) (I : Value) => [(2, .pointer (some ⟨g1, 0, none⟩)), (3, .int .i64 0), (7, .pointer (some ⟨gr, 0, none⟩)), (8, .pointer (some ⟨g2, 0, none⟩)), (33, .slice pA q.length pc), (34, .int .i64 (q.length : Int)), (35, .int .i64 (k : Int))]) (fun (k : Nat) (x : Ms × Rd) (V : Value) (I : Value) => [cell gr 157 [.int .i64 (x.2.err : Int), .string ⟨x.2.rest.toArray⟩], madeF w.heap.size g2 x.1 V I, partsF gb q, cell g1 33 [.int .u8 0, .int .u64 0, .int .u8 0, .int .u64 0, .int .u64 0, .int .u8 0, .string ⟨[].toArray⟩, .slice none 0 0, .slice none 0 0, .int .u8 0, .int .u32 0, .int .u8 0, .string ⟨[].toArray⟩, .string ⟨[].toArray⟩, .string ⟨[].toArray⟩, .int .u8 0, .int .u8 0, .string ⟨[].toArray⟩]]) (fun (gk : Nat) (k : Nat) (x : Ms × Rd) (V : Value) (I : Value) => k + gk = q.length ∧ x = taken ((partsOf p29.1).take k) p29.1 p29.2 ∧ GG x ∧ OwnIn w [] V ∧ OwnIn w [] I) q.length 0 (ms0 p29.1, p29.2) (.slice none 0 0) (.slice none 0 0) ⟨by omega, rfl, hGG0, own_none w, own_none w⟩ ⟨rfl, rfl, rfl, rfl, rfl, rfl, rfl, trivial⟩ [2, 1, 0, 3] rfl (by decide) ⟨.inl rfl, .inl rfl, .inl rfl, .inl rfl, trivial⟩ fun gk k x V I hF_ => ?_
      obtain ⟨hkg, hxk, hGG, hV, hI⟩ := hF_
      refine SxC.seq (SxC.region ?_)
      refine SxL.valB trivial rfl rfl (fun ρ w E H => ex_cmp E rfl rfl rfl rfl rfl) fun c36 hc36 => ?_
      refine SxL.nil (SxN.then_ (SxC.seq ?_))
      cases c36
      · refine SxC.condF rfl (SxC.exit (SxX.thenE (SxX.thenE (SxX.blockE (SxN.then_ (SxC.seq (SxC.seq ?_)))))))
        have hle : (partsOf p29.1).length ≤ k := by rw [← hq, List.length_map]; have h := hc36; simp [cmpB] at h; omega
        have hxe : x = taken (partsOf p29.1) p29.1 p29.2 := by rw [hxk, List.take_of_length_le hle]
        have hk8 : p29.1 < 256 := by rw [← hp29]; exact lt_byte _
        have hsm : (Rd.end_ x.2).err = 0 → x.1.Fits ∧ x.1.Small := fun h => by have h0 := (Cmd.end_zero h).1; rw [hxe] at h0 ⊢; exact taken_small hk8 (by have q0 : p29.2.rest.length ≤ fi.length := rp_byte hp29; omega) h0
        refine SxC.with (fun W H => own_is_slice (H.get (i := 1) rfl : (madeF _ _ _ _ _).φ W).2.1) ?_
        rintro ⟨A2, k2, rfl⟩
        refine SxC.with (fun W H => own_is_slice (H.get (i := 1) rfl : (madeF _ _ _ _ _).φ W).2.2) ?_
        rintro ⟨B2, l2, rfl⟩
        refine SxC.region ?_
        refine SxL.val trivial rfl rfl (fun ρ w E H => ex_move E rfl rfl) ?_
        refine SxL.call (σ := Unit) (fun _ => .int .i64 ((Rd.end_ x.2).err : Int)) (fun _ => True) (fun _ => _) trivial rfl rfl (fun ρ w E => ex_call E en_palaver_wire_Reader_End rfl rfl) (callTurn (i := 0) (cell gr 157 [.int .i64 ((Rd.end_ x.2).err : Int), .string ⟨((Rd.end_ x.2).rest).toArray⟩]) rfl (cell_loc _ _ _) rfl (fun w H => (end_any gr x.2 w (H.get (i := 0) rfl)).mono fun _ _ h => turn_rd h)) fun _ _ => ?_
        refine SxL.valB trivial rfl rfl (fun ρ w E H => ex_cmp E rfl rfl rfl rfl rfl) fun c46 hc46 => ?_
        refine SxL.val trivial rfl rfl (fun ρ w E H => ex_move E rfl rfl) ?_
        cases c46
        · refine SxL.val ⟨_, _, rfl, rfl, rfl⟩ rfl rfl (fun ρ w E H => ex_load (cs := msL x.1 (.slice A2 x.1.votes.length k2) (.slice B2 x.1.items.length l2)) (part := msL x.1 (.slice A2 x.1.votes.length k2) (.slice B2 x.1.items.length l2)) E ((H.get (i := 1) rfl : (madeF _ _ _ _ _).φ w).1) rfl rfl Tryz.underlying33 rfl sz_palaver_api_Msg rfl rfl) ?_
          refine SxL.callB (v := .int .i64 (if checkB x.1 then 0 else 2)) ⟨_, _, rfl, rfl, rfl⟩ rfl rfl (fun ρ w E => ex_call E en_palaver_msg_Check rfl rfl) (fun w H => check_any x.1 A2 B2 k2 l2 w (hsm (by have h := hc46; simp [cmpB] at h; omega)).1 (hsm (by have h := hc46; simp [cmpB] at h; omega)).2 (made_rows (H.get (i := 1) rfl))) ?_
          refine SxL.valB ⟨_, _, rfl, rfl, rfl⟩ rfl rfl (fun ρ w E H => ex_cmp E rfl rfl rfl rfl rfl) fun c50 hc50 => ?_
          refine SxL.val trivial rfl rfl (fun ρ w E H => ex_pick E rfl (t := false) rfl rfl) ?_
          refine SxL.nil (SxN.then_ ?_)
          cases c50
          · refine SxC.condF rfl (SxC.skip (SxN.then_ (SxC.seq (SxC.region ?_))))
            refine SxL.val trivial rfl rfl (fun ρ w E H => ex_load (cs := msL x.1 (.slice A2 x.1.votes.length k2) (.slice B2 x.1.items.length l2)) (part := msL x.1 (.slice A2 x.1.votes.length k2) (.slice B2 x.1.items.length l2)) E ((H.get (i := 1) rfl : (madeF _ _ _ _ _).φ w).1) rfl rfl Tryz.underlying33 rfl sz_palaver_api_Msg rfl rfl) ?_
            refine SxL.store (i := 3) trivial rfl rfl rfl rfl rfl sz_palaver_api_Msg rfl rfl rfl ?_
            refine SxL.val trivial rfl rfl (fun ρ w E H => ex_assign E rfl rfl) ?_
            refine SxL.nil (SxN.then_ (SxC.ret ?_))
            refine SxX.done _ (fun a w K H => resN K [.agg #[.int .u8 (x.1.kind : Int), .int .u64 (x.1.bn : Int), .int .u8 (x.1.br : Int), .int .u64 (x.1.base : Int), .int .u64 (x.1.slot : Int), .int .u8 (x.1.node : Int), .string ⟨x.1.value.toArray⟩, .slice A2 x.1.votes.length k2, .slice B2 x.1.items.length l2, .int .u8 (x.1.cmd.client : Int), .int .u32 (x.1.cmd.seq : Int), .int .u8 (x.1.cmd.kind : Int), .string ⟨x.1.cmd.key.toArray⟩, .string ⟨x.1.cmd.old.toArray⟩, .string ⟨x.1.cmd.new.toArray⟩, .int .u8 (x.1.cmd.set : Int), .int .u8 (x.1.code : Int), .string ⟨x.1.text.toArray⟩], .int .i64 0] rfl ⟨⟨_, rfl, blk_loadVar (H.get (i := 3) rfl) Tryz.underlying33 rfl sz_palaver_api_Msg⟩, rfl, trivial⟩) (fun w H => ?_)
            have ht := takeM_3 hF (by have h := hc18; simp [cmpB] at h; omega) (by have h := hc24; simp [cmpB] at h; omega) hp29 hxe
            rw [if_pos ⟨by have h := hc46; simp [cmpB] at h; omega, by cases hb : checkB x.1 with | true => rfl | false => (have h := hc50; rw [hb] at h; simp [cmpB] at h)⟩] at ht
            unfold TakeRet
            rw [ht]
            have hM : Made _ _ _ _ _ w := H.get (i := 1) rfl
            exact ⟨_, _, rfl, hM.2.1, hM.2.2, H.toBelow ⟨(fun g hg => by rw [List.mem_singleton.1 hg]; exact hgr), (made_fresh hg2 hV hI), hpf, (fun g hg => by rw [List.mem_singleton.1 hg]; exact hg1), trivial⟩⟩
          · refine SxC.condT rfl (SxC.seq (SxC.region ?_))
            refine SxL.val trivial rfl rfl (fun ρ w E H => ex_build (cs := [.int .u8 0, .int .u64 0, .int .u8 0, .int .u64 0, .int .u64 0, .int .u8 0, .string ⟨[].toArray⟩, .slice none 0 0, .slice none 0 0, .int .u8 0, .int .u32 0, .int .u8 0, .string ⟨[].toArray⟩, .string ⟨[].toArray⟩, .string ⟨[].toArray⟩, .int .u8 0, .int .u8 0, .string ⟨[].toArray⟩]) E rfl rfl (by kernel_rfl)) ?_
            refine SxL.store (i := 3) trivial rfl rfl rfl rfl rfl sz_palaver_api_Msg rfl rfl rfl ?_
            refine SxL.val trivial rfl rfl (fun ρ w E H => ex_assign E rfl rfl) ?_
            refine SxL.nil (SxN.then_ (SxC.ret (SxX.thenR ?_)))
            refine SxX.done _ (fun a w K H => resN K [.agg #[.int .u8 0, .int .u64 0, .int .u8 0, .int .u64 0, .int .u64 0, .int .u8 0, .string ⟨[].toArray⟩, .slice none 0 0, .slice none 0 0, .int .u8 0, .int .u32 0, .int .u8 0, .string ⟨[].toArray⟩, .string ⟨[].toArray⟩, .string ⟨[].toArray⟩, .int .u8 0, .int .u8 0, .string ⟨[].toArray⟩], .int .i64 4] rfl ⟨⟨_, rfl, blk_loadVar (H.get (i := 3) rfl) Tryz.underlying33 rfl sz_palaver_api_Msg⟩, rfl, trivial⟩) (fun w H => ?_)
            have ht := takeM_3 hF (by have h := hc18; simp [cmpB] at h; omega) (by have h := hc24; simp [cmpB] at h; omega) hp29 hxe
            rw [if_neg (fun hh => by have h := hc50; rw [hh.2] at h; simp [cmpB] at h)] at ht
            unfold TakeRet
            rw [ht]
            exact ⟨.slice none 0 0, .slice none 0 0, rfl, World.ownsRow_nil _ _ _ _, World.ownsRow_nil _ _ _ _, H.toBelow ⟨(fun g hg => by rw [List.mem_singleton.1 hg]; exact hgr), (made_fresh hg2 hV hI), hpf, (fun g hg => by rw [List.mem_singleton.1 hg]; exact hg1), trivial⟩⟩
        · refine SxL.off ⟨_, _, _, rfl, rfl, rfl, nofun⟩ rfl rfl ?_
          iterate 2 refine SxL.off ⟨_, _, _, rfl, rfl, rfl, nofun⟩ rfl rfl ?_
          refine SxL.val trivial rfl rfl (fun ρ w E H => ex_pick E rfl (t := true) rfl rfl) ?_
          refine SxL.nil (SxN.then_ (SxC.condT rfl (SxC.seq (SxC.region ?_))))
          refine SxL.val trivial rfl rfl (fun ρ w E H => ex_build (cs := [.int .u8 0, .int .u64 0, .int .u8 0, .int .u64 0, .int .u64 0, .int .u8 0, .string ⟨[].toArray⟩, .slice none 0 0, .slice none 0 0, .int .u8 0, .int .u32 0, .int .u8 0, .string ⟨[].toArray⟩, .string ⟨[].toArray⟩, .string ⟨[].toArray⟩, .int .u8 0, .int .u8 0, .string ⟨[].toArray⟩]) E rfl rfl (by kernel_rfl)) ?_
          refine SxL.store (i := 3) trivial rfl rfl rfl rfl rfl sz_palaver_api_Msg rfl rfl rfl ?_
          refine SxL.val trivial rfl rfl (fun ρ w E H => ex_assign E rfl rfl) ?_
          refine SxL.nil (SxN.then_ (SxC.ret (SxX.thenR ?_)))
          refine SxX.done _ (fun a w K H => resN K [.agg #[.int .u8 0, .int .u64 0, .int .u8 0, .int .u64 0, .int .u64 0, .int .u8 0, .string ⟨[].toArray⟩, .slice none 0 0, .slice none 0 0, .int .u8 0, .int .u32 0, .int .u8 0, .string ⟨[].toArray⟩, .string ⟨[].toArray⟩, .string ⟨[].toArray⟩, .int .u8 0, .int .u8 0, .string ⟨[].toArray⟩], .int .i64 4] rfl ⟨⟨_, rfl, blk_loadVar (H.get (i := 3) rfl) Tryz.underlying33 rfl sz_palaver_api_Msg⟩, rfl, trivial⟩) (fun w H => ?_)
          have ht := takeM_3 hF (by have h := hc18; simp [cmpB] at h; omega) (by have h := hc24; simp [cmpB] at h; omega) hp29 hxe
          rw [if_neg (fun hh => by have h := hc46; simp [cmpB] at h; omega)] at ht
          unfold TakeRet
          rw [ht]
          exact ⟨.slice none 0 0, .slice none 0 0, rfl, World.ownsRow_nil _ _ _ _, World.ownsRow_nil _ _ _ _, H.toBelow ⟨(fun g hg => by rw [List.mem_singleton.1 hg]; exact hgr), (made_fresh hg2 hV hI), hpf, (fun g hg => by rw [List.mem_singleton.1 hg]; exact hg1), trivial⟩⟩
      · refine SxC.condT rfl (SxC.skip (SxN.then_ (SxC.seq (SxC.block (SxC.seq ?_)))))
        have hkl : k < q.length := by have h := hc36; simp [cmpB] at h; omega
        obtain ⟨⟨p, gc⟩, hx⟩ : ∃ x, q[k]? = some x := ⟨_, List.getElem?_eq_getElem hkl⟩
        obtain rfl := hpA (by rintro rfl; cases hx)
        have hp : (partsOf p29.1)[k]? = some p := by rw [← hq, List.getElem?_map, hx]; rfl
        have hql : q.length ≤ 4 := by have h := (parts_two p29.1).2; rw [← hq, List.length_map] at h; exact h
        refine SxC.region ?_
        refine SxL.val (v := .pointer (some ((⟨gb, 0, none⟩ : Addr).add (k * 4)))) trivial rfl rfl (fun ρ w E H => ex_index (i := k) E rfl Tryz.underlying95 sz_palaver_msg_part rfl rfl hkl) ?_
        refine SxL.val (v := .agg #[.func (.func p.putF) #[] #[], .func (.func p.takeF) #[] #[], .func (.func p.moveF) #[] #[], .func (.func p.mayF) #[] (p.cap gc).toArray]) trivial rfl rfl (fun ρ w E H => ex_loadX (cs := [.func (.func p.putF) #[] #[], .func (.func p.takeF) #[] #[], .func (.func p.moveF) #[] #[], .func (.func p.mayF) #[] (p.cap gc).toArray]) E (parts_row (H.get (i := 2) rfl) hx) rfl rfl Tryz.underlying101 rfl sz_palaver_msg_part) ?_
        refine SxL.new (cs := [.nilFunc, .nilFunc, .nilFunc, .nilFunc]) trivial rfl rfl (fun ρ w E H => ex_alloc rfl zr_palaver_msg_part rfl) fun g3 hg3 => ?_
        refine SxL.store (i := 0) trivial rfl rfl rfl rfl rfl sz_palaver_msg_part rfl rfl rfl ?_
        refine SxL.nil (SxN.then_ (SxC.region ?_))
        refine SxL.val (v := .pointer (some ⟨g3, 1, none⟩)) trivial rfl rfl (fun ρ w E H => ex_field E rfl fa_palaver_msg_part_1 rfl rfl) ?_
        refine SxL.val trivial rfl rfl (fun ρ w E H => ex_load1 E (H.get (i := 0) rfl) rfl rfl Tryz.underlying98 rfl rfl) ?_
        refine SxL.val trivial rfl rfl (fun ρ w E H => ex_move E rfl rfl) ?_
        refine SxL.call2 (fun _ _ => .tuple #[]) (fun V2 I2 => OwnIn w [] V2 ∧ OwnIn w [] I2) (fun V2 I2 => _) trivial rfl rfl (fun ρ w E => ex_callV E (enters_take p) rfl rfl rfl rfl) (call_take (x := x) (x' := p.take x) [1, 2, 0, 3, 4] rfl (by decide) ⟨.inl rfl, .inl rfl, .inl rfl, .inl rfl, .inl rfl, trivial⟩ hgr hg2 hV hI (fun w H hne => take_all p _ gr g2 x.2 x.1 V I w (H.get (i := 0) rfl) (H.get (i := 1) rfl) hne H.os.size hGG)) fun V2 I2 hVI => ?_
        refine SxL.nil (SxN.block (SxN.then_ (SxC.region ?_)))
        refine SxL.val (v := .int .i64 ((k + 1 : Nat) : Int)) trivial rfl rfl (fun ρ w E H => ex_add E rfl rfl rfl (by rw [IntKind.wrap_i64]; omega)) ?_
        refine SxL.val trivial rfl rfl (fun ρ w E H => ex_move E rfl rfl) ?_
        refine SxL.nil ?_
        refine SxN.back (gk - 1) (k + 1, Pt.take p x, V2, I2) (by omega) ⟨by omega, by rw [taken_snoc hp, hxk], take_grows p x hGG, hVI.1, hVI.2⟩ ⟨rfl, rfl, rfl, rfl, rfl, rfl, rfl, trivial⟩ [0, 1, 3, 4] rfl (by decide) ⟨.inl rfl, .inl rfl, .inr (fun g hg => by rw [List.mem_singleton.1 hg]; exact hg3), .inl rfl, .inl rfl, trivial⟩
    · refine SxC.condT rfl (SxC.seq (SxC.region ?_))
      refine SxL.val trivial rfl rfl (fun ρ w E H => ex_build (cs := [.int .u8 0, .int .u64 0, .int .u8 0, .int .u64 0, .int .u64 0, .int .u8 0, .string ⟨[].toArray⟩, .slice none 0 0, .slice none 0 0, .int .u8 0, .int .u32 0, .int .u8 0, .string ⟨[].toArray⟩, .string ⟨[].toArray⟩, .string ⟨[].toArray⟩, .int .u8 0, .int .u8 0, .string ⟨[].toArray⟩]) E rfl rfl (by kernel_rfl)) ?_
      refine SxL.store (i := 0) trivial rfl rfl rfl rfl rfl sz_palaver_api_Msg rfl rfl rfl ?_
      refine SxL.val trivial rfl rfl (fun ρ w E H => ex_assign E rfl rfl) ?_
      refine SxL.nil (SxN.then_ (SxC.ret (SxX.thenR ?_)))
      refine SxX.done _ (fun a w K H => resN K [.agg #[.int .u8 0, .int .u64 0, .int .u8 0, .int .u64 0, .int .u64 0, .int .u8 0, .string ⟨[].toArray⟩, .slice none 0 0, .slice none 0 0, .int .u8 0, .int .u32 0, .int .u8 0, .string ⟨[].toArray⟩, .string ⟨[].toArray⟩, .string ⟨[].toArray⟩, .int .u8 0, .int .u8 0, .string ⟨[].toArray⟩], .int .i64 4] rfl ⟨⟨_, rfl, blk_loadVar (H.get (i := 0) rfl) Tryz.underlying33 rfl sz_palaver_api_Msg⟩, rfl, trivial⟩) (fun w H => ?_)
      have ht : takeM s = (ms0 0, 4) := takeM_2 hF (by have h := hc18; simp [cmpB] at h; omega) (by have h := hc24; simp [cmpB] at h; omega)
      unfold TakeRet
      rw [ht]
      exact ⟨.slice none 0 0, .slice none 0 0, rfl, World.ownsRow_nil _ _ _ _, World.ownsRow_nil _ _ _ _, H.toBelow ⟨(fun g hg => by rw [List.mem_singleton.1 hg]; exact hg1), trivial⟩⟩
  · refine SxC.condT rfl (SxC.seq (SxC.region ?_))
    refine SxL.val trivial rfl rfl (fun ρ w E H => ex_build (cs := [.int .u8 0, .int .u64 0, .int .u8 0, .int .u64 0, .int .u64 0, .int .u8 0, .string ⟨[].toArray⟩, .slice none 0 0, .slice none 0 0, .int .u8 0, .int .u32 0, .int .u8 0, .string ⟨[].toArray⟩, .string ⟨[].toArray⟩, .string ⟨[].toArray⟩, .int .u8 0, .int .u8 0, .string ⟨[].toArray⟩]) E rfl rfl (by kernel_rfl)) ?_
    refine SxL.val trivial rfl rfl (fun ρ w E H => ex_move E rfl rfl) ?_
    refine SxL.store (i := 0) trivial rfl rfl rfl rfl rfl sz_palaver_api_Msg rfl rfl rfl ?_
    refine SxL.val trivial rfl rfl (fun ρ w E H => ex_assign E rfl rfl) ?_
    refine SxL.nil (SxN.then_ (SxC.ret (SxX.thenR ?_)))
    refine SxX.done _ (fun a w K H => resN K [.agg #[.int .u8 0, .int .u64 0, .int .u8 0, .int .u64 0, .int .u64 0, .int .u8 0, .string ⟨[].toArray⟩, .slice none 0 0, .slice none 0 0, .int .u8 0, .int .u32 0, .int .u8 0, .string ⟨[].toArray⟩, .string ⟨[].toArray⟩, .string ⟨[].toArray⟩, .int .u8 0, .int .u8 0, .string ⟨[].toArray⟩], .int .i64 (fe : Int)] rfl ⟨⟨_, rfl, blk_loadVar (H.get (i := 0) rfl) Tryz.underlying33 rfl sz_palaver_api_Msg⟩, rfl, trivial⟩) (fun w H => ?_)
    have ht : takeM s = (ms0 0, fe) := takeM_1 hF (by have h := hc18; simp [cmpB] at h; omega)
    unfold TakeRet
    rw [ht]
    exact ⟨.slice none 0 0, .slice none 0 0, rfl, World.ownsRow_nil _ _ _ _, World.ownsRow_nil _ _ _ _, H.toBelow ⟨(fun g hg => by rw [List.mem_singleton.1 hg]; exact hg1), trivial⟩⟩
end Go.Proofs.YteiaiilfekojfaaGreat.Msg
end
section
set_option linter.unusedVariables false
set_option linter.unusedSimpArgs false
namespace Go.Proofs.YteiaiilfekojfaaGreat.Msg
open Go.RowKit Sx Wire DrawInv
theorem call_takeM {w0 : World} {L : List Ft} {m : Ms} {z : Int} (s : List UInt8) (hs : s.length ≤ 100000) {e : Nat} (h : takeM s = (m, e)) (hz : (e : Int) = z) : ∀ w, Hp w0 L w → Calls Tryz.prog 19 #[.string ⟨s.toArray⟩] w fun E w' => ∃ V I, E = .returned (.tuple #[.agg (msL m V I).toArray, .int .i64 z]) ∧ (OwnIn w0 [] V ∧ OwnIn w0 [] I) ∧
    Hp w0 (rowX [] w0.heap.size 92 4 V m.votes.length (m.votes.flatMap voL) :: rowX [] w0.heap.size 94 2 I m.items.length (m.items.flatMap imL) :: L) w' := fun w H => (take_any s w hs).mono fun E w' hT => by
  subst hz
  unfold TakeRet at hT
  rw [h] at hT
  obtain ⟨V, I, h1, h2, h3, h4⟩ := hT
  have f1 : OwnIn w0 [] V := fun b hb => .inr (Nat.le_trans H.os.size (own_lt h2 b hb).1)
  have f2 : OwnIn w0 [] I := fun b hb => .inr (Nat.le_trans H.os.size (own_lt h3 b hb).1)
  refine ⟨V, I, h1, ⟨f1, f2⟩, ?_⟩
  have H2 := H.add h4 (rowX [] w0.heap.size 94 2 I m.items.length (m.items.flatMap imL)) (rowX_loc _ _ _ _ _ _ _) (fun g hg => by
    have hg : g ∈ I.ownBlock.toList := by simpa [rowX] using hg
    exact ⟨(own_lt h3 g hg).2, (own_lt h3 g hg).1⟩) (own_base h3 H.os.size)
  refine H2.know _ (rowX_loc _ _ _ _ _ _ _) (fun g hg => ?_) (own_base h2 H.os.size)
  have hg : g ∈ V.ownBlock.toList := by simpa [rowX] using hg
  refine ⟨(own_lt h2 g hg).2, fun q hq hgq => ?_⟩
  rcases List.mem_cons.1 hq with rfl | hq
  · have hgq : g ∈ I.ownBlock.toList := by simpa [rowX] using hgq
    exact own_own h2 h3 (by decide) g hg hgq
  · have h5 := (H.ok q hq).2.1 g hgq
    have h6 := (own_lt h2 g hg).1
    omega
theorem none_rows (w : World) (m : Ms) (hv : m.votes = []) (hi : m.items = []) : MsRows w m none none := ⟨by rw [hv]; exact Rows.nil _ _ _ _, by rw [hi]; exact Rows.nil _ _ _ _⟩
theorem wm_fits : Ms.Fits (⟨4, 2, 1, 0, 5, 0, [], [], [], Cmd.cm0, 0, []⟩ : Ms) := ⟨(show 4 < 256 by decide), (show 2 < 18446744073709551616 by decide), (show 1 < 256 by decide), (show 0 < 18446744073709551616 by decide), (show 5 < 18446744073709551616 by decide), (show 0 < 256 by decide), (fun v h => by cases h), (fun v h => by cases h), Cmd.cm0_fits, (show 0 < 256 by decide)⟩
theorem wm_lim : Ms.Lim (⟨4, 2, 1, 0, 5, 0, [], [], [], Cmd.cm0, 0, []⟩ : Ms) := ⟨(show 0 ≤ 300 by decide), (show 0 ≤ 100 by decide), (show 0 ≤ 100 by decide), (fun v h => by cases h), (fun v h => by cases h), (show 0 ≤ 300 by decide), (show 0 ≤ 300 by decide), (show 0 ≤ 300 by decide), (show 0 ≤ 300 by decide)⟩
theorem ms0_fits (k : Nat) (hk : k < 256) : (ms0 k).Fits := (ms0_ok k hk).fits
theorem ms0_lim (k : Nat) : (ms0 k).Lim := ⟨(show 0 ≤ 300 by decide), (show 0 ≤ 100 by decide), (show 0 ≤ 100 by decide), (fun v h => by cases h), (fun v h => by cases h), (show 0 ≤ 300 by decide), (show 0 ≤ 300 by decide), (show 0 ≤ 300 by decide), (show 0 ≤ 300 by decide)⟩
theorem wm_check : checkB (⟨4, 2, 1, 0, 5, 0, [], [], [], Cmd.cm0, 0, []⟩ : Ms) = true := by decide
theorem wm_inside : insideB (⟨4, 2, 1, 0, 5, 0, [], [], [], Cmd.cm0, 0, []⟩ : Ms) = [4, 2, 1, 5] := by decide
theorem ms0_check : checkB (ms0 0) = false := by decide
theorem wm_put : ∃ s : List UInt8, putM (⟨4, 2, 1, 0, 5, 0, [], [], [], Cmd.cm0, 0, []⟩ : Ms) = (s, 0) ∧ s.length = 13 ∧ s.drop 9 = [4, 2, 1, 5] ∧ takeM s = ((⟨4, 2, 1, 0, 5, 0, [], [], [], Cmd.cm0, 0, []⟩ : Ms), 0) := by
  have h1 := putM_is_ok wm_check (by rw [wm_inside]; decide)
  have h2 := takeM_put _ wm_fits wm_lim.short wm_check (by rw [wm_inside]; decide)
  rw [wm_inside] at h1 h2
  refine ⟨_, h1, ?_, ?_, h2⟩
  · have h8 := Frame.leB_length 8 (Frame.crcSum [4, 2, 1, 5])
    show (numB 4 ++ (Frame.leB 8 (Frame.crcSum [4, 2, 1, 5]) ++ [4, 2, 1, 5])).length = 13
    rw [List.length_append, List.length_append, h8]
    rfl
  · have h8 := Frame.leB_length 8 (Frame.crcSum [4, 2, 1, 5])
    show (numB 4 ++ (Frame.leB 8 (Frame.crcSum [4, 2, 1, 5]) ++ [4, 2, 1, 5])).drop 9 = _
    rw [← List.append_assoc]
    exact List.drop_left' (by rw [List.length_append, h8]; rfl)

set_option maxRecDepth 100000 in
set_option maxHeartbeats 4000000 in
theorem wakes_any   (w : World) : Calls Tryz.prog 10 #[] w fun e w' => e = .returned (.bool true) ∧ Below w.heap.size w w' := by
  obtain ⟨sw, hwp, hwl, hwd, hwt⟩ := wm_put
  refine sx_enter (n := 49) _ Tryz.func10 rfl rfl rfl (Hp.start w) ?_
  refine SxC.seq (SxC.region ?_)
  refine SxL.val trivial rfl rfl (fun ρ w E H => ex_assign E rfl rfl) ?_
  refine SxL.nil (SxN.then_ (SxC.seq (SxC.region ?_)))
  refine SxL.val trivial rfl rfl (fun ρ w E H => ex_build (cs := [.int .u64 2, .int .u8 1]) E rfl rfl (by kernel_rfl)) ?_
  refine SxL.val trivial rfl rfl (fun ρ w E H => ex_build (cs := [.int .u8 4, .int .u64 2, .int .u8 1, .int .u64 0, .int .u64 5, .int .u8 0, .string ⟨[].toArray⟩, .slice none 0 0, .slice none 0 0, .int .u8 0, .int .u32 0, .int .u8 0, .string ⟨[].toArray⟩, .string ⟨[].toArray⟩, .string ⟨[].toArray⟩, .int .u8 0, .int .u8 0, .string ⟨[].toArray⟩]) E rfl rfl (by kernel_rfl)) ?_
  refine SxL.new (cs := [.int .u8 0, .int .u64 0, .int .u8 0, .int .u64 0, .int .u64 0, .int .u8 0, .string ⟨[].toArray⟩, .slice none 0 0, .slice none 0 0, .int .u8 0, .int .u32 0, .int .u8 0, .string ⟨[].toArray⟩, .string ⟨[].toArray⟩, .string ⟨[].toArray⟩, .int .u8 0, .int .u8 0, .string ⟨[].toArray⟩]) trivial rfl rfl (fun ρ w E H => ex_alloc rfl zr_palaver_api_Msg rfl) fun g1 hg1 => ?_
  refine SxL.store (i := 0) trivial rfl rfl rfl rfl rfl sz_palaver_api_Msg rfl rfl rfl ?_
  refine SxL.nil (SxN.then_ (SxC.seq (SxC.region ?_)))
  refine SxL.val trivial rfl rfl (fun ρ w E H => ex_load (part := [.int .u8 4, .int .u64 2, .int .u8 1, .int .u64 0, .int .u64 5, .int .u8 0, .string ⟨[].toArray⟩, .slice none 0 0, .slice none 0 0, .int .u8 0, .int .u32 0, .int .u8 0, .string ⟨[].toArray⟩, .string ⟨[].toArray⟩, .string ⟨[].toArray⟩, .int .u8 0, .int .u8 0, .string ⟨[].toArray⟩]) E (H.get (i := 0) rfl) rfl rfl Tryz.underlying33 rfl sz_palaver_api_Msg rfl rfl) ?_
  refine SxL.callB (v := .tuple #[.string ⟨sw.toArray⟩, .int .i64 0]) trivial rfl rfl (fun ρ w E => ex_call E en_palaver_msg_Put rfl rfl) (fun w H => (put_any (⟨4, 2, 1, 0, 5, 0, [], [], [], Cmd.cm0, 0, []⟩ : Ms) none none 0 0 w wm_fits (wm_lim.small wm_fits) (none_rows _ _ rfl rfl)).mono fun _ _ h => ⟨by rw [h.1, hwp]; rfl, h.2⟩) ?_
  refine SxL.val trivial rfl rfl (fun ρ w E H => ex_move E rfl rfl) ?_
  iterate 2 refine SxL.val trivial rfl rfl (fun ρ w E H => ex_extract E rfl rfl rfl) ?_
  iterate 2 refine SxL.val trivial rfl rfl (fun ρ w E H => ex_assign E rfl rfl) ?_
  refine SxL.nil (SxN.then_ (SxC.seq (SxC.region ?_)))
  refine SxL.val trivial rfl rfl (fun ρ w E H => ex_move E rfl rfl) ?_
  refine SxL.call2 (fun V I => .tuple #[.agg (msL (⟨4, 2, 1, 0, 5, 0, [], [], [], Cmd.cm0, 0, []⟩ : Ms) V I).toArray, .int .i64 0]) (fun V I => OwnIn w [] V ∧ OwnIn w [] I) (fun V I => _) trivial rfl rfl (fun ρ w E => ex_call E en_palaver_msg_Take rfl rfl) (call_takeM sw (by omega) hwt rfl) fun V13 I13 hVI13 => ?_
  refine SxL.with (fun W H => own_is_slice (H.get (i := 0) rfl)) ?_
  rintro ⟨A13, k13, rfl⟩
  refine SxL.with (fun W H => own_is_slice (H.get (i := 1) rfl)) ?_
  rintro ⟨B13, l13, rfl⟩
  refine SxL.val trivial rfl rfl (fun ρ w E H => ex_move E rfl rfl) ?_
  iterate 2 refine SxL.val trivial rfl rfl (fun ρ w E H => ex_extract E rfl rfl rfl) ?_
  refine SxL.new (cs := [.int .u8 0, .int .u64 0, .int .u8 0, .int .u64 0, .int .u64 0, .int .u8 0, .string ⟨[].toArray⟩, .slice none 0 0, .slice none 0 0, .int .u8 0, .int .u32 0, .int .u8 0, .string ⟨[].toArray⟩, .string ⟨[].toArray⟩, .string ⟨[].toArray⟩, .int .u8 0, .int .u8 0, .string ⟨[].toArray⟩]) trivial rfl rfl (fun ρ w E H => ex_alloc rfl zr_palaver_api_Msg rfl) fun g2 hg2 => ?_
  refine SxL.store (i := 0) trivial rfl rfl rfl rfl rfl sz_palaver_api_Msg rfl rfl rfl ?_
  refine SxL.val trivial rfl rfl (fun ρ w E H => ex_assign E rfl rfl) ?_
  refine SxL.nil (SxN.then_ (SxC.seq (SxC.region ?_)))
  refine SxL.val trivial rfl rfl (fun ρ w E H => ex_move E rfl rfl) ?_
  refine SxL.val (v := .bool true) trivial rfl rfl (fun ρ w E H => ex_cmp E rfl rfl rfl rfl (by decide)) ?_
  refine SxL.val trivial rfl rfl (fun ρ w E H => ex_move E rfl rfl) ?_
  refine SxL.val ⟨_, _, rfl, rfl, rfl⟩ rfl rfl (fun ρ w E H => ex_move E rfl rfl) ?_
  refine SxL.val (v := .int .i64 (sw.length : Int)) ⟨_, _, rfl, rfl, rfl⟩ rfl rfl (fun ρ w E H => ex_lenT E rfl Tryz.underlying9 rfl) ?_
  refine SxL.val (v := .bool true) ⟨_, _, rfl, rfl, rfl⟩ rfl rfl (fun ρ w E H => ex_cmp E rfl rfl rfl rfl (by rw [hwl]; decide)) ?_
  refine SxL.val trivial rfl rfl (fun ρ w E H => ex_pick E rfl (t := true) rfl rfl) ?_
  refine SxL.val trivial rfl rfl (fun ρ w E H => ex_move E rfl rfl) ?_
  refine SxL.val ⟨_, _, rfl, rfl, rfl⟩ rfl rfl (fun ρ w E H => ex_move E rfl rfl) ?_
  refine SxL.val (v := .string ⟨[4, 2, 1, 5].toArray⟩) ⟨_, _, rfl, rfl, rfl⟩ rfl rfl (fun ρ w E H => ex_sliceTl (n := 9) (r := [4, 2, 1, 5]) E rfl Tryz.underlying9 rfl rfl (by omega) hwd) ?_
  refine SxL.val (v := .bool true) ⟨_, _, rfl, rfl, rfl⟩ rfl rfl (fun ρ w E H => ex_seql E rfl rfl rfl (by decide)) ?_
  refine SxL.val trivial rfl rfl (fun ρ w E H => ex_pick E rfl (t := true) rfl rfl) ?_
  refine SxL.val trivial rfl rfl (fun ρ w E H => ex_move E rfl rfl) ?_
  refine SxL.val ⟨_, _, rfl, rfl, rfl⟩ rfl rfl (fun ρ w E H => ex_move E rfl rfl) ?_
  refine SxL.val (v := .bool true) ⟨_, _, rfl, rfl, rfl⟩ rfl rfl (fun ρ w E H => ex_cmp E rfl rfl rfl rfl (by decide)) ?_
  refine SxL.val trivial rfl rfl (fun ρ w E H => ex_pick E rfl (t := true) rfl rfl) ?_
  refine SxL.val trivial rfl rfl (fun ρ w E H => ex_move E rfl rfl) ?_
  refine SxL.val ⟨_, _, rfl, rfl, rfl⟩ rfl rfl (fun ρ w E H => ex_load (part := [.int .u8 ((⟨4, 2, 1, 0, 5, 0, [], [], [], Cmd.cm0, 0, []⟩ : Ms).kind : Int), .int .u64 ((⟨4, 2, 1, 0, 5, 0, [], [], [], Cmd.cm0, 0, []⟩ : Ms).bn : Int), .int .u8 ((⟨4, 2, 1, 0, 5, 0, [], [], [], Cmd.cm0, 0, []⟩ : Ms).br : Int), .int .u64 ((⟨4, 2, 1, 0, 5, 0, [], [], [], Cmd.cm0, 0, []⟩ : Ms).base : Int), .int .u64 ((⟨4, 2, 1, 0, 5, 0, [], [], [], Cmd.cm0, 0, []⟩ : Ms).slot : Int), .int .u8 ((⟨4, 2, 1, 0, 5, 0, [], [], [], Cmd.cm0, 0, []⟩ : Ms).node : Int), .string ⟨((⟨4, 2, 1, 0, 5, 0, [], [], [], Cmd.cm0, 0, []⟩ : Ms).value).toArray⟩, .slice A13 (⟨4, 2, 1, 0, 5, 0, [], [], [], Cmd.cm0, 0, []⟩ : Ms).votes.length k13, .slice B13 (⟨4, 2, 1, 0, 5, 0, [], [], [], Cmd.cm0, 0, []⟩ : Ms).items.length l13, .int .u8 ((⟨4, 2, 1, 0, 5, 0, [], [], [], Cmd.cm0, 0, []⟩ : Ms).cmd.client : Int), .int .u32 ((⟨4, 2, 1, 0, 5, 0, [], [], [], Cmd.cm0, 0, []⟩ : Ms).cmd.seq : Int), .int .u8 ((⟨4, 2, 1, 0, 5, 0, [], [], [], Cmd.cm0, 0, []⟩ : Ms).cmd.kind : Int), .string ⟨((⟨4, 2, 1, 0, 5, 0, [], [], [], Cmd.cm0, 0, []⟩ : Ms).cmd.key).toArray⟩, .string ⟨((⟨4, 2, 1, 0, 5, 0, [], [], [], Cmd.cm0, 0, []⟩ : Ms).cmd.old).toArray⟩, .string ⟨((⟨4, 2, 1, 0, 5, 0, [], [], [], Cmd.cm0, 0, []⟩ : Ms).cmd.new).toArray⟩, .int .u8 ((⟨4, 2, 1, 0, 5, 0, [], [], [], Cmd.cm0, 0, []⟩ : Ms).cmd.set : Int), .int .u8 ((⟨4, 2, 1, 0, 5, 0, [], [], [], Cmd.cm0, 0, []⟩ : Ms).code : Int), .string ⟨((⟨4, 2, 1, 0, 5, 0, [], [], [], Cmd.cm0, 0, []⟩ : Ms).text).toArray⟩]) E (H.get (i := 0) rfl) rfl rfl Tryz.underlying33 rfl sz_palaver_api_Msg rfl rfl) ?_
  refine SxL.val ⟨_, _, rfl, rfl, rfl⟩ rfl rfl (fun ρ w E H => ex_load (part := [.int .u8 4, .int .u64 2, .int .u8 1, .int .u64 0, .int .u64 5, .int .u8 0, .string ⟨[].toArray⟩, .slice none 0 0, .slice none 0 0, .int .u8 0, .int .u32 0, .int .u8 0, .string ⟨[].toArray⟩, .string ⟨[].toArray⟩, .string ⟨[].toArray⟩, .int .u8 0, .int .u8 0, .string ⟨[].toArray⟩]) E (H.get (i := 3) rfl) rfl rfl Tryz.underlying33 rfl sz_palaver_api_Msg rfl rfl) ?_
  refine SxL.callB (v := .bool true) ⟨_, _, rfl, rfl, rfl⟩ rfl rfl (fun ρ w E => ex_call E en_palaver_msg_Same rfl rfl) (fun w H => (same_any (⟨4, 2, 1, 0, 5, 0, [], [], [], Cmd.cm0, 0, []⟩ : Ms) (⟨4, 2, 1, 0, 5, 0, [], [], [], Cmd.cm0, 0, []⟩ : Ms) A13 B13 none none k13 l13 0 0 w ⟨own_read voL_len (by decide) (H.get (i := 1) rfl), own_read imL_len (by decide) (H.get (i := 2) rfl)⟩ (none_rows _ _ rfl rfl) (by decide) (by decide)).mono fun _ _ h => ⟨by rw [h.1]; simp, h.2⟩) ?_
  refine SxL.val trivial rfl rfl (fun ρ w E H => ex_pick E rfl (t := true) rfl rfl) ?_
  refine SxL.val trivial rfl rfl (fun ρ w E H => ex_move E rfl rfl) ?_
  refine SxL.val ⟨_, _, rfl, rfl, rfl⟩ rfl rfl (fun ρ w E H => ex_build (cs := [.int .u8 0, .int .u64 0, .int .u8 0, .int .u64 0, .int .u64 0, .int .u8 0, .string ⟨[].toArray⟩, .slice none 0 0, .slice none 0 0, .int .u8 0, .int .u32 0, .int .u8 0, .string ⟨[].toArray⟩, .string ⟨[].toArray⟩, .string ⟨[].toArray⟩, .int .u8 0, .int .u8 0, .string ⟨[].toArray⟩]) E rfl rfl (by kernel_rfl)) ?_
  refine SxL.callB (v := .int .i64 2) ⟨_, _, rfl, rfl, rfl⟩ rfl rfl (fun ρ w E => ex_call E en_palaver_msg_Check rfl rfl) (fun w H => (check_any (ms0 0) none none 0 0 w (ms0_fits 0 (by decide)) ((ms0_lim 0).small (ms0_fits 0 (by decide))) (none_rows _ _ rfl rfl)).mono fun _ _ h => ⟨by rw [h.1, ms0_check]; rfl, h.2⟩) ?_
  refine SxL.val (v := .bool true) ⟨_, _, rfl, rfl, rfl⟩ rfl rfl (fun ρ w E H => ex_cmp E rfl rfl rfl rfl (by decide)) ?_
  refine SxL.val trivial rfl rfl (fun ρ w E H => ex_pick E rfl (t := true) rfl rfl) ?_
  refine SxL.val trivial rfl rfl (fun ρ w E H => ex_move E rfl rfl) ?_
  refine SxL.val ⟨_, _, rfl, rfl, rfl⟩ rfl rfl (fun ρ w E H => ex_load (part := [.int .u8 4, .int .u64 2, .int .u8 1, .int .u64 0, .int .u64 5, .int .u8 0, .string ⟨[].toArray⟩, .slice none 0 0, .slice none 0 0, .int .u8 0, .int .u32 0, .int .u8 0, .string ⟨[].toArray⟩, .string ⟨[].toArray⟩, .string ⟨[].toArray⟩, .int .u8 0, .int .u8 0, .string ⟨[].toArray⟩]) E (H.get (i := 3) rfl) rfl rfl Tryz.underlying33 rfl sz_palaver_api_Msg rfl rfl) ?_
  refine SxL.callB (v := .int .i64 0) ⟨_, _, rfl, rfl, rfl⟩ rfl rfl (fun ρ w E => ex_call E en_palaver_msg_Check rfl rfl) (fun w H => (check_any (⟨4, 2, 1, 0, 5, 0, [], [], [], Cmd.cm0, 0, []⟩ : Ms) none none 0 0 w wm_fits (wm_lim.small wm_fits) (none_rows _ _ rfl rfl)).mono fun _ _ h => ⟨by rw [h.1, wm_check]; rfl, h.2⟩) ?_
  refine SxL.val (v := .bool true) ⟨_, _, rfl, rfl, rfl⟩ rfl rfl (fun ρ w E H => ex_cmp E rfl rfl rfl rfl (by decide)) ?_
  refine SxL.val trivial rfl rfl (fun ρ w E H => ex_pick E rfl (t := true) rfl rfl) ?_
  refine SxL.val trivial rfl rfl (fun ρ w E H => ex_assign E rfl rfl) ?_
  refine SxL.nil (SxN.then_ (SxC.ret ?_))
  refine SxX.done (.bool true) (fun a w K H => res1 K rfl rfl) (fun w H => ?_)
  exact ⟨rfl, H.toBelow ⟨(fun g hg => by rw [List.mem_singleton.1 hg]; exact hg2), hVI13.1.fresh, hVI13.2.fresh, (fun g hg => by rw [List.mem_singleton.1 hg]; exact hg1), trivial⟩⟩
end Go.Proofs.YteiaiilfekojfaaGreat.Msg
end
section
set_option linter.unusedVariables false
set_option linter.unusedSimpArgs false
namespace Go.Proofs.YteiaiilfekojfaaGreat.Msg
open Go.RowKit Sx Wire DrawInv
theorem _root_.Go.Proofs.YteiaiilfekojfaaGreat.Sx.Hp.nilRow {w0 w : World} {L : List Ft} (H : Hp w0 L w) (e : TypeId) (sz : Nat) : Hp w0 (rowX [] w0.heap.size e sz (.slice none 0 0) 0 [] :: L) w :=
  H.know _ (rowX_loc _ _ _ _ _ _ _) (fun g hg => by simp [rowX, Value.ownBlock] at hg) (World.ownsRow_nil _ _ _ _)
theorem _root_.Go.Proofs.YteiaiilfekojfaaGreat.Sx.SxO.call2 {P : Program} {ops : Array Oper} {Q : Exit → Act → World → Prop} {S : World → Prop} {fuel n : Nat} {listed : Array Bool} {vs : Vs} {w0 : World} {L : List Ft} {α β : Type} {i d f : Nat} {o : Oper} {args : Array Value} (v : α → β → Value) (F : α → β → Prop) (L' : α → β → List Ft) (hi : ops[i]? = some o) (hon : GOn ops vs o.guard) (hd : o.dst = some d) (hdn : Nat.blt d n = true)
    (hr : ∀ ρ w, Env vs ρ → (execOp ρ o).run P w = .ok (.enter f args) w) (hc : ∀ w, Hp w0 L w → Calls P f args w fun e w' => ∃ a b, e = .returned (v a b) ∧ F a b ∧ Hp w0 (L' a b) w')
    (hS : ∀ a b w, F a b → Hp w0 (L' a b) w → S w) (h : ∀ a b, F a b → SxA P ops Q S fuel (listed.setIfInBounds i true) n ((d, v a b) :: vs) w0 (L' a b)) : SxO P ops Q S fuel listed i n vs w0 L :=
  SxO.call (σ := α × β) (fun s => v s.1 s.2) (fun s => F s.1 s.2) (fun s => L' s.1 s.2) hi hon hd hdn hr (fun w H => (hc w H).mono fun _ _ ⟨a, b, h1, h2, h3⟩ => ⟨(a, b), h1, h2, h3⟩) (fun s w => hS s.1 s.2 w) fun s => h s.1 s.2

end Go.Proofs.YteiaiilfekojfaaGreat.Msg
end
section
set_option linter.unusedVariables false
set_option linter.unusedSimpArgs false
namespace Go.Proofs.YteiaiilfekojfaaGreat.Msg
open Go.RowKit Sx Wire DrawInv
set_option maxRecDepth 100000 in
set_option maxHeartbeats 4000000 in
theorem rpart_cmd (r : Rd) (xk xn xr xb xs xo da db dk dz xc : Nat) (xv ds dt du xt : List UInt8)  (w : World) (hrl : r.rest.length ≤ 1000000) : Calls Tryz.prog 62 #[.int .u8 99, .agg #[.int .u8 (xk : Int), .int .u64 (xn : Int), .int .u8 (xr : Int), .int .u64 (xb : Int), .int .u64 (xs : Int), .int .u8 (xo : Int), .string ⟨xv.toArray⟩, .slice none 0 0, .slice none 0 0, .int .u8 (da : Int), .int .u32 (db : Int), .int .u8 (dk : Int), .string ⟨ds.toArray⟩, .string ⟨dt.toArray⟩, .string ⟨du.toArray⟩, .int .u8 (dz : Int), .int .u8 (xc : Int), .string ⟨xt.toArray⟩], .agg #[.string ⟨((Rd.doc r).s).toArray⟩, .int .i64 ((Rd.doc r).e : Int)]] w fun e w' => e = .returned (.tuple #[.agg (msL (Pt.take .cmd (⟨xk, xn, xr, xb, xs, xo, xv, [], [], ⟨da, db, dk, ds, dt, du, dz⟩, xc, xt⟩, r)).1 (.slice none 0 0) (.slice none 0 0)).toArray, .agg #[.string ⟨(Rd.doc (Pt.take .cmd (⟨xk, xn, xr, xb, xs, xo, xv, [], [], ⟨da, db, dk, ds, dt, du, dz⟩, xc, xt⟩, r)).2).s.toArray⟩, .int .i64 ((Rd.doc (Pt.take .cmd (⟨xk, xn, xr, xb, xs, xo, xv, [], [], ⟨da, db, dk, ds, dt, du, dz⟩, xc, xt⟩, r)).2).e : Int)]]) ∧ Below w.heap.size w w' := by
  refine sx_enter (n := 179) _ Tryz.func62 rfl rfl rfl (Hp.start w) ?_
  refine SxC.seq (SxC.region ?_)
  refine SxL.new (cs := [.int .u8 (xk : Int), .int .u64 (xn : Int), .int .u8 (xr : Int), .int .u64 (xb : Int), .int .u64 (xs : Int), .int .u8 (xo : Int), .string ⟨xv.toArray⟩, .slice none 0 0, .slice none 0 0, .int .u8 (da : Int), .int .u32 (db : Int), .int .u8 (dk : Int), .string ⟨ds.toArray⟩, .string ⟨dt.toArray⟩, .string ⟨du.toArray⟩, .int .u8 (dz : Int), .int .u8 (xc : Int), .string ⟨xt.toArray⟩]) trivial rfl rfl (fun ρ w E H => ex_box E rfl rfl rfl) fun g1 hg1 => ?_
  refine SxL.new (cs := [.string ⟨((Rd.doc r).s).toArray⟩, .int .i64 ((Rd.doc r).e : Int)]) trivial rfl rfl (fun ρ w E H => ex_box E rfl rfl rfl) fun g2 hg2 => ?_
  refine SxL.new (cs := [.int .u8 0, .int .u64 0, .int .u8 0, .int .u64 0, .int .u64 0, .int .u8 0, .string ⟨[].toArray⟩, .slice none 0 0, .slice none 0 0, .int .u8 0, .int .u32 0, .int .u8 0, .string ⟨[].toArray⟩, .string ⟨[].toArray⟩, .string ⟨[].toArray⟩, .int .u8 0, .int .u8 0, .string ⟨[].toArray⟩]) trivial rfl rfl (fun ρ w E H => ex_alloc rfl zr_palaver_api_Msg rfl) fun g3 hg3 => ?_
  refine SxL.new (cs := [.string ⟨[].toArray⟩, .int .i64 0]) trivial rfl rfl (fun ρ w E H => ex_alloc rfl zr_palaver_palaverref01_Reader rfl) fun g4 hg4 => ?_
  refine SxL.nil (SxN.then_ (SxC.seq (SxC.seq (SxC.region ?_))))
  refine SxL.val trivial rfl rfl (fun ρ w E H => ex_move E rfl rfl) ?_
  refine SxL.nil (SxN.then_ (SxC.block (SxC.seq (SxC.region ?_))))
  refine SxL.val (v := .bool true) trivial rfl rfl (fun ρ w E H => ex_cmp E rfl rfl rfl rfl (by decide)) ?_
  refine SxL.val trivial rfl rfl (fun ρ w E H => ex_assign E rfl rfl) ?_
  refine SxL.nil (SxN.then_ (SxC.condT rfl (SxC.region ?_)))
  refine SxL.val trivial rfl rfl (fun ρ w E H => ex_load (part := [.string ⟨((Rd.doc r).s).toArray⟩, .int .i64 ((Rd.doc r).e : Int)]) E (H.get (i := 2) rfl) rfl rfl Tryz.underlying121 rfl sz_palaver_palaverref01_Reader rfl rfl) ?_
  obtain ⟨p21, hp21⟩ : ∃ p, Cmd.takeC r = p := ⟨_, rfl⟩
  refine SxL.callB (v := .tuple #[.agg #[.int .u8 (p21.1.client : Int), .int .u32 (p21.1.seq : Int), .int .u8 (p21.1.kind : Int), .string ⟨p21.1.key.toArray⟩, .string ⟨p21.1.old.toArray⟩, .string ⟨p21.1.new.toArray⟩, .int .u8 (p21.1.set : Int)], .agg #[.string ⟨((Rd.doc p21.2).s).toArray⟩, .int .i64 ((Rd.doc p21.2).e : Int)]]) trivial rfl rfl (fun ρ w E => ex_call E en_palaver_palaverref09_Take rfl rfl) (fun w H => doccmd_p hp21 (by have q0 := hrl; omega) w) ?_
  refine SxL.val trivial rfl rfl (fun ρ w E H => ex_move E rfl rfl) ?_
  iterate 2 refine SxL.val trivial rfl rfl (fun ρ w E H => ex_extract E rfl rfl rfl) ?_
  refine SxL.val (v := .pointer (some ⟨g1, 9, none⟩)) trivial rfl rfl (fun ρ w E H => ex_field E rfl fa_palaver_api_Msg_8 rfl rfl) ?_
  refine SxL.storeX (i := 3) [.int .u8 (xk : Int), .int .u64 (xn : Int), .int .u8 (xr : Int), .int .u64 (xb : Int), .int .u64 (xs : Int), .int .u8 (xo : Int), .string ⟨xv.toArray⟩, .slice none 0 0, .slice none 0 0, .int .u8 (p21.1.client : Int), .int .u32 (p21.1.seq : Int), .int .u8 (p21.1.kind : Int), .string ⟨p21.1.key.toArray⟩, .string ⟨p21.1.old.toArray⟩, .string ⟨p21.1.new.toArray⟩, .int .u8 (p21.1.set : Int), .int .u8 (xc : Int), .string ⟨xt.toArray⟩] trivial rfl rfl rfl rfl rfl sz_palaver_api_Cmd rfl rfl rfl rfl ?_
  refine SxL.storeX (i := 2) [.string ⟨((Rd.doc p21.2).s).toArray⟩, .int .i64 ((Rd.doc p21.2).e : Int)] trivial rfl rfl rfl rfl rfl sz_palaver_palaverref01_Reader rfl rfl rfl (putL_all _ _ rfl) ?_
  refine SxL.nil (SxN.block (SxN.then_ (SxC.seq ?_)))
  refine SxC.drawnK [] [2, 3] (by kernel_rfl) rfl ⟨(fun g hg => by rw [List.mem_singleton.1 hg]; exact .inr hg4), (fun g hg => by rw [List.mem_singleton.1 hg]; exact .inr hg3), (fun g hg => by rw [List.mem_singleton.1 hg]; exact .inr hg2), (fun g hg => by rw [List.mem_singleton.1 hg]; exact .inr hg1), trivial⟩ ?_
  refine SxA.take (i := 0) rfl (by kernel_rfl) (by kernel_rfl) (by kernel_rfl) rfl rfl (fun _ _ _ h => h) trivial (fun ρ w E H => ex_load (part := [.int .u8 (xk : Int), .int .u64 (xn : Int), .int .u8 (xr : Int), .int .u64 (xb : Int), .int .u64 (xs : Int), .int .u8 (xo : Int), .string ⟨xv.toArray⟩, .slice none 0 0, .slice none 0 0, .int .u8 (p21.1.client : Int), .int .u32 (p21.1.seq : Int), .int .u8 (p21.1.kind : Int), .string ⟨p21.1.key.toArray⟩, .string ⟨p21.1.old.toArray⟩, .string ⟨p21.1.new.toArray⟩, .int .u8 (p21.1.set : Int), .int .u8 (xc : Int), .string ⟨xt.toArray⟩]) E (H.get (i := 1) rfl) rfl rfl Tryz.underlying33 rfl sz_palaver_api_Msg rfl rfl) ?_
  refine SxA.take (i := 1) rfl (by kernel_rfl) (by kernel_rfl) (by kernel_rfl) rfl rfl (fun _ _ _ h => h) trivial (fun ρ w E H => ex_load (part := [.string ⟨((Rd.doc p21.2).s).toArray⟩, .int .i64 ((Rd.doc p21.2).e : Int)]) E (H.get (i := 0) rfl) rfl rfl Tryz.underlying121 rfl sz_palaver_palaverref01_Reader rfl rfl) ?_
  refine SxA.ready [2] (by kernel_rfl) (by simp) ⟨?_, trivial⟩
  refine SxO.storeX (j := 1) [.int .u8 (xk : Int), .int .u64 (xn : Int), .int .u8 (xr : Int), .int .u64 (xb : Int), .int .u64 (xs : Int), .int .u8 (xo : Int), .string ⟨xv.toArray⟩, .slice none 0 0, .slice none 0 0, .int .u8 (p21.1.client : Int), .int .u32 (p21.1.seq : Int), .int .u8 (p21.1.kind : Int), .string ⟨p21.1.key.toArray⟩, .string ⟨p21.1.old.toArray⟩, .string ⟨p21.1.new.toArray⟩, .int .u8 (p21.1.set : Int), .int .u8 (xc : Int), .string ⟨xt.toArray⟩] rfl trivial rfl rfl rfl rfl rfl sz_palaver_api_Msg rfl rfl rfl (putL_all _ _ rfl) (fun w H => H.ks [] [2, 3] rfl ⟨(fun g hg => by rw [List.mem_singleton.1 hg]; exact .inr hg4), (fun g hg => by rw [List.mem_singleton.1 hg]; exact .inr hg3), (fun g hg => by rw [List.mem_singleton.1 hg]; exact .inr hg2), (fun g hg => by rw [List.mem_singleton.1 hg]; exact .inr hg1), trivial⟩) ?_
  refine SxA.ready [3] (by kernel_rfl) (by simp) ⟨?_, trivial⟩
  refine SxO.storeX (j := 0) [.string ⟨((Rd.doc p21.2).s).toArray⟩, .int .i64 ((Rd.doc p21.2).e : Int)] rfl trivial rfl rfl rfl rfl rfl sz_palaver_palaverref01_Reader rfl rfl rfl (putL_all _ _ rfl) (fun w H => H.ks [] [2, 3] rfl ⟨(fun g hg => by rw [List.mem_singleton.1 hg]; exact .inr hg4), (fun g hg => by rw [List.mem_singleton.1 hg]; exact .inr hg3), (fun g hg => by rw [List.mem_singleton.1 hg]; exact .inr hg2), (fun g hg => by rw [List.mem_singleton.1 hg]; exact .inr hg1), trivial⟩) ?_
  refine SxA.done (by kernel_rfl) ?_
  refine SxN.then_ (SxC.ret ?_)
  refine SxX.done _ (fun a w K H => resM K [.agg #[.int .u8 (xk : Int), .int .u64 (xn : Int), .int .u8 (xr : Int), .int .u64 (xb : Int), .int .u64 (xs : Int), .int .u8 (xo : Int), .string ⟨xv.toArray⟩, .slice none 0 0, .slice none 0 0, .int .u8 (p21.1.client : Int), .int .u32 (p21.1.seq : Int), .int .u8 (p21.1.kind : Int), .string ⟨p21.1.key.toArray⟩, .string ⟨p21.1.old.toArray⟩, .string ⟨p21.1.new.toArray⟩, .int .u8 (p21.1.set : Int), .int .u8 (xc : Int), .string ⟨xt.toArray⟩], .agg #[.string ⟨((Rd.doc p21.2).s).toArray⟩, .int .i64 ((Rd.doc p21.2).e : Int)]] rfl rfl ⟨⟨_, rfl, blk_loadVar (H.get (i := 1) rfl) Tryz.underlying33 rfl sz_palaver_api_Msg⟩, ⟨_, rfl, blk_loadVar (H.get (i := 0) rfl) Tryz.underlying121 rfl sz_palaver_palaverref01_Reader⟩, trivial⟩) (fun w H => ?_)
  refine ⟨?_, H.toBelow ⟨(fun g hg => by rw [List.mem_singleton.1 hg]; exact hg4), (fun g hg => by rw [List.mem_singleton.1 hg]; exact hg3), (fun g hg => by rw [List.mem_singleton.1 hg]; exact hg2), (fun g hg => by rw [List.mem_singleton.1 hg]; exact hg1), trivial⟩⟩
  simp only [Pt.take, hp21]
  rfl

set_option maxRecDepth 100000 in
set_option maxHeartbeats 4000000 in
theorem rpart_name (r : Rd) (xk xn xr xb xs xo da db dk dz xc : Nat) (xv ds dt du xt : List UInt8)  (w : World) (hrl : r.rest.length ≤ 1000000) : Calls Tryz.prog 62 #[.int .u8 110, .agg #[.int .u8 (xk : Int), .int .u64 (xn : Int), .int .u8 (xr : Int), .int .u64 (xb : Int), .int .u64 (xs : Int), .int .u8 (xo : Int), .string ⟨xv.toArray⟩, .slice none 0 0, .slice none 0 0, .int .u8 (da : Int), .int .u32 (db : Int), .int .u8 (dk : Int), .string ⟨ds.toArray⟩, .string ⟨dt.toArray⟩, .string ⟨du.toArray⟩, .int .u8 (dz : Int), .int .u8 (xc : Int), .string ⟨xt.toArray⟩], .agg #[.string ⟨((Rd.doc r).s).toArray⟩, .int .i64 ((Rd.doc r).e : Int)]] w fun e w' => e = .returned (.tuple #[.agg (msL (Pt.take .name (⟨xk, xn, xr, xb, xs, xo, xv, [], [], ⟨da, db, dk, ds, dt, du, dz⟩, xc, xt⟩, r)).1 (.slice none 0 0) (.slice none 0 0)).toArray, .agg #[.string ⟨(Rd.doc (Pt.take .name (⟨xk, xn, xr, xb, xs, xo, xv, [], [], ⟨da, db, dk, ds, dt, du, dz⟩, xc, xt⟩, r)).2).s.toArray⟩, .int .i64 ((Rd.doc (Pt.take .name (⟨xk, xn, xr, xb, xs, xo, xv, [], [], ⟨da, db, dk, ds, dt, du, dz⟩, xc, xt⟩, r)).2).e : Int)]]) ∧ Below w.heap.size w w' := by
  refine sx_enter (n := 179) _ Tryz.func62 rfl rfl rfl (Hp.start w) ?_
  refine SxC.seq (SxC.region ?_)
  refine SxL.new (cs := [.int .u8 (xk : Int), .int .u64 (xn : Int), .int .u8 (xr : Int), .int .u64 (xb : Int), .int .u64 (xs : Int), .int .u8 (xo : Int), .string ⟨xv.toArray⟩, .slice none 0 0, .slice none 0 0, .int .u8 (da : Int), .int .u32 (db : Int), .int .u8 (dk : Int), .string ⟨ds.toArray⟩, .string ⟨dt.toArray⟩, .string ⟨du.toArray⟩, .int .u8 (dz : Int), .int .u8 (xc : Int), .string ⟨xt.toArray⟩]) trivial rfl rfl (fun ρ w E H => ex_box E rfl rfl rfl) fun g1 hg1 => ?_
  refine SxL.new (cs := [.string ⟨((Rd.doc r).s).toArray⟩, .int .i64 ((Rd.doc r).e : Int)]) trivial rfl rfl (fun ρ w E H => ex_box E rfl rfl rfl) fun g2 hg2 => ?_
  refine SxL.new (cs := [.int .u8 0, .int .u64 0, .int .u8 0, .int .u64 0, .int .u64 0, .int .u8 0, .string ⟨[].toArray⟩, .slice none 0 0, .slice none 0 0, .int .u8 0, .int .u32 0, .int .u8 0, .string ⟨[].toArray⟩, .string ⟨[].toArray⟩, .string ⟨[].toArray⟩, .int .u8 0, .int .u8 0, .string ⟨[].toArray⟩]) trivial rfl rfl (fun ρ w E H => ex_alloc rfl zr_palaver_api_Msg rfl) fun g3 hg3 => ?_
  refine SxL.new (cs := [.string ⟨[].toArray⟩, .int .i64 0]) trivial rfl rfl (fun ρ w E H => ex_alloc rfl zr_palaver_palaverref01_Reader rfl) fun g4 hg4 => ?_
  refine SxL.nil (SxN.then_ (SxC.seq (SxC.seq (SxC.region ?_))))
  refine SxL.val trivial rfl rfl (fun ρ w E H => ex_move E rfl rfl) ?_
  refine SxL.nil (SxN.then_ (SxC.block (SxC.seq (SxC.region ?_))))
  refine SxL.val (v := .bool false) trivial rfl rfl (fun ρ w E H => ex_cmp E rfl rfl rfl rfl (by decide)) ?_
  refine SxL.val trivial rfl rfl (fun ρ w E H => ex_assign E rfl rfl) ?_
  refine SxL.nil (SxN.then_ (SxC.condF rfl (SxC.seq (SxC.region ?_))))
  refine SxL.val (v := .bool true) trivial rfl rfl (fun ρ w E H => ex_cmp E rfl rfl rfl rfl (by decide)) ?_
  refine SxL.val trivial rfl rfl (fun ρ w E H => ex_assign E rfl rfl) ?_
  refine SxL.nil (SxN.then_ (SxC.condT rfl (SxC.seq (SxC.region ?_))))
  refine SxL.val trivial rfl rfl (fun ρ w E H => ex_load (part := [.string ⟨((Rd.doc r).s).toArray⟩, .int .i64 ((Rd.doc r).e : Int)]) E (H.get (i := 2) rfl) rfl rfl Tryz.underlying121 rfl sz_palaver_palaverref01_Reader rfl rfl) ?_
  obtain ⟨p29, hp29⟩ : ∃ p, Rd.byte r = p := ⟨_, rfl⟩
  refine SxL.callB (v := .tuple #[.int .u8 (p29.1 : Int), .agg #[.string ⟨((Rd.doc p29.2).s).toArray⟩, .int .i64 ((Rd.doc p29.2).e : Int)]]) trivial rfl rfl (fun ρ w E => ex_call E en_palaver_palaverref01_Reader_Byte rfl rfl) (fun w H => docb_p hp29 (by have q0 := hrl; omega) w) ?_
  refine SxL.val trivial rfl rfl (fun ρ w E H => ex_move E rfl rfl) ?_
  iterate 2 refine SxL.val trivial rfl rfl (fun ρ w E H => ex_extract E rfl rfl rfl) ?_
  refine SxL.val (v := .pointer (some ⟨g1, 9, none⟩)) trivial rfl rfl (fun ρ w E H => ex_field E rfl fa_palaver_api_Msg_8 rfl rfl) ?_
  refine SxL.val (v := .pointer (some ⟨g1, 9, none⟩)) trivial rfl rfl (fun ρ w E H => ex_field E rfl fa_palaver_api_Cmd_0 rfl rfl) ?_
  refine SxL.storeX (i := 3) [.int .u8 (xk : Int), .int .u64 (xn : Int), .int .u8 (xr : Int), .int .u64 (xb : Int), .int .u64 (xs : Int), .int .u8 (xo : Int), .string ⟨xv.toArray⟩, .slice none 0 0, .slice none 0 0, .int .u8 (p29.1 : Int), .int .u32 (db : Int), .int .u8 (dk : Int), .string ⟨ds.toArray⟩, .string ⟨dt.toArray⟩, .string ⟨du.toArray⟩, .int .u8 (dz : Int), .int .u8 (xc : Int), .string ⟨xt.toArray⟩] trivial rfl rfl rfl rfl rfl sz_uint8 rfl rfl rfl rfl ?_
  refine SxL.storeX (i := 2) [.string ⟨((Rd.doc p29.2).s).toArray⟩, .int .i64 ((Rd.doc p29.2).e : Int)] trivial rfl rfl rfl rfl rfl sz_palaver_palaverref01_Reader rfl rfl rfl (putL_all _ _ rfl) ?_
  refine SxL.nil (SxN.then_ (SxC.seq (SxC.region ?_)))
  refine SxL.val trivial rfl rfl (fun ρ w E H => ex_load (part := [.string ⟨((Rd.doc p29.2).s).toArray⟩, .int .i64 ((Rd.doc p29.2).e : Int)]) E (H.get (i := 2) rfl) rfl rfl Tryz.underlying121 rfl sz_palaver_palaverref01_Reader rfl rfl) ?_
  obtain ⟨p36, hp36⟩ : ∃ p, Rd.below p29.2 4294967296 = p := ⟨_, rfl⟩
  refine SxL.callB (v := .tuple #[.int .u64 (p36.1 : Int), .agg #[.string ⟨((Rd.doc p36.2).s).toArray⟩, .int .i64 ((Rd.doc p36.2).e : Int)]]) trivial rfl rfl (fun ρ w E => ex_call E en_palaver_palaverref01_Reader_Below rfl rfl) (fun w H => docbe_p hp36 (by have q0 := hrl; have q1 := rp_byte hp29; omega) w) ?_
  refine SxL.val trivial rfl rfl (fun ρ w E H => ex_move E rfl rfl) ?_
  iterate 2 refine SxL.val trivial rfl rfl (fun ρ w E H => ex_extract E rfl rfl rfl) ?_
  refine SxL.new (cs := [.string ⟨[].toArray⟩, .int .i64 0]) trivial rfl rfl (fun ρ w E H => ex_alloc rfl zr_palaver_palaverref01_Reader rfl) fun g5 hg5 => ?_
  refine SxL.val trivial rfl rfl (fun ρ w E H => ex_assign E rfl rfl) ?_
  refine SxL.storeX (i := 0) [.string ⟨((Rd.doc p36.2).s).toArray⟩, .int .i64 ((Rd.doc p36.2).e : Int)] trivial rfl rfl rfl rfl rfl sz_palaver_palaverref01_Reader rfl rfl rfl (putL_all _ _ rfl) ?_
  refine SxL.nil (SxN.then_ (SxC.seq (SxC.region ?_)))
  refine SxL.val trivial rfl rfl (fun ρ w E H => ex_move E rfl rfl) ?_
  refine SxL.val (v := .int .u32 (p36.1 : Int)) trivial rfl rfl (fun ρ w E H => ex_convInt E rfl Tryz.underlying22 Tryz.underlying27 rfl (by have := lt_below p29.2 4294967296 (by decide); rw [hp36] at this; rw [IntKind.wrap_u32]; omega)) ?_
  refine SxL.val (v := .pointer (some ⟨g1, 9, none⟩)) trivial rfl rfl (fun ρ w E H => ex_field E rfl fa_palaver_api_Msg_8 rfl rfl) ?_
  refine SxL.val (v := .pointer (some ⟨g1, 10, none⟩)) trivial rfl rfl (fun ρ w E H => ex_field E rfl fa_palaver_api_Cmd_1 rfl rfl) ?_
  refine SxL.storeX (i := 4) [.int .u8 (xk : Int), .int .u64 (xn : Int), .int .u8 (xr : Int), .int .u64 (xb : Int), .int .u64 (xs : Int), .int .u8 (xo : Int), .string ⟨xv.toArray⟩, .slice none 0 0, .slice none 0 0, .int .u8 (p29.1 : Int), .int .u32 (p36.1 : Int), .int .u8 (dk : Int), .string ⟨ds.toArray⟩, .string ⟨dt.toArray⟩, .string ⟨du.toArray⟩, .int .u8 (dz : Int), .int .u8 (xc : Int), .string ⟨xt.toArray⟩] trivial rfl rfl rfl rfl rfl sz_uint32 rfl rfl rfl rfl ?_
  refine SxL.nil (SxN.then_ (SxC.region ?_))
  refine SxL.val trivial rfl rfl (fun ρ w E H => ex_load (part := [.string ⟨((Rd.doc p36.2).s).toArray⟩, .int .i64 ((Rd.doc p36.2).e : Int)]) E (H.get (i := 0) rfl) rfl rfl Tryz.underlying121 rfl sz_palaver_palaverref01_Reader rfl rfl) ?_
  refine SxL.storeX (i := 3) [.string ⟨((Rd.doc p36.2).s).toArray⟩, .int .i64 ((Rd.doc p36.2).e : Int)] trivial rfl rfl rfl rfl rfl sz_palaver_palaverref01_Reader rfl rfl rfl (putL_all _ _ rfl) ?_
  refine SxL.nil (SxN.block (SxN.then_ (SxC.seq ?_)))
  refine SxC.drawnK [] [0, 3, 4] (by kernel_rfl) rfl ⟨(fun g hg => by rw [List.mem_singleton.1 hg]; exact .inr hg5), (fun g hg => by rw [List.mem_singleton.1 hg]; exact .inr hg4), (fun g hg => by rw [List.mem_singleton.1 hg]; exact .inr hg3), (fun g hg => by rw [List.mem_singleton.1 hg]; exact .inr hg2), (fun g hg => by rw [List.mem_singleton.1 hg]; exact .inr hg1), trivial⟩ ?_
  refine SxA.take (i := 0) rfl (by kernel_rfl) (by kernel_rfl) (by kernel_rfl) rfl rfl (fun _ _ _ h => h) trivial (fun ρ w E H => ex_load (part := [.int .u8 (xk : Int), .int .u64 (xn : Int), .int .u8 (xr : Int), .int .u64 (xb : Int), .int .u64 (xs : Int), .int .u8 (xo : Int), .string ⟨xv.toArray⟩, .slice none 0 0, .slice none 0 0, .int .u8 (p29.1 : Int), .int .u32 (p36.1 : Int), .int .u8 (dk : Int), .string ⟨ds.toArray⟩, .string ⟨dt.toArray⟩, .string ⟨du.toArray⟩, .int .u8 (dz : Int), .int .u8 (xc : Int), .string ⟨xt.toArray⟩]) E (H.get (i := 2) rfl) rfl rfl Tryz.underlying33 rfl sz_palaver_api_Msg rfl rfl) ?_
  refine SxA.take (i := 1) rfl (by kernel_rfl) (by kernel_rfl) (by kernel_rfl) rfl rfl (fun _ _ _ h => h) trivial (fun ρ w E H => ex_load (part := [.string ⟨((Rd.doc p36.2).s).toArray⟩, .int .i64 ((Rd.doc p36.2).e : Int)]) E (H.get (i := 1) rfl) rfl rfl Tryz.underlying121 rfl sz_palaver_palaverref01_Reader rfl rfl) ?_
  refine SxA.ready [2] (by kernel_rfl) (by simp) ⟨?_, trivial⟩
  refine SxO.storeX (j := 2) [.int .u8 (xk : Int), .int .u64 (xn : Int), .int .u8 (xr : Int), .int .u64 (xb : Int), .int .u64 (xs : Int), .int .u8 (xo : Int), .string ⟨xv.toArray⟩, .slice none 0 0, .slice none 0 0, .int .u8 (p29.1 : Int), .int .u32 (p36.1 : Int), .int .u8 (dk : Int), .string ⟨ds.toArray⟩, .string ⟨dt.toArray⟩, .string ⟨du.toArray⟩, .int .u8 (dz : Int), .int .u8 (xc : Int), .string ⟨xt.toArray⟩] rfl trivial rfl rfl rfl rfl rfl sz_palaver_api_Msg rfl rfl rfl (putL_all _ _ rfl) (fun w H => H.ks [] [0, 3, 4] rfl ⟨(fun g hg => by rw [List.mem_singleton.1 hg]; exact .inr hg5), (fun g hg => by rw [List.mem_singleton.1 hg]; exact .inr hg4), (fun g hg => by rw [List.mem_singleton.1 hg]; exact .inr hg3), (fun g hg => by rw [List.mem_singleton.1 hg]; exact .inr hg2), (fun g hg => by rw [List.mem_singleton.1 hg]; exact .inr hg1), trivial⟩) ?_
  refine SxA.ready [3] (by kernel_rfl) (by simp) ⟨?_, trivial⟩
  refine SxO.storeX (j := 1) [.string ⟨((Rd.doc p36.2).s).toArray⟩, .int .i64 ((Rd.doc p36.2).e : Int)] rfl trivial rfl rfl rfl rfl rfl sz_palaver_palaverref01_Reader rfl rfl rfl (putL_all _ _ rfl) (fun w H => H.ks [] [0, 3, 4] rfl ⟨(fun g hg => by rw [List.mem_singleton.1 hg]; exact .inr hg5), (fun g hg => by rw [List.mem_singleton.1 hg]; exact .inr hg4), (fun g hg => by rw [List.mem_singleton.1 hg]; exact .inr hg3), (fun g hg => by rw [List.mem_singleton.1 hg]; exact .inr hg2), (fun g hg => by rw [List.mem_singleton.1 hg]; exact .inr hg1), trivial⟩) ?_
  refine SxA.done (by kernel_rfl) ?_
  refine SxN.then_ (SxC.ret ?_)
  refine SxX.done _ (fun a w K H => resM K [.agg #[.int .u8 (xk : Int), .int .u64 (xn : Int), .int .u8 (xr : Int), .int .u64 (xb : Int), .int .u64 (xs : Int), .int .u8 (xo : Int), .string ⟨xv.toArray⟩, .slice none 0 0, .slice none 0 0, .int .u8 (p29.1 : Int), .int .u32 (p36.1 : Int), .int .u8 (dk : Int), .string ⟨ds.toArray⟩, .string ⟨dt.toArray⟩, .string ⟨du.toArray⟩, .int .u8 (dz : Int), .int .u8 (xc : Int), .string ⟨xt.toArray⟩], .agg #[.string ⟨((Rd.doc p36.2).s).toArray⟩, .int .i64 ((Rd.doc p36.2).e : Int)]] rfl rfl ⟨⟨_, rfl, blk_loadVar (H.get (i := 2) rfl) Tryz.underlying33 rfl sz_palaver_api_Msg⟩, ⟨_, rfl, blk_loadVar (H.get (i := 1) rfl) Tryz.underlying121 rfl sz_palaver_palaverref01_Reader⟩, trivial⟩) (fun w H => ?_)
  refine ⟨?_, H.toBelow ⟨(fun g hg => by rw [List.mem_singleton.1 hg]; exact hg5), (fun g hg => by rw [List.mem_singleton.1 hg]; exact hg4), (fun g hg => by rw [List.mem_singleton.1 hg]; exact hg3), (fun g hg => by rw [List.mem_singleton.1 hg]; exact hg2), (fun g hg => by rw [List.mem_singleton.1 hg]; exact hg1), trivial⟩⟩
  simp only [Pt.take, hp29, hp36]
  rfl

set_option maxRecDepth 100000 in
set_option maxHeartbeats 4000000 in
theorem rpart_reply (r : Rd) (xk xn xr xb xs xo da db dk dz xc : Nat) (xv ds dt du xt : List UInt8)  (w : World) (hrl : r.rest.length ≤ 1000000) : Calls Tryz.prog 62 #[.int .u8 114, .agg #[.int .u8 (xk : Int), .int .u64 (xn : Int), .int .u8 (xr : Int), .int .u64 (xb : Int), .int .u64 (xs : Int), .int .u8 (xo : Int), .string ⟨xv.toArray⟩, .slice none 0 0, .slice none 0 0, .int .u8 (da : Int), .int .u32 (db : Int), .int .u8 (dk : Int), .string ⟨ds.toArray⟩, .string ⟨dt.toArray⟩, .string ⟨du.toArray⟩, .int .u8 (dz : Int), .int .u8 (xc : Int), .string ⟨xt.toArray⟩], .agg #[.string ⟨((Rd.doc r).s).toArray⟩, .int .i64 ((Rd.doc r).e : Int)]] w fun e w' => e = .returned (.tuple #[.agg (msL (Pt.take .reply (⟨xk, xn, xr, xb, xs, xo, xv, [], [], ⟨da, db, dk, ds, dt, du, dz⟩, xc, xt⟩, r)).1 (.slice none 0 0) (.slice none 0 0)).toArray, .agg #[.string ⟨(Rd.doc (Pt.take .reply (⟨xk, xn, xr, xb, xs, xo, xv, [], [], ⟨da, db, dk, ds, dt, du, dz⟩, xc, xt⟩, r)).2).s.toArray⟩, .int .i64 ((Rd.doc (Pt.take .reply (⟨xk, xn, xr, xb, xs, xo, xv, [], [], ⟨da, db, dk, ds, dt, du, dz⟩, xc, xt⟩, r)).2).e : Int)]]) ∧ Below w.heap.size w w' := by
  refine sx_enter (n := 179) _ Tryz.func62 rfl rfl rfl (Hp.start w) ?_
  refine SxC.seq (SxC.region ?_)
  refine SxL.new (cs := [.int .u8 (xk : Int), .int .u64 (xn : Int), .int .u8 (xr : Int), .int .u64 (xb : Int), .int .u64 (xs : Int), .int .u8 (xo : Int), .string ⟨xv.toArray⟩, .slice none 0 0, .slice none 0 0, .int .u8 (da : Int), .int .u32 (db : Int), .int .u8 (dk : Int), .string ⟨ds.toArray⟩, .string ⟨dt.toArray⟩, .string ⟨du.toArray⟩, .int .u8 (dz : Int), .int .u8 (xc : Int), .string ⟨xt.toArray⟩]) trivial rfl rfl (fun ρ w E H => ex_box E rfl rfl rfl) fun g1 hg1 => ?_
  refine SxL.new (cs := [.string ⟨((Rd.doc r).s).toArray⟩, .int .i64 ((Rd.doc r).e : Int)]) trivial rfl rfl (fun ρ w E H => ex_box E rfl rfl rfl) fun g2 hg2 => ?_
  refine SxL.new (cs := [.int .u8 0, .int .u64 0, .int .u8 0, .int .u64 0, .int .u64 0, .int .u8 0, .string ⟨[].toArray⟩, .slice none 0 0, .slice none 0 0, .int .u8 0, .int .u32 0, .int .u8 0, .string ⟨[].toArray⟩, .string ⟨[].toArray⟩, .string ⟨[].toArray⟩, .int .u8 0, .int .u8 0, .string ⟨[].toArray⟩]) trivial rfl rfl (fun ρ w E H => ex_alloc rfl zr_palaver_api_Msg rfl) fun g3 hg3 => ?_
  refine SxL.new (cs := [.string ⟨[].toArray⟩, .int .i64 0]) trivial rfl rfl (fun ρ w E H => ex_alloc rfl zr_palaver_palaverref01_Reader rfl) fun g4 hg4 => ?_
  refine SxL.nil (SxN.then_ (SxC.seq (SxC.seq (SxC.region ?_))))
  refine SxL.val trivial rfl rfl (fun ρ w E H => ex_move E rfl rfl) ?_
  refine SxL.nil (SxN.then_ (SxC.block (SxC.seq (SxC.region ?_))))
  refine SxL.val (v := .bool false) trivial rfl rfl (fun ρ w E H => ex_cmp E rfl rfl rfl rfl (by decide)) ?_
  refine SxL.val trivial rfl rfl (fun ρ w E H => ex_assign E rfl rfl) ?_
  refine SxL.nil (SxN.then_ (SxC.condF rfl (SxC.seq (SxC.region ?_))))
  refine SxL.val (v := .bool false) trivial rfl rfl (fun ρ w E H => ex_cmp E rfl rfl rfl rfl (by decide)) ?_
  refine SxL.val trivial rfl rfl (fun ρ w E H => ex_assign E rfl rfl) ?_
  refine SxL.nil (SxN.then_ (SxC.condF rfl (SxC.seq (SxC.region ?_))))
  refine SxL.val (v := .bool true) trivial rfl rfl (fun ρ w E H => ex_cmp E rfl rfl rfl rfl (by decide)) ?_
  refine SxL.val trivial rfl rfl (fun ρ w E H => ex_assign E rfl rfl) ?_
  refine SxL.nil (SxN.then_ (SxC.condT rfl (SxC.seq (SxC.region ?_))))
  refine SxL.val trivial rfl rfl (fun ρ w E H => ex_load (part := [.string ⟨((Rd.doc r).s).toArray⟩, .int .i64 ((Rd.doc r).e : Int)]) E (H.get (i := 2) rfl) rfl rfl Tryz.underlying121 rfl sz_palaver_palaverref01_Reader rfl rfl) ?_
  obtain ⟨p48, hp48⟩ : ∃ p, Rd.byte r = p := ⟨_, rfl⟩
  refine SxL.callB (v := .tuple #[.int .u8 (p48.1 : Int), .agg #[.string ⟨((Rd.doc p48.2).s).toArray⟩, .int .i64 ((Rd.doc p48.2).e : Int)]]) trivial rfl rfl (fun ρ w E => ex_call E en_palaver_palaverref01_Reader_Byte rfl rfl) (fun w H => docb_p hp48 (by have q0 := hrl; omega) w) ?_
  refine SxL.val trivial rfl rfl (fun ρ w E H => ex_move E rfl rfl) ?_
  iterate 2 refine SxL.val trivial rfl rfl (fun ρ w E H => ex_extract E rfl rfl rfl) ?_
  refine SxL.val (v := .pointer (some ⟨g1, 16, none⟩)) trivial rfl rfl (fun ρ w E H => ex_field E rfl fa_palaver_api_Msg_9 rfl rfl) ?_
  refine SxL.val (v := .pointer (some ⟨g1, 16, none⟩)) trivial rfl rfl (fun ρ w E H => ex_field E rfl fa_palaver_api_Reply_0 rfl rfl) ?_
  refine SxL.storeX (i := 3) [.int .u8 (xk : Int), .int .u64 (xn : Int), .int .u8 (xr : Int), .int .u64 (xb : Int), .int .u64 (xs : Int), .int .u8 (xo : Int), .string ⟨xv.toArray⟩, .slice none 0 0, .slice none 0 0, .int .u8 (da : Int), .int .u32 (db : Int), .int .u8 (dk : Int), .string ⟨ds.toArray⟩, .string ⟨dt.toArray⟩, .string ⟨du.toArray⟩, .int .u8 (dz : Int), .int .u8 (p48.1 : Int), .string ⟨xt.toArray⟩] trivial rfl rfl rfl rfl rfl sz_uint8 rfl rfl rfl rfl ?_
  refine SxL.storeX (i := 2) [.string ⟨((Rd.doc p48.2).s).toArray⟩, .int .i64 ((Rd.doc p48.2).e : Int)] trivial rfl rfl rfl rfl rfl sz_palaver_palaverref01_Reader rfl rfl rfl (putL_all _ _ rfl) ?_
  refine SxL.nil (SxN.then_ (SxC.region ?_))
  refine SxL.val trivial rfl rfl (fun ρ w E H => ex_load (part := [.string ⟨((Rd.doc p48.2).s).toArray⟩, .int .i64 ((Rd.doc p48.2).e : Int)]) E (H.get (i := 2) rfl) rfl rfl Tryz.underlying121 rfl sz_palaver_palaverref01_Reader rfl rfl) ?_
  obtain ⟨p55, hp55⟩ : ∃ p, Rd.str p48.2 64 = p := ⟨_, rfl⟩
  refine SxL.callB (v := .tuple #[.string ⟨p55.1.toArray⟩, .agg #[.string ⟨((Rd.doc p55.2).s).toArray⟩, .int .i64 ((Rd.doc p55.2).e : Int)]]) trivial rfl rfl (fun ρ w E => ex_call E en_palaver_palaverref01_Reader_Str rfl rfl) (fun w H => docs_p hp55 (by decide) (by decide) (by have q0 := hrl; have q1 := rp_byte hp48; omega) w) ?_
  refine SxL.val trivial rfl rfl (fun ρ w E H => ex_move E rfl rfl) ?_
  iterate 2 refine SxL.val trivial rfl rfl (fun ρ w E H => ex_extract E rfl rfl rfl) ?_
  refine SxL.val (v := .pointer (some ⟨g1, 16, none⟩)) trivial rfl rfl (fun ρ w E H => ex_field E rfl fa_palaver_api_Msg_9 rfl rfl) ?_
  refine SxL.val (v := .pointer (some ⟨g1, 17, none⟩)) trivial rfl rfl (fun ρ w E H => ex_field E rfl fa_palaver_api_Reply_1 rfl rfl) ?_
  refine SxL.storeX (i := 3) [.int .u8 (xk : Int), .int .u64 (xn : Int), .int .u8 (xr : Int), .int .u64 (xb : Int), .int .u64 (xs : Int), .int .u8 (xo : Int), .string ⟨xv.toArray⟩, .slice none 0 0, .slice none 0 0, .int .u8 (da : Int), .int .u32 (db : Int), .int .u8 (dk : Int), .string ⟨ds.toArray⟩, .string ⟨dt.toArray⟩, .string ⟨du.toArray⟩, .int .u8 (dz : Int), .int .u8 (p48.1 : Int), .string ⟨p55.1.toArray⟩] trivial rfl rfl rfl rfl rfl sz_string rfl rfl rfl rfl ?_
  refine SxL.storeX (i := 2) [.string ⟨((Rd.doc p55.2).s).toArray⟩, .int .i64 ((Rd.doc p55.2).e : Int)] trivial rfl rfl rfl rfl rfl sz_palaver_palaverref01_Reader rfl rfl rfl (putL_all _ _ rfl) ?_
  refine SxL.nil (SxN.block (SxN.then_ (SxC.seq ?_)))
  refine SxC.drawnK [] [2, 3] (by kernel_rfl) rfl ⟨(fun g hg => by rw [List.mem_singleton.1 hg]; exact .inr hg4), (fun g hg => by rw [List.mem_singleton.1 hg]; exact .inr hg3), (fun g hg => by rw [List.mem_singleton.1 hg]; exact .inr hg2), (fun g hg => by rw [List.mem_singleton.1 hg]; exact .inr hg1), trivial⟩ ?_
  refine SxA.take (i := 0) rfl (by kernel_rfl) (by kernel_rfl) (by kernel_rfl) rfl rfl (fun _ _ _ h => h) trivial (fun ρ w E H => ex_load (part := [.int .u8 (xk : Int), .int .u64 (xn : Int), .int .u8 (xr : Int), .int .u64 (xb : Int), .int .u64 (xs : Int), .int .u8 (xo : Int), .string ⟨xv.toArray⟩, .slice none 0 0, .slice none 0 0, .int .u8 (da : Int), .int .u32 (db : Int), .int .u8 (dk : Int), .string ⟨ds.toArray⟩, .string ⟨dt.toArray⟩, .string ⟨du.toArray⟩, .int .u8 (dz : Int), .int .u8 (p48.1 : Int), .string ⟨p55.1.toArray⟩]) E (H.get (i := 1) rfl) rfl rfl Tryz.underlying33 rfl sz_palaver_api_Msg rfl rfl) ?_
  refine SxA.take (i := 1) rfl (by kernel_rfl) (by kernel_rfl) (by kernel_rfl) rfl rfl (fun _ _ _ h => h) trivial (fun ρ w E H => ex_load (part := [.string ⟨((Rd.doc p55.2).s).toArray⟩, .int .i64 ((Rd.doc p55.2).e : Int)]) E (H.get (i := 0) rfl) rfl rfl Tryz.underlying121 rfl sz_palaver_palaverref01_Reader rfl rfl) ?_
  refine SxA.ready [2] (by kernel_rfl) (by simp) ⟨?_, trivial⟩
  refine SxO.storeX (j := 1) [.int .u8 (xk : Int), .int .u64 (xn : Int), .int .u8 (xr : Int), .int .u64 (xb : Int), .int .u64 (xs : Int), .int .u8 (xo : Int), .string ⟨xv.toArray⟩, .slice none 0 0, .slice none 0 0, .int .u8 (da : Int), .int .u32 (db : Int), .int .u8 (dk : Int), .string ⟨ds.toArray⟩, .string ⟨dt.toArray⟩, .string ⟨du.toArray⟩, .int .u8 (dz : Int), .int .u8 (p48.1 : Int), .string ⟨p55.1.toArray⟩] rfl trivial rfl rfl rfl rfl rfl sz_palaver_api_Msg rfl rfl rfl (putL_all _ _ rfl) (fun w H => H.ks [] [2, 3] rfl ⟨(fun g hg => by rw [List.mem_singleton.1 hg]; exact .inr hg4), (fun g hg => by rw [List.mem_singleton.1 hg]; exact .inr hg3), (fun g hg => by rw [List.mem_singleton.1 hg]; exact .inr hg2), (fun g hg => by rw [List.mem_singleton.1 hg]; exact .inr hg1), trivial⟩) ?_
  refine SxA.ready [3] (by kernel_rfl) (by simp) ⟨?_, trivial⟩
  refine SxO.storeX (j := 0) [.string ⟨((Rd.doc p55.2).s).toArray⟩, .int .i64 ((Rd.doc p55.2).e : Int)] rfl trivial rfl rfl rfl rfl rfl sz_palaver_palaverref01_Reader rfl rfl rfl (putL_all _ _ rfl) (fun w H => H.ks [] [2, 3] rfl ⟨(fun g hg => by rw [List.mem_singleton.1 hg]; exact .inr hg4), (fun g hg => by rw [List.mem_singleton.1 hg]; exact .inr hg3), (fun g hg => by rw [List.mem_singleton.1 hg]; exact .inr hg2), (fun g hg => by rw [List.mem_singleton.1 hg]; exact .inr hg1), trivial⟩) ?_
  refine SxA.done (by kernel_rfl) ?_
  refine SxN.then_ (SxC.ret ?_)
  refine SxX.done _ (fun a w K H => resM K [.agg #[.int .u8 (xk : Int), .int .u64 (xn : Int), .int .u8 (xr : Int), .int .u64 (xb : Int), .int .u64 (xs : Int), .int .u8 (xo : Int), .string ⟨xv.toArray⟩, .slice none 0 0, .slice none 0 0, .int .u8 (da : Int), .int .u32 (db : Int), .int .u8 (dk : Int), .string ⟨ds.toArray⟩, .string ⟨dt.toArray⟩, .string ⟨du.toArray⟩, .int .u8 (dz : Int), .int .u8 (p48.1 : Int), .string ⟨p55.1.toArray⟩], .agg #[.string ⟨((Rd.doc p55.2).s).toArray⟩, .int .i64 ((Rd.doc p55.2).e : Int)]] rfl rfl ⟨⟨_, rfl, blk_loadVar (H.get (i := 1) rfl) Tryz.underlying33 rfl sz_palaver_api_Msg⟩, ⟨_, rfl, blk_loadVar (H.get (i := 0) rfl) Tryz.underlying121 rfl sz_palaver_palaverref01_Reader⟩, trivial⟩) (fun w H => ?_)
  refine ⟨?_, H.toBelow ⟨(fun g hg => by rw [List.mem_singleton.1 hg]; exact hg4), (fun g hg => by rw [List.mem_singleton.1 hg]; exact hg3), (fun g hg => by rw [List.mem_singleton.1 hg]; exact hg2), (fun g hg => by rw [List.mem_singleton.1 hg]; exact hg1), trivial⟩⟩
  simp only [Pt.take, hp48, hp55]
  rfl

set_option maxRecDepth 100000 in
set_option maxHeartbeats 4000000 in
theorem rpart_node (r : Rd) (xk xn xr xb xs xo da db dk dz xc : Nat) (xv ds dt du xt : List UInt8)  (w : World) (hrl : r.rest.length ≤ 1000000) : Calls Tryz.prog 62 #[.int .u8 111, .agg #[.int .u8 (xk : Int), .int .u64 (xn : Int), .int .u8 (xr : Int), .int .u64 (xb : Int), .int .u64 (xs : Int), .int .u8 (xo : Int), .string ⟨xv.toArray⟩, .slice none 0 0, .slice none 0 0, .int .u8 (da : Int), .int .u32 (db : Int), .int .u8 (dk : Int), .string ⟨ds.toArray⟩, .string ⟨dt.toArray⟩, .string ⟨du.toArray⟩, .int .u8 (dz : Int), .int .u8 (xc : Int), .string ⟨xt.toArray⟩], .agg #[.string ⟨((Rd.doc r).s).toArray⟩, .int .i64 ((Rd.doc r).e : Int)]] w fun e w' => e = .returned (.tuple #[.agg (msL (Pt.take .node (⟨xk, xn, xr, xb, xs, xo, xv, [], [], ⟨da, db, dk, ds, dt, du, dz⟩, xc, xt⟩, r)).1 (.slice none 0 0) (.slice none 0 0)).toArray, .agg #[.string ⟨(Rd.doc (Pt.take .node (⟨xk, xn, xr, xb, xs, xo, xv, [], [], ⟨da, db, dk, ds, dt, du, dz⟩, xc, xt⟩, r)).2).s.toArray⟩, .int .i64 ((Rd.doc (Pt.take .node (⟨xk, xn, xr, xb, xs, xo, xv, [], [], ⟨da, db, dk, ds, dt, du, dz⟩, xc, xt⟩, r)).2).e : Int)]]) ∧ Below w.heap.size w w' := by
  refine sx_enter (n := 179) _ Tryz.func62 rfl rfl rfl (Hp.start w) ?_
  refine SxC.seq (SxC.region ?_)
  refine SxL.new (cs := [.int .u8 (xk : Int), .int .u64 (xn : Int), .int .u8 (xr : Int), .int .u64 (xb : Int), .int .u64 (xs : Int), .int .u8 (xo : Int), .string ⟨xv.toArray⟩, .slice none 0 0, .slice none 0 0, .int .u8 (da : Int), .int .u32 (db : Int), .int .u8 (dk : Int), .string ⟨ds.toArray⟩, .string ⟨dt.toArray⟩, .string ⟨du.toArray⟩, .int .u8 (dz : Int), .int .u8 (xc : Int), .string ⟨xt.toArray⟩]) trivial rfl rfl (fun ρ w E H => ex_box E rfl rfl rfl) fun g1 hg1 => ?_
  refine SxL.new (cs := [.string ⟨((Rd.doc r).s).toArray⟩, .int .i64 ((Rd.doc r).e : Int)]) trivial rfl rfl (fun ρ w E H => ex_box E rfl rfl rfl) fun g2 hg2 => ?_
  refine SxL.new (cs := [.int .u8 0, .int .u64 0, .int .u8 0, .int .u64 0, .int .u64 0, .int .u8 0, .string ⟨[].toArray⟩, .slice none 0 0, .slice none 0 0, .int .u8 0, .int .u32 0, .int .u8 0, .string ⟨[].toArray⟩, .string ⟨[].toArray⟩, .string ⟨[].toArray⟩, .int .u8 0, .int .u8 0, .string ⟨[].toArray⟩]) trivial rfl rfl (fun ρ w E H => ex_alloc rfl zr_palaver_api_Msg rfl) fun g3 hg3 => ?_
  refine SxL.new (cs := [.string ⟨[].toArray⟩, .int .i64 0]) trivial rfl rfl (fun ρ w E H => ex_alloc rfl zr_palaver_palaverref01_Reader rfl) fun g4 hg4 => ?_
  refine SxL.nil (SxN.then_ (SxC.seq (SxC.seq (SxC.region ?_))))
  refine SxL.val trivial rfl rfl (fun ρ w E H => ex_move E rfl rfl) ?_
  refine SxL.nil (SxN.then_ (SxC.block (SxC.seq (SxC.region ?_))))
  refine SxL.val (v := .bool false) trivial rfl rfl (fun ρ w E H => ex_cmp E rfl rfl rfl rfl (by decide)) ?_
  refine SxL.val trivial rfl rfl (fun ρ w E H => ex_assign E rfl rfl) ?_
  refine SxL.nil (SxN.then_ (SxC.condF rfl (SxC.seq (SxC.region ?_))))
  refine SxL.val (v := .bool false) trivial rfl rfl (fun ρ w E H => ex_cmp E rfl rfl rfl rfl (by decide)) ?_
  refine SxL.val trivial rfl rfl (fun ρ w E H => ex_assign E rfl rfl) ?_
  refine SxL.nil (SxN.then_ (SxC.condF rfl (SxC.seq (SxC.region ?_))))
  refine SxL.val (v := .bool false) trivial rfl rfl (fun ρ w E H => ex_cmp E rfl rfl rfl rfl (by decide)) ?_
  refine SxL.val trivial rfl rfl (fun ρ w E H => ex_assign E rfl rfl) ?_
  refine SxL.nil (SxN.then_ (SxC.condF rfl (SxC.seq (SxC.region ?_))))
  refine SxL.val (v := .bool true) trivial rfl rfl (fun ρ w E H => ex_cmp E rfl rfl rfl rfl (by decide)) ?_
  refine SxL.val trivial rfl rfl (fun ρ w E H => ex_assign E rfl rfl) ?_
  refine SxL.nil (SxN.then_ (SxC.condT rfl (SxC.region ?_)))
  refine SxL.val trivial rfl rfl (fun ρ w E H => ex_load (part := [.string ⟨((Rd.doc r).s).toArray⟩, .int .i64 ((Rd.doc r).e : Int)]) E (H.get (i := 2) rfl) rfl rfl Tryz.underlying121 rfl sz_palaver_palaverref01_Reader rfl rfl) ?_
  obtain ⟨p64, hp64⟩ : ∃ p, Rd.byte r = p := ⟨_, rfl⟩
  refine SxL.callB (v := .tuple #[.int .u8 (p64.1 : Int), .agg #[.string ⟨((Rd.doc p64.2).s).toArray⟩, .int .i64 ((Rd.doc p64.2).e : Int)]]) trivial rfl rfl (fun ρ w E => ex_call E en_palaver_palaverref01_Reader_Byte rfl rfl) (fun w H => docb_p hp64 (by have q0 := hrl; omega) w) ?_
  refine SxL.val trivial rfl rfl (fun ρ w E H => ex_move E rfl rfl) ?_
  iterate 2 refine SxL.val trivial rfl rfl (fun ρ w E H => ex_extract E rfl rfl rfl) ?_
  refine SxL.val (v := .pointer (some ⟨g1, 5, none⟩)) trivial rfl rfl (fun ρ w E H => ex_field E rfl fa_palaver_api_Msg_4 rfl rfl) ?_
  refine SxL.storeX (i := 3) [.int .u8 (xk : Int), .int .u64 (xn : Int), .int .u8 (xr : Int), .int .u64 (xb : Int), .int .u64 (xs : Int), .int .u8 (p64.1 : Int), .string ⟨xv.toArray⟩, .slice none 0 0, .slice none 0 0, .int .u8 (da : Int), .int .u32 (db : Int), .int .u8 (dk : Int), .string ⟨ds.toArray⟩, .string ⟨dt.toArray⟩, .string ⟨du.toArray⟩, .int .u8 (dz : Int), .int .u8 (xc : Int), .string ⟨xt.toArray⟩] trivial rfl rfl rfl rfl rfl sz_uint8 rfl rfl rfl rfl ?_
  refine SxL.storeX (i := 2) [.string ⟨((Rd.doc p64.2).s).toArray⟩, .int .i64 ((Rd.doc p64.2).e : Int)] trivial rfl rfl rfl rfl rfl sz_palaver_palaverref01_Reader rfl rfl rfl (putL_all _ _ rfl) ?_
  refine SxL.nil (SxN.block (SxN.then_ (SxC.seq ?_)))
  refine SxC.drawnK [] [2, 3] (by kernel_rfl) rfl ⟨(fun g hg => by rw [List.mem_singleton.1 hg]; exact .inr hg4), (fun g hg => by rw [List.mem_singleton.1 hg]; exact .inr hg3), (fun g hg => by rw [List.mem_singleton.1 hg]; exact .inr hg2), (fun g hg => by rw [List.mem_singleton.1 hg]; exact .inr hg1), trivial⟩ ?_
  refine SxA.take (i := 0) rfl (by kernel_rfl) (by kernel_rfl) (by kernel_rfl) rfl rfl (fun _ _ _ h => h) trivial (fun ρ w E H => ex_load (part := [.int .u8 (xk : Int), .int .u64 (xn : Int), .int .u8 (xr : Int), .int .u64 (xb : Int), .int .u64 (xs : Int), .int .u8 (p64.1 : Int), .string ⟨xv.toArray⟩, .slice none 0 0, .slice none 0 0, .int .u8 (da : Int), .int .u32 (db : Int), .int .u8 (dk : Int), .string ⟨ds.toArray⟩, .string ⟨dt.toArray⟩, .string ⟨du.toArray⟩, .int .u8 (dz : Int), .int .u8 (xc : Int), .string ⟨xt.toArray⟩]) E (H.get (i := 1) rfl) rfl rfl Tryz.underlying33 rfl sz_palaver_api_Msg rfl rfl) ?_
  refine SxA.take (i := 1) rfl (by kernel_rfl) (by kernel_rfl) (by kernel_rfl) rfl rfl (fun _ _ _ h => h) trivial (fun ρ w E H => ex_load (part := [.string ⟨((Rd.doc p64.2).s).toArray⟩, .int .i64 ((Rd.doc p64.2).e : Int)]) E (H.get (i := 0) rfl) rfl rfl Tryz.underlying121 rfl sz_palaver_palaverref01_Reader rfl rfl) ?_
  refine SxA.ready [2] (by kernel_rfl) (by simp) ⟨?_, trivial⟩
  refine SxO.storeX (j := 1) [.int .u8 (xk : Int), .int .u64 (xn : Int), .int .u8 (xr : Int), .int .u64 (xb : Int), .int .u64 (xs : Int), .int .u8 (p64.1 : Int), .string ⟨xv.toArray⟩, .slice none 0 0, .slice none 0 0, .int .u8 (da : Int), .int .u32 (db : Int), .int .u8 (dk : Int), .string ⟨ds.toArray⟩, .string ⟨dt.toArray⟩, .string ⟨du.toArray⟩, .int .u8 (dz : Int), .int .u8 (xc : Int), .string ⟨xt.toArray⟩] rfl trivial rfl rfl rfl rfl rfl sz_palaver_api_Msg rfl rfl rfl (putL_all _ _ rfl) (fun w H => H.ks [] [2, 3] rfl ⟨(fun g hg => by rw [List.mem_singleton.1 hg]; exact .inr hg4), (fun g hg => by rw [List.mem_singleton.1 hg]; exact .inr hg3), (fun g hg => by rw [List.mem_singleton.1 hg]; exact .inr hg2), (fun g hg => by rw [List.mem_singleton.1 hg]; exact .inr hg1), trivial⟩) ?_
  refine SxA.ready [3] (by kernel_rfl) (by simp) ⟨?_, trivial⟩
  refine SxO.storeX (j := 0) [.string ⟨((Rd.doc p64.2).s).toArray⟩, .int .i64 ((Rd.doc p64.2).e : Int)] rfl trivial rfl rfl rfl rfl rfl sz_palaver_palaverref01_Reader rfl rfl rfl (putL_all _ _ rfl) (fun w H => H.ks [] [2, 3] rfl ⟨(fun g hg => by rw [List.mem_singleton.1 hg]; exact .inr hg4), (fun g hg => by rw [List.mem_singleton.1 hg]; exact .inr hg3), (fun g hg => by rw [List.mem_singleton.1 hg]; exact .inr hg2), (fun g hg => by rw [List.mem_singleton.1 hg]; exact .inr hg1), trivial⟩) ?_
  refine SxA.done (by kernel_rfl) ?_
  refine SxN.then_ (SxC.ret ?_)
  refine SxX.done _ (fun a w K H => resM K [.agg #[.int .u8 (xk : Int), .int .u64 (xn : Int), .int .u8 (xr : Int), .int .u64 (xb : Int), .int .u64 (xs : Int), .int .u8 (p64.1 : Int), .string ⟨xv.toArray⟩, .slice none 0 0, .slice none 0 0, .int .u8 (da : Int), .int .u32 (db : Int), .int .u8 (dk : Int), .string ⟨ds.toArray⟩, .string ⟨dt.toArray⟩, .string ⟨du.toArray⟩, .int .u8 (dz : Int), .int .u8 (xc : Int), .string ⟨xt.toArray⟩], .agg #[.string ⟨((Rd.doc p64.2).s).toArray⟩, .int .i64 ((Rd.doc p64.2).e : Int)]] rfl rfl ⟨⟨_, rfl, blk_loadVar (H.get (i := 1) rfl) Tryz.underlying33 rfl sz_palaver_api_Msg⟩, ⟨_, rfl, blk_loadVar (H.get (i := 0) rfl) Tryz.underlying121 rfl sz_palaver_palaverref01_Reader⟩, trivial⟩) (fun w H => ?_)
  refine ⟨?_, H.toBelow ⟨(fun g hg => by rw [List.mem_singleton.1 hg]; exact hg4), (fun g hg => by rw [List.mem_singleton.1 hg]; exact hg3), (fun g hg => by rw [List.mem_singleton.1 hg]; exact hg2), (fun g hg => by rw [List.mem_singleton.1 hg]; exact hg1), trivial⟩⟩
  simp only [Pt.take, hp64]
  rfl

set_option maxRecDepth 100000 in
set_option maxHeartbeats 4000000 in
theorem rpart_turn (r : Rd) (xk xn xr xb xs xo da db dk dz xc : Nat) (xv ds dt du xt : List UInt8)  (w : World) (hrl : r.rest.length ≤ 1000000) : Calls Tryz.prog 62 #[.int .u8 98, .agg #[.int .u8 (xk : Int), .int .u64 (xn : Int), .int .u8 (xr : Int), .int .u64 (xb : Int), .int .u64 (xs : Int), .int .u8 (xo : Int), .string ⟨xv.toArray⟩, .slice none 0 0, .slice none 0 0, .int .u8 (da : Int), .int .u32 (db : Int), .int .u8 (dk : Int), .string ⟨ds.toArray⟩, .string ⟨dt.toArray⟩, .string ⟨du.toArray⟩, .int .u8 (dz : Int), .int .u8 (xc : Int), .string ⟨xt.toArray⟩], .agg #[.string ⟨((Rd.doc r).s).toArray⟩, .int .i64 ((Rd.doc r).e : Int)]] w fun e w' => e = .returned (.tuple #[.agg (msL (Pt.take .turn (⟨xk, xn, xr, xb, xs, xo, xv, [], [], ⟨da, db, dk, ds, dt, du, dz⟩, xc, xt⟩, r)).1 (.slice none 0 0) (.slice none 0 0)).toArray, .agg #[.string ⟨(Rd.doc (Pt.take .turn (⟨xk, xn, xr, xb, xs, xo, xv, [], [], ⟨da, db, dk, ds, dt, du, dz⟩, xc, xt⟩, r)).2).s.toArray⟩, .int .i64 ((Rd.doc (Pt.take .turn (⟨xk, xn, xr, xb, xs, xo, xv, [], [], ⟨da, db, dk, ds, dt, du, dz⟩, xc, xt⟩, r)).2).e : Int)]]) ∧ Below w.heap.size w w' := by
  refine sx_enter (n := 179) _ Tryz.func62 rfl rfl rfl (Hp.start w) ?_
  refine SxC.seq (SxC.region ?_)
  refine SxL.new (cs := [.int .u8 (xk : Int), .int .u64 (xn : Int), .int .u8 (xr : Int), .int .u64 (xb : Int), .int .u64 (xs : Int), .int .u8 (xo : Int), .string ⟨xv.toArray⟩, .slice none 0 0, .slice none 0 0, .int .u8 (da : Int), .int .u32 (db : Int), .int .u8 (dk : Int), .string ⟨ds.toArray⟩, .string ⟨dt.toArray⟩, .string ⟨du.toArray⟩, .int .u8 (dz : Int), .int .u8 (xc : Int), .string ⟨xt.toArray⟩]) trivial rfl rfl (fun ρ w E H => ex_box E rfl rfl rfl) fun g1 hg1 => ?_
  refine SxL.new (cs := [.string ⟨((Rd.doc r).s).toArray⟩, .int .i64 ((Rd.doc r).e : Int)]) trivial rfl rfl (fun ρ w E H => ex_box E rfl rfl rfl) fun g2 hg2 => ?_
  refine SxL.new (cs := [.int .u8 0, .int .u64 0, .int .u8 0, .int .u64 0, .int .u64 0, .int .u8 0, .string ⟨[].toArray⟩, .slice none 0 0, .slice none 0 0, .int .u8 0, .int .u32 0, .int .u8 0, .string ⟨[].toArray⟩, .string ⟨[].toArray⟩, .string ⟨[].toArray⟩, .int .u8 0, .int .u8 0, .string ⟨[].toArray⟩]) trivial rfl rfl (fun ρ w E H => ex_alloc rfl zr_palaver_api_Msg rfl) fun g3 hg3 => ?_
  refine SxL.new (cs := [.string ⟨[].toArray⟩, .int .i64 0]) trivial rfl rfl (fun ρ w E H => ex_alloc rfl zr_palaver_palaverref01_Reader rfl) fun g4 hg4 => ?_
  refine SxL.nil (SxN.then_ (SxC.seq (SxC.seq (SxC.region ?_))))
  refine SxL.val trivial rfl rfl (fun ρ w E H => ex_move E rfl rfl) ?_
  refine SxL.nil (SxN.then_ (SxC.block (SxC.seq (SxC.region ?_))))
  refine SxL.val (v := .bool false) trivial rfl rfl (fun ρ w E H => ex_cmp E rfl rfl rfl rfl (by decide)) ?_
  refine SxL.val trivial rfl rfl (fun ρ w E H => ex_assign E rfl rfl) ?_
  refine SxL.nil (SxN.then_ (SxC.condF rfl (SxC.seq (SxC.region ?_))))
  refine SxL.val (v := .bool false) trivial rfl rfl (fun ρ w E H => ex_cmp E rfl rfl rfl rfl (by decide)) ?_
  refine SxL.val trivial rfl rfl (fun ρ w E H => ex_assign E rfl rfl) ?_
  refine SxL.nil (SxN.then_ (SxC.condF rfl (SxC.seq (SxC.region ?_))))
  refine SxL.val (v := .bool false) trivial rfl rfl (fun ρ w E H => ex_cmp E rfl rfl rfl rfl (by decide)) ?_
  refine SxL.val trivial rfl rfl (fun ρ w E H => ex_assign E rfl rfl) ?_
  refine SxL.nil (SxN.then_ (SxC.condF rfl (SxC.seq (SxC.region ?_))))
  refine SxL.val (v := .bool false) trivial rfl rfl (fun ρ w E H => ex_cmp E rfl rfl rfl rfl (by decide)) ?_
  refine SxL.val trivial rfl rfl (fun ρ w E H => ex_assign E rfl rfl) ?_
  refine SxL.nil (SxN.then_ (SxC.condF rfl (SxC.seq (SxC.region ?_))))
  refine SxL.val (v := .bool true) trivial rfl rfl (fun ρ w E H => ex_cmp E rfl rfl rfl rfl (by decide)) ?_
  refine SxL.val trivial rfl rfl (fun ρ w E H => ex_assign E rfl rfl) ?_
  refine SxL.nil (SxN.then_ (SxC.condT rfl (SxC.region ?_)))
  refine SxL.val trivial rfl rfl (fun ρ w E H => ex_load (part := [.string ⟨((Rd.doc r).s).toArray⟩, .int .i64 ((Rd.doc r).e : Int)]) E (H.get (i := 2) rfl) rfl rfl Tryz.underlying121 rfl sz_palaver_palaverref01_Reader rfl rfl) ?_
  obtain ⟨p72, hp72⟩ : ∃ p, Bal.takeB r = p := ⟨_, rfl⟩
  refine SxL.callB (v := .tuple #[.agg #[.int .u64 (p72.1.n : Int), .int .u8 (p72.1.r : Int)], .agg #[.string ⟨((Rd.doc p72.2).s).toArray⟩, .int .i64 ((Rd.doc p72.2).e : Int)]]) trivial rfl rfl (fun ρ w E => ex_call E en_palaver_palaverref07_Take rfl rfl) (fun w H => docbal_p hp72 (by have q0 := hrl; omega) w) ?_
  refine SxL.val trivial rfl rfl (fun ρ w E H => ex_move E rfl rfl) ?_
  iterate 2 refine SxL.val trivial rfl rfl (fun ρ w E H => ex_extract E rfl rfl rfl) ?_
  refine SxL.val (v := .pointer (some ⟨g1, 1, none⟩)) trivial rfl rfl (fun ρ w E H => ex_field E rfl fa_palaver_api_Msg_1 rfl rfl) ?_
  refine SxL.storeX (i := 3) [.int .u8 (xk : Int), .int .u64 (p72.1.n : Int), .int .u8 (p72.1.r : Int), .int .u64 (xb : Int), .int .u64 (xs : Int), .int .u8 (xo : Int), .string ⟨xv.toArray⟩, .slice none 0 0, .slice none 0 0, .int .u8 (da : Int), .int .u32 (db : Int), .int .u8 (dk : Int), .string ⟨ds.toArray⟩, .string ⟨dt.toArray⟩, .string ⟨du.toArray⟩, .int .u8 (dz : Int), .int .u8 (xc : Int), .string ⟨xt.toArray⟩] trivial rfl rfl rfl rfl rfl sz_palaver_api_Ballot rfl rfl rfl rfl ?_
  refine SxL.storeX (i := 2) [.string ⟨((Rd.doc p72.2).s).toArray⟩, .int .i64 ((Rd.doc p72.2).e : Int)] trivial rfl rfl rfl rfl rfl sz_palaver_palaverref01_Reader rfl rfl rfl (putL_all _ _ rfl) ?_
  refine SxL.nil (SxN.block (SxN.then_ (SxC.seq ?_)))
  refine SxC.drawnK [] [2, 3] (by kernel_rfl) rfl ⟨(fun g hg => by rw [List.mem_singleton.1 hg]; exact .inr hg4), (fun g hg => by rw [List.mem_singleton.1 hg]; exact .inr hg3), (fun g hg => by rw [List.mem_singleton.1 hg]; exact .inr hg2), (fun g hg => by rw [List.mem_singleton.1 hg]; exact .inr hg1), trivial⟩ ?_
  refine SxA.take (i := 0) rfl (by kernel_rfl) (by kernel_rfl) (by kernel_rfl) rfl rfl (fun _ _ _ h => h) trivial (fun ρ w E H => ex_load (part := [.int .u8 (xk : Int), .int .u64 (p72.1.n : Int), .int .u8 (p72.1.r : Int), .int .u64 (xb : Int), .int .u64 (xs : Int), .int .u8 (xo : Int), .string ⟨xv.toArray⟩, .slice none 0 0, .slice none 0 0, .int .u8 (da : Int), .int .u32 (db : Int), .int .u8 (dk : Int), .string ⟨ds.toArray⟩, .string ⟨dt.toArray⟩, .string ⟨du.toArray⟩, .int .u8 (dz : Int), .int .u8 (xc : Int), .string ⟨xt.toArray⟩]) E (H.get (i := 1) rfl) rfl rfl Tryz.underlying33 rfl sz_palaver_api_Msg rfl rfl) ?_
  refine SxA.take (i := 1) rfl (by kernel_rfl) (by kernel_rfl) (by kernel_rfl) rfl rfl (fun _ _ _ h => h) trivial (fun ρ w E H => ex_load (part := [.string ⟨((Rd.doc p72.2).s).toArray⟩, .int .i64 ((Rd.doc p72.2).e : Int)]) E (H.get (i := 0) rfl) rfl rfl Tryz.underlying121 rfl sz_palaver_palaverref01_Reader rfl rfl) ?_
  refine SxA.ready [2] (by kernel_rfl) (by simp) ⟨?_, trivial⟩
  refine SxO.storeX (j := 1) [.int .u8 (xk : Int), .int .u64 (p72.1.n : Int), .int .u8 (p72.1.r : Int), .int .u64 (xb : Int), .int .u64 (xs : Int), .int .u8 (xo : Int), .string ⟨xv.toArray⟩, .slice none 0 0, .slice none 0 0, .int .u8 (da : Int), .int .u32 (db : Int), .int .u8 (dk : Int), .string ⟨ds.toArray⟩, .string ⟨dt.toArray⟩, .string ⟨du.toArray⟩, .int .u8 (dz : Int), .int .u8 (xc : Int), .string ⟨xt.toArray⟩] rfl trivial rfl rfl rfl rfl rfl sz_palaver_api_Msg rfl rfl rfl (putL_all _ _ rfl) (fun w H => H.ks [] [2, 3] rfl ⟨(fun g hg => by rw [List.mem_singleton.1 hg]; exact .inr hg4), (fun g hg => by rw [List.mem_singleton.1 hg]; exact .inr hg3), (fun g hg => by rw [List.mem_singleton.1 hg]; exact .inr hg2), (fun g hg => by rw [List.mem_singleton.1 hg]; exact .inr hg1), trivial⟩) ?_
  refine SxA.ready [3] (by kernel_rfl) (by simp) ⟨?_, trivial⟩
  refine SxO.storeX (j := 0) [.string ⟨((Rd.doc p72.2).s).toArray⟩, .int .i64 ((Rd.doc p72.2).e : Int)] rfl trivial rfl rfl rfl rfl rfl sz_palaver_palaverref01_Reader rfl rfl rfl (putL_all _ _ rfl) (fun w H => H.ks [] [2, 3] rfl ⟨(fun g hg => by rw [List.mem_singleton.1 hg]; exact .inr hg4), (fun g hg => by rw [List.mem_singleton.1 hg]; exact .inr hg3), (fun g hg => by rw [List.mem_singleton.1 hg]; exact .inr hg2), (fun g hg => by rw [List.mem_singleton.1 hg]; exact .inr hg1), trivial⟩) ?_
  refine SxA.done (by kernel_rfl) ?_
  refine SxN.then_ (SxC.ret ?_)
  refine SxX.done _ (fun a w K H => resM K [.agg #[.int .u8 (xk : Int), .int .u64 (p72.1.n : Int), .int .u8 (p72.1.r : Int), .int .u64 (xb : Int), .int .u64 (xs : Int), .int .u8 (xo : Int), .string ⟨xv.toArray⟩, .slice none 0 0, .slice none 0 0, .int .u8 (da : Int), .int .u32 (db : Int), .int .u8 (dk : Int), .string ⟨ds.toArray⟩, .string ⟨dt.toArray⟩, .string ⟨du.toArray⟩, .int .u8 (dz : Int), .int .u8 (xc : Int), .string ⟨xt.toArray⟩], .agg #[.string ⟨((Rd.doc p72.2).s).toArray⟩, .int .i64 ((Rd.doc p72.2).e : Int)]] rfl rfl ⟨⟨_, rfl, blk_loadVar (H.get (i := 1) rfl) Tryz.underlying33 rfl sz_palaver_api_Msg⟩, ⟨_, rfl, blk_loadVar (H.get (i := 0) rfl) Tryz.underlying121 rfl sz_palaver_palaverref01_Reader⟩, trivial⟩) (fun w H => ?_)
  refine ⟨?_, H.toBelow ⟨(fun g hg => by rw [List.mem_singleton.1 hg]; exact hg4), (fun g hg => by rw [List.mem_singleton.1 hg]; exact hg3), (fun g hg => by rw [List.mem_singleton.1 hg]; exact hg2), (fun g hg => by rw [List.mem_singleton.1 hg]; exact hg1), trivial⟩⟩
  simp only [Pt.take, hp72]
  rfl

set_option maxRecDepth 100000 in
set_option maxHeartbeats 4000000 in
theorem rpart_floor (r : Rd) (xk xn xr xb xs xo da db dk dz xc : Nat) (xv ds dt du xt : List UInt8)  (w : World) (hrl : r.rest.length ≤ 1000000) : Calls Tryz.prog 62 #[.int .u8 97, .agg #[.int .u8 (xk : Int), .int .u64 (xn : Int), .int .u8 (xr : Int), .int .u64 (xb : Int), .int .u64 (xs : Int), .int .u8 (xo : Int), .string ⟨xv.toArray⟩, .slice none 0 0, .slice none 0 0, .int .u8 (da : Int), .int .u32 (db : Int), .int .u8 (dk : Int), .string ⟨ds.toArray⟩, .string ⟨dt.toArray⟩, .string ⟨du.toArray⟩, .int .u8 (dz : Int), .int .u8 (xc : Int), .string ⟨xt.toArray⟩], .agg #[.string ⟨((Rd.doc r).s).toArray⟩, .int .i64 ((Rd.doc r).e : Int)]] w fun e w' => e = .returned (.tuple #[.agg (msL (Pt.take .floor (⟨xk, xn, xr, xb, xs, xo, xv, [], [], ⟨da, db, dk, ds, dt, du, dz⟩, xc, xt⟩, r)).1 (.slice none 0 0) (.slice none 0 0)).toArray, .agg #[.string ⟨(Rd.doc (Pt.take .floor (⟨xk, xn, xr, xb, xs, xo, xv, [], [], ⟨da, db, dk, ds, dt, du, dz⟩, xc, xt⟩, r)).2).s.toArray⟩, .int .i64 ((Rd.doc (Pt.take .floor (⟨xk, xn, xr, xb, xs, xo, xv, [], [], ⟨da, db, dk, ds, dt, du, dz⟩, xc, xt⟩, r)).2).e : Int)]]) ∧ Below w.heap.size w w' := by
  refine sx_enter (n := 179) _ Tryz.func62 rfl rfl rfl (Hp.start w) ?_
  refine SxC.seq (SxC.region ?_)
  refine SxL.new (cs := [.int .u8 (xk : Int), .int .u64 (xn : Int), .int .u8 (xr : Int), .int .u64 (xb : Int), .int .u64 (xs : Int), .int .u8 (xo : Int), .string ⟨xv.toArray⟩, .slice none 0 0, .slice none 0 0, .int .u8 (da : Int), .int .u32 (db : Int), .int .u8 (dk : Int), .string ⟨ds.toArray⟩, .string ⟨dt.toArray⟩, .string ⟨du.toArray⟩, .int .u8 (dz : Int), .int .u8 (xc : Int), .string ⟨xt.toArray⟩]) trivial rfl rfl (fun ρ w E H => ex_box E rfl rfl rfl) fun g1 hg1 => ?_
  refine SxL.new (cs := [.string ⟨((Rd.doc r).s).toArray⟩, .int .i64 ((Rd.doc r).e : Int)]) trivial rfl rfl (fun ρ w E H => ex_box E rfl rfl rfl) fun g2 hg2 => ?_
  refine SxL.new (cs := [.int .u8 0, .int .u64 0, .int .u8 0, .int .u64 0, .int .u64 0, .int .u8 0, .string ⟨[].toArray⟩, .slice none 0 0, .slice none 0 0, .int .u8 0, .int .u32 0, .int .u8 0, .string ⟨[].toArray⟩, .string ⟨[].toArray⟩, .string ⟨[].toArray⟩, .int .u8 0, .int .u8 0, .string ⟨[].toArray⟩]) trivial rfl rfl (fun ρ w E H => ex_alloc rfl zr_palaver_api_Msg rfl) fun g3 hg3 => ?_
  refine SxL.new (cs := [.string ⟨[].toArray⟩, .int .i64 0]) trivial rfl rfl (fun ρ w E H => ex_alloc rfl zr_palaver_palaverref01_Reader rfl) fun g4 hg4 => ?_
  refine SxL.nil (SxN.then_ (SxC.seq (SxC.seq (SxC.region ?_))))
  refine SxL.val trivial rfl rfl (fun ρ w E H => ex_move E rfl rfl) ?_
  refine SxL.nil (SxN.then_ (SxC.block (SxC.seq (SxC.region ?_))))
  refine SxL.val (v := .bool false) trivial rfl rfl (fun ρ w E H => ex_cmp E rfl rfl rfl rfl (by decide)) ?_
  refine SxL.val trivial rfl rfl (fun ρ w E H => ex_assign E rfl rfl) ?_
  refine SxL.nil (SxN.then_ (SxC.condF rfl (SxC.seq (SxC.region ?_))))
  refine SxL.val (v := .bool false) trivial rfl rfl (fun ρ w E H => ex_cmp E rfl rfl rfl rfl (by decide)) ?_
  refine SxL.val trivial rfl rfl (fun ρ w E H => ex_assign E rfl rfl) ?_
  refine SxL.nil (SxN.then_ (SxC.condF rfl (SxC.seq (SxC.region ?_))))
  refine SxL.val (v := .bool false) trivial rfl rfl (fun ρ w E H => ex_cmp E rfl rfl rfl rfl (by decide)) ?_
  refine SxL.val trivial rfl rfl (fun ρ w E H => ex_assign E rfl rfl) ?_
  refine SxL.nil (SxN.then_ (SxC.condF rfl (SxC.seq (SxC.region ?_))))
  refine SxL.val (v := .bool false) trivial rfl rfl (fun ρ w E H => ex_cmp E rfl rfl rfl rfl (by decide)) ?_
  refine SxL.val trivial rfl rfl (fun ρ w E H => ex_assign E rfl rfl) ?_
  refine SxL.nil (SxN.then_ (SxC.condF rfl (SxC.seq (SxC.region ?_))))
  refine SxL.val (v := .bool false) trivial rfl rfl (fun ρ w E H => ex_cmp E rfl rfl rfl rfl (by decide)) ?_
  refine SxL.val trivial rfl rfl (fun ρ w E H => ex_assign E rfl rfl) ?_
  refine SxL.nil (SxN.then_ (SxC.condF rfl (SxC.seq (SxC.region ?_))))
  refine SxL.val (v := .bool true) trivial rfl rfl (fun ρ w E H => ex_cmp E rfl rfl rfl rfl (by decide)) ?_
  refine SxL.val trivial rfl rfl (fun ρ w E H => ex_assign E rfl rfl) ?_
  refine SxL.nil (SxN.then_ (SxC.condT rfl (SxC.region ?_)))
  refine SxL.val trivial rfl rfl (fun ρ w E H => ex_load (part := [.string ⟨((Rd.doc r).s).toArray⟩, .int .i64 ((Rd.doc r).e : Int)]) E (H.get (i := 2) rfl) rfl rfl Tryz.underlying121 rfl sz_palaver_palaverref01_Reader rfl rfl) ?_
  obtain ⟨p80, hp80⟩ : ∃ p, Rd.num r = p := ⟨_, rfl⟩
  refine SxL.callB (v := .tuple #[.int .u64 (p80.1 : Int), .agg #[.string ⟨((Rd.doc p80.2).s).toArray⟩, .int .i64 ((Rd.doc p80.2).e : Int)]]) trivial rfl rfl (fun ρ w E => ex_call E en_palaver_palaverref01_Reader_Num rfl rfl) (fun w H => docn_p hp80 (by have q0 := hrl; omega) w) ?_
  refine SxL.val trivial rfl rfl (fun ρ w E H => ex_move E rfl rfl) ?_
  iterate 2 refine SxL.val trivial rfl rfl (fun ρ w E H => ex_extract E rfl rfl rfl) ?_
  refine SxL.val (v := .pointer (some ⟨g1, 3, none⟩)) trivial rfl rfl (fun ρ w E H => ex_field E rfl fa_palaver_api_Msg_2 rfl rfl) ?_
  refine SxL.storeX (i := 3) [.int .u8 (xk : Int), .int .u64 (xn : Int), .int .u8 (xr : Int), .int .u64 (p80.1 : Int), .int .u64 (xs : Int), .int .u8 (xo : Int), .string ⟨xv.toArray⟩, .slice none 0 0, .slice none 0 0, .int .u8 (da : Int), .int .u32 (db : Int), .int .u8 (dk : Int), .string ⟨ds.toArray⟩, .string ⟨dt.toArray⟩, .string ⟨du.toArray⟩, .int .u8 (dz : Int), .int .u8 (xc : Int), .string ⟨xt.toArray⟩] trivial rfl rfl rfl rfl rfl sz_uint64 rfl rfl rfl rfl ?_
  refine SxL.storeX (i := 2) [.string ⟨((Rd.doc p80.2).s).toArray⟩, .int .i64 ((Rd.doc p80.2).e : Int)] trivial rfl rfl rfl rfl rfl sz_palaver_palaverref01_Reader rfl rfl rfl (putL_all _ _ rfl) ?_
  refine SxL.nil (SxN.block (SxN.then_ (SxC.seq ?_)))
  refine SxC.drawnK [] [2, 3] (by kernel_rfl) rfl ⟨(fun g hg => by rw [List.mem_singleton.1 hg]; exact .inr hg4), (fun g hg => by rw [List.mem_singleton.1 hg]; exact .inr hg3), (fun g hg => by rw [List.mem_singleton.1 hg]; exact .inr hg2), (fun g hg => by rw [List.mem_singleton.1 hg]; exact .inr hg1), trivial⟩ ?_
  refine SxA.take (i := 0) rfl (by kernel_rfl) (by kernel_rfl) (by kernel_rfl) rfl rfl (fun _ _ _ h => h) trivial (fun ρ w E H => ex_load (part := [.int .u8 (xk : Int), .int .u64 (xn : Int), .int .u8 (xr : Int), .int .u64 (p80.1 : Int), .int .u64 (xs : Int), .int .u8 (xo : Int), .string ⟨xv.toArray⟩, .slice none 0 0, .slice none 0 0, .int .u8 (da : Int), .int .u32 (db : Int), .int .u8 (dk : Int), .string ⟨ds.toArray⟩, .string ⟨dt.toArray⟩, .string ⟨du.toArray⟩, .int .u8 (dz : Int), .int .u8 (xc : Int), .string ⟨xt.toArray⟩]) E (H.get (i := 1) rfl) rfl rfl Tryz.underlying33 rfl sz_palaver_api_Msg rfl rfl) ?_
  refine SxA.take (i := 1) rfl (by kernel_rfl) (by kernel_rfl) (by kernel_rfl) rfl rfl (fun _ _ _ h => h) trivial (fun ρ w E H => ex_load (part := [.string ⟨((Rd.doc p80.2).s).toArray⟩, .int .i64 ((Rd.doc p80.2).e : Int)]) E (H.get (i := 0) rfl) rfl rfl Tryz.underlying121 rfl sz_palaver_palaverref01_Reader rfl rfl) ?_
  refine SxA.ready [2] (by kernel_rfl) (by simp) ⟨?_, trivial⟩
  refine SxO.storeX (j := 1) [.int .u8 (xk : Int), .int .u64 (xn : Int), .int .u8 (xr : Int), .int .u64 (p80.1 : Int), .int .u64 (xs : Int), .int .u8 (xo : Int), .string ⟨xv.toArray⟩, .slice none 0 0, .slice none 0 0, .int .u8 (da : Int), .int .u32 (db : Int), .int .u8 (dk : Int), .string ⟨ds.toArray⟩, .string ⟨dt.toArray⟩, .string ⟨du.toArray⟩, .int .u8 (dz : Int), .int .u8 (xc : Int), .string ⟨xt.toArray⟩] rfl trivial rfl rfl rfl rfl rfl sz_palaver_api_Msg rfl rfl rfl (putL_all _ _ rfl) (fun w H => H.ks [] [2, 3] rfl ⟨(fun g hg => by rw [List.mem_singleton.1 hg]; exact .inr hg4), (fun g hg => by rw [List.mem_singleton.1 hg]; exact .inr hg3), (fun g hg => by rw [List.mem_singleton.1 hg]; exact .inr hg2), (fun g hg => by rw [List.mem_singleton.1 hg]; exact .inr hg1), trivial⟩) ?_
  refine SxA.ready [3] (by kernel_rfl) (by simp) ⟨?_, trivial⟩
  refine SxO.storeX (j := 0) [.string ⟨((Rd.doc p80.2).s).toArray⟩, .int .i64 ((Rd.doc p80.2).e : Int)] rfl trivial rfl rfl rfl rfl rfl sz_palaver_palaverref01_Reader rfl rfl rfl (putL_all _ _ rfl) (fun w H => H.ks [] [2, 3] rfl ⟨(fun g hg => by rw [List.mem_singleton.1 hg]; exact .inr hg4), (fun g hg => by rw [List.mem_singleton.1 hg]; exact .inr hg3), (fun g hg => by rw [List.mem_singleton.1 hg]; exact .inr hg2), (fun g hg => by rw [List.mem_singleton.1 hg]; exact .inr hg1), trivial⟩) ?_
  refine SxA.done (by kernel_rfl) ?_
  refine SxN.then_ (SxC.ret ?_)
  refine SxX.done _ (fun a w K H => resM K [.agg #[.int .u8 (xk : Int), .int .u64 (xn : Int), .int .u8 (xr : Int), .int .u64 (p80.1 : Int), .int .u64 (xs : Int), .int .u8 (xo : Int), .string ⟨xv.toArray⟩, .slice none 0 0, .slice none 0 0, .int .u8 (da : Int), .int .u32 (db : Int), .int .u8 (dk : Int), .string ⟨ds.toArray⟩, .string ⟨dt.toArray⟩, .string ⟨du.toArray⟩, .int .u8 (dz : Int), .int .u8 (xc : Int), .string ⟨xt.toArray⟩], .agg #[.string ⟨((Rd.doc p80.2).s).toArray⟩, .int .i64 ((Rd.doc p80.2).e : Int)]] rfl rfl ⟨⟨_, rfl, blk_loadVar (H.get (i := 1) rfl) Tryz.underlying33 rfl sz_palaver_api_Msg⟩, ⟨_, rfl, blk_loadVar (H.get (i := 0) rfl) Tryz.underlying121 rfl sz_palaver_palaverref01_Reader⟩, trivial⟩) (fun w H => ?_)
  refine ⟨?_, H.toBelow ⟨(fun g hg => by rw [List.mem_singleton.1 hg]; exact hg4), (fun g hg => by rw [List.mem_singleton.1 hg]; exact hg3), (fun g hg => by rw [List.mem_singleton.1 hg]; exact hg2), (fun g hg => by rw [List.mem_singleton.1 hg]; exact hg1), trivial⟩⟩
  simp only [Pt.take, hp80]
  rfl

set_option maxRecDepth 100000 in
set_option maxHeartbeats 4000000 in
theorem rpart_slot0 (r : Rd) (xk xn xr xb xs xo da db dk dz xc : Nat) (xv ds dt du xt : List UInt8)  (w : World) (hrl : r.rest.length ≤ 1000000) : Calls Tryz.prog 62 #[.int .u8 117, .agg #[.int .u8 (xk : Int), .int .u64 (xn : Int), .int .u8 (xr : Int), .int .u64 (xb : Int), .int .u64 (xs : Int), .int .u8 (xo : Int), .string ⟨xv.toArray⟩, .slice none 0 0, .slice none 0 0, .int .u8 (da : Int), .int .u32 (db : Int), .int .u8 (dk : Int), .string ⟨ds.toArray⟩, .string ⟨dt.toArray⟩, .string ⟨du.toArray⟩, .int .u8 (dz : Int), .int .u8 (xc : Int), .string ⟨xt.toArray⟩], .agg #[.string ⟨((Rd.doc r).s).toArray⟩, .int .i64 ((Rd.doc r).e : Int)]] w fun e w' => e = .returned (.tuple #[.agg (msL (Pt.take (.slot 0) (⟨xk, xn, xr, xb, xs, xo, xv, [], [], ⟨da, db, dk, ds, dt, du, dz⟩, xc, xt⟩, r)).1 (.slice none 0 0) (.slice none 0 0)).toArray, .agg #[.string ⟨(Rd.doc (Pt.take (.slot 0) (⟨xk, xn, xr, xb, xs, xo, xv, [], [], ⟨da, db, dk, ds, dt, du, dz⟩, xc, xt⟩, r)).2).s.toArray⟩, .int .i64 ((Rd.doc (Pt.take (.slot 0) (⟨xk, xn, xr, xb, xs, xo, xv, [], [], ⟨da, db, dk, ds, dt, du, dz⟩, xc, xt⟩, r)).2).e : Int)]]) ∧ Below w.heap.size w w' := by
  refine sx_enter (n := 179) _ Tryz.func62 rfl rfl rfl (Hp.start w) ?_
  refine SxC.seq (SxC.region ?_)
  refine SxL.new (cs := [.int .u8 (xk : Int), .int .u64 (xn : Int), .int .u8 (xr : Int), .int .u64 (xb : Int), .int .u64 (xs : Int), .int .u8 (xo : Int), .string ⟨xv.toArray⟩, .slice none 0 0, .slice none 0 0, .int .u8 (da : Int), .int .u32 (db : Int), .int .u8 (dk : Int), .string ⟨ds.toArray⟩, .string ⟨dt.toArray⟩, .string ⟨du.toArray⟩, .int .u8 (dz : Int), .int .u8 (xc : Int), .string ⟨xt.toArray⟩]) trivial rfl rfl (fun ρ w E H => ex_box E rfl rfl rfl) fun g1 hg1 => ?_
  refine SxL.new (cs := [.string ⟨((Rd.doc r).s).toArray⟩, .int .i64 ((Rd.doc r).e : Int)]) trivial rfl rfl (fun ρ w E H => ex_box E rfl rfl rfl) fun g2 hg2 => ?_
  refine SxL.new (cs := [.int .u8 0, .int .u64 0, .int .u8 0, .int .u64 0, .int .u64 0, .int .u8 0, .string ⟨[].toArray⟩, .slice none 0 0, .slice none 0 0, .int .u8 0, .int .u32 0, .int .u8 0, .string ⟨[].toArray⟩, .string ⟨[].toArray⟩, .string ⟨[].toArray⟩, .int .u8 0, .int .u8 0, .string ⟨[].toArray⟩]) trivial rfl rfl (fun ρ w E H => ex_alloc rfl zr_palaver_api_Msg rfl) fun g3 hg3 => ?_
  refine SxL.new (cs := [.string ⟨[].toArray⟩, .int .i64 0]) trivial rfl rfl (fun ρ w E H => ex_alloc rfl zr_palaver_palaverref01_Reader rfl) fun g4 hg4 => ?_
  refine SxL.nil (SxN.then_ (SxC.seq (SxC.seq (SxC.region ?_))))
  refine SxL.val trivial rfl rfl (fun ρ w E H => ex_move E rfl rfl) ?_
  refine SxL.nil (SxN.then_ (SxC.block (SxC.seq (SxC.region ?_))))
  refine SxL.val (v := .bool false) trivial rfl rfl (fun ρ w E H => ex_cmp E rfl rfl rfl rfl (by decide)) ?_
  refine SxL.val trivial rfl rfl (fun ρ w E H => ex_assign E rfl rfl) ?_
  refine SxL.nil (SxN.then_ (SxC.condF rfl (SxC.seq (SxC.region ?_))))
  refine SxL.val (v := .bool false) trivial rfl rfl (fun ρ w E H => ex_cmp E rfl rfl rfl rfl (by decide)) ?_
  refine SxL.val trivial rfl rfl (fun ρ w E H => ex_assign E rfl rfl) ?_
  refine SxL.nil (SxN.then_ (SxC.condF rfl (SxC.seq (SxC.region ?_))))
  refine SxL.val (v := .bool false) trivial rfl rfl (fun ρ w E H => ex_cmp E rfl rfl rfl rfl (by decide)) ?_
  refine SxL.val trivial rfl rfl (fun ρ w E H => ex_assign E rfl rfl) ?_
  refine SxL.nil (SxN.then_ (SxC.condF rfl (SxC.seq (SxC.region ?_))))
  refine SxL.val (v := .bool false) trivial rfl rfl (fun ρ w E H => ex_cmp E rfl rfl rfl rfl (by decide)) ?_
  refine SxL.val trivial rfl rfl (fun ρ w E H => ex_assign E rfl rfl) ?_
  refine SxL.nil (SxN.then_ (SxC.condF rfl (SxC.seq (SxC.region ?_))))
  refine SxL.val (v := .bool false) trivial rfl rfl (fun ρ w E H => ex_cmp E rfl rfl rfl rfl (by decide)) ?_
  refine SxL.val trivial rfl rfl (fun ρ w E H => ex_assign E rfl rfl) ?_
  refine SxL.nil (SxN.then_ (SxC.condF rfl (SxC.seq (SxC.region ?_))))
  refine SxL.val (v := .bool false) trivial rfl rfl (fun ρ w E H => ex_cmp E rfl rfl rfl rfl (by decide)) ?_
  refine SxL.val trivial rfl rfl (fun ρ w E H => ex_assign E rfl rfl) ?_
  refine SxL.nil (SxN.then_ (SxC.condF rfl (SxC.seq (SxC.seq (SxC.region ?_)))))
  refine SxL.val (v := .bool true) trivial rfl rfl (fun ρ w E H => ex_cmp E rfl rfl rfl rfl (by decide)) ?_
  refine SxL.val trivial rfl rfl (fun ρ w E H => ex_assign E rfl rfl) ?_
  refine SxL.nil (SxN.then_ (SxC.condT rfl (SxC.skip (SxN.then_ (SxC.condT rfl (SxC.region ?_))))))
  refine SxL.val trivial rfl rfl (fun ρ w E H => ex_load (part := [.string ⟨((Rd.doc r).s).toArray⟩, .int .i64 ((Rd.doc r).e : Int)]) E (H.get (i := 2) rfl) rfl rfl Tryz.underlying121 rfl sz_palaver_palaverref01_Reader rfl rfl) ?_
  obtain ⟨p89, hp89⟩ : ∃ p, Rd.num r = p := ⟨_, rfl⟩
  refine SxL.callB (v := .tuple #[.int .u64 (p89.1 : Int), .agg #[.string ⟨((Rd.doc p89.2).s).toArray⟩, .int .i64 ((Rd.doc p89.2).e : Int)]]) trivial rfl rfl (fun ρ w E => ex_call E en_palaver_palaverref01_Reader_Num rfl rfl) (fun w H => docn_p hp89 (by have q0 := hrl; omega) w) ?_
  refine SxL.val trivial rfl rfl (fun ρ w E H => ex_move E rfl rfl) ?_
  iterate 2 refine SxL.val trivial rfl rfl (fun ρ w E H => ex_extract E rfl rfl rfl) ?_
  refine SxL.val (v := .pointer (some ⟨g1, 4, none⟩)) trivial rfl rfl (fun ρ w E H => ex_field E rfl fa_palaver_api_Msg_3 rfl rfl) ?_
  refine SxL.storeX (i := 3) [.int .u8 (xk : Int), .int .u64 (xn : Int), .int .u8 (xr : Int), .int .u64 (xb : Int), .int .u64 (p89.1 : Int), .int .u8 (xo : Int), .string ⟨xv.toArray⟩, .slice none 0 0, .slice none 0 0, .int .u8 (da : Int), .int .u32 (db : Int), .int .u8 (dk : Int), .string ⟨ds.toArray⟩, .string ⟨dt.toArray⟩, .string ⟨du.toArray⟩, .int .u8 (dz : Int), .int .u8 (xc : Int), .string ⟨xt.toArray⟩] trivial rfl rfl rfl rfl rfl sz_uint64 rfl rfl rfl rfl ?_
  refine SxL.storeX (i := 2) [.string ⟨((Rd.doc p89.2).s).toArray⟩, .int .i64 ((Rd.doc p89.2).e : Int)] trivial rfl rfl rfl rfl rfl sz_palaver_palaverref01_Reader rfl rfl rfl (putL_all _ _ rfl) ?_
  refine SxL.nil (SxN.block (SxN.then_ (SxC.seq ?_)))
  refine SxC.drawnK [] [2, 3] (by kernel_rfl) rfl ⟨(fun g hg => by rw [List.mem_singleton.1 hg]; exact .inr hg4), (fun g hg => by rw [List.mem_singleton.1 hg]; exact .inr hg3), (fun g hg => by rw [List.mem_singleton.1 hg]; exact .inr hg2), (fun g hg => by rw [List.mem_singleton.1 hg]; exact .inr hg1), trivial⟩ ?_
  refine SxA.take (i := 0) rfl (by kernel_rfl) (by kernel_rfl) (by kernel_rfl) rfl rfl (fun _ _ _ h => h) trivial (fun ρ w E H => ex_load (part := [.int .u8 (xk : Int), .int .u64 (xn : Int), .int .u8 (xr : Int), .int .u64 (xb : Int), .int .u64 (p89.1 : Int), .int .u8 (xo : Int), .string ⟨xv.toArray⟩, .slice none 0 0, .slice none 0 0, .int .u8 (da : Int), .int .u32 (db : Int), .int .u8 (dk : Int), .string ⟨ds.toArray⟩, .string ⟨dt.toArray⟩, .string ⟨du.toArray⟩, .int .u8 (dz : Int), .int .u8 (xc : Int), .string ⟨xt.toArray⟩]) E (H.get (i := 1) rfl) rfl rfl Tryz.underlying33 rfl sz_palaver_api_Msg rfl rfl) ?_
  refine SxA.take (i := 1) rfl (by kernel_rfl) (by kernel_rfl) (by kernel_rfl) rfl rfl (fun _ _ _ h => h) trivial (fun ρ w E H => ex_load (part := [.string ⟨((Rd.doc p89.2).s).toArray⟩, .int .i64 ((Rd.doc p89.2).e : Int)]) E (H.get (i := 0) rfl) rfl rfl Tryz.underlying121 rfl sz_palaver_palaverref01_Reader rfl rfl) ?_
  refine SxA.ready [2] (by kernel_rfl) (by simp) ⟨?_, trivial⟩
  refine SxO.storeX (j := 1) [.int .u8 (xk : Int), .int .u64 (xn : Int), .int .u8 (xr : Int), .int .u64 (xb : Int), .int .u64 (p89.1 : Int), .int .u8 (xo : Int), .string ⟨xv.toArray⟩, .slice none 0 0, .slice none 0 0, .int .u8 (da : Int), .int .u32 (db : Int), .int .u8 (dk : Int), .string ⟨ds.toArray⟩, .string ⟨dt.toArray⟩, .string ⟨du.toArray⟩, .int .u8 (dz : Int), .int .u8 (xc : Int), .string ⟨xt.toArray⟩] rfl trivial rfl rfl rfl rfl rfl sz_palaver_api_Msg rfl rfl rfl (putL_all _ _ rfl) (fun w H => H.ks [] [2, 3] rfl ⟨(fun g hg => by rw [List.mem_singleton.1 hg]; exact .inr hg4), (fun g hg => by rw [List.mem_singleton.1 hg]; exact .inr hg3), (fun g hg => by rw [List.mem_singleton.1 hg]; exact .inr hg2), (fun g hg => by rw [List.mem_singleton.1 hg]; exact .inr hg1), trivial⟩) ?_
  refine SxA.ready [3] (by kernel_rfl) (by simp) ⟨?_, trivial⟩
  refine SxO.storeX (j := 0) [.string ⟨((Rd.doc p89.2).s).toArray⟩, .int .i64 ((Rd.doc p89.2).e : Int)] rfl trivial rfl rfl rfl rfl rfl sz_palaver_palaverref01_Reader rfl rfl rfl (putL_all _ _ rfl) (fun w H => H.ks [] [2, 3] rfl ⟨(fun g hg => by rw [List.mem_singleton.1 hg]; exact .inr hg4), (fun g hg => by rw [List.mem_singleton.1 hg]; exact .inr hg3), (fun g hg => by rw [List.mem_singleton.1 hg]; exact .inr hg2), (fun g hg => by rw [List.mem_singleton.1 hg]; exact .inr hg1), trivial⟩) ?_
  refine SxA.done (by kernel_rfl) ?_
  refine SxN.then_ (SxC.ret ?_)
  refine SxX.done _ (fun a w K H => resM K [.agg #[.int .u8 (xk : Int), .int .u64 (xn : Int), .int .u8 (xr : Int), .int .u64 (xb : Int), .int .u64 (p89.1 : Int), .int .u8 (xo : Int), .string ⟨xv.toArray⟩, .slice none 0 0, .slice none 0 0, .int .u8 (da : Int), .int .u32 (db : Int), .int .u8 (dk : Int), .string ⟨ds.toArray⟩, .string ⟨dt.toArray⟩, .string ⟨du.toArray⟩, .int .u8 (dz : Int), .int .u8 (xc : Int), .string ⟨xt.toArray⟩], .agg #[.string ⟨((Rd.doc p89.2).s).toArray⟩, .int .i64 ((Rd.doc p89.2).e : Int)]] rfl rfl ⟨⟨_, rfl, blk_loadVar (H.get (i := 1) rfl) Tryz.underlying33 rfl sz_palaver_api_Msg⟩, ⟨_, rfl, blk_loadVar (H.get (i := 0) rfl) Tryz.underlying121 rfl sz_palaver_palaverref01_Reader⟩, trivial⟩) (fun w H => ?_)
  refine ⟨?_, H.toBelow ⟨(fun g hg => by rw [List.mem_singleton.1 hg]; exact hg4), (fun g hg => by rw [List.mem_singleton.1 hg]; exact hg3), (fun g hg => by rw [List.mem_singleton.1 hg]; exact hg2), (fun g hg => by rw [List.mem_singleton.1 hg]; exact hg1), trivial⟩⟩
  simp only [Pt.take, hp89]
  rfl

set_option maxRecDepth 100000 in
set_option maxHeartbeats 4000000 in
theorem rpart_slot1 (r : Rd) (xk xn xr xb xs xo da db dk dz xc : Nat) (xv ds dt du xt : List UInt8) (ls : Nat)  (w : World) (hrl : r.rest.length ≤ 1000000) : Calls Tryz.prog 62 #[.int .u8 115, .agg #[.int .u8 (xk : Int), .int .u64 (xn : Int), .int .u8 (xr : Int), .int .u64 (xb : Int), .int .u64 (xs : Int), .int .u8 (xo : Int), .string ⟨xv.toArray⟩, .slice none 0 0, .slice none 0 0, .int .u8 (da : Int), .int .u32 (db : Int), .int .u8 (dk : Int), .string ⟨ds.toArray⟩, .string ⟨dt.toArray⟩, .string ⟨du.toArray⟩, .int .u8 (dz : Int), .int .u8 (xc : Int), .string ⟨xt.toArray⟩], .agg #[.string ⟨((Rd.doc r).s).toArray⟩, .int .i64 ((Rd.doc r).e : Int)]] w fun e w' => e = .returned (.tuple #[.agg (msL (Pt.take (.slot (ls + 1)) (⟨xk, xn, xr, xb, xs, xo, xv, [], [], ⟨da, db, dk, ds, dt, du, dz⟩, xc, xt⟩, r)).1 (.slice none 0 0) (.slice none 0 0)).toArray, .agg #[.string ⟨(Rd.doc (Pt.take (.slot (ls + 1)) (⟨xk, xn, xr, xb, xs, xo, xv, [], [], ⟨da, db, dk, ds, dt, du, dz⟩, xc, xt⟩, r)).2).s.toArray⟩, .int .i64 ((Rd.doc (Pt.take (.slot (ls + 1)) (⟨xk, xn, xr, xb, xs, xo, xv, [], [], ⟨da, db, dk, ds, dt, du, dz⟩, xc, xt⟩, r)).2).e : Int)]]) ∧ Below w.heap.size w w' := by
  refine sx_enter (n := 179) _ Tryz.func62 rfl rfl rfl (Hp.start w) ?_
  refine SxC.seq (SxC.region ?_)
  refine SxL.new (cs := [.int .u8 (xk : Int), .int .u64 (xn : Int), .int .u8 (xr : Int), .int .u64 (xb : Int), .int .u64 (xs : Int), .int .u8 (xo : Int), .string ⟨xv.toArray⟩, .slice none 0 0, .slice none 0 0, .int .u8 (da : Int), .int .u32 (db : Int), .int .u8 (dk : Int), .string ⟨ds.toArray⟩, .string ⟨dt.toArray⟩, .string ⟨du.toArray⟩, .int .u8 (dz : Int), .int .u8 (xc : Int), .string ⟨xt.toArray⟩]) trivial rfl rfl (fun ρ w E H => ex_box E rfl rfl rfl) fun g1 hg1 => ?_
  refine SxL.new (cs := [.string ⟨((Rd.doc r).s).toArray⟩, .int .i64 ((Rd.doc r).e : Int)]) trivial rfl rfl (fun ρ w E H => ex_box E rfl rfl rfl) fun g2 hg2 => ?_
  refine SxL.new (cs := [.int .u8 0, .int .u64 0, .int .u8 0, .int .u64 0, .int .u64 0, .int .u8 0, .string ⟨[].toArray⟩, .slice none 0 0, .slice none 0 0, .int .u8 0, .int .u32 0, .int .u8 0, .string ⟨[].toArray⟩, .string ⟨[].toArray⟩, .string ⟨[].toArray⟩, .int .u8 0, .int .u8 0, .string ⟨[].toArray⟩]) trivial rfl rfl (fun ρ w E H => ex_alloc rfl zr_palaver_api_Msg rfl) fun g3 hg3 => ?_
  refine SxL.new (cs := [.string ⟨[].toArray⟩, .int .i64 0]) trivial rfl rfl (fun ρ w E H => ex_alloc rfl zr_palaver_palaverref01_Reader rfl) fun g4 hg4 => ?_
  refine SxL.nil (SxN.then_ (SxC.seq (SxC.seq (SxC.region ?_))))
  refine SxL.val trivial rfl rfl (fun ρ w E H => ex_move E rfl rfl) ?_
  refine SxL.nil (SxN.then_ (SxC.block (SxC.seq (SxC.region ?_))))
  refine SxL.val (v := .bool false) trivial rfl rfl (fun ρ w E H => ex_cmp E rfl rfl rfl rfl (by decide)) ?_
  refine SxL.val trivial rfl rfl (fun ρ w E H => ex_assign E rfl rfl) ?_
  refine SxL.nil (SxN.then_ (SxC.condF rfl (SxC.seq (SxC.region ?_))))
  refine SxL.val (v := .bool false) trivial rfl rfl (fun ρ w E H => ex_cmp E rfl rfl rfl rfl (by decide)) ?_
  refine SxL.val trivial rfl rfl (fun ρ w E H => ex_assign E rfl rfl) ?_
  refine SxL.nil (SxN.then_ (SxC.condF rfl (SxC.seq (SxC.region ?_))))
  refine SxL.val (v := .bool false) trivial rfl rfl (fun ρ w E H => ex_cmp E rfl rfl rfl rfl (by decide)) ?_
  refine SxL.val trivial rfl rfl (fun ρ w E H => ex_assign E rfl rfl) ?_
  refine SxL.nil (SxN.then_ (SxC.condF rfl (SxC.seq (SxC.region ?_))))
  refine SxL.val (v := .bool false) trivial rfl rfl (fun ρ w E H => ex_cmp E rfl rfl rfl rfl (by decide)) ?_
  refine SxL.val trivial rfl rfl (fun ρ w E H => ex_assign E rfl rfl) ?_
  refine SxL.nil (SxN.then_ (SxC.condF rfl (SxC.seq (SxC.region ?_))))
  refine SxL.val (v := .bool false) trivial rfl rfl (fun ρ w E H => ex_cmp E rfl rfl rfl rfl (by decide)) ?_
  refine SxL.val trivial rfl rfl (fun ρ w E H => ex_assign E rfl rfl) ?_
  refine SxL.nil (SxN.then_ (SxC.condF rfl (SxC.seq (SxC.region ?_))))
  refine SxL.val (v := .bool false) trivial rfl rfl (fun ρ w E H => ex_cmp E rfl rfl rfl rfl (by decide)) ?_
  refine SxL.val trivial rfl rfl (fun ρ w E H => ex_assign E rfl rfl) ?_
  refine SxL.nil (SxN.then_ (SxC.condF rfl (SxC.seq (SxC.seq (SxC.region ?_)))))
  refine SxL.val (v := .bool false) trivial rfl rfl (fun ρ w E H => ex_cmp E rfl rfl rfl rfl (by decide)) ?_
  refine SxL.val trivial rfl rfl (fun ρ w E H => ex_assign E rfl rfl) ?_
  refine SxL.nil (SxN.then_ (SxC.condF rfl (SxC.region ?_)))
  refine SxL.val (v := .bool true) trivial rfl rfl (fun ρ w E H => ex_cmp E rfl rfl rfl rfl (by decide)) ?_
  refine SxL.val trivial rfl rfl (fun ρ w E H => ex_assign E rfl rfl) ?_
  refine SxL.nil (SxN.then_ (SxC.condT rfl (SxC.region ?_)))
  refine SxL.val trivial rfl rfl (fun ρ w E H => ex_load (part := [.string ⟨((Rd.doc r).s).toArray⟩, .int .i64 ((Rd.doc r).e : Int)]) E (H.get (i := 2) rfl) rfl rfl Tryz.underlying121 rfl sz_palaver_palaverref01_Reader rfl rfl) ?_
  obtain ⟨p89, hp89⟩ : ∃ p, Rd.num r = p := ⟨_, rfl⟩
  refine SxL.callB (v := .tuple #[.int .u64 (p89.1 : Int), .agg #[.string ⟨((Rd.doc p89.2).s).toArray⟩, .int .i64 ((Rd.doc p89.2).e : Int)]]) trivial rfl rfl (fun ρ w E => ex_call E en_palaver_palaverref01_Reader_Num rfl rfl) (fun w H => docn_p hp89 (by have q0 := hrl; omega) w) ?_
  refine SxL.val trivial rfl rfl (fun ρ w E H => ex_move E rfl rfl) ?_
  iterate 2 refine SxL.val trivial rfl rfl (fun ρ w E H => ex_extract E rfl rfl rfl) ?_
  refine SxL.val (v := .pointer (some ⟨g1, 4, none⟩)) trivial rfl rfl (fun ρ w E H => ex_field E rfl fa_palaver_api_Msg_3 rfl rfl) ?_
  refine SxL.storeX (i := 3) [.int .u8 (xk : Int), .int .u64 (xn : Int), .int .u8 (xr : Int), .int .u64 (xb : Int), .int .u64 (p89.1 : Int), .int .u8 (xo : Int), .string ⟨xv.toArray⟩, .slice none 0 0, .slice none 0 0, .int .u8 (da : Int), .int .u32 (db : Int), .int .u8 (dk : Int), .string ⟨ds.toArray⟩, .string ⟨dt.toArray⟩, .string ⟨du.toArray⟩, .int .u8 (dz : Int), .int .u8 (xc : Int), .string ⟨xt.toArray⟩] trivial rfl rfl rfl rfl rfl sz_uint64 rfl rfl rfl rfl ?_
  refine SxL.storeX (i := 2) [.string ⟨((Rd.doc p89.2).s).toArray⟩, .int .i64 ((Rd.doc p89.2).e : Int)] trivial rfl rfl rfl rfl rfl sz_palaver_palaverref01_Reader rfl rfl rfl (putL_all _ _ rfl) ?_
  refine SxL.nil (SxN.block (SxN.then_ (SxC.seq ?_)))
  refine SxC.drawnK [] [2, 3] (by kernel_rfl) rfl ⟨(fun g hg => by rw [List.mem_singleton.1 hg]; exact .inr hg4), (fun g hg => by rw [List.mem_singleton.1 hg]; exact .inr hg3), (fun g hg => by rw [List.mem_singleton.1 hg]; exact .inr hg2), (fun g hg => by rw [List.mem_singleton.1 hg]; exact .inr hg1), trivial⟩ ?_
  refine SxA.take (i := 0) rfl (by kernel_rfl) (by kernel_rfl) (by kernel_rfl) rfl rfl (fun _ _ _ h => h) trivial (fun ρ w E H => ex_load (part := [.int .u8 (xk : Int), .int .u64 (xn : Int), .int .u8 (xr : Int), .int .u64 (xb : Int), .int .u64 (p89.1 : Int), .int .u8 (xo : Int), .string ⟨xv.toArray⟩, .slice none 0 0, .slice none 0 0, .int .u8 (da : Int), .int .u32 (db : Int), .int .u8 (dk : Int), .string ⟨ds.toArray⟩, .string ⟨dt.toArray⟩, .string ⟨du.toArray⟩, .int .u8 (dz : Int), .int .u8 (xc : Int), .string ⟨xt.toArray⟩]) E (H.get (i := 1) rfl) rfl rfl Tryz.underlying33 rfl sz_palaver_api_Msg rfl rfl) ?_
  refine SxA.take (i := 1) rfl (by kernel_rfl) (by kernel_rfl) (by kernel_rfl) rfl rfl (fun _ _ _ h => h) trivial (fun ρ w E H => ex_load (part := [.string ⟨((Rd.doc p89.2).s).toArray⟩, .int .i64 ((Rd.doc p89.2).e : Int)]) E (H.get (i := 0) rfl) rfl rfl Tryz.underlying121 rfl sz_palaver_palaverref01_Reader rfl rfl) ?_
  refine SxA.ready [2] (by kernel_rfl) (by simp) ⟨?_, trivial⟩
  refine SxO.storeX (j := 1) [.int .u8 (xk : Int), .int .u64 (xn : Int), .int .u8 (xr : Int), .int .u64 (xb : Int), .int .u64 (p89.1 : Int), .int .u8 (xo : Int), .string ⟨xv.toArray⟩, .slice none 0 0, .slice none 0 0, .int .u8 (da : Int), .int .u32 (db : Int), .int .u8 (dk : Int), .string ⟨ds.toArray⟩, .string ⟨dt.toArray⟩, .string ⟨du.toArray⟩, .int .u8 (dz : Int), .int .u8 (xc : Int), .string ⟨xt.toArray⟩] rfl trivial rfl rfl rfl rfl rfl sz_palaver_api_Msg rfl rfl rfl (putL_all _ _ rfl) (fun w H => H.ks [] [2, 3] rfl ⟨(fun g hg => by rw [List.mem_singleton.1 hg]; exact .inr hg4), (fun g hg => by rw [List.mem_singleton.1 hg]; exact .inr hg3), (fun g hg => by rw [List.mem_singleton.1 hg]; exact .inr hg2), (fun g hg => by rw [List.mem_singleton.1 hg]; exact .inr hg1), trivial⟩) ?_
  refine SxA.ready [3] (by kernel_rfl) (by simp) ⟨?_, trivial⟩
  refine SxO.storeX (j := 0) [.string ⟨((Rd.doc p89.2).s).toArray⟩, .int .i64 ((Rd.doc p89.2).e : Int)] rfl trivial rfl rfl rfl rfl rfl sz_palaver_palaverref01_Reader rfl rfl rfl (putL_all _ _ rfl) (fun w H => H.ks [] [2, 3] rfl ⟨(fun g hg => by rw [List.mem_singleton.1 hg]; exact .inr hg4), (fun g hg => by rw [List.mem_singleton.1 hg]; exact .inr hg3), (fun g hg => by rw [List.mem_singleton.1 hg]; exact .inr hg2), (fun g hg => by rw [List.mem_singleton.1 hg]; exact .inr hg1), trivial⟩) ?_
  refine SxA.done (by kernel_rfl) ?_
  refine SxN.then_ (SxC.ret ?_)
  refine SxX.done _ (fun a w K H => resM K [.agg #[.int .u8 (xk : Int), .int .u64 (xn : Int), .int .u8 (xr : Int), .int .u64 (xb : Int), .int .u64 (p89.1 : Int), .int .u8 (xo : Int), .string ⟨xv.toArray⟩, .slice none 0 0, .slice none 0 0, .int .u8 (da : Int), .int .u32 (db : Int), .int .u8 (dk : Int), .string ⟨ds.toArray⟩, .string ⟨dt.toArray⟩, .string ⟨du.toArray⟩, .int .u8 (dz : Int), .int .u8 (xc : Int), .string ⟨xt.toArray⟩], .agg #[.string ⟨((Rd.doc p89.2).s).toArray⟩, .int .i64 ((Rd.doc p89.2).e : Int)]] rfl rfl ⟨⟨_, rfl, blk_loadVar (H.get (i := 1) rfl) Tryz.underlying33 rfl sz_palaver_api_Msg⟩, ⟨_, rfl, blk_loadVar (H.get (i := 0) rfl) Tryz.underlying121 rfl sz_palaver_palaverref01_Reader⟩, trivial⟩) (fun w H => ?_)
  refine ⟨?_, H.toBelow ⟨(fun g hg => by rw [List.mem_singleton.1 hg]; exact hg4), (fun g hg => by rw [List.mem_singleton.1 hg]; exact hg3), (fun g hg => by rw [List.mem_singleton.1 hg]; exact hg2), (fun g hg => by rw [List.mem_singleton.1 hg]; exact hg1), trivial⟩⟩
  simp only [Pt.take, hp89]
  rfl

set_option maxRecDepth 100000 in
set_option maxHeartbeats 4000000 in
theorem rpart_value (r : Rd) (xk xn xr xb xs xo da db dk dz xc : Nat) (xv ds dt du xt : List UInt8)  (w : World) (hrl : r.rest.length ≤ 1000000) : Calls Tryz.prog 62 #[.int .u8 118, .agg #[.int .u8 (xk : Int), .int .u64 (xn : Int), .int .u8 (xr : Int), .int .u64 (xb : Int), .int .u64 (xs : Int), .int .u8 (xo : Int), .string ⟨xv.toArray⟩, .slice none 0 0, .slice none 0 0, .int .u8 (da : Int), .int .u32 (db : Int), .int .u8 (dk : Int), .string ⟨ds.toArray⟩, .string ⟨dt.toArray⟩, .string ⟨du.toArray⟩, .int .u8 (dz : Int), .int .u8 (xc : Int), .string ⟨xt.toArray⟩], .agg #[.string ⟨((Rd.doc r).s).toArray⟩, .int .i64 ((Rd.doc r).e : Int)]] w fun e w' => e = .returned (.tuple #[.agg (msL (Pt.take .value (⟨xk, xn, xr, xb, xs, xo, xv, [], [], ⟨da, db, dk, ds, dt, du, dz⟩, xc, xt⟩, r)).1 (.slice none 0 0) (.slice none 0 0)).toArray, .agg #[.string ⟨(Rd.doc (Pt.take .value (⟨xk, xn, xr, xb, xs, xo, xv, [], [], ⟨da, db, dk, ds, dt, du, dz⟩, xc, xt⟩, r)).2).s.toArray⟩, .int .i64 ((Rd.doc (Pt.take .value (⟨xk, xn, xr, xb, xs, xo, xv, [], [], ⟨da, db, dk, ds, dt, du, dz⟩, xc, xt⟩, r)).2).e : Int)]]) ∧ Below w.heap.size w w' := by
  refine sx_enter (n := 179) _ Tryz.func62 rfl rfl rfl (Hp.start w) ?_
  refine SxC.seq (SxC.region ?_)
  refine SxL.new (cs := [.int .u8 (xk : Int), .int .u64 (xn : Int), .int .u8 (xr : Int), .int .u64 (xb : Int), .int .u64 (xs : Int), .int .u8 (xo : Int), .string ⟨xv.toArray⟩, .slice none 0 0, .slice none 0 0, .int .u8 (da : Int), .int .u32 (db : Int), .int .u8 (dk : Int), .string ⟨ds.toArray⟩, .string ⟨dt.toArray⟩, .string ⟨du.toArray⟩, .int .u8 (dz : Int), .int .u8 (xc : Int), .string ⟨xt.toArray⟩]) trivial rfl rfl (fun ρ w E H => ex_box E rfl rfl rfl) fun g1 hg1 => ?_
  refine SxL.new (cs := [.string ⟨((Rd.doc r).s).toArray⟩, .int .i64 ((Rd.doc r).e : Int)]) trivial rfl rfl (fun ρ w E H => ex_box E rfl rfl rfl) fun g2 hg2 => ?_
  refine SxL.new (cs := [.int .u8 0, .int .u64 0, .int .u8 0, .int .u64 0, .int .u64 0, .int .u8 0, .string ⟨[].toArray⟩, .slice none 0 0, .slice none 0 0, .int .u8 0, .int .u32 0, .int .u8 0, .string ⟨[].toArray⟩, .string ⟨[].toArray⟩, .string ⟨[].toArray⟩, .int .u8 0, .int .u8 0, .string ⟨[].toArray⟩]) trivial rfl rfl (fun ρ w E H => ex_alloc rfl zr_palaver_api_Msg rfl) fun g3 hg3 => ?_
  refine SxL.new (cs := [.string ⟨[].toArray⟩, .int .i64 0]) trivial rfl rfl (fun ρ w E H => ex_alloc rfl zr_palaver_palaverref01_Reader rfl) fun g4 hg4 => ?_
  refine SxL.nil (SxN.then_ (SxC.seq (SxC.seq (SxC.region ?_))))
  refine SxL.val trivial rfl rfl (fun ρ w E H => ex_move E rfl rfl) ?_
  refine SxL.nil (SxN.then_ (SxC.block (SxC.seq (SxC.region ?_))))
  refine SxL.val (v := .bool false) trivial rfl rfl (fun ρ w E H => ex_cmp E rfl rfl rfl rfl (by decide)) ?_
  refine SxL.val trivial rfl rfl (fun ρ w E H => ex_assign E rfl rfl) ?_
  refine SxL.nil (SxN.then_ (SxC.condF rfl (SxC.seq (SxC.region ?_))))
  refine SxL.val (v := .bool false) trivial rfl rfl (fun ρ w E H => ex_cmp E rfl rfl rfl rfl (by decide)) ?_
  refine SxL.val trivial rfl rfl (fun ρ w E H => ex_assign E rfl rfl) ?_
  refine SxL.nil (SxN.then_ (SxC.condF rfl (SxC.seq (SxC.region ?_))))
  refine SxL.val (v := .bool false) trivial rfl rfl (fun ρ w E H => ex_cmp E rfl rfl rfl rfl (by decide)) ?_
  refine SxL.val trivial rfl rfl (fun ρ w E H => ex_assign E rfl rfl) ?_
  refine SxL.nil (SxN.then_ (SxC.condF rfl (SxC.seq (SxC.region ?_))))
  refine SxL.val (v := .bool false) trivial rfl rfl (fun ρ w E H => ex_cmp E rfl rfl rfl rfl (by decide)) ?_
  refine SxL.val trivial rfl rfl (fun ρ w E H => ex_assign E rfl rfl) ?_
  refine SxL.nil (SxN.then_ (SxC.condF rfl (SxC.seq (SxC.region ?_))))
  refine SxL.val (v := .bool false) trivial rfl rfl (fun ρ w E H => ex_cmp E rfl rfl rfl rfl (by decide)) ?_
  refine SxL.val trivial rfl rfl (fun ρ w E H => ex_assign E rfl rfl) ?_
  refine SxL.nil (SxN.then_ (SxC.condF rfl (SxC.seq (SxC.region ?_))))
  refine SxL.val (v := .bool false) trivial rfl rfl (fun ρ w E H => ex_cmp E rfl rfl rfl rfl (by decide)) ?_
  refine SxL.val trivial rfl rfl (fun ρ w E H => ex_assign E rfl rfl) ?_
  refine SxL.nil (SxN.then_ (SxC.condF rfl (SxC.seq (SxC.seq (SxC.region ?_)))))
  refine SxL.val (v := .bool false) trivial rfl rfl (fun ρ w E H => ex_cmp E rfl rfl rfl rfl (by decide)) ?_
  refine SxL.val trivial rfl rfl (fun ρ w E H => ex_assign E rfl rfl) ?_
  refine SxL.nil (SxN.then_ (SxC.condF rfl (SxC.region ?_)))
  refine SxL.val (v := .bool false) trivial rfl rfl (fun ρ w E H => ex_cmp E rfl rfl rfl rfl (by decide)) ?_
  refine SxL.val trivial rfl rfl (fun ρ w E H => ex_assign E rfl rfl) ?_
  refine SxL.nil (SxN.then_ (SxC.condF rfl (SxC.seq (SxC.region ?_))))
  refine SxL.val (v := .bool true) trivial rfl rfl (fun ρ w E H => ex_cmp E rfl rfl rfl rfl (by decide)) ?_
  refine SxL.val trivial rfl rfl (fun ρ w E H => ex_assign E rfl rfl) ?_
  refine SxL.nil (SxN.then_ (SxC.condT rfl (SxC.region ?_)))
  refine SxL.val trivial rfl rfl (fun ρ w E H => ex_load (part := [.string ⟨((Rd.doc r).s).toArray⟩, .int .i64 ((Rd.doc r).e : Int)]) E (H.get (i := 2) rfl) rfl rfl Tryz.underlying121 rfl sz_palaver_palaverref01_Reader rfl rfl) ?_
  obtain ⟨p97, hp97⟩ : ∃ p, Rd.str r 65536 = p := ⟨_, rfl⟩
  refine SxL.callB (v := .tuple #[.string ⟨p97.1.toArray⟩, .agg #[.string ⟨((Rd.doc p97.2).s).toArray⟩, .int .i64 ((Rd.doc p97.2).e : Int)]]) trivial rfl rfl (fun ρ w E => ex_call E en_palaver_palaverref01_Reader_Str rfl rfl) (fun w H => docs_p hp97 (by decide) (by decide) (by have q0 := hrl; omega) w) ?_
  refine SxL.val trivial rfl rfl (fun ρ w E H => ex_move E rfl rfl) ?_
  iterate 2 refine SxL.val trivial rfl rfl (fun ρ w E H => ex_extract E rfl rfl rfl) ?_
  refine SxL.val (v := .pointer (some ⟨g1, 6, none⟩)) trivial rfl rfl (fun ρ w E H => ex_field E rfl fa_palaver_api_Msg_5 rfl rfl) ?_
  refine SxL.storeX (i := 3) [.int .u8 (xk : Int), .int .u64 (xn : Int), .int .u8 (xr : Int), .int .u64 (xb : Int), .int .u64 (xs : Int), .int .u8 (xo : Int), .string ⟨p97.1.toArray⟩, .slice none 0 0, .slice none 0 0, .int .u8 (da : Int), .int .u32 (db : Int), .int .u8 (dk : Int), .string ⟨ds.toArray⟩, .string ⟨dt.toArray⟩, .string ⟨du.toArray⟩, .int .u8 (dz : Int), .int .u8 (xc : Int), .string ⟨xt.toArray⟩] trivial rfl rfl rfl rfl rfl sz_string rfl rfl rfl rfl ?_
  refine SxL.storeX (i := 2) [.string ⟨((Rd.doc p97.2).s).toArray⟩, .int .i64 ((Rd.doc p97.2).e : Int)] trivial rfl rfl rfl rfl rfl sz_palaver_palaverref01_Reader rfl rfl rfl (putL_all _ _ rfl) ?_
  refine SxL.nil (SxN.block (SxN.then_ (SxC.seq ?_)))
  refine SxC.drawnK [] [2, 3] (by kernel_rfl) rfl ⟨(fun g hg => by rw [List.mem_singleton.1 hg]; exact .inr hg4), (fun g hg => by rw [List.mem_singleton.1 hg]; exact .inr hg3), (fun g hg => by rw [List.mem_singleton.1 hg]; exact .inr hg2), (fun g hg => by rw [List.mem_singleton.1 hg]; exact .inr hg1), trivial⟩ ?_
  refine SxA.take (i := 0) rfl (by kernel_rfl) (by kernel_rfl) (by kernel_rfl) rfl rfl (fun _ _ _ h => h) trivial (fun ρ w E H => ex_load (part := [.int .u8 (xk : Int), .int .u64 (xn : Int), .int .u8 (xr : Int), .int .u64 (xb : Int), .int .u64 (xs : Int), .int .u8 (xo : Int), .string ⟨p97.1.toArray⟩, .slice none 0 0, .slice none 0 0, .int .u8 (da : Int), .int .u32 (db : Int), .int .u8 (dk : Int), .string ⟨ds.toArray⟩, .string ⟨dt.toArray⟩, .string ⟨du.toArray⟩, .int .u8 (dz : Int), .int .u8 (xc : Int), .string ⟨xt.toArray⟩]) E (H.get (i := 1) rfl) rfl rfl Tryz.underlying33 rfl sz_palaver_api_Msg rfl rfl) ?_
  refine SxA.take (i := 1) rfl (by kernel_rfl) (by kernel_rfl) (by kernel_rfl) rfl rfl (fun _ _ _ h => h) trivial (fun ρ w E H => ex_load (part := [.string ⟨((Rd.doc p97.2).s).toArray⟩, .int .i64 ((Rd.doc p97.2).e : Int)]) E (H.get (i := 0) rfl) rfl rfl Tryz.underlying121 rfl sz_palaver_palaverref01_Reader rfl rfl) ?_
  refine SxA.ready [2] (by kernel_rfl) (by simp) ⟨?_, trivial⟩
  refine SxO.storeX (j := 1) [.int .u8 (xk : Int), .int .u64 (xn : Int), .int .u8 (xr : Int), .int .u64 (xb : Int), .int .u64 (xs : Int), .int .u8 (xo : Int), .string ⟨p97.1.toArray⟩, .slice none 0 0, .slice none 0 0, .int .u8 (da : Int), .int .u32 (db : Int), .int .u8 (dk : Int), .string ⟨ds.toArray⟩, .string ⟨dt.toArray⟩, .string ⟨du.toArray⟩, .int .u8 (dz : Int), .int .u8 (xc : Int), .string ⟨xt.toArray⟩] rfl trivial rfl rfl rfl rfl rfl sz_palaver_api_Msg rfl rfl rfl (putL_all _ _ rfl) (fun w H => H.ks [] [2, 3] rfl ⟨(fun g hg => by rw [List.mem_singleton.1 hg]; exact .inr hg4), (fun g hg => by rw [List.mem_singleton.1 hg]; exact .inr hg3), (fun g hg => by rw [List.mem_singleton.1 hg]; exact .inr hg2), (fun g hg => by rw [List.mem_singleton.1 hg]; exact .inr hg1), trivial⟩) ?_
  refine SxA.ready [3] (by kernel_rfl) (by simp) ⟨?_, trivial⟩
  refine SxO.storeX (j := 0) [.string ⟨((Rd.doc p97.2).s).toArray⟩, .int .i64 ((Rd.doc p97.2).e : Int)] rfl trivial rfl rfl rfl rfl rfl sz_palaver_palaverref01_Reader rfl rfl rfl (putL_all _ _ rfl) (fun w H => H.ks [] [2, 3] rfl ⟨(fun g hg => by rw [List.mem_singleton.1 hg]; exact .inr hg4), (fun g hg => by rw [List.mem_singleton.1 hg]; exact .inr hg3), (fun g hg => by rw [List.mem_singleton.1 hg]; exact .inr hg2), (fun g hg => by rw [List.mem_singleton.1 hg]; exact .inr hg1), trivial⟩) ?_
  refine SxA.done (by kernel_rfl) ?_
  refine SxN.then_ (SxC.ret ?_)
  refine SxX.done _ (fun a w K H => resM K [.agg #[.int .u8 (xk : Int), .int .u64 (xn : Int), .int .u8 (xr : Int), .int .u64 (xb : Int), .int .u64 (xs : Int), .int .u8 (xo : Int), .string ⟨p97.1.toArray⟩, .slice none 0 0, .slice none 0 0, .int .u8 (da : Int), .int .u32 (db : Int), .int .u8 (dk : Int), .string ⟨ds.toArray⟩, .string ⟨dt.toArray⟩, .string ⟨du.toArray⟩, .int .u8 (dz : Int), .int .u8 (xc : Int), .string ⟨xt.toArray⟩], .agg #[.string ⟨((Rd.doc p97.2).s).toArray⟩, .int .i64 ((Rd.doc p97.2).e : Int)]] rfl rfl ⟨⟨_, rfl, blk_loadVar (H.get (i := 1) rfl) Tryz.underlying33 rfl sz_palaver_api_Msg⟩, ⟨_, rfl, blk_loadVar (H.get (i := 0) rfl) Tryz.underlying121 rfl sz_palaver_palaverref01_Reader⟩, trivial⟩) (fun w H => ?_)
  refine ⟨?_, H.toBelow ⟨(fun g hg => by rw [List.mem_singleton.1 hg]; exact hg4), (fun g hg => by rw [List.mem_singleton.1 hg]; exact hg3), (fun g hg => by rw [List.mem_singleton.1 hg]; exact hg2), (fun g hg => by rw [List.mem_singleton.1 hg]; exact hg1), trivial⟩⟩
  simp only [Pt.take, hp97]
  rfl

set_option maxRecDepth 100000 in
set_option maxHeartbeats 4000000 in
theorem rpart_votes (r : Rd) (xk xn xr xb xs xo da db dk dz xc : Nat) (xv ds dt du xt : List UInt8)  (w : World) (hG0 : Grows r 0) : Calls Tryz.prog 62 #[.int .u8 116, .agg #[.int .u8 (xk : Int), .int .u64 (xn : Int), .int .u8 (xr : Int), .int .u64 (xb : Int), .int .u64 (xs : Int), .int .u8 (xo : Int), .string ⟨xv.toArray⟩, .slice none 0 0, .slice none 0 0, .int .u8 (da : Int), .int .u32 (db : Int), .int .u8 (dk : Int), .string ⟨ds.toArray⟩, .string ⟨dt.toArray⟩, .string ⟨du.toArray⟩, .int .u8 (dz : Int), .int .u8 (xc : Int), .string ⟨xt.toArray⟩], .agg #[.string ⟨((Rd.doc r).s).toArray⟩, .int .i64 ((Rd.doc r).e : Int)]] w fun e w' => ∃ V', e = .returned (.tuple #[.agg (msL (Pt.take .votes (⟨xk, xn, xr, xb, xs, xo, xv, [], [], ⟨da, db, dk, ds, dt, du, dz⟩, xc, xt⟩, r)).1 V' (.slice none 0 0)).toArray, .agg #[.string ⟨(Rd.doc (Pt.take .votes (⟨xk, xn, xr, xb, xs, xo, xv, [], [], ⟨da, db, dk, ds, dt, du, dz⟩, xc, xt⟩, r)).2).s.toArray⟩, .int .i64 ((Rd.doc (Pt.take .votes (⟨xk, xn, xr, xb, xs, xo, xv, [], [], ⟨da, db, dk, ds, dt, du, dz⟩, xc, xt⟩, r)).2).e : Int)]]) ∧ w'.ownsRow w.heap.size 92 4 V' (Pt.take .votes (⟨xk, xn, xr, xb, xs, xo, xv, [], [], ⟨da, db, dk, ds, dt, du, dz⟩, xc, xt⟩, r)).1.votes.length ((Pt.take .votes (⟨xk, xn, xr, xb, xs, xo, xv, [], [], ⟨da, db, dk, ds, dt, du, dz⟩, xc, xt⟩, r)).1.votes.flatMap voL) ∧ Below w.heap.size w w' := by
  have hrl := hG0.h1
  refine sx_enter (n := 179) _ Tryz.func62 rfl rfl rfl (Hp.start w) ?_
  refine SxC.seq (SxC.region ?_)
  refine SxL.new (cs := [.int .u8 (xk : Int), .int .u64 (xn : Int), .int .u8 (xr : Int), .int .u64 (xb : Int), .int .u64 (xs : Int), .int .u8 (xo : Int), .string ⟨xv.toArray⟩, .slice none 0 0, .slice none 0 0, .int .u8 (da : Int), .int .u32 (db : Int), .int .u8 (dk : Int), .string ⟨ds.toArray⟩, .string ⟨dt.toArray⟩, .string ⟨du.toArray⟩, .int .u8 (dz : Int), .int .u8 (xc : Int), .string ⟨xt.toArray⟩]) trivial rfl rfl (fun ρ w E H => ex_box E rfl rfl rfl) fun g1 hg1 => ?_
  refine SxL.new (cs := [.string ⟨((Rd.doc r).s).toArray⟩, .int .i64 ((Rd.doc r).e : Int)]) trivial rfl rfl (fun ρ w E H => ex_box E rfl rfl rfl) fun g2 hg2 => ?_
  refine SxL.new (cs := [.int .u8 0, .int .u64 0, .int .u8 0, .int .u64 0, .int .u64 0, .int .u8 0, .string ⟨[].toArray⟩, .slice none 0 0, .slice none 0 0, .int .u8 0, .int .u32 0, .int .u8 0, .string ⟨[].toArray⟩, .string ⟨[].toArray⟩, .string ⟨[].toArray⟩, .int .u8 0, .int .u8 0, .string ⟨[].toArray⟩]) trivial rfl rfl (fun ρ w E H => ex_alloc rfl zr_palaver_api_Msg rfl) fun g3 hg3 => ?_
  refine SxL.new (cs := [.string ⟨[].toArray⟩, .int .i64 0]) trivial rfl rfl (fun ρ w E H => ex_alloc rfl zr_palaver_palaverref01_Reader rfl) fun g4 hg4 => ?_
  refine SxL.nil (SxN.then_ (SxC.seq (SxC.seq (SxC.region ?_))))
  refine SxL.val trivial rfl rfl (fun ρ w E H => ex_move E rfl rfl) ?_
  refine SxL.nil (SxN.then_ (SxC.block (SxC.seq (SxC.region ?_))))
  refine SxL.val (v := .bool false) trivial rfl rfl (fun ρ w E H => ex_cmp E rfl rfl rfl rfl (by decide)) ?_
  refine SxL.val trivial rfl rfl (fun ρ w E H => ex_assign E rfl rfl) ?_
  refine SxL.nil (SxN.then_ (SxC.condF rfl (SxC.seq (SxC.region ?_))))
  refine SxL.val (v := .bool false) trivial rfl rfl (fun ρ w E H => ex_cmp E rfl rfl rfl rfl (by decide)) ?_
  refine SxL.val trivial rfl rfl (fun ρ w E H => ex_assign E rfl rfl) ?_
  refine SxL.nil (SxN.then_ (SxC.condF rfl (SxC.seq (SxC.region ?_))))
  refine SxL.val (v := .bool false) trivial rfl rfl (fun ρ w E H => ex_cmp E rfl rfl rfl rfl (by decide)) ?_
  refine SxL.val trivial rfl rfl (fun ρ w E H => ex_assign E rfl rfl) ?_
  refine SxL.nil (SxN.then_ (SxC.condF rfl (SxC.seq (SxC.region ?_))))
  refine SxL.val (v := .bool false) trivial rfl rfl (fun ρ w E H => ex_cmp E rfl rfl rfl rfl (by decide)) ?_
  refine SxL.val trivial rfl rfl (fun ρ w E H => ex_assign E rfl rfl) ?_
  refine SxL.nil (SxN.then_ (SxC.condF rfl (SxC.seq (SxC.region ?_))))
  refine SxL.val (v := .bool false) trivial rfl rfl (fun ρ w E H => ex_cmp E rfl rfl rfl rfl (by decide)) ?_
  refine SxL.val trivial rfl rfl (fun ρ w E H => ex_assign E rfl rfl) ?_
  refine SxL.nil (SxN.then_ (SxC.condF rfl (SxC.seq (SxC.region ?_))))
  refine SxL.val (v := .bool false) trivial rfl rfl (fun ρ w E H => ex_cmp E rfl rfl rfl rfl (by decide)) ?_
  refine SxL.val trivial rfl rfl (fun ρ w E H => ex_assign E rfl rfl) ?_
  refine SxL.nil (SxN.then_ (SxC.condF rfl (SxC.seq (SxC.seq (SxC.region ?_)))))
  refine SxL.val (v := .bool false) trivial rfl rfl (fun ρ w E H => ex_cmp E rfl rfl rfl rfl (by decide)) ?_
  refine SxL.val trivial rfl rfl (fun ρ w E H => ex_assign E rfl rfl) ?_
  refine SxL.nil (SxN.then_ (SxC.condF rfl (SxC.region ?_)))
  refine SxL.val (v := .bool false) trivial rfl rfl (fun ρ w E H => ex_cmp E rfl rfl rfl rfl (by decide)) ?_
  refine SxL.val trivial rfl rfl (fun ρ w E H => ex_assign E rfl rfl) ?_
  refine SxL.nil (SxN.then_ (SxC.condF rfl (SxC.seq (SxC.region ?_))))
  refine SxL.val (v := .bool false) trivial rfl rfl (fun ρ w E H => ex_cmp E rfl rfl rfl rfl (by decide)) ?_
  refine SxL.val trivial rfl rfl (fun ρ w E H => ex_assign E rfl rfl) ?_
  refine SxL.nil (SxN.then_ (SxC.condF rfl (SxC.seq (SxC.region ?_))))
  refine SxL.val (v := .bool true) trivial rfl rfl (fun ρ w E H => ex_cmp E rfl rfl rfl rfl (by decide)) ?_
  refine SxL.val trivial rfl rfl (fun ρ w E H => ex_assign E rfl rfl) ?_
  refine SxL.nil (SxN.then_ (SxC.condT rfl (SxC.seq (SxC.region ?_))))
  refine SxL.val trivial rfl rfl (fun ρ w E H => ex_load (part := [.string ⟨((Rd.doc r).s).toArray⟩, .int .i64 ((Rd.doc r).e : Int)]) E (H.get (i := 2) rfl) rfl rfl Tryz.underlying121 rfl sz_palaver_palaverref01_Reader rfl rfl) ?_
  obtain ⟨p105, hp105⟩ : ∃ p, Rd.num r = p := ⟨_, rfl⟩
  refine SxL.callB (v := .tuple #[.int .u64 (p105.1 : Int), .agg #[.string ⟨((Rd.doc p105.2).s).toArray⟩, .int .i64 ((Rd.doc p105.2).e : Int)]]) trivial rfl rfl (fun ρ w E => ex_call E en_palaver_palaverref01_Reader_Num rfl rfl) (fun w H => docn_p hp105 (by have q0 := hrl; omega) w) ?_
  refine SxL.val trivial rfl rfl (fun ρ w E H => ex_move E rfl rfl) ?_
  iterate 2 refine SxL.val trivial rfl rfl (fun ρ w E H => ex_extract E rfl rfl rfl) ?_
  refine SxL.new (cs := [.string ⟨[].toArray⟩, .int .i64 0]) trivial rfl rfl (fun ρ w E H => ex_alloc rfl zr_palaver_palaverref01_Reader rfl) fun g5 hg5 => ?_
  refine SxL.val trivial rfl rfl (fun ρ w E H => ex_assign E rfl rfl) ?_
  refine SxL.storeX (i := 0) [.string ⟨((Rd.doc p105.2).s).toArray⟩, .int .i64 ((Rd.doc p105.2).e : Int)] trivial rfl rfl rfl rfl rfl sz_palaver_palaverref01_Reader rfl rfl rfl (putL_all _ _ rfl) ?_
  refine SxL.nil (SxN.then_ (SxC.seq (SxC.region ?_)))
  refine SxL.val trivial rfl rfl (fun ρ w E H => ex_load (part := [.string ⟨((Rd.doc p105.2).s).toArray⟩, .int .i64 ((Rd.doc p105.2).e : Int)]) E (H.get (i := 0) rfl) rfl rfl Tryz.underlying121 rfl sz_palaver_palaverref01_Reader rfl rfl) ?_
  refine SxL.storeX (i := 3) [.string ⟨((Rd.doc p105.2).s).toArray⟩, .int .i64 ((Rd.doc p105.2).e : Int)] trivial rfl rfl rfl rfl rfl sz_palaver_palaverref01_Reader rfl rfl rfl (putL_all _ _ rfl) ?_
  refine SxL.nil (SxN.then_ (SxC.block ?_))
  refine SxC.hp (fun W H => H.nilRow 92 4) ?_
  refine SxC.loop4 (fun (n : Nat) (r1 : Rd) (w1 : List Vo) (V1 : Value) => [(4, .pointer (some ⟨g1, 0, none⟩)), (5, .pointer (some ⟨g2, 0, none⟩)), (6, .pointer (some ⟨g3, 0, none⟩)), (7, .pointer (some ⟨g4, 0, none⟩)), (10, .int .u64 (n : Int)), (11, .pointer (some ⟨g5, 0, none⟩))]) (fun (n : Nat) (r1 : Rd) (w1 : List Vo) (V1 : Value) => [rowX [] w.heap.size 92 4 V1 w1.length (w1.flatMap voL), cell g5 121 [.string ⟨((Rd.doc p105.2).s).toArray⟩, .int .i64 ((Rd.doc p105.2).e : Int)], cell g4 121 [.string ⟨[].toArray⟩, .int .i64 0], cell g3 33 [.int .u8 0, .int .u64 0, .int .u8 0, .int .u64 0, .int .u64 0, .int .u8 0, .string ⟨[].toArray⟩, .slice none 0 0, .slice none 0 0, .int .u8 0, .int .u32 0, .int .u8 0, .string ⟨[].toArray⟩, .string ⟨[].toArray⟩, .string ⟨[].toArray⟩, .int .u8 0, .int .u8 0, .string ⟨[].toArray⟩], cell g2 121 [.string ⟨((Rd.doc r1).s).toArray⟩, .int .i64 ((Rd.doc r1).e : Int)], cell g1 33 [.int .u8 (xk : Int), .int .u64 (xn : Int), .int .u8 (xr : Int), .int .u64 (xb : Int), .int .u64 (xs : Int), .int .u8 (xo : Int), .string ⟨xv.toArray⟩, V1, .slice none 0 0, .int .u8 (da : Int), .int .u32 (db : Int), .int .u8 (dk : Int), .string ⟨ds.toArray⟩, .string ⟨dt.toArray⟩, .string ⟨du.toArray⟩, .int .u8 (dz : Int), .int .u8 (xc : Int), .string ⟨xt.toArray⟩]]) (fun (gk : Nat) (n : Nat) (r1 : Rd) (w1 : List Vo) (V1 : Value) => n = gk ∧ tkV p105.1 p105.2 [] = tkV n r1 w1 ∧ OwnIn w [] V1 ∧ Grows r1 w1.length ∧ n < 18446744073709551616) p105.1 p105.1 p105.2 [] (.slice none 0 0) ⟨rfl, rfl, own_none w, hp105 ▸ hG0.num, hp105 ▸ lt_num r⟩ ⟨rfl, rfl, rfl, rfl, rfl, rfl, trivial⟩ [0, 1, 2, 3, 4, 5] rfl (by decide) ⟨.inl rfl, .inl rfl, .inl rfl, .inl rfl, .inl rfl, .inl rfl, trivial⟩ fun gk n r1 w1 V1 hF => ?_
  obtain ⟨hkg, hrel, hv1, hG, hn64⟩ := hF
  refine SxC.seq (SxC.seq (SxC.region ?_))
  refine SxL.val trivial rfl rfl (fun ρ w E H => ex_move E rfl rfl) ?_
  refine SxL.valB trivial rfl rfl (fun ρ w E H => ex_cmp E rfl rfl rfl rfl rfl) fun c110 hc110 => ?_
  refine SxL.val trivial rfl rfl (fun ρ w E H => ex_move E rfl rfl) ?_
  cases c110
  · refine SxL.off ⟨_, _, _, rfl, rfl, rfl, nofun⟩ rfl rfl ?_
    iterate 2 refine SxL.off ⟨_, _, _, rfl, rfl, rfl, nofun⟩ rfl rfl ?_
    refine SxL.val trivial rfl rfl (fun ρ w E H => ex_pick E rfl (t := false) rfl rfl) ?_
    refine SxL.nil (SxN.then_ (SxC.condF rfl (SxC.exit (SxX.thenE (SxX.thenE (SxX.blockE (SxN.block (SxN.then_ (SxC.seq ?_)))))))))
    refine SxC.with (fun W H => own_is_slice (H.get (i := 0) rfl)) ?_
    rintro ⟨A1, c1, rfl⟩
    refine SxC.drawnK [] [0, 1, 4, 5] (by kernel_rfl) rfl ⟨(fun g hg => .inr (hv1.fresh g hg)), (fun g hg => by rw [List.mem_singleton.1 hg]; exact .inr hg5), (fun g hg => by rw [List.mem_singleton.1 hg]; exact .inr hg4), (fun g hg => by rw [List.mem_singleton.1 hg]; exact .inr hg3), (fun g hg => by rw [List.mem_singleton.1 hg]; exact .inr hg2), (fun g hg => by rw [List.mem_singleton.1 hg]; exact .inr hg1), trivial⟩ ?_
    refine SxA.take (i := 0) rfl (by kernel_rfl) (by kernel_rfl) (by kernel_rfl) rfl rfl (fun _ _ _ h => h) trivial (fun ρ w E H => ex_load (part := [.int .u8 (xk : Int), .int .u64 (xn : Int), .int .u8 (xr : Int), .int .u64 (xb : Int), .int .u64 (xs : Int), .int .u8 (xo : Int), .string ⟨xv.toArray⟩, .slice A1 w1.length c1, .slice none 0 0, .int .u8 (da : Int), .int .u32 (db : Int), .int .u8 (dk : Int), .string ⟨ds.toArray⟩, .string ⟨dt.toArray⟩, .string ⟨du.toArray⟩, .int .u8 (dz : Int), .int .u8 (xc : Int), .string ⟨xt.toArray⟩]) E (H.get (i := 3) rfl) rfl rfl Tryz.underlying33 rfl sz_palaver_api_Msg rfl rfl) ?_
    refine SxA.take (i := 1) rfl (by kernel_rfl) (by kernel_rfl) (by kernel_rfl) rfl rfl (fun _ _ _ h => h) trivial (fun ρ w E H => ex_load (part := [.string ⟨((Rd.doc r1).s).toArray⟩, .int .i64 ((Rd.doc r1).e : Int)]) E (H.get (i := 2) rfl) rfl rfl Tryz.underlying121 rfl sz_palaver_palaverref01_Reader rfl rfl) ?_
    refine SxA.ready [2] (by kernel_rfl) (by simp) ⟨?_, trivial⟩
    refine SxO.storeX (j := 3) [.int .u8 (xk : Int), .int .u64 (xn : Int), .int .u8 (xr : Int), .int .u64 (xb : Int), .int .u64 (xs : Int), .int .u8 (xo : Int), .string ⟨xv.toArray⟩, .slice A1 w1.length c1, .slice none 0 0, .int .u8 (da : Int), .int .u32 (db : Int), .int .u8 (dk : Int), .string ⟨ds.toArray⟩, .string ⟨dt.toArray⟩, .string ⟨du.toArray⟩, .int .u8 (dz : Int), .int .u8 (xc : Int), .string ⟨xt.toArray⟩] rfl trivial rfl rfl rfl rfl rfl sz_palaver_api_Msg rfl rfl rfl (putL_all _ _ rfl) (fun w H => H.ks [] [0, 1, 4, 5] rfl ⟨(fun g hg => .inr (hv1.fresh g hg)), (fun g hg => by rw [List.mem_singleton.1 hg]; exact .inr hg5), (fun g hg => by rw [List.mem_singleton.1 hg]; exact .inr hg4), (fun g hg => by rw [List.mem_singleton.1 hg]; exact .inr hg3), (fun g hg => by rw [List.mem_singleton.1 hg]; exact .inr hg2), (fun g hg => by rw [List.mem_singleton.1 hg]; exact .inr hg1), trivial⟩) ?_
    refine SxA.ready [3] (by kernel_rfl) (by simp) ⟨?_, trivial⟩
    refine SxO.storeX (j := 2) [.string ⟨((Rd.doc r1).s).toArray⟩, .int .i64 ((Rd.doc r1).e : Int)] rfl trivial rfl rfl rfl rfl rfl sz_palaver_palaverref01_Reader rfl rfl rfl (putL_all _ _ rfl) (fun w H => H.ks [] [0, 1, 4, 5] rfl ⟨(fun g hg => .inr (hv1.fresh g hg)), (fun g hg => by rw [List.mem_singleton.1 hg]; exact .inr hg5), (fun g hg => by rw [List.mem_singleton.1 hg]; exact .inr hg4), (fun g hg => by rw [List.mem_singleton.1 hg]; exact .inr hg3), (fun g hg => by rw [List.mem_singleton.1 hg]; exact .inr hg2), (fun g hg => by rw [List.mem_singleton.1 hg]; exact .inr hg1), trivial⟩) ?_
    refine SxA.done (by kernel_rfl) ?_
    refine SxN.then_ (SxC.ret ?_)
    refine SxX.done _ (fun a w K H => resM K [.agg #[.int .u8 (xk : Int), .int .u64 (xn : Int), .int .u8 (xr : Int), .int .u64 (xb : Int), .int .u64 (xs : Int), .int .u8 (xo : Int), .string ⟨xv.toArray⟩, .slice A1 w1.length c1, .slice none 0 0, .int .u8 (da : Int), .int .u32 (db : Int), .int .u8 (dk : Int), .string ⟨ds.toArray⟩, .string ⟨dt.toArray⟩, .string ⟨du.toArray⟩, .int .u8 (dz : Int), .int .u8 (xc : Int), .string ⟨xt.toArray⟩], .agg #[.string ⟨((Rd.doc r1).s).toArray⟩, .int .i64 ((Rd.doc r1).e : Int)]] rfl rfl ⟨⟨_, rfl, blk_loadVar (H.get (i := 3) rfl) Tryz.underlying33 rfl sz_palaver_api_Msg⟩, ⟨_, rfl, blk_loadVar (H.get (i := 2) rfl) Tryz.underlying121 rfl sz_palaver_palaverref01_Reader⟩, trivial⟩) (fun w H => ?_)
    have hst : tkV p105.1 p105.2 [] = (r1, w1) := by
      rw [hrel]; refine tkV_stop n r1 w1 ?_
      first | (left; have h := hc110; simp [cmpB] at h; omega) | (right; have h := hc114; rw [doc_err] at h; simp [cmpB] at h; omega)
    have e1 : Pt.take .votes (⟨xk, xn, xr, xb, xs, xo, xv, [], [], ⟨da, db, dk, ds, dt, du, dz⟩, xc, xt⟩, r) = (⟨xk, xn, xr, xb, xs, xo, xv, w1, [], ⟨da, db, dk, ds, dt, du, dz⟩, xc, xt⟩, r1) := by simp only [Pt.take, hp105, hst]
    rw [e1]
    exact ⟨_, rfl, H.get (i := 0) rfl, H.toBelow ⟨hv1.fresh, (fun g hg => by rw [List.mem_singleton.1 hg]; exact hg5), (fun g hg => by rw [List.mem_singleton.1 hg]; exact hg4), (fun g hg => by rw [List.mem_singleton.1 hg]; exact hg3), (fun g hg => by rw [List.mem_singleton.1 hg]; exact hg2), (fun g hg => by rw [List.mem_singleton.1 hg]; exact hg1), trivial⟩⟩
  · refine SxL.val (v := .pointer (some ⟨g2, 1, none⟩)) ⟨_, _, rfl, rfl, rfl⟩ rfl rfl (fun ρ w E H => ex_field E rfl fa_palaver_palaverref01_Reader_1 rfl rfl) ?_
    refine SxL.val ⟨_, _, rfl, rfl, rfl⟩ rfl rfl (fun ρ w E H => ex_load1 E (H.get (i := 4) rfl) rfl rfl Tryz.underlying37 rfl rfl) ?_
    refine SxL.valB ⟨_, _, rfl, rfl, rfl⟩ rfl rfl (fun ρ w E H => ex_cmp E rfl rfl rfl rfl rfl) fun c114 hc114 => ?_
    refine SxL.val trivial rfl rfl (fun ρ w E H => ex_pick E rfl (t := true) rfl rfl) ?_
    refine SxL.nil (SxN.then_ ?_)
    cases c114
    · refine SxC.condF rfl (SxC.exit (SxX.thenE (SxX.thenE (SxX.blockE (SxN.block (SxN.then_ (SxC.seq ?_)))))))
      refine SxC.with (fun W H => own_is_slice (H.get (i := 0) rfl)) ?_
      rintro ⟨A1, c1, rfl⟩
      refine SxC.drawnK [] [0, 1, 4, 5] (by kernel_rfl) rfl ⟨(fun g hg => .inr (hv1.fresh g hg)), (fun g hg => by rw [List.mem_singleton.1 hg]; exact .inr hg5), (fun g hg => by rw [List.mem_singleton.1 hg]; exact .inr hg4), (fun g hg => by rw [List.mem_singleton.1 hg]; exact .inr hg3), (fun g hg => by rw [List.mem_singleton.1 hg]; exact .inr hg2), (fun g hg => by rw [List.mem_singleton.1 hg]; exact .inr hg1), trivial⟩ ?_
      refine SxA.take (i := 0) rfl (by kernel_rfl) (by kernel_rfl) (by kernel_rfl) rfl rfl (fun _ _ _ h => h) trivial (fun ρ w E H => ex_load (part := [.int .u8 (xk : Int), .int .u64 (xn : Int), .int .u8 (xr : Int), .int .u64 (xb : Int), .int .u64 (xs : Int), .int .u8 (xo : Int), .string ⟨xv.toArray⟩, .slice A1 w1.length c1, .slice none 0 0, .int .u8 (da : Int), .int .u32 (db : Int), .int .u8 (dk : Int), .string ⟨ds.toArray⟩, .string ⟨dt.toArray⟩, .string ⟨du.toArray⟩, .int .u8 (dz : Int), .int .u8 (xc : Int), .string ⟨xt.toArray⟩]) E (H.get (i := 3) rfl) rfl rfl Tryz.underlying33 rfl sz_palaver_api_Msg rfl rfl) ?_
      refine SxA.take (i := 1) rfl (by kernel_rfl) (by kernel_rfl) (by kernel_rfl) rfl rfl (fun _ _ _ h => h) trivial (fun ρ w E H => ex_load (part := [.string ⟨((Rd.doc r1).s).toArray⟩, .int .i64 ((Rd.doc r1).e : Int)]) E (H.get (i := 2) rfl) rfl rfl Tryz.underlying121 rfl sz_palaver_palaverref01_Reader rfl rfl) ?_
      refine SxA.ready [2] (by kernel_rfl) (by simp) ⟨?_, trivial⟩
      refine SxO.storeX (j := 3) [.int .u8 (xk : Int), .int .u64 (xn : Int), .int .u8 (xr : Int), .int .u64 (xb : Int), .int .u64 (xs : Int), .int .u8 (xo : Int), .string ⟨xv.toArray⟩, .slice A1 w1.length c1, .slice none 0 0, .int .u8 (da : Int), .int .u32 (db : Int), .int .u8 (dk : Int), .string ⟨ds.toArray⟩, .string ⟨dt.toArray⟩, .string ⟨du.toArray⟩, .int .u8 (dz : Int), .int .u8 (xc : Int), .string ⟨xt.toArray⟩] rfl trivial rfl rfl rfl rfl rfl sz_palaver_api_Msg rfl rfl rfl (putL_all _ _ rfl) (fun w H => H.ks [] [0, 1, 4, 5] rfl ⟨(fun g hg => .inr (hv1.fresh g hg)), (fun g hg => by rw [List.mem_singleton.1 hg]; exact .inr hg5), (fun g hg => by rw [List.mem_singleton.1 hg]; exact .inr hg4), (fun g hg => by rw [List.mem_singleton.1 hg]; exact .inr hg3), (fun g hg => by rw [List.mem_singleton.1 hg]; exact .inr hg2), (fun g hg => by rw [List.mem_singleton.1 hg]; exact .inr hg1), trivial⟩) ?_
      refine SxA.ready [3] (by kernel_rfl) (by simp) ⟨?_, trivial⟩
      refine SxO.storeX (j := 2) [.string ⟨((Rd.doc r1).s).toArray⟩, .int .i64 ((Rd.doc r1).e : Int)] rfl trivial rfl rfl rfl rfl rfl sz_palaver_palaverref01_Reader rfl rfl rfl (putL_all _ _ rfl) (fun w H => H.ks [] [0, 1, 4, 5] rfl ⟨(fun g hg => .inr (hv1.fresh g hg)), (fun g hg => by rw [List.mem_singleton.1 hg]; exact .inr hg5), (fun g hg => by rw [List.mem_singleton.1 hg]; exact .inr hg4), (fun g hg => by rw [List.mem_singleton.1 hg]; exact .inr hg3), (fun g hg => by rw [List.mem_singleton.1 hg]; exact .inr hg2), (fun g hg => by rw [List.mem_singleton.1 hg]; exact .inr hg1), trivial⟩) ?_
      refine SxA.done (by kernel_rfl) ?_
      refine SxN.then_ (SxC.ret ?_)
      refine SxX.done _ (fun a w K H => resM K [.agg #[.int .u8 (xk : Int), .int .u64 (xn : Int), .int .u8 (xr : Int), .int .u64 (xb : Int), .int .u64 (xs : Int), .int .u8 (xo : Int), .string ⟨xv.toArray⟩, .slice A1 w1.length c1, .slice none 0 0, .int .u8 (da : Int), .int .u32 (db : Int), .int .u8 (dk : Int), .string ⟨ds.toArray⟩, .string ⟨dt.toArray⟩, .string ⟨du.toArray⟩, .int .u8 (dz : Int), .int .u8 (xc : Int), .string ⟨xt.toArray⟩], .agg #[.string ⟨((Rd.doc r1).s).toArray⟩, .int .i64 ((Rd.doc r1).e : Int)]] rfl rfl ⟨⟨_, rfl, blk_loadVar (H.get (i := 3) rfl) Tryz.underlying33 rfl sz_palaver_api_Msg⟩, ⟨_, rfl, blk_loadVar (H.get (i := 2) rfl) Tryz.underlying121 rfl sz_palaver_palaverref01_Reader⟩, trivial⟩) (fun w H => ?_)
      have hst : tkV p105.1 p105.2 [] = (r1, w1) := by
        rw [hrel]; refine tkV_stop n r1 w1 ?_
        first | (left; have h := hc110; simp [cmpB] at h; omega) | (right; have h := hc114; rw [doc_err] at h; simp [cmpB] at h; omega)
      have e1 : Pt.take .votes (⟨xk, xn, xr, xb, xs, xo, xv, [], [], ⟨da, db, dk, ds, dt, du, dz⟩, xc, xt⟩, r) = (⟨xk, xn, xr, xb, xs, xo, xv, w1, [], ⟨da, db, dk, ds, dt, du, dz⟩, xc, xt⟩, r1) := by simp only [Pt.take, hp105, hst]
      rw [e1]
      exact ⟨_, rfl, H.get (i := 0) rfl, H.toBelow ⟨hv1.fresh, (fun g hg => by rw [List.mem_singleton.1 hg]; exact hg5), (fun g hg => by rw [List.mem_singleton.1 hg]; exact hg4), (fun g hg => by rw [List.mem_singleton.1 hg]; exact hg3), (fun g hg => by rw [List.mem_singleton.1 hg]; exact hg2), (fun g hg => by rw [List.mem_singleton.1 hg]; exact hg1), trivial⟩⟩
    · refine SxC.condT rfl (SxC.skip (SxN.then_ (SxC.seq (SxC.block (SxC.seq ?_)))))
      have hn0 : 0 < n := by have := hc110; simp [cmpB] at this; omega
      have he0 : r1.err = 0 := by have := hc114; rw [doc_err] at this; simp [cmpB] at this; omega
      have hgr := hG.vote he0
      have hb1 := hG.h1
      have hb2 := hG.h2
      refine SxC.region ?_
      refine SxL.new (cs := [.int .u64 0, .int .u64 0, .int .u8 0, .string ⟨[].toArray⟩]) trivial rfl rfl (fun ρ w E H => ex_alloc rfl zr_palaver_api_Vote rfl) fun g6 hg6 => ?_
      refine SxL.nil (SxN.then_ (SxC.seq (SxC.region ?_)))
      refine SxL.val trivial rfl rfl (fun ρ w E H => ex_load (part := [.string ⟨((Rd.doc r1).s).toArray⟩, .int .i64 ((Rd.doc r1).e : Int)]) E (H.get (i := 5) rfl) rfl rfl Tryz.underlying121 rfl sz_palaver_palaverref01_Reader rfl rfl) ?_
      obtain ⟨p120, hp120⟩ : ∃ p, Rd.num r1 = p := ⟨_, rfl⟩
      refine SxL.callB (v := .tuple #[.int .u64 (p120.1 : Int), .agg #[.string ⟨((Rd.doc p120.2).s).toArray⟩, .int .i64 ((Rd.doc p120.2).e : Int)]]) trivial rfl rfl (fun ρ w E => ex_call E en_palaver_palaverref01_Reader_Num rfl rfl) (fun w H => docn_p hp120 (by have q0 := hb1; omega) w) ?_
      refine SxL.val trivial rfl rfl (fun ρ w E H => ex_move E rfl rfl) ?_
      iterate 2 refine SxL.val trivial rfl rfl (fun ρ w E H => ex_extract E rfl rfl rfl) ?_
      refine SxL.val (v := .pointer (some ⟨g6, 0, none⟩)) trivial rfl rfl (fun ρ w E H => ex_field E rfl fa_palaver_api_Vote_0 rfl rfl) ?_
      refine SxL.storeX (i := 0) [.int .u64 (p120.1 : Int), .int .u64 0, .int .u8 0, .string ⟨[].toArray⟩] trivial rfl rfl rfl rfl rfl sz_uint64 rfl rfl rfl rfl ?_
      refine SxL.storeX (i := 5) [.string ⟨((Rd.doc p120.2).s).toArray⟩, .int .i64 ((Rd.doc p120.2).e : Int)] trivial rfl rfl rfl rfl rfl sz_palaver_palaverref01_Reader rfl rfl rfl (putL_all _ _ rfl) ?_
      refine SxL.nil (SxN.then_ (SxC.seq (SxC.region ?_)))
      refine SxL.val trivial rfl rfl (fun ρ w E H => ex_load (part := [.string ⟨((Rd.doc p120.2).s).toArray⟩, .int .i64 ((Rd.doc p120.2).e : Int)]) E (H.get (i := 5) rfl) rfl rfl Tryz.underlying121 rfl sz_palaver_palaverref01_Reader rfl rfl) ?_
      obtain ⟨p126, hp126⟩ : ∃ p, Bal.takeB p120.2 = p := ⟨_, rfl⟩
      refine SxL.callB (v := .tuple #[.agg #[.int .u64 (p126.1.n : Int), .int .u8 (p126.1.r : Int)], .agg #[.string ⟨((Rd.doc p126.2).s).toArray⟩, .int .i64 ((Rd.doc p126.2).e : Int)]]) trivial rfl rfl (fun ρ w E => ex_call E en_palaver_palaverref07_Take rfl rfl) (fun w H => docbal_p hp126 (by have q0 := hb1; have q1 := rp_num hp120; omega) w) ?_
      refine SxL.val trivial rfl rfl (fun ρ w E H => ex_move E rfl rfl) ?_
      iterate 2 refine SxL.val trivial rfl rfl (fun ρ w E H => ex_extract E rfl rfl rfl) ?_
      refine SxL.val (v := .pointer (some ⟨g6, 1, none⟩)) trivial rfl rfl (fun ρ w E H => ex_field E rfl fa_palaver_api_Vote_1 rfl rfl) ?_
      refine SxL.storeX (i := 0) [.int .u64 (p120.1 : Int), .int .u64 (p126.1.n : Int), .int .u8 (p126.1.r : Int), .string ⟨[].toArray⟩] trivial rfl rfl rfl rfl rfl sz_palaver_api_Ballot rfl rfl rfl rfl ?_
      refine SxL.storeX (i := 5) [.string ⟨((Rd.doc p126.2).s).toArray⟩, .int .i64 ((Rd.doc p126.2).e : Int)] trivial rfl rfl rfl rfl rfl sz_palaver_palaverref01_Reader rfl rfl rfl (putL_all _ _ rfl) ?_
      refine SxL.nil (SxN.then_ (SxC.seq (SxC.region ?_)))
      refine SxL.val trivial rfl rfl (fun ρ w E H => ex_load (part := [.string ⟨((Rd.doc p126.2).s).toArray⟩, .int .i64 ((Rd.doc p126.2).e : Int)]) E (H.get (i := 5) rfl) rfl rfl Tryz.underlying121 rfl sz_palaver_palaverref01_Reader rfl rfl) ?_
      obtain ⟨p132, hp132⟩ : ∃ p, Rd.str p126.2 65536 = p := ⟨_, rfl⟩
      refine SxL.callB (v := .tuple #[.string ⟨p132.1.toArray⟩, .agg #[.string ⟨((Rd.doc p132.2).s).toArray⟩, .int .i64 ((Rd.doc p132.2).e : Int)]]) trivial rfl rfl (fun ρ w E => ex_call E en_palaver_palaverref01_Reader_Str rfl rfl) (fun w H => docs_p hp132 (by decide) (by decide) (by have q0 := hb1; have q1 := rp_num hp120; have q2 := rp_bal hp126; omega) w) ?_
      refine SxL.val trivial rfl rfl (fun ρ w E H => ex_move E rfl rfl) ?_
      iterate 2 refine SxL.val trivial rfl rfl (fun ρ w E H => ex_extract E rfl rfl rfl) ?_
      refine SxL.val (v := .pointer (some ⟨g6, 3, none⟩)) trivial rfl rfl (fun ρ w E H => ex_field E rfl fa_palaver_api_Vote_2 rfl rfl) ?_
      refine SxL.storeX (i := 0) [.int .u64 (p120.1 : Int), .int .u64 (p126.1.n : Int), .int .u8 (p126.1.r : Int), .string ⟨p132.1.toArray⟩] trivial rfl rfl rfl rfl rfl sz_string rfl rfl rfl rfl ?_
      refine SxL.storeX (i := 5) [.string ⟨((Rd.doc p132.2).s).toArray⟩, .int .i64 ((Rd.doc p132.2).e : Int)] trivial rfl rfl rfl rfl rfl sz_palaver_palaverref01_Reader rfl rfl rfl (putL_all _ _ rfl) ?_
      refine SxL.nil (SxN.then_ (SxC.region ?_))
      refine SxL.val (v := .pointer (some ⟨g1, 7, none⟩)) trivial rfl rfl (fun ρ w E H => ex_field E rfl fa_palaver_api_Msg_6 rfl rfl) ?_
      refine SxL.val trivial rfl rfl (fun ρ w E H => ex_load1 E (H.get (i := 6) rfl) rfl rfl Tryz.underlying25 rfl rfl) ?_
      refine SxL.val trivial rfl rfl (fun ρ w E H => ex_load (part := [.int .u64 (p120.1 : Int), .int .u64 (p126.1.n : Int), .int .u8 (p126.1.r : Int), .string ⟨p132.1.toArray⟩]) E (H.get (i := 0) rfl) rfl rfl Tryz.underlying92 rfl sz_palaver_api_Vote rfl rfl) ?_
      refine SxL.newS (cs := [.int .u64 (p120.1 : Int), .int .u64 (p126.1.n : Int), .int .u8 (p126.1.r : Int), .string ⟨p132.1.toArray⟩]) trivial rfl rfl (fun ρ w E H => ex_buildSlice E rfl rfl Tryz.underlying25 sz_palaver_api_Vote zr_palaver_api_Vote rfl rfl (by kernel_rfl)) fun g7 hg7 => ?_
      refine SxL.append (i := 2) (news := [.int .u64 (p120.1 : Int), .int .u64 (p126.1.n : Int), .int .u8 (p126.1.r : Int), .string ⟨p132.1.toArray⟩]) trivial rfl rfl rfl Tryz.underlying25 nf_palaver_api_Vote rfl rfl rfl rfl hv1 rfl (fun w H => reads_cell H (i := 0) rfl rfl) (one_list rfl) (by unfold maxLen; omega) (by omega) (Nat.le_refl _) fun A140 k140 hv140 => ?_
      refine SxL.val (v := .pointer (some ⟨g1, 7, none⟩)) trivial rfl rfl (fun ρ w E H => ex_field E rfl fa_palaver_api_Msg_6 rfl rfl) ?_
      refine SxL.storeX (i := 7) [.int .u8 (xk : Int), .int .u64 (xn : Int), .int .u8 (xr : Int), .int .u64 (xb : Int), .int .u64 (xs : Int), .int .u8 (xo : Int), .string ⟨xv.toArray⟩, .slice A140 (w1.length + 1) k140, .slice none 0 0, .int .u8 (da : Int), .int .u32 (db : Int), .int .u8 (dk : Int), .string ⟨ds.toArray⟩, .string ⟨dt.toArray⟩, .string ⟨du.toArray⟩, .int .u8 (dz : Int), .int .u8 (xc : Int), .string ⟨xt.toArray⟩] trivial rfl rfl rfl rfl rfl sz_api_Vote rfl rfl rfl rfl ?_
      refine SxL.nil (SxN.block (SxN.then_ (SxC.region ?_)))
      refine SxL.val trivial rfl rfl (fun ρ w E H => ex_move E rfl rfl) ?_
      refine SxL.val (v := .int .u64 ((n - 1 : Nat) : Int)) trivial rfl rfl (fun ρ w E H => ex_sub E rfl rfl rfl (by rw [IntKind.wrap_u64]; omega)) ?_
      refine SxL.val trivial rfl rfl (fun ρ w E H => ex_assign E rfl rfl) ?_
      refine SxL.nil ?_
      refine SxN.hp (fun W H => H.re (i := 2) rfl (rowX [] w.heap.size 92 4 (.slice A140 (w1.length + 1) k140) ((w1 ++ [(⟨p120.1, p126.1.n, p126.1.r, p132.1⟩ : Vo)]).length) ((w1 ++ [(⟨p120.1, p126.1.n, p126.1.r, p132.1⟩ : Vo)]).flatMap voL)) (rowX_loc _ _ _ _ _ _ _) rfl (fun h => own_as h (by simp) (by simp [voL]))) ?_
      refine SxN.back (gk - 1) (n - 1, p132.2, w1 ++ [(⟨p120.1, p126.1.n, p126.1.r, p132.1⟩ : Vo)], .slice A140 (w1.length + 1) k140) (by omega) ⟨by omega, by rw [hrel, tkV_step n r1 w1 hn0 he0]; simp only [hp120, hp126, hp132], hv140, by rw [List.length_append]; simp only [hp120, hp126, hp132] at hgr; exact hgr, by omega⟩ ⟨rfl, rfl, rfl, rfl, rfl, rfl, trivial⟩ [2, 3, 4, 5, 6, 7] rfl (by decide) ⟨.inr (fun g hg => by rw [List.mem_singleton.1 hg]; exact hg7), .inr (fun g hg => by rw [List.mem_singleton.1 hg]; exact hg6), .inl rfl, .inl rfl, .inl rfl, .inl rfl, .inl rfl, .inl rfl, trivial⟩

set_option maxRecDepth 100000 in
set_option maxHeartbeats 4000000 in
theorem rpart_items (r : Rd) (xk xn xr xb xs xo da db dk dz xc : Nat) (xv ds dt du xt : List UInt8)  (w : World) (hG0 : Grows r 0) : Calls Tryz.prog 62 #[.int .u8 105, .agg #[.int .u8 (xk : Int), .int .u64 (xn : Int), .int .u8 (xr : Int), .int .u64 (xb : Int), .int .u64 (xs : Int), .int .u8 (xo : Int), .string ⟨xv.toArray⟩, .slice none 0 0, .slice none 0 0, .int .u8 (da : Int), .int .u32 (db : Int), .int .u8 (dk : Int), .string ⟨ds.toArray⟩, .string ⟨dt.toArray⟩, .string ⟨du.toArray⟩, .int .u8 (dz : Int), .int .u8 (xc : Int), .string ⟨xt.toArray⟩], .agg #[.string ⟨((Rd.doc r).s).toArray⟩, .int .i64 ((Rd.doc r).e : Int)]] w fun e w' => ∃ V', e = .returned (.tuple #[.agg (msL (Pt.take .items (⟨xk, xn, xr, xb, xs, xo, xv, [], [], ⟨da, db, dk, ds, dt, du, dz⟩, xc, xt⟩, r)).1 (.slice none 0 0) V').toArray, .agg #[.string ⟨(Rd.doc (Pt.take .items (⟨xk, xn, xr, xb, xs, xo, xv, [], [], ⟨da, db, dk, ds, dt, du, dz⟩, xc, xt⟩, r)).2).s.toArray⟩, .int .i64 ((Rd.doc (Pt.take .items (⟨xk, xn, xr, xb, xs, xo, xv, [], [], ⟨da, db, dk, ds, dt, du, dz⟩, xc, xt⟩, r)).2).e : Int)]]) ∧ w'.ownsRow w.heap.size 94 2 V' (Pt.take .items (⟨xk, xn, xr, xb, xs, xo, xv, [], [], ⟨da, db, dk, ds, dt, du, dz⟩, xc, xt⟩, r)).1.items.length ((Pt.take .items (⟨xk, xn, xr, xb, xs, xo, xv, [], [], ⟨da, db, dk, ds, dt, du, dz⟩, xc, xt⟩, r)).1.items.flatMap imL) ∧ Below w.heap.size w w' := by
  have hrl := hG0.h1
  refine sx_enter (n := 179) _ Tryz.func62 rfl rfl rfl (Hp.start w) ?_
  refine SxC.seq (SxC.region ?_)
  refine SxL.new (cs := [.int .u8 (xk : Int), .int .u64 (xn : Int), .int .u8 (xr : Int), .int .u64 (xb : Int), .int .u64 (xs : Int), .int .u8 (xo : Int), .string ⟨xv.toArray⟩, .slice none 0 0, .slice none 0 0, .int .u8 (da : Int), .int .u32 (db : Int), .int .u8 (dk : Int), .string ⟨ds.toArray⟩, .string ⟨dt.toArray⟩, .string ⟨du.toArray⟩, .int .u8 (dz : Int), .int .u8 (xc : Int), .string ⟨xt.toArray⟩]) trivial rfl rfl (fun ρ w E H => ex_box E rfl rfl rfl) fun g1 hg1 => ?_
  refine SxL.new (cs := [.string ⟨((Rd.doc r).s).toArray⟩, .int .i64 ((Rd.doc r).e : Int)]) trivial rfl rfl (fun ρ w E H => ex_box E rfl rfl rfl) fun g2 hg2 => ?_
  refine SxL.new (cs := [.int .u8 0, .int .u64 0, .int .u8 0, .int .u64 0, .int .u64 0, .int .u8 0, .string ⟨[].toArray⟩, .slice none 0 0, .slice none 0 0, .int .u8 0, .int .u32 0, .int .u8 0, .string ⟨[].toArray⟩, .string ⟨[].toArray⟩, .string ⟨[].toArray⟩, .int .u8 0, .int .u8 0, .string ⟨[].toArray⟩]) trivial rfl rfl (fun ρ w E H => ex_alloc rfl zr_palaver_api_Msg rfl) fun g3 hg3 => ?_
  refine SxL.new (cs := [.string ⟨[].toArray⟩, .int .i64 0]) trivial rfl rfl (fun ρ w E H => ex_alloc rfl zr_palaver_palaverref01_Reader rfl) fun g4 hg4 => ?_
  refine SxL.nil (SxN.then_ (SxC.seq (SxC.seq (SxC.region ?_))))
  refine SxL.val trivial rfl rfl (fun ρ w E H => ex_move E rfl rfl) ?_
  refine SxL.nil (SxN.then_ (SxC.block (SxC.seq (SxC.region ?_))))
  refine SxL.val (v := .bool false) trivial rfl rfl (fun ρ w E H => ex_cmp E rfl rfl rfl rfl (by decide)) ?_
  refine SxL.val trivial rfl rfl (fun ρ w E H => ex_assign E rfl rfl) ?_
  refine SxL.nil (SxN.then_ (SxC.condF rfl (SxC.seq (SxC.region ?_))))
  refine SxL.val (v := .bool false) trivial rfl rfl (fun ρ w E H => ex_cmp E rfl rfl rfl rfl (by decide)) ?_
  refine SxL.val trivial rfl rfl (fun ρ w E H => ex_assign E rfl rfl) ?_
  refine SxL.nil (SxN.then_ (SxC.condF rfl (SxC.seq (SxC.region ?_))))
  refine SxL.val (v := .bool false) trivial rfl rfl (fun ρ w E H => ex_cmp E rfl rfl rfl rfl (by decide)) ?_
  refine SxL.val trivial rfl rfl (fun ρ w E H => ex_assign E rfl rfl) ?_
  refine SxL.nil (SxN.then_ (SxC.condF rfl (SxC.seq (SxC.region ?_))))
  refine SxL.val (v := .bool false) trivial rfl rfl (fun ρ w E H => ex_cmp E rfl rfl rfl rfl (by decide)) ?_
  refine SxL.val trivial rfl rfl (fun ρ w E H => ex_assign E rfl rfl) ?_
  refine SxL.nil (SxN.then_ (SxC.condF rfl (SxC.seq (SxC.region ?_))))
  refine SxL.val (v := .bool false) trivial rfl rfl (fun ρ w E H => ex_cmp E rfl rfl rfl rfl (by decide)) ?_
  refine SxL.val trivial rfl rfl (fun ρ w E H => ex_assign E rfl rfl) ?_
  refine SxL.nil (SxN.then_ (SxC.condF rfl (SxC.seq (SxC.region ?_))))
  refine SxL.val (v := .bool false) trivial rfl rfl (fun ρ w E H => ex_cmp E rfl rfl rfl rfl (by decide)) ?_
  refine SxL.val trivial rfl rfl (fun ρ w E H => ex_assign E rfl rfl) ?_
  refine SxL.nil (SxN.then_ (SxC.condF rfl (SxC.seq (SxC.seq (SxC.region ?_)))))
  refine SxL.val (v := .bool false) trivial rfl rfl (fun ρ w E H => ex_cmp E rfl rfl rfl rfl (by decide)) ?_
  refine SxL.val trivial rfl rfl (fun ρ w E H => ex_assign E rfl rfl) ?_
  refine SxL.nil (SxN.then_ (SxC.condF rfl (SxC.region ?_)))
  refine SxL.val (v := .bool false) trivial rfl rfl (fun ρ w E H => ex_cmp E rfl rfl rfl rfl (by decide)) ?_
  refine SxL.val trivial rfl rfl (fun ρ w E H => ex_assign E rfl rfl) ?_
  refine SxL.nil (SxN.then_ (SxC.condF rfl (SxC.seq (SxC.region ?_))))
  refine SxL.val (v := .bool false) trivial rfl rfl (fun ρ w E H => ex_cmp E rfl rfl rfl rfl (by decide)) ?_
  refine SxL.val trivial rfl rfl (fun ρ w E H => ex_assign E rfl rfl) ?_
  refine SxL.nil (SxN.then_ (SxC.condF rfl (SxC.seq (SxC.region ?_))))
  refine SxL.val (v := .bool false) trivial rfl rfl (fun ρ w E H => ex_cmp E rfl rfl rfl rfl (by decide)) ?_
  refine SxL.val trivial rfl rfl (fun ρ w E H => ex_assign E rfl rfl) ?_
  refine SxL.nil (SxN.then_ (SxC.condF rfl (SxC.seq (SxC.region ?_))))
  refine SxL.val (v := .bool true) trivial rfl rfl (fun ρ w E H => ex_cmp E rfl rfl rfl rfl (by decide)) ?_
  refine SxL.val trivial rfl rfl (fun ρ w E H => ex_assign E rfl rfl) ?_
  refine SxL.nil (SxN.then_ (SxC.condT rfl (SxC.seq (SxC.region ?_))))
  refine SxL.val trivial rfl rfl (fun ρ w E H => ex_load (part := [.string ⟨((Rd.doc r).s).toArray⟩, .int .i64 ((Rd.doc r).e : Int)]) E (H.get (i := 2) rfl) rfl rfl Tryz.underlying121 rfl sz_palaver_palaverref01_Reader rfl rfl) ?_
  obtain ⟨p146, hp146⟩ : ∃ p, Rd.num r = p := ⟨_, rfl⟩
  refine SxL.callB (v := .tuple #[.int .u64 (p146.1 : Int), .agg #[.string ⟨((Rd.doc p146.2).s).toArray⟩, .int .i64 ((Rd.doc p146.2).e : Int)]]) trivial rfl rfl (fun ρ w E => ex_call E en_palaver_palaverref01_Reader_Num rfl rfl) (fun w H => docn_p hp146 (by have q0 := hrl; omega) w) ?_
  refine SxL.val trivial rfl rfl (fun ρ w E H => ex_move E rfl rfl) ?_
  iterate 2 refine SxL.val trivial rfl rfl (fun ρ w E H => ex_extract E rfl rfl rfl) ?_
  refine SxL.new (cs := [.string ⟨[].toArray⟩, .int .i64 0]) trivial rfl rfl (fun ρ w E H => ex_alloc rfl zr_palaver_palaverref01_Reader rfl) fun g5 hg5 => ?_
  refine SxL.val trivial rfl rfl (fun ρ w E H => ex_assign E rfl rfl) ?_
  refine SxL.storeX (i := 0) [.string ⟨((Rd.doc p146.2).s).toArray⟩, .int .i64 ((Rd.doc p146.2).e : Int)] trivial rfl rfl rfl rfl rfl sz_palaver_palaverref01_Reader rfl rfl rfl (putL_all _ _ rfl) ?_
  refine SxL.nil (SxN.then_ (SxC.seq (SxC.region ?_)))
  refine SxL.val trivial rfl rfl (fun ρ w E H => ex_load (part := [.string ⟨((Rd.doc p146.2).s).toArray⟩, .int .i64 ((Rd.doc p146.2).e : Int)]) E (H.get (i := 0) rfl) rfl rfl Tryz.underlying121 rfl sz_palaver_palaverref01_Reader rfl rfl) ?_
  refine SxL.storeX (i := 3) [.string ⟨((Rd.doc p146.2).s).toArray⟩, .int .i64 ((Rd.doc p146.2).e : Int)] trivial rfl rfl rfl rfl rfl sz_palaver_palaverref01_Reader rfl rfl rfl (putL_all _ _ rfl) ?_
  refine SxL.nil (SxN.then_ (SxC.block ?_))
  refine SxC.hp (fun W H => H.nilRow 94 2) ?_
  refine SxC.loop4 (fun (n : Nat) (r1 : Rd) (w1 : List Im) (V1 : Value) => [(4, .pointer (some ⟨g1, 0, none⟩)), (5, .pointer (some ⟨g2, 0, none⟩)), (6, .pointer (some ⟨g3, 0, none⟩)), (7, .pointer (some ⟨g4, 0, none⟩)), (13, .int .u64 (n : Int)), (14, .pointer (some ⟨g5, 0, none⟩))]) (fun (n : Nat) (r1 : Rd) (w1 : List Im) (V1 : Value) => [rowX [] w.heap.size 94 2 V1 w1.length (w1.flatMap imL), cell g5 121 [.string ⟨((Rd.doc p146.2).s).toArray⟩, .int .i64 ((Rd.doc p146.2).e : Int)], cell g4 121 [.string ⟨[].toArray⟩, .int .i64 0], cell g3 33 [.int .u8 0, .int .u64 0, .int .u8 0, .int .u64 0, .int .u64 0, .int .u8 0, .string ⟨[].toArray⟩, .slice none 0 0, .slice none 0 0, .int .u8 0, .int .u32 0, .int .u8 0, .string ⟨[].toArray⟩, .string ⟨[].toArray⟩, .string ⟨[].toArray⟩, .int .u8 0, .int .u8 0, .string ⟨[].toArray⟩], cell g2 121 [.string ⟨((Rd.doc r1).s).toArray⟩, .int .i64 ((Rd.doc r1).e : Int)], cell g1 33 [.int .u8 (xk : Int), .int .u64 (xn : Int), .int .u8 (xr : Int), .int .u64 (xb : Int), .int .u64 (xs : Int), .int .u8 (xo : Int), .string ⟨xv.toArray⟩, .slice none 0 0, V1, .int .u8 (da : Int), .int .u32 (db : Int), .int .u8 (dk : Int), .string ⟨ds.toArray⟩, .string ⟨dt.toArray⟩, .string ⟨du.toArray⟩, .int .u8 (dz : Int), .int .u8 (xc : Int), .string ⟨xt.toArray⟩]]) (fun (gk : Nat) (n : Nat) (r1 : Rd) (w1 : List Im) (V1 : Value) => n = gk ∧ tkI p146.1 p146.2 [] = tkI n r1 w1 ∧ OwnIn w [] V1 ∧ Grows r1 w1.length ∧ n < 18446744073709551616) p146.1 p146.1 p146.2 [] (.slice none 0 0) ⟨rfl, rfl, own_none w, hp146 ▸ hG0.num, hp146 ▸ lt_num r⟩ ⟨rfl, rfl, rfl, rfl, rfl, rfl, trivial⟩ [0, 1, 2, 3, 4, 5] rfl (by decide) ⟨.inl rfl, .inl rfl, .inl rfl, .inl rfl, .inl rfl, .inl rfl, trivial⟩ fun gk n r1 w1 V1 hF => ?_
  obtain ⟨hkg, hrel, hv1, hG, hn64⟩ := hF
  refine SxC.seq (SxC.seq (SxC.region ?_))
  refine SxL.val trivial rfl rfl (fun ρ w E H => ex_move E rfl rfl) ?_
  refine SxL.valB trivial rfl rfl (fun ρ w E H => ex_cmp E rfl rfl rfl rfl rfl) fun c151 hc151 => ?_
  refine SxL.val trivial rfl rfl (fun ρ w E H => ex_move E rfl rfl) ?_
  cases c151
  · refine SxL.off ⟨_, _, _, rfl, rfl, rfl, nofun⟩ rfl rfl ?_
    iterate 2 refine SxL.off ⟨_, _, _, rfl, rfl, rfl, nofun⟩ rfl rfl ?_
    refine SxL.val trivial rfl rfl (fun ρ w E H => ex_pick E rfl (t := false) rfl rfl) ?_
    refine SxL.nil (SxN.then_ (SxC.condF rfl (SxC.exit (SxX.thenE (SxX.thenE (SxX.blockE (SxN.block (SxN.then_ (SxC.seq ?_)))))))))
    refine SxC.with (fun W H => own_is_slice (H.get (i := 0) rfl)) ?_
    rintro ⟨A1, c1, rfl⟩
    refine SxC.drawnK [] [0, 1, 4, 5] (by kernel_rfl) rfl ⟨(fun g hg => .inr (hv1.fresh g hg)), (fun g hg => by rw [List.mem_singleton.1 hg]; exact .inr hg5), (fun g hg => by rw [List.mem_singleton.1 hg]; exact .inr hg4), (fun g hg => by rw [List.mem_singleton.1 hg]; exact .inr hg3), (fun g hg => by rw [List.mem_singleton.1 hg]; exact .inr hg2), (fun g hg => by rw [List.mem_singleton.1 hg]; exact .inr hg1), trivial⟩ ?_
    refine SxA.take (i := 0) rfl (by kernel_rfl) (by kernel_rfl) (by kernel_rfl) rfl rfl (fun _ _ _ h => h) trivial (fun ρ w E H => ex_load (part := [.int .u8 (xk : Int), .int .u64 (xn : Int), .int .u8 (xr : Int), .int .u64 (xb : Int), .int .u64 (xs : Int), .int .u8 (xo : Int), .string ⟨xv.toArray⟩, .slice none 0 0, .slice A1 w1.length c1, .int .u8 (da : Int), .int .u32 (db : Int), .int .u8 (dk : Int), .string ⟨ds.toArray⟩, .string ⟨dt.toArray⟩, .string ⟨du.toArray⟩, .int .u8 (dz : Int), .int .u8 (xc : Int), .string ⟨xt.toArray⟩]) E (H.get (i := 3) rfl) rfl rfl Tryz.underlying33 rfl sz_palaver_api_Msg rfl rfl) ?_
    refine SxA.take (i := 1) rfl (by kernel_rfl) (by kernel_rfl) (by kernel_rfl) rfl rfl (fun _ _ _ h => h) trivial (fun ρ w E H => ex_load (part := [.string ⟨((Rd.doc r1).s).toArray⟩, .int .i64 ((Rd.doc r1).e : Int)]) E (H.get (i := 2) rfl) rfl rfl Tryz.underlying121 rfl sz_palaver_palaverref01_Reader rfl rfl) ?_
    refine SxA.ready [2] (by kernel_rfl) (by simp) ⟨?_, trivial⟩
    refine SxO.storeX (j := 3) [.int .u8 (xk : Int), .int .u64 (xn : Int), .int .u8 (xr : Int), .int .u64 (xb : Int), .int .u64 (xs : Int), .int .u8 (xo : Int), .string ⟨xv.toArray⟩, .slice none 0 0, .slice A1 w1.length c1, .int .u8 (da : Int), .int .u32 (db : Int), .int .u8 (dk : Int), .string ⟨ds.toArray⟩, .string ⟨dt.toArray⟩, .string ⟨du.toArray⟩, .int .u8 (dz : Int), .int .u8 (xc : Int), .string ⟨xt.toArray⟩] rfl trivial rfl rfl rfl rfl rfl sz_palaver_api_Msg rfl rfl rfl (putL_all _ _ rfl) (fun w H => H.ks [] [0, 1, 4, 5] rfl ⟨(fun g hg => .inr (hv1.fresh g hg)), (fun g hg => by rw [List.mem_singleton.1 hg]; exact .inr hg5), (fun g hg => by rw [List.mem_singleton.1 hg]; exact .inr hg4), (fun g hg => by rw [List.mem_singleton.1 hg]; exact .inr hg3), (fun g hg => by rw [List.mem_singleton.1 hg]; exact .inr hg2), (fun g hg => by rw [List.mem_singleton.1 hg]; exact .inr hg1), trivial⟩) ?_
    refine SxA.ready [3] (by kernel_rfl) (by simp) ⟨?_, trivial⟩
    refine SxO.storeX (j := 2) [.string ⟨((Rd.doc r1).s).toArray⟩, .int .i64 ((Rd.doc r1).e : Int)] rfl trivial rfl rfl rfl rfl rfl sz_palaver_palaverref01_Reader rfl rfl rfl (putL_all _ _ rfl) (fun w H => H.ks [] [0, 1, 4, 5] rfl ⟨(fun g hg => .inr (hv1.fresh g hg)), (fun g hg => by rw [List.mem_singleton.1 hg]; exact .inr hg5), (fun g hg => by rw [List.mem_singleton.1 hg]; exact .inr hg4), (fun g hg => by rw [List.mem_singleton.1 hg]; exact .inr hg3), (fun g hg => by rw [List.mem_singleton.1 hg]; exact .inr hg2), (fun g hg => by rw [List.mem_singleton.1 hg]; exact .inr hg1), trivial⟩) ?_
    refine SxA.done (by kernel_rfl) ?_
    refine SxN.then_ (SxC.ret ?_)
    refine SxX.done _ (fun a w K H => resM K [.agg #[.int .u8 (xk : Int), .int .u64 (xn : Int), .int .u8 (xr : Int), .int .u64 (xb : Int), .int .u64 (xs : Int), .int .u8 (xo : Int), .string ⟨xv.toArray⟩, .slice none 0 0, .slice A1 w1.length c1, .int .u8 (da : Int), .int .u32 (db : Int), .int .u8 (dk : Int), .string ⟨ds.toArray⟩, .string ⟨dt.toArray⟩, .string ⟨du.toArray⟩, .int .u8 (dz : Int), .int .u8 (xc : Int), .string ⟨xt.toArray⟩], .agg #[.string ⟨((Rd.doc r1).s).toArray⟩, .int .i64 ((Rd.doc r1).e : Int)]] rfl rfl ⟨⟨_, rfl, blk_loadVar (H.get (i := 3) rfl) Tryz.underlying33 rfl sz_palaver_api_Msg⟩, ⟨_, rfl, blk_loadVar (H.get (i := 2) rfl) Tryz.underlying121 rfl sz_palaver_palaverref01_Reader⟩, trivial⟩) (fun w H => ?_)
    have hst : tkI p146.1 p146.2 [] = (r1, w1) := by
      rw [hrel]; refine tkI_stop n r1 w1 ?_
      first | (left; have h := hc151; simp [cmpB] at h; omega) | (right; have h := hc155; rw [doc_err] at h; simp [cmpB] at h; omega)
    have e1 : Pt.take .items (⟨xk, xn, xr, xb, xs, xo, xv, [], [], ⟨da, db, dk, ds, dt, du, dz⟩, xc, xt⟩, r) = (⟨xk, xn, xr, xb, xs, xo, xv, [], w1, ⟨da, db, dk, ds, dt, du, dz⟩, xc, xt⟩, r1) := by simp only [Pt.take, hp146, hst]
    rw [e1]
    exact ⟨_, rfl, H.get (i := 0) rfl, H.toBelow ⟨hv1.fresh, (fun g hg => by rw [List.mem_singleton.1 hg]; exact hg5), (fun g hg => by rw [List.mem_singleton.1 hg]; exact hg4), (fun g hg => by rw [List.mem_singleton.1 hg]; exact hg3), (fun g hg => by rw [List.mem_singleton.1 hg]; exact hg2), (fun g hg => by rw [List.mem_singleton.1 hg]; exact hg1), trivial⟩⟩
  · refine SxL.val (v := .pointer (some ⟨g2, 1, none⟩)) ⟨_, _, rfl, rfl, rfl⟩ rfl rfl (fun ρ w E H => ex_field E rfl fa_palaver_palaverref01_Reader_1 rfl rfl) ?_
    refine SxL.val ⟨_, _, rfl, rfl, rfl⟩ rfl rfl (fun ρ w E H => ex_load1 E (H.get (i := 4) rfl) rfl rfl Tryz.underlying37 rfl rfl) ?_
    refine SxL.valB ⟨_, _, rfl, rfl, rfl⟩ rfl rfl (fun ρ w E H => ex_cmp E rfl rfl rfl rfl rfl) fun c155 hc155 => ?_
    refine SxL.val trivial rfl rfl (fun ρ w E H => ex_pick E rfl (t := true) rfl rfl) ?_
    refine SxL.nil (SxN.then_ ?_)
    cases c155
    · refine SxC.condF rfl (SxC.exit (SxX.thenE (SxX.thenE (SxX.blockE (SxN.block (SxN.then_ (SxC.seq ?_)))))))
      refine SxC.with (fun W H => own_is_slice (H.get (i := 0) rfl)) ?_
      rintro ⟨A1, c1, rfl⟩
      refine SxC.drawnK [] [0, 1, 4, 5] (by kernel_rfl) rfl ⟨(fun g hg => .inr (hv1.fresh g hg)), (fun g hg => by rw [List.mem_singleton.1 hg]; exact .inr hg5), (fun g hg => by rw [List.mem_singleton.1 hg]; exact .inr hg4), (fun g hg => by rw [List.mem_singleton.1 hg]; exact .inr hg3), (fun g hg => by rw [List.mem_singleton.1 hg]; exact .inr hg2), (fun g hg => by rw [List.mem_singleton.1 hg]; exact .inr hg1), trivial⟩ ?_
      refine SxA.take (i := 0) rfl (by kernel_rfl) (by kernel_rfl) (by kernel_rfl) rfl rfl (fun _ _ _ h => h) trivial (fun ρ w E H => ex_load (part := [.int .u8 (xk : Int), .int .u64 (xn : Int), .int .u8 (xr : Int), .int .u64 (xb : Int), .int .u64 (xs : Int), .int .u8 (xo : Int), .string ⟨xv.toArray⟩, .slice none 0 0, .slice A1 w1.length c1, .int .u8 (da : Int), .int .u32 (db : Int), .int .u8 (dk : Int), .string ⟨ds.toArray⟩, .string ⟨dt.toArray⟩, .string ⟨du.toArray⟩, .int .u8 (dz : Int), .int .u8 (xc : Int), .string ⟨xt.toArray⟩]) E (H.get (i := 3) rfl) rfl rfl Tryz.underlying33 rfl sz_palaver_api_Msg rfl rfl) ?_
      refine SxA.take (i := 1) rfl (by kernel_rfl) (by kernel_rfl) (by kernel_rfl) rfl rfl (fun _ _ _ h => h) trivial (fun ρ w E H => ex_load (part := [.string ⟨((Rd.doc r1).s).toArray⟩, .int .i64 ((Rd.doc r1).e : Int)]) E (H.get (i := 2) rfl) rfl rfl Tryz.underlying121 rfl sz_palaver_palaverref01_Reader rfl rfl) ?_
      refine SxA.ready [2] (by kernel_rfl) (by simp) ⟨?_, trivial⟩
      refine SxO.storeX (j := 3) [.int .u8 (xk : Int), .int .u64 (xn : Int), .int .u8 (xr : Int), .int .u64 (xb : Int), .int .u64 (xs : Int), .int .u8 (xo : Int), .string ⟨xv.toArray⟩, .slice none 0 0, .slice A1 w1.length c1, .int .u8 (da : Int), .int .u32 (db : Int), .int .u8 (dk : Int), .string ⟨ds.toArray⟩, .string ⟨dt.toArray⟩, .string ⟨du.toArray⟩, .int .u8 (dz : Int), .int .u8 (xc : Int), .string ⟨xt.toArray⟩] rfl trivial rfl rfl rfl rfl rfl sz_palaver_api_Msg rfl rfl rfl (putL_all _ _ rfl) (fun w H => H.ks [] [0, 1, 4, 5] rfl ⟨(fun g hg => .inr (hv1.fresh g hg)), (fun g hg => by rw [List.mem_singleton.1 hg]; exact .inr hg5), (fun g hg => by rw [List.mem_singleton.1 hg]; exact .inr hg4), (fun g hg => by rw [List.mem_singleton.1 hg]; exact .inr hg3), (fun g hg => by rw [List.mem_singleton.1 hg]; exact .inr hg2), (fun g hg => by rw [List.mem_singleton.1 hg]; exact .inr hg1), trivial⟩) ?_
      refine SxA.ready [3] (by kernel_rfl) (by simp) ⟨?_, trivial⟩
      refine SxO.storeX (j := 2) [.string ⟨((Rd.doc r1).s).toArray⟩, .int .i64 ((Rd.doc r1).e : Int)] rfl trivial rfl rfl rfl rfl rfl sz_palaver_palaverref01_Reader rfl rfl rfl (putL_all _ _ rfl) (fun w H => H.ks [] [0, 1, 4, 5] rfl ⟨(fun g hg => .inr (hv1.fresh g hg)), (fun g hg => by rw [List.mem_singleton.1 hg]; exact .inr hg5), (fun g hg => by rw [List.mem_singleton.1 hg]; exact .inr hg4), (fun g hg => by rw [List.mem_singleton.1 hg]; exact .inr hg3), (fun g hg => by rw [List.mem_singleton.1 hg]; exact .inr hg2), (fun g hg => by rw [List.mem_singleton.1 hg]; exact .inr hg1), trivial⟩) ?_
      refine SxA.done (by kernel_rfl) ?_
      refine SxN.then_ (SxC.ret ?_)
      refine SxX.done _ (fun a w K H => resM K [.agg #[.int .u8 (xk : Int), .int .u64 (xn : Int), .int .u8 (xr : Int), .int .u64 (xb : Int), .int .u64 (xs : Int), .int .u8 (xo : Int), .string ⟨xv.toArray⟩, .slice none 0 0, .slice A1 w1.length c1, .int .u8 (da : Int), .int .u32 (db : Int), .int .u8 (dk : Int), .string ⟨ds.toArray⟩, .string ⟨dt.toArray⟩, .string ⟨du.toArray⟩, .int .u8 (dz : Int), .int .u8 (xc : Int), .string ⟨xt.toArray⟩], .agg #[.string ⟨((Rd.doc r1).s).toArray⟩, .int .i64 ((Rd.doc r1).e : Int)]] rfl rfl ⟨⟨_, rfl, blk_loadVar (H.get (i := 3) rfl) Tryz.underlying33 rfl sz_palaver_api_Msg⟩, ⟨_, rfl, blk_loadVar (H.get (i := 2) rfl) Tryz.underlying121 rfl sz_palaver_palaverref01_Reader⟩, trivial⟩) (fun w H => ?_)
      have hst : tkI p146.1 p146.2 [] = (r1, w1) := by
        rw [hrel]; refine tkI_stop n r1 w1 ?_
        first | (left; have h := hc151; simp [cmpB] at h; omega) | (right; have h := hc155; rw [doc_err] at h; simp [cmpB] at h; omega)
      have e1 : Pt.take .items (⟨xk, xn, xr, xb, xs, xo, xv, [], [], ⟨da, db, dk, ds, dt, du, dz⟩, xc, xt⟩, r) = (⟨xk, xn, xr, xb, xs, xo, xv, [], w1, ⟨da, db, dk, ds, dt, du, dz⟩, xc, xt⟩, r1) := by simp only [Pt.take, hp146, hst]
      rw [e1]
      exact ⟨_, rfl, H.get (i := 0) rfl, H.toBelow ⟨hv1.fresh, (fun g hg => by rw [List.mem_singleton.1 hg]; exact hg5), (fun g hg => by rw [List.mem_singleton.1 hg]; exact hg4), (fun g hg => by rw [List.mem_singleton.1 hg]; exact hg3), (fun g hg => by rw [List.mem_singleton.1 hg]; exact hg2), (fun g hg => by rw [List.mem_singleton.1 hg]; exact hg1), trivial⟩⟩
    · refine SxC.condT rfl (SxC.skip (SxN.then_ (SxC.seq (SxC.block (SxC.seq ?_)))))
      have hn0 : 0 < n := by have := hc151; simp [cmpB] at this; omega
      have he0 : r1.err = 0 := by have := hc155; rw [doc_err] at this; simp [cmpB] at this; omega
      have hgr := hG.item he0
      have hb1 := hG.h1
      have hb2 := hG.h2
      refine SxC.region ?_
      refine SxL.new (cs := [.int .u64 0, .string ⟨[].toArray⟩]) trivial rfl rfl (fun ρ w E H => ex_alloc rfl zr_palaver_api_Item rfl) fun g6 hg6 => ?_
      refine SxL.nil (SxN.then_ (SxC.seq (SxC.region ?_)))
      refine SxL.val trivial rfl rfl (fun ρ w E H => ex_load (part := [.string ⟨((Rd.doc r1).s).toArray⟩, .int .i64 ((Rd.doc r1).e : Int)]) E (H.get (i := 5) rfl) rfl rfl Tryz.underlying121 rfl sz_palaver_palaverref01_Reader rfl rfl) ?_
      obtain ⟨p161, hp161⟩ : ∃ p, Rd.num r1 = p := ⟨_, rfl⟩
      refine SxL.callB (v := .tuple #[.int .u64 (p161.1 : Int), .agg #[.string ⟨((Rd.doc p161.2).s).toArray⟩, .int .i64 ((Rd.doc p161.2).e : Int)]]) trivial rfl rfl (fun ρ w E => ex_call E en_palaver_palaverref01_Reader_Num rfl rfl) (fun w H => docn_p hp161 (by have q0 := hb1; omega) w) ?_
      refine SxL.val trivial rfl rfl (fun ρ w E H => ex_move E rfl rfl) ?_
      iterate 2 refine SxL.val trivial rfl rfl (fun ρ w E H => ex_extract E rfl rfl rfl) ?_
      refine SxL.val (v := .pointer (some ⟨g6, 0, none⟩)) trivial rfl rfl (fun ρ w E H => ex_field E rfl fa_palaver_api_Item_0 rfl rfl) ?_
      refine SxL.storeX (i := 0) [.int .u64 (p161.1 : Int), .string ⟨[].toArray⟩] trivial rfl rfl rfl rfl rfl sz_uint64 rfl rfl rfl rfl ?_
      refine SxL.storeX (i := 5) [.string ⟨((Rd.doc p161.2).s).toArray⟩, .int .i64 ((Rd.doc p161.2).e : Int)] trivial rfl rfl rfl rfl rfl sz_palaver_palaverref01_Reader rfl rfl rfl (putL_all _ _ rfl) ?_
      refine SxL.nil (SxN.then_ (SxC.seq (SxC.region ?_)))
      refine SxL.val trivial rfl rfl (fun ρ w E H => ex_load (part := [.string ⟨((Rd.doc p161.2).s).toArray⟩, .int .i64 ((Rd.doc p161.2).e : Int)]) E (H.get (i := 5) rfl) rfl rfl Tryz.underlying121 rfl sz_palaver_palaverref01_Reader rfl rfl) ?_
      obtain ⟨p167, hp167⟩ : ∃ p, Rd.str p161.2 65536 = p := ⟨_, rfl⟩
      refine SxL.callB (v := .tuple #[.string ⟨p167.1.toArray⟩, .agg #[.string ⟨((Rd.doc p167.2).s).toArray⟩, .int .i64 ((Rd.doc p167.2).e : Int)]]) trivial rfl rfl (fun ρ w E => ex_call E en_palaver_palaverref01_Reader_Str rfl rfl) (fun w H => docs_p hp167 (by decide) (by decide) (by have q0 := hb1; have q1 := rp_num hp161; omega) w) ?_
      refine SxL.val trivial rfl rfl (fun ρ w E H => ex_move E rfl rfl) ?_
      iterate 2 refine SxL.val trivial rfl rfl (fun ρ w E H => ex_extract E rfl rfl rfl) ?_
      refine SxL.val (v := .pointer (some ⟨g6, 1, none⟩)) trivial rfl rfl (fun ρ w E H => ex_field E rfl fa_palaver_api_Item_1 rfl rfl) ?_
      refine SxL.storeX (i := 0) [.int .u64 (p161.1 : Int), .string ⟨p167.1.toArray⟩] trivial rfl rfl rfl rfl rfl sz_string rfl rfl rfl rfl ?_
      refine SxL.storeX (i := 5) [.string ⟨((Rd.doc p167.2).s).toArray⟩, .int .i64 ((Rd.doc p167.2).e : Int)] trivial rfl rfl rfl rfl rfl sz_palaver_palaverref01_Reader rfl rfl rfl (putL_all _ _ rfl) ?_
      refine SxL.nil (SxN.then_ (SxC.region ?_))
      refine SxL.val (v := .pointer (some ⟨g1, 8, none⟩)) trivial rfl rfl (fun ρ w E H => ex_field E rfl fa_palaver_api_Msg_7 rfl rfl) ?_
      refine SxL.val trivial rfl rfl (fun ρ w E H => ex_load1 E (H.get (i := 6) rfl) rfl rfl Tryz.underlying26 rfl rfl) ?_
      refine SxL.val trivial rfl rfl (fun ρ w E H => ex_load (part := [.int .u64 (p161.1 : Int), .string ⟨p167.1.toArray⟩]) E (H.get (i := 0) rfl) rfl rfl Tryz.underlying94 rfl sz_palaver_api_Item rfl rfl) ?_
      refine SxL.newS (cs := [.int .u64 (p161.1 : Int), .string ⟨p167.1.toArray⟩]) trivial rfl rfl (fun ρ w E H => ex_buildSlice E rfl rfl Tryz.underlying26 sz_palaver_api_Item zr_palaver_api_Item rfl rfl (by kernel_rfl)) fun g7 hg7 => ?_
      refine SxL.append (i := 2) (news := [.int .u64 (p161.1 : Int), .string ⟨p167.1.toArray⟩]) trivial rfl rfl rfl Tryz.underlying26 nf_palaver_api_Item rfl rfl rfl rfl hv1 rfl (fun w H => reads_cell H (i := 0) rfl rfl) (one_list rfl) (by unfold maxLen; omega) (by omega) (Nat.le_refl _) fun A175 k175 hv175 => ?_
      refine SxL.val (v := .pointer (some ⟨g1, 8, none⟩)) trivial rfl rfl (fun ρ w E H => ex_field E rfl fa_palaver_api_Msg_7 rfl rfl) ?_
      refine SxL.storeX (i := 7) [.int .u8 (xk : Int), .int .u64 (xn : Int), .int .u8 (xr : Int), .int .u64 (xb : Int), .int .u64 (xs : Int), .int .u8 (xo : Int), .string ⟨xv.toArray⟩, .slice none 0 0, .slice A175 (w1.length + 1) k175, .int .u8 (da : Int), .int .u32 (db : Int), .int .u8 (dk : Int), .string ⟨ds.toArray⟩, .string ⟨dt.toArray⟩, .string ⟨du.toArray⟩, .int .u8 (dz : Int), .int .u8 (xc : Int), .string ⟨xt.toArray⟩] trivial rfl rfl rfl rfl rfl sz_api_Item rfl rfl rfl rfl ?_
      refine SxL.nil (SxN.block (SxN.then_ (SxC.region ?_)))
      refine SxL.val trivial rfl rfl (fun ρ w E H => ex_move E rfl rfl) ?_
      refine SxL.val (v := .int .u64 ((n - 1 : Nat) : Int)) trivial rfl rfl (fun ρ w E H => ex_sub E rfl rfl rfl (by rw [IntKind.wrap_u64]; omega)) ?_
      refine SxL.val trivial rfl rfl (fun ρ w E H => ex_assign E rfl rfl) ?_
      refine SxL.nil ?_
      refine SxN.hp (fun W H => H.re (i := 2) rfl (rowX [] w.heap.size 94 2 (.slice A175 (w1.length + 1) k175) ((w1 ++ [(⟨p161.1, p167.1⟩ : Im)]).length) ((w1 ++ [(⟨p161.1, p167.1⟩ : Im)]).flatMap imL)) (rowX_loc _ _ _ _ _ _ _) rfl (fun h => own_as h (by simp) (by simp [imL]))) ?_
      refine SxN.back (gk - 1) (n - 1, p167.2, w1 ++ [(⟨p161.1, p167.1⟩ : Im)], .slice A175 (w1.length + 1) k175) (by omega) ⟨by omega, by rw [hrel, tkI_step n r1 w1 hn0 he0]; simp only [hp161, hp167], hv175, by rw [List.length_append]; simp only [hp161, hp167] at hgr; exact hgr, by omega⟩ ⟨rfl, rfl, rfl, rfl, rfl, rfl, trivial⟩ [2, 3, 4, 5, 6, 7] rfl (by decide) ⟨.inr (fun g hg => by rw [List.mem_singleton.1 hg]; exact hg7), .inr (fun g hg => by rw [List.mem_singleton.1 hg]; exact hg6), .inl rfl, .inl rfl, .inl rfl, .inl rfl, .inl rfl, .inl rfl, trivial⟩

theorem last_list {k i : Nat} {p : Pt} (h : (partsOf k)[i]? = some p) (hp : p = .votes ∨ p = .items) : (partsOf k).length = i + 1 := by
  rcases Nat.lt_or_ge k 14 with hk | hk
  · have hk : k = 0 ∨ k = 1 ∨ k = 2 ∨ k = 3 ∨ k = 4 ∨ k = 5 ∨ k = 6 ∨ k = 7 ∨ k = 8 ∨ k = 9 ∨ k = 10 ∨ k = 11 ∨ k = 12 ∨ k = 13 := by omega
    have hi : i < 4 := by
      have h1 := (List.getElem?_eq_some_iff.1 h).1
      have h2 := chars_len k
      unfold chars at h2
      rw [List.length_map] at h2
      omega
    have h4 : i = 0 ∨ i = 1 ∨ i = 2 ∨ i = 3 := by omega
    rcases hp with rfl | rfl <;> rcases hk with rfl | rfl | rfl | rfl | rfl | rfl | rfl | rfl | rfl | rfl | rfl | rfl | rfl | rfl <;> rcases h4 with rfl | rfl | rfl | rfl <;> first | rfl | (exfalso; revert h; decide)
  · rw [parts_far k hk] at h; cases h
theorem rpart_any (p : Pt) (m : Ms) (r : Rd) (hv : m.votes = []) (hi : m.items = []) (hG : Grows r 0) (w : World) : Calls Tryz.prog 62 #[.int .u8 (p.ch : Int), .agg (msL m (.slice none 0 0) (.slice none 0 0)).toArray, .agg #[.string ⟨(Rd.doc r).s.toArray⟩, .int .i64 ((Rd.doc r).e : Int)]] w fun e w' => ∃ V I, e = .returned (.tuple #[.agg (msL (p.take (m, r)).1 V I).toArray, .agg #[.string ⟨(Rd.doc (p.take (m, r)).2).s.toArray⟩, .int .i64 ((Rd.doc (p.take (m, r)).2).e : Int)]]) ∧ w'.ownsRow w.heap.size 92 4 V (p.take (m, r)).1.votes.length ((p.take (m, r)).1.votes.flatMap voL) ∧ w'.ownsRow w.heap.size 94 2 I (p.take (m, r)).1.items.length ((p.take (m, r)).1.items.flatMap imL) ∧ (p ≠ .votes → p ≠ .items → V = .slice none 0 0 ∧ I = .slice none 0 0) ∧ Below w.heap.size w w' := by
  obtain ⟨xk, xn, xr, xb, xs, xo, xv, wl, jl, ⟨da, db, dk, ds, dt, du, dz⟩, xc, xt⟩ := m
  obtain rfl : wl = [] := hv
  obtain rfl : jl = [] := hi
  have hrl : r.rest.length ≤ 1000000 := Nat.le_trans hG.h1 (by decide)
  have fin : ∀ {E w'} {x : Ms × Rd}, x.1.votes = [] → x.1.items = [] → (E = Ending.returned (.tuple #[.agg (msL x.1 (.slice none 0 0) (.slice none 0 0)).toArray, .agg #[.string ⟨(Rd.doc x.2).s.toArray⟩, .int .i64 ((Rd.doc x.2).e : Int)]]) ∧ Below w.heap.size w w') → ∃ V I, E = .returned (.tuple #[.agg (msL x.1 V I).toArray, .agg #[.string ⟨(Rd.doc x.2).s.toArray⟩, .int .i64 ((Rd.doc x.2).e : Int)]]) ∧ w'.ownsRow w.heap.size 92 4 V x.1.votes.length (x.1.votes.flatMap voL) ∧ w'.ownsRow w.heap.size 94 2 I x.1.items.length (x.1.items.flatMap imL) ∧ (p ≠ .votes → p ≠ .items → V = .slice none 0 0 ∧ I = .slice none 0 0) ∧ Below w.heap.size w w' := fun h1 h2 h => ⟨_, _, h.1, by rw [h1]; exact World.ownsRow_nil _ _ _ _, by rw [h2]; exact World.ownsRow_nil _ _ _ _, fun _ _ => ⟨rfl, rfl⟩, h.2⟩
  cases p with
  | cmd => exact (rpart_cmd r _ _ _ _ _ _ _ _ _ _ _ _ _ _ _ _  w hrl).mono fun _ _ h => fin rfl rfl h
  | name => exact (rpart_name r _ _ _ _ _ _ _ _ _ _ _ _ _ _ _ _  w hrl).mono fun _ _ h => fin rfl rfl h
  | reply => exact (rpart_reply r _ _ _ _ _ _ _ _ _ _ _ _ _ _ _ _  w hrl).mono fun _ _ h => fin rfl rfl h
  | node => exact (rpart_node r _ _ _ _ _ _ _ _ _ _ _ _ _ _ _ _  w hrl).mono fun _ _ h => fin rfl rfl h
  | turn => exact (rpart_turn r _ _ _ _ _ _ _ _ _ _ _ _ _ _ _ _  w hrl).mono fun _ _ h => fin rfl rfl h
  | floor => exact (rpart_floor r _ _ _ _ _ _ _ _ _ _ _ _ _ _ _ _  w hrl).mono fun _ _ h => fin rfl rfl h
  | slot l =>
    cases l with
    | zero => exact (rpart_slot0 r _ _ _ _ _ _ _ _ _ _ _ _ _ _ _ _  w hrl).mono fun _ _ h => fin rfl rfl h
    | succ ls => exact (rpart_slot1 r _ _ _ _ _ _ _ _ _ _ _ _ _ _ _ _  ls w hrl).mono fun _ _ h => fin rfl rfl h
  | value => exact (rpart_value r _ _ _ _ _ _ _ _ _ _ _ _ _ _ _ _  w hrl).mono fun _ _ h => fin rfl rfl h
  | votes => exact (rpart_votes r _ _ _ _ _ _ _ _ _ _ _ _ _ _ _ _  w hG).mono fun _ _ ⟨V, h1, h2, h3⟩ => ⟨V, _, h1, h2, World.ownsRow_nil _ _ _ _, fun h => absurd rfl h, h3⟩
  | items => exact (rpart_items r _ _ _ _ _ _ _ _ _ _ _ _ _ _ _ _  w hG).mono fun _ _ ⟨V, h1, h2, h3⟩ => ⟨_, V, h1, World.ownsRow_nil _ _ _ _, h2, fun _ h => absurd rfl h, h3⟩
end Go.Proofs.YteiaiilfekojfaaGreat.Msg
end
section
set_option linter.unusedVariables false
set_option linter.unusedSimpArgs false
namespace Go.Proofs.YteiaiilfekojfaaGreat.Msg
open Go.RowKit Sx Wire DrawInv
set_option maxRecDepth 100000 in
set_option maxHeartbeats 4000000 in
theorem rsame_lit (mk mn mr mb ms mo ca cb ck cz mc : Nat) (mv cs ct cu mt : List UInt8) (vl : List Vo) (il : List Im)(xk xn xr xb xs xo da db dk dz xc : Nat) (xv ds dt du xt : List UInt8) (wl : List Vo) (jl : List Im) (A B : Option Addr) (ka kb : Nat) (C D : Option Addr) (kc kd : Nat) (w : World) (hv : Rows w A 4 voL vl) (hi : Rows w B 2 imL il) (hv2 : Rows w C 4 voL wl) (hi2 : Rows w D 2 imL jl) (hl1 : vl.length ≤ 1000000) (hl2 : il.length ≤ 1000000) : Calls Tryz.prog 14 #[.agg #[.int .u8 (mk : Int), .int .u64 (mn : Int), .int .u8 (mr : Int), .int .u64 (mb : Int), .int .u64 (ms : Int), .int .u8 (mo : Int), .string ⟨mv.toArray⟩, .slice A vl.length ka, .slice B il.length kb, .int .u8 (ca : Int), .int .u32 (cb : Int), .int .u8 (ck : Int), .string ⟨cs.toArray⟩, .string ⟨ct.toArray⟩, .string ⟨cu.toArray⟩, .int .u8 (cz : Int), .int .u8 (mc : Int), .string ⟨mt.toArray⟩], .agg #[.int .u8 (xk : Int), .int .u64 (xn : Int), .int .u8 (xr : Int), .int .u64 (xb : Int), .int .u64 (xs : Int), .int .u8 (xo : Int), .string ⟨xv.toArray⟩, .slice C wl.length kc, .slice D jl.length kd, .int .u8 (da : Int), .int .u32 (db : Int), .int .u8 (dk : Int), .string ⟨ds.toArray⟩, .string ⟨dt.toArray⟩, .string ⟨du.toArray⟩, .int .u8 (dz : Int), .int .u8 (xc : Int), .string ⟨xt.toArray⟩]] w fun e w' => e = .returned (.bool (decide ((⟨mk, mn, mr, mb, ms, mo, mv, vl, il, ⟨ca, cb, ck, cs, ct, cu, cz⟩, mc, mt⟩ : Ms) = ⟨xk, xn, xr, xb, xs, xo, xv, wl, jl, ⟨da, db, dk, ds, dt, du, dz⟩, xc, xt⟩))) ∧ Below w.heap.size w w' := by
  refine sx_enter (n := 113) _ Tryz.func14 rfl rfl rfl (Hp.start w) ?_
  refine SxC.seq (SxC.region ?_)
  refine SxL.new (cs := [.int .u8 (mk : Int), .int .u64 (mn : Int), .int .u8 (mr : Int), .int .u64 (mb : Int), .int .u64 (ms : Int), .int .u8 (mo : Int), .string ⟨mv.toArray⟩, .slice A vl.length ka, .slice B il.length kb, .int .u8 (ca : Int), .int .u32 (cb : Int), .int .u8 (ck : Int), .string ⟨cs.toArray⟩, .string ⟨ct.toArray⟩, .string ⟨cu.toArray⟩, .int .u8 (cz : Int), .int .u8 (mc : Int), .string ⟨mt.toArray⟩]) trivial rfl rfl (fun ρ w E H => ex_box E rfl rfl rfl) fun g1 hg1 => ?_
  refine SxL.new (cs := [.int .u8 (xk : Int), .int .u64 (xn : Int), .int .u8 (xr : Int), .int .u64 (xb : Int), .int .u64 (xs : Int), .int .u8 (xo : Int), .string ⟨xv.toArray⟩, .slice C wl.length kc, .slice D jl.length kd, .int .u8 (da : Int), .int .u32 (db : Int), .int .u8 (dk : Int), .string ⟨ds.toArray⟩, .string ⟨dt.toArray⟩, .string ⟨du.toArray⟩, .int .u8 (dz : Int), .int .u8 (xc : Int), .string ⟨xt.toArray⟩]) trivial rfl rfl (fun ρ w E H => ex_box E rfl rfl rfl) fun g2 hg2 => ?_
  refine SxL.val trivial rfl rfl (fun ρ w E H => ex_assign E rfl rfl) ?_
  refine SxL.nil (SxN.then_ (SxC.seq (SxC.seq (SxC.region ?_))))
  refine SxL.val (v := .pointer (some ⟨g1, 7, none⟩)) trivial rfl rfl (fun ρ w E H => ex_field E rfl fa_palaver_api_Msg_6 rfl rfl) ?_
  refine SxL.val trivial rfl rfl (fun ρ w E H => ex_load1 E (H.get (i := 1) rfl) rfl rfl Tryz.underlying25 rfl rfl) ?_
  refine SxL.val (v := .int .i64 (vl.length : Int)) trivial rfl rfl (fun ρ w E H => ex_lenS E rfl Tryz.underlying25 rfl) ?_
  refine SxL.val (v := .pointer (some ⟨g2, 7, none⟩)) trivial rfl rfl (fun ρ w E H => ex_field E rfl fa_palaver_api_Msg_6 rfl rfl) ?_
  refine SxL.val trivial rfl rfl (fun ρ w E H => ex_load1 E (H.get (i := 0) rfl) rfl rfl Tryz.underlying25 rfl rfl) ?_
  refine SxL.val (v := .int .i64 (wl.length : Int)) trivial rfl rfl (fun ρ w E H => ex_lenS E rfl Tryz.underlying25 rfl) ?_
  refine SxL.valB trivial rfl rfl (fun ρ w E H => ex_cmp E rfl rfl rfl rfl rfl) fun c13 hc13 => ?_
  refine SxL.val trivial rfl rfl (fun ρ w E H => ex_move E rfl rfl) ?_
  cases c13
  · refine SxL.val (v := .pointer (some ⟨g1, 8, none⟩)) ⟨_, _, rfl, rfl, rfl⟩ rfl rfl (fun ρ w E H => ex_field E rfl fa_palaver_api_Msg_7 rfl rfl) ?_
    refine SxL.val ⟨_, _, rfl, rfl, rfl⟩ rfl rfl (fun ρ w E H => ex_load1 E (H.get (i := 1) rfl) rfl rfl Tryz.underlying26 rfl rfl) ?_
    refine SxL.val (v := .int .i64 (il.length : Int)) ⟨_, _, rfl, rfl, rfl⟩ rfl rfl (fun ρ w E H => ex_lenS E rfl Tryz.underlying26 rfl) ?_
    refine SxL.val (v := .pointer (some ⟨g2, 8, none⟩)) ⟨_, _, rfl, rfl, rfl⟩ rfl rfl (fun ρ w E H => ex_field E rfl fa_palaver_api_Msg_7 rfl rfl) ?_
    refine SxL.val ⟨_, _, rfl, rfl, rfl⟩ rfl rfl (fun ρ w E H => ex_load1 E (H.get (i := 0) rfl) rfl rfl Tryz.underlying26 rfl rfl) ?_
    refine SxL.val (v := .int .i64 (jl.length : Int)) ⟨_, _, rfl, rfl, rfl⟩ rfl rfl (fun ρ w E H => ex_lenS E rfl Tryz.underlying26 rfl) ?_
    refine SxL.valB ⟨_, _, rfl, rfl, rfl⟩ rfl rfl (fun ρ w E H => ex_cmp E rfl rfl rfl rfl rfl) fun c21 hc21 => ?_
    refine SxL.val trivial rfl rfl (fun ρ w E H => ex_pick E rfl (t := false) rfl rfl) ?_
    refine SxL.nil (SxN.then_ ?_)
    cases c21
    · refine SxC.condF rfl (SxC.skip (SxN.then_ (SxC.seq (SxC.seq (SxC.region ?_)))))
      refine SxL.val trivial rfl rfl (fun ρ w E H => ex_assign E rfl rfl) ?_
      refine SxL.nil (SxN.then_ (SxC.block ?_))
      refine SxC.loop1 (fun (k : Nat) => [(2, .pointer (some ⟨g1, 0, none⟩)), (3, .pointer (some ⟨g2, 0, none⟩)), (5, .int .i64 (k : Int))]) (fun (k : Nat) => [cell g2 33 [.int .u8 (xk : Int), .int .u64 (xn : Int), .int .u8 (xr : Int), .int .u64 (xb : Int), .int .u64 (xs : Int), .int .u8 (xo : Int), .string ⟨xv.toArray⟩, .slice C wl.length kc, .slice D jl.length kd, .int .u8 (da : Int), .int .u32 (db : Int), .int .u8 (dk : Int), .string ⟨ds.toArray⟩, .string ⟨dt.toArray⟩, .string ⟨du.toArray⟩, .int .u8 (dz : Int), .int .u8 (xc : Int), .string ⟨xt.toArray⟩], cell g1 33 [.int .u8 (mk : Int), .int .u64 (mn : Int), .int .u8 (mr : Int), .int .u64 (mb : Int), .int .u64 (ms : Int), .int .u8 (mo : Int), .string ⟨mv.toArray⟩, .slice A vl.length ka, .slice B il.length kb, .int .u8 (ca : Int), .int .u32 (cb : Int), .int .u8 (ck : Int), .string ⟨cs.toArray⟩, .string ⟨ct.toArray⟩, .string ⟨cu.toArray⟩, .int .u8 (cz : Int), .int .u8 (mc : Int), .string ⟨mt.toArray⟩]]) (fun (gk : Nat) (k : Nat) => k + gk = vl.length ∧ vl.take k = wl.take k ∧ vl.length = wl.length) vl.length 0 ⟨by omega, rfl, by have h := hc13; simp [cmpB] at h; omega⟩ ⟨rfl, rfl, rfl, trivial⟩ [0, 1] rfl (by decide) ⟨.inl rfl, .inl rfl, trivial⟩ fun gk k hF => ?_
      obtain ⟨hkg, hrel, hle⟩ := hF
      refine SxC.seq (SxC.seq (SxC.region ?_))
      refine SxL.val trivial rfl rfl (fun ρ w E H => ex_move E rfl rfl) ?_
      refine SxL.val (v := .pointer (some ⟨g1, 7, none⟩)) trivial rfl rfl (fun ρ w E H => ex_field E rfl fa_palaver_api_Msg_6 rfl rfl) ?_
      refine SxL.val trivial rfl rfl (fun ρ w E H => ex_load1 E (H.get (i := 1) rfl) rfl rfl Tryz.underlying25 rfl rfl) ?_
      refine SxL.val (v := .int .i64 (vl.length : Int)) trivial rfl rfl (fun ρ w E H => ex_lenS E rfl Tryz.underlying25 rfl) ?_
      refine SxL.valB trivial rfl rfl (fun ρ w E H => ex_cmp E rfl rfl rfl rfl rfl) fun c27 hc27 => ?_
      refine SxL.nil (SxN.then_ ?_)
      cases c27
      · refine SxC.condF rfl (SxC.exit (SxX.thenE (SxX.thenE (SxX.blockE (SxN.then_ (SxC.seq (SxC.seq ?_)))))))
        have hV : vl = wl := by have h := hc27; simp [cmpB] at h; rw [List.take_of_length_le (by omega), List.take_of_length_le (by omega)] at hrel; exact hrel
        refine SxC.region ?_
        refine SxL.val trivial rfl rfl (fun ρ w E H => ex_assign E rfl rfl) ?_
        refine SxL.nil (SxN.then_ (SxC.block ?_))
        refine SxC.loop1 (fun (k : Nat) => [(2, .pointer (some ⟨g1, 0, none⟩)), (3, .pointer (some ⟨g2, 0, none⟩)), (6, .int .i64 (k : Int))]) (fun (k : Nat) => [cell g2 33 [.int .u8 (xk : Int), .int .u64 (xn : Int), .int .u8 (xr : Int), .int .u64 (xb : Int), .int .u64 (xs : Int), .int .u8 (xo : Int), .string ⟨xv.toArray⟩, .slice C wl.length kc, .slice D jl.length kd, .int .u8 (da : Int), .int .u32 (db : Int), .int .u8 (dk : Int), .string ⟨ds.toArray⟩, .string ⟨dt.toArray⟩, .string ⟨du.toArray⟩, .int .u8 (dz : Int), .int .u8 (xc : Int), .string ⟨xt.toArray⟩], cell g1 33 [.int .u8 (mk : Int), .int .u64 (mn : Int), .int .u8 (mr : Int), .int .u64 (mb : Int), .int .u64 (ms : Int), .int .u8 (mo : Int), .string ⟨mv.toArray⟩, .slice A vl.length ka, .slice B il.length kb, .int .u8 (ca : Int), .int .u32 (cb : Int), .int .u8 (ck : Int), .string ⟨cs.toArray⟩, .string ⟨ct.toArray⟩, .string ⟨cu.toArray⟩, .int .u8 (cz : Int), .int .u8 (mc : Int), .string ⟨mt.toArray⟩]]) (fun (gk : Nat) (k : Nat) => k + gk = il.length ∧ il.take k = jl.take k ∧ il.length = jl.length) il.length 0 ⟨by omega, rfl, by have h := hc21; simp [cmpB] at h; omega⟩ ⟨rfl, rfl, rfl, trivial⟩ [0, 1] rfl (by decide) ⟨.inl rfl, .inl rfl, trivial⟩ fun gk k hF => ?_
        obtain ⟨hkg, hrel, hle⟩ := hF
        refine SxC.seq (SxC.seq (SxC.region ?_))
        refine SxL.val trivial rfl rfl (fun ρ w E H => ex_move E rfl rfl) ?_
        refine SxL.val (v := .pointer (some ⟨g1, 8, none⟩)) trivial rfl rfl (fun ρ w E H => ex_field E rfl fa_palaver_api_Msg_7 rfl rfl) ?_
        refine SxL.val trivial rfl rfl (fun ρ w E H => ex_load1 E (H.get (i := 1) rfl) rfl rfl Tryz.underlying26 rfl rfl) ?_
        refine SxL.val (v := .int .i64 (il.length : Int)) trivial rfl rfl (fun ρ w E H => ex_lenS E rfl Tryz.underlying26 rfl) ?_
        refine SxL.valB trivial rfl rfl (fun ρ w E H => ex_cmp E rfl rfl rfl rfl rfl) fun c45 hc45 => ?_
        refine SxL.nil (SxN.then_ ?_)
        cases c45
        · refine SxC.condF rfl (SxC.exit (SxX.thenE (SxX.thenE (SxX.blockE (SxN.then_ (SxC.seq ?_))))))
          have hI : il = jl := by have h := hc45; simp [cmpB] at h; rw [List.take_of_length_le (by omega), List.take_of_length_le (by omega)] at hrel; exact hrel
          refine SxC.region ?_
          refine SxL.val (v := .pointer (some ⟨g1, 0, none⟩)) trivial rfl rfl (fun ρ w E H => ex_field E rfl fa_palaver_api_Msg_0 rfl rfl) ?_
          refine SxL.val trivial rfl rfl (fun ρ w E H => ex_load1 E (H.get (i := 1) rfl) rfl rfl Tryz.underlying5 rfl rfl) ?_
          refine SxL.val (v := .pointer (some ⟨g2, 0, none⟩)) trivial rfl rfl (fun ρ w E H => ex_field E rfl fa_palaver_api_Msg_0 rfl rfl) ?_
          refine SxL.val trivial rfl rfl (fun ρ w E H => ex_load1 E (H.get (i := 0) rfl) rfl rfl Tryz.underlying5 rfl rfl) ?_
          refine SxL.valB trivial rfl rfl (fun ρ w E H => ex_cmp E rfl rfl rfl rfl rfl) fun c63 hc63 => ?_
          refine SxL.val trivial rfl rfl (fun ρ w E H => ex_move E rfl rfl) ?_
          cases c63
          · refine SxL.off ⟨_, _, _, rfl, rfl, rfl, nofun⟩ rfl rfl ?_
            iterate 4 refine SxL.off ⟨_, _, _, rfl, rfl, rfl, nofun⟩ rfl rfl ?_
            refine SxL.val trivial rfl rfl (fun ρ w E H => ex_pick E rfl (t := false) rfl rfl) ?_
            refine SxL.val trivial rfl rfl (fun ρ w E H => ex_move E rfl rfl) ?_
            iterate 5 refine SxL.off ⟨_, _, _, rfl, rfl, rfl, nofun⟩ rfl rfl ?_
            refine SxL.val trivial rfl rfl (fun ρ w E H => ex_pick E rfl (t := false) rfl rfl) ?_
            refine SxL.val trivial rfl rfl (fun ρ w E H => ex_move E rfl rfl) ?_
            iterate 5 refine SxL.off ⟨_, _, _, rfl, rfl, rfl, nofun⟩ rfl rfl ?_
            refine SxL.val trivial rfl rfl (fun ρ w E H => ex_pick E rfl (t := false) rfl rfl) ?_
            refine SxL.val trivial rfl rfl (fun ρ w E H => ex_move E rfl rfl) ?_
            iterate 5 refine SxL.off ⟨_, _, _, rfl, rfl, rfl, nofun⟩ rfl rfl ?_
            refine SxL.val trivial rfl rfl (fun ρ w E H => ex_pick E rfl (t := false) rfl rfl) ?_
            refine SxL.val trivial rfl rfl (fun ρ w E H => ex_move E rfl rfl) ?_
            iterate 5 refine SxL.off ⟨_, _, _, rfl, rfl, rfl, nofun⟩ rfl rfl ?_
            refine SxL.val trivial rfl rfl (fun ρ w E H => ex_pick E rfl (t := false) rfl rfl) ?_
            refine SxL.val trivial rfl rfl (fun ρ w E H => ex_move E rfl rfl) ?_
            iterate 5 refine SxL.off ⟨_, _, _, rfl, rfl, rfl, nofun⟩ rfl rfl ?_
            refine SxL.val trivial rfl rfl (fun ρ w E H => ex_pick E rfl (t := false) rfl rfl) ?_
            refine SxL.val trivial rfl rfl (fun ρ w E H => ex_move E rfl rfl) ?_
            iterate 5 refine SxL.off ⟨_, _, _, rfl, rfl, rfl, nofun⟩ rfl rfl ?_
            refine SxL.val trivial rfl rfl (fun ρ w E H => ex_pick E rfl (t := false) rfl rfl) ?_
            refine SxL.val trivial rfl rfl (fun ρ w E H => ex_assign E rfl rfl) ?_
            refine SxL.nil (SxN.then_ (SxC.ret ?_))
            refine SxX.done (.bool false) (fun a w K H => res1 K rfl rfl) (fun w H => ?_)
            have hq : false = decide ((⟨mk, mn, mr, mb, ms, mo, mv, vl, il, ⟨ca, cb, ck, cs, ct, cu, cz⟩, mc, mt⟩ : Ms) = ⟨xk, xn, xr, xb, xs, xo, xv, wl, jl, ⟨da, db, dk, ds, dt, du, dz⟩, xc, xt⟩) := by clear H; grind [cmpB]
            exact ⟨by rw [hq], H.toBelow ⟨(fun g hg => by rw [List.mem_singleton.1 hg]; exact hg2), (fun g hg => by rw [List.mem_singleton.1 hg]; exact hg1), trivial⟩⟩
          · refine SxL.val (v := .pointer (some ⟨g1, 1, none⟩)) ⟨_, _, rfl, rfl, rfl⟩ rfl rfl (fun ρ w E H => ex_field E rfl fa_palaver_api_Msg_1 rfl rfl) ?_
            refine SxL.val ⟨_, _, rfl, rfl, rfl⟩ rfl rfl (fun ρ w E H => ex_load (part := [.int .u64 (mn : Int), .int .u8 (mr : Int)]) E (H.get (i := 1) rfl) rfl rfl Tryz.underlying24 rfl sz_palaver_api_Ballot rfl rfl) ?_
            refine SxL.val (v := .pointer (some ⟨g2, 1, none⟩)) ⟨_, _, rfl, rfl, rfl⟩ rfl rfl (fun ρ w E H => ex_field E rfl fa_palaver_api_Msg_1 rfl rfl) ?_
            refine SxL.val ⟨_, _, rfl, rfl, rfl⟩ rfl rfl (fun ρ w E H => ex_load (part := [.int .u64 (xn : Int), .int .u8 (xr : Int)]) E (H.get (i := 0) rfl) rfl rfl Tryz.underlying24 rfl sz_palaver_api_Ballot rfl rfl) ?_
            refine SxL.valB ⟨_, _, rfl, rfl, rfl⟩ rfl rfl (fun ρ w E H => ex_aeql E rfl (by kernel_rfl) rfl rfl (fun w => eq_bal mn mr xn xr w)) fun c69 hc69 => ?_
            refine SxL.val trivial rfl rfl (fun ρ w E H => ex_pick E rfl (t := true) rfl rfl) ?_
            refine SxL.val trivial rfl rfl (fun ρ w E H => ex_move E rfl rfl) ?_
            cases c69
            · refine SxL.off ⟨_, _, _, rfl, rfl, rfl, nofun⟩ rfl rfl ?_
              iterate 4 refine SxL.off ⟨_, _, _, rfl, rfl, rfl, nofun⟩ rfl rfl ?_
              refine SxL.val trivial rfl rfl (fun ρ w E H => ex_pick E rfl (t := false) rfl rfl) ?_
              refine SxL.val trivial rfl rfl (fun ρ w E H => ex_move E rfl rfl) ?_
              iterate 5 refine SxL.off ⟨_, _, _, rfl, rfl, rfl, nofun⟩ rfl rfl ?_
              refine SxL.val trivial rfl rfl (fun ρ w E H => ex_pick E rfl (t := false) rfl rfl) ?_
              refine SxL.val trivial rfl rfl (fun ρ w E H => ex_move E rfl rfl) ?_
              iterate 5 refine SxL.off ⟨_, _, _, rfl, rfl, rfl, nofun⟩ rfl rfl ?_
              refine SxL.val trivial rfl rfl (fun ρ w E H => ex_pick E rfl (t := false) rfl rfl) ?_
              refine SxL.val trivial rfl rfl (fun ρ w E H => ex_move E rfl rfl) ?_
              iterate 5 refine SxL.off ⟨_, _, _, rfl, rfl, rfl, nofun⟩ rfl rfl ?_
              refine SxL.val trivial rfl rfl (fun ρ w E H => ex_pick E rfl (t := false) rfl rfl) ?_
              refine SxL.val trivial rfl rfl (fun ρ w E H => ex_move E rfl rfl) ?_
              iterate 5 refine SxL.off ⟨_, _, _, rfl, rfl, rfl, nofun⟩ rfl rfl ?_
              refine SxL.val trivial rfl rfl (fun ρ w E H => ex_pick E rfl (t := false) rfl rfl) ?_
              refine SxL.val trivial rfl rfl (fun ρ w E H => ex_move E rfl rfl) ?_
              iterate 5 refine SxL.off ⟨_, _, _, rfl, rfl, rfl, nofun⟩ rfl rfl ?_
              refine SxL.val trivial rfl rfl (fun ρ w E H => ex_pick E rfl (t := false) rfl rfl) ?_
              refine SxL.val trivial rfl rfl (fun ρ w E H => ex_assign E rfl rfl) ?_
              refine SxL.nil (SxN.then_ (SxC.ret ?_))
              refine SxX.done (.bool false) (fun a w K H => res1 K rfl rfl) (fun w H => ?_)
              have hq : false = decide ((⟨mk, mn, mr, mb, ms, mo, mv, vl, il, ⟨ca, cb, ck, cs, ct, cu, cz⟩, mc, mt⟩ : Ms) = ⟨xk, xn, xr, xb, xs, xo, xv, wl, jl, ⟨da, db, dk, ds, dt, du, dz⟩, xc, xt⟩) := by clear H; grind [cmpB]
              exact ⟨by rw [hq], H.toBelow ⟨(fun g hg => by rw [List.mem_singleton.1 hg]; exact hg2), (fun g hg => by rw [List.mem_singleton.1 hg]; exact hg1), trivial⟩⟩
            · refine SxL.val (v := .pointer (some ⟨g1, 3, none⟩)) ⟨_, _, rfl, rfl, rfl⟩ rfl rfl (fun ρ w E H => ex_field E rfl fa_palaver_api_Msg_2 rfl rfl) ?_
              refine SxL.val ⟨_, _, rfl, rfl, rfl⟩ rfl rfl (fun ρ w E H => ex_load1 E (H.get (i := 1) rfl) rfl rfl Tryz.underlying22 rfl rfl) ?_
              refine SxL.val (v := .pointer (some ⟨g2, 3, none⟩)) ⟨_, _, rfl, rfl, rfl⟩ rfl rfl (fun ρ w E H => ex_field E rfl fa_palaver_api_Msg_2 rfl rfl) ?_
              refine SxL.val ⟨_, _, rfl, rfl, rfl⟩ rfl rfl (fun ρ w E H => ex_load1 E (H.get (i := 0) rfl) rfl rfl Tryz.underlying22 rfl rfl) ?_
              refine SxL.valB ⟨_, _, rfl, rfl, rfl⟩ rfl rfl (fun ρ w E H => ex_cmp E rfl rfl rfl rfl rfl) fun c76 hc76 => ?_
              refine SxL.val trivial rfl rfl (fun ρ w E H => ex_pick E rfl (t := true) rfl rfl) ?_
              refine SxL.val trivial rfl rfl (fun ρ w E H => ex_move E rfl rfl) ?_
              cases c76
              · refine SxL.off ⟨_, _, _, rfl, rfl, rfl, nofun⟩ rfl rfl ?_
                iterate 4 refine SxL.off ⟨_, _, _, rfl, rfl, rfl, nofun⟩ rfl rfl ?_
                refine SxL.val trivial rfl rfl (fun ρ w E H => ex_pick E rfl (t := false) rfl rfl) ?_
                refine SxL.val trivial rfl rfl (fun ρ w E H => ex_move E rfl rfl) ?_
                iterate 5 refine SxL.off ⟨_, _, _, rfl, rfl, rfl, nofun⟩ rfl rfl ?_
                refine SxL.val trivial rfl rfl (fun ρ w E H => ex_pick E rfl (t := false) rfl rfl) ?_
                refine SxL.val trivial rfl rfl (fun ρ w E H => ex_move E rfl rfl) ?_
                iterate 5 refine SxL.off ⟨_, _, _, rfl, rfl, rfl, nofun⟩ rfl rfl ?_
                refine SxL.val trivial rfl rfl (fun ρ w E H => ex_pick E rfl (t := false) rfl rfl) ?_
                refine SxL.val trivial rfl rfl (fun ρ w E H => ex_move E rfl rfl) ?_
                iterate 5 refine SxL.off ⟨_, _, _, rfl, rfl, rfl, nofun⟩ rfl rfl ?_
                refine SxL.val trivial rfl rfl (fun ρ w E H => ex_pick E rfl (t := false) rfl rfl) ?_
                refine SxL.val trivial rfl rfl (fun ρ w E H => ex_move E rfl rfl) ?_
                iterate 5 refine SxL.off ⟨_, _, _, rfl, rfl, rfl, nofun⟩ rfl rfl ?_
                refine SxL.val trivial rfl rfl (fun ρ w E H => ex_pick E rfl (t := false) rfl rfl) ?_
                refine SxL.val trivial rfl rfl (fun ρ w E H => ex_assign E rfl rfl) ?_
                refine SxL.nil (SxN.then_ (SxC.ret ?_))
                refine SxX.done (.bool false) (fun a w K H => res1 K rfl rfl) (fun w H => ?_)
                have hq : false = decide ((⟨mk, mn, mr, mb, ms, mo, mv, vl, il, ⟨ca, cb, ck, cs, ct, cu, cz⟩, mc, mt⟩ : Ms) = ⟨xk, xn, xr, xb, xs, xo, xv, wl, jl, ⟨da, db, dk, ds, dt, du, dz⟩, xc, xt⟩) := by clear H; grind [cmpB]
                exact ⟨by rw [hq], H.toBelow ⟨(fun g hg => by rw [List.mem_singleton.1 hg]; exact hg2), (fun g hg => by rw [List.mem_singleton.1 hg]; exact hg1), trivial⟩⟩
              · refine SxL.val (v := .pointer (some ⟨g1, 4, none⟩)) ⟨_, _, rfl, rfl, rfl⟩ rfl rfl (fun ρ w E H => ex_field E rfl fa_palaver_api_Msg_3 rfl rfl) ?_
                refine SxL.val ⟨_, _, rfl, rfl, rfl⟩ rfl rfl (fun ρ w E H => ex_load1 E (H.get (i := 1) rfl) rfl rfl Tryz.underlying22 rfl rfl) ?_
                refine SxL.val (v := .pointer (some ⟨g2, 4, none⟩)) ⟨_, _, rfl, rfl, rfl⟩ rfl rfl (fun ρ w E H => ex_field E rfl fa_palaver_api_Msg_3 rfl rfl) ?_
                refine SxL.val ⟨_, _, rfl, rfl, rfl⟩ rfl rfl (fun ρ w E H => ex_load1 E (H.get (i := 0) rfl) rfl rfl Tryz.underlying22 rfl rfl) ?_
                refine SxL.valB ⟨_, _, rfl, rfl, rfl⟩ rfl rfl (fun ρ w E H => ex_cmp E rfl rfl rfl rfl rfl) fun c83 hc83 => ?_
                refine SxL.val trivial rfl rfl (fun ρ w E H => ex_pick E rfl (t := true) rfl rfl) ?_
                refine SxL.val trivial rfl rfl (fun ρ w E H => ex_move E rfl rfl) ?_
                cases c83
                · refine SxL.off ⟨_, _, _, rfl, rfl, rfl, nofun⟩ rfl rfl ?_
                  iterate 4 refine SxL.off ⟨_, _, _, rfl, rfl, rfl, nofun⟩ rfl rfl ?_
                  refine SxL.val trivial rfl rfl (fun ρ w E H => ex_pick E rfl (t := false) rfl rfl) ?_
                  refine SxL.val trivial rfl rfl (fun ρ w E H => ex_move E rfl rfl) ?_
                  iterate 5 refine SxL.off ⟨_, _, _, rfl, rfl, rfl, nofun⟩ rfl rfl ?_
                  refine SxL.val trivial rfl rfl (fun ρ w E H => ex_pick E rfl (t := false) rfl rfl) ?_
                  refine SxL.val trivial rfl rfl (fun ρ w E H => ex_move E rfl rfl) ?_
                  iterate 5 refine SxL.off ⟨_, _, _, rfl, rfl, rfl, nofun⟩ rfl rfl ?_
                  refine SxL.val trivial rfl rfl (fun ρ w E H => ex_pick E rfl (t := false) rfl rfl) ?_
                  refine SxL.val trivial rfl rfl (fun ρ w E H => ex_move E rfl rfl) ?_
                  iterate 5 refine SxL.off ⟨_, _, _, rfl, rfl, rfl, nofun⟩ rfl rfl ?_
                  refine SxL.val trivial rfl rfl (fun ρ w E H => ex_pick E rfl (t := false) rfl rfl) ?_
                  refine SxL.val trivial rfl rfl (fun ρ w E H => ex_assign E rfl rfl) ?_
                  refine SxL.nil (SxN.then_ (SxC.ret ?_))
                  refine SxX.done (.bool false) (fun a w K H => res1 K rfl rfl) (fun w H => ?_)
                  have hq : false = decide ((⟨mk, mn, mr, mb, ms, mo, mv, vl, il, ⟨ca, cb, ck, cs, ct, cu, cz⟩, mc, mt⟩ : Ms) = ⟨xk, xn, xr, xb, xs, xo, xv, wl, jl, ⟨da, db, dk, ds, dt, du, dz⟩, xc, xt⟩) := by clear H; grind [cmpB]
                  exact ⟨by rw [hq], H.toBelow ⟨(fun g hg => by rw [List.mem_singleton.1 hg]; exact hg2), (fun g hg => by rw [List.mem_singleton.1 hg]; exact hg1), trivial⟩⟩
                · refine SxL.val (v := .pointer (some ⟨g1, 5, none⟩)) ⟨_, _, rfl, rfl, rfl⟩ rfl rfl (fun ρ w E H => ex_field E rfl fa_palaver_api_Msg_4 rfl rfl) ?_
                  refine SxL.val ⟨_, _, rfl, rfl, rfl⟩ rfl rfl (fun ρ w E H => ex_load1 E (H.get (i := 1) rfl) rfl rfl Tryz.underlying5 rfl rfl) ?_
                  refine SxL.val (v := .pointer (some ⟨g2, 5, none⟩)) ⟨_, _, rfl, rfl, rfl⟩ rfl rfl (fun ρ w E H => ex_field E rfl fa_palaver_api_Msg_4 rfl rfl) ?_
                  refine SxL.val ⟨_, _, rfl, rfl, rfl⟩ rfl rfl (fun ρ w E H => ex_load1 E (H.get (i := 0) rfl) rfl rfl Tryz.underlying5 rfl rfl) ?_
                  refine SxL.valB ⟨_, _, rfl, rfl, rfl⟩ rfl rfl (fun ρ w E H => ex_cmp E rfl rfl rfl rfl rfl) fun c90 hc90 => ?_
                  refine SxL.val trivial rfl rfl (fun ρ w E H => ex_pick E rfl (t := true) rfl rfl) ?_
                  refine SxL.val trivial rfl rfl (fun ρ w E H => ex_move E rfl rfl) ?_
                  cases c90
                  · refine SxL.off ⟨_, _, _, rfl, rfl, rfl, nofun⟩ rfl rfl ?_
                    iterate 4 refine SxL.off ⟨_, _, _, rfl, rfl, rfl, nofun⟩ rfl rfl ?_
                    refine SxL.val trivial rfl rfl (fun ρ w E H => ex_pick E rfl (t := false) rfl rfl) ?_
                    refine SxL.val trivial rfl rfl (fun ρ w E H => ex_move E rfl rfl) ?_
                    iterate 5 refine SxL.off ⟨_, _, _, rfl, rfl, rfl, nofun⟩ rfl rfl ?_
                    refine SxL.val trivial rfl rfl (fun ρ w E H => ex_pick E rfl (t := false) rfl rfl) ?_
                    refine SxL.val trivial rfl rfl (fun ρ w E H => ex_move E rfl rfl) ?_
                    iterate 5 refine SxL.off ⟨_, _, _, rfl, rfl, rfl, nofun⟩ rfl rfl ?_
                    refine SxL.val trivial rfl rfl (fun ρ w E H => ex_pick E rfl (t := false) rfl rfl) ?_
                    refine SxL.val trivial rfl rfl (fun ρ w E H => ex_assign E rfl rfl) ?_
                    refine SxL.nil (SxN.then_ (SxC.ret ?_))
                    refine SxX.done (.bool false) (fun a w K H => res1 K rfl rfl) (fun w H => ?_)
                    have hq : false = decide ((⟨mk, mn, mr, mb, ms, mo, mv, vl, il, ⟨ca, cb, ck, cs, ct, cu, cz⟩, mc, mt⟩ : Ms) = ⟨xk, xn, xr, xb, xs, xo, xv, wl, jl, ⟨da, db, dk, ds, dt, du, dz⟩, xc, xt⟩) := by clear H; grind [cmpB]
                    exact ⟨by rw [hq], H.toBelow ⟨(fun g hg => by rw [List.mem_singleton.1 hg]; exact hg2), (fun g hg => by rw [List.mem_singleton.1 hg]; exact hg1), trivial⟩⟩
                  · refine SxL.val (v := .pointer (some ⟨g1, 6, none⟩)) ⟨_, _, rfl, rfl, rfl⟩ rfl rfl (fun ρ w E H => ex_field E rfl fa_palaver_api_Msg_5 rfl rfl) ?_
                    refine SxL.val ⟨_, _, rfl, rfl, rfl⟩ rfl rfl (fun ρ w E H => ex_load1 E (H.get (i := 1) rfl) rfl rfl Tryz.underlying9 rfl rfl) ?_
                    refine SxL.val (v := .pointer (some ⟨g2, 6, none⟩)) ⟨_, _, rfl, rfl, rfl⟩ rfl rfl (fun ρ w E H => ex_field E rfl fa_palaver_api_Msg_5 rfl rfl) ?_
                    refine SxL.val ⟨_, _, rfl, rfl, rfl⟩ rfl rfl (fun ρ w E H => ex_load1 E (H.get (i := 0) rfl) rfl rfl Tryz.underlying9 rfl rfl) ?_
                    refine SxL.valB ⟨_, _, rfl, rfl, rfl⟩ rfl rfl (fun ρ w E H => ex_seql E rfl rfl rfl rfl) fun c97 hc97 => ?_
                    refine SxL.val trivial rfl rfl (fun ρ w E H => ex_pick E rfl (t := true) rfl rfl) ?_
                    refine SxL.val trivial rfl rfl (fun ρ w E H => ex_move E rfl rfl) ?_
                    cases c97
                    · refine SxL.off ⟨_, _, _, rfl, rfl, rfl, nofun⟩ rfl rfl ?_
                      iterate 4 refine SxL.off ⟨_, _, _, rfl, rfl, rfl, nofun⟩ rfl rfl ?_
                      refine SxL.val trivial rfl rfl (fun ρ w E H => ex_pick E rfl (t := false) rfl rfl) ?_
                      refine SxL.val trivial rfl rfl (fun ρ w E H => ex_move E rfl rfl) ?_
                      iterate 5 refine SxL.off ⟨_, _, _, rfl, rfl, rfl, nofun⟩ rfl rfl ?_
                      refine SxL.val trivial rfl rfl (fun ρ w E H => ex_pick E rfl (t := false) rfl rfl) ?_
                      refine SxL.val trivial rfl rfl (fun ρ w E H => ex_assign E rfl rfl) ?_
                      refine SxL.nil (SxN.then_ (SxC.ret ?_))
                      refine SxX.done (.bool false) (fun a w K H => res1 K rfl rfl) (fun w H => ?_)
                      have hq : false = decide ((⟨mk, mn, mr, mb, ms, mo, mv, vl, il, ⟨ca, cb, ck, cs, ct, cu, cz⟩, mc, mt⟩ : Ms) = ⟨xk, xn, xr, xb, xs, xo, xv, wl, jl, ⟨da, db, dk, ds, dt, du, dz⟩, xc, xt⟩) := by clear H; grind [cmpB]
                      exact ⟨by rw [hq], H.toBelow ⟨(fun g hg => by rw [List.mem_singleton.1 hg]; exact hg2), (fun g hg => by rw [List.mem_singleton.1 hg]; exact hg1), trivial⟩⟩
                    · refine SxL.val (v := .pointer (some ⟨g1, 9, none⟩)) ⟨_, _, rfl, rfl, rfl⟩ rfl rfl (fun ρ w E H => ex_field E rfl fa_palaver_api_Msg_8 rfl rfl) ?_
                      refine SxL.val ⟨_, _, rfl, rfl, rfl⟩ rfl rfl (fun ρ w E H => ex_load (part := [.int .u8 (ca : Int), .int .u32 (cb : Int), .int .u8 (ck : Int), .string ⟨cs.toArray⟩, .string ⟨ct.toArray⟩, .string ⟨cu.toArray⟩, .int .u8 (cz : Int)]) E (H.get (i := 1) rfl) rfl rfl Tryz.underlying29 rfl sz_palaver_api_Cmd rfl rfl) ?_
                      refine SxL.val (v := .pointer (some ⟨g2, 9, none⟩)) ⟨_, _, rfl, rfl, rfl⟩ rfl rfl (fun ρ w E H => ex_field E rfl fa_palaver_api_Msg_8 rfl rfl) ?_
                      refine SxL.val ⟨_, _, rfl, rfl, rfl⟩ rfl rfl (fun ρ w E H => ex_load (part := [.int .u8 (da : Int), .int .u32 (db : Int), .int .u8 (dk : Int), .string ⟨ds.toArray⟩, .string ⟨dt.toArray⟩, .string ⟨du.toArray⟩, .int .u8 (dz : Int)]) E (H.get (i := 0) rfl) rfl rfl Tryz.underlying29 rfl sz_palaver_api_Cmd rfl rfl) ?_
                      refine SxL.valB ⟨_, _, rfl, rfl, rfl⟩ rfl rfl (fun ρ w E H => ex_aeql E rfl (by kernel_rfl) rfl rfl (fun w => eq_cm (⟨ca, cb, ck, cs, ct, cu, cz⟩ : Cmd.Cm) ⟨da, db, dk, ds, dt, du, dz⟩ w)) fun c104 hc104 => ?_
                      refine SxL.val trivial rfl rfl (fun ρ w E H => ex_pick E rfl (t := true) rfl rfl) ?_
                      refine SxL.val trivial rfl rfl (fun ρ w E H => ex_move E rfl rfl) ?_
                      cases c104
                      · refine SxL.off ⟨_, _, _, rfl, rfl, rfl, nofun⟩ rfl rfl ?_
                        iterate 4 refine SxL.off ⟨_, _, _, rfl, rfl, rfl, nofun⟩ rfl rfl ?_
                        refine SxL.val trivial rfl rfl (fun ρ w E H => ex_pick E rfl (t := false) rfl rfl) ?_
                        refine SxL.val trivial rfl rfl (fun ρ w E H => ex_assign E rfl rfl) ?_
                        refine SxL.nil (SxN.then_ (SxC.ret ?_))
                        refine SxX.done (.bool false) (fun a w K H => res1 K rfl rfl) (fun w H => ?_)
                        have hq : false = decide ((⟨mk, mn, mr, mb, ms, mo, mv, vl, il, ⟨ca, cb, ck, cs, ct, cu, cz⟩, mc, mt⟩ : Ms) = ⟨xk, xn, xr, xb, xs, xo, xv, wl, jl, ⟨da, db, dk, ds, dt, du, dz⟩, xc, xt⟩) := by clear H; grind [cmpB]
                        exact ⟨by rw [hq], H.toBelow ⟨(fun g hg => by rw [List.mem_singleton.1 hg]; exact hg2), (fun g hg => by rw [List.mem_singleton.1 hg]; exact hg1), trivial⟩⟩
                      · refine SxL.val (v := .pointer (some ⟨g1, 16, none⟩)) ⟨_, _, rfl, rfl, rfl⟩ rfl rfl (fun ρ w E H => ex_field E rfl fa_palaver_api_Msg_9 rfl rfl) ?_
                        refine SxL.val ⟨_, _, rfl, rfl, rfl⟩ rfl rfl (fun ρ w E H => ex_load (part := [.int .u8 (mc : Int), .string ⟨mt.toArray⟩]) E (H.get (i := 1) rfl) rfl rfl Tryz.underlying31 rfl sz_palaver_api_Reply rfl rfl) ?_
                        refine SxL.val (v := .pointer (some ⟨g2, 16, none⟩)) ⟨_, _, rfl, rfl, rfl⟩ rfl rfl (fun ρ w E H => ex_field E rfl fa_palaver_api_Msg_9 rfl rfl) ?_
                        refine SxL.val ⟨_, _, rfl, rfl, rfl⟩ rfl rfl (fun ρ w E H => ex_load (part := [.int .u8 (xc : Int), .string ⟨xt.toArray⟩]) E (H.get (i := 0) rfl) rfl rfl Tryz.underlying31 rfl sz_palaver_api_Reply rfl rfl) ?_
                        refine SxL.valB ⟨_, _, rfl, rfl, rfl⟩ rfl rfl (fun ρ w E H => ex_aeql E rfl (by kernel_rfl) rfl rfl (fun w => eq_ry mc xc mt xt w)) fun c111 hc111 => ?_
                        refine SxL.val trivial rfl rfl (fun ρ w E H => ex_pick E rfl (t := true) rfl rfl) ?_
                        refine SxL.val trivial rfl rfl (fun ρ w E H => ex_assign E rfl rfl) ?_
                        refine SxL.nil (SxN.then_ (SxC.ret ?_))
                        refine SxX.done (.bool c111) (fun a w K H => res1 K rfl rfl) (fun w H => ?_)
                        have hq : c111 = decide ((⟨mk, mn, mr, mb, ms, mo, mv, vl, il, ⟨ca, cb, ck, cs, ct, cu, cz⟩, mc, mt⟩ : Ms) = ⟨xk, xn, xr, xb, xs, xo, xv, wl, jl, ⟨da, db, dk, ds, dt, du, dz⟩, xc, xt⟩) := by
                          clear H hrel
                          have e1 : mk = xk ∧ mb = xb ∧ ms = xs ∧ mo = xo ∧ mn = xn ∧ mr = xr ∧ mv = xv := by clear hc104 hc111; grind [cmpB]
                          obtain ⟨rfl, rfl, rfl, rfl, rfl, rfl, rfl⟩ := e1
                          subst hV hI
                          have e2 := of_decide_eq_true hc104
                          injection e2 with f1 f2 f3 f4 f5 f6 f7
                          subst f1 f2 f3 f4 f5 f6 f7
                          rw [← hc111]
                          apply Bool.eq_iff_iff.2
                          simp
                        exact ⟨by rw [hq], H.toBelow ⟨(fun g hg => by rw [List.mem_singleton.1 hg]; exact hg2), (fun g hg => by rw [List.mem_singleton.1 hg]; exact hg1), trivial⟩⟩
        · refine SxC.condT rfl (SxC.skip (SxN.then_ (SxC.seq (SxC.block (SxC.seq ?_)))))
          have hkl : k < il.length := by have h := hc45; simp [cmpB] at h; omega
          have hkl2 : k < jl.length := by omega
          obtain ⟨x, hx⟩ : ∃ x, il[k]? = some x := ⟨_, List.getElem?_eq_getElem hkl⟩
          obtain ⟨y, hy⟩ : ∃ x, jl[k]? = some x := ⟨_, List.getElem?_eq_getElem hkl2⟩
          obtain ⟨a1, rfl, -, -⟩ := hi.row hx
          obtain ⟨a2, rfl, -, -⟩ := hi2.row hy
          refine SxC.drawnK [] [0, 1] (by kernel_rfl) rfl ⟨(fun g hg => by rw [List.mem_singleton.1 hg]; exact .inr hg2), (fun g hg => by rw [List.mem_singleton.1 hg]; exact .inr hg1), trivial⟩ ?_
          refine SxA.take (i := 0) (v := .pointer (some ⟨g1, 8, none⟩)) rfl (by kernel_rfl) (by kernel_rfl) (by kernel_rfl) rfl rfl (fun _ _ _ h => h) trivial (fun ρ w E H => ex_field E rfl fa_palaver_api_Msg_7 rfl rfl) ?_
          refine SxA.take (i := 1) rfl (by kernel_rfl) (by kernel_rfl) (by kernel_rfl) rfl rfl (fun _ _ _ h => h) trivial (fun ρ w E H => ex_load1 E (H.get (i := 1) rfl) rfl rfl Tryz.underlying26 rfl rfl) ?_
          refine SxA.take (i := 2) rfl (by kernel_rfl) (by kernel_rfl) (by kernel_rfl) rfl rfl (fun _ _ _ h => h) trivial (fun ρ w E H => ex_move E rfl rfl) ?_
          refine SxA.take (i := 3) (v := .pointer (some (a1.add (k * 2)))) rfl (by kernel_rfl) (by kernel_rfl) (by kernel_rfl) rfl rfl (fun _ _ _ h => h) trivial (fun ρ w E H => ex_index (i := k) E rfl Tryz.underlying26 sz_palaver_api_Item rfl rfl hkl) ?_
          refine SxA.take (i := 4) (v := .agg #[.int .u64 (x.slot : Int), .string ⟨x.value.toArray⟩]) rfl (by kernel_rfl) (by kernel_rfl) (by kernel_rfl) rfl rfl (fun _ _ _ h => h) trivial (fun ρ w E H => ex_loadX (cs := [.int .u64 (x.slot : Int), .string ⟨x.value.toArray⟩]) E ((hi.below (H.os.below (Nat.le_refl _) (by simp))).rowA hx) rfl rfl Tryz.underlying94 rfl sz_palaver_api_Item) ?_
          refine SxA.take (i := 5) (v := .pointer (some ⟨g2, 8, none⟩)) rfl (by kernel_rfl) (by kernel_rfl) (by kernel_rfl) rfl rfl (fun _ _ _ h => h) trivial (fun ρ w E H => ex_field E rfl fa_palaver_api_Msg_7 rfl rfl) ?_
          refine SxA.take (i := 6) rfl (by kernel_rfl) (by kernel_rfl) (by kernel_rfl) rfl rfl (fun _ _ _ h => h) trivial (fun ρ w E H => ex_load1 E (H.get (i := 0) rfl) rfl rfl Tryz.underlying26 rfl rfl) ?_
          refine SxA.take (i := 7) rfl (by kernel_rfl) (by kernel_rfl) (by kernel_rfl) rfl rfl (fun _ _ _ h => h) trivial (fun ρ w E H => ex_move E rfl rfl) ?_
          refine SxA.take (i := 8) (v := .pointer (some (a2.add (k * 2)))) rfl (by kernel_rfl) (by kernel_rfl) (by kernel_rfl) rfl rfl (fun _ _ _ h => h) trivial (fun ρ w E H => ex_index (i := k) E rfl Tryz.underlying26 sz_palaver_api_Item rfl rfl hkl2) ?_
          refine SxA.take (i := 9) (v := .agg #[.int .u64 (y.slot : Int), .string ⟨y.value.toArray⟩]) rfl (by kernel_rfl) (by kernel_rfl) (by kernel_rfl) rfl rfl (fun _ _ _ h => h) trivial (fun ρ w E H => ex_loadX (cs := [.int .u64 (y.slot : Int), .string ⟨y.value.toArray⟩]) E ((hi2.below (H.os.below (Nat.le_refl _) (by simp))).rowA hy) rfl rfl Tryz.underlying94 rfl sz_palaver_api_Item) ?_
          refine SxA.takeB (i := 10) rfl (by kernel_rfl) (by kernel_rfl) (by kernel_rfl) rfl rfl (fun _ _ _ h => h) trivial (fun ρ w E H => ex_aneq E rfl (by kernel_rfl) rfl rfl (fun w => by rw [Bool.not_not]; exact eq_im x y w)) fun c58 hc58 => ?_
          refine SxA.done (by kernel_rfl) ?_
          refine SxN.then_ ?_
          cases c58
          · refine SxC.condF rfl (SxC.skip (SxN.block (SxN.then_ (SxC.region ?_))))
            refine SxL.val trivial rfl rfl (fun ρ w E H => ex_move E rfl rfl) ?_
            refine SxL.val (v := .int .i64 ((k + 1 : Nat) : Int)) trivial rfl rfl (fun ρ w E H => ex_add E rfl rfl rfl (by rw [IntKind.wrap_i64]; omega)) ?_
            refine SxL.val trivial rfl rfl (fun ρ w E H => ex_assign E rfl rfl) ?_
            refine SxL.nil ?_
            refine SxN.back (gk - 1) (k + 1) (by omega) ⟨by omega, by rw [take_snoc hx, take_snoc hy, hrel]; have h24 : x = y := (by simpa using hc58); rw [h24], hle⟩ ⟨rfl, rfl, rfl, trivial⟩ [0, 1] rfl (by decide) ⟨.inl rfl, .inl rfl, trivial⟩
          · refine SxC.condT rfl (SxC.seq (SxC.region ?_))
            refine SxL.val trivial rfl rfl (fun ρ w E H => ex_assign E rfl rfl) ?_
            refine SxL.nil (SxN.then_ (SxC.ret (SxX.blockR (SxX.thenR (SxX.thenR (SxX.blockR (SxX.thenR ?_)))))))
            refine SxX.done (.bool false) (fun a w K H => res1 K rfl rfl) (fun w H => ?_)
            have hq : false = decide ((⟨mk, mn, mr, mb, ms, mo, mv, vl, il, ⟨ca, cb, ck, cs, ct, cu, cz⟩, mc, mt⟩ : Ms) = ⟨xk, xn, xr, xb, xs, xo, xv, wl, jl, ⟨da, db, dk, ds, dt, du, dz⟩, xc, xt⟩) := by clear H; grind [cmpB]
            exact ⟨by rw [hq], H.toBelow ⟨(fun g hg => by rw [List.mem_singleton.1 hg]; exact hg2), (fun g hg => by rw [List.mem_singleton.1 hg]; exact hg1), trivial⟩⟩
      · refine SxC.condT rfl (SxC.skip (SxN.then_ (SxC.seq (SxC.block (SxC.seq ?_)))))
        have hkl : k < vl.length := by have h := hc27; simp [cmpB] at h; omega
        have hkl2 : k < wl.length := by omega
        obtain ⟨x, hx⟩ : ∃ x, vl[k]? = some x := ⟨_, List.getElem?_eq_getElem hkl⟩
        obtain ⟨y, hy⟩ : ∃ x, wl[k]? = some x := ⟨_, List.getElem?_eq_getElem hkl2⟩
        obtain ⟨a1, rfl, -, -⟩ := hv.row hx
        obtain ⟨a2, rfl, -, -⟩ := hv2.row hy
        refine SxC.drawnK [] [0, 1] (by kernel_rfl) rfl ⟨(fun g hg => by rw [List.mem_singleton.1 hg]; exact .inr hg2), (fun g hg => by rw [List.mem_singleton.1 hg]; exact .inr hg1), trivial⟩ ?_
        refine SxA.take (i := 0) (v := .pointer (some ⟨g1, 7, none⟩)) rfl (by kernel_rfl) (by kernel_rfl) (by kernel_rfl) rfl rfl (fun _ _ _ h => h) trivial (fun ρ w E H => ex_field E rfl fa_palaver_api_Msg_6 rfl rfl) ?_
        refine SxA.take (i := 1) rfl (by kernel_rfl) (by kernel_rfl) (by kernel_rfl) rfl rfl (fun _ _ _ h => h) trivial (fun ρ w E H => ex_load1 E (H.get (i := 1) rfl) rfl rfl Tryz.underlying25 rfl rfl) ?_
        refine SxA.take (i := 2) rfl (by kernel_rfl) (by kernel_rfl) (by kernel_rfl) rfl rfl (fun _ _ _ h => h) trivial (fun ρ w E H => ex_move E rfl rfl) ?_
        refine SxA.take (i := 3) (v := .pointer (some (a1.add (k * 4)))) rfl (by kernel_rfl) (by kernel_rfl) (by kernel_rfl) rfl rfl (fun _ _ _ h => h) trivial (fun ρ w E H => ex_index (i := k) E rfl Tryz.underlying25 sz_palaver_api_Vote rfl rfl hkl) ?_
        refine SxA.take (i := 4) (v := .agg #[.int .u64 (x.slot : Int), .int .u64 (x.n : Int), .int .u8 (x.r : Int), .string ⟨x.value.toArray⟩]) rfl (by kernel_rfl) (by kernel_rfl) (by kernel_rfl) rfl rfl (fun _ _ _ h => h) trivial (fun ρ w E H => ex_loadX (cs := [.int .u64 (x.slot : Int), .int .u64 (x.n : Int), .int .u8 (x.r : Int), .string ⟨x.value.toArray⟩]) E ((hv.below (H.os.below (Nat.le_refl _) (by simp))).rowA hx) rfl rfl Tryz.underlying92 rfl sz_palaver_api_Vote) ?_
        refine SxA.take (i := 5) (v := .pointer (some ⟨g2, 7, none⟩)) rfl (by kernel_rfl) (by kernel_rfl) (by kernel_rfl) rfl rfl (fun _ _ _ h => h) trivial (fun ρ w E H => ex_field E rfl fa_palaver_api_Msg_6 rfl rfl) ?_
        refine SxA.take (i := 6) rfl (by kernel_rfl) (by kernel_rfl) (by kernel_rfl) rfl rfl (fun _ _ _ h => h) trivial (fun ρ w E H => ex_load1 E (H.get (i := 0) rfl) rfl rfl Tryz.underlying25 rfl rfl) ?_
        refine SxA.take (i := 7) rfl (by kernel_rfl) (by kernel_rfl) (by kernel_rfl) rfl rfl (fun _ _ _ h => h) trivial (fun ρ w E H => ex_move E rfl rfl) ?_
        refine SxA.take (i := 8) (v := .pointer (some (a2.add (k * 4)))) rfl (by kernel_rfl) (by kernel_rfl) (by kernel_rfl) rfl rfl (fun _ _ _ h => h) trivial (fun ρ w E H => ex_index (i := k) E rfl Tryz.underlying25 sz_palaver_api_Vote rfl rfl hkl2) ?_
        refine SxA.take (i := 9) (v := .agg #[.int .u64 (y.slot : Int), .int .u64 (y.n : Int), .int .u8 (y.r : Int), .string ⟨y.value.toArray⟩]) rfl (by kernel_rfl) (by kernel_rfl) (by kernel_rfl) rfl rfl (fun _ _ _ h => h) trivial (fun ρ w E H => ex_loadX (cs := [.int .u64 (y.slot : Int), .int .u64 (y.n : Int), .int .u8 (y.r : Int), .string ⟨y.value.toArray⟩]) E ((hv2.below (H.os.below (Nat.le_refl _) (by simp))).rowA hy) rfl rfl Tryz.underlying92 rfl sz_palaver_api_Vote) ?_
        refine SxA.takeB (i := 10) rfl (by kernel_rfl) (by kernel_rfl) (by kernel_rfl) rfl rfl (fun _ _ _ h => h) trivial (fun ρ w E H => ex_aneq E rfl (by kernel_rfl) rfl rfl (fun w => by rw [Bool.not_not]; exact eq_vo x y w)) fun c40 hc40 => ?_
        refine SxA.done (by kernel_rfl) ?_
        refine SxN.then_ ?_
        cases c40
        · refine SxC.condF rfl (SxC.skip (SxN.block (SxN.then_ (SxC.region ?_))))
          refine SxL.val trivial rfl rfl (fun ρ w E H => ex_move E rfl rfl) ?_
          refine SxL.val (v := .int .i64 ((k + 1 : Nat) : Int)) trivial rfl rfl (fun ρ w E H => ex_add E rfl rfl rfl (by rw [IntKind.wrap_i64]; omega)) ?_
          refine SxL.val trivial rfl rfl (fun ρ w E H => ex_assign E rfl rfl) ?_
          refine SxL.nil ?_
          refine SxN.back (gk - 1) (k + 1) (by omega) ⟨by omega, by rw [take_snoc hx, take_snoc hy, hrel]; have h24 : x = y := (by simpa using hc40); rw [h24], hle⟩ ⟨rfl, rfl, rfl, trivial⟩ [0, 1] rfl (by decide) ⟨.inl rfl, .inl rfl, trivial⟩
        · refine SxC.condT rfl (SxC.seq (SxC.region ?_))
          refine SxL.val trivial rfl rfl (fun ρ w E H => ex_assign E rfl rfl) ?_
          refine SxL.nil (SxN.then_ (SxC.ret (SxX.blockR (SxX.thenR (SxX.thenR (SxX.blockR (SxX.thenR ?_)))))))
          refine SxX.done (.bool false) (fun a w K H => res1 K rfl rfl) (fun w H => ?_)
          have hq : false = decide ((⟨mk, mn, mr, mb, ms, mo, mv, vl, il, ⟨ca, cb, ck, cs, ct, cu, cz⟩, mc, mt⟩ : Ms) = ⟨xk, xn, xr, xb, xs, xo, xv, wl, jl, ⟨da, db, dk, ds, dt, du, dz⟩, xc, xt⟩) := by clear H; grind [cmpB]
          exact ⟨by rw [hq], H.toBelow ⟨(fun g hg => by rw [List.mem_singleton.1 hg]; exact hg2), (fun g hg => by rw [List.mem_singleton.1 hg]; exact hg1), trivial⟩⟩
    · refine SxC.condT rfl (SxC.seq (SxC.region ?_))
      refine SxL.val trivial rfl rfl (fun ρ w E H => ex_assign E rfl rfl) ?_
      refine SxL.nil (SxN.then_ (SxC.ret (SxX.thenR ?_)))
      refine SxX.done (.bool false) (fun a w K H => res1 K rfl rfl) (fun w H => ?_)
      have hq : false = decide ((⟨mk, mn, mr, mb, ms, mo, mv, vl, il, ⟨ca, cb, ck, cs, ct, cu, cz⟩, mc, mt⟩ : Ms) = ⟨xk, xn, xr, xb, xs, xo, xv, wl, jl, ⟨da, db, dk, ds, dt, du, dz⟩, xc, xt⟩) := by clear H; grind [cmpB]
      exact ⟨by rw [hq], H.toBelow ⟨(fun g hg => by rw [List.mem_singleton.1 hg]; exact hg2), (fun g hg => by rw [List.mem_singleton.1 hg]; exact hg1), trivial⟩⟩
  · refine SxL.off ⟨_, _, _, rfl, rfl, rfl, nofun⟩ rfl rfl ?_
    iterate 6 refine SxL.off ⟨_, _, _, rfl, rfl, rfl, nofun⟩ rfl rfl ?_
    refine SxL.val trivial rfl rfl (fun ρ w E H => ex_pick E rfl (t := true) rfl rfl) ?_
    refine SxL.nil (SxN.then_ (SxC.condT rfl (SxC.seq (SxC.region ?_))))
    refine SxL.val trivial rfl rfl (fun ρ w E H => ex_assign E rfl rfl) ?_
    refine SxL.nil (SxN.then_ (SxC.ret (SxX.thenR ?_)))
    refine SxX.done (.bool false) (fun a w K H => res1 K rfl rfl) (fun w H => ?_)
    have hq : false = decide ((⟨mk, mn, mr, mb, ms, mo, mv, vl, il, ⟨ca, cb, ck, cs, ct, cu, cz⟩, mc, mt⟩ : Ms) = ⟨xk, xn, xr, xb, xs, xo, xv, wl, jl, ⟨da, db, dk, ds, dt, du, dz⟩, xc, xt⟩) := by clear H; grind [cmpB]
    exact ⟨by rw [hq], H.toBelow ⟨(fun g hg => by rw [List.mem_singleton.1 hg]; exact hg2), (fun g hg => by rw [List.mem_singleton.1 hg]; exact hg1), trivial⟩⟩

theorem rsame_any (m x : Ms) (A B C D : Option Addr) (ka kb kc kd : Nat) (w : World) (h1 : MsRows w m A B) (h2 : MsRows w x C D) (hl1 : m.votes.length ≤ 1000000) (hl2 : m.items.length ≤ 1000000) :
    Calls Tryz.prog 14 #[msV m A ka B kb, msV x C kc D kd] w fun e w' => e = .returned (.bool (decide (m = x))) ∧ Below w.heap.size w w' := by
  obtain ⟨mk, mn, mr, mb, ms, mo, mv, vl, il, ⟨ca, cb, ck, cs, ct, cu, cz⟩, mc, mt⟩ := m
  obtain ⟨xk, xn, xr, xb, xs, xo, xv, wl, jl, ⟨da, db, dk, ds, dt, du, dz⟩, xc, xt⟩ := x
  exact rsame_lit _ _ _ _ _ _ _ _ _ _ _ _ _ _ _ _ _ _ _ _ _ _ _ _ _ _ _ _ _ _ _ _ _ _ _ _ _ _ _ _ _ _ _ _ w h1.hv h1.hi h2.hv h2.hi hl1 hl2
end Go.Proofs.YteiaiilfekojfaaGreat.Msg
end
