/- Texts that the proof of NetOrder leans on, put together (4 of 4). Conditions: each theorem states its own. -/
import Derived.Test.YteiaiilfekojfaaGreatPkNetOrder3
section
set_option linter.unusedVariables false
set_option linter.unusedSimpArgs false
namespace Go.Proofs.YteiaiilfekojfaaGreat.Net
open Go.RowKit Sx Wire DrawInv
set_option maxRecDepth 100000 in
set_option maxHeartbeats 4000000 in
theorem compact_some (ps : List (Nat × Nat)) (base g n c : Nat)  (w : World) (hown : w.ownsRow base 57 2 (.slice (some ⟨g, 0, none⟩) n c) ps.length (ps.flatMap prL)) (hpn : ps.length = n) (hn63 : n ≤ 1000000) : Calls Tryz.prog 72 #[.slice (some ⟨g, 0, none⟩) n c] w fun e w' => ∃ v, e = .returned v ∧ w'.ownsRow base 57 2 v (cptL ps).length ((cptL ps).flatMap prL) ∧ OwnIn w [g] v ∧ Outs [g] w w' := by
  have hv0 : OwnIn w [g] (.slice (some ⟨g, 0, none⟩) n c) := fun b hb => .inl (by simpa [Value.ownBlock] using hb)
  have hcap := own_cap hown
  have H0 : Hp w [rowX [g] base 57 2 (.slice (some ⟨g, 0, none⟩) n c) ps.length (ps.flatMap prL)] w := (Hp.start w).know _ (rowX_loc _ _ _ _ _ _ _) (fun b hb => ⟨(own_lt hown b (by simpa [rowX, Value.ownBlock] using hb)).2, fun q hq => by cases hq⟩) hown
  refine sx_enter (n := 61) _ Tryz.func72 rfl rfl rfl H0 ?_
  refine SxC.seq (SxC.region ?_)
  refine SxL.val trivial rfl rfl (fun ρ w E H => ex_assign E rfl rfl) ?_
  refine SxL.nil (SxN.then_ (SxC.seq (SxC.seq (SxC.region ?_))))
  refine SxL.val trivial rfl rfl (fun ρ w E H => ex_move E rfl rfl) ?_
  refine SxL.val (v := .int .i64 (n : Int)) trivial rfl rfl (fun ρ w E H => ex_lenS E rfl Tryz.underlying51 rfl) ?_
  refine SxL.valB trivial rfl rfl (fun ρ w E H => ex_cmp E rfl rfl rfl rfl rfl) fun c8 hc8 => ?_
  refine SxL.nil (SxN.then_ ?_)
  cases c8
  · refine SxC.condF rfl (SxC.skip (SxN.then_ (SxC.seq (SxC.seq ?_))))
    have hn2 : 2 ≤ n := by have h := hc8; simp [cmpB] at h; omega
    refine SxC.region ?_
    refine SxL.val trivial rfl rfl (fun ρ w E H => ex_assign E rfl rfl) ?_
    refine SxL.nil (SxN.then_ (SxC.block ?_))
    refine SxC.loop1 (fun (k : Nat) => [(0, .slice (some ⟨g, 0, none⟩) n c), (3, .int .i64 (k : Int))]) (fun (k : Nat) => [rowX [g] base 57 2 (.slice (some ⟨g, 0, none⟩) n c) ps.length (ps.flatMap prL)]) (fun (gk : Nat) (k : Nat) => 1 ≤ k ∧ k + gk = n ∧ cptL (ps.take k) = ps.take k) (n - 1) 1 ⟨by omega, by omega, by obtain ⟨x, y, l, rfl⟩ : ∃ x y l, ps = x :: y :: l := (by match ps, hpn, hn2 with | x :: y :: l, _, _ => exact ⟨x, y, l, rfl⟩ | [x], h, h2 => simp at h; omega | [], h, h2 => simp at h; omega); rfl⟩ ⟨rfl, rfl, trivial⟩ [0] rfl (by decide) ⟨.inl rfl, trivial⟩ fun gk k hF => ?_
    obtain ⟨hk1, hkg, hrel⟩ := hF
    refine SxC.seq (SxC.seq (SxC.region ?_))
    iterate 2 refine SxL.val trivial rfl rfl (fun ρ w E H => ex_move E rfl rfl) ?_
    refine SxL.val (v := .int .i64 (n : Int)) trivial rfl rfl (fun ρ w E H => ex_lenS E rfl Tryz.underlying51 rfl) ?_
    refine SxL.valB trivial rfl rfl (fun ρ w E H => ex_cmp E rfl rfl rfl rfl rfl) fun c13 hc13 => ?_
    refine SxL.nil (SxN.then_ ?_)
    cases c13
    · refine SxC.condF rfl (SxC.exit (SxX.thenE (SxX.thenE (SxX.blockE (SxN.then_ (SxC.seq (SxC.region ?_)))))))
      refine SxL.val trivial rfl rfl (fun ρ w E H => ex_move E rfl rfl) ?_
      refine SxL.val trivial rfl rfl (fun ρ w E H => ex_assign E rfl rfl) ?_
      refine SxL.nil (SxN.then_ (SxC.ret ?_))
      refine SxX.done (.slice (some ⟨g, 0, none⟩) n c) (fun a w K H => res1 K rfl rfl) (fun w H => ?_)
      have hkn : k = n := by have h := hc13; simp [cmpB] at h; omega
      have hfin : cptL ps = ps := by rw [hkn, ← hpn, List.take_length] at hrel; exact hrel
      exact ⟨_, rfl, by rw [hfin]; exact H.get (i := 0) rfl, (fun b hb => .inl hb), H.toOuts _ ⟨(fun b hb => .inl (by simpa [rowX, Value.ownBlock] using hb)), trivial⟩⟩
    · refine SxC.condT rfl (SxC.skip (SxN.then_ (SxC.seq (SxC.block (SxC.seq ?_)))))
      have hkl : k < ps.length := by have h := hc13; simp [cmpB] at h; omega
      obtain ⟨⟨xa, xb⟩, hx⟩ : ∃ x, ps[k]? = some x := ⟨_, List.getElem?_eq_getElem hkl⟩
      obtain ⟨⟨ya, yb⟩, hy⟩ : ∃ x, ps[k - 1]? = some x := ⟨_, List.getElem?_eq_getElem (by omega)⟩
      refine SxC.drawnK ([g] ++ []) [0] (by kernel_rfl) rfl ⟨(fun g hg => (hv0.in_ g hg).imp (fun h => by simp only [List.mem_append]; simp [h]) id), trivial⟩ ?_
      refine SxA.take (i := 0) rfl (by kernel_rfl) (by kernel_rfl) (by kernel_rfl) rfl rfl (fun _ _ _ h => h) trivial (fun ρ w E H => ex_move E rfl rfl) ?_
      refine SxA.take (i := 1) rfl (by kernel_rfl) (by kernel_rfl) (by kernel_rfl) rfl rfl (fun _ _ _ h => h) trivial (fun ρ w E H => ex_move E rfl rfl) ?_
      refine SxA.take (i := 2) (v := .pointer (some ((⟨g, 0, none⟩ : Addr).add (k * 2)))) rfl (by kernel_rfl) (by kernel_rfl) (by kernel_rfl) rfl rfl (fun _ _ _ h => h) trivial (fun ρ w E H => ex_index (i := k) E rfl Tryz.underlying51 sz_palaver_net_Pair rfl rfl (by omega)) ?_
      refine SxA.take (i := 3) (v := .agg #[.int .u8 (xa : Int), .int .u8 (xb : Int)]) rfl (by kernel_rfl) (by kernel_rfl) (by kernel_rfl) rfl rfl (fun _ _ _ h => h) trivial (fun ρ w E H => ex_loadX (cs := [.int .u8 (xa : Int), .int .u8 (xb : Int)]) E ((own_readE prL_len (by decide) (H.get (i := 0) rfl)).rowA (k := k) hx) rfl rfl Tryz.underlying57 rfl sz_palaver_net_Pair) ?_
      refine SxA.take (i := 4) rfl (by kernel_rfl) (by kernel_rfl) (by kernel_rfl) rfl rfl (fun _ _ _ h => h) trivial (fun ρ w E H => ex_move E rfl rfl) ?_
      refine SxA.take (i := 5) rfl (by kernel_rfl) (by kernel_rfl) (by kernel_rfl) rfl rfl (fun _ _ _ h => h) trivial (fun ρ w E H => ex_move E rfl rfl) ?_
      refine SxA.take (i := 6) (v := .int .i64 ((k - 1 : Nat) : Int)) rfl (by kernel_rfl) (by kernel_rfl) (by kernel_rfl) rfl rfl (fun _ _ _ h => h) trivial (fun ρ w E H => ex_sub E rfl rfl rfl (by rw [IntKind.wrap_i64]; omega)) ?_
      refine SxA.take (i := 7) (v := .pointer (some ((⟨g, 0, none⟩ : Addr).add ((k - 1 : Nat) * 2)))) rfl (by kernel_rfl) (by kernel_rfl) (by kernel_rfl) rfl rfl (fun _ _ _ h => h) trivial (fun ρ w E H => ex_index (i := (k - 1 : Nat)) E rfl Tryz.underlying51 sz_palaver_net_Pair rfl rfl (by omega)) ?_
      refine SxA.take (i := 8) (v := .agg #[.int .u8 (ya : Int), .int .u8 (yb : Int)]) rfl (by kernel_rfl) (by kernel_rfl) (by kernel_rfl) rfl rfl (fun _ _ _ h => h) trivial (fun ρ w E H => ex_loadX (cs := [.int .u8 (ya : Int), .int .u8 (yb : Int)]) E ((own_readE prL_len (by decide) (H.get (i := 0) rfl)).rowA (k := k - 1) hy) rfl rfl Tryz.underlying57 rfl sz_palaver_net_Pair) ?_
      refine SxA.takeB (i := 9) rfl (by kernel_rfl) (by kernel_rfl) (by kernel_rfl) rfl rfl (fun _ _ _ h => h) trivial (fun ρ w E H => ex_aeql E rfl (by kernel_rfl) rfl rfl (fun w => eq_pair_lit xa xb ya yb w)) fun c25 hc25 => ?_
      refine SxA.done (by kernel_rfl) ?_
      refine SxN.then_ ?_
      cases c25
      · refine SxC.condF rfl (SxC.skip (SxN.block (SxN.then_ (SxC.region ?_))))
        refine SxL.val trivial rfl rfl (fun ρ w E H => ex_move E rfl rfl) ?_
        refine SxL.val (v := .int .i64 ((k + 1 : Nat) : Int)) trivial rfl rfl (fun ρ w E H => ex_add E rfl rfl rfl (by rw [IntKind.wrap_i64]; omega)) ?_
        refine SxL.val trivial rfl rfl (fun ρ w E H => ex_assign E rfl rfl) ?_
        refine SxL.nil ?_
        refine SxN.back (gk - 1) (k + 1) (by omega) ⟨by omega, by omega, by rw [cptL_take hk1 hy hx, hrel, if_neg (by simpa using hc25), ← take_snocP hx]⟩ ⟨rfl, rfl, trivial⟩ [0] rfl (by decide) ⟨.inl rfl, trivial⟩
      · refine SxC.condT rfl (SxC.seq (SxC.region ?_))
        iterate 2 refine SxL.val trivial rfl rfl (fun ρ w E H => ex_move E rfl rfl) ?_
        refine SxL.val (v := .slice (some ⟨g, k * 2, none⟩) (n - k : Nat) (c - k)) trivial rfl rfl (fun ρ w E H => ex_slLn (l := k) E rfl Tryz.underlying51 sz_palaver_net_Pair rfl rfl (by omega) (sliced_tail g k n c 2 (by omega))) ?_
        refine SxL.val trivial rfl rfl (fun ρ w E H => ex_assign E rfl rfl) ?_
        refine SxL.nil (SxN.then_ (SxC.seq (SxC.seq (SxC.region ?_))))
        refine SxL.val trivial rfl rfl (fun ρ w E H => ex_assign E rfl rfl) ?_
        refine SxL.nil (SxN.then_ (SxC.block ?_))
        refine SxC.loop3 (fun (i : Nat) (j : Nat) (C : List (Nat × Nat)) => [(0, .slice (some ⟨g, 0, none⟩) n c), (3, .int .i64 (i : Int)), (4, .slice (some ⟨g, k * 2, none⟩) (n - k : Nat) (c - k)), (5, .int .i64 (j : Int))]) (fun (i : Nat) (j : Nat) (C : List (Nat × Nat)) => [rowX [g] base 57 2 (.slice (some ⟨g, 0, none⟩) n c) C.length (C.flatMap prL)]) (fun (gk : Nat) (i : Nat) (j : Nat) (C : List (Nat × Nat)) => C.length = n ∧ 1 ≤ j ∧ k + j + gk = n ∧ i + 1 ≤ k + j ∧ C.take i = cptL (ps.take (k + j)) ∧ C.drop (k + j - 1) = ps.drop (k + j - 1)) (n - (k + 1)) k 1 ps ⟨hpn, Nat.le_refl _, by omega, by omega, by rw [cptL_take hk1 hy hx, if_pos (by simpa using hc25), List.append_nil, hrel], rfl⟩ ⟨rfl, rfl, rfl, rfl, trivial⟩ [0] rfl (by decide) ⟨.inl rfl, trivial⟩ fun gk i j C hF => ?_
        obtain ⟨hCn, hj1, hjg, hij, hCt, hCd⟩ := hF
        refine SxC.seq (SxC.seq (SxC.region ?_))
        iterate 2 refine SxL.val trivial rfl rfl (fun ρ w E H => ex_move E rfl rfl) ?_
        refine SxL.val (v := .int .i64 ((n - k : Nat) : Int)) trivial rfl rfl (fun ρ w E H => ex_lenS E rfl Tryz.underlying51 rfl) ?_
        refine SxL.valB trivial rfl rfl (fun ρ w E H => ex_cmp E rfl rfl rfl rfl rfl) fun c32 hc32 => ?_
        refine SxL.nil (SxN.then_ ?_)
        cases c32
        · refine SxC.condF rfl (SxC.exit (SxX.thenE (SxX.thenE (SxX.blockE (SxN.then_ (SxC.seq (SxC.region ?_)))))))
          iterate 2 refine SxL.val trivial rfl rfl (fun ρ w E H => ex_move E rfl rfl) ?_
          refine SxL.val (v := .slice (some ⟨g, i * 2, none⟩) (C.length - i : Nat) (c - i)) trivial rfl rfl (fun ρ w E H => ex_slLn (l := i) E rfl Tryz.underlying51 sz_palaver_net_Pair rfl rfl (by omega) ((sliced_tail g i n c 2 (by omega)).trans (by rw [hCn]))) ?_
          refine doneG (.tuple #[]) _ trivial rfl (fun ρ w E H => Hp.clearRow (cells := prL) (l := C) (y := (0, 0)) (k := i) (i := 0) prL_len E H rfl Tryz.underlying51 zr_palaver_net_Pair rfl (prL_one _) rfl (by omega) rfl) ?_
          refine SxL.nil (SxN.then_ (SxC.seq (SxC.region ?_)))
          iterate 2 refine SxL.val trivial rfl rfl (fun ρ w E H => ex_move E rfl rfl) ?_
          refine SxL.val (v := .slice (some ⟨g, 0, none⟩) i c) trivial rfl rfl (fun ρ w E H => ex_slHn (h := i) E rfl Tryz.underlying51 sz_palaver_net_Pair rfl rfl (by omega) (sliced_zeroN g i c 2)) ?_
          refine SxL.val trivial rfl rfl (fun ρ w E H => ex_assign E rfl rfl) ?_
          refine SxL.nil (SxN.then_ (SxC.ret (SxX.blockR (SxX.thenR (SxX.thenR (SxX.blockR (SxX.thenR ?_)))))))
          refine SxX.done (.slice (some ⟨g, 0, none⟩) i c) (fun a w K H => res1 K rfl rfl) (fun w H => ?_)
          have hkj : k + j = n := by have h := hc32; simp [cmpB] at h; omega
          have hfin : C.take i = cptL ps := by rw [hCt, hkj, ← hpn, List.take_length]
          have hown := own_head (k := i) prL_len (H.get (i := 0) rfl) (by simp; omega)
          have htk : (C.take i ++ List.replicate (C.length - i) (0, 0)).take i = cptL ps := by rw [List.take_left' (by rw [List.length_take]; omega), hfin]
          rw [htk] at hown
          exact ⟨_, rfl, hown, (fun b hb => .inl hb), H.toOuts _ ⟨(fun b hb => .inl (by simpa [rowX, Value.ownBlock] using hb)), trivial⟩⟩
        · refine SxC.condT rfl (SxC.skip (SxN.then_ (SxC.seq (SxC.block (SxC.seq ?_)))))
          have hjl : k + j < n := by have h := hc32; simp [cmpB] at h; omega
          obtain ⟨⟨ua, ub⟩, hu⟩ : ∃ x, ps[k + j]? = some x := ⟨_, List.getElem?_eq_getElem (by omega)⟩
          obtain ⟨⟨va, vb⟩, hv⟩ : ∃ x, ps[k + j - 1]? = some x := ⟨_, List.getElem?_eq_getElem (by omega)⟩
          have hCu : C[k + j]? = some (ua, ub) := by have h := congrArg (fun l => l[1]?) hCd; simp only [List.getElem?_drop] at h; rw [show k + j - 1 + 1 = k + j by omega] at h; rw [h]; exact hu
          have hCv : C[k + j - 1]? = some (va, vb) := by have h := congrArg (fun l => l[0]?) hCd; simp only [List.getElem?_drop, Nat.add_zero] at h; rw [h]; exact hv
          have hdr : C.drop (k + (j + 1) - 1) = ps.drop (k + (j + 1) - 1) := by have h := congrArg (fun l => l.drop 1) hCd; simp only [List.drop_drop] at h; rw [show k + (j + 1) - 1 = k + j - 1 + 1 by omega]; exact h
          refine SxC.drawnK ([g] ++ []) [0] (by kernel_rfl) rfl ⟨(fun g hg => (hv0.in_ g hg).imp (fun h => by simp only [List.mem_append]; simp [h]) id), trivial⟩ ?_
          refine SxA.take (i := 0) rfl (by kernel_rfl) (by kernel_rfl) (by kernel_rfl) rfl rfl (fun _ _ _ h => h) trivial (fun ρ w E H => ex_move E rfl rfl) ?_
          refine SxA.take (i := 1) rfl (by kernel_rfl) (by kernel_rfl) (by kernel_rfl) rfl rfl (fun _ _ _ h => h) trivial (fun ρ w E H => ex_move E rfl rfl) ?_
          refine SxA.take (i := 2) (v := .pointer (some ((⟨g, k * 2, none⟩ : Addr).add (j * 2)))) rfl (by kernel_rfl) (by kernel_rfl) (by kernel_rfl) rfl rfl (fun _ _ _ h => h) trivial (fun ρ w E H => ex_index (i := j) E rfl Tryz.underlying51 sz_palaver_net_Pair rfl rfl (by omega)) ?_
          refine SxA.take (i := 3) (v := .agg #[.int .u8 (ua : Int), .int .u8 (ub : Int)]) rfl (by kernel_rfl) (by kernel_rfl) (by kernel_rfl) rfl rfl (fun _ _ _ h => h) trivial (fun ρ w E H => ex_loadX (cs := [.int .u8 (ua : Int), .int .u8 (ub : Int)]) E (row_mid (a := k) (b := j) (sz := 2) (by rw [show (k + j) * 2 = (k + j) * 2 from rfl]; exact (own_readE prL_len (by decide) (H.get (i := 0) rfl)).rowA (k := k + j) hCu)) rfl rfl Tryz.underlying57 rfl sz_palaver_net_Pair) ?_
          refine SxA.take (i := 4) rfl (by kernel_rfl) (by kernel_rfl) (by kernel_rfl) rfl rfl (fun _ _ _ h => h) trivial (fun ρ w E H => ex_move E rfl rfl) ?_
          refine SxA.take (i := 5) rfl (by kernel_rfl) (by kernel_rfl) (by kernel_rfl) rfl rfl (fun _ _ _ h => h) trivial (fun ρ w E H => ex_move E rfl rfl) ?_
          refine SxA.take (i := 6) (v := .int .i64 ((j - 1 : Nat) : Int)) rfl (by kernel_rfl) (by kernel_rfl) (by kernel_rfl) rfl rfl (fun _ _ _ h => h) trivial (fun ρ w E H => ex_sub E rfl rfl rfl (by rw [IntKind.wrap_i64]; omega)) ?_
          refine SxA.take (i := 7) (v := .pointer (some ((⟨g, k * 2, none⟩ : Addr).add ((j - 1 : Nat) * 2)))) rfl (by kernel_rfl) (by kernel_rfl) (by kernel_rfl) rfl rfl (fun _ _ _ h => h) trivial (fun ρ w E H => ex_index (i := (j - 1 : Nat)) E rfl Tryz.underlying51 sz_palaver_net_Pair rfl rfl (by omega)) ?_
          refine SxA.take (i := 8) (v := .agg #[.int .u8 (va : Int), .int .u8 (vb : Int)]) rfl (by kernel_rfl) (by kernel_rfl) (by kernel_rfl) rfl rfl (fun _ _ _ h => h) trivial (fun ρ w E H => ex_loadX (cs := [.int .u8 (va : Int), .int .u8 (vb : Int)]) E (row_mid (a := k) (b := j - 1) (sz := 2) (by rw [show (k + (j - 1)) * 2 = (k + j - 1) * 2 by omega]; exact (own_readE prL_len (by decide) (H.get (i := 0) rfl)).rowA (k := k + j - 1) hCv)) rfl rfl Tryz.underlying57 rfl sz_palaver_net_Pair) ?_
          refine SxA.takeB (i := 9) rfl (by kernel_rfl) (by kernel_rfl) (by kernel_rfl) rfl rfl (fun _ _ _ h => h) trivial (fun ρ w E H => ex_aneq E rfl (by kernel_rfl) rfl rfl (fun w => by rw [Bool.not_not]; exact eq_pair_lit ua ub va vb w)) fun c44 hc44 => ?_
          refine SxA.done (by kernel_rfl) ?_
          refine SxN.then_ ?_
          cases c44
          · refine SxC.condF rfl (SxC.skip (SxN.block (SxN.then_ (SxC.region ?_))))
            refine SxL.val trivial rfl rfl (fun ρ w E H => ex_move E rfl rfl) ?_
            refine SxL.val (v := .int .i64 ((j + 1 : Nat) : Int)) trivial rfl rfl (fun ρ w E H => ex_add E rfl rfl rfl (by rw [IntKind.wrap_i64]; omega)) ?_
            refine SxL.val trivial rfl rfl (fun ρ w E H => ex_assign E rfl rfl) ?_
            refine SxL.nil ?_
            have hct := cptL_take (l := ps) (m := k + j) (by omega) hv hu
            rw [if_pos (by have h := hc44; simp at h; exact Prod.ext h.1 h.2), List.append_nil] at hct
            refine SxN.back (gk - 1) (i, j + 1, C) (by omega) ⟨hCn, (show 1 ≤ j + 1 by omega), (show k + (j + 1) + (gk - 1) = n by omega), (show i + 1 ≤ k + (j + 1) by omega), hCt.trans hct.symm, hdr⟩ ⟨rfl, rfl, rfl, rfl, trivial⟩ [0] rfl (by decide) ⟨.inl rfl, trivial⟩
          · refine SxC.condT rfl (SxC.seq (SxC.region ?_))
            iterate 4 refine SxL.val trivial rfl rfl (fun ρ w E H => ex_move E rfl rfl) ?_
            refine SxL.val (v := .pointer (some ((⟨g, k * 2, none⟩ : Addr).add (j * 2)))) trivial rfl rfl (fun ρ w E H => ex_index (i := j) E rfl Tryz.underlying51 sz_palaver_net_Pair rfl rfl (by omega)) ?_
            refine SxL.val (v := .agg #[.int .u8 (ua : Int), .int .u8 (ub : Int)]) trivial rfl rfl (fun ρ w E H => ex_loadX (cs := [.int .u8 (ua : Int), .int .u8 (ub : Int)]) E (row_mid (a := k) (b := j) (sz := 2) (by rw [show (k + j) * 2 = (k + j) * 2 from rfl]; exact (own_readE prL_len (by decide) (H.get (i := 0) rfl)).rowA (k := k + j) hCu)) rfl rfl Tryz.underlying57 rfl sz_palaver_net_Pair) ?_
            refine SxL.val (v := .pointer (some ((⟨g, 0, none⟩ : Addr).add (i * 2)))) trivial rfl rfl (fun ρ w E H => ex_index (i := i) E rfl Tryz.underlying51 sz_palaver_net_Pair rfl rfl (by omega)) ?_
            refine SxL.skipG _ trivial rfl (fun ρ w E H => Hp.storeEl (cells := prL) (l := C) (y := (ua, ub)) (k := i) (i := 0) prL_len E H rfl rfl rfl rfl (by omega) sz_palaver_net_Pair rfl rfl) ?_
            refine SxL.nil (SxN.then_ (SxC.region ?_))
            refine SxL.val trivial rfl rfl (fun ρ w E H => ex_move E rfl rfl) ?_
            refine SxL.val (v := .int .i64 ((i + 1 : Nat) : Int)) trivial rfl rfl (fun ρ w E H => ex_add E rfl rfl rfl (by rw [IntKind.wrap_i64]; omega)) ?_
            refine SxL.val trivial rfl rfl (fun ρ w E H => ex_assign E rfl rfl) ?_
            refine SxL.nil (SxN.block (SxN.then_ (SxC.region ?_)))
            refine SxL.val trivial rfl rfl (fun ρ w E H => ex_move E rfl rfl) ?_
            refine SxL.val (v := .int .i64 ((j + 1 : Nat) : Int)) trivial rfl rfl (fun ρ w E H => ex_add E rfl rfl rfl (by rw [IntKind.wrap_i64]; omega)) ?_
            refine SxL.val trivial rfl rfl (fun ρ w E H => ex_assign E rfl rfl) ?_
            refine SxL.nil ?_
            have hct := cptL_take (l := ps) (m := k + j) (by omega) hv hu
            rw [if_neg (fun h => by rw [h] at hc44; simp at hc44)] at hct
            refine SxN.back (gk - 1) ((i + 1 : Nat), j + 1, (C.set i (ua, ub))) (by omega) ⟨by rw [List.length_set, hCn], (show 1 ≤ j + 1 by omega), (show k + (j + 1) + (gk - 1) = n by omega), (show i + 1 + 1 ≤ k + (j + 1) by omega), by rw [set_take_snoc (by omega), hCt]; exact hct.symm, by show (C.set i (ua, ub)).drop (k + (j + 1) - 1) = ps.drop (k + (j + 1) - 1); rw [List.drop_set_of_lt (by omega)]; exact hdr⟩ ⟨rfl, rfl, rfl, rfl, trivial⟩ [0] rfl (by decide) ⟨.inl rfl, trivial⟩
  · refine SxC.condT rfl (SxC.seq (SxC.region ?_))
    refine SxL.val trivial rfl rfl (fun ρ w E H => ex_move E rfl rfl) ?_
    refine SxL.val trivial rfl rfl (fun ρ w E H => ex_assign E rfl rfl) ?_
    refine SxL.nil (SxN.then_ (SxC.ret (SxX.thenR ?_)))
    refine SxX.done (.slice (some ⟨g, 0, none⟩) n c) (fun a w K H => res1 K rfl rfl) (fun w H => ?_)
    have hfin : cptL ps = ps := by have h := hc8; simp [cmpB] at h; match ps, hpn with | [], _ => rfl | [a], _ => rfl | a :: b :: l, h2 => simp at h2; omega
    exact ⟨_, rfl, by rw [hfin]; exact H.get (i := 0) rfl, (fun b hb => .inl hb), H.toOuts _ ⟨(fun b hb => .inl (by simpa [rowX, Value.ownBlock] using hb)), trivial⟩⟩

set_option maxRecDepth 100000 in
set_option maxHeartbeats 4000000 in
theorem compact_none (c : Nat)  (w : World) : Calls Tryz.prog 72 #[.slice none 0 c] w fun e w' => e = .returned (.slice none 0 c) ∧ Below w.heap.size w w' := by
  refine sx_enter (n := 61) _ Tryz.func72 rfl rfl rfl (Hp.start w) ?_
  refine SxC.seq (SxC.region ?_)
  refine SxL.val trivial rfl rfl (fun ρ w E H => ex_assign E rfl rfl) ?_
  refine SxL.nil (SxN.then_ (SxC.seq (SxC.seq (SxC.region ?_))))
  refine SxL.val trivial rfl rfl (fun ρ w E H => ex_move E rfl rfl) ?_
  refine SxL.val (v := .int .i64 0) trivial rfl rfl (fun ρ w E H => ex_lenS E rfl Tryz.underlying51 rfl) ?_
  refine SxL.val (v := .bool true) trivial rfl rfl (fun ρ w E H => ex_cmp E rfl rfl rfl rfl (by decide)) ?_
  refine SxL.nil (SxN.then_ (SxC.condT rfl (SxC.seq (SxC.region ?_))))
  refine SxL.val trivial rfl rfl (fun ρ w E H => ex_move E rfl rfl) ?_
  refine SxL.val trivial rfl rfl (fun ρ w E H => ex_assign E rfl rfl) ?_
  refine SxL.nil (SxN.then_ (SxC.ret (SxX.thenR ?_)))
  refine SxX.done (.slice none 0 c) (fun a w K H => res1 K rfl rfl) (fun w H => ?_)
  exact ⟨rfl, H.toBelow trivial⟩

theorem compact_any {ps : List (Nat × Nat)} {base n c : Nat} {A : Option Addr} {w : World} (hown : w.ownsRow base 57 2 (.slice A n c) ps.length (ps.flatMap prL)) (hn63 : ps.length ≤ 1000000) : Calls Tryz.prog 72 #[.slice A n c] w fun e w' => ∃ v, e = .returned v ∧ w'.ownsRow base 57 2 v (cptL ps).length ((cptL ps).flatMap prL) ∧ OwnIn w (Value.slice A n c).ownBlock.toList v ∧ Outs (Value.slice A n c).ownBlock.toList w w' := by
  rcases hown.2 with ⟨h0, h1⟩ | ⟨g, cap, cur, ev, _⟩
  · injection h0 with e1 e2 e3
    subst e1 e2 e3
    have hl0 : ps = [] := List.length_eq_zero_iff.1 h1
    subst hl0
    exact (compact_none 0 w).mono fun E w' he => ⟨_, he.1, World.ownsRow_nil _ _ _ _, own_none w 0 0, Outs.of_below he.2⟩
  · injection ev with e1 e2 e3
    subst e1
    exact compact_some ps base g n c w hown e2.symm (by omega)
end Go.Proofs.YteiaiilfekojfaaGreat.Net
end
section
set_option linter.unusedVariables false
set_option linter.unusedSimpArgs false
namespace Go.Proofs.YteiaiilfekojfaaGreat.Net
open Go.RowKit Go.Shelf Go.Sort Sx Bal DrawInv
def sortPr_ren : Go.Shelf.Ren := ⟨fun | 6 => 68 | 15 => 106 | 14 => 105 | 28 => 175 | 29 => 176 | 20 => 167 | 21 => 168 | 22 => 169 | 23 => 170 | 24 => 171 | 25 => 172 | 26 => 173 | 27 => 174 | 46 => 182 | 47 => 183 | 48 => 184 | 49 => 185 | 50 => 186 | 57 => 187 | n => n, fun | 22 => 51 | 24 => 57 | 25 => 140 | 3 => 3 | 39 => 174 | 0 => 0 | 53 => 27 | 55 => 22 | 4 => 4 | 46 => 192 | 45 => 191 | 50 => 196 | 5 => 5 | 9 => 9 | 66 => 205 | 70 => 208 | 76 => 210 | 77 => 211 | n => n, fun | n => n⟩
theorem sortPr : Go.Proofs.SlLaysF0.n6 Tryz.prog sortPr_ren := {
  mixed := (by kernel_rfl),
  f6 := ⟨Tryz.f68.name, by decide, Tryz.func68.trans (congrArg some (by kernel_rfl))⟩,
  f14 := ⟨Tryz.f105.name, by decide, Tryz.func105.trans (congrArg some (by kernel_rfl))⟩,
  f15 := Tryz.func106.trans (congrArg some (by kernel_rfl)),
  f20 := ⟨Tryz.f167.name, by decide, Tryz.func167.trans (congrArg some (by kernel_rfl))⟩,
  f21 := ⟨Tryz.f168.name, by decide, Tryz.func168.trans (congrArg some (by kernel_rfl))⟩,
  f22 := ⟨Tryz.f169.name, by decide, Tryz.func169.trans (congrArg some (by kernel_rfl))⟩,
  f23 := ⟨Tryz.f170.name, by decide, Tryz.func170.trans (congrArg some (by kernel_rfl))⟩,
  f24 := ⟨Tryz.f171.name, by decide, Tryz.func171.trans (congrArg some (by kernel_rfl))⟩,
  f25 := ⟨Tryz.f172.name, by decide, Tryz.func172.trans (congrArg some (by kernel_rfl))⟩,
  f26 := ⟨Tryz.f173.name, by decide, Tryz.func173.trans (congrArg some (by kernel_rfl))⟩,
  f27 := ⟨Tryz.f174.name, by decide, Tryz.func174.trans (congrArg some (by kernel_rfl))⟩,
  f28 := Tryz.func175.trans (congrArg some (by kernel_rfl)),
  f29 := Tryz.func176.trans (congrArg some (by kernel_rfl)),
  f46 := ⟨Tryz.f182.name, by decide, Tryz.func182.trans (congrArg some (by kernel_rfl))⟩,
  f47 := Tryz.func183.trans (congrArg some (by kernel_rfl)),
  f48 := Tryz.func184.trans (congrArg some (by kernel_rfl)),
  f49 := ⟨Tryz.f185.name, by decide, Tryz.func185.trans (congrArg some (by kernel_rfl))⟩,
  f50 := ⟨Tryz.f186.name, by decide, Tryz.func186.trans (congrArg some (by kernel_rfl))⟩,
  f57 := ⟨Tryz.f187.name, by decide, Tryz.func187.trans (congrArg some (by kernel_rfl))⟩,
  t0 := Tryz.underlying0,
  a0 := Tryz.isAgg0,
  z0 := Tryz.sizeOf0,
  v0 := Tryz.zeroValue0,
  t3 := Tryz.underlying3,
  a3 := Tryz.isAgg3,
  z3 := Tryz.sizeOf3,
  v3 := Tryz.zeroValue3,
  t4 := Tryz.underlying4,
  a4 := Tryz.isAgg4,
  z4 := Tryz.sizeOf4,
  v4 := Tryz.zeroValue4,
  t5 := Tryz.underlying5,
  a5 := Tryz.isAgg5,
  z5 := Tryz.sizeOf5,
  v5 := Tryz.zeroValue5,
  t9 := Tryz.underlying9,
  a9 := Tryz.isAgg9,
  z9 := Tryz.sizeOf9,
  v9 := Tryz.zeroValue9,
  t22 := Tryz.underlying51,
  a22 := Tryz.isAgg51,
  z22 := Tryz.sizeOf51,
  v22 := Tryz.zeroValue51,
  t25 := Tryz.underlying140,
  a25 := Tryz.isAgg140,
  z25 := Tryz.sizeOf140,
  v25 := Tryz.zeroValue140,
  t39 := Tryz.underlying174,
  a39 := Tryz.isAgg174,
  z39 := Tryz.sizeOf174,
  v39 := Tryz.zeroValue174,
  t45 := Tryz.underlying191,
  a45 := Tryz.isAgg191,
  z45 := Tryz.sizeOf191,
  v45 := Tryz.zeroValue191,
  t46 := Tryz.underlying192,
  a46 := Tryz.isAgg192,
  z46 := Tryz.sizeOf192,
  v46 := Tryz.zeroValue192,
  t50 := Tryz.underlying196,
  a50 := Tryz.isAgg196,
  z50 := Tryz.sizeOf196,
  v50 := Tryz.zeroValue196,
  t53 := Tryz.underlying27,
  a53 := Tryz.isAgg27,
  z53 := Tryz.sizeOf27,
  v53 := Tryz.zeroValue27,
  t55 := Tryz.underlying22,
  a55 := Tryz.isAgg22,
  z55 := Tryz.sizeOf22,
  v55 := Tryz.zeroValue22,
  t66 := Tryz.underlying205,
  a66 := Tryz.isAgg205,
  z66 := Tryz.sizeOf205,
  v66 := Tryz.zeroValue205,
  t70 := Tryz.underlying208,
  a70 := Tryz.isAgg208,
  z70 := Tryz.sizeOf208,
  v70 := Tryz.zeroValue208,
  t76 := Tryz.underlying210,
  a76 := Tryz.isAgg210,
  z76 := Tryz.sizeOf210,
  v76 := Tryz.zeroValue210,
  t77 := Tryz.underlying211,
  a77 := Tryz.isAgg211,
  z77 := Tryz.sizeOf211,
  v77 := Tryz.zeroValue211 }
theorem agg_pair : ∀ w, (isAgg (sortPr_ren.t 24)).run Tryz.prog w = .ok true w := Tryz.isAgg57
theorem size_pair : ∀ w, (Go.sizeOf (sortPr_ren.t 24)).run Tryz.prog w = .ok 2 w := Tryz.sizeOf57
theorem sort_some {w : World} {base g n c : Nat} {l : List (Nat × Nat)} (h : w.ownsRow base 57 2 (.slice (some ⟨g, 0, none⟩) n c) l.length (l.flatMap prL)) (hl : l.length ≤ 1000000) : Calls Tryz.prog 68 #[.slice (some ⟨g, 0, none⟩) n c, .func (.func 69) #[] #[]] w fun e w' => e = .returned (.tuple #[]) ∧ ∃ Q : List (Nat × Nat), (Q.Perm l ∧ Q.Pairwise (fun a b => ¬ ltP b a)) ∧ w'.ownsRow base 57 2 (.slice (some ⟨g, 0, none⟩) n c) Q.length (Q.flatMap prL) ∧ w.grownBy w' (some g) := by
  have hn : n = l.toArray.size := by
    rcases h.2 with ⟨h0, _⟩ | ⟨g', cap, cur, ev, _⟩
    · cases h0
    · have e2 : n = l.length := by injection ev
      simpa using e2
  have hlt : g < w.heap.size := (own_lt h g (by simp [Value.ownBlock])).2
  have eg : ∀ args w, (callFunc 69 args).run Tryz.prog w = .ok (.enter 69 args) w := enters_of Tryz.func69 (by kernel_rfl) rfl
  have hcon := AnyQ.slices_SortFunc sortPr 2 agg_pair size_pair prL prL_len prL_one ordP swo_pairs 69 #[] g 0 c l.toArray w eg (cmp_lays g _ w) (holds_row h) hlt (by simp; omega)
  change Calls Tryz.prog 68 _ _ _ at hcon
  rw [← hn] at hcon
  refine hcon.mono fun e w' ⟨he, d', m, os, hp, hs, hw⟩ => ⟨he, d'.toList, ?_⟩
  rw [hn] at hp hs
  obtain ⟨hq, hpm⟩ := perm_of hp
  obtain ⟨h1, h2⟩ := own_sorted (m := m) (os := os) h hq
  rw [hw]
  exact ⟨⟨hpm, sorted_of (by rw [hq]; simp) hs⟩, h1, h2⟩
theorem sort_none (c : Nat) (w : World) : Calls Tryz.prog 68 #[.slice none 0 c, .func (.func 69) #[] #[]] w fun e w' => e = .returned (.tuple #[]) ∧ w' = w :=
  AnyF.slices_SortFunc_none sortPr none c _ w
theorem call_sort {w0 : World} {L : List Ft} {i base n c : Nat} {A : Option Addr} {ex : List Nat} {l : List (Nat × Nat)} (hL : nth L i = some (rowX ex base 57 2 (.slice A n c) l.length (l.flatMap prL))) (hl : l.length ≤ 1000000) :
    ∀ w, Hp w0 L w → Calls Tryz.prog 68 #[.slice A n c, .func (.func 69) #[] #[]] w fun E w' => ∃ Q : List (Nat × Nat), E = .returned (.tuple #[]) ∧ (Q.Perm l ∧ Q.Pairwise (fun a b => ¬ ltP b a)) ∧ Hp w0 (putF L i (rowX ex base 57 2 (.slice A n c) Q.length (Q.flatMap prL))) w' := fun w H => by
  have hown : w.ownsRow base 57 2 (.slice A n c) l.length (l.flatMap prL) := H.get hL
  rcases hown.2 with ⟨h0, h1⟩ | ⟨g, cap, cur, ev, _⟩
  · injection h0 with e1 e2 e3
    subst e1 e2 e3
    have hl0 : l = [] := List.length_eq_zero_iff.1 h1
    subst hl0
    refine (sort_none 0 w).mono fun E w' he => ⟨[], he.1, ⟨.nil, .nil⟩, ?_⟩
    rw [he.2]
    exact H.chg hL _ (Outs.refl _ _) (rowX_loc _ _ _ _ _ _ _) (fun b hb => ⟨(H.ok _ (nth_mem hL)).2.1 b hb, .inl hb⟩) (fun b hb => .inl hb) hown
  · injection ev with e1 e2 e3
    subst e1
    refine (sort_some hown hl).mono fun E w' ⟨he, Q, hq, ho, hg⟩ => ⟨Q, he, hq, ?_⟩
    have hin : g ∈ (rowX ex base 57 2 (.slice (some ⟨g, 0, none⟩) n c) l.length (l.flatMap prL)).fp := by simp [rowX, Value.ownBlock]
    exact H.chg hL _ (Outs.of_grown hg hin) (rowX_loc _ _ _ _ _ _ _) (fun b hb => ⟨Nat.lt_of_lt_of_le ((H.ok _ (nth_mem hL)).2.1 b hb) hg.size, .inl hb⟩) (fun b hb => .inl hb) ho
end Go.Proofs.YteiaiilfekojfaaGreat.Net
end
section
set_option linter.unusedVariables false
set_option linter.unusedSimpArgs false
namespace Go.Proofs.YteiaiilfekojfaaGreat.Net
open Go.RowKit Sx Wire DrawInv
open Msg
def wayP (x : Pa) : Nat × Nat := (x.src, x.dst)

set_option maxRecDepth 100000 in
set_option maxHeartbeats 4000000 in
theorem pairs_any (base g gm : Nat) (V : Value) (bag : List Pa) (M : CutM)  (w : World) (hn : (netF base g gm V bag M).φ w) (hb512 : bag.length ≤ 512) : Calls Tryz.prog 32 #[.pointer (some ⟨g, 0, none⟩)] w fun e w' => ∃ v Q, e = .returned v ∧ PairsOf bag Q ∧ w'.ownsRow w.heap.size 57 2 v Q.length (Q.flatMap prL) ∧ Below w.heap.size w w' := by
  obtain ⟨Ab, cb, rfl⟩ := own_is_slice hn.2.1
  have hrows := own_read hn.2.1
  have hnone := own_none w 0 0
  refine sx_enter (n := 27) _ Tryz.func32 rfl rfl rfl (Hp.start w) ?_
  refine SxC.seq (SxC.region ?_)
  refine SxL.val trivial rfl rfl (fun ρ w E H => ex_assign E rfl rfl) ?_
  refine SxL.nil (SxN.then_ (SxC.seq (SxC.seq (SxC.region ?_))))
  refine SxL.val trivial rfl rfl (fun ρ w E H => ex_move E rfl rfl) ?_
  refine SxL.val (v := .bool false) trivial rfl rfl (fun ρ w E H => ex_pnil E rfl Tryz.underlying48 rfl rfl rfl) ?_
  refine SxL.nil (SxN.then_ (SxC.condF rfl (SxC.skip (SxN.then_ (SxC.seq (SxC.region ?_))))))
  refine SxL.val trivial rfl rfl (fun ρ w E H => ex_assign E rfl rfl) ?_
  refine SxL.nil (SxN.then_ (SxC.seq (SxC.seq (SxC.region ?_))))
  refine SxL.val trivial rfl rfl (fun ρ w E H => ex_move E rfl rfl) ?_
  refine SxL.val (v := .pointer (some ⟨g, 0, none⟩)) trivial rfl rfl (fun ρ w E H => ex_nilCheck E rfl rfl) ?_
  refine SxL.val (v := .pointer (some ⟨g, 0, none⟩)) trivial rfl rfl (fun ρ w E H => ex_field E rfl fa_palaver_net_Net_0 rfl rfl) ?_
  refine SxL.val trivial rfl rfl (fun ρ w E H => ex_load1 (cs := [.slice Ab bag.length cb, .map (some gm)]) E (Blk.below hn.1 (H.toBelow trivial) (Blk.lt hn.1)) rfl rfl Tryz.underlying128 rfl rfl) ?_
  refine SxL.val (v := .int .i64 (bag.length : Int)) trivial rfl rfl (fun ρ w E H => ex_lenS E rfl Tryz.underlying128 rfl) ?_
  refine SxL.val trivial rfl rfl (fun ρ w E H => ex_move E rfl rfl) ?_
  refine SxL.nil (SxN.then_ (SxC.block ?_))
  refine SxC.hp (fun W H => H.nilRow 57 2) ?_
  refine SxC.loop2 (fun (i : Nat) (vL : Value) => [(3, vL), (11, .slice Ab bag.length cb), (12, .int .i64 (bag.length : Int)), (13, .int .i64 (i : Int))]) (fun (i : Nat) (vL : Value) => [rowX [] w.heap.size 57 2 vL (((bag.take i).map wayP).length) (((bag.take i).map wayP).flatMap prL)]) (fun (gk : Nat) (i : Nat) (vL : Value) => i + gk = bag.length ∧ OwnIn w [] vL) bag.length 0 (.slice none 0 0) ⟨by omega, hnone⟩ ⟨rfl, rfl, rfl, rfl, trivial⟩ [0] rfl (by decide) ⟨.inl rfl, trivial⟩ fun gk i vL hF => ?_
  obtain ⟨hkg, hvL⟩ := hF
  refine SxC.seq (SxC.region ?_)
  refine SxL.valB trivial rfl rfl (fun ρ w E H => ex_cmp E rfl rfl rfl rfl rfl) fun c14 hc14 => ?_
  refine SxL.nil (SxN.then_ (SxC.seq ?_))
  cases c14
  · refine SxC.condF rfl (SxC.exit (SxX.thenE (SxX.thenE (SxX.blockE (SxN.then_ (SxC.seq ?_))))))
    have hle : bag.length ≤ i := by have h := hc14; simp [cmpB] at h; omega
    have htk : (bag.take i).map wayP = bag.map wayP := by rw [List.take_of_length_le hle]
    have hml : (bag.map wayP).length = bag.length := List.length_map _
    refine SxC.with (fun W H => own_is_slice (H.get (i := 0) rfl)) ?_
    rintro ⟨AL, cL, rfl⟩
    refine SxC.hp (fun W H => H.re (i := 0) rfl (rowX [] w.heap.size 57 2 (.slice AL (((bag.take i).map wayP).length) cL) ((bag.map wayP).length) ((bag.map wayP).flatMap prL)) (rowX_loc _ _ _ _ _ _ _) rfl (fun h => own_as h (by rw [htk]) (by rw [htk]))) ?_
    refine SxC.region ?_
    refine SxL.val trivial rfl rfl (fun ρ w E H => ex_move E rfl rfl) ?_
    refine SxL.call (σ := List (Nat × Nat)) (fun _ => .tuple #[]) (fun Q => Q.Perm (bag.map wayP) ∧ Q.Pairwise (fun a b => ¬ ltP b a)) (fun Q => _) trivial rfl rfl (fun ρ w E => ex_call E en_slices_SortFunc_palaver_net_Pair_palaver_net_Pair rfl rfl) (call_sort (i := 0) (l := bag.map wayP) rfl (by omega)) fun Q hQ => ?_
    refine SxL.nil (SxN.then_ (SxC.seq (SxC.region ?_)))
    refine SxL.val trivial rfl rfl (fun ρ w E H => ex_move E rfl rfl) ?_
    refine SxL.call (σ := Value) (fun s => s) (fun s => OwnIn w [] s) (fun s => _) trivial rfl rfl (fun ρ w E => ex_call E en_slices_Compact_palaver_net_Pair_palaver_net_Pair rfl rfl) (callGrow (i := 0) (m' := (cptL Q).length) (xs' := (cptL Q).flatMap prL) rfl hvL (fun w H => compact_any (ps := Q) (H.get (i := 0) rfl) (by rw [hQ.1.length_eq]; omega))) fun vC hvC => ?_
    refine SxL.val trivial rfl rfl (fun ρ w E H => ex_assign E rfl rfl) ?_
    refine SxL.nil (SxN.then_ (SxC.ret ?_))
    refine SxX.done (vC) (fun a w K H => res1 K rfl rfl) (fun w H => ?_)
    exact ⟨_, _, rfl, PairsOf.mk' hQ.1 hQ.2, H.get (i := 0) rfl, H.toBelow ⟨hvC.fresh, trivial⟩⟩
  · refine SxC.condT rfl (SxC.skip (SxN.then_ (SxC.seq (SxC.block (SxC.seq ?_)))))
    have hkl : i < bag.length := by have h := hc14; simp [cmpB] at h; omega
    obtain ⟨⟨ps, pd, pb⟩, hx⟩ : ∃ x, bag[i]? = some x := ⟨_, List.getElem?_eq_getElem hkl⟩
    obtain ⟨ad, rfl, -, -⟩ := hrows.row hx
    have hwl : ((bag.take i).map wayP).length = i := by rw [List.length_map, List.length_take]; omega
    refine SxC.region ?_
    refine SxL.val (v := .pointer (some (ad.add (i * 3)))) trivial rfl rfl (fun ρ w E H => ex_index (i := i) E rfl Tryz.underlying128 sz_palaver_net_parcel rfl rfl hkl) ?_
    refine SxL.val (v := .agg #[.int .u8 (ps : Int), .int .u8 (pd : Int), .string ⟨pb.toArray⟩]) trivial rfl rfl (fun ρ w E H => ex_loadX (cs := [.int .u8 (ps : Int), .int .u8 (pd : Int), .string ⟨pb.toArray⟩]) E ((hrows.below (H.toBelow ⟨hvL.fresh, trivial⟩)).rowA hx) rfl rfl Tryz.underlying134 rfl sz_palaver_net_parcel) ?_
    refine SxL.new (cs := [.int .u8 0, .int .u8 0, .string ⟨[].toArray⟩]) trivial rfl rfl (fun ρ w E H => ex_alloc rfl zr_palaver_net_parcel rfl) fun g1 hg1 => ?_
    refine SxL.storeX (i := 0) [.int .u8 (ps : Int), .int .u8 (pd : Int), .string ⟨pb.toArray⟩] trivial rfl rfl rfl rfl rfl sz_palaver_net_parcel rfl rfl rfl (putL_all _ _ rfl) ?_
    refine SxL.nil (SxN.then_ (SxC.region ?_))
    refine SxL.val trivial rfl rfl (fun ρ w E H => ex_move E rfl rfl) ?_
    refine SxL.val (v := .pointer (some ⟨g1, 0, none⟩)) trivial rfl rfl (fun ρ w E H => ex_field E rfl fa_palaver_net_parcel_0 rfl rfl) ?_
    refine SxL.val trivial rfl rfl (fun ρ w E H => ex_load (part := [.int .u8 (ps : Int), .int .u8 (pd : Int)]) E (H.get (i := 0) rfl) rfl rfl Tryz.underlying57 rfl sz_palaver_net_Pair rfl rfl) ?_
    refine SxL.newS (cs := [.int .u8 (ps : Int), .int .u8 (pd : Int)]) trivial rfl rfl (fun ρ w E H => ex_buildSlice E rfl rfl Tryz.underlying51 sz_palaver_net_Pair zr_palaver_net_Pair rfl rfl (by kernel_rfl)) fun g2 hg2 => ?_
    refine SxL.append (i := 2) (news := [.int .u8 (ps : Int), .int .u8 (pd : Int)]) trivial rfl rfl rfl Tryz.underlying51 nf_palaver_net_Pair rfl rfl rfl rfl hvL rfl (fun w H => reads_cell H (i := 0) rfl rfl) (one_list rfl) (by unfold maxLen; omega) (by omega) (Nat.le_refl _) fun A21 k21 hv21 => ?_
    refine SxL.val trivial rfl rfl (fun ρ w E H => ex_assign E rfl rfl) ?_
    refine SxL.nil (SxN.block (SxN.then_ ?_))
    refine SxC.hp (fun W H => H.re (i := 2) rfl (rowX [] w.heap.size 57 2 (.slice A21 (((bag.take i).map wayP).length + 1) k21) (((bag.take (i + 1)).map wayP).length) (((bag.take (i + 1)).map wayP).flatMap prL)) (rowX_loc _ _ _ _ _ _ _) rfl (fun h => own_as h (by rw [List.take_add_one, hx]; simp) (by rw [List.take_add_one, hx]; simp [wayP, prL]))) ?_
    refine SxC.region ?_
    refine SxL.val (v := .int .i64 ((i + 1 : Nat) : Int)) trivial rfl rfl (fun ρ w E H => ex_add E rfl rfl rfl (by rw [IntKind.wrap_i64]; omega)) ?_
    refine SxL.val trivial rfl rfl (fun ρ w E H => ex_move E rfl rfl) ?_
    refine SxL.nil ?_
    refine SxN.back (gk - 1) (i + 1, (.slice A21 (((bag.take i).map wayP).length + 1) k21)) (by omega) ⟨show i + 1 + (gk - 1) = bag.length by omega, hv21⟩ ⟨rfl, rfl, rfl, rfl, trivial⟩ [2] rfl (by decide) ⟨.inr (fun g hg => by rw [List.mem_singleton.1 hg]; exact hg2), .inr (fun g hg => by rw [List.mem_singleton.1 hg]; exact hg1), .inl rfl, trivial⟩
end Go.Proofs.YteiaiilfekojfaaGreat.Net
end
section
set_option linter.unusedVariables false
set_option linter.unusedSimpArgs false
namespace Go.Proofs.YteiaiilfekojfaaGreat.Net
open Go.RowKit Sx Wire DrawInv
open Msg
def allK (ps : List (Nat × Nat)) : List Pa := bagK ps (List.range ps.length)
theorem allK_len (ps : List (Nat × Nat)) : (allK ps).length = ps.length := by unfold allK; rw [bagK_len, List.length_range]
theorem allK_snoc (ps : List (Nat × Nat)) (p : Nat × Nat) : allK (ps ++ [p]) = allK ps ++ [⟨p.1, p.2, ssB ps.length⟩] := by
  unfold allK
  rw [List.length_append, List.length_singleton, List.range_succ]
  unfold bagK
  rw [List.map_append]
  congr 1
  · refine List.map_congr_left fun k hk => ?_
    unfold pcl
    rw [prAt_snoc (List.mem_range.1 hk)]
  · simp [pcl, prAt_last]
theorem order_send (ps : List (Nat × Nat)) (f t : Nat) (hl : ps.length ≤ 512) :
    (ps.length < 512 ∧ sendN (allK ps) f t (askM ps.length) = (allK ps, 2)) ∨ (ps.length = 512 ∧ sendN (allK ps) f t (askM ps.length) = (allK ps, 2)) ∨ (ps.length = 512 ∧ sendN (allK ps) f t (askM ps.length) = (allK ps, 7)) ∨
    (ps.length < 512 ∧ apartB f t = true ∧ sendN (allK ps) f t (askM ps.length) = (allK (ps ++ [(f, t)]), 0)) := by
  unfold sendN
  by_cases h1 : apartB f t = true
  · rw [if_pos h1, (ssB_put ps.length (by omega)).1, if_neg (fun h => h rfl), allK_len]
    by_cases h2 : 512 ≤ ps.length
    · exact .inr (.inr (.inl ⟨by omega, by rw [if_pos h2]⟩))
    · exact .inr (.inr (.inr ⟨by omega, h1, by rw [if_neg h2, allK_snoc]⟩))
  · rw [if_neg h1]
    by_cases h2 : ps.length = 512
    · exact .inr (.inl ⟨h2, rfl⟩)
    · exact .inl ⟨by omega, rfl⟩
/-- What holds while letters are taken: ks are under way; cm says which came. -/
structure OI (ps : List (Nat × Nat)) (ks : List Nat) (cm : List Bool) : Prop where
  pw : ks.Pairwise (· < ·)
  lt : ∀ k ∈ ks, k < ps.length
  ap : ∀ p ∈ ps, apartB p.1 p.2 = true
  len : cm.length = ps.length
  cm : ∀ k, k < ps.length → cm[k]? = some (decide (k ∉ ks))
theorem OI.start {ps : List (Nat × Nat)} (h : ∀ p ∈ ps, apartB p.1 p.2 = true) : OI ps (List.range ps.length) (List.replicate ps.length false) :=
  { pw := List.pairwise_lt_range, lt := fun k hk => List.mem_range.1 hk, ap := h, len := List.length_replicate, cm := fun k hk => by
      rw [List.getElem?_replicate, if_pos hk]
      simp [hk] }
theorem prAt_mem {ps : List (Nat × Nat)} {k : Nat} (hk : k < ps.length) : prAt ps k ∈ ps := by
  unfold prAt
  rw [List.getElem?_eq_getElem hk]
  exact List.getElem_mem hk
theorem pw_index {ks : List Nat} (h : ks.Pairwise (· < ·)) {i j a b : Nat} (hi : ks[i]? = some a) (hj : ks[j]? = some b) (hab : a < b) : i < j := by
  rcases Nat.lt_trichotomy i j with hlt | rfl | hgt
  · exact hlt
  · rw [hi] at hj; injection hj with hj; omega
  · exfalso
    obtain ⟨h1, e1⟩ := List.getElem?_eq_some_iff.1 hi
    obtain ⟨h2, e2⟩ := List.getElem?_eq_some_iff.1 hj
    have := (List.pairwise_iff_getElem.1 h) j i h2 h1 hgt
    omega
theorem OI.take {ps : List (Nat × Nat)} {ks : List Nat} {cm : List Bool} (h : OI ps ks cm) {p : Nat × Nat} (hl : ps.length ≤ 512) (hp : p ∈ (bagK ps ks).map fun x => (x.src, x.dst)) :
    ∃ j k : Nat, takeN (bagK ps ks) [] p.1 p.2 0 = (bagK ps (ks.eraseIdx j), (p.1, p.2, askM k), 0) ∧ ks[j]? = some k ∧ prAt ps k = p ∧ ∀ q, q < k → prAt ps q = p → q ∉ ks := by
  obtain ⟨x, hx, hxp⟩ := List.mem_map.1 hp
  unfold bagK at hx
  obtain ⟨k0, hk0, rfl⟩ := List.mem_map.1 hx
  have hp0 : prAt ps k0 = p := hxp
  obtain ⟨i0, hi0⟩ := List.getElem?_of_mem hk0
  have hk : ∀ k ∈ ks, k ≤ 1000 := fun k hk => by have := h.lt k hk; omega
  have hap : apartB p.1 p.2 = true := h.ap p (by rw [← hp0]; exact prAt_mem (h.lt k0 hk0))
  rcases take_keeps (ps := ps) (M := []) (f := p.1) (t := p.2) (K := 0) hk with ⟨c, hc, _, ht⟩ | ⟨j, k, ht, hj, hpk, _, hf⟩
  · exfalso
    unfold takeN at ht
    rw [if_pos hap] at ht
    have hcut : cutB [] p.1 p.2 = false := rfl
    rw [hcut, if_neg (by decide)] at ht
    have hb : hasB (bagK ps ks) p.1 p.2 i0 = true := (hasB_bagK ps ks p.1 p.2 i0).2 ⟨k0, hi0, hp0⟩
    have hm : i0 ∈ idxs (bagK ps ks) p.1 p.2 (bagK ps ks).length := by
      unfold idxs
      rw [List.mem_filter, List.mem_range, bagK_len]
      exact ⟨(List.getElem?_eq_some_iff.1 hi0).1, hb⟩
    cases hfo : findO (bagK ps ks) p.1 p.2 0 with
    | none =>
      unfold findO at hfo
      rw [if_pos (by decide)] at hfo
      cases hx : idxs (bagK ps ks) p.1 p.2 (bagK ps ks).length with
      | nil => rw [hx] at hm; cases hm
      | cons a l => rw [hx] at hfo; cases hfo
    | some i =>
      rw [hfo] at ht
      obtain ⟨h4, h5⟩ := findO_lt hfo
      obtain ⟨k, h6, h7⟩ := (hasB_bagK ps ks p.1 p.2 i).1 h5
      have hs := (ssB_put k (hk k (List.mem_of_getElem? h6))).2.2
      have e : ((bagK ps ks)[i]?.map (·.bytes)).getD [] = ssB k := by rw [bagK_at, h6]; rfl
      dsimp only at ht
      rw [e, hs, if_neg (fun h => h rfl)] at ht
      injection ht with _ ht
      injection ht with _ ht
      exact hc ht.symm
  · refine ⟨j, k, ht, hj, hpk, fun q hq hpq hm => ?_⟩
    obtain ⟨i, hi⟩ := List.getElem?_of_mem hm
    exact hf rfl i (pw_index h.pw hi hj hq) q hi hpq
theorem mem_erase_pw {ks : List Nat} (h : ks.Pairwise (· < ·)) : ∀ {j k : Nat}, ks[j]? = some k → ∀ x, x ∈ ks.eraseIdx j ↔ x ∈ ks ∧ x ≠ k := by
  induction ks with
  | nil => intro j k hj; cases hj
  | cons a l ih =>
    intro j k hj x
    obtain ⟨h1, h2⟩ := List.pairwise_cons.1 h
    cases j with
    | zero =>
      injection hj with hj
      subst hj
      show x ∈ l ↔ _
      rw [List.mem_cons]
      constructor
      · intro hx
        have := h1 x hx
        exact ⟨.inr hx, by omega⟩
      · rintro ⟨rfl | hx, hne⟩
        · exact absurd rfl hne
        · exact hx
    | succ j =>
      have hj : l[j]? = some k := hj
      have ih := ih h2 hj x
      show x ∈ a :: l.eraseIdx j ↔ _
      rw [List.mem_cons, List.mem_cons, ih]
      have hak : a < k := h1 k (List.mem_of_getElem? hj)
      constructor
      · rintro (rfl | ⟨hx, hne⟩)
        · exact ⟨.inl rfl, by omega⟩
        · exact ⟨.inr hx, hne⟩
      · rintro ⟨rfl | hx, hne⟩
        · exact .inl rfl
        · exact .inr ⟨hx, hne⟩
theorem OI.next {ps : List (Nat × Nat)} {ks : List Nat} {cm : List Bool} (h : OI ps ks cm) {j k : Nat} (hj : ks[j]? = some k) : OI ps (ks.eraseIdx j) (cm.set k true) :=
  { pw := h.pw.sublist (List.eraseIdx_sublist ..), lt := fun x hx => h.lt x (mem_erase hx), ap := h.ap, len := by rw [List.length_set]; exact h.len, cm := fun x hx => by
      have hm := mem_erase_pw h.pw hj x
      have hk := h.lt k (List.mem_of_getElem? hj)
      by_cases e : x = k
      · subst e
        rw [List.getElem?_set_self (by rw [h.len]; exact hk)]
        simp [hm]
      · rw [List.getElem?_set_ne (fun h => e h.symm), h.cm x hx]
        simp [hm, e] }
theorem OI.came {ps : List (Nat × Nat)} {ks : List Nat} {cm : List Bool} (h : OI ps ks cm) {k : Nat} (hk : k < ps.length) (hm : k ∉ ks) : cm[k]? = some true := by rw [h.cm k hk]; simp [hm]
theorem OI.not {ps : List (Nat × Nat)} {ks : List Nat} {cm : List Bool} (h : OI ps ks cm) {k : Nat} (hm : k ∈ ks) : cm[k]? = some false := by rw [h.cm k (h.lt k hm)]; simp [hm]
end Go.Proofs.YteiaiilfekojfaaGreat.Net
end
section
set_option linter.unusedVariables false
set_option linter.unusedSimpArgs false
namespace Go.Proofs.YteiaiilfekojfaaGreat.Msg
open Go.RowKit Sx Wire DrawInv
set_option maxRecDepth 100000 in
set_option maxHeartbeats 4000000 in
theorem rsame_lit (mk mn mr mb ms mo ca cb ck cz mc : Nat) (mv cs ct cu mt : List UInt8) (vl : List Vo) (il : List Im)(xk xn xr xb xs xo da db dk dz xc : Nat) (xv ds dt du xt : List UInt8) (wl : List Vo) (jl : List Im) (A B : Option Addr) (ka kb : Nat) (C D : Option Addr) (kc kd : Nat) (w : World) (hv : Rows w A 4 voL vl) (hi : Rows w B 2 imL il) (hv2 : Rows w C 4 voL wl) (hi2 : Rows w D 2 imL jl) (hl1 : vl.length ≤ 1000000) (hl2 : il.length ≤ 1000000) : Calls Tryz.prog 14 #[.agg #[.int .u8 (mk : Int), .int .u64 (mn : Int), .int .u8 (mr : Int), .int .u64 (mb : Int), .int .u64 (ms : Int), .int .u8 (mo : Int), .string ⟨mv.toArray⟩, .slice A vl.length ka, .slice B il.length kb, .int .u8 (ca : Int), .int .u32 (cb : Int), .int .u8 (ck : Int), .string ⟨cs.toArray⟩, .string ⟨ct.toArray⟩, .string ⟨cu.toArray⟩, .int .u8 (cz : Int), .int .u8 (mc : Int), .string ⟨mt.toArray⟩], .agg #[.int .u8 (xk : Int), .int .u64 (xn : Int), .int .u8 (xr : Int), .int .u64 (xb : Int), .int .u64 (xs : Int), .int .u8 (xo : Int), .string ⟨xv.toArray⟩, .slice C wl.length kc, .slice D jl.length kd, .int .u8 (da : Int), .int .u32 (db : Int), .int .u8 (dk : Int), .string ⟨ds.toArray⟩, .string ⟨dt.toArray⟩, .string ⟨du.toArray⟩, .int .u8 (dz : Int), .int .u8 (xc : Int), .string ⟨xt.toArray⟩]] w fun e w' => e = .returned (.bool (decide ((⟨mk, mn, mr, mb, ms, mo, mv, vl, il, ⟨ca, cb, ck, cs, ct, cu, cz⟩, mc, mt⟩ : Ms) = ⟨xk, xn, xr, xb, xs, xo, xv, wl, jl, ⟨da, db, dk, ds, dt, du, dz⟩, xc, xt⟩))) ∧ Below w.heap.size w w' := by
  refine sx_enter (n := 113) _ Tryz.func14 rfl rfl rfl (Hp.start w) ?_
  refine SxC.seq (SxC.region ?_)
  refine SxL.new (cs := [.int .u8 (mk : Int), .int .u64 (mn : Int), .int .u8 (mr : Int), .int .u64 (mb : Int), .int .u64 (ms : Int), .int .u8 (mo : Int), .string ⟨mv.toArray⟩, .slice A vl.length ka, .slice B il.length kb, .int .u8 (ca : Int), .int .u32 (cb : Int), .int .u8 (ck : Int), .string ⟨cs.toArray⟩, .string ⟨ct.toArray⟩, .string ⟨cu.toArray⟩, .int .u8 (cz : Int), .int .u8 (mc : Int), .string ⟨mt.toArray⟩]) trivial rfl rfl (fun ρ w E H => ex_box E rfl rfl rfl) fun g1 hg1 => ?_
  refine SxL.new (cs := [.int .u8 (xk : Int), .int .u64 (xn : Int), .int .u8 (xr : Int), .int .u64 (xb : Int), .int .u64 (xs : Int), .int .u8 (xo : Int), .string ⟨xv.toArray⟩, .slice C wl.length kc, .slice D jl.length kd, .int .u8 (da : Int), .int .u32 (db : Int), .int .u8 (dk : Int), .string ⟨ds.toArray⟩, .string ⟨dt.toArray⟩, .string ⟨du.toArray⟩, .int .u8 (dz : Int), .int .u8 (xc : Int), .string ⟨xt.toArray⟩]) trivial rfl rfl (fun ρ w E H => ex_box E rfl rfl rfl) fun g2 hg2 => ?_
  refine SxL.val trivial rfl rfl (fun ρ w E H => ex_assign E rfl rfl) ?_
  refine SxL.nil (SxN.then_ (SxC.seq (SxC.seq (SxC.region ?_))))
  refine SxL.val (v := .pointer (some ⟨g1, 7, none⟩)) trivial rfl rfl (fun ρ w E H => ex_field E rfl fa_palaver_api_Msg_6 rfl rfl) ?_
  refine SxL.val trivial rfl rfl (fun ρ w E H => ex_load1 E (H.get (i := 1) rfl) rfl rfl Tryz.underlying25 rfl rfl) ?_
  refine SxL.val (v := .int .i64 (vl.length : Int)) trivial rfl rfl (fun ρ w E H => ex_lenS E rfl Tryz.underlying25 rfl) ?_
  refine SxL.val (v := .pointer (some ⟨g2, 7, none⟩)) trivial rfl rfl (fun ρ w E H => ex_field E rfl fa_palaver_api_Msg_6 rfl rfl) ?_
  refine SxL.val trivial rfl rfl (fun ρ w E H => ex_load1 E (H.get (i := 0) rfl) rfl rfl Tryz.underlying25 rfl rfl) ?_
  refine SxL.val (v := .int .i64 (wl.length : Int)) trivial rfl rfl (fun ρ w E H => ex_lenS E rfl Tryz.underlying25 rfl) ?_
  refine SxL.valB trivial rfl rfl (fun ρ w E H => ex_cmp E rfl rfl rfl rfl rfl) fun c13 hc13 => ?_
  refine SxL.val trivial rfl rfl (fun ρ w E H => ex_move E rfl rfl) ?_
  cases c13
  · refine SxL.val (v := .pointer (some ⟨g1, 8, none⟩)) ⟨_, _, rfl, rfl, rfl⟩ rfl rfl (fun ρ w E H => ex_field E rfl fa_palaver_api_Msg_7 rfl rfl) ?_
    refine SxL.val ⟨_, _, rfl, rfl, rfl⟩ rfl rfl (fun ρ w E H => ex_load1 E (H.get (i := 1) rfl) rfl rfl Tryz.underlying26 rfl rfl) ?_
    refine SxL.val (v := .int .i64 (il.length : Int)) ⟨_, _, rfl, rfl, rfl⟩ rfl rfl (fun ρ w E H => ex_lenS E rfl Tryz.underlying26 rfl) ?_
    refine SxL.val (v := .pointer (some ⟨g2, 8, none⟩)) ⟨_, _, rfl, rfl, rfl⟩ rfl rfl (fun ρ w E H => ex_field E rfl fa_palaver_api_Msg_7 rfl rfl) ?_
    refine SxL.val ⟨_, _, rfl, rfl, rfl⟩ rfl rfl (fun ρ w E H => ex_load1 E (H.get (i := 0) rfl) rfl rfl Tryz.underlying26 rfl rfl) ?_
    refine SxL.val (v := .int .i64 (jl.length : Int)) ⟨_, _, rfl, rfl, rfl⟩ rfl rfl (fun ρ w E H => ex_lenS E rfl Tryz.underlying26 rfl) ?_
    refine SxL.valB ⟨_, _, rfl, rfl, rfl⟩ rfl rfl (fun ρ w E H => ex_cmp E rfl rfl rfl rfl rfl) fun c21 hc21 => ?_
    refine SxL.val trivial rfl rfl (fun ρ w E H => ex_pick E rfl (t := false) rfl rfl) ?_
    refine SxL.nil (SxN.then_ ?_)
    cases c21
    · refine SxC.condF rfl (SxC.skip (SxN.then_ (SxC.seq (SxC.seq (SxC.region ?_)))))
      refine SxL.val trivial rfl rfl (fun ρ w E H => ex_assign E rfl rfl) ?_
      refine SxL.nil (SxN.then_ (SxC.block ?_))
      refine SxC.loop1 (fun (k : Nat) => [(2, .pointer (some ⟨g1, 0, none⟩)), (3, .pointer (some ⟨g2, 0, none⟩)), (5, .int .i64 (k : Int))]) (fun (k : Nat) => [cell g2 33 [.int .u8 (xk : Int), .int .u64 (xn : Int), .int .u8 (xr : Int), .int .u64 (xb : Int), .int .u64 (xs : Int), .int .u8 (xo : Int), .string ⟨xv.toArray⟩, .slice C wl.length kc, .slice D jl.length kd, .int .u8 (da : Int), .int .u32 (db : Int), .int .u8 (dk : Int), .string ⟨ds.toArray⟩, .string ⟨dt.toArray⟩, .string ⟨du.toArray⟩, .int .u8 (dz : Int), .int .u8 (xc : Int), .string ⟨xt.toArray⟩], cell g1 33 [.int .u8 (mk : Int), .int .u64 (mn : Int), .int .u8 (mr : Int), .int .u64 (mb : Int), .int .u64 (ms : Int), .int .u8 (mo : Int), .string ⟨mv.toArray⟩, .slice A vl.length ka, .slice B il.length kb, .int .u8 (ca : Int), .int .u32 (cb : Int), .int .u8 (ck : Int), .string ⟨cs.toArray⟩, .string ⟨ct.toArray⟩, .string ⟨cu.toArray⟩, .int .u8 (cz : Int), .int .u8 (mc : Int), .string ⟨mt.toArray⟩]]) (fun (gk : Nat) (k : Nat) => k + gk = vl.length ∧ vl.take k = wl.take k ∧ vl.length = wl.length) vl.length 0 ⟨by omega, rfl, by have h := hc13; simp [cmpB] at h; omega⟩ ⟨rfl, rfl, rfl, trivial⟩ [0, 1] rfl (by decide) ⟨.inl rfl, .inl rfl, trivial⟩ fun gk k hF => ?_
      obtain ⟨hkg, hrel, hle⟩ := hF
      refine SxC.seq (SxC.seq (SxC.region ?_))
      refine SxL.val trivial rfl rfl (fun ρ w E H => ex_move E rfl rfl) ?_
      refine SxL.val (v := .pointer (some ⟨g1, 7, none⟩)) trivial rfl rfl (fun ρ w E H => ex_field E rfl fa_palaver_api_Msg_6 rfl rfl) ?_
      refine SxL.val trivial rfl rfl (fun ρ w E H => ex_load1 E (H.get (i := 1) rfl) rfl rfl Tryz.underlying25 rfl rfl) ?_
      refine SxL.val (v := .int .i64 (vl.length : Int)) trivial rfl rfl (fun ρ w E H => ex_lenS E rfl Tryz.underlying25 rfl) ?_
      refine SxL.valB trivial rfl rfl (fun ρ w E H => ex_cmp E rfl rfl rfl rfl rfl) fun c27 hc27 => ?_
      refine SxL.nil (SxN.then_ ?_)
      cases c27
      · refine SxC.condF rfl (SxC.exit (SxX.thenE (SxX.thenE (SxX.blockE (SxN.then_ (SxC.seq (SxC.seq ?_)))))))
        have hV : vl = wl := by have h := hc27; simp [cmpB] at h; rw [List.take_of_length_le (by omega), List.take_of_length_le (by omega)] at hrel; exact hrel
        refine SxC.region ?_
        refine SxL.val trivial rfl rfl (fun ρ w E H => ex_assign E rfl rfl) ?_
        refine SxL.nil (SxN.then_ (SxC.block ?_))
        refine SxC.loop1 (fun (k : Nat) => [(2, .pointer (some ⟨g1, 0, none⟩)), (3, .pointer (some ⟨g2, 0, none⟩)), (6, .int .i64 (k : Int))]) (fun (k : Nat) => [cell g2 33 [.int .u8 (xk : Int), .int .u64 (xn : Int), .int .u8 (xr : Int), .int .u64 (xb : Int), .int .u64 (xs : Int), .int .u8 (xo : Int), .string ⟨xv.toArray⟩, .slice C wl.length kc, .slice D jl.length kd, .int .u8 (da : Int), .int .u32 (db : Int), .int .u8 (dk : Int), .string ⟨ds.toArray⟩, .string ⟨dt.toArray⟩, .string ⟨du.toArray⟩, .int .u8 (dz : Int), .int .u8 (xc : Int), .string ⟨xt.toArray⟩], cell g1 33 [.int .u8 (mk : Int), .int .u64 (mn : Int), .int .u8 (mr : Int), .int .u64 (mb : Int), .int .u64 (ms : Int), .int .u8 (mo : Int), .string ⟨mv.toArray⟩, .slice A vl.length ka, .slice B il.length kb, .int .u8 (ca : Int), .int .u32 (cb : Int), .int .u8 (ck : Int), .string ⟨cs.toArray⟩, .string ⟨ct.toArray⟩, .string ⟨cu.toArray⟩, .int .u8 (cz : Int), .int .u8 (mc : Int), .string ⟨mt.toArray⟩]]) (fun (gk : Nat) (k : Nat) => k + gk = il.length ∧ il.take k = jl.take k ∧ il.length = jl.length) il.length 0 ⟨by omega, rfl, by have h := hc21; simp [cmpB] at h; omega⟩ ⟨rfl, rfl, rfl, trivial⟩ [0, 1] rfl (by decide) ⟨.inl rfl, .inl rfl, trivial⟩ fun gk k hF => ?_
        obtain ⟨hkg, hrel, hle⟩ := hF
        refine SxC.seq (SxC.seq (SxC.region ?_))
        refine SxL.val trivial rfl rfl (fun ρ w E H => ex_move E rfl rfl) ?_
        refine SxL.val (v := .pointer (some ⟨g1, 8, none⟩)) trivial rfl rfl (fun ρ w E H => ex_field E rfl fa_palaver_api_Msg_7 rfl rfl) ?_
        refine SxL.val trivial rfl rfl (fun ρ w E H => ex_load1 E (H.get (i := 1) rfl) rfl rfl Tryz.underlying26 rfl rfl) ?_
        refine SxL.val (v := .int .i64 (il.length : Int)) trivial rfl rfl (fun ρ w E H => ex_lenS E rfl Tryz.underlying26 rfl) ?_
        refine SxL.valB trivial rfl rfl (fun ρ w E H => ex_cmp E rfl rfl rfl rfl rfl) fun c45 hc45 => ?_
        refine SxL.nil (SxN.then_ ?_)
        cases c45
        · refine SxC.condF rfl (SxC.exit (SxX.thenE (SxX.thenE (SxX.blockE (SxN.then_ (SxC.seq ?_))))))
          have hI : il = jl := by have h := hc45; simp [cmpB] at h; rw [List.take_of_length_le (by omega), List.take_of_length_le (by omega)] at hrel; exact hrel
          refine SxC.region ?_
          refine SxL.val (v := .pointer (some ⟨g1, 0, none⟩)) trivial rfl rfl (fun ρ w E H => ex_field E rfl fa_palaver_api_Msg_0 rfl rfl) ?_
          refine SxL.val trivial rfl rfl (fun ρ w E H => ex_load1 E (H.get (i := 1) rfl) rfl rfl Tryz.underlying5 rfl rfl) ?_
          refine SxL.val (v := .pointer (some ⟨g2, 0, none⟩)) trivial rfl rfl (fun ρ w E H => ex_field E rfl fa_palaver_api_Msg_0 rfl rfl) ?_
          refine SxL.val trivial rfl rfl (fun ρ w E H => ex_load1 E (H.get (i := 0) rfl) rfl rfl Tryz.underlying5 rfl rfl) ?_
          refine SxL.valB trivial rfl rfl (fun ρ w E H => ex_cmp E rfl rfl rfl rfl rfl) fun c63 hc63 => ?_
          refine SxL.val trivial rfl rfl (fun ρ w E H => ex_move E rfl rfl) ?_
          cases c63
          · refine SxL.off ⟨_, _, _, rfl, rfl, rfl, nofun⟩ rfl rfl ?_
            iterate 4 refine SxL.off ⟨_, _, _, rfl, rfl, rfl, nofun⟩ rfl rfl ?_
            refine SxL.val trivial rfl rfl (fun ρ w E H => ex_pick E rfl (t := false) rfl rfl) ?_
            refine SxL.val trivial rfl rfl (fun ρ w E H => ex_move E rfl rfl) ?_
            iterate 5 refine SxL.off ⟨_, _, _, rfl, rfl, rfl, nofun⟩ rfl rfl ?_
            refine SxL.val trivial rfl rfl (fun ρ w E H => ex_pick E rfl (t := false) rfl rfl) ?_
            refine SxL.val trivial rfl rfl (fun ρ w E H => ex_move E rfl rfl) ?_
            iterate 5 refine SxL.off ⟨_, _, _, rfl, rfl, rfl, nofun⟩ rfl rfl ?_
            refine SxL.val trivial rfl rfl (fun ρ w E H => ex_pick E rfl (t := false) rfl rfl) ?_
            refine SxL.val trivial rfl rfl (fun ρ w E H => ex_move E rfl rfl) ?_
            iterate 5 refine SxL.off ⟨_, _, _, rfl, rfl, rfl, nofun⟩ rfl rfl ?_
            refine SxL.val trivial rfl rfl (fun ρ w E H => ex_pick E rfl (t := false) rfl rfl) ?_
            refine SxL.val trivial rfl rfl (fun ρ w E H => ex_move E rfl rfl) ?_
            iterate 5 refine SxL.off ⟨_, _, _, rfl, rfl, rfl, nofun⟩ rfl rfl ?_
            refine SxL.val trivial rfl rfl (fun ρ w E H => ex_pick E rfl (t := false) rfl rfl) ?_
            refine SxL.val trivial rfl rfl (fun ρ w E H => ex_move E rfl rfl) ?_
            iterate 5 refine SxL.off ⟨_, _, _, rfl, rfl, rfl, nofun⟩ rfl rfl ?_
            refine SxL.val trivial rfl rfl (fun ρ w E H => ex_pick E rfl (t := false) rfl rfl) ?_
            refine SxL.val trivial rfl rfl (fun ρ w E H => ex_move E rfl rfl) ?_
            iterate 5 refine SxL.off ⟨_, _, _, rfl, rfl, rfl, nofun⟩ rfl rfl ?_
            refine SxL.val trivial rfl rfl (fun ρ w E H => ex_pick E rfl (t := false) rfl rfl) ?_
            refine SxL.val trivial rfl rfl (fun ρ w E H => ex_assign E rfl rfl) ?_
            refine SxL.nil (SxN.then_ (SxC.ret ?_))
            refine SxX.done (.bool false) (fun a w K H => res1 K rfl rfl) (fun w H => ?_)
            have hq : false = decide ((⟨mk, mn, mr, mb, ms, mo, mv, vl, il, ⟨ca, cb, ck, cs, ct, cu, cz⟩, mc, mt⟩ : Ms) = ⟨xk, xn, xr, xb, xs, xo, xv, wl, jl, ⟨da, db, dk, ds, dt, du, dz⟩, xc, xt⟩) := by clear H; grind [cmpB]
            exact ⟨by rw [hq], H.toBelow ⟨(fun g hg => by rw [List.mem_singleton.1 hg]; exact hg2), (fun g hg => by rw [List.mem_singleton.1 hg]; exact hg1), trivial⟩⟩
          · refine SxL.val (v := .pointer (some ⟨g1, 1, none⟩)) ⟨_, _, rfl, rfl, rfl⟩ rfl rfl (fun ρ w E H => ex_field E rfl fa_palaver_api_Msg_1 rfl rfl) ?_
            refine SxL.val ⟨_, _, rfl, rfl, rfl⟩ rfl rfl (fun ρ w E H => ex_load (part := [.int .u64 (mn : Int), .int .u8 (mr : Int)]) E (H.get (i := 1) rfl) rfl rfl Tryz.underlying24 rfl sz_palaver_api_Ballot rfl rfl) ?_
            refine SxL.val (v := .pointer (some ⟨g2, 1, none⟩)) ⟨_, _, rfl, rfl, rfl⟩ rfl rfl (fun ρ w E H => ex_field E rfl fa_palaver_api_Msg_1 rfl rfl) ?_
            refine SxL.val ⟨_, _, rfl, rfl, rfl⟩ rfl rfl (fun ρ w E H => ex_load (part := [.int .u64 (xn : Int), .int .u8 (xr : Int)]) E (H.get (i := 0) rfl) rfl rfl Tryz.underlying24 rfl sz_palaver_api_Ballot rfl rfl) ?_
            refine SxL.valB ⟨_, _, rfl, rfl, rfl⟩ rfl rfl (fun ρ w E H => ex_aeql E rfl (by kernel_rfl) rfl rfl (fun w => eq_bal mn mr xn xr w)) fun c69 hc69 => ?_
            refine SxL.val trivial rfl rfl (fun ρ w E H => ex_pick E rfl (t := true) rfl rfl) ?_
            refine SxL.val trivial rfl rfl (fun ρ w E H => ex_move E rfl rfl) ?_
            cases c69
            · refine SxL.off ⟨_, _, _, rfl, rfl, rfl, nofun⟩ rfl rfl ?_
              iterate 4 refine SxL.off ⟨_, _, _, rfl, rfl, rfl, nofun⟩ rfl rfl ?_
              refine SxL.val trivial rfl rfl (fun ρ w E H => ex_pick E rfl (t := false) rfl rfl) ?_
              refine SxL.val trivial rfl rfl (fun ρ w E H => ex_move E rfl rfl) ?_
              iterate 5 refine SxL.off ⟨_, _, _, rfl, rfl, rfl, nofun⟩ rfl rfl ?_
              refine SxL.val trivial rfl rfl (fun ρ w E H => ex_pick E rfl (t := false) rfl rfl) ?_
              refine SxL.val trivial rfl rfl (fun ρ w E H => ex_move E rfl rfl) ?_
              iterate 5 refine SxL.off ⟨_, _, _, rfl, rfl, rfl, nofun⟩ rfl rfl ?_
              refine SxL.val trivial rfl rfl (fun ρ w E H => ex_pick E rfl (t := false) rfl rfl) ?_
              refine SxL.val trivial rfl rfl (fun ρ w E H => ex_move E rfl rfl) ?_
              iterate 5 refine SxL.off ⟨_, _, _, rfl, rfl, rfl, nofun⟩ rfl rfl ?_
              refine SxL.val trivial rfl rfl (fun ρ w E H => ex_pick E rfl (t := false) rfl rfl) ?_
              refine SxL.val trivial rfl rfl (fun ρ w E H => ex_move E rfl rfl) ?_
              iterate 5 refine SxL.off ⟨_, _, _, rfl, rfl, rfl, nofun⟩ rfl rfl ?_
              refine SxL.val trivial rfl rfl (fun ρ w E H => ex_pick E rfl (t := false) rfl rfl) ?_
              refine SxL.val trivial rfl rfl (fun ρ w E H => ex_move E rfl rfl) ?_
              iterate 5 refine SxL.off ⟨_, _, _, rfl, rfl, rfl, nofun⟩ rfl rfl ?_
              refine SxL.val trivial rfl rfl (fun ρ w E H => ex_pick E rfl (t := false) rfl rfl) ?_
              refine SxL.val trivial rfl rfl (fun ρ w E H => ex_assign E rfl rfl) ?_
              refine SxL.nil (SxN.then_ (SxC.ret ?_))
              refine SxX.done (.bool false) (fun a w K H => res1 K rfl rfl) (fun w H => ?_)
              have hq : false = decide ((⟨mk, mn, mr, mb, ms, mo, mv, vl, il, ⟨ca, cb, ck, cs, ct, cu, cz⟩, mc, mt⟩ : Ms) = ⟨xk, xn, xr, xb, xs, xo, xv, wl, jl, ⟨da, db, dk, ds, dt, du, dz⟩, xc, xt⟩) := by clear H; grind [cmpB]
              exact ⟨by rw [hq], H.toBelow ⟨(fun g hg => by rw [List.mem_singleton.1 hg]; exact hg2), (fun g hg => by rw [List.mem_singleton.1 hg]; exact hg1), trivial⟩⟩
            · refine SxL.val (v := .pointer (some ⟨g1, 3, none⟩)) ⟨_, _, rfl, rfl, rfl⟩ rfl rfl (fun ρ w E H => ex_field E rfl fa_palaver_api_Msg_2 rfl rfl) ?_
              refine SxL.val ⟨_, _, rfl, rfl, rfl⟩ rfl rfl (fun ρ w E H => ex_load1 E (H.get (i := 1) rfl) rfl rfl Tryz.underlying22 rfl rfl) ?_
              refine SxL.val (v := .pointer (some ⟨g2, 3, none⟩)) ⟨_, _, rfl, rfl, rfl⟩ rfl rfl (fun ρ w E H => ex_field E rfl fa_palaver_api_Msg_2 rfl rfl) ?_
              refine SxL.val ⟨_, _, rfl, rfl, rfl⟩ rfl rfl (fun ρ w E H => ex_load1 E (H.get (i := 0) rfl) rfl rfl Tryz.underlying22 rfl rfl) ?_
              refine SxL.valB ⟨_, _, rfl, rfl, rfl⟩ rfl rfl (fun ρ w E H => ex_cmp E rfl rfl rfl rfl rfl) fun c76 hc76 => ?_
              refine SxL.val trivial rfl rfl (fun ρ w E H => ex_pick E rfl (t := true) rfl rfl) ?_
              refine SxL.val trivial rfl rfl (fun ρ w E H => ex_move E rfl rfl) ?_
              cases c76
              · refine SxL.off ⟨_, _, _, rfl, rfl, rfl, nofun⟩ rfl rfl ?_
                iterate 4 refine SxL.off ⟨_, _, _, rfl, rfl, rfl, nofun⟩ rfl rfl ?_
                refine SxL.val trivial rfl rfl (fun ρ w E H => ex_pick E rfl (t := false) rfl rfl) ?_
                refine SxL.val trivial rfl rfl (fun ρ w E H => ex_move E rfl rfl) ?_
                iterate 5 refine SxL.off ⟨_, _, _, rfl, rfl, rfl, nofun⟩ rfl rfl ?_
                refine SxL.val trivial rfl rfl (fun ρ w E H => ex_pick E rfl (t := false) rfl rfl) ?_
                refine SxL.val trivial rfl rfl (fun ρ w E H => ex_move E rfl rfl) ?_
                iterate 5 refine SxL.off ⟨_, _, _, rfl, rfl, rfl, nofun⟩ rfl rfl ?_
                refine SxL.val trivial rfl rfl (fun ρ w E H => ex_pick E rfl (t := false) rfl rfl) ?_
                refine SxL.val trivial rfl rfl (fun ρ w E H => ex_move E rfl rfl) ?_
                iterate 5 refine SxL.off ⟨_, _, _, rfl, rfl, rfl, nofun⟩ rfl rfl ?_
                refine SxL.val trivial rfl rfl (fun ρ w E H => ex_pick E rfl (t := false) rfl rfl) ?_
                refine SxL.val trivial rfl rfl (fun ρ w E H => ex_move E rfl rfl) ?_
                iterate 5 refine SxL.off ⟨_, _, _, rfl, rfl, rfl, nofun⟩ rfl rfl ?_
                refine SxL.val trivial rfl rfl (fun ρ w E H => ex_pick E rfl (t := false) rfl rfl) ?_
                refine SxL.val trivial rfl rfl (fun ρ w E H => ex_assign E rfl rfl) ?_
                refine SxL.nil (SxN.then_ (SxC.ret ?_))
                refine SxX.done (.bool false) (fun a w K H => res1 K rfl rfl) (fun w H => ?_)
                have hq : false = decide ((⟨mk, mn, mr, mb, ms, mo, mv, vl, il, ⟨ca, cb, ck, cs, ct, cu, cz⟩, mc, mt⟩ : Ms) = ⟨xk, xn, xr, xb, xs, xo, xv, wl, jl, ⟨da, db, dk, ds, dt, du, dz⟩, xc, xt⟩) := by clear H; grind [cmpB]
                exact ⟨by rw [hq], H.toBelow ⟨(fun g hg => by rw [List.mem_singleton.1 hg]; exact hg2), (fun g hg => by rw [List.mem_singleton.1 hg]; exact hg1), trivial⟩⟩
              · refine SxL.val (v := .pointer (some ⟨g1, 4, none⟩)) ⟨_, _, rfl, rfl, rfl⟩ rfl rfl (fun ρ w E H => ex_field E rfl fa_palaver_api_Msg_3 rfl rfl) ?_
                refine SxL.val ⟨_, _, rfl, rfl, rfl⟩ rfl rfl (fun ρ w E H => ex_load1 E (H.get (i := 1) rfl) rfl rfl Tryz.underlying22 rfl rfl) ?_
                refine SxL.val (v := .pointer (some ⟨g2, 4, none⟩)) ⟨_, _, rfl, rfl, rfl⟩ rfl rfl (fun ρ w E H => ex_field E rfl fa_palaver_api_Msg_3 rfl rfl) ?_
                refine SxL.val ⟨_, _, rfl, rfl, rfl⟩ rfl rfl (fun ρ w E H => ex_load1 E (H.get (i := 0) rfl) rfl rfl Tryz.underlying22 rfl rfl) ?_
                refine SxL.valB ⟨_, _, rfl, rfl, rfl⟩ rfl rfl (fun ρ w E H => ex_cmp E rfl rfl rfl rfl rfl) fun c83 hc83 => ?_
                refine SxL.val trivial rfl rfl (fun ρ w E H => ex_pick E rfl (t := true) rfl rfl) ?_
                refine SxL.val trivial rfl rfl (fun ρ w E H => ex_move E rfl rfl) ?_
                cases c83
                · refine SxL.off ⟨_, _, _, rfl, rfl, rfl, nofun⟩ rfl rfl ?_
                  iterate 4 refine SxL.off ⟨_, _, _, rfl, rfl, rfl, nofun⟩ rfl rfl ?_
                  refine SxL.val trivial rfl rfl (fun ρ w E H => ex_pick E rfl (t := false) rfl rfl) ?_
                  refine SxL.val trivial rfl rfl (fun ρ w E H => ex_move E rfl rfl) ?_
                  iterate 5 refine SxL.off ⟨_, _, _, rfl, rfl, rfl, nofun⟩ rfl rfl ?_
                  refine SxL.val trivial rfl rfl (fun ρ w E H => ex_pick E rfl (t := false) rfl rfl) ?_
                  refine SxL.val trivial rfl rfl (fun ρ w E H => ex_move E rfl rfl) ?_
                  iterate 5 refine SxL.off ⟨_, _, _, rfl, rfl, rfl, nofun⟩ rfl rfl ?_
                  refine SxL.val trivial rfl rfl (fun ρ w E H => ex_pick E rfl (t := false) rfl rfl) ?_
                  refine SxL.val trivial rfl rfl (fun ρ w E H => ex_move E rfl rfl) ?_
                  iterate 5 refine SxL.off ⟨_, _, _, rfl, rfl, rfl, nofun⟩ rfl rfl ?_
                  refine SxL.val trivial rfl rfl (fun ρ w E H => ex_pick E rfl (t := false) rfl rfl) ?_
                  refine SxL.val trivial rfl rfl (fun ρ w E H => ex_assign E rfl rfl) ?_
                  refine SxL.nil (SxN.then_ (SxC.ret ?_))
                  refine SxX.done (.bool false) (fun a w K H => res1 K rfl rfl) (fun w H => ?_)
                  have hq : false = decide ((⟨mk, mn, mr, mb, ms, mo, mv, vl, il, ⟨ca, cb, ck, cs, ct, cu, cz⟩, mc, mt⟩ : Ms) = ⟨xk, xn, xr, xb, xs, xo, xv, wl, jl, ⟨da, db, dk, ds, dt, du, dz⟩, xc, xt⟩) := by clear H; grind [cmpB]
                  exact ⟨by rw [hq], H.toBelow ⟨(fun g hg => by rw [List.mem_singleton.1 hg]; exact hg2), (fun g hg => by rw [List.mem_singleton.1 hg]; exact hg1), trivial⟩⟩
                · refine SxL.val (v := .pointer (some ⟨g1, 5, none⟩)) ⟨_, _, rfl, rfl, rfl⟩ rfl rfl (fun ρ w E H => ex_field E rfl fa_palaver_api_Msg_4 rfl rfl) ?_
                  refine SxL.val ⟨_, _, rfl, rfl, rfl⟩ rfl rfl (fun ρ w E H => ex_load1 E (H.get (i := 1) rfl) rfl rfl Tryz.underlying5 rfl rfl) ?_
                  refine SxL.val (v := .pointer (some ⟨g2, 5, none⟩)) ⟨_, _, rfl, rfl, rfl⟩ rfl rfl (fun ρ w E H => ex_field E rfl fa_palaver_api_Msg_4 rfl rfl) ?_
                  refine SxL.val ⟨_, _, rfl, rfl, rfl⟩ rfl rfl (fun ρ w E H => ex_load1 E (H.get (i := 0) rfl) rfl rfl Tryz.underlying5 rfl rfl) ?_
                  refine SxL.valB ⟨_, _, rfl, rfl, rfl⟩ rfl rfl (fun ρ w E H => ex_cmp E rfl rfl rfl rfl rfl) fun c90 hc90 => ?_
                  refine SxL.val trivial rfl rfl (fun ρ w E H => ex_pick E rfl (t := true) rfl rfl) ?_
                  refine SxL.val trivial rfl rfl (fun ρ w E H => ex_move E rfl rfl) ?_
                  cases c90
                  · refine SxL.off ⟨_, _, _, rfl, rfl, rfl, nofun⟩ rfl rfl ?_
                    iterate 4 refine SxL.off ⟨_, _, _, rfl, rfl, rfl, nofun⟩ rfl rfl ?_
                    refine SxL.val trivial rfl rfl (fun ρ w E H => ex_pick E rfl (t := false) rfl rfl) ?_
                    refine SxL.val trivial rfl rfl (fun ρ w E H => ex_move E rfl rfl) ?_
                    iterate 5 refine SxL.off ⟨_, _, _, rfl, rfl, rfl, nofun⟩ rfl rfl ?_
                    refine SxL.val trivial rfl rfl (fun ρ w E H => ex_pick E rfl (t := false) rfl rfl) ?_
                    refine SxL.val trivial rfl rfl (fun ρ w E H => ex_move E rfl rfl) ?_
                    iterate 5 refine SxL.off ⟨_, _, _, rfl, rfl, rfl, nofun⟩ rfl rfl ?_
                    refine SxL.val trivial rfl rfl (fun ρ w E H => ex_pick E rfl (t := false) rfl rfl) ?_
                    refine SxL.val trivial rfl rfl (fun ρ w E H => ex_assign E rfl rfl) ?_
                    refine SxL.nil (SxN.then_ (SxC.ret ?_))
                    refine SxX.done (.bool false) (fun a w K H => res1 K rfl rfl) (fun w H => ?_)
                    have hq : false = decide ((⟨mk, mn, mr, mb, ms, mo, mv, vl, il, ⟨ca, cb, ck, cs, ct, cu, cz⟩, mc, mt⟩ : Ms) = ⟨xk, xn, xr, xb, xs, xo, xv, wl, jl, ⟨da, db, dk, ds, dt, du, dz⟩, xc, xt⟩) := by clear H; grind [cmpB]
                    exact ⟨by rw [hq], H.toBelow ⟨(fun g hg => by rw [List.mem_singleton.1 hg]; exact hg2), (fun g hg => by rw [List.mem_singleton.1 hg]; exact hg1), trivial⟩⟩
                  · refine SxL.val (v := .pointer (some ⟨g1, 6, none⟩)) ⟨_, _, rfl, rfl, rfl⟩ rfl rfl (fun ρ w E H => ex_field E rfl fa_palaver_api_Msg_5 rfl rfl) ?_
                    refine SxL.val ⟨_, _, rfl, rfl, rfl⟩ rfl rfl (fun ρ w E H => ex_load1 E (H.get (i := 1) rfl) rfl rfl Tryz.underlying9 rfl rfl) ?_
                    refine SxL.val (v := .pointer (some ⟨g2, 6, none⟩)) ⟨_, _, rfl, rfl, rfl⟩ rfl rfl (fun ρ w E H => ex_field E rfl fa_palaver_api_Msg_5 rfl rfl) ?_
                    refine SxL.val ⟨_, _, rfl, rfl, rfl⟩ rfl rfl (fun ρ w E H => ex_load1 E (H.get (i := 0) rfl) rfl rfl Tryz.underlying9 rfl rfl) ?_
                    refine SxL.valB ⟨_, _, rfl, rfl, rfl⟩ rfl rfl (fun ρ w E H => ex_seql E rfl rfl rfl rfl) fun c97 hc97 => ?_
                    refine SxL.val trivial rfl rfl (fun ρ w E H => ex_pick E rfl (t := true) rfl rfl) ?_
                    refine SxL.val trivial rfl rfl (fun ρ w E H => ex_move E rfl rfl) ?_
                    cases c97
                    · refine SxL.off ⟨_, _, _, rfl, rfl, rfl, nofun⟩ rfl rfl ?_
                      iterate 4 refine SxL.off ⟨_, _, _, rfl, rfl, rfl, nofun⟩ rfl rfl ?_
                      refine SxL.val trivial rfl rfl (fun ρ w E H => ex_pick E rfl (t := false) rfl rfl) ?_
                      refine SxL.val trivial rfl rfl (fun ρ w E H => ex_move E rfl rfl) ?_
                      iterate 5 refine SxL.off ⟨_, _, _, rfl, rfl, rfl, nofun⟩ rfl rfl ?_
                      refine SxL.val trivial rfl rfl (fun ρ w E H => ex_pick E rfl (t := false) rfl rfl) ?_
                      refine SxL.val trivial rfl rfl (fun ρ w E H => ex_assign E rfl rfl) ?_
                      refine SxL.nil (SxN.then_ (SxC.ret ?_))
                      refine SxX.done (.bool false) (fun a w K H => res1 K rfl rfl) (fun w H => ?_)
                      have hq : false = decide ((⟨mk, mn, mr, mb, ms, mo, mv, vl, il, ⟨ca, cb, ck, cs, ct, cu, cz⟩, mc, mt⟩ : Ms) = ⟨xk, xn, xr, xb, xs, xo, xv, wl, jl, ⟨da, db, dk, ds, dt, du, dz⟩, xc, xt⟩) := by clear H; grind [cmpB]
                      exact ⟨by rw [hq], H.toBelow ⟨(fun g hg => by rw [List.mem_singleton.1 hg]; exact hg2), (fun g hg => by rw [List.mem_singleton.1 hg]; exact hg1), trivial⟩⟩
                    · refine SxL.val (v := .pointer (some ⟨g1, 9, none⟩)) ⟨_, _, rfl, rfl, rfl⟩ rfl rfl (fun ρ w E H => ex_field E rfl fa_palaver_api_Msg_8 rfl rfl) ?_
                      refine SxL.val ⟨_, _, rfl, rfl, rfl⟩ rfl rfl (fun ρ w E H => ex_load (part := [.int .u8 (ca : Int), .int .u32 (cb : Int), .int .u8 (ck : Int), .string ⟨cs.toArray⟩, .string ⟨ct.toArray⟩, .string ⟨cu.toArray⟩, .int .u8 (cz : Int)]) E (H.get (i := 1) rfl) rfl rfl Tryz.underlying29 rfl sz_palaver_api_Cmd rfl rfl) ?_
                      refine SxL.val (v := .pointer (some ⟨g2, 9, none⟩)) ⟨_, _, rfl, rfl, rfl⟩ rfl rfl (fun ρ w E H => ex_field E rfl fa_palaver_api_Msg_8 rfl rfl) ?_
                      refine SxL.val ⟨_, _, rfl, rfl, rfl⟩ rfl rfl (fun ρ w E H => ex_load (part := [.int .u8 (da : Int), .int .u32 (db : Int), .int .u8 (dk : Int), .string ⟨ds.toArray⟩, .string ⟨dt.toArray⟩, .string ⟨du.toArray⟩, .int .u8 (dz : Int)]) E (H.get (i := 0) rfl) rfl rfl Tryz.underlying29 rfl sz_palaver_api_Cmd rfl rfl) ?_
                      refine SxL.valB ⟨_, _, rfl, rfl, rfl⟩ rfl rfl (fun ρ w E H => ex_aeql E rfl (by kernel_rfl) rfl rfl (fun w => eq_cm (⟨ca, cb, ck, cs, ct, cu, cz⟩ : Cmd.Cm) ⟨da, db, dk, ds, dt, du, dz⟩ w)) fun c104 hc104 => ?_
                      refine SxL.val trivial rfl rfl (fun ρ w E H => ex_pick E rfl (t := true) rfl rfl) ?_
                      refine SxL.val trivial rfl rfl (fun ρ w E H => ex_move E rfl rfl) ?_
                      cases c104
                      · refine SxL.off ⟨_, _, _, rfl, rfl, rfl, nofun⟩ rfl rfl ?_
                        iterate 4 refine SxL.off ⟨_, _, _, rfl, rfl, rfl, nofun⟩ rfl rfl ?_
                        refine SxL.val trivial rfl rfl (fun ρ w E H => ex_pick E rfl (t := false) rfl rfl) ?_
                        refine SxL.val trivial rfl rfl (fun ρ w E H => ex_assign E rfl rfl) ?_
                        refine SxL.nil (SxN.then_ (SxC.ret ?_))
                        refine SxX.done (.bool false) (fun a w K H => res1 K rfl rfl) (fun w H => ?_)
                        have hq : false = decide ((⟨mk, mn, mr, mb, ms, mo, mv, vl, il, ⟨ca, cb, ck, cs, ct, cu, cz⟩, mc, mt⟩ : Ms) = ⟨xk, xn, xr, xb, xs, xo, xv, wl, jl, ⟨da, db, dk, ds, dt, du, dz⟩, xc, xt⟩) := by clear H; grind [cmpB]
                        exact ⟨by rw [hq], H.toBelow ⟨(fun g hg => by rw [List.mem_singleton.1 hg]; exact hg2), (fun g hg => by rw [List.mem_singleton.1 hg]; exact hg1), trivial⟩⟩
                      · refine SxL.val (v := .pointer (some ⟨g1, 16, none⟩)) ⟨_, _, rfl, rfl, rfl⟩ rfl rfl (fun ρ w E H => ex_field E rfl fa_palaver_api_Msg_9 rfl rfl) ?_
                        refine SxL.val ⟨_, _, rfl, rfl, rfl⟩ rfl rfl (fun ρ w E H => ex_load (part := [.int .u8 (mc : Int), .string ⟨mt.toArray⟩]) E (H.get (i := 1) rfl) rfl rfl Tryz.underlying31 rfl sz_palaver_api_Reply rfl rfl) ?_
                        refine SxL.val (v := .pointer (some ⟨g2, 16, none⟩)) ⟨_, _, rfl, rfl, rfl⟩ rfl rfl (fun ρ w E H => ex_field E rfl fa_palaver_api_Msg_9 rfl rfl) ?_
                        refine SxL.val ⟨_, _, rfl, rfl, rfl⟩ rfl rfl (fun ρ w E H => ex_load (part := [.int .u8 (xc : Int), .string ⟨xt.toArray⟩]) E (H.get (i := 0) rfl) rfl rfl Tryz.underlying31 rfl sz_palaver_api_Reply rfl rfl) ?_
                        refine SxL.valB ⟨_, _, rfl, rfl, rfl⟩ rfl rfl (fun ρ w E H => ex_aeql E rfl (by kernel_rfl) rfl rfl (fun w => eq_ry mc xc mt xt w)) fun c111 hc111 => ?_
                        refine SxL.val trivial rfl rfl (fun ρ w E H => ex_pick E rfl (t := true) rfl rfl) ?_
                        refine SxL.val trivial rfl rfl (fun ρ w E H => ex_assign E rfl rfl) ?_
                        refine SxL.nil (SxN.then_ (SxC.ret ?_))
                        refine SxX.done (.bool c111) (fun a w K H => res1 K rfl rfl) (fun w H => ?_)
                        have hq : c111 = decide ((⟨mk, mn, mr, mb, ms, mo, mv, vl, il, ⟨ca, cb, ck, cs, ct, cu, cz⟩, mc, mt⟩ : Ms) = ⟨xk, xn, xr, xb, xs, xo, xv, wl, jl, ⟨da, db, dk, ds, dt, du, dz⟩, xc, xt⟩) := by
                          clear H hrel
                          have e1 : mk = xk ∧ mb = xb ∧ ms = xs ∧ mo = xo ∧ mn = xn ∧ mr = xr ∧ mv = xv := by clear hc104 hc111; grind [cmpB]
                          obtain ⟨rfl, rfl, rfl, rfl, rfl, rfl, rfl⟩ := e1
                          subst hV hI
                          have e2 := of_decide_eq_true hc104
                          injection e2 with f1 f2 f3 f4 f5 f6 f7
                          subst f1 f2 f3 f4 f5 f6 f7
                          rw [← hc111]
                          apply Bool.eq_iff_iff.2
                          simp
                        exact ⟨by rw [hq], H.toBelow ⟨(fun g hg => by rw [List.mem_singleton.1 hg]; exact hg2), (fun g hg => by rw [List.mem_singleton.1 hg]; exact hg1), trivial⟩⟩
        · refine SxC.condT rfl (SxC.skip (SxN.then_ (SxC.seq (SxC.block (SxC.seq ?_)))))
          have hkl : k < il.length := by have h := hc45; simp [cmpB] at h; omega
          have hkl2 : k < jl.length := by omega
          obtain ⟨x, hx⟩ : ∃ x, il[k]? = some x := ⟨_, List.getElem?_eq_getElem hkl⟩
          obtain ⟨y, hy⟩ : ∃ x, jl[k]? = some x := ⟨_, List.getElem?_eq_getElem hkl2⟩
          obtain ⟨a1, rfl, -, -⟩ := hi.row hx
          obtain ⟨a2, rfl, -, -⟩ := hi2.row hy
          refine SxC.drawnK [] [0, 1] (by kernel_rfl) rfl ⟨(fun g hg => by rw [List.mem_singleton.1 hg]; exact .inr hg2), (fun g hg => by rw [List.mem_singleton.1 hg]; exact .inr hg1), trivial⟩ ?_
          refine SxA.take (i := 0) (v := .pointer (some ⟨g1, 8, none⟩)) rfl (by kernel_rfl) (by kernel_rfl) (by kernel_rfl) rfl rfl (fun _ _ _ h => h) trivial (fun ρ w E H => ex_field E rfl fa_palaver_api_Msg_7 rfl rfl) ?_
          refine SxA.take (i := 1) rfl (by kernel_rfl) (by kernel_rfl) (by kernel_rfl) rfl rfl (fun _ _ _ h => h) trivial (fun ρ w E H => ex_load1 E (H.get (i := 1) rfl) rfl rfl Tryz.underlying26 rfl rfl) ?_
          refine SxA.take (i := 2) rfl (by kernel_rfl) (by kernel_rfl) (by kernel_rfl) rfl rfl (fun _ _ _ h => h) trivial (fun ρ w E H => ex_move E rfl rfl) ?_
          refine SxA.take (i := 3) (v := .pointer (some (a1.add (k * 2)))) rfl (by kernel_rfl) (by kernel_rfl) (by kernel_rfl) rfl rfl (fun _ _ _ h => h) trivial (fun ρ w E H => ex_index (i := k) E rfl Tryz.underlying26 sz_palaver_api_Item rfl rfl hkl) ?_
          refine SxA.take (i := 4) (v := .agg #[.int .u64 (x.slot : Int), .string ⟨x.value.toArray⟩]) rfl (by kernel_rfl) (by kernel_rfl) (by kernel_rfl) rfl rfl (fun _ _ _ h => h) trivial (fun ρ w E H => ex_loadX (cs := [.int .u64 (x.slot : Int), .string ⟨x.value.toArray⟩]) E ((hi.below (H.os.below (Nat.le_refl _) (by simp))).rowA hx) rfl rfl Tryz.underlying94 rfl sz_palaver_api_Item) ?_
          refine SxA.take (i := 5) (v := .pointer (some ⟨g2, 8, none⟩)) rfl (by kernel_rfl) (by kernel_rfl) (by kernel_rfl) rfl rfl (fun _ _ _ h => h) trivial (fun ρ w E H => ex_field E rfl fa_palaver_api_Msg_7 rfl rfl) ?_
          refine SxA.take (i := 6) rfl (by kernel_rfl) (by kernel_rfl) (by kernel_rfl) rfl rfl (fun _ _ _ h => h) trivial (fun ρ w E H => ex_load1 E (H.get (i := 0) rfl) rfl rfl Tryz.underlying26 rfl rfl) ?_
          refine SxA.take (i := 7) rfl (by kernel_rfl) (by kernel_rfl) (by kernel_rfl) rfl rfl (fun _ _ _ h => h) trivial (fun ρ w E H => ex_move E rfl rfl) ?_
          refine SxA.take (i := 8) (v := .pointer (some (a2.add (k * 2)))) rfl (by kernel_rfl) (by kernel_rfl) (by kernel_rfl) rfl rfl (fun _ _ _ h => h) trivial (fun ρ w E H => ex_index (i := k) E rfl Tryz.underlying26 sz_palaver_api_Item rfl rfl hkl2) ?_
          refine SxA.take (i := 9) (v := .agg #[.int .u64 (y.slot : Int), .string ⟨y.value.toArray⟩]) rfl (by kernel_rfl) (by kernel_rfl) (by kernel_rfl) rfl rfl (fun _ _ _ h => h) trivial (fun ρ w E H => ex_loadX (cs := [.int .u64 (y.slot : Int), .string ⟨y.value.toArray⟩]) E ((hi2.below (H.os.below (Nat.le_refl _) (by simp))).rowA hy) rfl rfl Tryz.underlying94 rfl sz_palaver_api_Item) ?_
          refine SxA.takeB (i := 10) rfl (by kernel_rfl) (by kernel_rfl) (by kernel_rfl) rfl rfl (fun _ _ _ h => h) trivial (fun ρ w E H => ex_aneq E rfl (by kernel_rfl) rfl rfl (fun w => by rw [Bool.not_not]; exact eq_im x y w)) fun c58 hc58 => ?_
          refine SxA.done (by kernel_rfl) ?_
          refine SxN.then_ ?_
          cases c58
          · refine SxC.condF rfl (SxC.skip (SxN.block (SxN.then_ (SxC.region ?_))))
            refine SxL.val trivial rfl rfl (fun ρ w E H => ex_move E rfl rfl) ?_
            refine SxL.val (v := .int .i64 ((k + 1 : Nat) : Int)) trivial rfl rfl (fun ρ w E H => ex_add E rfl rfl rfl (by rw [IntKind.wrap_i64]; omega)) ?_
            refine SxL.val trivial rfl rfl (fun ρ w E H => ex_assign E rfl rfl) ?_
            refine SxL.nil ?_
            refine SxN.back (gk - 1) (k + 1) (by omega) ⟨by omega, by rw [take_snoc hx, take_snoc hy, hrel]; have h24 : x = y := (by simpa using hc58); rw [h24], hle⟩ ⟨rfl, rfl, rfl, trivial⟩ [0, 1] rfl (by decide) ⟨.inl rfl, .inl rfl, trivial⟩
          · refine SxC.condT rfl (SxC.seq (SxC.region ?_))
            refine SxL.val trivial rfl rfl (fun ρ w E H => ex_assign E rfl rfl) ?_
            refine SxL.nil (SxN.then_ (SxC.ret (SxX.blockR (SxX.thenR (SxX.thenR (SxX.blockR (SxX.thenR ?_)))))))
            refine SxX.done (.bool false) (fun a w K H => res1 K rfl rfl) (fun w H => ?_)
            have hq : false = decide ((⟨mk, mn, mr, mb, ms, mo, mv, vl, il, ⟨ca, cb, ck, cs, ct, cu, cz⟩, mc, mt⟩ : Ms) = ⟨xk, xn, xr, xb, xs, xo, xv, wl, jl, ⟨da, db, dk, ds, dt, du, dz⟩, xc, xt⟩) := by clear H; grind [cmpB]
            exact ⟨by rw [hq], H.toBelow ⟨(fun g hg => by rw [List.mem_singleton.1 hg]; exact hg2), (fun g hg => by rw [List.mem_singleton.1 hg]; exact hg1), trivial⟩⟩
      · refine SxC.condT rfl (SxC.skip (SxN.then_ (SxC.seq (SxC.block (SxC.seq ?_)))))
        have hkl : k < vl.length := by have h := hc27; simp [cmpB] at h; omega
        have hkl2 : k < wl.length := by omega
        obtain ⟨x, hx⟩ : ∃ x, vl[k]? = some x := ⟨_, List.getElem?_eq_getElem hkl⟩
        obtain ⟨y, hy⟩ : ∃ x, wl[k]? = some x := ⟨_, List.getElem?_eq_getElem hkl2⟩
        obtain ⟨a1, rfl, -, -⟩ := hv.row hx
        obtain ⟨a2, rfl, -, -⟩ := hv2.row hy
        refine SxC.drawnK [] [0, 1] (by kernel_rfl) rfl ⟨(fun g hg => by rw [List.mem_singleton.1 hg]; exact .inr hg2), (fun g hg => by rw [List.mem_singleton.1 hg]; exact .inr hg1), trivial⟩ ?_
        refine SxA.take (i := 0) (v := .pointer (some ⟨g1, 7, none⟩)) rfl (by kernel_rfl) (by kernel_rfl) (by kernel_rfl) rfl rfl (fun _ _ _ h => h) trivial (fun ρ w E H => ex_field E rfl fa_palaver_api_Msg_6 rfl rfl) ?_
        refine SxA.take (i := 1) rfl (by kernel_rfl) (by kernel_rfl) (by kernel_rfl) rfl rfl (fun _ _ _ h => h) trivial (fun ρ w E H => ex_load1 E (H.get (i := 1) rfl) rfl rfl Tryz.underlying25 rfl rfl) ?_
        refine SxA.take (i := 2) rfl (by kernel_rfl) (by kernel_rfl) (by kernel_rfl) rfl rfl (fun _ _ _ h => h) trivial (fun ρ w E H => ex_move E rfl rfl) ?_
        refine SxA.take (i := 3) (v := .pointer (some (a1.add (k * 4)))) rfl (by kernel_rfl) (by kernel_rfl) (by kernel_rfl) rfl rfl (fun _ _ _ h => h) trivial (fun ρ w E H => ex_index (i := k) E rfl Tryz.underlying25 sz_palaver_api_Vote rfl rfl hkl) ?_
        refine SxA.take (i := 4) (v := .agg #[.int .u64 (x.slot : Int), .int .u64 (x.n : Int), .int .u8 (x.r : Int), .string ⟨x.value.toArray⟩]) rfl (by kernel_rfl) (by kernel_rfl) (by kernel_rfl) rfl rfl (fun _ _ _ h => h) trivial (fun ρ w E H => ex_loadX (cs := [.int .u64 (x.slot : Int), .int .u64 (x.n : Int), .int .u8 (x.r : Int), .string ⟨x.value.toArray⟩]) E ((hv.below (H.os.below (Nat.le_refl _) (by simp))).rowA hx) rfl rfl Tryz.underlying92 rfl sz_palaver_api_Vote) ?_
        refine SxA.take (i := 5) (v := .pointer (some ⟨g2, 7, none⟩)) rfl (by kernel_rfl) (by kernel_rfl) (by kernel_rfl) rfl rfl (fun _ _ _ h => h) trivial (fun ρ w E H => ex_field E rfl fa_palaver_api_Msg_6 rfl rfl) ?_
        refine SxA.take (i := 6) rfl (by kernel_rfl) (by kernel_rfl) (by kernel_rfl) rfl rfl (fun _ _ _ h => h) trivial (fun ρ w E H => ex_load1 E (H.get (i := 0) rfl) rfl rfl Tryz.underlying25 rfl rfl) ?_
        refine SxA.take (i := 7) rfl (by kernel_rfl) (by kernel_rfl) (by kernel_rfl) rfl rfl (fun _ _ _ h => h) trivial (fun ρ w E H => ex_move E rfl rfl) ?_
        refine SxA.take (i := 8) (v := .pointer (some (a2.add (k * 4)))) rfl (by kernel_rfl) (by kernel_rfl) (by kernel_rfl) rfl rfl (fun _ _ _ h => h) trivial (fun ρ w E H => ex_index (i := k) E rfl Tryz.underlying25 sz_palaver_api_Vote rfl rfl hkl2) ?_
        refine SxA.take (i := 9) (v := .agg #[.int .u64 (y.slot : Int), .int .u64 (y.n : Int), .int .u8 (y.r : Int), .string ⟨y.value.toArray⟩]) rfl (by kernel_rfl) (by kernel_rfl) (by kernel_rfl) rfl rfl (fun _ _ _ h => h) trivial (fun ρ w E H => ex_loadX (cs := [.int .u64 (y.slot : Int), .int .u64 (y.n : Int), .int .u8 (y.r : Int), .string ⟨y.value.toArray⟩]) E ((hv2.below (H.os.below (Nat.le_refl _) (by simp))).rowA hy) rfl rfl Tryz.underlying92 rfl sz_palaver_api_Vote) ?_
        refine SxA.takeB (i := 10) rfl (by kernel_rfl) (by kernel_rfl) (by kernel_rfl) rfl rfl (fun _ _ _ h => h) trivial (fun ρ w E H => ex_aneq E rfl (by kernel_rfl) rfl rfl (fun w => by rw [Bool.not_not]; exact eq_vo x y w)) fun c40 hc40 => ?_
        refine SxA.done (by kernel_rfl) ?_
        refine SxN.then_ ?_
        cases c40
        · refine SxC.condF rfl (SxC.skip (SxN.block (SxN.then_ (SxC.region ?_))))
          refine SxL.val trivial rfl rfl (fun ρ w E H => ex_move E rfl rfl) ?_
          refine SxL.val (v := .int .i64 ((k + 1 : Nat) : Int)) trivial rfl rfl (fun ρ w E H => ex_add E rfl rfl rfl (by rw [IntKind.wrap_i64]; omega)) ?_
          refine SxL.val trivial rfl rfl (fun ρ w E H => ex_assign E rfl rfl) ?_
          refine SxL.nil ?_
          refine SxN.back (gk - 1) (k + 1) (by omega) ⟨by omega, by rw [take_snoc hx, take_snoc hy, hrel]; have h24 : x = y := (by simpa using hc40); rw [h24], hle⟩ ⟨rfl, rfl, rfl, trivial⟩ [0, 1] rfl (by decide) ⟨.inl rfl, .inl rfl, trivial⟩
        · refine SxC.condT rfl (SxC.seq (SxC.region ?_))
          refine SxL.val trivial rfl rfl (fun ρ w E H => ex_assign E rfl rfl) ?_
          refine SxL.nil (SxN.then_ (SxC.ret (SxX.blockR (SxX.thenR (SxX.thenR (SxX.blockR (SxX.thenR ?_)))))))
          refine SxX.done (.bool false) (fun a w K H => res1 K rfl rfl) (fun w H => ?_)
          have hq : false = decide ((⟨mk, mn, mr, mb, ms, mo, mv, vl, il, ⟨ca, cb, ck, cs, ct, cu, cz⟩, mc, mt⟩ : Ms) = ⟨xk, xn, xr, xb, xs, xo, xv, wl, jl, ⟨da, db, dk, ds, dt, du, dz⟩, xc, xt⟩) := by clear H; grind [cmpB]
          exact ⟨by rw [hq], H.toBelow ⟨(fun g hg => by rw [List.mem_singleton.1 hg]; exact hg2), (fun g hg => by rw [List.mem_singleton.1 hg]; exact hg1), trivial⟩⟩
    · refine SxC.condT rfl (SxC.seq (SxC.region ?_))
      refine SxL.val trivial rfl rfl (fun ρ w E H => ex_assign E rfl rfl) ?_
      refine SxL.nil (SxN.then_ (SxC.ret (SxX.thenR ?_)))
      refine SxX.done (.bool false) (fun a w K H => res1 K rfl rfl) (fun w H => ?_)
      have hq : false = decide ((⟨mk, mn, mr, mb, ms, mo, mv, vl, il, ⟨ca, cb, ck, cs, ct, cu, cz⟩, mc, mt⟩ : Ms) = ⟨xk, xn, xr, xb, xs, xo, xv, wl, jl, ⟨da, db, dk, ds, dt, du, dz⟩, xc, xt⟩) := by clear H; grind [cmpB]
      exact ⟨by rw [hq], H.toBelow ⟨(fun g hg => by rw [List.mem_singleton.1 hg]; exact hg2), (fun g hg => by rw [List.mem_singleton.1 hg]; exact hg1), trivial⟩⟩
  · refine SxL.off ⟨_, _, _, rfl, rfl, rfl, nofun⟩ rfl rfl ?_
    iterate 6 refine SxL.off ⟨_, _, _, rfl, rfl, rfl, nofun⟩ rfl rfl ?_
    refine SxL.val trivial rfl rfl (fun ρ w E H => ex_pick E rfl (t := true) rfl rfl) ?_
    refine SxL.nil (SxN.then_ (SxC.condT rfl (SxC.seq (SxC.region ?_))))
    refine SxL.val trivial rfl rfl (fun ρ w E H => ex_assign E rfl rfl) ?_
    refine SxL.nil (SxN.then_ (SxC.ret (SxX.thenR ?_)))
    refine SxX.done (.bool false) (fun a w K H => res1 K rfl rfl) (fun w H => ?_)
    have hq : false = decide ((⟨mk, mn, mr, mb, ms, mo, mv, vl, il, ⟨ca, cb, ck, cs, ct, cu, cz⟩, mc, mt⟩ : Ms) = ⟨xk, xn, xr, xb, xs, xo, xv, wl, jl, ⟨da, db, dk, ds, dt, du, dz⟩, xc, xt⟩) := by clear H; grind [cmpB]
    exact ⟨by rw [hq], H.toBelow ⟨(fun g hg => by rw [List.mem_singleton.1 hg]; exact hg2), (fun g hg => by rw [List.mem_singleton.1 hg]; exact hg1), trivial⟩⟩

theorem rsame_any (m x : Ms) (A B C D : Option Addr) (ka kb kc kd : Nat) (w : World) (h1 : MsRows w m A B) (h2 : MsRows w x C D) (hl1 : m.votes.length ≤ 1000000) (hl2 : m.items.length ≤ 1000000) :
    Calls Tryz.prog 14 #[msV m A ka B kb, msV x C kc D kd] w fun e w' => e = .returned (.bool (decide (m = x))) ∧ Below w.heap.size w w' := by
  obtain ⟨mk, mn, mr, mb, ms, mo, mv, vl, il, ⟨ca, cb, ck, cs, ct, cu, cz⟩, mc, mt⟩ := m
  obtain ⟨xk, xn, xr, xb, xs, xo, xv, wl, jl, ⟨da, db, dk, ds, dt, du, dz⟩, xc, xt⟩ := x
  exact rsame_lit _ _ _ _ _ _ _ _ _ _ _ _ _ _ _ _ _ _ _ _ _ _ _ _ _ _ _ _ _ _ _ _ _ _ _ _ _ _ _ _ _ _ _ _ w h1.hv h1.hi h2.hv h2.hi hl1 hl2
end Go.Proofs.YteiaiilfekojfaaGreat.Msg
end
section
set_option linter.unusedVariables false
set_option linter.unusedSimpArgs false
namespace Go.Proofs.YteiaiilfekojfaaGreat.Net
open Go.RowKit Sx Wire DrawInv
open Msg
set_option maxRecDepth 100000 in
set_option maxHeartbeats 4000000 in
theorem wakes_any   (w : World) : Calls Tryz.prog 21 #[] w fun e w' => e = .returned (.bool true) ∧ Below w.heap.size w w' := by
  obtain ⟨sb, hp1, hby0, htk⟩ := ask_put 3 (by decide)
  have hs1 : sendN [] 0 1 (askM 3) = ([⟨0, 1, sb⟩], 0) := by unfold sendN; rw [if_pos (by decide), hp1]; rfl
  have hby1 : ∀ p ∈ [(⟨0, 1, sb⟩ : Pa)], p.bytes.length ≤ 100000 := fun p hp => by rw [List.mem_singleton.1 hp]; exact hby0
  have ht4 : takeN [(⟨0, 1, sb⟩ : Pa)] [] 0 1 0 = (([] : List Pa), ((0, 1, askM 3) : Nat × Nat × Ms), 0) := by
    show (if (takeM sb).2 ≠ 0 then ([(⟨0, 1, sb⟩ : Pa)], ((0, 0, ms0 0) : Nat × Nat × Ms), (takeM sb).2) else (([] : List Pa), ((0, 1, (takeM sb).1) : Nat × Nat × Ms), 0)) = _
    rw [htk, if_neg (by decide)]
  refine sx_enter (n := 84) _ Tryz.func21 rfl rfl rfl (Hp.start w) ?_
  refine SxC.seq (SxC.region ?_)
  refine SxL.val trivial rfl rfl (fun ρ w E H => ex_assign E rfl rfl) ?_
  refine SxL.nil (SxN.then_ (SxC.seq (SxC.region ?_)))
  refine SxL.call (σ := Nat × Nat) (fun s => .pointer (some ⟨s.1, 0, none⟩)) (fun s => w.heap.size ≤ s.1 ∧ w.heap.size ≤ s.2) (fun s => _) trivial rfl rfl (fun ρ w E => ex_call E en_palaver_net_New rfl rfl) call_newN fun s hgn => ?_
  obtain ⟨gn, gm⟩ := s
  dsimp only at hgn ⊢
  refine SxL.val trivial rfl rfl (fun ρ w E H => ex_assign E rfl rfl) ?_
  refine SxL.nil (SxN.then_ (SxC.seq (SxC.region ?_)))
  refine SxL.val trivial rfl rfl (fun ρ w E H => ex_move E rfl rfl) ?_
  refine SxL.callB (v := .agg #[.int .u8 10, .int .u64 0, .int .u8 0, .int .u64 0, .int .u64 3, .int .u8 0, .string ⟨[].toArray⟩, .slice none 0 0, .slice none 0 0, .int .u8 0, .int .u32 0, .int .u8 0, .string ⟨[].toArray⟩, .string ⟨[].toArray⟩, .string ⟨[].toArray⟩, .int .u8 0, .int .u8 0, .string ⟨[].toArray⟩]) trivial rfl rfl (fun ρ w E => ex_call E en_palaver_palaverlaw26_ask rfl rfl) (fun w H => ask_any 3 w) ?_
  refine SxL.val trivial rfl rfl (fun ρ w E H => ex_build (cs := [.int .u8 0, .int .u8 1, .int .u8 10, .int .u64 0, .int .u8 0, .int .u64 0, .int .u64 3, .int .u8 0, .string ⟨[].toArray⟩, .slice none 0 0, .slice none 0 0, .int .u8 0, .int .u32 0, .int .u8 0, .string ⟨[].toArray⟩, .string ⟨[].toArray⟩, .string ⟨[].toArray⟩, .int .u8 0, .int .u8 0, .string ⟨[].toArray⟩]) E rfl rfl (by kernel_rfl)) ?_
  refine SxL.call (σ := Value) (fun _ => .int .i64 0) (fun s => OwnIn w [] s) (fun s => _) trivial rfl rfl (fun ρ w E => ex_call E en_palaver_net_Net_Send rfl rfl) (callNet (i := 0) (bag' := [(⟨0, 1, sb⟩ : Pa)]) (M' := ([] : CutM)) rfl (fun b hb => by simp [Value.ownBlock] at hb) (fun W H => (send_any w.heap.size gn gm _ [] [] 0 1 (askM 3) none none 0 0 W (H.get (i := 0) rfl) (by simp) H.os.size (ask_fits 3 (by decide)) ((ask_lim 3).small (ask_fits 3 (by decide))) (none_rows W _ rfl rfl)).mono fun _ _ h => by rw [hs1] at h; exact h)) fun V17 hV17 => ?_
  refine SxL.val trivial rfl rfl (fun ρ w E H => ex_assign E rfl rfl) ?_
  refine SxL.nil (SxN.then_ (SxC.seq (SxC.region ?_)))
  refine SxL.val trivial rfl rfl (fun ρ w E H => ex_move E rfl rfl) ?_
  refine SxL.call (σ := Value × Value × Value) (fun q => .tuple #[.agg (.int .u8 ((([(⟨0, 1, sb⟩ : Pa)], ((0, 0, ms0 0) : Nat × Nat × Ms), 11)).2.1.1 : Int) :: .int .u8 ((([(⟨0, 1, sb⟩ : Pa)], ((0, 0, ms0 0) : Nat × Nat × Ms), 11)).2.1.2.1 : Int) :: msL (([(⟨0, 1, sb⟩ : Pa)], ((0, 0, ms0 0) : Nat × Nat × Ms), 11)).2.1.2.2 q.2.1 q.2.2).toArray, .int .i64 ((([(⟨0, 1, sb⟩ : Pa)], ((0, 0, ms0 0) : Nat × Nat × Ms), 11)).2.2 : Int)]) (fun q => OwnIn w [] q.1 ∧ OwnIn w [] q.2.1 ∧ OwnIn w [] q.2.2) (fun q => _) trivial rfl rfl (fun ρ w E => ex_call E en_palaver_net_Net_Take rfl rfl) (call_takeN (i := 0) (r := ([(⟨0, 1, sb⟩ : Pa)], ((0, 0, ms0 0) : Nat × Nat × Ms), 11)) rfl hV17 (by simp) (fun p hp => by cases hp) hby1 rfl) fun q hq20 => ?_
  obtain ⟨V20, U20, I20⟩ := q
  dsimp only at hq20
  refine SxL.with (fun W H => own_is_slice (H.get (i := 0) rfl)) ?_
  rintro ⟨UA20, uk20, rfl⟩
  refine SxL.with (fun W H => own_is_slice (H.get (i := 1) rfl)) ?_
  rintro ⟨IA20, ik20, rfl⟩
  refine SxL.val trivial rfl rfl (fun ρ w E H => ex_move E rfl rfl) ?_
  refine SxL.val trivial rfl rfl (fun ρ w E H => ex_extract E rfl rfl rfl) ?_
  refine SxL.val (v := .int .i64 11) trivial rfl rfl (fun ρ w E H => ex_extract E rfl rfl rfl) ?_
  refine SxL.new (cs := [.int .u8 0, .int .u8 0, .int .u8 0, .int .u64 0, .int .u8 0, .int .u64 0, .int .u64 0, .int .u8 0, .string ⟨[].toArray⟩, .slice none 0 0, .slice none 0 0, .int .u8 0, .int .u32 0, .int .u8 0, .string ⟨[].toArray⟩, .string ⟨[].toArray⟩, .string ⟨[].toArray⟩, .int .u8 0, .int .u8 0, .string ⟨[].toArray⟩]) trivial rfl rfl (fun ρ w E H => ex_alloc rfl zr_palaver_api_Letter rfl) fun g1 hg1 => ?_
  refine SxL.storeX (i := 0) [.int .u8 0, .int .u8 0, .int .u8 0, .int .u64 0, .int .u8 0, .int .u64 0, .int .u64 0, .int .u8 0, .string ⟨[].toArray⟩, .slice UA20 0 uk20, .slice IA20 0 ik20, .int .u8 0, .int .u32 0, .int .u8 0, .string ⟨[].toArray⟩, .string ⟨[].toArray⟩, .string ⟨[].toArray⟩, .int .u8 0, .int .u8 0, .string ⟨[].toArray⟩] trivial rfl rfl rfl rfl rfl sz_palaver_api_Letter rfl rfl rfl (putL_all _ _ rfl) ?_
  refine SxL.val trivial rfl rfl (fun ρ w E H => ex_assign E rfl rfl) ?_
  refine SxL.nil (SxN.then_ (SxC.seq (SxC.region ?_)))
  refine SxL.val trivial rfl rfl (fun ρ w E H => ex_move E rfl rfl) ?_
  refine SxL.call (σ := Value × Value × Value) (fun q => .tuple #[.agg (.int .u8 ((([(⟨0, 1, sb⟩ : Pa)], ((0, 0, ms0 0) : Nat × Nat × Ms), 11)).2.1.1 : Int) :: .int .u8 ((([(⟨0, 1, sb⟩ : Pa)], ((0, 0, ms0 0) : Nat × Nat × Ms), 11)).2.1.2.1 : Int) :: msL (([(⟨0, 1, sb⟩ : Pa)], ((0, 0, ms0 0) : Nat × Nat × Ms), 11)).2.1.2.2 q.2.1 q.2.2).toArray, .int .i64 ((([(⟨0, 1, sb⟩ : Pa)], ((0, 0, ms0 0) : Nat × Nat × Ms), 11)).2.2 : Int)]) (fun q => OwnIn w [] q.1 ∧ OwnIn w [] q.2.1 ∧ OwnIn w [] q.2.2) (fun q => _) trivial rfl rfl (fun ρ w E => ex_call E en_palaver_net_Net_Take rfl rfl) (call_takeN (i := 3) (r := ([(⟨0, 1, sb⟩ : Pa)], ((0, 0, ms0 0) : Nat × Nat × Ms), 11)) rfl hq20.1 (by simp) (fun p hp => by cases hp) hby1 rfl) fun q hq25 => ?_
  obtain ⟨V25, U25, I25⟩ := q
  dsimp only at hq25
  refine SxL.with (fun W H => own_is_slice (H.get (i := 0) rfl)) ?_
  rintro ⟨UA25, uk25, rfl⟩
  refine SxL.with (fun W H => own_is_slice (H.get (i := 1) rfl)) ?_
  rintro ⟨IA25, ik25, rfl⟩
  refine SxL.val trivial rfl rfl (fun ρ w E H => ex_move E rfl rfl) ?_
  refine SxL.val trivial rfl rfl (fun ρ w E H => ex_extract E rfl rfl rfl) ?_
  refine SxL.val (v := .int .i64 11) trivial rfl rfl (fun ρ w E H => ex_extract E rfl rfl rfl) ?_
  refine SxL.new (cs := [.int .u8 0, .int .u8 0, .int .u8 0, .int .u64 0, .int .u8 0, .int .u64 0, .int .u64 0, .int .u8 0, .string ⟨[].toArray⟩, .slice none 0 0, .slice none 0 0, .int .u8 0, .int .u32 0, .int .u8 0, .string ⟨[].toArray⟩, .string ⟨[].toArray⟩, .string ⟨[].toArray⟩, .int .u8 0, .int .u8 0, .string ⟨[].toArray⟩]) trivial rfl rfl (fun ρ w E H => ex_alloc rfl zr_palaver_api_Letter rfl) fun g2 hg2 => ?_
  refine SxL.storeX (i := 0) [.int .u8 0, .int .u8 0, .int .u8 0, .int .u64 0, .int .u8 0, .int .u64 0, .int .u64 0, .int .u8 0, .string ⟨[].toArray⟩, .slice UA25 0 uk25, .slice IA25 0 ik25, .int .u8 0, .int .u32 0, .int .u8 0, .string ⟨[].toArray⟩, .string ⟨[].toArray⟩, .string ⟨[].toArray⟩, .int .u8 0, .int .u8 0, .string ⟨[].toArray⟩] trivial rfl rfl rfl rfl rfl sz_palaver_api_Letter rfl rfl rfl (putL_all _ _ rfl) ?_
  refine SxL.val trivial rfl rfl (fun ρ w E H => ex_assign E rfl rfl) ?_
  refine SxL.nil (SxN.then_ (SxC.seq (SxC.region ?_)))
  refine SxL.val trivial rfl rfl (fun ρ w E H => ex_move E rfl rfl) ?_
  refine SxL.call (σ := Value) (fun _ => .int .i64 0) (fun s => OwnIn w [] s) (fun s => _) trivial rfl rfl (fun ρ w E => ex_call E en_palaver_net_Net_Cut rfl rfl) (callNet (i := 6) (bag' := [(⟨0, 1, sb⟩ : Pa)]) (M' := [((0, 1), Value.bool true)]) rfl hq25.1 (fun W H => (cut_any _ _ _ _ _ _ 1 0 W (H.get (i := 6) rfl)).mono fun _ _ h => h)) fun V29 hV29 => ?_
  refine SxL.val trivial rfl rfl (fun ρ w E H => ex_assign E rfl rfl) ?_
  refine SxL.nil (SxN.then_ (SxC.seq (SxC.region ?_)))
  refine SxL.val trivial rfl rfl (fun ρ w E H => ex_move E rfl rfl) ?_
  refine SxL.call (σ := Value × Value × Value) (fun q => .tuple #[.agg (.int .u8 ((([(⟨0, 1, sb⟩ : Pa)], ((0, 0, ms0 0) : Nat × Nat × Ms), 13)).2.1.1 : Int) :: .int .u8 ((([(⟨0, 1, sb⟩ : Pa)], ((0, 0, ms0 0) : Nat × Nat × Ms), 13)).2.1.2.1 : Int) :: msL (([(⟨0, 1, sb⟩ : Pa)], ((0, 0, ms0 0) : Nat × Nat × Ms), 13)).2.1.2.2 q.2.1 q.2.2).toArray, .int .i64 ((([(⟨0, 1, sb⟩ : Pa)], ((0, 0, ms0 0) : Nat × Nat × Ms), 13)).2.2 : Int)]) (fun q => OwnIn w [] q.1 ∧ OwnIn w [] q.2.1 ∧ OwnIn w [] q.2.2) (fun q => _) trivial rfl rfl (fun ρ w E => ex_call E en_palaver_net_Net_Take rfl rfl) (call_takeN (i := 6) (r := ([(⟨0, 1, sb⟩ : Pa)], ((0, 0, ms0 0) : Nat × Nat × Ms), 13)) rfl hV29 (by simp) (fun p hp => by rw [List.mem_singleton.1 hp]) hby1 rfl) fun q hq32 => ?_
  obtain ⟨V32, U32, I32⟩ := q
  dsimp only at hq32
  refine SxL.with (fun W H => own_is_slice (H.get (i := 0) rfl)) ?_
  rintro ⟨UA32, uk32, rfl⟩
  refine SxL.with (fun W H => own_is_slice (H.get (i := 1) rfl)) ?_
  rintro ⟨IA32, ik32, rfl⟩
  refine SxL.val trivial rfl rfl (fun ρ w E H => ex_move E rfl rfl) ?_
  refine SxL.val trivial rfl rfl (fun ρ w E H => ex_extract E rfl rfl rfl) ?_
  refine SxL.val (v := .int .i64 13) trivial rfl rfl (fun ρ w E H => ex_extract E rfl rfl rfl) ?_
  refine SxL.new (cs := [.int .u8 0, .int .u8 0, .int .u8 0, .int .u64 0, .int .u8 0, .int .u64 0, .int .u64 0, .int .u8 0, .string ⟨[].toArray⟩, .slice none 0 0, .slice none 0 0, .int .u8 0, .int .u32 0, .int .u8 0, .string ⟨[].toArray⟩, .string ⟨[].toArray⟩, .string ⟨[].toArray⟩, .int .u8 0, .int .u8 0, .string ⟨[].toArray⟩]) trivial rfl rfl (fun ρ w E H => ex_alloc rfl zr_palaver_api_Letter rfl) fun g3 hg3 => ?_
  refine SxL.storeX (i := 0) [.int .u8 0, .int .u8 0, .int .u8 0, .int .u64 0, .int .u8 0, .int .u64 0, .int .u64 0, .int .u8 0, .string ⟨[].toArray⟩, .slice UA32 0 uk32, .slice IA32 0 ik32, .int .u8 0, .int .u32 0, .int .u8 0, .string ⟨[].toArray⟩, .string ⟨[].toArray⟩, .string ⟨[].toArray⟩, .int .u8 0, .int .u8 0, .string ⟨[].toArray⟩] trivial rfl rfl rfl rfl rfl sz_palaver_api_Letter rfl rfl rfl (putL_all _ _ rfl) ?_
  refine SxL.val trivial rfl rfl (fun ρ w E H => ex_assign E rfl rfl) ?_
  refine SxL.nil (SxN.then_ (SxC.seq (SxC.region ?_)))
  refine SxL.val trivial rfl rfl (fun ρ w E H => ex_move E rfl rfl) ?_
  refine SxL.call (σ := Value) (fun _ => .int .i64 0) (fun s => OwnIn w [] s) (fun s => _) trivial rfl rfl (fun ρ w E => ex_call E en_palaver_net_Net_Heal rfl rfl) (callNet (i := 9) (bag' := [(⟨0, 1, sb⟩ : Pa)]) (M' := ([] : CutM)) rfl hq32.1 (fun W H => (heal_any _ _ _ _ _ _ W (H.get (i := 9) rfl)).mono fun _ _ h => h)) fun V36 hV36 => ?_
  refine SxL.val trivial rfl rfl (fun ρ w E H => ex_assign E rfl rfl) ?_
  refine SxL.nil (SxN.then_ (SxC.seq (SxC.region ?_)))
  refine SxL.val trivial rfl rfl (fun ρ w E H => ex_move E rfl rfl) ?_
  refine SxL.call (σ := Value × Value × Value) (fun q => .tuple #[.agg (.int .u8 (((([] : List Pa), ((0, 1, askM 3) : Nat × Nat × Ms), 0)).2.1.1 : Int) :: .int .u8 (((([] : List Pa), ((0, 1, askM 3) : Nat × Nat × Ms), 0)).2.1.2.1 : Int) :: msL ((([] : List Pa), ((0, 1, askM 3) : Nat × Nat × Ms), 0)).2.1.2.2 q.2.1 q.2.2).toArray, .int .i64 (((([] : List Pa), ((0, 1, askM 3) : Nat × Nat × Ms), 0)).2.2 : Int)]) (fun q => OwnIn w [] q.1 ∧ OwnIn w [] q.2.1 ∧ OwnIn w [] q.2.2) (fun q => _) trivial rfl rfl (fun ρ w E => ex_call E en_palaver_net_Net_Take rfl rfl) (call_takeN (i := 9) (r := (([] : List Pa), ((0, 1, askM 3) : Nat × Nat × Ms), 0)) rfl hV36 (by simp) (fun p hp => by cases hp) hby1 ht4) fun q hq39 => ?_
  obtain ⟨V39, U39, I39⟩ := q
  dsimp only at hq39
  refine SxL.with (fun W H => own_is_slice (H.get (i := 0) rfl)) ?_
  rintro ⟨UA39, uk39, rfl⟩
  refine SxL.with (fun W H => own_is_slice (H.get (i := 1) rfl)) ?_
  rintro ⟨IA39, ik39, rfl⟩
  refine SxL.val trivial rfl rfl (fun ρ w E H => ex_move E rfl rfl) ?_
  refine SxL.val trivial rfl rfl (fun ρ w E H => ex_extract E rfl rfl rfl) ?_
  refine SxL.val (v := .int .i64 0) trivial rfl rfl (fun ρ w E H => ex_extract E rfl rfl rfl) ?_
  refine SxL.new (cs := [.int .u8 0, .int .u8 0, .int .u8 0, .int .u64 0, .int .u8 0, .int .u64 0, .int .u64 0, .int .u8 0, .string ⟨[].toArray⟩, .slice none 0 0, .slice none 0 0, .int .u8 0, .int .u32 0, .int .u8 0, .string ⟨[].toArray⟩, .string ⟨[].toArray⟩, .string ⟨[].toArray⟩, .int .u8 0, .int .u8 0, .string ⟨[].toArray⟩]) trivial rfl rfl (fun ρ w E H => ex_alloc rfl zr_palaver_api_Letter rfl) fun g4 hg4 => ?_
  refine SxL.storeX (i := 0) [.int .u8 0, .int .u8 1, .int .u8 10, .int .u64 0, .int .u8 0, .int .u64 0, .int .u64 3, .int .u8 0, .string ⟨[].toArray⟩, .slice UA39 0 uk39, .slice IA39 0 ik39, .int .u8 0, .int .u32 0, .int .u8 0, .string ⟨[].toArray⟩, .string ⟨[].toArray⟩, .string ⟨[].toArray⟩, .int .u8 0, .int .u8 0, .string ⟨[].toArray⟩] trivial rfl rfl rfl rfl rfl sz_palaver_api_Letter rfl rfl rfl (putL_all _ _ rfl) ?_
  refine SxL.val trivial rfl rfl (fun ρ w E H => ex_assign E rfl rfl) ?_
  refine SxL.nil (SxN.then_ (SxC.seq ?_))
  refine SxC.drawnK [] [0, 1, 2, 3, 4, 5, 6, 7, 8, 9, 10, 11, 12] (by kernel_rfl) rfl ⟨(fun g hg => by rw [List.mem_singleton.1 hg]; exact .inr hg4), (fun g hg => .inr (hq39.2.1.fresh g hg)), (fun g hg => .inr (hq39.2.2.fresh g hg)), (fun g hg => by rw [List.mem_singleton.1 hg]; exact .inr hg3), (fun g hg => .inr (hq32.2.1.fresh g hg)), (fun g hg => .inr (hq32.2.2.fresh g hg)), (fun g hg => by rw [List.mem_singleton.1 hg]; exact .inr hg2), (fun g hg => .inr (hq25.2.1.fresh g hg)), (fun g hg => .inr (hq25.2.2.fresh g hg)), (fun g hg => by rw [List.mem_singleton.1 hg]; exact .inr hg1), (fun g hg => .inr (hq20.2.1.fresh g hg)), (fun g hg => .inr (hq20.2.2.fresh g hg)), (fun g hg => .inr ((netF_fresh hgn.1 hgn.2 hq39.1) g hg)), trivial⟩ ?_
  refine SxA.take (i := 0) rfl (by kernel_rfl) (by kernel_rfl) (by kernel_rfl) rfl rfl (fun _ _ _ h => h) trivial (fun ρ w E H => ex_move E rfl rfl) ?_
  refine SxA.take (i := 1) (v := .bool true) rfl (by kernel_rfl) (by kernel_rfl) (by kernel_rfl) rfl rfl (fun _ _ _ h => h) trivial (fun ρ w E H => ex_cmp E rfl rfl rfl rfl (by decide)) ?_
  refine SxA.take (i := 2) rfl (by kernel_rfl) (by kernel_rfl) (by kernel_rfl) rfl rfl (fun _ _ _ h => h) trivial (fun ρ w E H => ex_move E rfl rfl) ?_
  refine SxA.take (i := 3) rfl (by kernel_rfl) (by kernel_rfl) (by kernel_rfl) rfl rfl (fun _ _ _ h => h) ⟨_, _, rfl, rfl, rfl⟩ (fun ρ w E H => ex_move E rfl rfl) ?_
  refine SxA.take (i := 4) (v := .bool true) rfl (by kernel_rfl) (by kernel_rfl) (by kernel_rfl) rfl rfl (fun _ _ _ h => h) ⟨_, _, rfl, rfl, rfl⟩ (fun ρ w E H => ex_cmp E rfl rfl rfl rfl (by decide)) ?_
  refine SxA.take (i := 5) rfl (by kernel_rfl) (by kernel_rfl) (by kernel_rfl) rfl rfl (fun _ _ _ h => h) trivial (fun ρ w E H => ex_pick E rfl (t := true) rfl rfl) ?_
  refine SxA.take (i := 6) rfl (by kernel_rfl) (by kernel_rfl) (by kernel_rfl) rfl rfl (fun _ _ _ h => h) trivial (fun ρ w E H => ex_move E rfl rfl) ?_
  refine SxA.take (i := 7) rfl (by kernel_rfl) (by kernel_rfl) (by kernel_rfl) rfl rfl (fun _ _ _ h => h) ⟨_, _, rfl, rfl, rfl⟩ (fun ρ w E H => ex_move E rfl rfl) ?_
  refine SxA.take (i := 8) (v := .bool true) rfl (by kernel_rfl) (by kernel_rfl) (by kernel_rfl) rfl rfl (fun _ _ _ h => h) ⟨_, _, rfl, rfl, rfl⟩ (fun ρ w E H => ex_cmp E rfl rfl rfl rfl (by decide)) ?_
  refine SxA.take (i := 9) rfl (by kernel_rfl) (by kernel_rfl) (by kernel_rfl) rfl rfl (fun _ _ _ h => h) trivial (fun ρ w E H => ex_pick E rfl (t := true) rfl rfl) ?_
  refine SxA.take (i := 10) rfl (by kernel_rfl) (by kernel_rfl) (by kernel_rfl) rfl rfl (fun _ _ _ h => h) trivial (fun ρ w E H => ex_move E rfl rfl) ?_
  refine SxA.take (i := 11) rfl (by kernel_rfl) (by kernel_rfl) (by kernel_rfl) rfl rfl (fun _ _ _ h => h) ⟨_, _, rfl, rfl, rfl⟩ (fun ρ w E H => ex_move E rfl rfl) ?_
  refine SxA.take (i := 12) (v := .bool true) rfl (by kernel_rfl) (by kernel_rfl) (by kernel_rfl) rfl rfl (fun _ _ _ h => h) ⟨_, _, rfl, rfl, rfl⟩ (fun ρ w E H => ex_cmp E rfl rfl rfl rfl (by decide)) ?_
  refine SxA.take (i := 13) rfl (by kernel_rfl) (by kernel_rfl) (by kernel_rfl) rfl rfl (fun _ _ _ h => h) trivial (fun ρ w E H => ex_pick E rfl (t := true) rfl rfl) ?_
  refine SxA.take (i := 14) rfl (by kernel_rfl) (by kernel_rfl) (by kernel_rfl) rfl rfl (fun _ _ _ h => h) trivial (fun ρ w E H => ex_move E rfl rfl) ?_
  refine SxA.take (i := 15) rfl (by kernel_rfl) (by kernel_rfl) (by kernel_rfl) rfl rfl (fun _ _ _ h => h) ⟨_, _, rfl, rfl, rfl⟩ (fun ρ w E H => ex_move E rfl rfl) ?_
  refine SxA.take (i := 16) (v := .bool true) rfl (by kernel_rfl) (by kernel_rfl) (by kernel_rfl) rfl rfl (fun _ _ _ h => h) ⟨_, _, rfl, rfl, rfl⟩ (fun ρ w E H => ex_cmp E rfl rfl rfl rfl (by decide)) ?_
  refine SxA.take (i := 17) rfl (by kernel_rfl) (by kernel_rfl) (by kernel_rfl) rfl rfl (fun _ _ _ h => h) trivial (fun ρ w E H => ex_pick E rfl (t := true) rfl rfl) ?_
  refine SxA.take (i := 18) rfl (by kernel_rfl) (by kernel_rfl) (by kernel_rfl) rfl rfl (fun _ _ _ h => h) trivial (fun ρ w E H => ex_move E rfl rfl) ?_
  refine SxA.take (i := 19) rfl (by kernel_rfl) (by kernel_rfl) (by kernel_rfl) rfl rfl (fun _ _ _ h => h) ⟨_, _, rfl, rfl, rfl⟩ (fun ρ w E H => ex_move E rfl rfl) ?_
  refine SxA.take (i := 20) (v := .bool true) rfl (by kernel_rfl) (by kernel_rfl) (by kernel_rfl) rfl rfl (fun _ _ _ h => h) ⟨_, _, rfl, rfl, rfl⟩ (fun ρ w E H => ex_cmp E rfl rfl rfl rfl (by decide)) ?_
  refine SxA.take (i := 21) rfl (by kernel_rfl) (by kernel_rfl) (by kernel_rfl) rfl rfl (fun _ _ _ h => h) trivial (fun ρ w E H => ex_pick E rfl (t := true) rfl rfl) ?_
  refine SxA.take (i := 22) rfl (by kernel_rfl) (by kernel_rfl) (by kernel_rfl) rfl rfl (fun _ _ _ h => h) trivial (fun ρ w E H => ex_move E rfl rfl) ?_
  refine SxA.take (i := 23) rfl (by kernel_rfl) (by kernel_rfl) (by kernel_rfl) rfl rfl (fun _ _ _ h => h) ⟨_, _, rfl, rfl, rfl⟩ (fun ρ w E H => ex_move E rfl rfl) ?_
  refine SxA.take (i := 24) (v := .bool true) rfl (by kernel_rfl) (by kernel_rfl) (by kernel_rfl) rfl rfl (fun _ _ _ h => h) ⟨_, _, rfl, rfl, rfl⟩ (fun ρ w E H => ex_cmp E rfl rfl rfl rfl (by decide)) ?_
  refine SxA.take (i := 25) rfl (by kernel_rfl) (by kernel_rfl) (by kernel_rfl) rfl rfl (fun _ _ _ h => h) trivial (fun ρ w E H => ex_pick E rfl (t := true) rfl rfl) ?_
  refine SxA.take (i := 26) rfl (by kernel_rfl) (by kernel_rfl) (by kernel_rfl) rfl rfl (fun _ _ _ h => h) trivial (fun ρ w E H => ex_move E rfl rfl) ?_
  refine SxA.take (i := 27) (v := .pointer (some ⟨g4, 1, none⟩)) rfl (by kernel_rfl) (by kernel_rfl) (by kernel_rfl) rfl rfl (fun _ _ _ h => h) ⟨_, _, rfl, rfl, rfl⟩ (fun ρ w E H => ex_field E rfl fa_palaver_api_Letter_1 rfl rfl) ?_
  refine SxA.take (i := 28) rfl (by kernel_rfl) (by kernel_rfl) (by kernel_rfl) rfl rfl (fun _ _ _ h => h) ⟨_, _, rfl, rfl, rfl⟩ (fun ρ w E H => ex_load1 E (H.get (i := 0) rfl) rfl rfl Tryz.underlying5 rfl rfl) ?_
  refine SxA.take (i := 29) (v := .bool true) rfl (by kernel_rfl) (by kernel_rfl) (by kernel_rfl) rfl rfl (fun _ _ _ h => h) ⟨_, _, rfl, rfl, rfl⟩ (fun ρ w E H => ex_cmp E rfl rfl rfl rfl (by decide)) ?_
  refine SxA.take (i := 30) rfl (by kernel_rfl) (by kernel_rfl) (by kernel_rfl) rfl rfl (fun _ _ _ h => h) trivial (fun ρ w E H => ex_pick E rfl (t := true) rfl rfl) ?_
  refine SxA.take (i := 31) rfl (by kernel_rfl) (by kernel_rfl) (by kernel_rfl) rfl rfl (fun _ _ _ h => h) trivial (fun ρ w E H => ex_move E rfl rfl) ?_
  refine SxA.take (i := 32) (v := .pointer (some ⟨g4, 2, none⟩)) rfl (by kernel_rfl) (by kernel_rfl) (by kernel_rfl) rfl rfl (fun _ _ _ h => h) ⟨_, _, rfl, rfl, rfl⟩ (fun ρ w E H => ex_field E rfl fa_palaver_api_Letter_2 rfl rfl) ?_
  refine SxA.take (i := 33) rfl (by kernel_rfl) (by kernel_rfl) (by kernel_rfl) rfl rfl (fun _ _ _ h => h) ⟨_, _, rfl, rfl, rfl⟩ (fun ρ w E H => ex_load (part := [.int .u8 10, .int .u64 0, .int .u8 0, .int .u64 0, .int .u64 3, .int .u8 0, .string ⟨[].toArray⟩, .slice UA39 0 uk39, .slice IA39 0 ik39, .int .u8 0, .int .u32 0, .int .u8 0, .string ⟨[].toArray⟩, .string ⟨[].toArray⟩, .string ⟨[].toArray⟩, .int .u8 0, .int .u8 0, .string ⟨[].toArray⟩]) E (H.get (i := 0) rfl) rfl rfl Tryz.underlying33 rfl sz_palaver_api_Msg rfl rfl) ?_
  refine SxA.ready [34] (by kernel_rfl) (by simp) ⟨?_, trivial⟩
  refine SxO.callB (v := .agg #[.int .u8 10, .int .u64 0, .int .u8 0, .int .u64 0, .int .u64 3, .int .u8 0, .string ⟨[].toArray⟩, .slice none 0 0, .slice none 0 0, .int .u8 0, .int .u32 0, .int .u8 0, .string ⟨[].toArray⟩, .string ⟨[].toArray⟩, .string ⟨[].toArray⟩, .int .u8 0, .int .u8 0, .string ⟨[].toArray⟩]) rfl ⟨_, _, rfl, rfl, rfl⟩ rfl rfl (fun ρ w E => ex_call E en_palaver_palaverlaw26_ask rfl rfl) (fun w H => ask_any 3 w) (fun w H => H.ks [] [0, 1, 2, 3, 4, 5, 6, 7, 8, 9, 10, 11, 12] rfl ⟨(fun g hg => by rw [List.mem_singleton.1 hg]; exact .inr hg4), (fun g hg => .inr (hq39.2.1.fresh g hg)), (fun g hg => .inr (hq39.2.2.fresh g hg)), (fun g hg => by rw [List.mem_singleton.1 hg]; exact .inr hg3), (fun g hg => .inr (hq32.2.1.fresh g hg)), (fun g hg => .inr (hq32.2.2.fresh g hg)), (fun g hg => by rw [List.mem_singleton.1 hg]; exact .inr hg2), (fun g hg => .inr (hq25.2.1.fresh g hg)), (fun g hg => .inr (hq25.2.2.fresh g hg)), (fun g hg => by rw [List.mem_singleton.1 hg]; exact .inr hg1), (fun g hg => .inr (hq20.2.1.fresh g hg)), (fun g hg => .inr (hq20.2.2.fresh g hg)), (fun g hg => .inr ((netF_fresh hgn.1 hgn.2 hq39.1) g hg)), trivial⟩) ?_
  refine SxA.ready [35] (by kernel_rfl) (by simp) ⟨?_, trivial⟩
  refine SxO.callB (v := .bool true) rfl ⟨_, _, rfl, rfl, rfl⟩ rfl rfl (fun ρ w E => ex_call E en_palaver_palaverref18_Same rfl rfl) (fun w H => (rsame_any (askM 3) (askM 3) UA39 IA39 none none uk39 ik39 0 0 w ⟨vrows (H.get (i := 1) rfl), irows (H.get (i := 2) rfl)⟩ (none_rows w _ rfl rfl) (by decide) (by decide)).mono fun _ _ h => ⟨by rw [h.1]; simp, h.2⟩) (fun w H => H.ks [] [0, 1, 2, 3, 4, 5, 6, 7, 8, 9, 10, 11, 12] rfl ⟨(fun g hg => by rw [List.mem_singleton.1 hg]; exact .inr hg4), (fun g hg => .inr (hq39.2.1.fresh g hg)), (fun g hg => .inr (hq39.2.2.fresh g hg)), (fun g hg => by rw [List.mem_singleton.1 hg]; exact .inr hg3), (fun g hg => .inr (hq32.2.1.fresh g hg)), (fun g hg => .inr (hq32.2.2.fresh g hg)), (fun g hg => by rw [List.mem_singleton.1 hg]; exact .inr hg2), (fun g hg => .inr (hq25.2.1.fresh g hg)), (fun g hg => .inr (hq25.2.2.fresh g hg)), (fun g hg => by rw [List.mem_singleton.1 hg]; exact .inr hg1), (fun g hg => .inr (hq20.2.1.fresh g hg)), (fun g hg => .inr (hq20.2.2.fresh g hg)), (fun g hg => .inr ((netF_fresh hgn.1 hgn.2 hq39.1) g hg)), trivial⟩) ?_
  refine SxA.take (i := 36) rfl (by kernel_rfl) (by kernel_rfl) (by kernel_rfl) rfl rfl (fun _ _ _ h => h) trivial (fun ρ w E H => ex_pick E rfl (t := true) rfl rfl) ?_
  refine SxA.take (i := 37) rfl (by kernel_rfl) (by kernel_rfl) (by kernel_rfl) rfl rfl (fun _ _ _ h => h) trivial (fun ρ w E H => ex_move E rfl rfl) ?_
  refine SxA.take (i := 38) rfl (by kernel_rfl) (by kernel_rfl) (by kernel_rfl) rfl rfl (fun _ _ _ h => h) ⟨_, _, rfl, rfl, rfl⟩ (fun ρ w E H => ex_move E rfl rfl) ?_
  refine SxA.ready [39] (by kernel_rfl) (by simp) ⟨?_, trivial⟩
  refine SxO.callB (v := .int .i64 0) rfl ⟨_, _, rfl, rfl, rfl⟩ rfl rfl (fun ρ w E => ex_call E en_palaver_net_Net_Len rfl rfl) (fun w H => len_any _ _ _ _ ([] : List Pa) _ w (H.get (i := 12) rfl)) (fun w H => H.ks [] [0, 1, 2, 3, 4, 5, 6, 7, 8, 9, 10, 11, 12] rfl ⟨(fun g hg => by rw [List.mem_singleton.1 hg]; exact .inr hg4), (fun g hg => .inr (hq39.2.1.fresh g hg)), (fun g hg => .inr (hq39.2.2.fresh g hg)), (fun g hg => by rw [List.mem_singleton.1 hg]; exact .inr hg3), (fun g hg => .inr (hq32.2.1.fresh g hg)), (fun g hg => .inr (hq32.2.2.fresh g hg)), (fun g hg => by rw [List.mem_singleton.1 hg]; exact .inr hg2), (fun g hg => .inr (hq25.2.1.fresh g hg)), (fun g hg => .inr (hq25.2.2.fresh g hg)), (fun g hg => by rw [List.mem_singleton.1 hg]; exact .inr hg1), (fun g hg => .inr (hq20.2.1.fresh g hg)), (fun g hg => .inr (hq20.2.2.fresh g hg)), (fun g hg => .inr ((netF_fresh hgn.1 hgn.2 hq39.1) g hg)), trivial⟩) ?_
  refine SxA.take (i := 40) (v := .bool true) rfl (by kernel_rfl) (by kernel_rfl) (by kernel_rfl) rfl rfl (fun _ _ _ h => h) ⟨_, _, rfl, rfl, rfl⟩ (fun ρ w E H => ex_cmp E rfl rfl rfl rfl (by decide)) ?_
  refine SxA.take (i := 41) rfl (by kernel_rfl) (by kernel_rfl) (by kernel_rfl) rfl rfl (fun _ _ _ h => h) trivial (fun ρ w E H => ex_pick E rfl (t := true) rfl rfl) ?_
  refine SxA.take (i := 42) rfl (by kernel_rfl) (by kernel_rfl) (by kernel_rfl) rfl rfl (fun _ _ _ h => h) trivial (fun ρ w E H => ex_assign E rfl rfl) ?_
  refine SxA.done (by kernel_rfl) ?_
  refine SxN.then_ (SxC.ret ?_)
  refine SxX.done (.bool true) (fun a w K H => res1 K rfl rfl) (fun w H => ?_)
  exact ⟨rfl, H.toBelow ⟨(fun g hg => by rw [List.mem_singleton.1 hg]; exact hg4), hq39.2.1.fresh, hq39.2.2.fresh, (fun g hg => by rw [List.mem_singleton.1 hg]; exact hg3), hq32.2.1.fresh, hq32.2.2.fresh, (fun g hg => by rw [List.mem_singleton.1 hg]; exact hg2), hq25.2.1.fresh, hq25.2.2.fresh, (fun g hg => by rw [List.mem_singleton.1 hg]; exact hg1), hq20.2.1.fresh, hq20.2.2.fresh, (netF_fresh hgn.1 hgn.2 hq39.1), trivial⟩⟩
end Go.Proofs.YteiaiilfekojfaaGreat.Net
end
section
set_option linter.unusedVariables false
set_option linter.unusedSimpArgs false
namespace Go.Proofs.YteiaiilfekojfaaGreat.Net
open Go.RowKit Sx Wire DrawInv
open Msg
theorem call_pairs {w0 : World} {L : List Ft} {base g gm i : Nat} {V : Value} {bag : List Pa} {M : CutM} (hL : nth L i = some (netF base g gm V bag M)) (hb512 : bag.length ≤ 512) :
    ∀ w, Hp w0 L w → Calls Tryz.prog 32 #[.pointer (some ⟨g, 0, none⟩)] w fun E w' => ∃ s : Value × List (Nat × Nat), E = .returned s.1 ∧ (OwnIn w0 [] s.1 ∧ PairsOf bag s.2) ∧ Hp w0 (rowX [] w0.heap.size 57 2 s.1 s.2.length (s.2.flatMap prL) :: L) w' := fun w H =>
  (pairs_any base g gm V bag M w (H.get hL) hb512).mono fun E w' ⟨v, Q, he, hQ, hown, hb⟩ =>
    ⟨(v, Q), he, ⟨fun b hb => .inr (Nat.le_trans H.os.size (own_lt hown b hb).1), hQ⟩, H.add hb _ (rowX_loc _ _ _ _ _ _ _) (fun b hb => ⟨(own_lt hown b (by simpa [rowX] using hb)).2, (own_lt hown b (by simpa [rowX] using hb)).1⟩) (own_base hown H.os.size)⟩
theorem row_zero {w : World} {g sz : Nat} {cs : List Value} (h : RowAt w ((⟨g, 0, none⟩ : Addr).add (0 * sz)) cs) : RowAt w ⟨g, 0, none⟩ cs := by
  rw [Addr.add_lit, Nat.zero_mul] at h
  exact h

theorem rep_bL (n : Nat) : List.replicate n (Value.bool false) = (List.replicate n false).flatMap bL := by
  induction n with
  | zero => rfl
  | succ n ih => rw [List.replicate_succ, List.replicate_succ, List.flatMap_cons, ih]; rfl

set_option maxRecDepth 100000 in
set_option maxHeartbeats 4000000 in
theorem order_any (l : List (Nat × Nat)) (o : List Nat) (A B : Option Addr) (c d : Nat) (w : World) (hA : Rows w A 2 prL l) (hl : l.length ≤ 9223372036854775807) (hB : Rows w B 1 wL o) (hW : ∀ x ∈ o, x < 65536) (ho63 : o.length ≤ 9223372036854775807) : Calls Tryz.prog 6 #[.slice A l.length c, .slice B o.length d] w fun e w' => e = .returned (.bool true) ∧ Below w.heap.size w w' := by
  have hnone := own_none w 0 0
  refine sx_enter (n := 175) _ Tryz.func6 rfl rfl rfl (Hp.start w) ?_
  refine SxC.seq (SxC.region ?_)
  refine SxL.val trivial rfl rfl (fun ρ w E H => ex_assign E rfl rfl) ?_
  refine SxL.nil (SxN.then_ (SxC.seq (SxC.seq (SxC.region ?_))))
  refine SxL.val trivial rfl rfl (fun ρ w E H => ex_move E rfl rfl) ?_
  refine SxL.val (v := .int .i64 (l.length : Int)) trivial rfl rfl (fun ρ w E H => ex_lenS E rfl Tryz.underlying51 rfl) ?_
  refine SxL.valB trivial rfl rfl (fun ρ w E H => ex_cmp E rfl rfl rfl rfl rfl) fun c20 hc20 => ?_
  refine SxL.val trivial rfl rfl (fun ρ w E H => ex_move E rfl rfl) ?_
  cases c20
  · refine SxL.val ⟨_, _, rfl, rfl, rfl⟩ rfl rfl (fun ρ w E H => ex_move E rfl rfl) ?_
    refine SxL.val (v := .int .i64 (o.length : Int)) ⟨_, _, rfl, rfl, rfl⟩ rfl rfl (fun ρ w E H => ex_lenS E rfl Tryz.underlying70 rfl) ?_
    refine SxL.valB ⟨_, _, rfl, rfl, rfl⟩ rfl rfl (fun ρ w E H => ex_cmp E rfl rfl rfl rfl rfl) fun c24 hc24 => ?_
    refine SxL.val trivial rfl rfl (fun ρ w E H => ex_pick E rfl (t := false) rfl rfl) ?_
    refine SxL.nil (SxN.then_ ?_)
    cases c24
    · refine SxC.condF rfl (SxC.skip (SxN.then_ (SxC.seq (SxC.region ?_))))
      refine SxL.call (σ := Nat × Nat) (fun s => .pointer (some ⟨s.1, 0, none⟩)) (fun s => w.heap.size ≤ s.1 ∧ w.heap.size ≤ s.2) (fun s => _) trivial rfl rfl (fun ρ w E => ex_call E en_palaver_net_New rfl rfl) call_newN fun s hgn => ?_
      obtain ⟨gn, gm⟩ := s
      dsimp only at hgn ⊢
      refine SxL.val trivial rfl rfl (fun ρ w E H => ex_assign E rfl rfl) ?_
      refine SxL.nil (SxN.then_ (SxC.seq (SxC.region ?_)))
      refine SxL.val trivial rfl rfl (fun ρ w E H => ex_assign E rfl rfl) ?_
      refine SxL.nil (SxN.then_ (SxC.seq (SxC.seq (SxC.region ?_))))
      refine SxL.val trivial rfl rfl (fun ρ w E H => ex_assign E rfl rfl) ?_
      refine SxL.nil (SxN.then_ (SxC.block ?_))
      refine SxC.hp (fun W H => H.nilRow 57 2) ?_
      refine SxC.loop4 (fun (V : Value) (vS : Value) (i : Nat) (sent : List (Nat × Nat)) => [(0, .slice A l.length c), (1, .slice B o.length d), (5, .pointer (some ⟨gn, 0, none⟩)), (6, vS), (7, .int .i64 (i : Int))]) (fun (V : Value) (vS : Value) (i : Nat) (sent : List (Nat × Nat)) => [netF w.heap.size gn gm V (allK sent) ([] : CutM), rowX [] w.heap.size 57 2 vS sent.length (sent.flatMap prL)]) (fun (gk : Nat) (V : Value) (vS : Value) (i : Nat) (sent : List (Nat × Nat)) => i + gk = l.length ∧ sent.length ≤ 512 ∧ sent.length ≤ i ∧ (∀ p ∈ sent, apartB p.1 p.2 = true) ∧ OwnIn w [] V ∧ OwnIn w [] vS) l.length (.slice none 0 0) (.slice none 0 0) 0 ([] : List (Nat × Nat)) ⟨by omega, by decide, by decide, (fun p hp => by cases hp), (fun b hb => by simp [Value.ownBlock] at hb), hnone⟩ ⟨rfl, rfl, rfl, rfl, rfl, trivial⟩ [1, 0] rfl (by decide) ⟨.inl rfl, .inl rfl, trivial⟩ fun gk V vS i sent hF => ?_
      obtain ⟨hkg, hs5, hsi, hap, hV, hvS⟩ := hF
      refine SxC.seq (SxC.seq (SxC.region ?_))
      iterate 2 refine SxL.val trivial rfl rfl (fun ρ w E H => ex_move E rfl rfl) ?_
      refine SxL.val (v := .int .i64 (l.length : Int)) trivial rfl rfl (fun ρ w E H => ex_lenS E rfl Tryz.underlying51 rfl) ?_
      refine SxL.valB trivial rfl rfl (fun ρ w E H => ex_cmp E rfl rfl rfl rfl rfl) fun c31 hc31 => ?_
      refine SxL.nil (SxN.then_ ?_)
      cases c31
      · refine SxC.condF rfl (SxC.exit (SxX.thenE (SxX.thenE (SxX.blockE (SxN.then_ (SxC.seq ?_))))))
        refine SxC.with (fun W H => own_is_slice (H.get (i := 1) rfl)) ?_
        rintro ⟨AS, cS, rfl⟩
        refine SxC.region ?_
        refine SxL.val trivial rfl rfl (fun ρ w E H => ex_move E rfl rfl) ?_
        refine SxL.val (v := .int .i64 (sent.length : Int)) trivial rfl rfl (fun ρ w E H => ex_lenS E rfl Tryz.underlying51 rfl) ?_
        refine SxL.make (m := sent.length) (v := .bool false) trivial rfl rfl rfl Tryz.underlying71 nf_bool rfl rfl rfl (by omega) (by omega) (by omega) rfl fun gc hgc => ?_
        refine SxL.val trivial rfl rfl (fun ρ w E H => ex_assign E rfl rfl) ?_
        refine SxL.nil (SxN.then_ (SxC.seq (SxC.seq (SxC.region ?_))))
        refine SxL.val trivial rfl rfl (fun ρ w E H => ex_assign E rfl rfl) ?_
        refine SxL.nil (SxN.then_ (SxC.block ?_))
        refine SxC.hp (fun W H => H.re (i := 0) rfl (rowX [] w.heap.size 4 1 (.slice (some ⟨gc, 0, none⟩) sent.length sent.length) ((List.replicate sent.length false).length) ((List.replicate sent.length false).flatMap bL)) (rowX_loc _ _ _ _ _ _ _) rfl (fun h => own_as h (by rw [List.length_replicate]) (rep_bL _))) ?_
        refine SxC.loop4 (fun (V2 : Value) (r : Nat) (ks : List Nat) (cm : List Bool) => [(0, .slice A l.length c), (1, .slice B o.length d), (5, .pointer (some ⟨gn, 0, none⟩)), (6, .slice AS sent.length cS), (9, .slice (some ⟨gc, 0, none⟩) sent.length sent.length), (10, .int .i64 (r : Int))]) (fun (V2 : Value) (r : Nat) (ks : List Nat) (cm : List Bool) => [netF w.heap.size gn gm V2 (bagK sent ks) ([] : CutM), rowX [] w.heap.size 57 2 (.slice AS sent.length cS) sent.length (sent.flatMap prL), rowX [] w.heap.size 4 1 (.slice (some ⟨gc, 0, none⟩) sent.length sent.length) cm.length (cm.flatMap bL)]) (fun (gk : Nat) (V2 : Value) (r : Nat) (ks : List Nat) (cm : List Bool) => r + ks.length = sent.length ∧ gk = ks.length ∧ OI sent ks cm ∧ OwnIn w [] V2) sent.length V 0 (List.range sent.length) (List.replicate sent.length false) ⟨by rw [List.length_range]; omega, by rw [List.length_range], OI.start hap, hV⟩ ⟨rfl, rfl, rfl, rfl, rfl, rfl, trivial⟩ [1, 2, 0] rfl (by decide) ⟨.inl rfl, .inl rfl, .inl rfl, trivial⟩ fun gk V2 r ks cm hF => ?_
        obtain ⟨hrk, hgk, hO, hV2⟩ := hF
        subst hgk
        have hbk := bagK_len sent ks
        refine SxC.seq (SxC.seq (SxC.region ?_))
        refine SxL.val trivial rfl rfl (fun ρ w E H => ex_move E rfl rfl) ?_
        refine SxL.callB (v := .int .i64 ((bagK sent ks).length : Int)) trivial rfl rfl (fun ρ w E => ex_call E en_palaver_net_Net_Len rfl rfl) (fun w H => len_any _ _ _ _ (bagK sent ks) _ w (H.get (i := 0) rfl)) ?_
        refine SxL.valB trivial rfl rfl (fun ρ w E H => ex_cmp E rfl rfl rfl rfl rfl) fun c75 hc75 => ?_
        refine SxL.nil (SxN.then_ ?_)
        cases c75
        · refine SxC.condF rfl (SxC.exit (SxX.thenE (SxX.thenE (SxX.blockE (SxN.then_ (SxC.seq (SxC.seq (SxC.region ?_))))))))
          refine SxL.val trivial rfl rfl (fun ρ w E H => ex_assign E rfl rfl) ?_
          refine SxL.nil (SxN.then_ (SxC.block ?_))
          have hks : ks = [] := by have h := hc75; rw [hbk] at h; simpa [cmpB] using h
          have hcl := hO.len
          refine SxC.loop1 (fun (q : Nat) => [(0, .slice A l.length c), (1, .slice B o.length d), (9, .slice (some ⟨gc, 0, none⟩) sent.length sent.length), (17, .int .i64 (q : Int))]) (fun (q : Nat) => [netF w.heap.size gn gm V2 (bagK sent ks) ([] : CutM), rowX [] w.heap.size 57 2 (.slice AS sent.length cS) sent.length (sent.flatMap prL), rowX [] w.heap.size 4 1 (.slice (some ⟨gc, 0, none⟩) sent.length sent.length) cm.length (cm.flatMap bL)]) (fun (gk : Nat) (q : Nat) => q + gk = sent.length) sent.length 0 (by omega) ⟨rfl, rfl, rfl, rfl, trivial⟩ [0, 1, 2] rfl (by decide) ⟨.inl rfl, .inl rfl, .inl rfl, trivial⟩ fun gk q hF => ?_
          have hqg : q + gk = sent.length := hF
          refine SxC.seq (SxC.seq (SxC.region ?_))
          iterate 2 refine SxL.val trivial rfl rfl (fun ρ w E H => ex_move E rfl rfl) ?_
          refine SxL.val (v := .int .i64 (sent.length : Int)) trivial rfl rfl (fun ρ w E H => ex_lenS E rfl Tryz.underlying71 rfl) ?_
          refine SxL.valB trivial rfl rfl (fun ρ w E H => ex_cmp E rfl rfl rfl rfl rfl) fun c166 hc166 => ?_
          refine SxL.nil (SxN.then_ ?_)
          cases c166
          · refine SxC.condF rfl (SxC.exit (SxX.thenE (SxX.thenE (SxX.blockE (SxN.then_ (SxC.seq (SxC.region ?_)))))))
            refine SxL.callB (v := .bool true) trivial rfl rfl (fun ρ w E => ex_call E en_palaver_palaverlaw26_wakes rfl rfl) (fun w H => wakes_any w) ?_
            refine SxL.val trivial rfl rfl (fun ρ w E H => ex_assign E rfl rfl) ?_
            refine SxL.nil (SxN.then_ (SxC.ret ?_))
            refine SxX.done (.bool true) (fun a w K H => res1 K rfl rfl) (fun w H => ?_)
            exact ⟨rfl, H.toBelow ⟨(netF_fresh hgn.1 hgn.2 hV2), hvS.fresh, hgc.fresh, trivial⟩⟩
          · refine SxC.condT rfl (SxC.skip (SxN.then_ (SxC.seq (SxC.block (SxC.seq ?_)))))
            have hql : q < sent.length := by have h := hc166; simp [cmpB] at h; omega
            have hcq := hO.came (k := q) hql (by rw [hks]; simp)
            refine SxC.region ?_
            iterate 2 refine SxL.val trivial rfl rfl (fun ρ w E H => ex_move E rfl rfl) ?_
            refine SxL.val (v := .pointer (some ((⟨gc, 0, none⟩ : Addr).add (q * 1)))) trivial rfl rfl (fun ρ w E H => ex_index (i := q) E rfl Tryz.underlying71 sz_bool rfl rfl hql) ?_
            refine SxL.val (v := .bool true) trivial rfl rfl (fun ρ w E H => ex_loadX0 E ((own_readE bL_len (by decide) (H.get (i := 2) rfl)).rowA hcq) rfl rfl rfl Tryz.underlying4 rfl) ?_
            refine SxL.val (v := .bool false) trivial rfl rfl (fun ρ w E H => ex_not (t := true) E rfl rfl) ?_
            refine SxL.nil (SxN.then_ (SxC.condF rfl (SxC.skip (SxN.block (SxN.then_ (SxC.region ?_))))))
            refine SxL.val trivial rfl rfl (fun ρ w E H => ex_move E rfl rfl) ?_
            refine SxL.val (v := .int .i64 ((q + 1 : Nat) : Int)) trivial rfl rfl (fun ρ w E H => ex_add E rfl rfl rfl (by rw [IntKind.wrap_i64]; omega)) ?_
            refine SxL.val trivial rfl rfl (fun ρ w E H => ex_assign E rfl rfl) ?_
            refine SxL.nil ?_
            refine SxN.back (gk - 1) (q + 1) (by omega) (show q + 1 + (gk - 1) = sent.length by omega) ⟨rfl, rfl, rfl, rfl, trivial⟩ [0, 1, 2] rfl (by decide) ⟨.inl rfl, .inl rfl, .inl rfl, trivial⟩
        · refine SxC.condT rfl (SxC.skip (SxN.then_ (SxC.seq (SxC.block (SxC.seq (SxC.region ?_))))))
          refine SxL.val trivial rfl rfl (fun ρ w E H => ex_move E rfl rfl) ?_
          have hk0 : 0 < ks.length := List.length_pos_iff.2 (fun e => by have h := hc75; rw [hbk, e] at h; simp [cmpB] at h)
          refine SxL.call (σ := Value × List (Nat × Nat)) (fun s => s.1) (fun s => OwnIn w [] s.1 ∧ PairsOf (bagK sent ks) s.2) (fun s => _) trivial rfl rfl (fun ρ w E => ex_call E en_palaver_net_Net_Pairs rfl rfl) (call_pairs (i := 0) rfl (by omega)) fun s hs => ?_
          obtain ⟨vQ, Q⟩ := s
          dsimp only at hs
          obtain ⟨hvQ, hPQ⟩ := hs
          refine SxL.with (p := ∃ A c, vQ = .slice A Q.length c) (fun W H => own_is_slice (H.get (i := 0) rfl)) ?_
          rintro ⟨AQ, cQ, rfl⟩
          obtain ⟨k1, hk1⟩ : ∃ k, k ∈ ks := by (cases ks with | nil => simp at hk0 | cons a l => exact ⟨a, List.mem_cons_self ..⟩)
          have hq1 : prAt sent k1 ∈ Q := (hPQ.mem _).2 (List.mem_map.2 ⟨pcl sent k1, List.mem_map.2 ⟨k1, hk1, rfl⟩, rfl⟩)
          have hQ0 : 0 < Q.length := List.length_pos_of_mem hq1
          refine SxL.with (fun W H => own_some (H.get (i := 0) rfl) hQ0) ?_
          rintro ⟨gq, rfl⟩
          refine SxL.val trivial rfl rfl (fun ρ w E H => ex_assign E rfl rfl) ?_
          refine SxL.nil (SxN.then_ (SxC.seq (SxC.seq (SxC.region ?_))))
          refine SxL.val trivial rfl rfl (fun ρ w E H => ex_move E rfl rfl) ?_
          refine SxL.val (v := .int .i64 (Q.length : Int)) trivial rfl rfl (fun ρ w E H => ex_lenS E rfl Tryz.underlying51 rfl) ?_
          refine SxL.val (v := .bool false) trivial rfl rfl (fun ρ w E H => ex_cmp E rfl rfl rfl rfl (by show ((Q.length : Int) == 0) = false; exact beq_eq_false_iff_ne.2 (by omega))) ?_
          refine SxL.val trivial rfl rfl (fun ρ w E H => ex_move E rfl rfl) ?_
          iterate 2 refine SxL.val ⟨_, _, rfl, rfl, rfl⟩ rfl rfl (fun ρ w E H => ex_move E rfl rfl) ?_
          refine SxL.val (v := .int .i64 (sent.length : Int)) ⟨_, _, rfl, rfl, rfl⟩ rfl rfl (fun ρ w E H => ex_lenS E rfl Tryz.underlying51 rfl) ?_
          refine SxL.val (v := .bool false) ⟨_, _, rfl, rfl, rfl⟩ rfl rfl (fun ρ w E H => ex_cmp E rfl rfl rfl rfl (by simp [cmpB]; omega)) ?_
          refine SxL.val trivial rfl rfl (fun ρ w E H => ex_pick E rfl (t := false) rfl rfl) ?_
          refine SxL.nil (SxN.then_ (SxC.condF rfl (SxC.skip (SxN.then_ (SxC.seq ?_)))))
          obtain ⟨⟨z1, z2⟩, hz⟩ : ∃ x, Q[0]? = some x := ⟨_, List.getElem?_eq_getElem hQ0⟩
          refine SxC.region ?_
          refine SxL.val trivial rfl rfl (fun ρ w E H => ex_move E rfl rfl) ?_
          refine SxL.val (v := .pointer (some ⟨gq, 0, none⟩)) trivial rfl rfl (fun ρ w E H => ex_index0 (i := 0) E rfl Tryz.underlying51 sz_palaver_net_Pair rfl rfl hQ0 rfl) ?_
          refine SxL.val (v := .agg #[.int .u8 (z1 : Int), .int .u8 (z2 : Int)]) trivial rfl rfl (fun ρ w E H => ex_loadX (cs := [.int .u8 (z1 : Int), .int .u8 (z2 : Int)]) E (row_zero ((own_readE prL_len (by decide) (H.get (i := 0) rfl)).rowA hz)) rfl rfl Tryz.underlying57 rfl sz_palaver_net_Pair) ?_
          refine SxL.new (cs := [.int .u8 0, .int .u8 0]) trivial rfl rfl (fun ρ w E H => ex_alloc rfl zr_palaver_net_Pair rfl) fun g1 hg1 => ?_
          refine SxL.storeX (i := 0) [.int .u8 (z1 : Int), .int .u8 (z2 : Int)] trivial rfl rfl rfl rfl rfl sz_palaver_net_Pair rfl rfl rfl (putL_all _ _ rfl) ?_
          refine SxL.nil (SxN.then_ (SxC.seq ?_))
          refine SxC.cut2 (fun (p1 p2 : Nat) => [(0, .slice A l.length c), (1, .slice B o.length d), (5, .pointer (some ⟨gn, 0, none⟩)), (6, .slice AS sent.length cS), (9, .slice (some ⟨gc, 0, none⟩) sent.length sent.length), (10, .int .i64 (r : Int)), (12, .pointer (some ⟨g1, 0, none⟩))]) (fun p1 p2 => [cell g1 57 [.int .u8 (p1 : Int), .int .u8 (p2 : Int)], rowX [] w.heap.size 57 2 (.slice (some ⟨gq, 0, none⟩) Q.length cQ) Q.length (Q.flatMap prL), netF w.heap.size gn gm V2 (bagK sent ks) ([] : CutM), rowX [] w.heap.size 57 2 (.slice AS sent.length cS) sent.length (sent.flatMap prL), rowX [] w.heap.size 4 1 (.slice (some ⟨gc, 0, none⟩) sent.length sent.length) cm.length (cm.flatMap bL)]) (fun p1 p2 => (p1, p2) ∈ Q) ?_ fun p1 p2 hp12 => ?_
          · refine SxC.seq (SxC.region ?_)
            iterate 2 refine SxL.val trivial rfl rfl (fun ρ w E H => ex_move E rfl rfl) ?_
            refine SxL.val (v := .int .i64 (o.length : Int)) trivial rfl rfl (fun ρ w E H => ex_lenS E rfl Tryz.underlying70 rfl) ?_
            refine SxL.valB trivial rfl rfl (fun ρ w E H => ex_cmp E rfl rfl rfl rfl rfl) fun c95 hc95 => ?_
            refine SxL.nil (SxN.then_ ?_)
            cases c95
            · refine SxC.condF rfl (SxC.skip ?_)
              refine SxN.meet (z1, z2) (List.mem_of_getElem? hz) ⟨rfl, rfl, rfl, rfl, rfl, rfl, rfl, trivial⟩ [0, 1, 2, 3, 4] rfl (by decide) ⟨.inl rfl, .inl rfl, .inl rfl, .inl rfl, .inl rfl, trivial⟩
            · refine SxC.condT rfl ?_
              have hro : r < o.length := by have h := hc95; simp [cmpB] at h; omega
              obtain ⟨ov, hov⟩ : ∃ x, o[r]? = some x := ⟨_, List.getElem?_eq_getElem hro⟩
              have hovl := hW ov (List.mem_of_getElem? hov)
              obtain ⟨bo, rfl, -, -⟩ := hB.row hov
              have hmd : ov % Q.length < Q.length := Nat.mod_lt _ hQ0
              obtain ⟨⟨o1, o2⟩, ho⟩ : ∃ x, Q[ov % Q.length]? = some x := ⟨_, List.getElem?_eq_getElem hmd⟩
              refine SxC.region ?_
              iterate 3 refine SxL.val trivial rfl rfl (fun ρ w E H => ex_move E rfl rfl) ?_
              refine SxL.val (v := .pointer (some (bo.add (r * 1)))) trivial rfl rfl (fun ρ w E H => ex_index (i := r) E rfl Tryz.underlying70 sz_uint16 rfl rfl hro) ?_
              refine SxL.val (v := .int .u16 (ov : Int)) trivial rfl rfl (fun ρ w E H => ex_loadX0 E ((hB.below (H.toBelow ⟨(fun g hg => by rw [List.mem_singleton.1 hg]; exact hg1), hvQ.fresh, (netF_fresh hgn.1 hgn.2 hV2), hvS.fresh, hgc.fresh, trivial⟩)).rowA hov) rfl rfl rfl Tryz.underlying73 rfl) ?_
              refine SxL.val (v := .int .i64 (ov : Int)) trivial rfl rfl (fun ρ w E H => ex_convInt E rfl Tryz.underlying73 Tryz.underlying3 rfl (by rw [IntKind.wrap_i64]; omega)) ?_
              refine SxL.val trivial rfl rfl (fun ρ w E H => ex_move E rfl rfl) ?_
              refine SxL.val (v := .int .i64 (Q.length : Int)) trivial rfl rfl (fun ρ w E H => ex_lenS E rfl Tryz.underlying51 rfl) ?_
              refine SxL.val (v := .int .i64 ((ov % Q.length : Nat) : Int)) trivial rfl rfl (fun ρ w E H => ex_rem E rfl rfl rfl (by omega) (by exact (Int.ofNat_tmod _ _).symm)) ?_
              refine SxL.val (v := .pointer (some ((⟨gq, 0, none⟩ : Addr).add ((ov % Q.length : Nat) * 2)))) trivial rfl rfl (fun ρ w E H => ex_index (i := (ov % Q.length : Nat)) E rfl Tryz.underlying51 sz_palaver_net_Pair rfl rfl hmd) ?_
              refine SxL.val (v := .agg #[.int .u8 (o1 : Int), .int .u8 (o2 : Int)]) trivial rfl rfl (fun ρ w E H => ex_loadX (cs := [.int .u8 (o1 : Int), .int .u8 (o2 : Int)]) E ((own_readE prL_len (by decide) (H.get (i := 1) rfl)).rowA ho) rfl rfl Tryz.underlying57 rfl sz_palaver_net_Pair) ?_
              refine SxL.storeX (i := 0) [.int .u8 (o1 : Int), .int .u8 (o2 : Int)] trivial rfl rfl rfl rfl rfl sz_palaver_net_Pair rfl rfl rfl (putL_all _ _ rfl) ?_
              refine SxL.nil ?_
              refine SxN.meet (o1, o2) (List.mem_of_getElem? ho) ⟨rfl, rfl, rfl, rfl, rfl, rfl, rfl, trivial⟩ [0, 1, 2, 3, 4] rfl (by decide) ⟨.inl rfl, .inl rfl, .inl rfl, .inl rfl, .inl rfl, trivial⟩
          refine SxN.then_ (SxC.seq ?_)
          obtain ⟨jj, kk, htk, hj, hpk, hno⟩ := hO.take (p := (p1, p2)) hs5 ((hPQ.mem _).1 hp12)
          have hjl : jj < ks.length := (List.getElem?_eq_some_iff.1 hj).1
          have hkm := List.mem_of_getElem? hj
          have hkk := hO.lt kk hkm
          have hcl := hO.len
          have hpx := prAt_some hkk hpk
          have hcf := hO.not hkm
          dsimp only at htk
          refine SxC.region ?_
          refine SxL.val trivial rfl rfl (fun ρ w E H => ex_move E rfl rfl) ?_
          refine SxL.val (v := .pointer (some ⟨g1, 0, none⟩)) trivial rfl rfl (fun ρ w E H => ex_field E rfl fa_palaver_net_Pair_0 rfl rfl) ?_
          refine SxL.val trivial rfl rfl (fun ρ w E H => ex_load1 E (H.get (i := 0) rfl) rfl rfl Tryz.underlying5 rfl rfl) ?_
          refine SxL.val (v := .pointer (some ⟨g1, 1, none⟩)) trivial rfl rfl (fun ρ w E H => ex_field E rfl fa_palaver_net_Pair_1 rfl rfl) ?_
          refine SxL.val trivial rfl rfl (fun ρ w E H => ex_load1 E (H.get (i := 0) rfl) rfl rfl Tryz.underlying5 rfl rfl) ?_
          refine SxL.call (σ := Value × Value × Value) (fun q => .tuple #[.agg (.int .u8 ((((bagK sent (ks.eraseIdx jj)), ((p1, p2, askM kk) : Nat × Nat × Ms), 0)).2.1.1 : Int) :: .int .u8 ((((bagK sent (ks.eraseIdx jj)), ((p1, p2, askM kk) : Nat × Nat × Ms), 0)).2.1.2.1 : Int) :: msL (((bagK sent (ks.eraseIdx jj)), ((p1, p2, askM kk) : Nat × Nat × Ms), 0)).2.1.2.2 q.2.1 q.2.2).toArray, .int .i64 ((((bagK sent (ks.eraseIdx jj)), ((p1, p2, askM kk) : Nat × Nat × Ms), 0)).2.2 : Int)]) (fun q => OwnIn w [] q.1 ∧ OwnIn w [] q.2.1 ∧ OwnIn w [] q.2.2) (fun q => _) trivial rfl rfl (fun ρ w E => ex_call E en_palaver_net_Net_Take rfl rfl) (call_takeN (i := 2) (r := ((bagK sent (ks.eraseIdx jj)), ((p1, p2, askM kk) : Nat × Nat × Ms), 0)) rfl hV2 (by rw [hbk]; omega) AllT_nil (bagK_bytes (fun k hk => by have := hO.lt k hk; omega)) htk) fun q hq113 => ?_
          obtain ⟨V113, U113, I113⟩ := q
          dsimp only at hq113
          refine SxL.with (fun W H => own_is_slice (H.get (i := 0) rfl)) ?_
          rintro ⟨UA113, uk113, rfl⟩
          refine SxL.with (fun W H => own_is_slice (H.get (i := 1) rfl)) ?_
          rintro ⟨IA113, ik113, rfl⟩
          refine SxL.val trivial rfl rfl (fun ρ w E H => ex_move E rfl rfl) ?_
          refine SxL.val trivial rfl rfl (fun ρ w E H => ex_extract E rfl rfl rfl) ?_
          refine SxL.val (v := .int .i64 0) trivial rfl rfl (fun ρ w E H => ex_extract E rfl rfl rfl) ?_
          refine SxL.new (cs := [.int .u8 0, .int .u8 0, .int .u8 0, .int .u64 0, .int .u8 0, .int .u64 0, .int .u64 0, .int .u8 0, .string ⟨[].toArray⟩, .slice none 0 0, .slice none 0 0, .int .u8 0, .int .u32 0, .int .u8 0, .string ⟨[].toArray⟩, .string ⟨[].toArray⟩, .string ⟨[].toArray⟩, .int .u8 0, .int .u8 0, .string ⟨[].toArray⟩]) trivial rfl rfl (fun ρ w E H => ex_alloc rfl zr_palaver_api_Letter rfl) fun g2 hg2 => ?_
          refine SxL.storeX (i := 0) [.int .u8 (p1 : Int), .int .u8 (p2 : Int), .int .u8 10, .int .u64 0, .int .u8 0, .int .u64 0, .int .u64 (kk : Int), .int .u8 0, .string ⟨[].toArray⟩, .slice UA113 0 uk113, .slice IA113 0 ik113, .int .u8 0, .int .u32 0, .int .u8 0, .string ⟨[].toArray⟩, .string ⟨[].toArray⟩, .string ⟨[].toArray⟩, .int .u8 0, .int .u8 0, .string ⟨[].toArray⟩] trivial rfl rfl rfl rfl rfl sz_palaver_api_Letter rfl rfl rfl (putL_all _ _ rfl) ?_
          refine SxL.val trivial rfl rfl (fun ρ w E H => ex_assign E rfl rfl) ?_
          refine SxL.nil (SxN.then_ (SxC.seq (SxC.region ?_)))
          refine SxL.val (v := .pointer (some ⟨g2, 2, none⟩)) trivial rfl rfl (fun ρ w E H => ex_field E rfl fa_palaver_api_Letter_2 rfl rfl) ?_
          refine SxL.val (v := .pointer (some ⟨g2, 6, none⟩)) trivial rfl rfl (fun ρ w E H => ex_field E rfl fa_palaver_api_Msg_3 rfl rfl) ?_
          refine SxL.val trivial rfl rfl (fun ρ w E H => ex_load1 E (H.get (i := 0) rfl) rfl rfl Tryz.underlying22 rfl rfl) ?_
          refine SxL.val trivial rfl rfl (fun ρ w E H => ex_assign E rfl rfl) ?_
          refine SxL.nil (SxN.then_ (SxC.seq (SxC.seq ?_)))
          refine SxC.with (fun W H => own_some (H.get (i := 6) rfl) (by omega)) ?_
          rintro ⟨gs, rfl⟩
          refine SxC.drawnK [] [0, 1, 2, 3, 4, 5, 6, 7] (by kernel_rfl) rfl ⟨(fun g hg => by rw [List.mem_singleton.1 hg]; exact .inr hg2), (fun g hg => .inr (hq113.2.1.fresh g hg)), (fun g hg => .inr (hq113.2.2.fresh g hg)), (fun g hg => by rw [List.mem_singleton.1 hg]; exact .inr hg1), (fun g hg => .inr (hvQ.fresh g hg)), (fun g hg => .inr ((netF_fresh hgn.1 hgn.2 hq113.1) g hg)), (fun g hg => .inr (hvS.fresh g hg)), (fun g hg => .inr (hgc.fresh g hg)), trivial⟩ ?_
          refine SxA.take (i := 0) rfl (by kernel_rfl) (by kernel_rfl) (by kernel_rfl) rfl rfl (fun _ _ _ h => h) trivial (fun ρ w E H => ex_move E rfl rfl) ?_
          refine SxA.take (i := 1) (v := .bool false) rfl (by kernel_rfl) (by kernel_rfl) (by kernel_rfl) rfl rfl (fun _ _ _ h => h) trivial (fun ρ w E H => ex_cmp E rfl rfl rfl rfl (by decide)) ?_
          refine SxA.take (i := 2) rfl (by kernel_rfl) (by kernel_rfl) (by kernel_rfl) rfl rfl (fun _ _ _ h => h) trivial (fun ρ w E H => ex_move E rfl rfl) ?_
          refine SxA.take (i := 3) rfl (by kernel_rfl) (by kernel_rfl) (by kernel_rfl) rfl rfl (fun _ _ _ h => h) ⟨_, _, rfl, rfl, rfl⟩ (fun ρ w E H => ex_move E rfl rfl) ?_
          refine SxA.take (i := 4) rfl (by kernel_rfl) (by kernel_rfl) (by kernel_rfl) rfl rfl (fun _ _ _ h => h) ⟨_, _, rfl, rfl, rfl⟩ (fun ρ w E H => ex_move E rfl rfl) ?_
          refine SxA.take (i := 5) (v := .int .i64 (sent.length : Int)) rfl (by kernel_rfl) (by kernel_rfl) (by kernel_rfl) rfl rfl (fun _ _ _ h => h) ⟨_, _, rfl, rfl, rfl⟩ (fun ρ w E H => ex_lenS E rfl Tryz.underlying51 rfl) ?_
          refine SxA.take (i := 6) (v := .int .u64 (sent.length : Int)) rfl (by kernel_rfl) (by kernel_rfl) (by kernel_rfl) rfl rfl (fun _ _ _ h => h) ⟨_, _, rfl, rfl, rfl⟩ (fun ρ w E H => ex_convInt E rfl Tryz.underlying3 Tryz.underlying22 rfl (by rw [IntKind.wrap_u64]; omega)) ?_
          refine SxA.take (i := 7) (v := .bool false) rfl (by kernel_rfl) (by kernel_rfl) (by kernel_rfl) rfl rfl (fun _ _ _ h => h) ⟨_, _, rfl, rfl, rfl⟩ (fun ρ w E H => ex_cmp E rfl rfl rfl rfl (by simp [cmpB]; omega)) ?_
          refine SxA.take (i := 8) rfl (by kernel_rfl) (by kernel_rfl) (by kernel_rfl) rfl rfl (fun _ _ _ h => h) trivial (fun ρ w E H => ex_pick E rfl (t := false) rfl rfl) ?_
          refine SxA.take (i := 9) rfl (by kernel_rfl) (by kernel_rfl) (by kernel_rfl) rfl rfl (fun _ _ _ h => h) trivial (fun ρ w E H => ex_move E rfl rfl) ?_
          refine SxA.take (i := 10) rfl (by kernel_rfl) (by kernel_rfl) (by kernel_rfl) rfl rfl (fun _ _ _ h => h) ⟨_, _, rfl, rfl, rfl⟩ (fun ρ w E H => ex_move E rfl rfl) ?_
          refine SxA.take (i := 11) rfl (by kernel_rfl) (by kernel_rfl) (by kernel_rfl) rfl rfl (fun _ _ _ h => h) ⟨_, _, rfl, rfl, rfl⟩ (fun ρ w E H => ex_move E rfl rfl) ?_
          refine SxA.take (i := 12) (v := .pointer (some ((⟨gc, 0, none⟩ : Addr).add (kk * 1)))) rfl (by kernel_rfl) (by kernel_rfl) (by kernel_rfl) rfl rfl (fun _ _ _ h => h) ⟨_, _, rfl, rfl, rfl⟩ (fun ρ w E H => ex_index (i := kk) E rfl Tryz.underlying71 sz_bool rfl rfl (by omega)) ?_
          refine SxA.take (i := 13) (v := .bool false) rfl (by kernel_rfl) (by kernel_rfl) (by kernel_rfl) rfl rfl (fun _ _ _ h => h) ⟨_, _, rfl, rfl, rfl⟩ (fun ρ w E H => ex_loadX0 E ((own_readE bL_len (by decide) (H.get (i := 7) rfl)).rowA hcf) rfl rfl rfl Tryz.underlying4 rfl) ?_
          refine SxA.take (i := 14) rfl (by kernel_rfl) (by kernel_rfl) (by kernel_rfl) rfl rfl (fun _ _ _ h => h) trivial (fun ρ w E H => ex_pick E rfl (t := false) rfl rfl) ?_
          refine SxA.take (i := 15) rfl (by kernel_rfl) (by kernel_rfl) (by kernel_rfl) rfl rfl (fun _ _ _ h => h) trivial (fun ρ w E H => ex_move E rfl rfl) ?_
          refine SxA.take (i := 16) rfl (by kernel_rfl) (by kernel_rfl) (by kernel_rfl) rfl rfl (fun _ _ _ h => h) ⟨_, _, rfl, rfl, rfl⟩ (fun ρ w E H => ex_move E rfl rfl) ?_
          refine SxA.take (i := 17) rfl (by kernel_rfl) (by kernel_rfl) (by kernel_rfl) rfl rfl (fun _ _ _ h => h) ⟨_, _, rfl, rfl, rfl⟩ (fun ρ w E H => ex_move E rfl rfl) ?_
          refine SxA.take (i := 18) (v := .pointer (some ((⟨gs, 0, none⟩ : Addr).add (kk * 2)))) rfl (by kernel_rfl) (by kernel_rfl) (by kernel_rfl) rfl rfl (fun _ _ _ h => h) ⟨_, _, rfl, rfl, rfl⟩ (fun ρ w E H => ex_index (i := kk) E rfl Tryz.underlying51 sz_palaver_net_Pair rfl rfl hkk) ?_
          refine SxA.take (i := 19) (v := .agg #[.int .u8 (p1 : Int), .int .u8 (p2 : Int)]) rfl (by kernel_rfl) (by kernel_rfl) (by kernel_rfl) rfl rfl (fun _ _ _ h => h) ⟨_, _, rfl, rfl, rfl⟩ (fun ρ w E H => ex_loadX (cs := [.int .u8 (p1 : Int), .int .u8 (p2 : Int)]) E ((own_readE prL_len (by decide) (H.get (i := 6) rfl)).rowA hpx) rfl rfl Tryz.underlying57 rfl sz_palaver_net_Pair) ?_
          refine SxA.take (i := 20) rfl (by kernel_rfl) (by kernel_rfl) (by kernel_rfl) rfl rfl (fun _ _ _ h => h) ⟨_, _, rfl, rfl, rfl⟩ (fun ρ w E H => ex_load (part := [.int .u8 (p1 : Int), .int .u8 (p2 : Int)]) E (H.get (i := 3) rfl) rfl rfl Tryz.underlying57 rfl sz_palaver_net_Pair rfl rfl) ?_
          refine SxA.take (i := 21) (v := .bool false) rfl (by kernel_rfl) (by kernel_rfl) (by kernel_rfl) rfl rfl (fun _ _ _ h => h) ⟨_, _, rfl, rfl, rfl⟩ (fun ρ w E H => ex_aneq E rfl (by kernel_rfl) rfl rfl (fun w => by rw [Bool.not_false, eq_pair_lit]; simp)) ?_
          refine SxA.take (i := 22) rfl (by kernel_rfl) (by kernel_rfl) (by kernel_rfl) rfl rfl (fun _ _ _ h => h) trivial (fun ρ w E H => ex_pick E rfl (t := false) rfl rfl) ?_
          refine SxA.done (by kernel_rfl) ?_
          refine SxN.then_ (SxC.condF rfl (SxC.skip (SxN.then_ (SxC.seq (SxC.seq (SxC.region ?_))))))
          refine SxL.val trivial rfl rfl (fun ρ w E H => ex_assign E rfl rfl) ?_
          refine SxL.nil (SxN.then_ (SxC.block ?_))
          refine SxC.loop1 (fun (j : Nat) => [(0, .slice A l.length c), (1, .slice B o.length d), (5, .pointer (some ⟨gn, 0, none⟩)), (6, .slice (some ⟨gs, 0, none⟩) sent.length cS), (9, .slice (some ⟨gc, 0, none⟩) sent.length sent.length), (10, .int .i64 (r : Int)), (12, .pointer (some ⟨g1, 0, none⟩)), (15, .int .u64 (kk : Int)), (16, .int .u64 (j : Int))]) (fun (j : Nat) => [cell g2 59 [.int .u8 (p1 : Int), .int .u8 (p2 : Int), .int .u8 10, .int .u64 0, .int .u8 0, .int .u64 0, .int .u64 (kk : Int), .int .u8 0, .string ⟨[].toArray⟩, .slice UA113 0 uk113, .slice IA113 0 ik113, .int .u8 0, .int .u32 0, .int .u8 0, .string ⟨[].toArray⟩, .string ⟨[].toArray⟩, .string ⟨[].toArray⟩, .int .u8 0, .int .u8 0, .string ⟨[].toArray⟩], rowX [] w.heap.size 92 4 (.slice UA113 0 uk113) 0 [], rowX [] w.heap.size 94 2 (.slice IA113 0 ik113) 0 [], cell g1 57 [.int .u8 (p1 : Int), .int .u8 (p2 : Int)], rowX [] w.heap.size 57 2 (.slice (some ⟨gq, 0, none⟩) Q.length cQ) Q.length (Q.flatMap prL), netF w.heap.size gn gm V113 (bagK sent (ks.eraseIdx jj)) ([] : CutM), rowX [] w.heap.size 57 2 (.slice (some ⟨gs, 0, none⟩) sent.length cS) sent.length (sent.flatMap prL), rowX [] w.heap.size 4 1 (.slice (some ⟨gc, 0, none⟩) sent.length sent.length) cm.length (cm.flatMap bL)]) (fun (gk : Nat) (j : Nat) => j + gk = kk) kk 0 (by omega) ⟨rfl, rfl, rfl, rfl, rfl, rfl, rfl, rfl, rfl, trivial⟩ [0, 1, 2, 3, 4, 5, 6, 7] rfl (by decide) ⟨.inl rfl, .inl rfl, .inl rfl, .inl rfl, .inl rfl, .inl rfl, .inl rfl, .inl rfl, trivial⟩ fun gk j hF => ?_
          have hjg : j + gk = kk := hF
          refine SxC.seq (SxC.seq (SxC.region ?_))
          iterate 2 refine SxL.val trivial rfl rfl (fun ρ w E H => ex_move E rfl rfl) ?_
          refine SxL.valB trivial rfl rfl (fun ρ w E H => ex_cmp E rfl rfl rfl rfl rfl) fun c144 hc144 => ?_
          refine SxL.nil (SxN.then_ ?_)
          cases c144
          · refine SxC.condF rfl (SxC.exit (SxX.thenE (SxX.thenE (SxX.blockE (SxN.then_ (SxC.region ?_))))))
            iterate 2 refine SxL.val trivial rfl rfl (fun ρ w E H => ex_move E rfl rfl) ?_
            refine SxL.val (v := .pointer (some ((⟨gc, 0, none⟩ : Addr).add (kk * 1)))) trivial rfl rfl (fun ρ w E H => ex_index (i := kk) E rfl Tryz.underlying71 sz_bool rfl rfl (by omega)) ?_
            refine SxL.skipG _ trivial rfl (fun ρ w E H => Hp.storeEl (cells := bL) (l := cm) (y := true) (k := kk) (i := 7) bL_len E H rfl rfl rfl rfl (by omega) sz_bool rfl rfl) ?_
            refine SxL.nil (SxN.block (SxN.then_ (SxC.region ?_)))
            refine SxL.val trivial rfl rfl (fun ρ w E H => ex_move E rfl rfl) ?_
            refine SxL.val (v := .int .i64 ((r + 1 : Nat) : Int)) trivial rfl rfl (fun ρ w E H => ex_add E rfl rfl rfl (by rw [IntKind.wrap_i64]; omega)) ?_
            refine SxL.val trivial rfl rfl (fun ρ w E H => ex_assign E rfl rfl) ?_
            refine SxL.nil ?_
            refine SxN.back ((ks.eraseIdx jj).length) (V113, r + 1, (ks.eraseIdx jj), (cm.set kk true)) (by rw [List.length_eraseIdx_of_lt hjl]; omega) ⟨show r + 1 + (ks.eraseIdx jj).length = sent.length by rw [List.length_eraseIdx_of_lt hjl]; omega, rfl, hO.next hj, hq113.1⟩ ⟨rfl, rfl, rfl, rfl, rfl, rfl, trivial⟩ [5, 6, 7] rfl (by decide) ⟨.inr (fun g hg => by rw [List.mem_singleton.1 hg]; exact hg2), .inr (hq113.2.1.fresh), .inr (hq113.2.2.fresh), .inr (fun g hg => by rw [List.mem_singleton.1 hg]; exact hg1), .inr (hvQ.fresh), .inl rfl, .inl rfl, .inl rfl, trivial⟩
          · refine SxC.condT rfl (SxC.skip (SxN.then_ (SxC.seq (SxC.block (SxC.seq ?_)))))
            have hjk : j < kk := by have h := hc144; simp [cmpB] at h; omega
            obtain ⟨⟨s1, s2⟩, hs⟩ : ∃ x, sent[j]? = some x := ⟨_, List.getElem?_eq_getElem (by omega)⟩
            rcases Decidable.em ((s1, s2) = (p1, p2)) with he | he
            · injection he with he1 he2
              subst he1 he2
              have hcj := hO.came (k := j) (by omega) (hno j hjk (by unfold prAt; rw [hs]; rfl))
              refine SxC.drawnK [] [0, 1, 2, 3, 4, 5, 6, 7] (by kernel_rfl) rfl ⟨(fun g hg => by rw [List.mem_singleton.1 hg]; exact .inr hg2), (fun g hg => .inr (hq113.2.1.fresh g hg)), (fun g hg => .inr (hq113.2.2.fresh g hg)), (fun g hg => by rw [List.mem_singleton.1 hg]; exact .inr hg1), (fun g hg => .inr (hvQ.fresh g hg)), (fun g hg => .inr ((netF_fresh hgn.1 hgn.2 hq113.1) g hg)), (fun g hg => .inr (hvS.fresh g hg)), (fun g hg => .inr (hgc.fresh g hg)), trivial⟩ ?_
              refine SxA.take (i := 0) rfl (by kernel_rfl) (by kernel_rfl) (by kernel_rfl) rfl rfl (fun _ _ _ h => h) trivial (fun ρ w E H => ex_move E rfl rfl) ?_
              refine SxA.take (i := 1) rfl (by kernel_rfl) (by kernel_rfl) (by kernel_rfl) rfl rfl (fun _ _ _ h => h) trivial (fun ρ w E H => ex_move E rfl rfl) ?_
              refine SxA.take (i := 2) (v := .pointer (some ((⟨gs, 0, none⟩ : Addr).add (j * 2)))) rfl (by kernel_rfl) (by kernel_rfl) (by kernel_rfl) rfl rfl (fun _ _ _ h => h) trivial (fun ρ w E H => ex_index (i := j) E rfl Tryz.underlying51 sz_palaver_net_Pair rfl rfl (by omega)) ?_
              refine SxA.take (i := 3) (v := .agg #[.int .u8 (s1 : Int), .int .u8 (s2 : Int)]) rfl (by kernel_rfl) (by kernel_rfl) (by kernel_rfl) rfl rfl (fun _ _ _ h => h) trivial (fun ρ w E H => ex_loadX (cs := [.int .u8 (s1 : Int), .int .u8 (s2 : Int)]) E ((own_readE prL_len (by decide) (H.get (i := 6) rfl)).rowA hs) rfl rfl Tryz.underlying57 rfl sz_palaver_net_Pair) ?_
              refine SxA.take (i := 4) rfl (by kernel_rfl) (by kernel_rfl) (by kernel_rfl) rfl rfl (fun _ _ _ h => h) trivial (fun ρ w E H => ex_load (part := [.int .u8 (s1 : Int), .int .u8 (s2 : Int)]) E (H.get (i := 3) rfl) rfl rfl Tryz.underlying57 rfl sz_palaver_net_Pair rfl rfl) ?_
              refine SxA.take (i := 5) (v := .bool true) rfl (by kernel_rfl) (by kernel_rfl) (by kernel_rfl) rfl rfl (fun _ _ _ h => h) trivial (fun ρ w E H => ex_aeql E rfl (by kernel_rfl) rfl rfl (fun w => by rw [eq_pair_lit]; simp)) ?_
              refine SxA.take (i := 6) rfl (by kernel_rfl) (by kernel_rfl) (by kernel_rfl) rfl rfl (fun _ _ _ h => h) trivial (fun ρ w E H => ex_move E rfl rfl) ?_
              refine SxA.take (i := 7) rfl (by kernel_rfl) (by kernel_rfl) (by kernel_rfl) rfl rfl (fun _ _ _ h => h) ⟨_, _, rfl, rfl, rfl⟩ (fun ρ w E H => ex_move E rfl rfl) ?_
              refine SxA.take (i := 8) rfl (by kernel_rfl) (by kernel_rfl) (by kernel_rfl) rfl rfl (fun _ _ _ h => h) ⟨_, _, rfl, rfl, rfl⟩ (fun ρ w E H => ex_move E rfl rfl) ?_
              refine SxA.take (i := 9) (v := .pointer (some ((⟨gc, 0, none⟩ : Addr).add (j * 1)))) rfl (by kernel_rfl) (by kernel_rfl) (by kernel_rfl) rfl rfl (fun _ _ _ h => h) ⟨_, _, rfl, rfl, rfl⟩ (fun ρ w E H => ex_index (i := j) E rfl Tryz.underlying71 sz_bool rfl rfl (by omega)) ?_
              refine SxA.take (i := 10) (v := .bool true) rfl (by kernel_rfl) (by kernel_rfl) (by kernel_rfl) rfl rfl (fun _ _ _ h => h) ⟨_, _, rfl, rfl, rfl⟩ (fun ρ w E H => ex_loadX0 E ((own_readE bL_len (by decide) (H.get (i := 7) rfl)).rowA hcj) rfl rfl rfl Tryz.underlying4 rfl) ?_
              refine SxA.take (i := 11) (v := .bool false) rfl (by kernel_rfl) (by kernel_rfl) (by kernel_rfl) rfl rfl (fun _ _ _ h => h) ⟨_, _, rfl, rfl, rfl⟩ (fun ρ w E H => ex_not (t := true) E rfl rfl) ?_
              refine SxA.take (i := 12) rfl (by kernel_rfl) (by kernel_rfl) (by kernel_rfl) rfl rfl (fun _ _ _ h => h) trivial (fun ρ w E H => ex_pick E rfl (t := true) rfl rfl) ?_
              refine SxA.done (by kernel_rfl) ?_
              refine SxN.then_ (SxC.condF rfl (SxC.skip (SxN.block (SxN.then_ (SxC.region ?_)))))
              refine SxL.val trivial rfl rfl (fun ρ w E H => ex_move E rfl rfl) ?_
              refine SxL.val (v := .int .u64 ((j + 1 : Nat) : Int)) trivial rfl rfl (fun ρ w E H => ex_add E rfl rfl rfl (by rw [IntKind.wrap_u64]; omega)) ?_
              refine SxL.val trivial rfl rfl (fun ρ w E H => ex_assign E rfl rfl) ?_
              refine SxL.nil ?_
              refine SxN.back (gk - 1) (j + 1) (by omega) (show j + 1 + (gk - 1) = kk by omega) ⟨rfl, rfl, rfl, rfl, rfl, rfl, rfl, rfl, rfl, trivial⟩ [0, 1, 2, 3, 4, 5, 6, 7] rfl (by decide) ⟨.inl rfl, .inl rfl, .inl rfl, .inl rfl, .inl rfl, .inl rfl, .inl rfl, .inl rfl, trivial⟩
            · refine SxC.drawnK [] [0, 1, 2, 3, 4, 5, 6, 7] (by kernel_rfl) rfl ⟨(fun g hg => by rw [List.mem_singleton.1 hg]; exact .inr hg2), (fun g hg => .inr (hq113.2.1.fresh g hg)), (fun g hg => .inr (hq113.2.2.fresh g hg)), (fun g hg => by rw [List.mem_singleton.1 hg]; exact .inr hg1), (fun g hg => .inr (hvQ.fresh g hg)), (fun g hg => .inr ((netF_fresh hgn.1 hgn.2 hq113.1) g hg)), (fun g hg => .inr (hvS.fresh g hg)), (fun g hg => .inr (hgc.fresh g hg)), trivial⟩ ?_
              refine SxA.take (i := 0) rfl (by kernel_rfl) (by kernel_rfl) (by kernel_rfl) rfl rfl (fun _ _ _ h => h) trivial (fun ρ w E H => ex_move E rfl rfl) ?_
              refine SxA.take (i := 1) rfl (by kernel_rfl) (by kernel_rfl) (by kernel_rfl) rfl rfl (fun _ _ _ h => h) trivial (fun ρ w E H => ex_move E rfl rfl) ?_
              refine SxA.take (i := 2) (v := .pointer (some ((⟨gs, 0, none⟩ : Addr).add (j * 2)))) rfl (by kernel_rfl) (by kernel_rfl) (by kernel_rfl) rfl rfl (fun _ _ _ h => h) trivial (fun ρ w E H => ex_index (i := j) E rfl Tryz.underlying51 sz_palaver_net_Pair rfl rfl (by omega)) ?_
              refine SxA.take (i := 3) (v := .agg #[.int .u8 (s1 : Int), .int .u8 (s2 : Int)]) rfl (by kernel_rfl) (by kernel_rfl) (by kernel_rfl) rfl rfl (fun _ _ _ h => h) trivial (fun ρ w E H => ex_loadX (cs := [.int .u8 (s1 : Int), .int .u8 (s2 : Int)]) E ((own_readE prL_len (by decide) (H.get (i := 6) rfl)).rowA hs) rfl rfl Tryz.underlying57 rfl sz_palaver_net_Pair) ?_
              refine SxA.take (i := 4) rfl (by kernel_rfl) (by kernel_rfl) (by kernel_rfl) rfl rfl (fun _ _ _ h => h) trivial (fun ρ w E H => ex_load (part := [.int .u8 (p1 : Int), .int .u8 (p2 : Int)]) E (H.get (i := 3) rfl) rfl rfl Tryz.underlying57 rfl sz_palaver_net_Pair rfl rfl) ?_
              refine SxA.take (i := 5) (v := .bool false) rfl (by kernel_rfl) (by kernel_rfl) (by kernel_rfl) rfl rfl (fun _ _ _ h => h) trivial (fun ρ w E H => ex_aeql E rfl (by kernel_rfl) rfl rfl (fun w => by rw [eq_pair_lit]; simpa using he)) ?_
              refine SxA.take (i := 6) rfl (by kernel_rfl) (by kernel_rfl) (by kernel_rfl) rfl rfl (fun _ _ _ h => h) trivial (fun ρ w E H => ex_move E rfl rfl) ?_
              refine SxA.takeOff (i := 7) rfl (by kernel_rfl) (by kernel_rfl) (by kernel_rfl) rfl rfl (fun _ _ _ h => h) ⟨_, _, _, rfl, rfl, rfl, nofun⟩ ?_
              refine SxA.takeOff (i := 8) rfl (by kernel_rfl) (by kernel_rfl) (by kernel_rfl) rfl rfl (fun _ _ _ h => h) ⟨_, _, _, rfl, rfl, rfl, nofun⟩ ?_
              refine SxA.takeOff (i := 9) rfl (by kernel_rfl) (by kernel_rfl) (by kernel_rfl) rfl rfl (fun _ _ _ h => h) ⟨_, _, _, rfl, rfl, rfl, nofun⟩ ?_
              refine SxA.takeOff (i := 10) rfl (by kernel_rfl) (by kernel_rfl) (by kernel_rfl) rfl rfl (fun _ _ _ h => h) ⟨_, _, _, rfl, rfl, rfl, nofun⟩ ?_
              refine SxA.takeOff (i := 11) rfl (by kernel_rfl) (by kernel_rfl) (by kernel_rfl) rfl rfl (fun _ _ _ h => h) ⟨_, _, _, rfl, rfl, rfl, nofun⟩ ?_
              refine SxA.take (i := 12) rfl (by kernel_rfl) (by kernel_rfl) (by kernel_rfl) rfl rfl (fun _ _ _ h => h) trivial (fun ρ w E H => ex_pick E rfl (t := false) rfl rfl) ?_
              refine SxA.done (by kernel_rfl) ?_
              refine SxN.then_ (SxC.condF rfl (SxC.skip (SxN.block (SxN.then_ (SxC.region ?_)))))
              refine SxL.val trivial rfl rfl (fun ρ w E H => ex_move E rfl rfl) ?_
              refine SxL.val (v := .int .u64 ((j + 1 : Nat) : Int)) trivial rfl rfl (fun ρ w E H => ex_add E rfl rfl rfl (by rw [IntKind.wrap_u64]; omega)) ?_
              refine SxL.val trivial rfl rfl (fun ρ w E H => ex_assign E rfl rfl) ?_
              refine SxL.nil ?_
              refine SxN.back (gk - 1) (j + 1) (by omega) (show j + 1 + (gk - 1) = kk by omega) ⟨rfl, rfl, rfl, rfl, rfl, rfl, rfl, rfl, rfl, trivial⟩ [0, 1, 2, 3, 4, 5, 6, 7] rfl (by decide) ⟨.inl rfl, .inl rfl, .inl rfl, .inl rfl, .inl rfl, .inl rfl, .inl rfl, .inl rfl, trivial⟩
      · refine SxC.condT rfl (SxC.skip (SxN.then_ (SxC.seq (SxC.block (SxC.seq ?_)))))
        have hkl : i < l.length := by have h := hc31; simp [cmpB] at h; omega
        obtain ⟨⟨f, t⟩, hx⟩ : ∃ x, l[i]? = some x := ⟨_, List.getElem?_eq_getElem hkl⟩
        obtain ⟨ad, rfl, -, -⟩ := hA.row hx
        refine SxC.with (fun W H => own_is_slice (H.get (i := 1) rfl)) ?_
        rintro ⟨AS, cS, rfl⟩
        rcases order_send sent f t hs5 with ⟨hsl, hsd⟩ | ⟨hsl, hsd⟩ | ⟨hsl, hsd⟩ | ⟨hsl, hapt, hsd⟩
        · refine SxC.drawnK [] [1] (by kernel_rfl) rfl ⟨(fun g hg => .inr ((netF_fresh hgn.1 hgn.2 hV) g hg)), (fun g hg => .inr (hvS.fresh g hg)), trivial⟩ ?_
          refine SxA.take (i := 0) rfl (by kernel_rfl) (by kernel_rfl) (by kernel_rfl) rfl rfl (fun _ _ _ h => h) trivial (fun ρ w E H => ex_move E rfl rfl) ?_
          refine SxA.take (i := 1) rfl (by kernel_rfl) (by kernel_rfl) (by kernel_rfl) rfl rfl (fun _ _ _ h => h) trivial (fun ρ w E H => ex_move E rfl rfl) ?_
          refine SxA.take (i := 2) rfl (by kernel_rfl) (by kernel_rfl) (by kernel_rfl) rfl rfl (fun _ _ _ h => h) trivial (fun ρ w E H => ex_move E rfl rfl) ?_
          refine SxA.take (i := 3) (v := .pointer (some (ad.add (i * 2)))) rfl (by kernel_rfl) (by kernel_rfl) (by kernel_rfl) rfl rfl (fun _ _ _ h => h) trivial (fun ρ w E H => ex_index (i := i) E rfl Tryz.underlying51 sz_palaver_net_Pair rfl rfl hkl) ?_
          refine SxA.take (i := 4) (v := .pointer (some (ad.add (i * 2)))) rfl (by kernel_rfl) (by kernel_rfl) (by kernel_rfl) rfl rfl (fun _ _ _ h => h) trivial (fun ρ w E H => ex_field0 E rfl fa_palaver_net_Pair_0 rfl) ?_
          refine SxA.take (i := 5) (v := .int .u8 (f : Int)) rfl (by kernel_rfl) (by kernel_rfl) (by kernel_rfl) rfl rfl (fun _ _ _ h => h) trivial (fun ρ w E H => ex_loadX0 E ((hA.below (H.os.below (Nat.le_refl _) (by simp))).rowA hx) rfl rfl rfl Tryz.underlying5 rfl) ?_
          refine SxA.take (i := 6) rfl (by kernel_rfl) (by kernel_rfl) (by kernel_rfl) rfl rfl (fun _ _ _ h => h) trivial (fun ρ w E H => ex_move E rfl rfl) ?_
          refine SxA.take (i := 7) rfl (by kernel_rfl) (by kernel_rfl) (by kernel_rfl) rfl rfl (fun _ _ _ h => h) trivial (fun ρ w E H => ex_move E rfl rfl) ?_
          refine SxA.take (i := 8) (v := .pointer (some (ad.add (i * 2)))) rfl (by kernel_rfl) (by kernel_rfl) (by kernel_rfl) rfl rfl (fun _ _ _ h => h) trivial (fun ρ w E H => ex_index (i := i) E rfl Tryz.underlying51 sz_palaver_net_Pair rfl rfl hkl) ?_
          refine SxA.take (i := 9) (v := .pointer (some ((ad.add (i * 2)).add 1))) rfl (by kernel_rfl) (by kernel_rfl) (by kernel_rfl) rfl rfl (fun _ _ _ h => h) trivial (fun ρ w E H => ex_fieldA E rfl fa_palaver_net_Pair_1 rfl) ?_
          refine SxA.take (i := 10) (v := .int .u8 (t : Int)) rfl (by kernel_rfl) (by kernel_rfl) (by kernel_rfl) rfl rfl (fun _ _ _ h => h) trivial (fun ρ w E H => ex_loadXc E ((hA.below (H.os.below (Nat.le_refl _) (by simp))).rowA hx) 1 rfl rfl rfl Tryz.underlying5 rfl) ?_
          refine SxA.take (i := 11) rfl (by kernel_rfl) (by kernel_rfl) (by kernel_rfl) rfl rfl (fun _ _ _ h => h) trivial (fun ρ w E H => ex_move E rfl rfl) ?_
          refine SxA.take (i := 12) (v := .int .i64 (sent.length : Int)) rfl (by kernel_rfl) (by kernel_rfl) (by kernel_rfl) rfl rfl (fun _ _ _ h => h) trivial (fun ρ w E H => ex_lenS E rfl Tryz.underlying51 rfl) ?_
          refine SxA.take (i := 13) (v := .int .u64 (sent.length : Int)) rfl (by kernel_rfl) (by kernel_rfl) (by kernel_rfl) rfl rfl (fun _ _ _ h => h) trivial (fun ρ w E H => ex_convInt E rfl Tryz.underlying3 Tryz.underlying22 rfl (by rw [IntKind.wrap_u64]; omega)) ?_
          refine SxA.ready [14] (by kernel_rfl) (by simp) ⟨?_, trivial⟩
          refine SxO.callB (v := .agg #[.int .u8 10, .int .u64 0, .int .u8 0, .int .u64 0, .int .u64 (sent.length : Int), .int .u8 0, .string ⟨[].toArray⟩, .slice none 0 0, .slice none 0 0, .int .u8 0, .int .u32 0, .int .u8 0, .string ⟨[].toArray⟩, .string ⟨[].toArray⟩, .string ⟨[].toArray⟩, .int .u8 0, .int .u8 0, .string ⟨[].toArray⟩]) rfl trivial rfl rfl (fun ρ w E => ex_call E en_palaver_palaverlaw26_ask rfl rfl) (fun w H => ask_any sent.length w) (fun w H => H.ks [] [1] rfl ⟨(fun g hg => .inr ((netF_fresh hgn.1 hgn.2 hV) g hg)), (fun g hg => .inr (hvS.fresh g hg)), trivial⟩) ?_
          refine SxA.take (i := 15) rfl (by kernel_rfl) (by kernel_rfl) (by kernel_rfl) rfl rfl (fun _ _ _ h => h) trivial (fun ρ w E H => ex_build (cs := [.int .u8 (f : Int), .int .u8 (t : Int), .int .u8 10, .int .u64 0, .int .u8 0, .int .u64 0, .int .u64 (sent.length : Int), .int .u8 0, .string ⟨[].toArray⟩, .slice none 0 0, .slice none 0 0, .int .u8 0, .int .u32 0, .int .u8 0, .string ⟨[].toArray⟩, .string ⟨[].toArray⟩, .string ⟨[].toArray⟩, .int .u8 0, .int .u8 0, .string ⟨[].toArray⟩]) E rfl rfl (by kernel_rfl)) ?_
          refine SxA.ready [16] (by kernel_rfl) (by simp) ⟨?_, trivial⟩
          refine SxO.call (σ := Value) (fun _ => .int .i64 2) (fun s => OwnIn w [] s) (fun s => _) rfl trivial rfl rfl (fun ρ w E => ex_call E en_palaver_net_Net_Send rfl rfl) (callNet (i := 0) (bag' := (allK sent)) (M' := ([] : CutM)) rfl hV (fun W H => (send_any _ _ _ _ _ _ f t (askM sent.length) none none 0 0 W (H.get (i := 0) rfl) (by rw [allK_len]; exact hs5) H.os.size (ask_fits _ (by omega)) ((ask_lim _).small (ask_fits _ (by omega))) (none_rows W _ rfl rfl)).mono fun _ _ h => by rw [hsd] at h; exact h)) (fun V50 w hV50 H => H.ks [] [1] rfl ⟨(fun g hg => .inr ((netF_fresh hgn.1 hgn.2 hV50) g hg)), (fun g hg => .inr (hvS.fresh g hg)), trivial⟩) fun V50 hV50 => ?_
          refine SxA.take (i := 17) rfl (by kernel_rfl) (by kernel_rfl) (by kernel_rfl) rfl rfl (fun _ _ _ h => h) trivial (fun ρ w E H => ex_assign E rfl rfl) ?_
          refine SxA.done (by kernel_rfl) ?_
          refine SxN.then_ (SxC.seq (SxC.seq (SxC.region ?_)))
          refine SxL.val trivial rfl rfl (fun ρ w E H => ex_move E rfl rfl) ?_
          refine SxL.val (v := .bool false) trivial rfl rfl (fun ρ w E H => ex_cmp E rfl rfl rfl rfl (by decide)) ?_
          refine SxL.val trivial rfl rfl (fun ρ w E H => ex_move E rfl rfl) ?_
          refine SxL.val (v := .int .i64 (sent.length : Int)) trivial rfl rfl (fun ρ w E H => ex_lenS E rfl Tryz.underlying51 rfl) ?_
          refine SxL.val (v := .bool false) trivial rfl rfl (fun ρ w E H => ex_cmp E rfl rfl rfl rfl (by simp [cmpB]; omega)) ?_
          refine SxL.val trivial rfl rfl (fun ρ w E H => ex_move E rfl rfl) ?_
          iterate 2 refine SxL.off ⟨_, _, _, rfl, rfl, rfl, nofun⟩ rfl rfl ?_
          refine SxL.val trivial rfl rfl (fun ρ w E H => ex_pick E rfl (t := false) rfl rfl) ?_
          refine SxL.val (v := .bool false) trivial rfl rfl (fun ρ w E H => ex_bneq E rfl Tryz.underlying4 rfl rfl (by simp)) ?_
          refine SxL.nil (SxN.then_ (SxC.condF rfl (SxC.skip (SxN.then_ (SxC.seq (SxC.region ?_))))))
          refine SxL.val trivial rfl rfl (fun ρ w E H => ex_move E rfl rfl) ?_
          refine SxL.val (v := .bool false) trivial rfl rfl (fun ρ w E H => ex_cmp E rfl rfl rfl rfl (by decide)) ?_
          refine SxL.nil (SxN.then_ (SxC.condF rfl (SxC.skip (SxN.block (SxN.then_ (SxC.region ?_))))))
          refine SxL.val trivial rfl rfl (fun ρ w E H => ex_move E rfl rfl) ?_
          refine SxL.val (v := .int .i64 ((i + 1 : Nat) : Int)) trivial rfl rfl (fun ρ w E H => ex_add E rfl rfl rfl (by rw [IntKind.wrap_i64]; omega)) ?_
          refine SxL.val trivial rfl rfl (fun ρ w E H => ex_assign E rfl rfl) ?_
          refine SxL.nil ?_
          refine SxN.back (gk - 1) (V50, (.slice AS sent.length cS), i + 1, sent) (by omega) ⟨show i + 1 + (gk - 1) = l.length by omega, hs5, (show sent.length ≤ i + 1 by omega), hap, hV50, hvS⟩ ⟨rfl, rfl, rfl, rfl, rfl, trivial⟩ [0, 1] rfl (by decide) ⟨.inl rfl, .inl rfl, trivial⟩
        · refine SxC.drawnK [] [1] (by kernel_rfl) rfl ⟨(fun g hg => .inr ((netF_fresh hgn.1 hgn.2 hV) g hg)), (fun g hg => .inr (hvS.fresh g hg)), trivial⟩ ?_
          refine SxA.take (i := 0) rfl (by kernel_rfl) (by kernel_rfl) (by kernel_rfl) rfl rfl (fun _ _ _ h => h) trivial (fun ρ w E H => ex_move E rfl rfl) ?_
          refine SxA.take (i := 1) rfl (by kernel_rfl) (by kernel_rfl) (by kernel_rfl) rfl rfl (fun _ _ _ h => h) trivial (fun ρ w E H => ex_move E rfl rfl) ?_
          refine SxA.take (i := 2) rfl (by kernel_rfl) (by kernel_rfl) (by kernel_rfl) rfl rfl (fun _ _ _ h => h) trivial (fun ρ w E H => ex_move E rfl rfl) ?_
          refine SxA.take (i := 3) (v := .pointer (some (ad.add (i * 2)))) rfl (by kernel_rfl) (by kernel_rfl) (by kernel_rfl) rfl rfl (fun _ _ _ h => h) trivial (fun ρ w E H => ex_index (i := i) E rfl Tryz.underlying51 sz_palaver_net_Pair rfl rfl hkl) ?_
          refine SxA.take (i := 4) (v := .pointer (some (ad.add (i * 2)))) rfl (by kernel_rfl) (by kernel_rfl) (by kernel_rfl) rfl rfl (fun _ _ _ h => h) trivial (fun ρ w E H => ex_field0 E rfl fa_palaver_net_Pair_0 rfl) ?_
          refine SxA.take (i := 5) (v := .int .u8 (f : Int)) rfl (by kernel_rfl) (by kernel_rfl) (by kernel_rfl) rfl rfl (fun _ _ _ h => h) trivial (fun ρ w E H => ex_loadX0 E ((hA.below (H.os.below (Nat.le_refl _) (by simp))).rowA hx) rfl rfl rfl Tryz.underlying5 rfl) ?_
          refine SxA.take (i := 6) rfl (by kernel_rfl) (by kernel_rfl) (by kernel_rfl) rfl rfl (fun _ _ _ h => h) trivial (fun ρ w E H => ex_move E rfl rfl) ?_
          refine SxA.take (i := 7) rfl (by kernel_rfl) (by kernel_rfl) (by kernel_rfl) rfl rfl (fun _ _ _ h => h) trivial (fun ρ w E H => ex_move E rfl rfl) ?_
          refine SxA.take (i := 8) (v := .pointer (some (ad.add (i * 2)))) rfl (by kernel_rfl) (by kernel_rfl) (by kernel_rfl) rfl rfl (fun _ _ _ h => h) trivial (fun ρ w E H => ex_index (i := i) E rfl Tryz.underlying51 sz_palaver_net_Pair rfl rfl hkl) ?_
          refine SxA.take (i := 9) (v := .pointer (some ((ad.add (i * 2)).add 1))) rfl (by kernel_rfl) (by kernel_rfl) (by kernel_rfl) rfl rfl (fun _ _ _ h => h) trivial (fun ρ w E H => ex_fieldA E rfl fa_palaver_net_Pair_1 rfl) ?_
          refine SxA.take (i := 10) (v := .int .u8 (t : Int)) rfl (by kernel_rfl) (by kernel_rfl) (by kernel_rfl) rfl rfl (fun _ _ _ h => h) trivial (fun ρ w E H => ex_loadXc E ((hA.below (H.os.below (Nat.le_refl _) (by simp))).rowA hx) 1 rfl rfl rfl Tryz.underlying5 rfl) ?_
          refine SxA.take (i := 11) rfl (by kernel_rfl) (by kernel_rfl) (by kernel_rfl) rfl rfl (fun _ _ _ h => h) trivial (fun ρ w E H => ex_move E rfl rfl) ?_
          refine SxA.take (i := 12) (v := .int .i64 (sent.length : Int)) rfl (by kernel_rfl) (by kernel_rfl) (by kernel_rfl) rfl rfl (fun _ _ _ h => h) trivial (fun ρ w E H => ex_lenS E rfl Tryz.underlying51 rfl) ?_
          refine SxA.take (i := 13) (v := .int .u64 (sent.length : Int)) rfl (by kernel_rfl) (by kernel_rfl) (by kernel_rfl) rfl rfl (fun _ _ _ h => h) trivial (fun ρ w E H => ex_convInt E rfl Tryz.underlying3 Tryz.underlying22 rfl (by rw [IntKind.wrap_u64]; omega)) ?_
          refine SxA.ready [14] (by kernel_rfl) (by simp) ⟨?_, trivial⟩
          refine SxO.callB (v := .agg #[.int .u8 10, .int .u64 0, .int .u8 0, .int .u64 0, .int .u64 (sent.length : Int), .int .u8 0, .string ⟨[].toArray⟩, .slice none 0 0, .slice none 0 0, .int .u8 0, .int .u32 0, .int .u8 0, .string ⟨[].toArray⟩, .string ⟨[].toArray⟩, .string ⟨[].toArray⟩, .int .u8 0, .int .u8 0, .string ⟨[].toArray⟩]) rfl trivial rfl rfl (fun ρ w E => ex_call E en_palaver_palaverlaw26_ask rfl rfl) (fun w H => ask_any sent.length w) (fun w H => H.ks [] [1] rfl ⟨(fun g hg => .inr ((netF_fresh hgn.1 hgn.2 hV) g hg)), (fun g hg => .inr (hvS.fresh g hg)), trivial⟩) ?_
          refine SxA.take (i := 15) rfl (by kernel_rfl) (by kernel_rfl) (by kernel_rfl) rfl rfl (fun _ _ _ h => h) trivial (fun ρ w E H => ex_build (cs := [.int .u8 (f : Int), .int .u8 (t : Int), .int .u8 10, .int .u64 0, .int .u8 0, .int .u64 0, .int .u64 (sent.length : Int), .int .u8 0, .string ⟨[].toArray⟩, .slice none 0 0, .slice none 0 0, .int .u8 0, .int .u32 0, .int .u8 0, .string ⟨[].toArray⟩, .string ⟨[].toArray⟩, .string ⟨[].toArray⟩, .int .u8 0, .int .u8 0, .string ⟨[].toArray⟩]) E rfl rfl (by kernel_rfl)) ?_
          refine SxA.ready [16] (by kernel_rfl) (by simp) ⟨?_, trivial⟩
          refine SxO.call (σ := Value) (fun _ => .int .i64 2) (fun s => OwnIn w [] s) (fun s => _) rfl trivial rfl rfl (fun ρ w E => ex_call E en_palaver_net_Net_Send rfl rfl) (callNet (i := 0) (bag' := (allK sent)) (M' := ([] : CutM)) rfl hV (fun W H => (send_any _ _ _ _ _ _ f t (askM sent.length) none none 0 0 W (H.get (i := 0) rfl) (by rw [allK_len]; exact hs5) H.os.size (ask_fits _ (by omega)) ((ask_lim _).small (ask_fits _ (by omega))) (none_rows W _ rfl rfl)).mono fun _ _ h => by rw [hsd] at h; exact h)) (fun V50 w hV50 H => H.ks [] [1] rfl ⟨(fun g hg => .inr ((netF_fresh hgn.1 hgn.2 hV50) g hg)), (fun g hg => .inr (hvS.fresh g hg)), trivial⟩) fun V50 hV50 => ?_
          refine SxA.take (i := 17) rfl (by kernel_rfl) (by kernel_rfl) (by kernel_rfl) rfl rfl (fun _ _ _ h => h) trivial (fun ρ w E H => ex_assign E rfl rfl) ?_
          refine SxA.done (by kernel_rfl) ?_
          refine SxN.then_ (SxC.seq (SxC.seq (SxC.region ?_)))
          refine SxL.val trivial rfl rfl (fun ρ w E H => ex_move E rfl rfl) ?_
          refine SxL.val (v := .bool false) trivial rfl rfl (fun ρ w E H => ex_cmp E rfl rfl rfl rfl (by decide)) ?_
          refine SxL.val trivial rfl rfl (fun ρ w E H => ex_move E rfl rfl) ?_
          refine SxL.val (v := .int .i64 (sent.length : Int)) trivial rfl rfl (fun ρ w E H => ex_lenS E rfl Tryz.underlying51 rfl) ?_
          refine SxL.val (v := .bool true) trivial rfl rfl (fun ρ w E H => ex_cmp E rfl rfl rfl rfl (by simp [cmpB]; omega)) ?_
          refine SxL.val trivial rfl rfl (fun ρ w E H => ex_move E rfl rfl) ?_
          refine SxL.val ⟨_, _, rfl, rfl, rfl⟩ rfl rfl (fun ρ w E H => ex_move E rfl rfl) ?_
          refine SxL.val (v := .bool false) ⟨_, _, rfl, rfl, rfl⟩ rfl rfl (fun ρ w E H => ex_cmp E rfl rfl rfl rfl (by decide)) ?_
          refine SxL.val trivial rfl rfl (fun ρ w E H => ex_pick E rfl (t := true) rfl rfl) ?_
          refine SxL.val (v := .bool false) trivial rfl rfl (fun ρ w E H => ex_bneq E rfl Tryz.underlying4 rfl rfl (by simp)) ?_
          refine SxL.nil (SxN.then_ (SxC.condF rfl (SxC.skip (SxN.then_ (SxC.seq (SxC.region ?_))))))
          refine SxL.val trivial rfl rfl (fun ρ w E H => ex_move E rfl rfl) ?_
          refine SxL.val (v := .bool false) trivial rfl rfl (fun ρ w E H => ex_cmp E rfl rfl rfl rfl (by decide)) ?_
          refine SxL.nil (SxN.then_ (SxC.condF rfl (SxC.skip (SxN.block (SxN.then_ (SxC.region ?_))))))
          refine SxL.val trivial rfl rfl (fun ρ w E H => ex_move E rfl rfl) ?_
          refine SxL.val (v := .int .i64 ((i + 1 : Nat) : Int)) trivial rfl rfl (fun ρ w E H => ex_add E rfl rfl rfl (by rw [IntKind.wrap_i64]; omega)) ?_
          refine SxL.val trivial rfl rfl (fun ρ w E H => ex_assign E rfl rfl) ?_
          refine SxL.nil ?_
          refine SxN.back (gk - 1) (V50, (.slice AS sent.length cS), i + 1, sent) (by omega) ⟨show i + 1 + (gk - 1) = l.length by omega, hs5, (show sent.length ≤ i + 1 by omega), hap, hV50, hvS⟩ ⟨rfl, rfl, rfl, rfl, rfl, trivial⟩ [0, 1] rfl (by decide) ⟨.inl rfl, .inl rfl, trivial⟩
        · refine SxC.drawnK [] [1] (by kernel_rfl) rfl ⟨(fun g hg => .inr ((netF_fresh hgn.1 hgn.2 hV) g hg)), (fun g hg => .inr (hvS.fresh g hg)), trivial⟩ ?_
          refine SxA.take (i := 0) rfl (by kernel_rfl) (by kernel_rfl) (by kernel_rfl) rfl rfl (fun _ _ _ h => h) trivial (fun ρ w E H => ex_move E rfl rfl) ?_
          refine SxA.take (i := 1) rfl (by kernel_rfl) (by kernel_rfl) (by kernel_rfl) rfl rfl (fun _ _ _ h => h) trivial (fun ρ w E H => ex_move E rfl rfl) ?_
          refine SxA.take (i := 2) rfl (by kernel_rfl) (by kernel_rfl) (by kernel_rfl) rfl rfl (fun _ _ _ h => h) trivial (fun ρ w E H => ex_move E rfl rfl) ?_
          refine SxA.take (i := 3) (v := .pointer (some (ad.add (i * 2)))) rfl (by kernel_rfl) (by kernel_rfl) (by kernel_rfl) rfl rfl (fun _ _ _ h => h) trivial (fun ρ w E H => ex_index (i := i) E rfl Tryz.underlying51 sz_palaver_net_Pair rfl rfl hkl) ?_
          refine SxA.take (i := 4) (v := .pointer (some (ad.add (i * 2)))) rfl (by kernel_rfl) (by kernel_rfl) (by kernel_rfl) rfl rfl (fun _ _ _ h => h) trivial (fun ρ w E H => ex_field0 E rfl fa_palaver_net_Pair_0 rfl) ?_
          refine SxA.take (i := 5) (v := .int .u8 (f : Int)) rfl (by kernel_rfl) (by kernel_rfl) (by kernel_rfl) rfl rfl (fun _ _ _ h => h) trivial (fun ρ w E H => ex_loadX0 E ((hA.below (H.os.below (Nat.le_refl _) (by simp))).rowA hx) rfl rfl rfl Tryz.underlying5 rfl) ?_
          refine SxA.take (i := 6) rfl (by kernel_rfl) (by kernel_rfl) (by kernel_rfl) rfl rfl (fun _ _ _ h => h) trivial (fun ρ w E H => ex_move E rfl rfl) ?_
          refine SxA.take (i := 7) rfl (by kernel_rfl) (by kernel_rfl) (by kernel_rfl) rfl rfl (fun _ _ _ h => h) trivial (fun ρ w E H => ex_move E rfl rfl) ?_
          refine SxA.take (i := 8) (v := .pointer (some (ad.add (i * 2)))) rfl (by kernel_rfl) (by kernel_rfl) (by kernel_rfl) rfl rfl (fun _ _ _ h => h) trivial (fun ρ w E H => ex_index (i := i) E rfl Tryz.underlying51 sz_palaver_net_Pair rfl rfl hkl) ?_
          refine SxA.take (i := 9) (v := .pointer (some ((ad.add (i * 2)).add 1))) rfl (by kernel_rfl) (by kernel_rfl) (by kernel_rfl) rfl rfl (fun _ _ _ h => h) trivial (fun ρ w E H => ex_fieldA E rfl fa_palaver_net_Pair_1 rfl) ?_
          refine SxA.take (i := 10) (v := .int .u8 (t : Int)) rfl (by kernel_rfl) (by kernel_rfl) (by kernel_rfl) rfl rfl (fun _ _ _ h => h) trivial (fun ρ w E H => ex_loadXc E ((hA.below (H.os.below (Nat.le_refl _) (by simp))).rowA hx) 1 rfl rfl rfl Tryz.underlying5 rfl) ?_
          refine SxA.take (i := 11) rfl (by kernel_rfl) (by kernel_rfl) (by kernel_rfl) rfl rfl (fun _ _ _ h => h) trivial (fun ρ w E H => ex_move E rfl rfl) ?_
          refine SxA.take (i := 12) (v := .int .i64 (sent.length : Int)) rfl (by kernel_rfl) (by kernel_rfl) (by kernel_rfl) rfl rfl (fun _ _ _ h => h) trivial (fun ρ w E H => ex_lenS E rfl Tryz.underlying51 rfl) ?_
          refine SxA.take (i := 13) (v := .int .u64 (sent.length : Int)) rfl (by kernel_rfl) (by kernel_rfl) (by kernel_rfl) rfl rfl (fun _ _ _ h => h) trivial (fun ρ w E H => ex_convInt E rfl Tryz.underlying3 Tryz.underlying22 rfl (by rw [IntKind.wrap_u64]; omega)) ?_
          refine SxA.ready [14] (by kernel_rfl) (by simp) ⟨?_, trivial⟩
          refine SxO.callB (v := .agg #[.int .u8 10, .int .u64 0, .int .u8 0, .int .u64 0, .int .u64 (sent.length : Int), .int .u8 0, .string ⟨[].toArray⟩, .slice none 0 0, .slice none 0 0, .int .u8 0, .int .u32 0, .int .u8 0, .string ⟨[].toArray⟩, .string ⟨[].toArray⟩, .string ⟨[].toArray⟩, .int .u8 0, .int .u8 0, .string ⟨[].toArray⟩]) rfl trivial rfl rfl (fun ρ w E => ex_call E en_palaver_palaverlaw26_ask rfl rfl) (fun w H => ask_any sent.length w) (fun w H => H.ks [] [1] rfl ⟨(fun g hg => .inr ((netF_fresh hgn.1 hgn.2 hV) g hg)), (fun g hg => .inr (hvS.fresh g hg)), trivial⟩) ?_
          refine SxA.take (i := 15) rfl (by kernel_rfl) (by kernel_rfl) (by kernel_rfl) rfl rfl (fun _ _ _ h => h) trivial (fun ρ w E H => ex_build (cs := [.int .u8 (f : Int), .int .u8 (t : Int), .int .u8 10, .int .u64 0, .int .u8 0, .int .u64 0, .int .u64 (sent.length : Int), .int .u8 0, .string ⟨[].toArray⟩, .slice none 0 0, .slice none 0 0, .int .u8 0, .int .u32 0, .int .u8 0, .string ⟨[].toArray⟩, .string ⟨[].toArray⟩, .string ⟨[].toArray⟩, .int .u8 0, .int .u8 0, .string ⟨[].toArray⟩]) E rfl rfl (by kernel_rfl)) ?_
          refine SxA.ready [16] (by kernel_rfl) (by simp) ⟨?_, trivial⟩
          refine SxO.call (σ := Value) (fun _ => .int .i64 7) (fun s => OwnIn w [] s) (fun s => _) rfl trivial rfl rfl (fun ρ w E => ex_call E en_palaver_net_Net_Send rfl rfl) (callNet (i := 0) (bag' := (allK sent)) (M' := ([] : CutM)) rfl hV (fun W H => (send_any _ _ _ _ _ _ f t (askM sent.length) none none 0 0 W (H.get (i := 0) rfl) (by rw [allK_len]; exact hs5) H.os.size (ask_fits _ (by omega)) ((ask_lim _).small (ask_fits _ (by omega))) (none_rows W _ rfl rfl)).mono fun _ _ h => by rw [hsd] at h; exact h)) (fun V50 w hV50 H => H.ks [] [1] rfl ⟨(fun g hg => .inr ((netF_fresh hgn.1 hgn.2 hV50) g hg)), (fun g hg => .inr (hvS.fresh g hg)), trivial⟩) fun V50 hV50 => ?_
          refine SxA.take (i := 17) rfl (by kernel_rfl) (by kernel_rfl) (by kernel_rfl) rfl rfl (fun _ _ _ h => h) trivial (fun ρ w E H => ex_assign E rfl rfl) ?_
          refine SxA.done (by kernel_rfl) ?_
          refine SxN.then_ (SxC.seq (SxC.seq (SxC.region ?_)))
          refine SxL.val trivial rfl rfl (fun ρ w E H => ex_move E rfl rfl) ?_
          refine SxL.val (v := .bool true) trivial rfl rfl (fun ρ w E H => ex_cmp E rfl rfl rfl rfl (by decide)) ?_
          refine SxL.val trivial rfl rfl (fun ρ w E H => ex_move E rfl rfl) ?_
          refine SxL.val (v := .int .i64 (sent.length : Int)) trivial rfl rfl (fun ρ w E H => ex_lenS E rfl Tryz.underlying51 rfl) ?_
          refine SxL.val (v := .bool true) trivial rfl rfl (fun ρ w E H => ex_cmp E rfl rfl rfl rfl (by simp [cmpB]; omega)) ?_
          refine SxL.val trivial rfl rfl (fun ρ w E H => ex_move E rfl rfl) ?_
          refine SxL.val ⟨_, _, rfl, rfl, rfl⟩ rfl rfl (fun ρ w E H => ex_move E rfl rfl) ?_
          refine SxL.val (v := .bool true) ⟨_, _, rfl, rfl, rfl⟩ rfl rfl (fun ρ w E H => ex_cmp E rfl rfl rfl rfl (by decide)) ?_
          refine SxL.val trivial rfl rfl (fun ρ w E H => ex_pick E rfl (t := true) rfl rfl) ?_
          refine SxL.val (v := .bool false) trivial rfl rfl (fun ρ w E H => ex_bneq E rfl Tryz.underlying4 rfl rfl (by simp)) ?_
          refine SxL.nil (SxN.then_ (SxC.condF rfl (SxC.skip (SxN.then_ (SxC.seq (SxC.region ?_))))))
          refine SxL.val trivial rfl rfl (fun ρ w E H => ex_move E rfl rfl) ?_
          refine SxL.val (v := .bool false) trivial rfl rfl (fun ρ w E H => ex_cmp E rfl rfl rfl rfl (by decide)) ?_
          refine SxL.nil (SxN.then_ (SxC.condF rfl (SxC.skip (SxN.block (SxN.then_ (SxC.region ?_))))))
          refine SxL.val trivial rfl rfl (fun ρ w E H => ex_move E rfl rfl) ?_
          refine SxL.val (v := .int .i64 ((i + 1 : Nat) : Int)) trivial rfl rfl (fun ρ w E H => ex_add E rfl rfl rfl (by rw [IntKind.wrap_i64]; omega)) ?_
          refine SxL.val trivial rfl rfl (fun ρ w E H => ex_assign E rfl rfl) ?_
          refine SxL.nil ?_
          refine SxN.back (gk - 1) (V50, (.slice AS sent.length cS), i + 1, sent) (by omega) ⟨show i + 1 + (gk - 1) = l.length by omega, hs5, (show sent.length ≤ i + 1 by omega), hap, hV50, hvS⟩ ⟨rfl, rfl, rfl, rfl, rfl, trivial⟩ [0, 1] rfl (by decide) ⟨.inl rfl, .inl rfl, trivial⟩
        · refine SxC.drawnK [] [1] (by kernel_rfl) rfl ⟨(fun g hg => .inr ((netF_fresh hgn.1 hgn.2 hV) g hg)), (fun g hg => .inr (hvS.fresh g hg)), trivial⟩ ?_
          refine SxA.take (i := 0) rfl (by kernel_rfl) (by kernel_rfl) (by kernel_rfl) rfl rfl (fun _ _ _ h => h) trivial (fun ρ w E H => ex_move E rfl rfl) ?_
          refine SxA.take (i := 1) rfl (by kernel_rfl) (by kernel_rfl) (by kernel_rfl) rfl rfl (fun _ _ _ h => h) trivial (fun ρ w E H => ex_move E rfl rfl) ?_
          refine SxA.take (i := 2) rfl (by kernel_rfl) (by kernel_rfl) (by kernel_rfl) rfl rfl (fun _ _ _ h => h) trivial (fun ρ w E H => ex_move E rfl rfl) ?_
          refine SxA.take (i := 3) (v := .pointer (some (ad.add (i * 2)))) rfl (by kernel_rfl) (by kernel_rfl) (by kernel_rfl) rfl rfl (fun _ _ _ h => h) trivial (fun ρ w E H => ex_index (i := i) E rfl Tryz.underlying51 sz_palaver_net_Pair rfl rfl hkl) ?_
          refine SxA.take (i := 4) (v := .pointer (some (ad.add (i * 2)))) rfl (by kernel_rfl) (by kernel_rfl) (by kernel_rfl) rfl rfl (fun _ _ _ h => h) trivial (fun ρ w E H => ex_field0 E rfl fa_palaver_net_Pair_0 rfl) ?_
          refine SxA.take (i := 5) (v := .int .u8 (f : Int)) rfl (by kernel_rfl) (by kernel_rfl) (by kernel_rfl) rfl rfl (fun _ _ _ h => h) trivial (fun ρ w E H => ex_loadX0 E ((hA.below (H.os.below (Nat.le_refl _) (by simp))).rowA hx) rfl rfl rfl Tryz.underlying5 rfl) ?_
          refine SxA.take (i := 6) rfl (by kernel_rfl) (by kernel_rfl) (by kernel_rfl) rfl rfl (fun _ _ _ h => h) trivial (fun ρ w E H => ex_move E rfl rfl) ?_
          refine SxA.take (i := 7) rfl (by kernel_rfl) (by kernel_rfl) (by kernel_rfl) rfl rfl (fun _ _ _ h => h) trivial (fun ρ w E H => ex_move E rfl rfl) ?_
          refine SxA.take (i := 8) (v := .pointer (some (ad.add (i * 2)))) rfl (by kernel_rfl) (by kernel_rfl) (by kernel_rfl) rfl rfl (fun _ _ _ h => h) trivial (fun ρ w E H => ex_index (i := i) E rfl Tryz.underlying51 sz_palaver_net_Pair rfl rfl hkl) ?_
          refine SxA.take (i := 9) (v := .pointer (some ((ad.add (i * 2)).add 1))) rfl (by kernel_rfl) (by kernel_rfl) (by kernel_rfl) rfl rfl (fun _ _ _ h => h) trivial (fun ρ w E H => ex_fieldA E rfl fa_palaver_net_Pair_1 rfl) ?_
          refine SxA.take (i := 10) (v := .int .u8 (t : Int)) rfl (by kernel_rfl) (by kernel_rfl) (by kernel_rfl) rfl rfl (fun _ _ _ h => h) trivial (fun ρ w E H => ex_loadXc E ((hA.below (H.os.below (Nat.le_refl _) (by simp))).rowA hx) 1 rfl rfl rfl Tryz.underlying5 rfl) ?_
          refine SxA.take (i := 11) rfl (by kernel_rfl) (by kernel_rfl) (by kernel_rfl) rfl rfl (fun _ _ _ h => h) trivial (fun ρ w E H => ex_move E rfl rfl) ?_
          refine SxA.take (i := 12) (v := .int .i64 (sent.length : Int)) rfl (by kernel_rfl) (by kernel_rfl) (by kernel_rfl) rfl rfl (fun _ _ _ h => h) trivial (fun ρ w E H => ex_lenS E rfl Tryz.underlying51 rfl) ?_
          refine SxA.take (i := 13) (v := .int .u64 (sent.length : Int)) rfl (by kernel_rfl) (by kernel_rfl) (by kernel_rfl) rfl rfl (fun _ _ _ h => h) trivial (fun ρ w E H => ex_convInt E rfl Tryz.underlying3 Tryz.underlying22 rfl (by rw [IntKind.wrap_u64]; omega)) ?_
          refine SxA.ready [14] (by kernel_rfl) (by simp) ⟨?_, trivial⟩
          refine SxO.callB (v := .agg #[.int .u8 10, .int .u64 0, .int .u8 0, .int .u64 0, .int .u64 (sent.length : Int), .int .u8 0, .string ⟨[].toArray⟩, .slice none 0 0, .slice none 0 0, .int .u8 0, .int .u32 0, .int .u8 0, .string ⟨[].toArray⟩, .string ⟨[].toArray⟩, .string ⟨[].toArray⟩, .int .u8 0, .int .u8 0, .string ⟨[].toArray⟩]) rfl trivial rfl rfl (fun ρ w E => ex_call E en_palaver_palaverlaw26_ask rfl rfl) (fun w H => ask_any sent.length w) (fun w H => H.ks [] [1] rfl ⟨(fun g hg => .inr ((netF_fresh hgn.1 hgn.2 hV) g hg)), (fun g hg => .inr (hvS.fresh g hg)), trivial⟩) ?_
          refine SxA.take (i := 15) rfl (by kernel_rfl) (by kernel_rfl) (by kernel_rfl) rfl rfl (fun _ _ _ h => h) trivial (fun ρ w E H => ex_build (cs := [.int .u8 (f : Int), .int .u8 (t : Int), .int .u8 10, .int .u64 0, .int .u8 0, .int .u64 0, .int .u64 (sent.length : Int), .int .u8 0, .string ⟨[].toArray⟩, .slice none 0 0, .slice none 0 0, .int .u8 0, .int .u32 0, .int .u8 0, .string ⟨[].toArray⟩, .string ⟨[].toArray⟩, .string ⟨[].toArray⟩, .int .u8 0, .int .u8 0, .string ⟨[].toArray⟩]) E rfl rfl (by kernel_rfl)) ?_
          refine SxA.ready [16] (by kernel_rfl) (by simp) ⟨?_, trivial⟩
          refine SxO.call (σ := Value) (fun _ => .int .i64 0) (fun s => OwnIn w [] s) (fun s => _) rfl trivial rfl rfl (fun ρ w E => ex_call E en_palaver_net_Net_Send rfl rfl) (callNet (i := 0) (bag' := (allK (sent ++ [(f, t)]))) (M' := ([] : CutM)) rfl hV (fun W H => (send_any _ _ _ _ _ _ f t (askM sent.length) none none 0 0 W (H.get (i := 0) rfl) (by rw [allK_len]; exact hs5) H.os.size (ask_fits _ (by omega)) ((ask_lim _).small (ask_fits _ (by omega))) (none_rows W _ rfl rfl)).mono fun _ _ h => by rw [hsd] at h; exact h)) (fun V50 w hV50 H => H.ks [] [1] rfl ⟨(fun g hg => .inr ((netF_fresh hgn.1 hgn.2 hV50) g hg)), (fun g hg => .inr (hvS.fresh g hg)), trivial⟩) fun V50 hV50 => ?_
          refine SxA.take (i := 17) rfl (by kernel_rfl) (by kernel_rfl) (by kernel_rfl) rfl rfl (fun _ _ _ h => h) trivial (fun ρ w E H => ex_assign E rfl rfl) ?_
          refine SxA.done (by kernel_rfl) ?_
          refine SxN.then_ (SxC.seq (SxC.seq (SxC.region ?_)))
          refine SxL.val trivial rfl rfl (fun ρ w E H => ex_move E rfl rfl) ?_
          refine SxL.val (v := .bool false) trivial rfl rfl (fun ρ w E H => ex_cmp E rfl rfl rfl rfl (by decide)) ?_
          refine SxL.val trivial rfl rfl (fun ρ w E H => ex_move E rfl rfl) ?_
          refine SxL.val (v := .int .i64 (sent.length : Int)) trivial rfl rfl (fun ρ w E H => ex_lenS E rfl Tryz.underlying51 rfl) ?_
          refine SxL.val (v := .bool false) trivial rfl rfl (fun ρ w E H => ex_cmp E rfl rfl rfl rfl (by simp [cmpB]; omega)) ?_
          refine SxL.val trivial rfl rfl (fun ρ w E H => ex_move E rfl rfl) ?_
          iterate 2 refine SxL.off ⟨_, _, _, rfl, rfl, rfl, nofun⟩ rfl rfl ?_
          refine SxL.val trivial rfl rfl (fun ρ w E H => ex_pick E rfl (t := false) rfl rfl) ?_
          refine SxL.val (v := .bool false) trivial rfl rfl (fun ρ w E H => ex_bneq E rfl Tryz.underlying4 rfl rfl (by simp)) ?_
          refine SxL.nil (SxN.then_ (SxC.condF rfl (SxC.skip (SxN.then_ (SxC.seq (SxC.region ?_))))))
          refine SxL.val trivial rfl rfl (fun ρ w E H => ex_move E rfl rfl) ?_
          refine SxL.val (v := .bool true) trivial rfl rfl (fun ρ w E H => ex_cmp E rfl rfl rfl rfl (by decide)) ?_
          refine SxL.nil (SxN.then_ (SxC.condT rfl (SxC.region ?_)))
          iterate 3 refine SxL.val trivial rfl rfl (fun ρ w E H => ex_move E rfl rfl) ?_
          refine SxL.val (v := .pointer (some (ad.add (i * 2)))) trivial rfl rfl (fun ρ w E H => ex_index (i := i) E rfl Tryz.underlying51 sz_palaver_net_Pair rfl rfl hkl) ?_
          refine SxL.val (v := .agg #[.int .u8 (f : Int), .int .u8 (t : Int)]) trivial rfl rfl (fun ρ w E H => ex_loadX (cs := [.int .u8 (f : Int), .int .u8 (t : Int)]) E ((hA.below (H.toBelow ⟨(netF_fresh hgn.1 hgn.2 hV50), hvS.fresh, trivial⟩)).rowA hx) rfl rfl Tryz.underlying57 rfl sz_palaver_net_Pair) ?_
          refine SxL.newS (cs := [.int .u8 (f : Int), .int .u8 (t : Int)]) trivial rfl rfl (fun ρ w E H => ex_buildSlice E rfl rfl Tryz.underlying51 sz_palaver_net_Pair zr_palaver_net_Pair rfl rfl (by kernel_rfl)) fun g3 hg3 => ?_
          refine SxL.append (i := 2) (news := [.int .u8 (f : Int), .int .u8 (t : Int)]) trivial rfl rfl rfl Tryz.underlying51 nf_palaver_net_Pair rfl rfl rfl rfl hvS rfl (fun w H => reads_cell H (i := 0) rfl rfl) (one_list rfl) (by unfold maxLen; omega) (by omega) (Nat.le_refl _) fun A69 k69 hv69 => ?_
          refine SxL.val trivial rfl rfl (fun ρ w E H => ex_assign E rfl rfl) ?_
          refine SxL.nil (SxN.block (SxN.then_ ?_))
          refine SxC.hp (fun W H => H.re (i := 2) rfl (rowX [] w.heap.size 57 2 (.slice A69 (sent.length + 1) k69) ((sent ++ [(f, t)]).length) ((sent ++ [(f, t)]).flatMap prL)) (rowX_loc _ _ _ _ _ _ _) rfl (fun h => own_as h (by simp) (by simp [prL]))) ?_
          refine SxC.region ?_
          refine SxL.val trivial rfl rfl (fun ρ w E H => ex_move E rfl rfl) ?_
          refine SxL.val (v := .int .i64 ((i + 1 : Nat) : Int)) trivial rfl rfl (fun ρ w E H => ex_add E rfl rfl rfl (by rw [IntKind.wrap_i64]; omega)) ?_
          refine SxL.val trivial rfl rfl (fun ρ w E H => ex_assign E rfl rfl) ?_
          refine SxL.nil ?_
          refine SxN.back (gk - 1) (V50, (.slice A69 (sent.length + 1) k69), i + 1, (sent ++ [(f, t)])) (by omega) ⟨show i + 1 + (gk - 1) = l.length by omega, (show (sent ++ [(f, t)]).length ≤ 512 by rw [List.length_append, List.length_singleton]; omega), (show (sent ++ [(f, t)]).length ≤ i + 1 by rw [List.length_append, List.length_singleton]; omega), (fun p hp => (List.mem_append.1 hp).elim (hap p) (fun hp => by rw [List.mem_singleton.1 hp]; exact hapt)), hV50, hv69⟩ ⟨rfl, rfl, rfl, rfl, rfl, trivial⟩ [1, 2] rfl (by decide) ⟨.inr (fun g hg => by rw [List.mem_singleton.1 hg]; exact hg3), .inl rfl, .inl rfl, trivial⟩
    · refine SxC.condT rfl (SxC.seq (SxC.region ?_))
      refine SxL.callB (v := .bool true) trivial rfl rfl (fun ρ w E => ex_call E en_palaver_palaverlaw26_wakes rfl rfl) (fun w H => wakes_any w) ?_
      refine SxL.val trivial rfl rfl (fun ρ w E H => ex_assign E rfl rfl) ?_
      refine SxL.nil (SxN.then_ (SxC.ret (SxX.thenR ?_)))
      refine SxX.done (.bool true) (fun a w K H => res1 K rfl rfl) (fun w H => ?_)
      exact ⟨rfl, H.toBelow trivial⟩
  · refine SxL.off ⟨_, _, _, rfl, rfl, rfl, nofun⟩ rfl rfl ?_
    iterate 2 refine SxL.off ⟨_, _, _, rfl, rfl, rfl, nofun⟩ rfl rfl ?_
    refine SxL.val trivial rfl rfl (fun ρ w E H => ex_pick E rfl (t := true) rfl rfl) ?_
    refine SxL.nil (SxN.then_ (SxC.condT rfl (SxC.seq (SxC.region ?_))))
    refine SxL.callB (v := .bool true) trivial rfl rfl (fun ρ w E => ex_call E en_palaver_palaverlaw26_wakes rfl rfl) (fun w H => wakes_any w) ?_
    refine SxL.val trivial rfl rfl (fun ρ w E H => ex_assign E rfl rfl) ?_
    refine SxL.nil (SxN.then_ (SxC.ret (SxX.thenR ?_)))
    refine SxX.done (.bool true) (fun a w K H => res1 K rfl rfl) (fun w H => ?_)
    exact ⟨rfl, H.toBelow trivial⟩
end Go.Proofs.YteiaiilfekojfaaGreat.Net
end
