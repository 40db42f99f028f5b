/- The law ChainPlays walked. Conditions: the arguments can be read. -/
import Derived.Test.YtbamfnlgapchkaaChPP
namespace Go.Proofs.Ytbamfnlgapchkaa.Chn
open Go.RowKit Mem DrawInv

theorem Duo.fresh {w0 w w' : World} {B g g' : Nat} {c c' d : Ch} {v v' u : Value} {A : Option Addr} (F : Duo w0 B g c v d A u w) (q : ChS w.heap.size g' c' v' w') (hb : Below w.heap.size w w') : Duo w0 w.heap.size g' c' v' d A u w' :=
  ⟨q, F.r.below hb, fun ad h => q.far_old (F.far ad h).lt hb.size, F.bw.trans (hb.mono F.bw.size), F.bw.size, hb.size⟩
set_option linter.unusedVariables false in
set_option linter.unusedSimpArgs false in
set_option maxRecDepth 100000 in
set_option maxHeartbeats 2000000 in
theorem cplays_any (first : Nat) (hf256 : first < 256) (l : List Ax) (n : Nat) (hn : l.length = n) (hft : ∀ x ∈ l, x.Fits) (AL : Option Addr) (cl : Nat) (a b : Nat) (ha64 : a < 18446744073709551616) (hb64 : b < 18446744073709551616) (w : World)
    (hr : Rows w AL 3 axC l) : Calls Try.prog 6 #[.int .u8 (first : Int), .slice AL n cl, .int .u64 (a : Int), .int .u64 (b : Int)] w fun e w' => e = .returned (.bool true) ∧ Below w.heap.size w w' := by
  have bw := Below.refl w.heap.size w
  have HR := Lib.hid hr
  have HFT := Lib.hid hft
  have HN := Lib.hid hn
  have HAB := Lib.hid (And.intro ha64 hb64)
  clear hr hft hn ha64 hb64
  by_cases g1 : 100 < n
  · have g1i : (100 : Int) < (n : Int) := by omega
    go_enter Try.func6, Try.ntmps6
    go_wp2_with fail
    refine (wakes_any _).mono ?_; rintro e w9 ⟨rfl, B9⟩
    have bz := bw.trans (B9.mono bw.size)
    go_wp2_with fail
    go_ret
    exact ⟨rfl, bz⟩
  have g1i : ¬ (100 : Int) < (n : Int) := by omega
  have hn100 : n ≤ 100 := by omega
  clear g1
  have HRN := Lib.hid (fun W => rnew_any first W)
  cases hd : dirB first
  · have HNB := Lib.hid (new_bad first hf256 hd w)
    rw [hd] at HRN
    clear hd hf256
    go_enter Try.func6, Try.ntmps6
    go_wp2_with fail
    refine HNB.out.mono ?_; rintro e w1 ⟨rfl, rfl⟩
    clear HNB
    go_wp2_with fail
    refine (HRN.out w).mono ?_; rintro e w2 ⟨hy, B2⟩
    have HY := Lib.hid hy
    have bw := bw.trans (B2.mono bw.size)
    clear hy HRN B2
    rcases HY.out with ⟨hyes, _⟩ | ⟨_, rfl⟩
    · cases hyes
    obtain ⟨w3, hst, k3, hg3⟩ := st_rc (Blk.new w2 36 #[.int .u64 0, .slice none 0 0]) rfl 0 none 0 0
    have bz := (bw.alloc bw.size (.cells #[.int .u64 0, .slice none 0 0] 36)).grown hg3 (bw.alloc bw.size (.cells #[.int .u64 0, .slice none 0 0] 36)).size (fun k hk => by cases hk; exact bw.size)
    clear HY k3 hg3 bw
    have bw := bz
    clear bz
    go_upto_region 7 with (refine wpList_store (by rfl) (.tmp 11) (.tmp 30) (by rfl) (by rfl) (by rfl) hst ?_)
    clear hst
    go_wp2_with fail
    refine (wakes_any _).mono ?_; rintro e w9 ⟨rfl, B9⟩
    have bz := bw.trans (B9.mono bw.size)
    go_wp2_with fail
    go_ret
    exact ⟨rfl, bz⟩
  rw [hd] at HRN
  have HNW := Lib.hid (new_any first hd w)
  clear hd hf256
  go_enter Try.func6, Try.ntmps6
  go_wp2_with fail
  refine HNW.out.mono ?_; rintro e w1 ⟨g, v, rfl, q, B1⟩
  have HQ1 := Lib.hid q
  have bw1 := bw.trans (B1.mono bw.size)
  clear HNW q B1 bw
  go_wp2_with fail
  refine (HRN.out w1).mono ?_; rintro e w2 ⟨hy, B2⟩
  have HY := Lib.hid hy
  clear hy HRN
  rcases HY.out with ⟨_, A, u, rfl, hrc, hfa⟩ | ⟨hno, _⟩
  rotate_left
  · cases hno
  clear HY
  obtain ⟨c, hc0⟩ : ∃ c : Ch, c = ⟨0, [first]⟩ := ⟨_, rfl⟩
  have q := HQ1.out
  rw [← hc0] at hrc q
  have hcl : c.dirs.length ≤ 4 ∧ Wide c := by rw [hc0]; exact ⟨by simp, wide_new _⟩
  have F : Duo w w.heap.size g c v c A u w2 := ⟨q.below B2, hrc, fun ad h => by
    rcases hfa ad h with ⟨ad', h', _⟩ | hge
    · cases h'
    · exact q.far hge (hrc.lt q.ok.ne h), bw1.trans (B2.mono bw1.size), Nat.le_refl _, Nat.le_trans bw1.size B2.size⟩
  obtain ⟨cp, rfl, hcp, _⟩ := hrc
  obtain ⟨g11, hg11⟩ : ∃ g, g = w2.heap.size := ⟨_, rfl⟩
  have kz := Blk.new w2 36 #[.int .u64 0, .slice none 0 0]
  have bz : Below w2.heap.size w2 (w2.alloc (.cells #[.int .u64 0, .slice none 0 0] 36)) := (Below.refl _ w2).alloc (Nat.le_refl _) _
  obtain ⟨w3, hst, k11, hg3⟩ := st_rc kz rfl (c.low : Int) A c.dirs.length cp
  have b3 := bz.grown hg3 bz.size (fun k hk => by cases hk; exact Nat.le_refl _)
  have F3 := F.below b3
  have hf11 : Far w3 g v g11 := by rw [hg11]; exact F.q.far (Nat.le_refl _) k11.lt
  have hA11 : Hid (∀ ad, A = some ad → ad.block ≠ g11) := fun ad h => by have := (F.far ad h).lt; omega
  have h011 : Hid (w.heap.size ≤ g11) := by show _ ≤ _; rw [hg11]; exact F.bw.size
  rw [← hg11] at k11
  have HG := Lib.hid hg11
  have HF3 := Lib.hid F3
  have HCP := Lib.hid (copy_any F3.q)
  have HCL := Lib.hid hcl
  clear F F3 kz bz hg3 b3 hfa hcp q bw1 B2 HQ1 hg11 hc0 hcl
  go_upto_region 7 with (refine wpList_store (by rfl) (.tmp 11) (.tmp 30) (by rfl) (by rfl) (by rfl) hst ?_)
  rw [← HG.out]
  clear hst
  go_wp2_with fail
  refine HCP.out.mono ?_; rintro e w4 ⟨u4, rfl, ⟨g2, v2, rfl, q2⟩, B4⟩
  have F4 := HF3.out.below B4
  have k114 := k11.below B4 k11.lt
  have hf114 := hf11.below B4
  have hlt11 := k11.lt
  have hg2lt := q2.hB
  have x0 := k114.cell 0
  have x1 := k114.cell 1
  have kz := Blk.new w4 36 #[.int .u64 0, .slice none 0 0]
  have bz : Below w4.heap.size w4 (w4.alloc (.cells #[.int .u64 0, .slice none 0 0] 36)) := (Below.refl _ w4).alloc (Nat.le_refl _) _
  obtain ⟨g14, hg14⟩ : ∃ g, g = w4.heap.size := ⟨_, rfl⟩
  obtain ⟨wl, hst, k14, hg5⟩ := st_rc kz rfl (c.low : Int) A c.dirs.length cp
  have bl := bz.grown hg5 bz.size (fun k hk => by cases hk; exact Nat.le_refl _)
  have FL := F4.below bl
  have k11l := k114.below bl k114.lt
  have hf11l := hf114.below bl
  have h14 : Far wl g v g14 := by rw [hg14]; exact F4.q.far (Nat.le_refl _) k14.lt
  have h14n : g14 ≠ g11 := by have := k114.lt; omega
  have q2l := q2.below bl
  have h2 : Far wl g v g2 := (HF3.out.q.far q2.hB q2.hg.lt).below bl
  have h2n : g2 ≠ g11 := by omega
  have h2v : ∀ r, v2.ownBlock = some r → Far wl g v r ∧ r ≠ g11 := fun r hr => by
    have h3 := q2.ho.lt r hr
    exact ⟨(HF3.out.q.far h3.1 h3.2).below bl, by omega⟩
  rw [← hg14] at k14
  have HG14 := Lib.hid hg14
  obtain ⟨c0, hc0⟩ : ∃ c0, c0 = c := ⟨_, rfl⟩
  obtain ⟨A0, hA0⟩ : ∃ A0, A0 = A := ⟨_, rfl⟩
  obtain ⟨cp0, hcp0⟩ : ∃ x, x = cp := ⟨_, rfl⟩
  have hfin : Hid (∀ W g' v', Stay wl g v g11 g' v' W → wl.heap.size ≤ W.heap.size → ChS w3.heap.size g2 c0 v2 W ∧ RefC W c0 A0 (.agg #[.int .u64 (c0.low : Int), .slice A0 c0.dirs.length cp0]) ∧ Blk W g14 36 #[.int .u64 (c0.low : Int), .slice A0 c0.dirs.length cp0]) := fun W g' v' hs hsz => by
    subst hc0 hA0 hcp0
    exact ⟨q2l.stay hs h2 h2n h2v, FL.r.keep hsz (fun ad h => (hs ad.block (FL.far ad h) (hA11.out ad h)).1), ((hs g14 h14 h14n).1).trans k14⟩
  have HFL := Lib.hid (And.intro FL (And.intro hf11l (And.intro hA11.out k11l)))
  have HC0 := Lib.hid hc0
  clear hc0 hA0 hcp0 F4 k114 hf114 hlt11 hg2lt kz bz hg14 hg5 bl FL k11l hf11l h14 h14n q2l h2 h2n h2v q2 B4 k14 hf11 k11 HCP HF3
  go_upto_region 11 with (refine wpList_store (by rfl) (.tmp 14) (.tmp 47) (by rfl) (by rfl) (by rfl) hst ?_)
  rw [← HG14.out]
  clear hst x0 x1 HG14 HG
  obtain ⟨gs, hgs⟩ : ∃ gs, gs = g := ⟨_, rfl⟩
  obtain ⟨vs, hvs⟩ : ∃ vs, vs = v := ⟨_, rfl⟩
  rw [← hgs, ← hvs] at hfin
  have HST : Hid (Stay wl gs vs g11 g v wl) := by rw [hgs, hvs]; exact Stay.start _ _ _ _
  clear hgs hvs HC0
  go_wp2_with fail
  go_loopg [9, 15] n (fun gk v9 v15 wr => ∃ (i : Nat) (c : Ch) (B g : Nat) (v : Value) (A : Option Addr) (cp : Nat), i + gk = n ∧ v9 = .pointer (some ⟨g, 0, none⟩) ∧ v15 = .int .i64 (i : Int) ∧ Duo w B g c v c A (.agg #[.int .u64 (c.low : Int), .slice A c.dirs.length cp]) wr ∧ Far wr g v g11 ∧ Hid (∀ ad, A = some ad → ad.block ≠ g11) ∧ Blk wr g11 36 #[.int .u64 (c.low : Int), .slice A c.dirs.length cp] ∧ Hid (c.dirs.length ≤ 4 + i ∧ Wide c) ∧ Hid (Stay wl gs vs g11 g v wr) ∧ Hid (wl.heap.size ≤ wr.heap.size))
  case atStart => exact ⟨0, c, w.heap.size, g, v, A, cp, by omega, rfl, rfl, HFL.out.1, HFL.out.2.1, HFL.out.2.2.1, HFL.out.2.2.2, HCL.out, HST.out, Nat.le_refl _⟩
  case round =>
    clear HFL HST HCL
    obtain ⟨i, c, B, g, v, A, cp, hi, rfl, rfl, F, hf11, HA11, k11, HLEN, HST, HSZ⟩ := hrel
    by_cases h4 : i < n
    · have hk4 : (i : Int) < (n : Int) := by omega
      obtain ⟨x, hx⟩ : ∃ x, l[i]? = some x := ⟨_, List.getElem?_eq_getElem (by rw [HN.out]; exact h4)⟩
      have HXF := Lib.hid (HFT.out x (List.mem_of_getElem? hx))
      obtain ⟨ad, rfl, hadl, a0, a1⟩ := HR.out.at_ hx
      have HAC : Hid (∀ W, Below w.heap.size w W → W.cell? (ad.add (i * 3)) = some (.int .u8 (x.act : Int)) ∧ W.cell? { block := (ad.add (i * 3)).block, off := (ad.add (i * 3)).off + 1 } = some (.int .u8 (x.s : Int)) ∧ W.cell? { block := (ad.add (i * 3)).block, off := (ad.add (i * 3)).off + 2 } = some (.int .u64 (x.n : Int))) := fun W hb =>
        ⟨(hb.cell (by show (ad.add (i * 3)).block < _; rw [block_of_add]; exact hadl)).trans (a0 _ rfl), (hb.cell (by show (ad.add (i * 3)).block < _; rw [block_of_add]; exact hadl)).trans (a1 0 _ rfl), (hb.cell (by show (ad.add (i * 3)).block < _; rw [block_of_add]; exact hadl)).trans (a1 1 _ rfl)⟩
      obtain ⟨q0, q1, q2⟩ := HAC.out wr F.bw
      have hlen : c.dirs.length < 1000 := by have := HLEN.out.1; omega
      clear hx hadl a0 a1
      by_cases ha0 : x.act = 0
      · have ha0i : ((x.act : Int) == 0) = true := beq_iff_eq.2 (by omega)
        obtain ⟨c', er, hp⟩ : ∃ c' er, c.release x.n = (c', er) := ⟨_, _, rfl⟩
        have hpo := release_ok F.q.ok x.n
        have hpl : (c.release x.n).1.dirs.length ≤ 4 + (i + 1) ∧ Wide (c.release x.n).1 := ⟨by have h1 := release_len c x.n; have h2 := HLEN.out.1; omega, wide_release HLEN.out.2 _⟩
        have HPG := Lib.hid (release_any F.q F.hB.2 x.n HXF.out.2.2)
        have HRP := Lib.hid (fun (W : World) (R : RefC W c A (.agg #[.int .u64 (c.low : Int), .slice A c.dirs.length cp])) => rrel_any c F.q.ok x.n HXF.out.2.2 A _ W R)
        rw [hp] at HPG HRP hpo hpl
        have HPN := Lib.hid hpo.ne
        have HPL := Lib.hid hpl
        clear hp hpo hpl
        go_wp2_with fail
        refine HPG.out.mono ?_; rintro e w6 ⟨rfl, v6, q6, s6⟩
        have F6 := (F.step q6 s6).below (below_drewN (Below.refl _ w6) 1)
        have k6 := (s6.blk hf11 k11).drew
        have f6 := (hf11.step s6).below (below_drewN (Below.refl _ w6) 1)
        have t6 := (HST.out.step s6).below (below_drewN (Below.refl _ w6) 1)
        have z6 : wl.heap.size ≤ w6.drew.heap.size := Nat.le_trans HSZ.out (Nat.le_trans s6.out.size (below_drewN (Below.refl w6.heap.size w6) 1).size)
        have b6 := F6.bw
        clear F hf11 k11 q0 q1 q2 q6 s6 HPG HST HSZ
        go_upto_region 20 with fail
        have hld := blk_load (P := Try.prog) (ty := 36) k6 Try.underlying36 rfl size_rc
        refine wp_region_held_drew (S := (fun W : World => W.cell? { block := (ad.add (i * 3)).block, off := (ad.add (i * 3)).off + 2 } = some (.int .u64 (x.n : Int)))) (by kernel_rfl) ((HAC.out _ b6).2.2) (fun hHeld => ?_)
        refine take1 (i := 1) (d := 87) (v := ?_) rfl (by kernel_rfl) (by kernel_rfl) (by kernel_rfl) rfl (fun _ _ _ h => h) (Or.inl ⟨by rfl, ?_⟩) (by assumption) ?_
        rotate_left
        · (intro w hSw; (try dsimp only at hSw); go_simp); with_reducible rfl
        simp only [List.set_cons_zero, List.set_cons_succ]
        refine take1 (i := 2) (d := 88) (v := ?_) rfl (by kernel_rfl) (by kernel_rfl) (by kernel_rfl) rfl (fun _ _ _ h => h) (Or.inl ⟨by rfl, ?_⟩) (by assumption) ?_
        rotate_left
        · (intro w hSw; (try dsimp only at hSw); go_simp); with_reducible rfl
        simp only [List.set_cons_zero, List.set_cons_succ]
        refine take1 (i := 3) (d := 89) (v := ?_) rfl (by kernel_rfl) (by kernel_rfl) (by kernel_rfl) rfl (fun _ _ _ h => h) (Or.inl ⟨by rfl, ?_⟩) (by assumption) ?_
        rotate_left
        · (intro w hSw; (try dsimp only at hSw); go_simp); with_reducible rfl
        simp only [List.set_cons_zero, List.set_cons_succ]
        refine take1 (i := 4) (d := 90) (v := ?_) rfl (by kernel_rfl) (by kernel_rfl) (by kernel_rfl) rfl (fun _ _ _ h => h) (Or.inl ⟨by rfl, ?_⟩) (by assumption) ?_
        rotate_left
        · (intro w hSw; (try dsimp only at hSw); go_simp); with_reducible rfl
        simp only [List.set_cons_zero, List.set_cons_succ]
        refine take1 (i := 5) (d := 91) (v := ?_) rfl (by kernel_rfl) (by kernel_rfl) (by kernel_rfl) rfl (fun _ _ _ h => h) (Or.inl ⟨by rfl, ?_⟩) (by assumption) ?_
        rotate_left
        · (intro w hSw; (try dsimp only at hSw); go_simp); with_reducible rfl
        simp only [List.set_cons_zero, List.set_cons_succ]
        refine wpAnyH_ready (rs := [0]) (by kernel_rfl) (by simp) (AllReadyH.cons rfl (fun Kreg hKreg => ?_) AllReadyH.nil)
        refine step_load (by rfl) (.tmp 11) (by rfl) (by rfl) hld ?_
        refine hKreg.out _ _ (((HAC.out _ (by first | exact b8 | exact b7 | exact b6)).2.2)) (fun hHeld => ?_)
        clear hKreg Kreg
        refine wpAnyH_put (d := 86) (by rfl) ?_
        simp only [List.set_cons_zero, List.set_cons_succ]
        refine wpAnyH_ready (rs := [6]) (by kernel_rfl) (by simp) (AllReadyH.cons rfl (fun Kreg hKreg => ?_) AllReadyH.nil)
        go_simp
        refine (HRP.out _ F6.r).mono ?_; rintro e w7 ⟨⟨A', u', rfl, ⟨cp', rfl, hcp', hrd'⟩, hfa⟩, B7⟩
        have F7 := F6.refstep ⟨cp', rfl, hcp', hrd'⟩ hfa B7 HPN.out
        have k7 := k6.below B7 k6.lt
        have f7 := f6.below B7
        have hA8 : ∀ ad, A' = some ad → ad.block ≠ g11 := fun ad' h => by
          rcases hfa ad' h with ⟨ad1, hA, he⟩ | hge
          · rw [← he]; exact HA11.out ad1 hA
          · have h1 : g11 < w6.drew.heap.size := f6.lt; have h2 : w6.drew.heap.size ≤ ad'.block := hge; omega
        obtain ⟨w8, hst, k8, hg8⟩ := st_rc k7 rfl (c'.low : Int) A' c'.dirs.length cp'
        have F8 := F7.grown hg8 f7 hA8 h011.out
        have f8 : Far w8 _ _ g11 := ⟨Nat.lt_of_lt_of_le f7.lt hg8.size, f7.ne, f7.nv⟩
        have t8 := (t6.below B7).grown hg8
        have z8 : wl.heap.size ≤ w8.heap.size := Nat.le_trans z6 (Nat.le_trans B7.size hg8.size)
        have b7 := F7.bw
        have b8 := F8.bw
        go_wp2_with fail
        refine hKreg.out _ _ (((HAC.out _ (by first | exact b8 | exact b7 | exact b6)).2.2)) (fun hHeld => ?_)
        clear hKreg Kreg
        try simp only [Act.put, List.setIfInBounds_toArray, List.set_cons_zero, List.set_cons_succ]
        refine take1 (i := 7) (d := 85) (v := ?_) rfl (by kernel_rfl) (by kernel_rfl) (by kernel_rfl) rfl (fun _ _ _ h => h) (Or.inl ⟨by rfl, ?_⟩) (by assumption) ?_
        rotate_left
        · (intro w hSw; (try dsimp only at hSw); go_simp); with_reducible rfl
        simp only [List.set_cons_zero, List.set_cons_succ]
        refine take1 (i := 8) (d := 93) (v := ?_) rfl (by kernel_rfl) (by kernel_rfl) (by kernel_rfl) rfl (fun _ _ _ h => h) (Or.inl ⟨by rfl, ?_⟩) (by assumption) ?_
        rotate_left
        · (intro w hSw; (try dsimp only at hSw); go_simp); with_reducible rfl
        simp only [List.set_cons_zero, List.set_cons_succ]
        refine take1 (i := 9) (d := 94) (v := ?_) rfl (by kernel_rfl) (by kernel_rfl) (by kernel_rfl) rfl (fun _ _ _ h => h) (Or.inl ⟨by rfl, ?_⟩) (by assumption) ?_
        rotate_left
        · (intro w hSw; (try dsimp only at hSw); go_simp); with_reducible rfl
        simp only [List.set_cons_zero, List.set_cons_succ]
        refine wpAnyH_ready (rs := [10]) (by kernel_rfl) (by simp) (AllReadyH.cons rfl (fun Kreg hKreg => ?_) AllReadyH.nil)
        refine step_store (by rfl) (.tmp 11) (.tmp 93) (by rfl) (by rfl) (by rfl) hst ?_
        refine hKreg.out _ _ (((HAC.out _ (by first | exact b8 | exact b7 | exact b6)).2.2)) (fun hHeld => ?_)
        clear hKreg Kreg
        try simp only [Act.put, List.setIfInBounds_toArray, List.set_cons_zero, List.set_cons_succ]
        refine take1 (i := 11) (d := 17) (v := ?_) rfl (by kernel_rfl) (by kernel_rfl) (by kernel_rfl) rfl (fun _ _ _ h => h) (Or.inl ⟨by rfl, ?_⟩) (by assumption) ?_
        rotate_left
        · (intro w hSw; (try dsimp only at hSw); go_simp); with_reducible rfl
        simp only [List.set_cons_zero, List.set_cons_succ]
        refine wpAnyH_done (by kernel_rfl) ?_ _
        have HL := Lib.hid (alike_any F8.q A' _ F8.r a b HAB.out.1 HAB.out.2)
        have x0 := k8.cell 0
        have x1 := k8.cell 1
        have HF8 := Lib.hid (And.intro F8 (And.intro f8 (And.intro hA8 (And.intro k8 (And.intro t8 z8)))))
        clear F8 f8 hA8 k8 t8 z8 F7 k7 f7 hg8 F6 k6 f6 t6 z6 b6 b7 b8 hld HRP
        go_wp2_with fail
        refine HL.out.mono ?_; rintro e w9 ⟨rfl, B9⟩
        have F9 := HF8.out.1.below B9
        have k9 := HF8.out.2.2.2.1.below B9 HF8.out.2.2.2.1.lt
        have f9 := HF8.out.2.1.below B9
        have t9 := HF8.out.2.2.2.2.1.below B9
        have HF9 := Lib.hid (And.intro F9 (And.intro f9 (And.intro HF8.out.2.2.1 (And.intro k9 (And.intro t9 (Nat.le_trans HF8.out.2.2.2.2.2 B9.size))))))
        clear F9 k9 f9 t9 HF8 B9 HL x0 x1
        go_wp2_with fail
        go_roundg (n - (i + 1))
        case measure => omega
        case rel => exact ⟨i + 1, c', _, _, _, A', cp', by omega, rfl, by go_num, HF9.out.1, HF9.out.2.1, HF9.out.2.2.1, HF9.out.2.2.2.1, HPL.out, HF9.out.2.2.2.2.1, HF9.out.2.2.2.2.2⟩

      have ha0i : ((x.act : Int) == 0) = false := beq_eq_false_iff_ne.2 (by omega)
      by_cases ha1 : x.act = 1
      · have ha1i : ((x.act : Int) == 1) = true := beq_iff_eq.2 (by omega)
        have hwd := wide_of F.q.ok HLEN.out.2
        have ht64 : c.top < 18446744073709551616 := by have := F.q.ok.up; omega
        have hback : (Byt.by8 c.tail).map UInt8.toNat = c.tail := Byt.by8_inj (Byt.nat_lt _) (tail_lt F.q.ok) (Byt.by8_nat _)
        have hl8 : (Byt.by8 c.tail).length ≤ 9223372036854775807 := by rw [Byt.by8_length]; unfold Ch.tail; rw [List.length_drop]; omega
        have hOF := fun W => of_any c.top ht64 (Byt.by8 c.tail) hl8 W
        have hRO := fun W => rof_any c.top ht64 (Byt.by8 c.tail) hl8 W
        rw [hback] at hOF hRO
        obtain ⟨c', hc'⟩ : ∃ c', c' = ofCh c.top c.tail := ⟨_, rfl⟩
        have HPN : Hid (0 < c'.dirs.length) := by rw [hc']; exact (of_ok hwd).1.ne
        have HPL : Hid (c'.dirs.length ≤ 4 + (i + 1) ∧ Wide c') := by
          rw [hc']
          have := wide_ofCh hwd
          exact ⟨by omega, this.1⟩
        obtain ⟨t, ht⟩ : ∃ t, t = c.top := ⟨_, rfl⟩
        obtain ⟨tl, htl⟩ : ∃ tl, tl = (⟨(Byt.by8 c.tail).toArray⟩ : ByteArray) := ⟨_, rfl⟩
        have hTP := top_any F.q
        have hTL := fun (W : World) (q : ChS B g c v W) => tail_any q
        have hRT := fun (W : World) (R : RefC W c A (.agg #[.int .u64 (c.low : Int), .slice A c.dirs.length cp])) => rtop_any c F.q.ok.ne F.q.ok.up F.q.ok.len A _ W R
        have hRTL := fun (W : World) (R : RefC W c A (.agg #[.int .u64 (c.low : Int), .slice A c.dirs.length cp])) => rtail_any c F.q.ok A _ W R
        rw [← htl] at hOF hRO hTL hRTL
        rw [← ht] at hTP hRT hOF hRO
        rw [ht] at hOF hRO
        have HOF : Hid (∀ W, Calls Try.prog 19 #[.int .u64 (t : Int), .string tl] W fun e w' => (∃ g' v', e = .returned (.tuple #[.pointer (some ⟨g', 0, none⟩), .int .i64 0]) ∧ ChS W.heap.size g' c' v' w') ∧ Below W.heap.size W w') := fun W => by
          rw [ht]
          refine (hOF W).mono ?_
          rintro e w' ⟨hx, hb⟩
          rcases hx with ⟨_, h⟩ | ⟨hno, _⟩
          · exact ⟨by rw [hc']; exact h, hb⟩
          · rw [hwd] at hno; cases hno
        have HRO : Hid (∀ W, Calls Try.prog 20 #[.int .u64 (t : Int), .string tl] W fun e w' => RRet W none c' 0 e w' ∧ Below W.heap.size W w') := fun W => by
          rw [ht]
          refine (hRO W).mono ?_
          rintro e w' ⟨hx, hb⟩
          rcases hx with ⟨_, h⟩ | ⟨hno, _⟩
          · exact ⟨by rw [hc']; exact h, hb⟩
          · rw [hwd] at hno; cases hno
        have HTP := Lib.hid hTP
        have HTL := Lib.hid hTL
        have HRT := Lib.hid hRT
        have HRTL := Lib.hid hRTL
        clear hOF hRO hTP hTL hRT hRTL ht htl hc' hback hl8 ht64 hwd q1 q2 hlen
        go_wp2_with fail
        refine HTP.out.mono ?_; rintro e w2 ⟨rfl, B2⟩
        have F2 := F.below B2
        have k2 := k11.below B2 k11.lt
        have t2 := HST.out.below B2
        have z2 := Nat.le_trans HSZ.out B2.size
        clear F k11 hf11 HST HSZ HTP q0 B2
        go_wp2_with fail
        refine (HTL.out _ F2.q).mono ?_; rintro e w4 ⟨rfl, B4⟩
        have F4 := F2.below B4
        have k4 := k2.below B4 k2.lt
        have t4 := t2.below B4
        have z4 := Nat.le_trans z2 B4.size
        clear F2 k2 t2 z2 B4 HTL
        go_wp2_with fail
        refine (HOF.out w4).mono ?_; rintro e w5 ⟨⟨g', v', rfl, q'⟩, B5⟩
        have F6 := (F4.fresh q' B5).below (below_drewN (Below.refl _ w5) 1)
        have k6 := (k4.below B5 k4.lt).drew
        have f6 := (q'.far_old k4.lt B5.size).below (below_drewN (Below.refl _ w5) 1)
        have t6 := (t4.fresh q' B5).below (below_drewN (Below.refl _ w5) 1)
        have z6 : wl.heap.size ≤ w5.drew.heap.size := Nat.le_trans z4 B5.size
        have b6 := F6.bw
        clear F4 k4 t4 z4 B5 HOF q'
        go_upto_region 23 with fail
        have b0 := Below.refl w5.drew.heap.size w5.drew
        have hld := blk_load (P := Try.prog) (ty := 36) k6 Try.underlying36 rfl size_rc
        refine wp_region_held_drew (S := (fun _ : World => True)) (by kernel_rfl) (trivial) (fun hHeld => ?_)
        refine wpAnyH_ready (rs := [0, 2]) (by kernel_rfl) (by simp) (AllReadyH.cons rfl (fun Kreg hKreg => ?_) (AllReadyH.cons rfl (fun Kreg hKreg => ?_) AllReadyH.nil))
        · refine step_load (by rfl) (.tmp 11) (by rfl) (by rfl) (by first | exact hld | exact hldT | exact hldL) ?_
          refine hKreg.out _ _ (trivial) (fun hHeld => ?_)
          clear hKreg Kreg
          refine wpAnyH_put (d := 106) (by rfl) ?_
          simp only [List.set_cons_zero, List.set_cons_succ]
          refine wpAnyH_ready (rs := [1, 2]) (by kernel_rfl) (by simp) (AllReadyH.cons rfl (fun Kreg hKreg => ?_) (AllReadyH.cons rfl (fun Kreg hKreg => ?_) AllReadyH.nil))
          · go_simp
            refine (HRT.out _ (F6.r.below (by first | exact bL | exact b0))).mono ?_; rintro e wT ⟨rfl, BT⟩
            have bT : Below w5.drew.heap.size w5.drew wT := by first | exact bL.trans (BT.mono bL.size) | exact b0.trans (BT.mono b0.size)
            have hldT := blk_load (P := Try.prog) (ty := 36) (k6.below bT k6.lt) Try.underlying36 rfl size_rc
            go_wp2_with fail
            refine hKreg.out _ _ (trivial) (fun hHeld => ?_)
            clear hKreg Kreg
            try simp only [Act.put, List.setIfInBounds_toArray, List.set_cons_zero, List.set_cons_succ]
            refine wpAnyH_ready (rs := [2]) (by kernel_rfl) (by simp) (AllReadyH.cons rfl (fun Kreg hKreg => ?_) AllReadyH.nil)
            refine step_load (by rfl) (.tmp 11) (by rfl) (by rfl) (by first | exact hld | exact hldT | exact hldL) ?_
            refine hKreg.out _ _ (trivial) (fun hHeld => ?_)
            clear hKreg Kreg
            refine wpAnyH_put (d := 108) (by rfl) ?_
            simp only [List.set_cons_zero, List.set_cons_succ]
            refine wpAnyH_ready (rs := [3]) (by kernel_rfl) (by simp) (AllReadyH.cons rfl (fun Kreg hKreg => ?_) AllReadyH.nil)
            go_simp
            refine (HRTL.out _ (F6.r.below (by first | exact bT | exact b0))).mono ?_; rintro e wL ⟨rfl, BL⟩
            have bL : Below w5.drew.heap.size w5.drew wL := by first | exact bT.trans (BL.mono bT.size) | exact b0.trans (BL.mono b0.size)
            have hldL := blk_load (P := Try.prog) (ty := 36) (k6.below bL k6.lt) Try.underlying36 rfl size_rc
            go_wp2_with fail
            refine hKreg.out _ _ (trivial) (fun hHeld => ?_)
            clear hKreg Kreg
            try simp only [Act.put, List.setIfInBounds_toArray, List.set_cons_zero, List.set_cons_succ]
            refine wpAnyH_ready (rs := [4]) (by kernel_rfl) (by simp) (AllReadyH.cons rfl (fun Kreg hKreg => ?_) AllReadyH.nil)
            go_simp
            refine (HRO.out _).mono ?_; rintro e w7 ⟨⟨A', u', rfl, ⟨cp', rfl, hcp', hrd'⟩, hfa0⟩, B7⟩
            have b7w : Below w5.drew.heap.size w5.drew w7 := by first | exact bL.trans (B7.mono bL.size) | exact bT.trans (B7.mono bT.size)
            have hfa : FromA w5.drew A A' := fun ad h => by
              rcases hfa0 ad h with ⟨_, h', _⟩ | hge
              · cases h'
              · have h1 := bL.size
                have h2 := bT.size
                exact .inr (by omega)
            have F7 := F6.refstep ⟨cp', rfl, hcp', hrd'⟩ hfa b7w HPN.out
            have k7 := k6.below b7w k6.lt
            have f7 := f6.below b7w
            have hA8 : ∀ ad, A' = some ad → ad.block ≠ g11 := fun ad' h => by
              rcases hfa ad' h with ⟨ad1, hA, he⟩ | hge
              · rw [← he]; exact HA11.out ad1 hA
              · have h1 : g11 < w5.drew.heap.size := f6.lt; have h2 : w5.drew.heap.size ≤ ad'.block := hge; omega
            obtain ⟨w8, hst, k8, hg8⟩ := st_rc k7 rfl (c'.low : Int) A' c'.dirs.length cp'
            have F8 := F7.grown hg8 f7 hA8 h011.out
            have f8 : Far w8 _ _ g11 := ⟨Nat.lt_of_lt_of_le f7.lt hg8.size, f7.ne, f7.nv⟩
            have t8 := (t6.below b7w).grown hg8
            have z8 : wl.heap.size ≤ w8.heap.size := Nat.le_trans z6 (Nat.le_trans b7w.size hg8.size)
            have b7 := F7.bw
            have b8 := F8.bw
            go_wp2_with fail
            refine hKreg.out _ _ (trivial) (fun hHeld => ?_)
            clear hKreg Kreg
            try simp only [Act.put, List.setIfInBounds_toArray, List.set_cons_zero, List.set_cons_succ]
            refine take1 (i := 5) (d := 105) (v := ?_) rfl (by kernel_rfl) (by kernel_rfl) (by kernel_rfl) rfl (fun _ _ _ h => h) (Or.inl ⟨by rfl, ?_⟩) (by assumption) ?_
            rotate_left
            · (intro w hSw; (try dsimp only at hSw); go_simp); with_reducible rfl
            simp only [List.set_cons_zero, List.set_cons_succ]
            refine take1 (i := 6) (d := 111) (v := ?_) rfl (by kernel_rfl) (by kernel_rfl) (by kernel_rfl) rfl (fun _ _ _ h => h) (Or.inl ⟨by rfl, ?_⟩) (by assumption) ?_
            rotate_left
            · (intro w hSw; (try dsimp only at hSw); go_simp); with_reducible rfl
            simp only [List.set_cons_zero, List.set_cons_succ]
            refine take1 (i := 7) (d := 112) (v := ?_) rfl (by kernel_rfl) (by kernel_rfl) (by kernel_rfl) rfl (fun _ _ _ h => h) (Or.inl ⟨by rfl, ?_⟩) (by assumption) ?_
            rotate_left
            · (intro w hSw; (try dsimp only at hSw); go_simp); with_reducible rfl
            simp only [List.set_cons_zero, List.set_cons_succ]
            refine wpAnyH_ready (rs := [8]) (by kernel_rfl) (by simp) (AllReadyH.cons rfl (fun Kreg hKreg => ?_) AllReadyH.nil)
            refine step_store (by rfl) (.tmp 11) (.tmp 111) (by rfl) (by rfl) (by rfl) hst ?_
            refine hKreg.out _ _ (trivial) (fun hHeld => ?_)
            clear hKreg Kreg
            try simp only [Act.put, List.setIfInBounds_toArray, List.set_cons_zero, List.set_cons_succ]
            refine take1 (i := 9) (d := 17) (v := ?_) rfl (by kernel_rfl) (by kernel_rfl) (by kernel_rfl) rfl (fun _ _ _ h => h) (Or.inl ⟨by rfl, ?_⟩) (by assumption) ?_
            rotate_left
            · (intro w hSw; (try dsimp only at hSw); go_simp); with_reducible rfl
            simp only [List.set_cons_zero, List.set_cons_succ]
            refine wpAnyH_done (by kernel_rfl) ?_ _
            have HL := Lib.hid (alike_any F8.q A' _ F8.r a b HAB.out.1 HAB.out.2)
            have x0 := k8.cell 0
            have x1 := k8.cell 1
            have HF8 := Lib.hid (And.intro F8 (And.intro f8 (And.intro hA8 (And.intro k8 (And.intro t8 z8)))))
            clear F8 f8 hA8 k8 t8 z8 F7 k7 f7 hg8 F6 k6 f6 t6 z6 b6 b7 b8 hld hldT hldL HRT HRTL HRO bT bL b7w b0
            go_wp2_with fail
            refine HL.out.mono ?_; rintro e w9 ⟨rfl, B9⟩
            have F9 := HF8.out.1.below B9
            have k9 := HF8.out.2.2.2.1.below B9 HF8.out.2.2.2.1.lt
            have f9 := HF8.out.2.1.below B9
            have t9 := HF8.out.2.2.2.2.1.below B9
            have HF9 := Lib.hid (And.intro F9 (And.intro f9 (And.intro HF8.out.2.2.1 (And.intro k9 (And.intro t9 (Nat.le_trans HF8.out.2.2.2.2.2 B9.size))))))
            clear F9 k9 f9 t9 HF8 B9 HL x0 x1
            go_wp2_with fail
            go_roundg (n - (i + 1))
            case measure => omega
            case rel => exact ⟨i + 1, c', _, _, _, A', cp', by omega, rfl, by go_num, HF9.out.1, HF9.out.2.1, HF9.out.2.2.1, HF9.out.2.2.2.1, HPL.out, HF9.out.2.2.2.2.1, HF9.out.2.2.2.2.2⟩
          · refine step_load (by rfl) (.tmp 11) (by rfl) (by rfl) (by first | exact hld | exact hldT | exact hldL) ?_
            refine hKreg.out _ _ (trivial) (fun hHeld => ?_)
            clear hKreg Kreg
            refine wpAnyH_put (d := 108) (by rfl) ?_
            simp only [List.set_cons_zero, List.set_cons_succ]
            refine wpAnyH_ready (rs := [1]) (by kernel_rfl) (by simp) (AllReadyH.cons rfl (fun Kreg hKreg => ?_) AllReadyH.nil)
            go_simp
            refine (HRT.out _ (F6.r.below (by first | exact bL | exact b0))).mono ?_; rintro e wT ⟨rfl, BT⟩
            have bT : Below w5.drew.heap.size w5.drew wT := by first | exact bL.trans (BT.mono bL.size) | exact b0.trans (BT.mono b0.size)
            have hldT := blk_load (P := Try.prog) (ty := 36) (k6.below bT k6.lt) Try.underlying36 rfl size_rc
            go_wp2_with fail
            refine hKreg.out _ _ (trivial) (fun hHeld => ?_)
            clear hKreg Kreg
            try simp only [Act.put, List.setIfInBounds_toArray, List.set_cons_zero, List.set_cons_succ]
            refine wpAnyH_ready (rs := [3]) (by kernel_rfl) (by simp) (AllReadyH.cons rfl (fun Kreg hKreg => ?_) AllReadyH.nil)
            go_simp
            refine (HRTL.out _ (F6.r.below (by first | exact bT | exact b0))).mono ?_; rintro e wL ⟨rfl, BL⟩
            have bL : Below w5.drew.heap.size w5.drew wL := by first | exact bT.trans (BL.mono bT.size) | exact b0.trans (BL.mono b0.size)
            have hldL := blk_load (P := Try.prog) (ty := 36) (k6.below bL k6.lt) Try.underlying36 rfl size_rc
            go_wp2_with fail
            refine hKreg.out _ _ (trivial) (fun hHeld => ?_)
            clear hKreg Kreg
            try simp only [Act.put, List.setIfInBounds_toArray, List.set_cons_zero, List.set_cons_succ]
            refine wpAnyH_ready (rs := [4]) (by kernel_rfl) (by simp) (AllReadyH.cons rfl (fun Kreg hKreg => ?_) AllReadyH.nil)
            go_simp
            refine (HRO.out _).mono ?_; rintro e w7 ⟨⟨A', u', rfl, ⟨cp', rfl, hcp', hrd'⟩, hfa0⟩, B7⟩
            have b7w : Below w5.drew.heap.size w5.drew w7 := by first | exact bL.trans (B7.mono bL.size) | exact bT.trans (B7.mono bT.size)
            have hfa : FromA w5.drew A A' := fun ad h => by
              rcases hfa0 ad h with ⟨_, h', _⟩ | hge
              · cases h'
              · have h1 := bL.size
                have h2 := bT.size
                exact .inr (by omega)
            have F7 := F6.refstep ⟨cp', rfl, hcp', hrd'⟩ hfa b7w HPN.out
            have k7 := k6.below b7w k6.lt
            have f7 := f6.below b7w
            have hA8 : ∀ ad, A' = some ad → ad.block ≠ g11 := fun ad' h => by
              rcases hfa ad' h with ⟨ad1, hA, he⟩ | hge
              · rw [← he]; exact HA11.out ad1 hA
              · have h1 : g11 < w5.drew.heap.size := f6.lt; have h2 : w5.drew.heap.size ≤ ad'.block := hge; omega
            obtain ⟨w8, hst, k8, hg8⟩ := st_rc k7 rfl (c'.low : Int) A' c'.dirs.length cp'
            have F8 := F7.grown hg8 f7 hA8 h011.out
            have f8 : Far w8 _ _ g11 := ⟨Nat.lt_of_lt_of_le f7.lt hg8.size, f7.ne, f7.nv⟩
            have t8 := (t6.below b7w).grown hg8
            have z8 : wl.heap.size ≤ w8.heap.size := Nat.le_trans z6 (Nat.le_trans b7w.size hg8.size)
            have b7 := F7.bw
            have b8 := F8.bw
            go_wp2_with fail
            refine hKreg.out _ _ (trivial) (fun hHeld => ?_)
            clear hKreg Kreg
            try simp only [Act.put, List.setIfInBounds_toArray, List.set_cons_zero, List.set_cons_succ]
            refine take1 (i := 5) (d := 105) (v := ?_) rfl (by kernel_rfl) (by kernel_rfl) (by kernel_rfl) rfl (fun _ _ _ h => h) (Or.inl ⟨by rfl, ?_⟩) (by assumption) ?_
            rotate_left
            · (intro w hSw; (try dsimp only at hSw); go_simp); with_reducible rfl
            simp only [List.set_cons_zero, List.set_cons_succ]
            refine take1 (i := 6) (d := 111) (v := ?_) rfl (by kernel_rfl) (by kernel_rfl) (by kernel_rfl) rfl (fun _ _ _ h => h) (Or.inl ⟨by rfl, ?_⟩) (by assumption) ?_
            rotate_left
            · (intro w hSw; (try dsimp only at hSw); go_simp); with_reducible rfl
            simp only [List.set_cons_zero, List.set_cons_succ]
            refine take1 (i := 7) (d := 112) (v := ?_) rfl (by kernel_rfl) (by kernel_rfl) (by kernel_rfl) rfl (fun _ _ _ h => h) (Or.inl ⟨by rfl, ?_⟩) (by assumption) ?_
            rotate_left
            · (intro w hSw; (try dsimp only at hSw); go_simp); with_reducible rfl
            simp only [List.set_cons_zero, List.set_cons_succ]
            refine wpAnyH_ready (rs := [8]) (by kernel_rfl) (by simp) (AllReadyH.cons rfl (fun Kreg hKreg => ?_) AllReadyH.nil)
            refine step_store (by rfl) (.tmp 11) (.tmp 111) (by rfl) (by rfl) (by rfl) hst ?_
            refine hKreg.out _ _ (trivial) (fun hHeld => ?_)
            clear hKreg Kreg
            try simp only [Act.put, List.setIfInBounds_toArray, List.set_cons_zero, List.set_cons_succ]
            refine take1 (i := 9) (d := 17) (v := ?_) rfl (by kernel_rfl) (by kernel_rfl) (by kernel_rfl) rfl (fun _ _ _ h => h) (Or.inl ⟨by rfl, ?_⟩) (by assumption) ?_
            rotate_left
            · (intro w hSw; (try dsimp only at hSw); go_simp); with_reducible rfl
            simp only [List.set_cons_zero, List.set_cons_succ]
            refine wpAnyH_done (by kernel_rfl) ?_ _
            have HL := Lib.hid (alike_any F8.q A' _ F8.r a b HAB.out.1 HAB.out.2)
            have x0 := k8.cell 0
            have x1 := k8.cell 1
            have HF8 := Lib.hid (And.intro F8 (And.intro f8 (And.intro hA8 (And.intro k8 (And.intro t8 z8)))))
            clear F8 f8 hA8 k8 t8 z8 F7 k7 f7 hg8 F6 k6 f6 t6 z6 b6 b7 b8 hld hldT hldL HRT HRTL HRO bT bL b7w b0
            go_wp2_with fail
            refine HL.out.mono ?_; rintro e w9 ⟨rfl, B9⟩
            have F9 := HF8.out.1.below B9
            have k9 := HF8.out.2.2.2.1.below B9 HF8.out.2.2.2.1.lt
            have f9 := HF8.out.2.1.below B9
            have t9 := HF8.out.2.2.2.2.1.below B9
            have HF9 := Lib.hid (And.intro F9 (And.intro f9 (And.intro HF8.out.2.2.1 (And.intro k9 (And.intro t9 (Nat.le_trans HF8.out.2.2.2.2.2 B9.size))))))
            clear F9 k9 f9 t9 HF8 B9 HL x0 x1
            go_wp2_with fail
            go_roundg (n - (i + 1))
            case measure => omega
            case rel => exact ⟨i + 1, c', _, _, _, A', cp', by omega, rfl, by go_num, HF9.out.1, HF9.out.2.1, HF9.out.2.2.1, HF9.out.2.2.2.1, HPL.out, HF9.out.2.2.2.2.1, HF9.out.2.2.2.2.2⟩
        · refine step_load (by rfl) (.tmp 11) (by rfl) (by rfl) (by first | exact hld | exact hldT | exact hldL) ?_
          refine hKreg.out _ _ (trivial) (fun hHeld => ?_)
          clear hKreg Kreg
          refine wpAnyH_put (d := 108) (by rfl) ?_
          simp only [List.set_cons_zero, List.set_cons_succ]
          refine wpAnyH_ready (rs := [0]) (by kernel_rfl) (by simp) (AllReadyH.cons rfl (fun Kreg hKreg => ?_) AllReadyH.nil)
          refine step_load (by rfl) (.tmp 11) (by rfl) (by rfl) (by first | exact hld | exact hldT | exact hldL) ?_
          refine hKreg.out _ _ (trivial) (fun hHeld => ?_)
          clear hKreg Kreg
          refine wpAnyH_put (d := 106) (by rfl) ?_
          simp only [List.set_cons_zero, List.set_cons_succ]
          refine wpAnyH_ready (rs := [1]) (by kernel_rfl) (by simp) (AllReadyH.cons rfl (fun Kreg hKreg => ?_) AllReadyH.nil)
          go_simp
          refine (HRT.out _ (F6.r.below (by first | exact bL | exact b0))).mono ?_; rintro e wT ⟨rfl, BT⟩
          have bT : Below w5.drew.heap.size w5.drew wT := by first | exact bL.trans (BT.mono bL.size) | exact b0.trans (BT.mono b0.size)
          have hldT := blk_load (P := Try.prog) (ty := 36) (k6.below bT k6.lt) Try.underlying36 rfl size_rc
          go_wp2_with fail
          refine hKreg.out _ _ (trivial) (fun hHeld => ?_)
          clear hKreg Kreg
          try simp only [Act.put, List.setIfInBounds_toArray, List.set_cons_zero, List.set_cons_succ]
          refine wpAnyH_ready (rs := [3]) (by kernel_rfl) (by simp) (AllReadyH.cons rfl (fun Kreg hKreg => ?_) AllReadyH.nil)
          go_simp
          refine (HRTL.out _ (F6.r.below (by first | exact bT | exact b0))).mono ?_; rintro e wL ⟨rfl, BL⟩
          have bL : Below w5.drew.heap.size w5.drew wL := by first | exact bT.trans (BL.mono bT.size) | exact b0.trans (BL.mono b0.size)
          have hldL := blk_load (P := Try.prog) (ty := 36) (k6.below bL k6.lt) Try.underlying36 rfl size_rc
          go_wp2_with fail
          refine hKreg.out _ _ (trivial) (fun hHeld => ?_)
          clear hKreg Kreg
          try simp only [Act.put, List.setIfInBounds_toArray, List.set_cons_zero, List.set_cons_succ]
          refine wpAnyH_ready (rs := [4]) (by kernel_rfl) (by simp) (AllReadyH.cons rfl (fun Kreg hKreg => ?_) AllReadyH.nil)
          go_simp
          refine (HRO.out _).mono ?_; rintro e w7 ⟨⟨A', u', rfl, ⟨cp', rfl, hcp', hrd'⟩, hfa0⟩, B7⟩
          have b7w : Below w5.drew.heap.size w5.drew w7 := by first | exact bL.trans (B7.mono bL.size) | exact bT.trans (B7.mono bT.size)
          have hfa : FromA w5.drew A A' := fun ad h => by
            rcases hfa0 ad h with ⟨_, h', _⟩ | hge
            · cases h'
            · have h1 := bL.size
              have h2 := bT.size
              exact .inr (by omega)
          have F7 := F6.refstep ⟨cp', rfl, hcp', hrd'⟩ hfa b7w HPN.out
          have k7 := k6.below b7w k6.lt
          have f7 := f6.below b7w
          have hA8 : ∀ ad, A' = some ad → ad.block ≠ g11 := fun ad' h => by
            rcases hfa ad' h with ⟨ad1, hA, he⟩ | hge
            · rw [← he]; exact HA11.out ad1 hA
            · have h1 : g11 < w5.drew.heap.size := f6.lt; have h2 : w5.drew.heap.size ≤ ad'.block := hge; omega
          obtain ⟨w8, hst, k8, hg8⟩ := st_rc k7 rfl (c'.low : Int) A' c'.dirs.length cp'
          have F8 := F7.grown hg8 f7 hA8 h011.out
          have f8 : Far w8 _ _ g11 := ⟨Nat.lt_of_lt_of_le f7.lt hg8.size, f7.ne, f7.nv⟩
          have t8 := (t6.below b7w).grown hg8
          have z8 : wl.heap.size ≤ w8.heap.size := Nat.le_trans z6 (Nat.le_trans b7w.size hg8.size)
          have b7 := F7.bw
          have b8 := F8.bw
          go_wp2_with fail
          refine hKreg.out _ _ (trivial) (fun hHeld => ?_)
          clear hKreg Kreg
          try simp only [Act.put, List.setIfInBounds_toArray, List.set_cons_zero, List.set_cons_succ]
          refine take1 (i := 5) (d := 105) (v := ?_) rfl (by kernel_rfl) (by kernel_rfl) (by kernel_rfl) rfl (fun _ _ _ h => h) (Or.inl ⟨by rfl, ?_⟩) (by assumption) ?_
          rotate_left
          · (intro w hSw; (try dsimp only at hSw); go_simp); with_reducible rfl
          simp only [List.set_cons_zero, List.set_cons_succ]
          refine take1 (i := 6) (d := 111) (v := ?_) rfl (by kernel_rfl) (by kernel_rfl) (by kernel_rfl) rfl (fun _ _ _ h => h) (Or.inl ⟨by rfl, ?_⟩) (by assumption) ?_
          rotate_left
          · (intro w hSw; (try dsimp only at hSw); go_simp); with_reducible rfl
          simp only [List.set_cons_zero, List.set_cons_succ]
          refine take1 (i := 7) (d := 112) (v := ?_) rfl (by kernel_rfl) (by kernel_rfl) (by kernel_rfl) rfl (fun _ _ _ h => h) (Or.inl ⟨by rfl, ?_⟩) (by assumption) ?_
          rotate_left
          · (intro w hSw; (try dsimp only at hSw); go_simp); with_reducible rfl
          simp only [List.set_cons_zero, List.set_cons_succ]
          refine wpAnyH_ready (rs := [8]) (by kernel_rfl) (by simp) (AllReadyH.cons rfl (fun Kreg hKreg => ?_) AllReadyH.nil)
          refine step_store (by rfl) (.tmp 11) (.tmp 111) (by rfl) (by rfl) (by rfl) hst ?_
          refine hKreg.out _ _ (trivial) (fun hHeld => ?_)
          clear hKreg Kreg
          try simp only [Act.put, List.setIfInBounds_toArray, List.set_cons_zero, List.set_cons_succ]
          refine take1 (i := 9) (d := 17) (v := ?_) rfl (by kernel_rfl) (by kernel_rfl) (by kernel_rfl) rfl (fun _ _ _ h => h) (Or.inl ⟨by rfl, ?_⟩) (by assumption) ?_
          rotate_left
          · (intro w hSw; (try dsimp only at hSw); go_simp); with_reducible rfl
          simp only [List.set_cons_zero, List.set_cons_succ]
          refine wpAnyH_done (by kernel_rfl) ?_ _
          have HL := Lib.hid (alike_any F8.q A' _ F8.r a b HAB.out.1 HAB.out.2)
          have x0 := k8.cell 0
          have x1 := k8.cell 1
          have HF8 := Lib.hid (And.intro F8 (And.intro f8 (And.intro hA8 (And.intro k8 (And.intro t8 z8)))))
          clear F8 f8 hA8 k8 t8 z8 F7 k7 f7 hg8 F6 k6 f6 t6 z6 b6 b7 b8 hld hldT hldL HRT HRTL HRO bT bL b7w b0
          go_wp2_with fail
          refine HL.out.mono ?_; rintro e w9 ⟨rfl, B9⟩
          have F9 := HF8.out.1.below B9
          have k9 := HF8.out.2.2.2.1.below B9 HF8.out.2.2.2.1.lt
          have f9 := HF8.out.2.1.below B9
          have t9 := HF8.out.2.2.2.2.1.below B9
          have HF9 := Lib.hid (And.intro F9 (And.intro f9 (And.intro HF8.out.2.2.1 (And.intro k9 (And.intro t9 (Nat.le_trans HF8.out.2.2.2.2.2 B9.size))))))
          clear F9 k9 f9 t9 HF8 B9 HL x0 x1
          go_wp2_with fail
          go_roundg (n - (i + 1))
          case measure => omega
          case rel => exact ⟨i + 1, c', _, _, _, A', cp', by omega, rfl, by go_num, HF9.out.1, HF9.out.2.1, HF9.out.2.2.1, HF9.out.2.2.2.1, HPL.out, HF9.out.2.2.2.2.1, HF9.out.2.2.2.2.2⟩

      have ha1i : ((x.act : Int) == 1) = false := beq_eq_false_iff_ne.2 (by omega)
      obtain ⟨c', er, hp⟩ : ∃ c' er, c.push x.s = (c', er) := ⟨_, _, rfl⟩
      have hpo := push_ok F.q.ok hlen x.s
      have hpl : (c.push x.s).1.dirs.length ≤ 4 + (i + 1) ∧ Wide (c.push x.s).1 := ⟨by have h1 := push_len c x.s; have h2 := HLEN.out.1; omega, wide_push HLEN.out.2 _⟩
      have HPG := Lib.hid (push_any F.q F.hB.2 x.s HXF.out.2.1 hlen)
      have HRP := Lib.hid (fun (W : World) (R : RefC W c A (.agg #[.int .u64 (c.low : Int), .slice A c.dirs.length cp])) => rpush_any c F.q.ok x.s A _ W R)
      rw [hp] at HPG HRP hpo hpl
      have HPN := Lib.hid hpo.ne
      have HPL := Lib.hid hpl
      clear hp hpo hpl
      go_wp2_with fail
      refine HPG.out.mono ?_; rintro e w6 ⟨rfl, v6, q6, s6⟩
      have F6 := (F.step q6 s6).below (below_drewN (Below.refl _ w6) 1)
      have k6 := (s6.blk hf11 k11).drew
      have f6 := (hf11.step s6).below (below_drewN (Below.refl _ w6) 1)
      have t6 := (HST.out.step s6).below (below_drewN (Below.refl _ w6) 1)
      have z6 : wl.heap.size ≤ w6.drew.heap.size := Nat.le_trans HSZ.out (Nat.le_trans s6.out.size (below_drewN (Below.refl w6.heap.size w6) 1).size)
      have b6 := F6.bw
      clear F hf11 k11 q0 q1 q2 q6 s6 HPG HST HSZ
      go_upto_region 17 with fail
      have hld := blk_load (P := Try.prog) (ty := 36) k6 Try.underlying36 rfl size_rc
      refine wp_region_held_drew (S := (fun W : World => W.cell? { block := (ad.add (i * 3)).block, off := (ad.add (i * 3)).off + 1 } = some (.int .u8 (x.s : Int)))) (by kernel_rfl) ((HAC.out _ b6).2.1) (fun hHeld => ?_)
      refine take1 (i := 1) (d := 68) (v := ?_) rfl (by kernel_rfl) (by kernel_rfl) (by kernel_rfl) rfl (fun _ _ _ h => h) (Or.inl ⟨by rfl, ?_⟩) (by assumption) ?_
      rotate_left
      · (intro w hSw; (try dsimp only at hSw); go_simp); with_reducible rfl
      simp only [List.set_cons_zero, List.set_cons_succ]
      refine take1 (i := 2) (d := 69) (v := ?_) rfl (by kernel_rfl) (by kernel_rfl) (by kernel_rfl) rfl (fun _ _ _ h => h) (Or.inl ⟨by rfl, ?_⟩) (by assumption) ?_
      rotate_left
      · (intro w hSw; (try dsimp only at hSw); go_simp); with_reducible rfl
      simp only [List.set_cons_zero, List.set_cons_succ]
      refine take1 (i := 3) (d := 70) (v := ?_) rfl (by kernel_rfl) (by kernel_rfl) (by kernel_rfl) rfl (fun _ _ _ h => h) (Or.inl ⟨by rfl, ?_⟩) (by assumption) ?_
      rotate_left
      · (intro w hSw; (try dsimp only at hSw); go_simp); with_reducible rfl
      simp only [List.set_cons_zero, List.set_cons_succ]
      refine take1 (i := 4) (d := 71) (v := ?_) rfl (by kernel_rfl) (by kernel_rfl) (by kernel_rfl) rfl (fun _ _ _ h => h) (Or.inl ⟨by rfl, ?_⟩) (by assumption) ?_
      rotate_left
      · (intro w hSw; (try dsimp only at hSw); go_simp); with_reducible rfl
      simp only [List.set_cons_zero, List.set_cons_succ]
      refine take1 (i := 5) (d := 72) (v := ?_) rfl (by kernel_rfl) (by kernel_rfl) (by kernel_rfl) rfl (fun _ _ _ h => h) (Or.inl ⟨by rfl, ?_⟩) (by assumption) ?_
      rotate_left
      · (intro w hSw; (try dsimp only at hSw); go_simp); with_reducible rfl
      simp only [List.set_cons_zero, List.set_cons_succ]
      refine wpAnyH_ready (rs := [0]) (by kernel_rfl) (by simp) (AllReadyH.cons rfl (fun Kreg hKreg => ?_) AllReadyH.nil)
      refine step_load (by rfl) (.tmp 11) (by rfl) (by rfl) hld ?_
      refine hKreg.out _ _ (((HAC.out _ (by first | exact b8 | exact b7 | exact b6)).2.1)) (fun hHeld => ?_)
      clear hKreg Kreg
      refine wpAnyH_put (d := 67) (by rfl) ?_
      simp only [List.set_cons_zero, List.set_cons_succ]
      refine wpAnyH_ready (rs := [6]) (by kernel_rfl) (by simp) (AllReadyH.cons rfl (fun Kreg hKreg => ?_) AllReadyH.nil)
      go_simp
      refine (HRP.out _ F6.r).mono ?_; rintro e w7 ⟨⟨A', u', rfl, ⟨cp', rfl, hcp', hrd'⟩, hfa⟩, B7⟩
      have F7 := F6.refstep ⟨cp', rfl, hcp', hrd'⟩ hfa B7 HPN.out
      have k7 := k6.below B7 k6.lt
      have f7 := f6.below B7
      have hA8 : ∀ ad, A' = some ad → ad.block ≠ g11 := fun ad' h => by
        rcases hfa ad' h with ⟨ad1, hA, he⟩ | hge
        · rw [← he]; exact HA11.out ad1 hA
        · have h1 : g11 < w6.drew.heap.size := f6.lt; have h2 : w6.drew.heap.size ≤ ad'.block := hge; omega
      obtain ⟨w8, hst, k8, hg8⟩ := st_rc k7 rfl (c'.low : Int) A' c'.dirs.length cp'
      have F8 := F7.grown hg8 f7 hA8 h011.out
      have f8 : Far w8 _ _ g11 := ⟨Nat.lt_of_lt_of_le f7.lt hg8.size, f7.ne, f7.nv⟩
      have t8 := (t6.below B7).grown hg8
      have z8 : wl.heap.size ≤ w8.heap.size := Nat.le_trans z6 (Nat.le_trans B7.size hg8.size)
      have b7 := F7.bw
      have b8 := F8.bw
      go_wp2_with fail
      refine hKreg.out _ _ (((HAC.out _ (by first | exact b8 | exact b7 | exact b6)).2.1)) (fun hHeld => ?_)
      clear hKreg Kreg
      try simp only [Act.put, List.setIfInBounds_toArray, List.set_cons_zero, List.set_cons_succ]
      refine take1 (i := 7) (d := 66) (v := ?_) rfl (by kernel_rfl) (by kernel_rfl) (by kernel_rfl) rfl (fun _ _ _ h => h) (Or.inl ⟨by rfl, ?_⟩) (by assumption) ?_
      rotate_left
      · (intro w hSw; (try dsimp only at hSw); go_simp); with_reducible rfl
      simp only [List.set_cons_zero, List.set_cons_succ]
      refine take1 (i := 8) (d := 74) (v := ?_) rfl (by kernel_rfl) (by kernel_rfl) (by kernel_rfl) rfl (fun _ _ _ h => h) (Or.inl ⟨by rfl, ?_⟩) (by assumption) ?_
      rotate_left
      · (intro w hSw; (try dsimp only at hSw); go_simp); with_reducible rfl
      simp only [List.set_cons_zero, List.set_cons_succ]
      refine take1 (i := 9) (d := 75) (v := ?_) rfl (by kernel_rfl) (by kernel_rfl) (by kernel_rfl) rfl (fun _ _ _ h => h) (Or.inl ⟨by rfl, ?_⟩) (by assumption) ?_
      rotate_left
      · (intro w hSw; (try dsimp only at hSw); go_simp); with_reducible rfl
      simp only [List.set_cons_zero, List.set_cons_succ]
      refine wpAnyH_ready (rs := [10]) (by kernel_rfl) (by simp) (AllReadyH.cons rfl (fun Kreg hKreg => ?_) AllReadyH.nil)
      refine step_store (by rfl) (.tmp 11) (.tmp 74) (by rfl) (by rfl) (by rfl) hst ?_
      refine hKreg.out _ _ (((HAC.out _ (by first | exact b8 | exact b7 | exact b6)).2.1)) (fun hHeld => ?_)
      clear hKreg Kreg
      try simp only [Act.put, List.setIfInBounds_toArray, List.set_cons_zero, List.set_cons_succ]
      refine take1 (i := 11) (d := 17) (v := ?_) rfl (by kernel_rfl) (by kernel_rfl) (by kernel_rfl) rfl (fun _ _ _ h => h) (Or.inl ⟨by rfl, ?_⟩) (by assumption) ?_
      rotate_left
      · (intro w hSw; (try dsimp only at hSw); go_simp); with_reducible rfl
      simp only [List.set_cons_zero, List.set_cons_succ]
      refine wpAnyH_done (by kernel_rfl) ?_ _
      have HL := Lib.hid (alike_any F8.q A' _ F8.r a b HAB.out.1 HAB.out.2)
      have x0 := k8.cell 0
      have x1 := k8.cell 1
      have HF8 := Lib.hid (And.intro F8 (And.intro f8 (And.intro hA8 (And.intro k8 (And.intro t8 z8)))))
      clear F8 f8 hA8 k8 t8 z8 F7 k7 f7 hg8 F6 k6 f6 t6 z6 b6 b7 b8 hld HRP
      go_wp2_with fail
      refine HL.out.mono ?_; rintro e w9 ⟨rfl, B9⟩
      have F9 := HF8.out.1.below B9
      have k9 := HF8.out.2.2.2.1.below B9 HF8.out.2.2.2.1.lt
      have f9 := HF8.out.2.1.below B9
      have t9 := HF8.out.2.2.2.2.1.below B9
      have HF9 := Lib.hid (And.intro F9 (And.intro f9 (And.intro HF8.out.2.2.1 (And.intro k9 (And.intro t9 (Nat.le_trans HF8.out.2.2.2.2.2 B9.size))))))
      clear F9 k9 f9 t9 HF8 B9 HL x0 x1
      go_wp2_with fail
      go_roundg (n - (i + 1))
      case measure => omega
      case rel => exact ⟨i + 1, c', _, _, _, A', cp', by omega, rfl, by go_num, HF9.out.1, HF9.out.2.1, HF9.out.2.2.1, HF9.out.2.2.2.1, HPL.out, HF9.out.2.2.2.2.1, HF9.out.2.2.2.2.2⟩

    · have hk4 : ¬ (i : Int) < (n : Int) := by omega
      obtain ⟨qf, rf, kf⟩ := hfin.out wr g v HST.out HSZ.out
      have HL := Lib.hid (alike_any qf A0 _ rf a b HAB.out.1 HAB.out.2)
      have bw := F.bw
      have x0 := kf.cell 0
      have x1 := kf.cell 1
      clear F hf11 k11 qf rf kf
      go_wp2_with fail
      refine HL.out.mono ?_; rintro e w4 ⟨rfl, B4⟩
      have bw4 := bw.trans (B4.mono bw.size)
      clear bw B4 HL x0 x1
      go_wp2_with fail
      refine (wakes_any _).mono ?_; rintro e w9 ⟨rfl, B9⟩
      have bz := bw4.trans (B9.mono bw4.size)
      go_wp2_with fail
      go_ret
      exact ⟨rfl, bz⟩
end Go.Proofs.Ytbamfnlgapchkaa.Chn
