/- The law ChainOf walked. Conditions: the arguments can be read. -/
import Derived.Test.YtbamfnlgapchkaaChDuo
namespace Go.Proofs.Ytbamfnlgapchkaa.Chn
open Go.RowKit Mem DrawInv

set_option linter.unusedVariables false in
set_option linter.unusedSimpArgs false in
set_option maxRecDepth 100000 in
set_option maxHeartbeats 2000000 in
theorem cof_any (top : Nat) (ht64 : top < 18446744073709551616) (t8 : List UInt8) (hl8 : t8.length ≤ 9223372036854775807) (l : List Nat) (hlt : ∀ x ∈ l, x < 256) (n : Nat) (hn : l.length = n) (AL : Option Addr) (cl : Nat) (a b : Nat) (ha64 : a < 18446744073709551616) (hb64 : b < 18446744073709551616) (w : World)
    (hr : Reads w w.heap.size 1 AL n (l.map u8v)) : Calls Try.prog 4 #[.int .u64 (top : Int), .string ⟨t8.toArray⟩, .slice AL n cl, .int .u64 (a : Int), .int .u64 (b : Int)] w fun e w' => e = .returned (.bool true) ∧ Below w.heap.size w w' := by
  have hsz := Byt.size_str t8
  have bw := Below.refl w.heap.size w
  obtain ⟨p, hp⟩ : ∃ p, p = t8.length := ⟨_, rfl⟩
  rw [← hp] at hsz
  have HR := Lib.hid hr
  have HLT := Lib.hid hlt
  have HN := Lib.hid hn
  have HAB := Lib.hid (And.intro ha64 hb64)
  have HOF := Lib.hid (fun W => of_any top ht64 t8 hl8 W)
  have HRO := Lib.hid (fun W => rof_any top ht64 t8 hl8 W)
  have HOK : Hid (ofOk top (t8.map UInt8.toNat) = true → (ofCh top (t8.map UInt8.toNat)).dirs.length ≤ 3) := fun h => by
    unfold ofOk at h
    rw [Bool.and_eq_true] at h
    have := of_decide_eq_true h.1
    show (t8.map UInt8.toNat).length ≤ 3
    omega
  clear hr hlt hn ha64 hb64 ht64 hl8 hp
  by_cases g1 : 20 < p
  · have g1i : (20 : Int) < (p : Int) := by omega
    go_enter Try.func4, Try.ntmps4
    go_wp2_with fail
    refine (wakes_any _).mono ?_; rintro e w9 ⟨rfl, B9⟩
    have bz := bw.trans (B9.mono bw.size)
    go_wp2_with fail
    go_ret
    exact ⟨rfl, bz⟩
  have g1i : ¬ (20 : Int) < (p : Int) := by omega
  by_cases g2 : 40 < n
  · have g2i : (40 : Int) < (n : Int) := by omega
    go_enter Try.func4, Try.ntmps4
    go_wp2_with fail
    refine (wakes_any _).mono ?_; rintro e w9 ⟨rfl, B9⟩
    have bz := bw.trans (B9.mono bw.size)
    go_wp2_with fail
    go_ret
    exact ⟨rfl, bz⟩
  have g2i : ¬ (40 : Int) < (n : Int) := by omega
  have hn40 : n ≤ 40 := by omega
  clear g1 g2
  generalize t8.map UInt8.toNat = t at *
  go_enter Try.func4, Try.ntmps4
  go_wp2_with fail
  refine (HOF.out w).mono ?_; rintro e w1 ⟨hx, B1⟩
  have HX := Lib.hid hx
  clear hx HOF
  rcases HX.out with ⟨hok, g, v, rfl, q⟩ | ⟨hno, rfl⟩
  rotate_left
  · have bw1 := bw.trans (B1.mono bw.size)
    clear bw B1 HX
    go_wp2_with fail
    refine (HRO.out w1).mono ?_; rintro e w2 ⟨hy, B2⟩
    have HY := Lib.hid hy
    have bw := bw1.trans (B2.mono bw1.size)
    clear hy HRO bw1 B2
    rcases HY.out with ⟨hyes, _⟩ | ⟨_, rfl⟩
    · rw [hno] at hyes; cases hyes
    obtain ⟨w3, hst, k3, hg3⟩ := st_rc (Blk.new w2 36 #[.int .u64 0, .slice none 0 0]) rfl 0 none 0 0
    have bz := (bw.alloc bw.size (.cells #[.int .u64 0, .slice none 0 0] 36)).grown hg3 (bw.alloc bw.size (.cells #[.int .u64 0, .slice none 0 0] 36)).size (fun k hk => by cases hk; exact bw.size)
    clear HY k3 hg3 bw hno
    have bw := bz
    clear bz
    go_upto_region 7 with (refine wpList_store (by rfl) (.tmp 13) (.tmp 37) (by rfl) (by rfl) (by rfl) hst ?_)
    clear hst
    go_wp2_with fail
    refine (wakes_any _).mono ?_; rintro e w9 ⟨rfl, B9⟩
    have bz := bw.trans (B9.mono bw.size)
    go_wp2_with fail
    go_ret
    exact ⟨rfl, bz⟩
  have hc3 := HOK.out hok
  have hdn := (of_ok hok).1.ne
  have bw1 := bw.trans (B1.mono bw.size)
  have HQ1 := Lib.hid (And.intro q (And.intro hc3 hdn))
  clear bw B1 HX HOK q hc3 hdn
  go_wp2_with fail
  refine (HRO.out w1).mono ?_; rintro e w2 ⟨hy, B2⟩
  have HY := Lib.hid hy
  clear hy HRO
  rcases HY.out with ⟨_, A, u, rfl, hrc, hfa⟩ | ⟨hno, _⟩
  rotate_left
  · rw [hok] at hno; cases hno
  clear HY hok
  generalize ofCh top t = c at *
  obtain ⟨q, hc3, hdn⟩ := HQ1.out
  have F : Duo w w.heap.size g c v c A u w2 := ⟨q.below B2, hrc, fun ad h => by
    rcases hfa ad h with ⟨ad', h', _⟩ | hge
    · cases h'
    · exact q.far hge (hrc.lt hdn h), bw1.trans (B2.mono bw1.size), Nat.le_refl _, Nat.le_trans bw1.size B2.size⟩
  obtain ⟨cp, rfl, hcp, _⟩ := hrc
  obtain ⟨g13, hg13⟩ : ∃ g, g = w2.heap.size := ⟨_, rfl⟩
  have kz := Blk.new w2 36 #[.int .u64 0, .slice none 0 0]
  have bz : Below w2.heap.size w2 (w2.alloc (.cells #[.int .u64 0, .slice none 0 0] 36)) := (Below.refl _ w2).alloc (Nat.le_refl _) _
  obtain ⟨w3, hst, k13, hg3⟩ := st_rc kz rfl (c.low : Int) A c.dirs.length cp
  have b3 := bz.grown hg3 bz.size (fun k hk => by cases hk; exact Nat.le_refl _)
  have F3 := F.below b3
  have hf13 : Far w3 g v g13 := by rw [hg13]; exact F.q.far (Nat.le_refl _) k13.lt
  have hA13 : ∀ ad, A = some ad → ad.block ≠ g13 := fun ad h => by have := (F.far ad h).lt; omega
  have h013 : w.heap.size ≤ g13 := by rw [hg13]; exact F.bw.size
  rw [← hg13] at k13
  have HF := Lib.hid (And.intro F3 (And.intro hf13 (And.intro hA13 (And.intro k13 hc3))))
  have H13 := Lib.hid h013
  have HG := Lib.hid hg13
  clear F F3 hf13 hA13 k13 kz bz hg3 b3 hfa hcp q hc3 hdn bw1 B2 HQ1 hg13 h013
  go_upto_region 7 with (refine wpList_store (by rfl) (.tmp 13) (.tmp 37) (by rfl) (by rfl) (by rfl) hst ?_)
  rw [← HG.out]
  clear hst
  go_wp2_with fail
  go_loopg [15] n (fun gk v15 wr => ∃ (i : Nat) (c : Ch) (v : Value) (A : Option Addr) (cp : Nat), i + gk = n ∧ v15 = .int .i64 (i : Int) ∧ Duo w w.heap.size g c v c A (.agg #[.int .u64 (c.low : Int), .slice A c.dirs.length cp]) wr ∧ Far wr g v g13 ∧ Hid (∀ ad, A = some ad → ad.block ≠ g13) ∧ Blk wr g13 36 #[.int .u64 (c.low : Int), .slice A c.dirs.length cp] ∧ Hid (c.dirs.length ≤ 3 + i))
  case atStart => exact ⟨0, c, v, A, cp, by omega, rfl, HF.out.1, HF.out.2.1, HF.out.2.2.1, HF.out.2.2.2.1, HF.out.2.2.2.2⟩
  case round =>
    clear HF
    obtain ⟨i, c, v, A, cp, hi, rfl, F, hf13, HA13, k13, HLEN⟩ := hrel
    have x0 := k13.cell 0
    have x1 := k13.cell 1
    by_cases h4 : i < n
    · have hk4 : (i : Int) < (n : Int) := by omega
      obtain ⟨ad, ux, rfl, hadl, hu, hcell⟩ := HR.out.at_ h4
      obtain ⟨x, hx, hux⟩ : ∃ x, l[i]? = some x ∧ ux = .int .u8 (x : Int) := by
        rw [List.getElem?_map] at hu
        cases hd : l[i]? with
        | none => rw [hd] at hu; cases hu
        | some y => rw [hd] at hu; exact ⟨y, rfl, (Option.some.inj hu).symm⟩
      subst hux
      have HC := Lib.hid hcell
      have HXL := Lib.hid (HLT.out x (List.mem_of_getElem? hx))
      have hpo := push_ok F.q.ok (by have := HLEN.out; omega) x
      obtain ⟨c', er, hp⟩ : ∃ c' er, c.push x = (c', er) := ⟨_, _, rfl⟩
      have HPL : Hid (c'.dirs.length ≤ 3 + (i + 1)) := by
        have := push_len c x
        rw [hp] at this
        have h2 := HLEN.out
        show c'.dirs.length ≤ _
        simp only at this
        omega
      have HRP := Lib.hid (fun (W : World) (hb : Below wr.heap.size wr W) => rpush_any c F.q.ok x A _ W (F.r.below hb))
      have HP := Lib.hid (fun (W : World) (v : Value) (q : ChS w.heap.size g c v W) (hB : w.heap.size ≤ W.heap.size) => push_any q hB x HXL.out (by have := HLEN.out; omega))
      rw [hp] at HRP HP hpo
      have HPN := Lib.hid hpo.ne
      have HAD := Lib.hid hadl
      clear hp hpo hu hx hcell hadl x0 x1 HLEN
      go_upto_region 12 with fail
      have hSB : ∀ W, Below wr.drew.heap.size wr.drew W → (Blk W g13 36 #[.int .u64 (c.low : Int), .slice A c.dirs.length cp] ∧ W.cell? (ad.add i) = some (.int .u8 (x : Int))) := fun W hb => ⟨k13.drew.below hb hf13.lt, ((F.bw.drew.trans (hb.mono F.bw.size)).cell (p := ad.add i) (by rw [block_of_add]; exact HAD.out)).trans HC.out⟩
      have Fd : Duo w w.heap.size g c v c A (.agg #[.int .u64 (c.low : Int), .slice A c.dirs.length cp]) wr.drew := F.below (below_drewN (Below.refl _ wr) 1)
      have k13d := k13.drew
      have hfd : Far wr.drew g v g13 := ⟨hf13.lt, hf13.ne, hf13.nv⟩
      have HBD := Lib.hid (below_drewN (Below.refl wr.heap.size wr) 1)
      clear k13 F hf13
      refine wp_region_held_drew (S := (fun W : World => Blk W g13 36 #[.int .u64 (c.low : Int), .slice A c.dirs.length cp] ∧ W.cell? (ad.add i) = some (.int .u8 (x : Int)))) (by kernel_rfl) (hSB _ (Below.refl _ _)) (fun hHeld => ?_)
      refine take1 (i := 0) (d := 59) (v := ?_) rfl (by kernel_rfl) (by kernel_rfl) (by kernel_rfl) rfl (fun _ _ _ h => h) (Or.inl ⟨by rfl, ?_⟩) (by assumption) ?_
      rotate_left
      · intro w hSw; refine (exec_load (.tmp 13) (by rfl) (by rfl) (blk_load (P := Try.prog) (ty := 36) hSw.1 Try.underlying36 rfl size_rc)).trans ?_; with_reducible rfl
      simp only [List.set_cons_zero, List.set_cons_succ]
      refine take1 (i := 1) (d := 60) (v := ?_) rfl (by kernel_rfl) (by kernel_rfl) (by kernel_rfl) rfl (fun _ _ _ h => h) (Or.inl ⟨by rfl, ?_⟩) (by assumption) ?_
      rotate_left
      · (intro w hSw; (try dsimp only at hSw); go_simp); with_reducible rfl
      simp only [List.set_cons_zero, List.set_cons_succ]
      refine take1 (i := 2) (d := 61) (v := ?_) rfl (by kernel_rfl) (by kernel_rfl) (by kernel_rfl) rfl (fun _ _ _ h => h) (Or.inl ⟨by rfl, ?_⟩) (by assumption) ?_
      rotate_left
      · (intro w hSw; (try dsimp only at hSw); go_simp); with_reducible rfl
      simp only [List.set_cons_zero, List.set_cons_succ]
      refine take1 (i := 3) (d := 62) (v := ?_) rfl (by kernel_rfl) (by kernel_rfl) (by kernel_rfl) rfl (fun _ _ _ h => h) (Or.inl ⟨by rfl, ?_⟩) (by assumption) ?_
      rotate_left
      · (intro w hSw; (try dsimp only at hSw); go_simp); with_reducible rfl
      simp only [List.set_cons_zero, List.set_cons_succ]
      refine take1 (i := 4) (d := 63) (v := ?_) rfl (by kernel_rfl) (by kernel_rfl) (by kernel_rfl) rfl (fun _ _ _ h => h) (Or.inl ⟨by rfl, ?_⟩) (by assumption) ?_
      rotate_left
      · (intro w hSw; have hSc := hSw.2; clear hSw; go_simp); with_reducible rfl
      simp only [List.set_cons_zero, List.set_cons_succ]
      refine wpAnyH_ready (rs := [5, 9]) (by kernel_rfl) (by simp) (AllReadyH.cons rfl (fun Kreg hKreg => ?_) (AllReadyH.cons rfl (fun Kreg hKreg => ?_) AllReadyH.nil))
      · go_simp
        refine (HRP.out _ HBD.out).mono ?_; rintro e w3 ⟨⟨A', u', rfl, ⟨cp', rfl, hcp', hrd'⟩, hfa⟩, B3⟩
        obtain ⟨g16, wZ, hz, kz, bz, hgz⟩ := alloc_rc w3
        obtain ⟨wN, hst, k16, hgN⟩ := st_rc kz rfl (c'.low : Int) A' c'.dirs.length cp'
        have b1 := B3
        have b2 := B3.trans (bz.mono B3.size)
        have b3 := b2.grown hgN b2.size (fun k hk => by cases hk; exact Nat.le_trans B3.size hgz)
        have bN := bz.grown hgN bz.size (fun k hk => by cases hk; exact hgz)
        have FN := (Fd.refstep ⟨cp', rfl, hcp', hrd'⟩ hfa B3 HPN.out).below bN
        have hne16 : ∀ ad, A' = some ad → ad.block ≠ g13 := fun ad' h => by
          rcases hfa ad' h with ⟨ad1, hA, he⟩ | hge
          · rw [← he]; exact HA13.out ad1 hA
          · have := hfd.lt; have h2 : wr.drew.heap.size ≤ ad'.block := hge; omega
        go_wp2_with fail
        refine hKreg.out _ _ ((hSB _ (by first | exact b3 | exact b2 | exact b1))) (fun hHeld => ?_)
        clear hKreg Kreg
        try simp only [Act.put, List.setIfInBounds_toArray, List.set_cons_zero, List.set_cons_succ]
        refine take1 (i := 6) (d := 58) (v := ?_) rfl (by kernel_rfl) (by kernel_rfl) (by kernel_rfl) rfl (fun _ _ _ h => h) (Or.inl ⟨by rfl, ?_⟩) (by assumption) ?_
        rotate_left
        · (intro w hSw; (try dsimp only at hSw); go_simp); with_reducible rfl
        simp only [List.set_cons_zero, List.set_cons_succ]
        refine take1 (i := 7) (d := 65) (v := ?_) rfl (by kernel_rfl) (by kernel_rfl) (by kernel_rfl) rfl (fun _ _ _ h => h) (Or.inl ⟨by rfl, ?_⟩) (by assumption) ?_
        rotate_left
        · (intro w hSw; (try dsimp only at hSw); go_simp); with_reducible rfl
        simp only [List.set_cons_zero, List.set_cons_succ]
        refine take1 (i := 8) (d := 66) (v := ?_) rfl (by kernel_rfl) (by kernel_rfl) (by kernel_rfl) rfl (fun _ _ _ h => h) (Or.inl ⟨by rfl, ?_⟩) (by assumption) ?_
        rotate_left
        · (intro w hSw; (try dsimp only at hSw); go_simp); with_reducible rfl
        simp only [List.set_cons_zero, List.set_cons_succ]
        refine wpAnyH_ready (rs := [9]) (by kernel_rfl) (by simp) (AllReadyH.cons rfl (fun Kreg hKreg => ?_) AllReadyH.nil)
        refine step_exec (by rfl) _ _ (hz _ _ (by rfl)) ?_
        refine hKreg.out _ _ ((hSB _ (by first | exact b3 | exact b2 | exact b1))) (fun hHeld => ?_)
        clear hKreg Kreg
        refine wpAnyH_put (d := 16) (by rfl) ?_
        simp only [List.set_cons_zero, List.set_cons_succ]
        refine wpAnyH_ready (rs := [10]) (by kernel_rfl) (by simp) (AllReadyH.cons rfl (fun Kreg hKreg => ?_) AllReadyH.nil)
        refine step_store (by rfl) (.tmp 16) (.tmp 65) (by rfl) (by rfl) (by rfl) hst ?_
        refine hKreg.out _ _ ((hSB _ (by first | exact b3 | exact b2 | exact b1))) (fun hHeld => ?_)
        clear hKreg Kreg
        try simp only [Act.put, List.setIfInBounds_toArray, List.set_cons_zero, List.set_cons_succ]
        refine take1 (i := 11) (d := 17) (v := ?_) rfl (by kernel_rfl) (by kernel_rfl) (by kernel_rfl) rfl (fun _ _ _ h => h) (Or.inl ⟨by rfl, ?_⟩) (by assumption) ?_
        rotate_left
        · (intro w hSw; (try dsimp only at hSw); go_simp); with_reducible rfl
        simp only [List.set_cons_zero, List.set_cons_succ]
        refine wpAnyH_done (by kernel_rfl) ?_ _
        have k13N := k13d.below b3 hfd.lt
        have hf13N : Far wN g v g13 := hfd.below b3
        obtain ⟨wS, hstS, k13S, hgS⟩ := st_rc k13N rfl (c'.low : Int) A' c'.dirs.length cp'
        have FS := FN.grown hgS hf13N hne16 H13.out
        have hf13S : Far wS g v g13 := ⟨Nat.lt_of_lt_of_le hf13N.lt hgS.size, hf13N.ne, hf13N.nv⟩
        have HPS := Lib.hid (HP.out wS v FS.q FS.bw.size)
        have x0 := k16.cell 0
        have x1 := k16.cell 1
        have y0 := (FS.bw.cell (p := ad.add i) (by rw [block_of_add]; exact HAD.out)).trans HC.out
        have HFS := Lib.hid (And.intro FS (And.intro hf13S (And.intro hne16 k13S)))
        clear FS hf13S hne16 k13S k13N hf13N FN hgS HP HRP Fd k13d hfd hSB HBD
        go_upto_region 14 with (refine wpList_store (by rfl) (.tmp 13) (.tmp 67) (by rfl) (by rfl) (by rfl) hstS ?_)
        clear x0 x1 hstS
        go_wp2_with fail
        refine HPS.out.mono ?_; rintro e w5 ⟨rfl, v5, q5, s5⟩
        have F5 := HFS.out.1.step q5 s5
        have k5 := s5.blk HFS.out.2.1 HFS.out.2.2.2
        have f5 := HFS.out.2.1.step s5
        have HR5 := Lib.hid (And.intro F5 (And.intro f5 (And.intro HFS.out.2.2.1 k5)))
        clear F5 k5 f5 HFS y0 q5 s5 HPS
        go_wp2_with fail
        go_roundg (n - (i + 1))
        case measure => omega
        case rel => exact ⟨i + 1, c', v5, A', cp', by omega, by go_num, HR5.out.1, HR5.out.2.1, HR5.out.2.2.1, HR5.out.2.2.2, HPL.out⟩
      · obtain ⟨g16, wZ, hz, kz, bz, hgz⟩ := alloc_rc wr.drew
        have b1 := bz
        refine step_exec (by rfl) _ _ (hz _ _ (by rfl)) ?_
        refine hKreg.out _ _ ((hSB _ (by first | exact b3 | exact b2 | exact b1))) (fun hHeld => ?_)
        clear hKreg Kreg
        refine wpAnyH_put (d := 16) (by rfl) ?_
        simp only [List.set_cons_zero, List.set_cons_succ]
        refine wpAnyH_ready (rs := [5]) (by kernel_rfl) (by simp) (AllReadyH.cons rfl (fun Kreg hKreg => ?_) AllReadyH.nil)
        go_simp
        refine (HRP.out _ (HBD.out.trans bz)).mono ?_; rintro e w3 ⟨⟨A', u', rfl, ⟨cp', rfl, hcp', hrd'⟩, hfa⟩, B3⟩
        have k16 := kz.below B3 kz.lt
        obtain ⟨wN, hst, k16, hgN⟩ := st_rc k16 rfl (c'.low : Int) A' c'.dirs.length cp'
        have b2 := bz.trans (B3.mono bz.size)
        have b3 := b2.grown hgN b2.size (fun k hk => by cases hk; exact hgz)
        have FZ := Fd.below bz
        have F3 := FZ.refstep ⟨cp', rfl, hcp', hrd'⟩ hfa B3 HPN.out
        have hf16 : Far w3 g v g16 := (Fd.q.far hgz kz.lt).below B3
        have hA16 : ∀ ad, A' = some ad → ad.block ≠ g16 := fun ad' h => by
          rcases hfa ad' h with ⟨ad1, hA, he⟩ | hge
          · have := (Fd.far ad1 hA).lt; omega
          · have := kz.lt; omega
        have FN := F3.grown hgN hf16 hA16 (Nat.le_trans Fd.bw.size hgz)
        have hne16 : ∀ ad, A' = some ad → ad.block ≠ g13 := fun ad' h => by
          rcases hfa ad' h with ⟨ad1, hA, he⟩ | hge
          · rw [← he]; exact HA13.out ad1 hA
          · have h1 := hfd.lt; have h2 : wr.drew.heap.size ≤ wZ.heap.size := bz.size; have h3 : wZ.heap.size ≤ ad'.block := hge; omega
        go_wp2_with fail
        refine hKreg.out _ _ ((hSB _ (by first | exact b3 | exact b2 | exact b1))) (fun hHeld => ?_)
        clear hKreg Kreg
        try simp only [Act.put, List.setIfInBounds_toArray, List.set_cons_zero, List.set_cons_succ]
        refine take1 (i := 6) (d := 58) (v := ?_) rfl (by kernel_rfl) (by kernel_rfl) (by kernel_rfl) rfl (fun _ _ _ h => h) (Or.inl ⟨by rfl, ?_⟩) (by assumption) ?_
        rotate_left
        · (intro w hSw; (try dsimp only at hSw); go_simp); with_reducible rfl
        simp only [List.set_cons_zero, List.set_cons_succ]
        refine take1 (i := 7) (d := 65) (v := ?_) rfl (by kernel_rfl) (by kernel_rfl) (by kernel_rfl) rfl (fun _ _ _ h => h) (Or.inl ⟨by rfl, ?_⟩) (by assumption) ?_
        rotate_left
        · (intro w hSw; (try dsimp only at hSw); go_simp); with_reducible rfl
        simp only [List.set_cons_zero, List.set_cons_succ]
        refine take1 (i := 8) (d := 66) (v := ?_) rfl (by kernel_rfl) (by kernel_rfl) (by kernel_rfl) rfl (fun _ _ _ h => h) (Or.inl ⟨by rfl, ?_⟩) (by assumption) ?_
        rotate_left
        · (intro w hSw; (try dsimp only at hSw); go_simp); with_reducible rfl
        simp only [List.set_cons_zero, List.set_cons_succ]
        refine wpAnyH_ready (rs := [10]) (by kernel_rfl) (by simp) (AllReadyH.cons rfl (fun Kreg hKreg => ?_) AllReadyH.nil)
        refine step_store (by rfl) (.tmp 16) (.tmp 65) (by rfl) (by rfl) (by rfl) hst ?_
        refine hKreg.out _ _ ((hSB _ (by first | exact b3 | exact b2 | exact b1))) (fun hHeld => ?_)
        clear hKreg Kreg
        try simp only [Act.put, List.setIfInBounds_toArray, List.set_cons_zero, List.set_cons_succ]
        refine take1 (i := 11) (d := 17) (v := ?_) rfl (by kernel_rfl) (by kernel_rfl) (by kernel_rfl) rfl (fun _ _ _ h => h) (Or.inl ⟨by rfl, ?_⟩) (by assumption) ?_
        rotate_left
        · (intro w hSw; (try dsimp only at hSw); go_simp); with_reducible rfl
        simp only [List.set_cons_zero, List.set_cons_succ]
        refine wpAnyH_done (by kernel_rfl) ?_ _
        have k13N := k13d.below b3 hfd.lt
        have hf13N : Far wN g v g13 := hfd.below b3
        obtain ⟨wS, hstS, k13S, hgS⟩ := st_rc k13N rfl (c'.low : Int) A' c'.dirs.length cp'
        have FS := FN.grown hgS hf13N hne16 H13.out
        have hf13S : Far wS g v g13 := ⟨Nat.lt_of_lt_of_le hf13N.lt hgS.size, hf13N.ne, hf13N.nv⟩
        have HPS := Lib.hid (HP.out wS v FS.q FS.bw.size)
        have x0 := k16.cell 0
        have x1 := k16.cell 1
        have y0 := (FS.bw.cell (p := ad.add i) (by rw [block_of_add]; exact HAD.out)).trans HC.out
        have HFS := Lib.hid (And.intro FS (And.intro hf13S (And.intro hne16 k13S)))
        clear FS hf13S hne16 k13S k13N hf13N FN hgS HP HRP Fd k13d hfd hSB HBD
        go_upto_region 14 with (refine wpList_store (by rfl) (.tmp 13) (.tmp 67) (by rfl) (by rfl) (by rfl) hstS ?_)
        clear x0 x1 hstS
        go_wp2_with fail
        refine HPS.out.mono ?_; rintro e w5 ⟨rfl, v5, q5, s5⟩
        have F5 := HFS.out.1.step q5 s5
        have k5 := s5.blk HFS.out.2.1 HFS.out.2.2.2
        have f5 := HFS.out.2.1.step s5
        have HR5 := Lib.hid (And.intro F5 (And.intro f5 (And.intro HFS.out.2.2.1 k5)))
        clear F5 k5 f5 HFS y0 q5 s5 HPS
        go_wp2_with fail
        go_roundg (n - (i + 1))
        case measure => omega
        case rel => exact ⟨i + 1, c', v5, A', cp', by omega, by go_num, HR5.out.1, HR5.out.2.1, HR5.out.2.2.1, HR5.out.2.2.2, HPL.out⟩

    · have hk4 : ¬ (i : Int) < (n : Int) := by omega
      have HL := Lib.hid (alike_any F.q A _ F.r a b HAB.out.1 HAB.out.2)
      have bw := F.bw
      clear F hf13 k13
      go_wp2_with fail
      refine HL.out.mono ?_; rintro e w4 ⟨rfl, B4⟩
      have bw4 := bw.trans (B4.mono bw.size)
      clear bw B4 HL x0 x1
      go_wp2_with fail
      refine (wakes_any _).mono ?_; rintro e w9 ⟨rfl, B9⟩
      have bz := bw4.trans (B9.mono bw4.size)
      go_wp2_with fail
      go_ret
      exact ⟨rfl, bz⟩
end Go.Proofs.Ytbamfnlgapchkaa.Chn
