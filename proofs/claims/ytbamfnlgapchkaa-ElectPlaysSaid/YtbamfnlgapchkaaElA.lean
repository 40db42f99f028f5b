/- Package elect, walked: Add. Conditions: the round lies in memory of its own; the votes can be read, apart from it. -/
import Derived.Test.YtbamfnlgapchkaaElG
namespace Go.Proofs.Ytbamfnlgapchkaa.Ele
open Go Go.RowKit Bal Mem DrawInv

theorem has_e (s n : Nat) (hs : s < 256) (hn : n < 256) (w : World) : Calls Try.prog 46 #[.int .u8 (s : Int), .int .u8 (n : Int)] w fun e w' => e = .returned (.bool (hasB s n)) ∧ Below w.heap.size w w' :=
  (has_any s n hs hn w).mono fun _ _ ⟨h, hw⟩ => ⟨h, by rw [← hw]; exact (Below.refl _ w).alloc (Nat.le_refl _) _⟩
theorem store_who {w : World} {g : Nat} {n r wh fl bb la mg : Nat} (hg : Blk w g 127 #[.int .u64 (n : Int), .int .u8 (r : Int), .int .u8 (wh : Int), .int .u64 (fl : Int), .int .u8 (bb : Int), .int .u64 (la : Int), .map (some mg)]) (x : Int) : ∃ w', (Instr.storeAt 27 (.pointer (some ⟨g, 2, none⟩)) (.int .u8 x)).run Try.prog w = .ok () w' ∧ Blk w' g 127 #[.int .u64 (n : Int), .int .u8 (r : Int), .int .u8 x, .int .u64 (fl : Int), .int .u8 (bb : Int), .int .u64 (la : Int), .map (some mg)] ∧ w.grownBy w' (some g) := by
  have c1 := hg.cell 2
  have f1 := hg.frozen 2
  refine ⟨_, by go_simp, hg.set_ 2 _, only_setCell (World.grownBy.refl _ _) (.inl rfl) _⟩
theorem store_floor {w : World} {g : Nat} {n r wh fl bb la mg : Nat} (hg : Blk w g 127 #[.int .u64 (n : Int), .int .u8 (r : Int), .int .u8 (wh : Int), .int .u64 (fl : Int), .int .u8 (bb : Int), .int .u64 (la : Int), .map (some mg)]) (x : Int) : ∃ w', (Instr.storeAt 26 (.pointer (some ⟨g, 3, none⟩)) (.int .u64 x)).run Try.prog w = .ok () w' ∧ Blk w' g 127 #[.int .u64 (n : Int), .int .u8 (r : Int), .int .u8 (wh : Int), .int .u64 x, .int .u8 (bb : Int), .int .u64 (la : Int), .map (some mg)] ∧ w.grownBy w' (some g) := by
  have c1 := hg.cell 3
  have f1 := hg.frozen 3
  refine ⟨_, by go_simp, hg.set_ 3 _, only_setCell (World.grownBy.refl _ _) (.inl rfl) _⟩
theorem store_by {w : World} {g : Nat} {n r wh fl bb la mg : Nat} (hg : Blk w g 127 #[.int .u64 (n : Int), .int .u8 (r : Int), .int .u8 (wh : Int), .int .u64 (fl : Int), .int .u8 (bb : Int), .int .u64 (la : Int), .map (some mg)]) (x : Int) : ∃ w', (Instr.storeAt 5 (.pointer (some ⟨g, 4, none⟩)) (.int .u8 x)).run Try.prog w = .ok () w' ∧ Blk w' g 127 #[.int .u64 (n : Int), .int .u8 (r : Int), .int .u8 (wh : Int), .int .u64 (fl : Int), .int .u8 x, .int .u64 (la : Int), .map (some mg)] ∧ w.grownBy w' (some g) := by
  have c1 := hg.cell 4
  have f1 := hg.frozen 4
  refine ⟨_, by go_simp, hg.set_ 4 _, only_setCell (World.grownBy.refl _ _) (.inl rfl) _⟩
theorem eadd_nil (node base : Nat) (v : Value) (w : World) : Calls Try.prog 53 #[.pointer none, .int .u8 (node : Int), .int .u64 (base : Int), v] w fun e w' => e = .returned (.int .i64 1) ∧ Below w.heap.size w w' := by
  have bw := below_1 w (.cells #[.pointer none] 75)
  go_enter Try.func53, Try.ntmps53
  go_wp2_with fail
  go_ret
  exact ⟨rfl, bw⟩
set_option linter.unusedVariables false in
set_option linter.unusedSimpArgs false in
set_option maxRecDepth 100000 in
set_option maxHeartbeats 2000000 in
theorem eadd_any {B0 g mg : Nat} {q : Ro} {w : World} (h : RoS B0 g mg q w) (hB : B0 ≤ w.heap.size) (node base : Nat) (hn : node < 256) (V : List Vt) (m : Nat) (hm : V.length = m) (hm2 : m ≤ 100000) (A : Option Addr) (c : Nat) (hV : Rows w A 4 vtL V) (hA : 0 < m → ∀ ad, A = some ad → ad.block ∉ [g, mg]) :
    Calls Try.prog 53 #[(.pointer (some ⟨g, 0, none⟩)), .int .u8 (node : Int), .int .u64 (base : Int), .slice A m c] w fun e w' => e = .returned (.int .i64 ((addE q node : Nat) : Int)) ∧ RoS B0 g mg (q.add node base V) w' ∧ Outs [g, mg] w w' := by
  have bA := below_1 w (.cells #[(.pointer (some ⟨g, 0, none⟩))] 75)
  have kA := Boxed.new w 75 (.pointer (some ⟨g, 0, none⟩))
  have hRA := h.below bA
  obtain ⟨wA, hwA⟩ : ∃ wA, wA = w.alloc (.cells #[(.pointer (some ⟨g, 0, none⟩))] 75) := ⟨_, rfl⟩
  obtain ⟨b4, hb4⟩ : ∃ b, b = w.heap.size := ⟨_, rfl⟩
  rw [← hwA] at bA kA hRA
  rw [← hb4] at kA
  have hup : Hid (w.alloc (.cells #[(.pointer (some ⟨g, 0, none⟩))] 75) = wA) := hwA.symm
  have hug : Hid (w.heap.size = b4) := hb4.symm
  have cA := kA.cell
  have hgm := h.ne
  have h4n : b4 ∉ [g, mg] := by
    have h1 := h.hg.lt
    have h2 := h.hm.lt
    simp
    omega
  have hQ0 : Hid (RoS B0 g mg q w) := h
  clear hwA hb4 h
  by_cases h6 : 6 < node
  · have h6i : (7 : Int) ≤ (node : Int) := by omega
    have he : addE q node = 2 := if_pos h6
    have hq : q.add node base V = q := by unfold Ro.add; rw [he]; rfl
    rw [he, hq]
    have HQ : Hid (RoS B0 g mg q wA ∧ Outs [g, mg] w wA) := ⟨hRA, Outs.of_below bA⟩
    clear hRA bA kA hV hA h6 he hq hQ0
    go_enter Try.func53, Try.ntmps53
    go_upto_region 1 with fail
    rw [hup.out, hug.out]
    go_wp2_with fail
    go_ret
    exact ⟨rfl, HQ.out⟩
  have h6i : ¬ (7 : Int) ≤ (node : Int) := by omega
  have c2 : wA.cell? ⟨g, 2, none⟩ = some (.int .u8 (q.who : Int)) := hRA.hg.cell 2
  have HH := Lib.hid (has_e q.who node (by have := hRA.lw; omega) hn wA)
  by_cases hh : hasB q.who node = true
  · rw [hh] at HH
    have he : addE q node = 13 := by unfold addE; rw [if_neg h6, if_pos hh]
    have hq : q.add node base V = q := by unfold Ro.add; rw [he]; rfl
    rw [he, hq]
    have HQ : Hid (∀ w', Below wA.heap.size wA w' → RoS B0 g mg q w' ∧ Outs [g, mg] w w') := fun w' hb => ⟨hRA.below hb, Outs.of_below (bA.trans (hb.mono bA.size))⟩
    clear hRA bA kA hV hA h6 he hq hQ0 hh
    generalize q.who = wh at *
    go_enter Try.func53, Try.ntmps53
    go_upto_region 1 with fail
    rw [hup.out, hug.out]
    go_wp2_with fail
    refine HH.out.mono ?_; rintro e w2 ⟨rfl, B2⟩
    go_wp2_with fail
    go_ret
    exact ⟨rfl, HQ.out _ B2⟩
  have hhf : hasB q.who node = false := by simpa using hh
  rw [hhf] at HH
  have he : addE q node = 0 := by unfold addE; rw [if_neg h6, if_neg hh]
  have hq : q.add node base V = V.foldl Ro.grow (q.tell node base) := by unfold Ro.add; rw [he]; rfl
  rw [he, hq]
  clear he hq h6 hh hhf
  have HVV := Lib.hid (And.intro hV (And.intro hA hm))
  have HNN := Lib.hid (And.intro h4n (And.intro hgm (And.intro hB hn)))
  have HWL : Hid (q.who < 128) := hRA.lw
  obtain ⟨q0, hq0⟩ : ∃ q0, q0 = q := ⟨_, rfl⟩
  rw [← hq0]
  obtain ⟨n, r, wh, fl, bb, la, F⟩ := q
  have HQ0 := Lib.hid hq0
  clear hV hA hm h4n hgm hB hq0
  dsimp only at *
  go_enter Try.func53, Try.ntmps53
  go_upto_region 1 with fail
  rw [hup.out, hug.out]
  clear hup hug
  go_wp2_with fail
  refine HH.out.mono ?_; rintro e w2 ⟨rfl, B2⟩
  clear HH
  have b2 := bA.trans (B2.mono bA.size)
  have k2 := kA
  have k2 : Boxed w2 b4 75 (.pointer (some ⟨g, 0, none⟩)) := (B2.block _ kA.lt).trans kA
  have r2 := hRA.below B2
  have HR2 := Lib.hid r2
  clear kA hRA B2 bA cA c2 h6i
  have c0 := k2.cell
  have c2 : w2.cell? ⟨g, 2, none⟩ = some (.int .u8 (wh : Int)) := r2.hg.cell 2
  -- region 8: who told
  obtain ⟨gs, hgs⟩ : ∃ b, b = w2.heap.size := ⟨_, rfl⟩
  obtain ⟨wS, hwS⟩ : ∃ wS, wS = w2.drew.alloc (.cells #[.int .u8 (node : Int)] 5) := ⟨_, rfl⟩
  have b2S : Below w2.heap.size w2 wS := by rw [hwS]; exact (Below.refl _ w2).drew.alloc (Nat.le_refl _) _
  have rS := r2.below b2S
  have kS : Boxed wS b4 75 (.pointer (some ⟨g, 0, none⟩)) := (b2S.block _ k2.lt).trans k2
  have HOF : Hid (Calls Try.prog 47 #[.slice (some ⟨gs, 0, none⟩) 1 1] wS fun e w' => e = .returned (.int .u8 ((ofN [node] : Nat) : Int)) ∧ wS = w') := by
    rw [hwS, hgs]
    exact of_any (some ⟨w2.heap.size, 0, none⟩) 1 1 [node] rfl (by simpa using HNN.out.2.2.2) (w2.drew.alloc (.cells #[.int .u8 (node : Int)] 5)) (nums_of w2.drew _ rfl [_] 5 [node] rfl) (by unfold maxLen; simp)
  obtain ⟨wh2, hwh2⟩ : ∃ x, x = withN wh (ofN [node]) := ⟨_, rfl⟩
  have HWI := Lib.hid (with_any wh (ofN [node]) (by have := HWL.out; omega) (by have := of_lt [node]; omega) wS)
  rw [← hwh2] at HWI
  have hgS : Blk wS g 127 #[.int .u64 (n : Int), .int .u8 (r : Int), .int .u8 (wh : Int), .int .u64 (fl : Int), .int .u8 (bb : Int), .int .u64 (la : Int), .map (some mg)] := rS.hg
  obtain ⟨wT, hstT, kgT, hgT⟩ := store_who hgS (wh2 : Int)
  have kT : Boxed wT b4 75 (.pointer (some ⟨g, 0, none⟩)) := kS.kept hgT (fun e => HNN.out.1 (by rw [Option.some.inj e]; simp))
  have hmT : MapAt wT mg F := (rS.hm).keep (hgT.block mg rS.hm.lt (fun e => HNN.out.2.1 (Option.some.inj e).symm))
  have hl0 : (Instr.loadAt 27 (.pointer (some ⟨g, 2, none⟩))).run Try.prog w2.drew = .ok (.int .u8 (wh : Int)) w2.drew := by
    have c2d : w2.drew.cell? ⟨g, 2, none⟩ = some (.int .u8 (wh : Int)) := c2
    clear c2
    go_simp
  have hl1 : (Instr.loadAt 27 (.pointer (some ⟨g, 2, none⟩))).run Try.prog wS = .ok (.int .u8 (wh : Int)) wS := by
    have c2d : wS.cell? ⟨g, 2, none⟩ = some (.int .u8 (wh : Int)) := hgS.cell 2
    clear c2 hwS hgs HOF
    go_simp
  have HGS : Hid (gs = w2.heap.size ∧ wS = w2.drew.alloc (.cells #[.int .u8 (node : Int)] 5)) := ⟨hgs, hwS⟩
  have oT : Outs [g, mg] w wT := (Outs.of_below (b2.trans (b2S.mono b2.size))).trans (outs_two hgT (.inl rfl))
  have HT : Hid (RoS B0 g mg ⟨n, r, wh2, fl, bb, la, F⟩ wT ∧ Boxed wT b4 75 (.pointer (some ⟨g, 0, none⟩)) ∧ Outs [g, mg] w wT) := ⟨⟨kgT, hmT, HR2.out.hB, HR2.out.hM, by rw [hwh2]; exact with_lt _ _⟩, kT, oT⟩
  have S2 : w2.drew.cell? ⟨b4, 0, none⟩ = some (.pointer (some ⟨g, 0, none⟩)) := k2.cell
  have SS : wS.cell? ⟨b4, 0, none⟩ = some (.pointer (some ⟨g, 0, none⟩)) := kS.cell
  have ST : wT.cell? ⟨b4, 0, none⟩ = some (.pointer (some ⟨g, 0, none⟩)) := kT.cell
  have HW2 := Lib.hid hwh2
  clear hgs hwS b2S rS kS hgS kgT hgT kT hmT oT r2 k2 b2 HR2 c2 hwh2 HWL
  go_upto_region 8 with fail
  go_cut [] (fun wx => RoS B0 g mg ⟨n, r, wh2, fl, bb, la, F⟩ wx ∧ Boxed wx b4 75 (.pointer (some ⟨g, 0, none⟩)) ∧ Hid (Outs [g, mg] w wx))
  case first =>
    refine wp_region_held_drew (S := (fun W : World => W.cell? ⟨b4, 0, none⟩ = some (.pointer (some ⟨g, 0, none⟩)))) (by kernel_rfl) (S2) (fun hHeld => ?_)
    refine take1 (i := 0) (d := 25) (v := ?_) rfl (by kernel_rfl) (by kernel_rfl) (by kernel_rfl) rfl (fun _ _ _ h => h) (Or.inl ⟨by rfl, ?_⟩) (by assumption) ?_
    rotate_left
    · (intro w hSw; (try dsimp only at hSw); go_simp); with_reducible rfl
    simp only [List.set_cons_zero, List.set_cons_succ]
    refine take1 (i := 1) (d := 26) (v := ?_) rfl (by kernel_rfl) (by kernel_rfl) (by kernel_rfl) rfl (fun _ _ _ h => h) (Or.inl ⟨by rfl, ?_⟩) (by assumption) ?_
    rotate_left
    · (intro w hSw; (try dsimp only at hSw); go_simp); with_reducible rfl
    simp only [List.set_cons_zero, List.set_cons_succ]
    refine take1 (i := 2) (d := 27) (v := ?_) rfl (by kernel_rfl) (by kernel_rfl) (by kernel_rfl) rfl (fun _ _ _ h => h) (Or.inl ⟨by rfl, ?_⟩) (by assumption) ?_
    rotate_left
    · (intro w hSw; (try dsimp only at hSw); go_simp); with_reducible rfl
    simp only [List.set_cons_zero, List.set_cons_succ]
    refine take1 (i := 3) (d := 28) (v := ?_) rfl (by kernel_rfl) (by kernel_rfl) (by kernel_rfl) rfl (fun _ _ _ h => h) (Or.inl ⟨by rfl, ?_⟩) (by assumption) ?_
    rotate_left
    · (intro w hSw; (try dsimp only at hSw); go_simp); with_reducible rfl
    simp only [List.set_cons_zero, List.set_cons_succ]
    refine take1 (i := 5) (d := 30) (v := ?_) rfl (by kernel_rfl) (by kernel_rfl) (by kernel_rfl) rfl (fun _ _ _ h => h) (Or.inl ⟨by rfl, ?_⟩) (by assumption) ?_
    rotate_left
    · (intro w hSw; (try dsimp only at hSw); go_simp); with_reducible rfl
    simp only [List.set_cons_zero, List.set_cons_succ]
    refine wpAnyH_ready (rs := [4, 6]) (by kernel_rfl) (by simp) (AllReadyH.cons rfl (fun Kreg hKreg => ?_) (AllReadyH.cons rfl (fun Kreg hKreg => ?_) AllReadyH.nil))
    · refine step_load (by rfl) (.tmp 28) (by rfl) (by rfl) (by first | exact hl0 | exact hl1) ?_
      refine hKreg.out _ _ ((by first | exact S2 | exact SS | exact ST)) (fun hHeld => ?_)
      clear hKreg Kreg
      refine wpAnyH_put (d := 29) (by rfl) ?_
      simp only [List.set_cons_zero, List.set_cons_succ]
      refine wpAnyH_ready (rs := [6]) (by kernel_rfl) (by simp) (AllReadyH.cons rfl (fun Kreg hKreg => ?_) AllReadyH.nil)
      refine step_exec (by rfl) (.slice (some ⟨gs, 0, none⟩) 1 1) wS (by rw [HGS.out.2, HGS.out.1]; go_simp) ?_
      refine hKreg.out _ _ ((by first | exact S2 | exact SS | exact ST)) (fun hHeld => ?_)
      clear hKreg Kreg
      refine wpAnyH_put (d := 31) (by rfl) ?_
      simp only [List.set_cons_zero, List.set_cons_succ]
      refine wpAnyH_ready (rs := [7]) (by kernel_rfl) (by simp) (AllReadyH.cons rfl (fun Kreg hKreg => ?_) AllReadyH.nil)
      go_simp
      refine HOF.out.mono ?_; rintro e w9 ⟨rfl, rfl⟩
      go_wp2_with fail
      refine hKreg.out _ _ ((by first | exact S2 | exact SS | exact ST)) (fun hHeld => ?_)
      clear hKreg Kreg
      try simp only [Act.put, List.setIfInBounds_toArray, List.set_cons_zero, List.set_cons_succ]
      refine wpAnyH_ready (rs := [8]) (by kernel_rfl) (by simp) (AllReadyH.cons rfl (fun Kreg hKreg => ?_) AllReadyH.nil)
      go_simp
      refine HWI.out.mono ?_; rintro e w9 ⟨rfl, rfl⟩
      go_wp2_with fail
      refine hKreg.out _ _ ((by first | exact S2 | exact SS | exact ST)) (fun hHeld => ?_)
      clear hKreg Kreg
      try simp only [Act.put, List.setIfInBounds_toArray, List.set_cons_zero, List.set_cons_succ]
      refine take1 (i := 9) (d := 34) (v := ?_) rfl (by kernel_rfl) (by kernel_rfl) (by kernel_rfl) rfl (fun _ _ _ h => h) (Or.inl ⟨by rfl, ?_⟩) (by assumption) ?_
      rotate_left
      · (intro w hSw; (try dsimp only at hSw); go_simp); with_reducible rfl
      simp only [List.set_cons_zero, List.set_cons_succ]
      refine take1 (i := 10) (d := 35) (v := ?_) rfl (by kernel_rfl) (by kernel_rfl) (by kernel_rfl) rfl (fun _ _ _ h => h) (Or.inl ⟨by rfl, ?_⟩) (by assumption) ?_
      rotate_left
      · (intro w hSw; (try dsimp only at hSw); go_simp); with_reducible rfl
      simp only [List.set_cons_zero, List.set_cons_succ]
      refine wpAnyH_ready (rs := [11]) (by kernel_rfl) (by simp) (AllReadyH.cons rfl (fun Kreg hKreg => ?_) AllReadyH.nil)
      refine step_store (by rfl) (.tmp 35) (.tmp 33) (by rfl) (by rfl) (by rfl) hstT ?_
      refine hKreg.out _ _ ((by first | exact S2 | exact SS | exact ST)) (fun hHeld => ?_)
      clear hKreg Kreg
      try simp only [Act.put, List.setIfInBounds_toArray, List.set_cons_zero, List.set_cons_succ]
      refine wpAnyH_done (by kernel_rfl) ?_ _
      clear hstT hl0 hl1
      go_wp2_with fail
      go_meet
      exact HT.out
    · refine step_exec (by rfl) (.slice (some ⟨gs, 0, none⟩) 1 1) wS (by rw [HGS.out.2, HGS.out.1]; go_simp) ?_
      refine hKreg.out _ _ ((by first | exact S2 | exact SS | exact ST)) (fun hHeld => ?_)
      clear hKreg Kreg
      refine wpAnyH_put (d := 31) (by rfl) ?_
      simp only [List.set_cons_zero, List.set_cons_succ]
      refine wpAnyH_ready (rs := [4, 7]) (by kernel_rfl) (by simp) (AllReadyH.cons rfl (fun Kreg hKreg => ?_) (AllReadyH.cons rfl (fun Kreg hKreg => ?_) AllReadyH.nil))
      · refine step_load (by rfl) (.tmp 28) (by rfl) (by rfl) (by first | exact hl0 | exact hl1) ?_
        refine hKreg.out _ _ ((by first | exact S2 | exact SS | exact ST)) (fun hHeld => ?_)
        clear hKreg Kreg
        refine wpAnyH_put (d := 29) (by rfl) ?_
        simp only [List.set_cons_zero, List.set_cons_succ]
        refine wpAnyH_ready (rs := [7]) (by kernel_rfl) (by simp) (AllReadyH.cons rfl (fun Kreg hKreg => ?_) AllReadyH.nil)
        go_simp
        refine HOF.out.mono ?_; rintro e w9 ⟨rfl, rfl⟩
        go_wp2_with fail
        refine hKreg.out _ _ ((by first | exact S2 | exact SS | exact ST)) (fun hHeld => ?_)
        clear hKreg Kreg
        try simp only [Act.put, List.setIfInBounds_toArray, List.set_cons_zero, List.set_cons_succ]
        refine wpAnyH_ready (rs := [8]) (by kernel_rfl) (by simp) (AllReadyH.cons rfl (fun Kreg hKreg => ?_) AllReadyH.nil)
        go_simp
        refine HWI.out.mono ?_; rintro e w9 ⟨rfl, rfl⟩
        go_wp2_with fail
        refine hKreg.out _ _ ((by first | exact S2 | exact SS | exact ST)) (fun hHeld => ?_)
        clear hKreg Kreg
        try simp only [Act.put, List.setIfInBounds_toArray, List.set_cons_zero, List.set_cons_succ]
        refine take1 (i := 9) (d := 34) (v := ?_) rfl (by kernel_rfl) (by kernel_rfl) (by kernel_rfl) rfl (fun _ _ _ h => h) (Or.inl ⟨by rfl, ?_⟩) (by assumption) ?_
        rotate_left
        · (intro w hSw; (try dsimp only at hSw); go_simp); with_reducible rfl
        simp only [List.set_cons_zero, List.set_cons_succ]
        refine take1 (i := 10) (d := 35) (v := ?_) rfl (by kernel_rfl) (by kernel_rfl) (by kernel_rfl) rfl (fun _ _ _ h => h) (Or.inl ⟨by rfl, ?_⟩) (by assumption) ?_
        rotate_left
        · (intro w hSw; (try dsimp only at hSw); go_simp); with_reducible rfl
        simp only [List.set_cons_zero, List.set_cons_succ]
        refine wpAnyH_ready (rs := [11]) (by kernel_rfl) (by simp) (AllReadyH.cons rfl (fun Kreg hKreg => ?_) AllReadyH.nil)
        refine step_store (by rfl) (.tmp 35) (.tmp 33) (by rfl) (by rfl) (by rfl) hstT ?_
        refine hKreg.out _ _ ((by first | exact S2 | exact SS | exact ST)) (fun hHeld => ?_)
        clear hKreg Kreg
        try simp only [Act.put, List.setIfInBounds_toArray, List.set_cons_zero, List.set_cons_succ]
        refine wpAnyH_done (by kernel_rfl) ?_ _
        clear hstT hl0 hl1
        go_wp2_with fail
        go_meet
        exact HT.out
      · go_simp
        refine HOF.out.mono ?_; rintro e w9 ⟨rfl, rfl⟩
        go_wp2_with fail
        refine hKreg.out _ _ ((by first | exact S2 | exact SS | exact ST)) (fun hHeld => ?_)
        clear hKreg Kreg
        try simp only [Act.put, List.setIfInBounds_toArray, List.set_cons_zero, List.set_cons_succ]
        refine wpAnyH_ready (rs := [4]) (by kernel_rfl) (by simp) (AllReadyH.cons rfl (fun Kreg hKreg => ?_) AllReadyH.nil)
        refine step_load (by rfl) (.tmp 28) (by rfl) (by rfl) (by first | exact hl0 | exact hl1) ?_
        refine hKreg.out _ _ ((by first | exact S2 | exact SS | exact ST)) (fun hHeld => ?_)
        clear hKreg Kreg
        refine wpAnyH_put (d := 29) (by rfl) ?_
        simp only [List.set_cons_zero, List.set_cons_succ]
        refine wpAnyH_ready (rs := [8]) (by kernel_rfl) (by simp) (AllReadyH.cons rfl (fun Kreg hKreg => ?_) AllReadyH.nil)
        go_simp
        refine HWI.out.mono ?_; rintro e w9 ⟨rfl, rfl⟩
        go_wp2_with fail
        refine hKreg.out _ _ ((by first | exact S2 | exact SS | exact ST)) (fun hHeld => ?_)
        clear hKreg Kreg
        try simp only [Act.put, List.setIfInBounds_toArray, List.set_cons_zero, List.set_cons_succ]
        refine take1 (i := 9) (d := 34) (v := ?_) rfl (by kernel_rfl) (by kernel_rfl) (by kernel_rfl) rfl (fun _ _ _ h => h) (Or.inl ⟨by rfl, ?_⟩) (by assumption) ?_
        rotate_left
        · (intro w hSw; (try dsimp only at hSw); go_simp); with_reducible rfl
        simp only [List.set_cons_zero, List.set_cons_succ]
        refine take1 (i := 10) (d := 35) (v := ?_) rfl (by kernel_rfl) (by kernel_rfl) (by kernel_rfl) rfl (fun _ _ _ h => h) (Or.inl ⟨by rfl, ?_⟩) (by assumption) ?_
        rotate_left
        · (intro w hSw; (try dsimp only at hSw); go_simp); with_reducible rfl
        simp only [List.set_cons_zero, List.set_cons_succ]
        refine wpAnyH_ready (rs := [11]) (by kernel_rfl) (by simp) (AllReadyH.cons rfl (fun Kreg hKreg => ?_) AllReadyH.nil)
        refine step_store (by rfl) (.tmp 35) (.tmp 33) (by rfl) (by rfl) (by rfl) hstT ?_
        refine hKreg.out _ _ ((by first | exact S2 | exact SS | exact ST)) (fun hHeld => ?_)
        clear hKreg Kreg
        try simp only [Act.put, List.setIfInBounds_toArray, List.set_cons_zero, List.set_cons_succ]
        refine wpAnyH_done (by kernel_rfl) ?_ _
        clear hstT hl0 hl1
        go_wp2_with fail
        go_meet
        exact HT.out
  case rest =>
    obtain ⟨r3, k3, o3⟩ := hcut
    clear HT S2 SS ST hl0 hl1 HOF HWI hstT HGS c0
    have c0 := k3.cell
    have c3 : wc.cell? ⟨g, 3, none⟩ = some (.int .u64 (fl : Int)) := r3.hg.cell 3
    have HR3 := Lib.hid (And.intro r3 (And.intro k3 o3.out))
    clear r3 k3 o3
    go_upto_if 41 with fail
    go_cut [] (fun wx => RoS B0 g mg (q0.tell node base) wx ∧ Boxed wx b4 75 (.pointer (some ⟨g, 0, none⟩)) ∧ Hid (Outs [g, mg] w wx))
    case first =>
      by_cases hf : fl < base
      · have hfi : (fl : Int) < (base : Int) := by omega
        have htl : (⟨n, r, wh2, base, node, la, F⟩ : Ro) = q0.tell node base := by
          rw [HQ0.out, HW2.out]
          unfold Ro.tell
          dsimp only
          rw [if_pos hf, if_pos hf]
        have kg : Blk wc.drew g 127 #[.int .u64 (n : Int), .int .u8 (r : Int), .int .u8 (wh2 : Int), .int .u64 (fl : Int), .int .u8 (bb : Int), .int .u64 (la : Int), .map (some mg)] := HR3.out.1.hg
        have kb : Boxed wc.drew b4 75 (.pointer (some ⟨g, 0, none⟩)) := HR3.out.2.1
        have km : MapAt wc.drew mg F := HR3.out.1.hm
        have hne : g ≠ mg := HNN.out.2.1
        have hnb : b4 ≠ g := fun e => HNN.out.1 (by rw [e]; simp)
        obtain ⟨w6, hst6a, kg6, hg6⟩ := store_floor kg (base : Int)
        obtain ⟨w69, hst9b, kg69, hg69⟩ := store_by kg6 (node : Int)
        obtain ⟨w9, hst9a, kg9, hg9⟩ := store_by kg (node : Int)
        obtain ⟨w96, hst6b, kg96, hg96⟩ := store_floor kg9 (base : Int)
        have kb6 := kb.kept hg6 (fun e => hnb (Option.some.inj e))
        have kb9 := kb.kept hg9 (fun e => hnb (Option.some.inj e))
        have kb69 := kb6.kept hg69 (fun e => hnb (Option.some.inj e))
        have kb96 := kb9.kept hg96 (fun e => hnb (Option.some.inj e))
        have km6 := km.keep (hg6.block mg km.lt (fun e => hne (Option.some.inj e).symm))
        have km9 := km.keep (hg9.block mg km.lt (fun e => hne (Option.some.inj e).symm))
        have km69 := km6.keep (hg69.block mg km6.lt (fun e => hne (Option.some.inj e).symm))
        have km96 := km9.keep (hg96.block mg km9.lt (fun e => hne (Option.some.inj e).symm))
        have oX : Outs [g, mg] w wc.drew := HR3.out.2.2.trans (Outs.of_below (Below.refl _ wc).drew)
        have H69 : Hid (RoS B0 g mg ⟨n, r, wh2, base, node, la, F⟩ w69 ∧ Boxed w69 b4 75 (.pointer (some ⟨g, 0, none⟩)) ∧ Hid (Outs [g, mg] w w69)) := ⟨⟨kg69, km69, HR3.out.1.hB, HR3.out.1.hM, HR3.out.1.lw⟩, kb69, (oX.trans (outs_two hg6 (.inl rfl))).trans (outs_two hg69 (.inl rfl))⟩
        have H96 : Hid (RoS B0 g mg ⟨n, r, wh2, base, node, la, F⟩ w96 ∧ Boxed w96 b4 75 (.pointer (some ⟨g, 0, none⟩)) ∧ Hid (Outs [g, mg] w w96)) := ⟨⟨kg96, km96, HR3.out.1.hB, HR3.out.1.hM, HR3.out.1.lw⟩, kb96, (oX.trans (outs_two hg9 (.inl rfl))).trans (outs_two hg96 (.inl rfl))⟩
        rw [htl] at H69 H96
        have SX : wc.drew.cell? ⟨b4, 0, none⟩ = some (.pointer (some ⟨g, 0, none⟩)) := kb.cell
        have S6 : w6.cell? ⟨b4, 0, none⟩ = some (.pointer (some ⟨g, 0, none⟩)) := kb6.cell
        have S9 : w9.cell? ⟨b4, 0, none⟩ = some (.pointer (some ⟨g, 0, none⟩)) := kb9.cell
        have S69 : w69.cell? ⟨b4, 0, none⟩ = some (.pointer (some ⟨g, 0, none⟩)) := kb69.cell
        have S96 : w96.cell? ⟨b4, 0, none⟩ = some (.pointer (some ⟨g, 0, none⟩)) := kb96.cell
        clear kg kb km kg6 kg9 kg69 kg96 hg6 hg9 hg69 hg96 kb6 kb9 kb69 kb96 km6 km9 km69 km96 oX HR3 hf htl c3 c0
        go_wp2_with fail
        refine wp_region_held_drew (S := (fun W : World => W.cell? ⟨b4, 0, none⟩ = some (.pointer (some ⟨g, 0, none⟩)))) (by kernel_rfl) (SX) (fun hHeld => ?_)
        refine take1 (i := 0) (d := 42) (v := ?_) rfl (by kernel_rfl) (by kernel_rfl) (by kernel_rfl) rfl (fun _ _ _ h => h) (Or.inl ⟨by rfl, ?_⟩) (by assumption) ?_
        rotate_left
        · (intro w hSw; (try dsimp only at hSw); go_simp); with_reducible rfl
        simp only [List.set_cons_zero, List.set_cons_succ]
        refine take1 (i := 1) (d := 43) (v := ?_) rfl (by kernel_rfl) (by kernel_rfl) (by kernel_rfl) rfl (fun _ _ _ h => h) (Or.inl ⟨by rfl, ?_⟩) (by assumption) ?_
        rotate_left
        · (intro w hSw; (try dsimp only at hSw); go_simp); with_reducible rfl
        simp only [List.set_cons_zero, List.set_cons_succ]
        refine take1 (i := 2) (d := 44) (v := ?_) rfl (by kernel_rfl) (by kernel_rfl) (by kernel_rfl) rfl (fun _ _ _ h => h) (Or.inl ⟨by rfl, ?_⟩) (by assumption) ?_
        rotate_left
        · (intro w hSw; (try dsimp only at hSw); go_simp); with_reducible rfl
        simp only [List.set_cons_zero, List.set_cons_succ]
        refine take1 (i := 3) (d := 45) (v := ?_) rfl (by kernel_rfl) (by kernel_rfl) (by kernel_rfl) rfl (fun _ _ _ h => h) (Or.inl ⟨by rfl, ?_⟩) (by assumption) ?_
        rotate_left
        · (intro w hSw; (try dsimp only at hSw); go_simp); with_reducible rfl
        simp only [List.set_cons_zero, List.set_cons_succ]
        refine take1 (i := 4) (d := 46) (v := ?_) rfl (by kernel_rfl) (by kernel_rfl) (by kernel_rfl) rfl (fun _ _ _ h => h) (Or.inl ⟨by rfl, ?_⟩) (by assumption) ?_
        rotate_left
        · (intro w hSw; (try dsimp only at hSw); go_simp); with_reducible rfl
        simp only [List.set_cons_zero, List.set_cons_succ]
        refine take1 (i := 5) (d := 47) (v := ?_) rfl (by kernel_rfl) (by kernel_rfl) (by kernel_rfl) rfl (fun _ _ _ h => h) (Or.inl ⟨by rfl, ?_⟩) (by assumption) ?_
        rotate_left
        · (intro w hSw; (try dsimp only at hSw); go_simp); with_reducible rfl
        simp only [List.set_cons_zero, List.set_cons_succ]
        refine wpAnyH_ready (rs := [6]) (by kernel_rfl) (by simp) (AllReadyH.cons rfl (fun Kreg hKreg => ?_) AllReadyH.nil)
        refine step_store (by rfl) (.tmp 47) (.tmp 44) (by rfl) (by rfl) (by rfl) (by first | exact hst6a | exact hst6b) ?_
        refine hKreg.out _ _ ((by first | exact S6 | exact S9 | exact S69 | exact S96)) (fun hHeld => ?_)
        clear hKreg Kreg
        try simp only [Act.put, List.setIfInBounds_toArray, List.set_cons_zero, List.set_cons_succ]
        refine take1 (i := 7) (d := 48) (v := ?_) rfl (by kernel_rfl) (by kernel_rfl) (by kernel_rfl) rfl (fun _ _ _ h => h) (Or.inl ⟨by rfl, ?_⟩) (by assumption) ?_
        rotate_left
        · (intro w hSw; (try dsimp only at hSw); go_simp); with_reducible rfl
        simp only [List.set_cons_zero, List.set_cons_succ]
        refine take1 (i := 8) (d := 49) (v := ?_) rfl (by kernel_rfl) (by kernel_rfl) (by kernel_rfl) rfl (fun _ _ _ h => h) (Or.inl ⟨by rfl, ?_⟩) (by assumption) ?_
        rotate_left
        · (intro w hSw; (try dsimp only at hSw); go_simp); with_reducible rfl
        simp only [List.set_cons_zero, List.set_cons_succ]
        refine wpAnyH_ready (rs := [9]) (by kernel_rfl) (by simp) (AllReadyH.cons rfl (fun Kreg hKreg => ?_) AllReadyH.nil)
        refine step_store (by rfl) (.tmp 49) (.tmp 45) (by rfl) (by rfl) (by rfl) (by first | exact hst9a | exact hst9b) ?_
        refine hKreg.out _ _ ((by first | exact S6 | exact S9 | exact S69 | exact S96)) (fun hHeld => ?_)
        clear hKreg Kreg
        try simp only [Act.put, List.setIfInBounds_toArray, List.set_cons_zero, List.set_cons_succ]
        refine wpAnyH_done (by kernel_rfl) ?_ _
        clear hst6a hst6b hst9a hst9b
        go_wp2_with fail
        go_meet
        first | exact H69.out | exact H96.out
      · have hfi : ¬ (fl : Int) < (base : Int) := by omega
        have htl : (⟨n, r, wh2, fl, bb, la, F⟩ : Ro) = q0.tell node base := by
          rw [HQ0.out, HW2.out]
          unfold Ro.tell
          dsimp only
          rw [if_neg hf, if_neg hf]
        have HR4 := HR3
        rw [htl] at HR4
        clear hf htl c3 c0 HR3
        go_wp2_with fail
        go_meet
        exact HR4.out
    case rest =>
      clear HR3 c0 c3 HQ0 HW2
      obtain ⟨r5, k5, o5⟩ := hcut
      obtain ⟨q1, hq1⟩ : ∃ q1, q1 = q0.tell node base := ⟨_, rfl⟩
      rw [← hq1] at r5
      have HQ1 := Lib.hid hq1
      clear hq1
      go_wp2_with fail
      go_loopg [53] m (fun gk v53 wr => ∃ i : Nat, i + gk = m ∧ v53 = .int .i64 (i : Int) ∧ RoS B0 g mg ((V.take i).foldl Ro.grow q1) wr ∧ Boxed wr b4 75 (.pointer (some ⟨g, 0, none⟩)) ∧ Hid (Outs [g, mg] w wr))
      case atStart => exact ⟨0, by omega, rfl, r5, k5, o5⟩
      case round =>
        clear r5 k5 o5
        obtain ⟨i, hi, rfl, r5, k5, o5⟩ := hrel
        by_cases h4 : i < m
        · have hk4 : (i : Int) < (m : Int) := by omega
          obtain ⟨x, hx⟩ : ∃ x, V[i]? = some x := ⟨_, List.getElem?_eq_getElem (by rw [HVV.out.2.2]; exact h4)⟩
          obtain ⟨ad, hae, hadl, a0, a1⟩ := HVV.out.1.at_ hx
          have hadn := HVV.out.2.1 (by omega) ad hae
          subst hae
          have hsnoc : (V.take (i + 1)).foldl Ro.grow q1 = ((V.take i).foldl Ro.grow q1).grow x := by rw [List.take_add_one, hx]; exact grow_snoc q1 _ x
          have HS := Lib.hid hsnoc
          obtain ⟨xs, xn, xr, xv⟩ := x
          have e0 : wr.cell? (ad.add (i * 4)) = some (.int .u64 (xs : Int)) := (o5.out.cell (by rw [block_of_add]; exact hadl) (by rw [block_of_add]; exact hadn)).trans (a0 _ rfl)
          have e1 : wr.cell? { block := (ad.add (i * 4)).block, off := (ad.add (i * 4)).off + 1 } = some (.int .u64 (xn : Int)) := (o5.out.cell (by show (ad.add (i * 4)).block < _; rw [block_of_add]; exact hadl) (by show (ad.add (i * 4)).block ∉ _; rw [block_of_add]; exact hadn)).trans (a1 0 _ rfl)
          have e2 : wr.cell? { block := (ad.add (i * 4)).block, off := (ad.add (i * 4)).off + 2 } = some (.int .u8 (xr : Int)) := (o5.out.cell (by show (ad.add (i * 4)).block < _; rw [block_of_add]; exact hadl) (by show (ad.add (i * 4)).block ∉ _; rw [block_of_add]; exact hadn)).trans (a1 1 _ rfl)
          have e3 : wr.cell? { block := (ad.add (i * 4)).block, off := (ad.add (i * 4)).off + 3 } = some (.string ⟨xv.toArray⟩) := (o5.out.cell (by show (ad.add (i * 4)).block < _; rw [block_of_add]; exact hadl) (by show (ad.add (i * 4)).block ∉ _; rw [block_of_add]; exact hadn)).trans (a1 2 _ rfl)
          have b0 := below_1 wr (.cells #[.int .u64 0, .int .u64 0, .int .u8 0, .string ⟨#[]⟩] 73)
          have k0 := Blk.new wr 73 #[.int .u64 0, .int .u64 0, .int .u8 0, .string ⟨#[]⟩]
          obtain ⟨wY, hwY⟩ : ∃ wY, wY = wr.alloc (.cells #[.int .u64 0, .int .u64 0, .int .u8 0, .string ⟨#[]⟩] 73) := ⟨_, rfl⟩
          obtain ⟨gy, hgy⟩ : ∃ g, g = wr.heap.size := ⟨_, rfl⟩
          rw [← hwY] at b0 k0
          rw [← hgy] at k0
          obtain ⟨wZ, hst, kz, hgz⟩ : ∃ w3, (Instr.storeAt 73 (.pointer (some ⟨gy, 0, none⟩)) (.agg #[.int .u64 (xs : Int), .int .u64 (xn : Int), .int .u8 (xr : Int), .string ⟨xv.toArray⟩])).run Try.prog wY = .ok () w3 ∧ Blk w3 gy 73 #[.int .u64 (xs : Int), .int .u64 (xn : Int), .int .u8 (xr : Int), .string ⟨xv.toArray⟩] ∧ wY.grownBy w3 (some gy) := ⟨_, blk_store k0 rfl (by kernel_rfl) rfl, k0.setRow, grown_setRow (World.grownBy.refl _ _) (.inr rfl)⟩
          have bz := b0.grown hgz b0.size (fun k hk => by cases hk; rw [hgy]; exact Nat.le_refl _)
          have r6 := r5.below bz
          have k6 : Boxed wZ b4 75 (.pointer (some ⟨g, 0, none⟩)) := (bz.block _ k5.lt).trans k5
          have HO6 : Hid (Outs [g, mg] w wZ) := o5.out.trans (Outs.of_below bz)
          have HG := Lib.hid (grow_any r6 (Nat.le_trans HNN.out.2.2.1 HO6.out.size) b4 k6 ⟨xs, xn, xr, xv⟩)
          have HK6 := Lib.hid (And.intro r6 k6)
          have z0 : wZ.cell? ⟨wr.heap.size, 0, none⟩ = some (.int .u64 (xs : Int)) := by rw [← hgy]; exact kz.cell 0
          have z1 : wZ.cell? ⟨wr.heap.size, 1, none⟩ = some (.int .u64 (xn : Int)) := by rw [← hgy]; exact kz.cell 1
          have z2 : wZ.cell? ⟨wr.heap.size, 2, none⟩ = some (.int .u8 (xr : Int)) := by rw [← hgy]; exact kz.cell 2
          have z3 : wZ.cell? ⟨wr.heap.size, 3, none⟩ = some (.string ⟨xv.toArray⟩) := by rw [← hgy]; exact kz.cell 3
          have hup : Hid (wr.alloc (.cells #[.int .u64 0, .int .u64 0, .int .u8 0, .string ⟨#[]⟩] 73) = wY) := hwY.symm
          have hug : Hid (wr.heap.size = gy) := hgy.symm
          unfold vtV vtC at HG
          dsimp only at HG
          generalize (⟨xv.toArray⟩ : ByteArray) = sx at *
          clear hwY hgy k0 kz hgz bz b0 r6 k6 r5 k5 o5 a0 a1 hx hsnoc hadn hadl
          go_wp2_with (refine wpList_store (by rfl) (.tmp 12) (.tmp 56) (by rfl) (by rfl) (by rfl) (by rw [hup.out, hug.out]; exact hst) ?_)
          go_wp2_with fail
          refine HG.out.mono ?_; rintro e w7 hret
          obtain ⟨rfl, r7, o7⟩ := hret
          have k7 := box_out HK6.out.2 o7 (box_not_two HK6.out.2 HK6.out.1)
          have HO7 : Hid (Outs [g, mg] w w7) := HO6.out.trans o7
          rw [← HS.out] at r7
          clear HG o7 HK6 z0 z1 z2 z3 hst
          go_wp2_with fail
          go_roundg (m - (i + 1))
          case measure => omega
          case rel => exact ⟨i + 1, by omega, by go_num, r7, k7, HO7⟩
        · have hk4 : ¬ (i : Int) < (m : Int) := by omega
          obtain rfl : m = i := by omega
          rw [List.take_of_length_le (by rw [HVV.out.2.2]; exact Nat.le_refl _), HQ1.out] at r5
          have HR5 := Lib.hid (And.intro r5 o5.out)
          clear r5 k5 o5
          go_wp2_with fail
          go_ret
          exact ⟨rfl, HR5.out.1, HR5.out.2⟩
end Go.Proofs.Ytbamfnlgapchkaa.Ele
