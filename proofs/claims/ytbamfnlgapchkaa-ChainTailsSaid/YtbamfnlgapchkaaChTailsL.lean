/- The law ChainTails walked. Conditions: the arguments can be read. -/
import Derived.Test.YtbamfnlgapchkaaChTailsP
namespace Go.Proofs.Ytbamfnlgapchkaa.Chn
open Go.RowKit Mem DrawInv

set_option linter.unusedVariables false in
set_option maxRecDepth 100000 in
set_option maxHeartbeats 4000000 in
theorem ctails_any (first : Nat) (hf : first < 256) (l l2 : List Nat) (hl1 : ∀ x ∈ l, x < 256) (hl2 : ∀ x ∈ l2, x < 256) (n n2 : Nat) (hn1 : l.length = n) (hn2 : l2.length = n2) (A1 A2 : Option Addr) (c1 c2 : Nat) (w : World)
    (hr1 : Reads w w.heap.size 1 A1 n (l.map u8v)) (hr2 : Reads w w.heap.size 1 A2 n2 (l2.map u8v)) :
    Calls Try.prog 7 #[.int .u8 (first : Int), .slice A1 n c1, .slice A2 n2 c2] w fun e w' => e = .returned (.bool true) ∧ Below w.heap.size w w' := by
  have HL := Lib.hid hl2
  have HN := Lib.hid (And.intro hn1 hn2)
  have HR := Lib.hid hr2
  have bw := Below.refl w.heap.size w
  by_cases g1 : 60 < n
  · have g1i : (60 : Int) < (n : Int) := by omega
    clear hr1 hr2
    go_enter Try.func7, Try.ntmps7
    go_wp2_with fail
    refine (wakes_any _).mono ?_; rintro e w9 ⟨rfl, B9⟩
    have bz := bw.trans (B9.mono bw.size)
    go_wp2_with fail
    go_ret
    exact ⟨rfl, bz⟩
  have g1i : ¬ (60 : Int) < (n : Int) := by omega
  by_cases g2 : 60 < n2
  · have g2i : (60 : Int) < (n2 : Int) := by omega
    clear hr1 hr2
    go_enter Try.func7, Try.ntmps7
    go_wp2_with fail
    refine (wakes_any _).mono ?_; rintro e w9 ⟨rfl, B9⟩
    have bz := bw.trans (B9.mono bw.size)
    go_wp2_with fail
    go_ret
    exact ⟨rfl, bz⟩
  have g2i : ¬ (60 : Int) < (n2 : Int) := by omega
  have HP1 := Lib.hid (pushed_any first hf l hl1 n hn1 (by omega) A1 c1 w hr1)
  have hg1 : n ≤ 60 := by omega
  have hg2 : n2 ≤ 60 := by omega
  clear hr1 hr2 hl1 hl2 hn1 hn2 g1 g2
  go_enter Try.func7, Try.ntmps7
  go_wp2_with fail
  refine HP1.out.mono ?_; rintro e w2 ⟨hx, B2⟩
  have HX := Lib.hid hx
  have bw := bw.trans (B2.mono bw.size)
  clear HP1 hx B2
  rcases HX.out with ⟨hall1, gx, vx, rfl, qx⟩ | ⟨hno, rfl⟩
  rotate_left
  · clear HX hno
    go_wp2_with fail
    refine (wakes_any _).mono ?_; rintro e w9 ⟨rfl, B9⟩
    have bz := bw.trans (B9.mono bw.size)
    go_wp2_with fail
    go_ret
    exact ⟨rfl, bz⟩
  clear HX
  obtain ⟨c0, hc0⟩ : ∃ c0 : Ch, c0 = ⟨0, first :: l⟩ := ⟨_, rfl⟩
  rw [← hc0] at qx
  have hlow : c0.low = 0 := by rw [hc0]
  have hlen : c0.dirs.length = n + 1 := by rw [hc0]; simp [HN.out.1]
  have htop : c0.top = n := by unfold Ch.top; rw [hlow, hlen]; omega
  obtain ⟨k, hk⟩ : ∃ k, k = n - 2 := ⟨_, rfl⟩
  have hof : ofCh n c0.tail = dropC k c0 := by
    unfold ofCh dropC Ch.tail
    rw [List.length_drop, hlen, hlow]
    rw [show n + 1 - (n + 1 - (n + 1 - 3)) = 0 + k by omega, show n + 1 - 3 = k by omega]
  have hofok : ofOk n c0.tail = true := by
    unfold ofOk
    rw [Bool.and_eq_true]
    refine ⟨decide_eq_true ⟨by omega, by rw [tail_len c0 hlen]; omega⟩, List.all_eq_true.2 fun x hx => qx.ok.dir x (List.mem_of_mem_drop hx)⟩
  have hrel : c0.release n = (dropC k c0, 0) := by
    unfold Ch.release
    rw [if_neg (by omega)]
    by_cases h2 : c0.low < n - 2
    · rw [if_pos h2]
      unfold dropC
      rw [← hk, hlow]
      simp
    · rw [if_neg h2]
      have : k = 0 := by omega
      subst this
      unfold dropC
      simp
  have HT := Lib.hid (top_any qx)
  rw [htop] at HT
  have HC := Lib.hid (And.intro hlow (And.intro hlen (And.intro htop (And.intro hk (And.intro hof (And.intro hofok hrel))))))
  have hklt : k ≤ n := by omega
  obtain ⟨Bx, hBx⟩ : ∃ b, b = w.heap.size := ⟨_, rfl⟩
  have HBX : Hid (w.heap.size ≤ Bx ∧ Bx ≤ w.heap.size) := by show _ ∧ _; omega
  rw [← hBx] at qx
  clear hall1 hc0 hlow hlen htop hof hofok hrel hk hBx
  go_wp2_with fail
  refine HT.out.mono ?_; rintro e w3 ⟨rfl, B3⟩
  have qx := qx.below B3
  have bw := bw.trans (B3.mono bw.size)
  clear HT B3
  have HTA := Lib.hid (tail_any qx)
  obtain ⟨tl, htl⟩ : ∃ tl, tl = Byt.by8 c0.tail := ⟨_, rfl⟩
  rw [← htl] at HTA
  have hOF := fun W => of_any n (by omega) tl (by rw [htl, Byt.by8_length, tail_len c0 HC.out.2.1]; omega) W
  have hback : tl.map UInt8.toNat = c0.tail := by
    rw [htl]
    exact Byt.by8_inj (Byt.nat_lt _) (tail_lt qx.ok) (Byt.by8_nat _)
  rw [hback] at hOF
  have HOF := Lib.hid hOF
  clear htl hback hOF
  go_wp2_with fail
  refine HTA.out.mono ?_; rintro e w4 ⟨rfl, B4⟩
  have qx := qx.below B4
  have bw := bw.trans (B4.mono bw.size)
  clear HTA B4
  go_wp2_with fail
  refine (HOF.out w4).mono ?_; rintro e w5 ⟨hy, B5⟩
  have HY := Lib.hid hy
  have qx4 := qx
  have qx := qx.below B5
  have bw5 := bw.trans (B5.mono bw.size)
  have hB45 : w4.heap.size ≤ w5.heap.size := B5.size
  have hB4 : w.heap.size ≤ w4.heap.size := bw.size
  clear HOF B5 hy bw
  have bw := bw5
  clear bw5
  rcases HY.out with ⟨_, gy, vy, rfl, qy⟩ | ⟨hno, rfl⟩
  rotate_left
  · have := HC.out.2.2.2.2.2.1
    rw [hno] at this
    cases this
  rw [HC.out.2.2.2.2.1] at qy
  have apxy := qx4.apart qy (Nat.le_refl _)
  obtain ⟨By, hBy⟩ : ∃ b, b = w4.heap.size := ⟨_, rfl⟩
  rw [← hBy] at qy
  have HBY : Hid (w.heap.size ≤ By ∧ By ≤ w5.heap.size) := by show _ ∧ _; omega
  clear HY qx4 hBy hB45 hB4
  go_wp2_with fail
  refine (copy_any qx).mono ?_; rintro e w6 ⟨uz, rfl, ⟨gz, vz, rfl, qz⟩, B6⟩
  have F : Tri w Bx gx By gy w5.heap.size gz c0 (dropC k c0) c0 vx vy vz w6 :=
    ⟨qx.below B6, qy.below B6, qz, apxy, qx.apart qz (Nat.le_refl _), qy.apart qz (Nat.le_refl _), bw.trans (B6.mono bw.size), ⟨HBX.out.1, Nat.le_trans HBX.out.2 (Nat.le_trans bw.size B6.size)⟩, ⟨HBY.out.1, Nat.le_trans HBY.out.2 B6.size⟩, ⟨bw.size, B6.size⟩⟩
  obtain ⟨Bz, hBz⟩ : ∃ b, b = w5.heap.size := ⟨_, rfl⟩
  rw [← hBz] at F
  clear qx qy qz apxy bw B6 hBz HBX HBY
  have HTZ := Lib.hid (top_any F.z)
  rw [HC.out.2.2.1] at HTZ
  go_wp2_with fail
  refine HTZ.out.mono ?_; rintro e w7 ⟨rfl, B7⟩
  have F := F.below B7
  clear HTZ B7
  have HRL := Lib.hid (release_any F.z F.bz.2 n (by omega))
  rw [HC.out.2.2.2.2.2.2] at HRL
  go_wp2_with fail
  refine HRL.out.mono ?_; rintro e w8 ⟨rfl, vz', qz', sz⟩
  have F := F.stepz qz' sz
  clear HRL qz' sz
  have htd : (dropC k c0).tail = c0.tail := drop_tail (by rw [HC.out.2.1, HC.out.2.2.2.1]; omega)
  have HTZ := Lib.hid (tail_any F.z)
  rw [htd] at HTZ
  have HTX := Lib.hid (fun W q => tail_any (B := Bx) (g := gx) (c := c0) (v := vx) (w := W) q)
  generalize Byt.by8 c0.tail = tb at HTZ HTX
  clear htd
  go_wp2_with fail
  refine HTZ.out.mono ?_; rintro e w9 ⟨rfl, B9⟩
  have F := F.below B9
  clear HTZ B9
  go_wp2_with fail
  refine (HTX.out w9 F.x).mono ?_; rintro e w10 ⟨rfl, B10⟩
  have F := F.below B10
  clear HTX B10
  have HTX := Lib.hid (top_any F.x)
  rw [HC.out.2.2.1] at HTX
  go_wp2_with fail
  refine HTX.out.mono ?_; rintro e w11 ⟨rfl, B11⟩
  have F := F.below B11
  clear HTX B11
  have HF := Lib.hid F
  clear F
  go_wp2_with fail
  go_loopg [12] n2 (fun gk v12 wr => ∃ (i : Nat) (c : Ch) (ax ay az : Value), i + gk = n2 ∧ v12 = .int .i64 (i : Int) ∧ Tri w Bx gx By gy Bz gz c (dropC k c) (dropC k c) ax ay az wr ∧ Hid (c.low = 0 ∧ n + 1 ≤ c.dirs.length ∧ c.dirs.length ≤ n + 1 + i))
  case atStart => exact ⟨0, c0, vx, vy, vz', by omega, rfl, HF.out, ⟨HC.out.1, Nat.le_of_eq HC.out.2.1.symm, Nat.le_of_eq HC.out.2.1⟩⟩
  case round =>
    clear HF
    obtain ⟨i, c, ax, ay, az, hi, rfl, F, HD⟩ := hrel
    by_cases h4 : i < n2
    · have hk4 : (i : Int) < (n2 : Int) := by omega
      obtain ⟨ad, u, rfl, hadl, hu, hcell⟩ := HR.out.at_ h4
      obtain ⟨x, hx, hux⟩ : ∃ x, l2[i]? = some x ∧ u = .int .u8 (x : Int) := by
        rw [List.getElem?_map] at hu
        cases hd : l2[i]? with
        | none => rw [hd] at hu; cases hu
        | some y => rw [hd] at hu; exact ⟨y, rfl, (Option.some.inj hu).symm⟩
      subst hux
      have hx256 := HL.out x (List.mem_of_getElem? hx)
      have hadb : (ad.add i).block < w.heap.size := by rw [block_of_add]; exact hadl
      have hkl : k < c.dirs.length := by have := HD.out; omega
      have hcl : c.dirs.length < 1000 := by have := HD.out; omega
      have hdl : (dropC k c).dirs.length < 1000 := by unfold dropC; simp; omega
      have hdp := drop_push hkl x
      have HPX := Lib.hid (fun W q hB => push_any (B := Bx) (g := gx) (c := c) (v := ax) (w := W) q hB x hx256 hcl)
      have HPY := Lib.hid (fun W q hB => push_any (B := By) (g := gy) (c := dropC k c) (v := ay) (w := W) q hB x hx256 hdl)
      have HPZ := Lib.hid (fun W q hB => push_any (B := Bz) (g := gz) (c := dropC k c) (v := az) (w := W) q hB x hx256 hdl)
      rw [hdp] at HPY HPZ
      have hcd : (c.push x).1.low = 0 ∧ n + 1 ≤ (c.push x).1.dirs.length ∧ (c.push x).1.dirs.length ≤ n + 1 + (i + 1) := by
        have := HD.out
        unfold Ch.push
        split
        · show c.low = 0 ∧ n + 1 ≤ c.dirs.length ∧ c.dirs.length ≤ n + 1 + (i + 1); omega
        · split
          · show c.low = 0 ∧ n + 1 ≤ c.dirs.length ∧ c.dirs.length ≤ n + 1 + (i + 1); omega
          · show c.low = 0 ∧ n + 1 ≤ (c.dirs ++ [x]).length ∧ (c.dirs ++ [x]).length ≤ n + 1 + (i + 1)
            rw [List.length_append]
            simp only [List.length_cons, List.length_nil]
            omega
      have HD2 := Lib.hid hcd
      generalize c.push x = pc at *
      obtain ⟨c', er⟩ := pc
      dsimp only at HPX HPY HPZ HD2
      have HF := Lib.hid F
      have cd : wr.drew.cell? (ad.add i) = some (.int .u8 (x : Int)) := (F.bw.cell hadb).trans hcell
      have FD : Tri w Bx gx By gy Bz gz c (dropC k c) (dropC k c) ax ay az wr.drew := F.below (below_drewN (Below.refl _ _) 1)
      clear hu hx hx256 hkl hcl hdl hdp hcd F
      go_upto_region 14 with fail
      refine wp_region_held_drew (S := (fun W : World => W.cell? (ad.add i) = some (.int .u8 (x : Int)))) (by kernel_rfl) (cd) (fun hHeld => ?_)
      refine take1 (i := 0) (d := 80) (v := ?_) rfl (by kernel_rfl) (by kernel_rfl) (by kernel_rfl) rfl (fun _ _ _ h => h) (Or.inl ⟨by rfl, ?_⟩) (by assumption) ?_
      rotate_left
      · (intro w hSw; (try dsimp only at hSw); go_simp); with_reducible rfl
      simp only [List.set_cons_zero, List.set_cons_succ]
      refine take1 (i := 1) (d := 81) (v := ?_) rfl (by kernel_rfl) (by kernel_rfl) (by kernel_rfl) rfl (fun _ _ _ h => h) (Or.inl ⟨by rfl, ?_⟩) (by assumption) ?_
      rotate_left
      · (intro w hSw; (try dsimp only at hSw); go_simp); with_reducible rfl
      simp only [List.set_cons_zero, List.set_cons_succ]
      refine take1 (i := 2) (d := 82) (v := ?_) rfl (by kernel_rfl) (by kernel_rfl) (by kernel_rfl) rfl (fun _ _ _ h => h) (Or.inl ⟨by rfl, ?_⟩) (by assumption) ?_
      rotate_left
      · (intro w hSw; (try dsimp only at hSw); go_simp); with_reducible rfl
      simp only [List.set_cons_zero, List.set_cons_succ]
      refine take1 (i := 3) (d := 83) (v := ?_) rfl (by kernel_rfl) (by kernel_rfl) (by kernel_rfl) rfl (fun _ _ _ h => h) (Or.inl ⟨by rfl, ?_⟩) (by assumption) ?_
      rotate_left
      · (intro w hSw; (try dsimp only at hSw); go_simp); with_reducible rfl
      simp only [List.set_cons_zero, List.set_cons_succ]
      refine take1 (i := 4) (d := 84) (v := ?_) rfl (by kernel_rfl) (by kernel_rfl) (by kernel_rfl) rfl (fun _ _ _ h => h) (Or.inl ⟨by rfl, ?_⟩) (by assumption) ?_
      rotate_left
      · (intro w hSw; (try dsimp only at hSw); go_simp); with_reducible rfl
      simp only [List.set_cons_zero, List.set_cons_succ]
      refine take1 (i := 6) (d := 86) (v := ?_) rfl (by kernel_rfl) (by kernel_rfl) (by kernel_rfl) rfl (fun _ _ _ h => h) (Or.inl ⟨by rfl, ?_⟩) (by assumption) ?_
      rotate_left
      · (intro w hSw; (try dsimp only at hSw); go_simp); with_reducible rfl
      simp only [List.set_cons_zero, List.set_cons_succ]
      refine take1 (i := 7) (d := 87) (v := ?_) rfl (by kernel_rfl) (by kernel_rfl) (by kernel_rfl) rfl (fun _ _ _ h => h) (Or.inl ⟨by rfl, ?_⟩) (by assumption) ?_
      rotate_left
      · (intro w hSw; (try dsimp only at hSw); go_simp); with_reducible rfl
      simp only [List.set_cons_zero, List.set_cons_succ]
      refine take1 (i := 8) (d := 88) (v := ?_) rfl (by kernel_rfl) (by kernel_rfl) (by kernel_rfl) rfl (fun _ _ _ h => h) (Or.inl ⟨by rfl, ?_⟩) (by assumption) ?_
      rotate_left
      · (intro w hSw; (try dsimp only at hSw); go_simp); with_reducible rfl
      simp only [List.set_cons_zero, List.set_cons_succ]
      refine take1 (i := 9) (d := 89) (v := ?_) rfl (by kernel_rfl) (by kernel_rfl) (by kernel_rfl) rfl (fun _ _ _ h => h) (Or.inl ⟨by rfl, ?_⟩) (by assumption) ?_
      rotate_left
      · (intro w hSw; (try dsimp only at hSw); go_simp); with_reducible rfl
      simp only [List.set_cons_zero, List.set_cons_succ]
      refine take1 (i := 10) (d := 90) (v := ?_) rfl (by kernel_rfl) (by kernel_rfl) (by kernel_rfl) rfl (fun _ _ _ h => h) (Or.inl ⟨by rfl, ?_⟩) (by assumption) ?_
      rotate_left
      · (intro w hSw; (try dsimp only at hSw); go_simp); with_reducible rfl
      simp only [List.set_cons_zero, List.set_cons_succ]
      refine take1 (i := 12) (d := 92) (v := ?_) rfl (by kernel_rfl) (by kernel_rfl) (by kernel_rfl) rfl (fun _ _ _ h => h) (Or.inl ⟨by rfl, ?_⟩) (by assumption) ?_
      rotate_left
      · (intro w hSw; (try dsimp only at hSw); go_simp); with_reducible rfl
      simp only [List.set_cons_zero, List.set_cons_succ]
      refine take1 (i := 13) (d := 93) (v := ?_) rfl (by kernel_rfl) (by kernel_rfl) (by kernel_rfl) rfl (fun _ _ _ h => h) (Or.inl ⟨by rfl, ?_⟩) (by assumption) ?_
      rotate_left
      · (intro w hSw; (try dsimp only at hSw); go_simp); with_reducible rfl
      simp only [List.set_cons_zero, List.set_cons_succ]
      refine take1 (i := 14) (d := 94) (v := ?_) rfl (by kernel_rfl) (by kernel_rfl) (by kernel_rfl) rfl (fun _ _ _ h => h) (Or.inl ⟨by rfl, ?_⟩) (by assumption) ?_
      rotate_left
      · (intro w hSw; (try dsimp only at hSw); go_simp); with_reducible rfl
      simp only [List.set_cons_zero, List.set_cons_succ]
      refine take1 (i := 15) (d := 95) (v := ?_) rfl (by kernel_rfl) (by kernel_rfl) (by kernel_rfl) rfl (fun _ _ _ h => h) (Or.inl ⟨by rfl, ?_⟩) (by assumption) ?_
      rotate_left
      · (intro w hSw; (try dsimp only at hSw); go_simp); with_reducible rfl
      simp only [List.set_cons_zero, List.set_cons_succ]
      refine take1 (i := 16) (d := 96) (v := ?_) rfl (by kernel_rfl) (by kernel_rfl) (by kernel_rfl) rfl (fun _ _ _ h => h) (Or.inl ⟨by rfl, ?_⟩) (by assumption) ?_
      rotate_left
      · (intro w hSw; (try dsimp only at hSw); go_simp); with_reducible rfl
      simp only [List.set_cons_zero, List.set_cons_succ]
      refine wpAnyH_ready (rs := [5]) (by kernel_rfl) (by simp) (AllReadyH.cons rfl (fun Kreg hKreg => ?_) AllReadyH.nil)
      go_simp
      refine (HPX.out _ FD.x FD.bx.2).mono ?_; rintro e wA ⟨rfl, vA, qA, sA⟩
      have F1 := FD.stepx qA sA
      have cd1 := (F1.bw.cell hadb).trans hcell
      clear qA sA
      go_wp2_with fail
      refine hKreg.out _ _ ((by first | exact cd3 | exact cd2 | exact cd1)) (fun hHeld => ?_)
      clear hKreg Kreg
      try simp only [Act.put, List.setIfInBounds_toArray, List.set_cons_zero, List.set_cons_succ]
      refine wpAnyH_ready (rs := [11]) (by kernel_rfl) (by simp) (AllReadyH.cons rfl (fun Kreg hKreg => ?_) AllReadyH.nil)
      go_simp
      refine (HPY.out _ F1.y F1.by_.2).mono ?_; rintro e wB ⟨rfl, vB, qB, sB⟩
      have F2 := F1.stepy qB sB
      have cd2 := (F2.bw.cell hadb).trans hcell
      clear qB sB
      go_wp2_with fail
      refine hKreg.out _ _ ((by first | exact cd3 | exact cd2 | exact cd1)) (fun hHeld => ?_)
      clear hKreg Kreg
      try simp only [Act.put, List.setIfInBounds_toArray, List.set_cons_zero, List.set_cons_succ]
      refine wpAnyH_ready (rs := [17]) (by kernel_rfl) (by simp) (AllReadyH.cons rfl (fun Kreg hKreg => ?_) AllReadyH.nil)
      go_simp
      refine (HPZ.out _ F2.z F2.bz.2).mono ?_; rintro e wC ⟨rfl, vC, qC, sC⟩
      have F3 := F2.stepz qC sC
      have cd3 := (F3.bw.cell hadb).trans hcell
      clear qC sC
      go_wp2_with fail
      refine hKreg.out _ _ ((by first | exact cd3 | exact cd2 | exact cd1)) (fun hHeld => ?_)
      clear hKreg Kreg
      try simp only [Act.put, List.setIfInBounds_toArray, List.set_cons_zero, List.set_cons_succ]
      refine take1 (i := 18) (d := 13) (v := ?_) rfl (by kernel_rfl) (by kernel_rfl) (by kernel_rfl) rfl (fun _ _ _ h => h) (Or.inl ⟨by rfl, ?_⟩) (by assumption) ?_
      rotate_left
      · (intro w hSw; (try dsimp only at hSw); go_simp); with_reducible rfl
      simp only [List.set_cons_zero, List.set_cons_succ]
      refine take1 (i := 19) (d := 14) (v := ?_) rfl (by kernel_rfl) (by kernel_rfl) (by kernel_rfl) rfl (fun _ _ _ h => h) (Or.inl ⟨by rfl, ?_⟩) (by assumption) ?_
      rotate_left
      · (intro w hSw; (try dsimp only at hSw); go_simp); with_reducible rfl
      simp only [List.set_cons_zero, List.set_cons_succ]
      refine take1 (i := 20) (d := 15) (v := ?_) rfl (by kernel_rfl) (by kernel_rfl) (by kernel_rfl) rfl (fun _ _ _ h => h) (Or.inl ⟨by rfl, ?_⟩) (by assumption) ?_
      rotate_left
      · (intro w hSw; (try dsimp only at hSw); go_simp); with_reducible rfl
      simp only [List.set_cons_zero, List.set_cons_succ]
      refine wpAnyH_done (by kernel_rfl) ?_ _
      have hne : ((er : Int) != (er : Int)) = false := by simp
      have HF3 := Lib.hid F3
      clear FD F1 F2 F3 cd cd1 cd2 cd3 hcell HPX HPY HPZ
      go_wp2_with fail
      go_roundg (n2 - (i + 1))
      case measure => omega
      case rel => exact ⟨i + 1, c', _, _, _, by omega, by go_num, HF3.out, HD2⟩
    · have hk4 : ¬ (i : Int) < (n2 : Int) := by omega
      have hkl : k < c.dirs.length := by have := HD.out; omega
      obtain ⟨tp, htp⟩ : ∃ tp, tp = c.top := ⟨_, rfl⟩
      have htn : n ≤ tp ∧ tp ≤ 200 := by rw [htp]; unfold Ch.top; have := HD.out; omega
      have HTP := Lib.hid (fun W (F : Tri w Bx gx By gy Bz gz c (dropC k c) (dropC k c) ax ay az W) => top_any F.x)
      rw [← htp] at HTP
      have hw1 : IntKind.u64.wrap ((n : Int) + 1) = ((n + 1 : Nat) : Int) := by rw [IntKind.wrap_u64]; omega
      obtain ⟨m1, hm1⟩ : ∃ m1, m1 = n + 1 := ⟨_, rfl⟩
      rw [← hm1] at hw1
      have hw2 : IntKind.u64.wrap ((tp : Int) + 3) = ((tp + 3 : Nat) : Int) := by rw [IntKind.wrap_u64]; omega
      obtain ⟨t3, ht3⟩ : ∃ t3, t3 = tp + 3 := ⟨_, rfl⟩
      rw [← ht3] at hw2
      have hw3 : IntKind.u64.wrap ((t3 : Int) + 2) = ((t3 + 2 : Nat) : Int) := by rw [IntKind.wrap_u64]; omega
      obtain ⟨t5, ht5⟩ : ∃ t5, t5 = t3 + 2 := ⟨_, rfl⟩
      rw [← ht5] at hw3
      have HK := Lib.hid (And.intro hkl (And.intro htp (And.intro hm1 (And.intro ht3 ht5))))
      have HT2 := Lib.hid htn
      have HF := Lib.hid F
      clear hkl htp hm1 ht3 ht5 F htn
      go_wp2_with fail
      go_loopg [16] (t5 + 2 - m1) (fun gk v16 wz => ∃ s : Nat, s + gk = t5 + 2 ∧ m1 ≤ s ∧ v16 = .int .u64 (s : Int) ∧ Tri w Bx gx By gy Bz gz c (dropC k c) (dropC k c) ax ay az wz)
      case atStart => exact ⟨m1, by have := HK.out; have := HT2.out; omega, Nat.le_refl _, rfl, HF.out⟩
      case round =>
        clear HF
        obtain ⟨s, hs, hs1, rfl, F⟩ := hrel
        go_wp2_with fail
        refine (HTP.out wr F).mono ?_; rintro e w12 ⟨rfl, B12⟩
        have F := F.below B12
        clear B12
        by_cases h5 : s ≤ t5
        · have hk5 : (s : Int) ≤ (t5 : Int) := by omega
          have hs0 : s ≠ 0 := by have := HK.out.2.2.1; omega
          have hst : s - 3 ≥ k := by have := HK.out.2.2.1; have := HC.out.2.2.2.1; omega
          have hda := drop_at (k := k) (c := c) HK.out.1 (slot := s) (by have := HD.out.1; omega)
          have hsn := at_snd HD.out.1 hs0
          have HAX := Lib.hid (at_any F.x s (by have := HK.out; have := HT2.out; omega))
          have HAY := Lib.hid (fun W q => at_any (B := By) (g := gy) (c := dropC k c) (v := ay) (w := W) q s (by have := HK.out; have := HT2.out; omega))
          have HAZ := Lib.hid (fun W q => at_any (B := Bz) (g := gz) (c := dropC k c) (v := az) (w := W) q s (by have := HK.out; have := HT2.out; omega))
          rw [hda] at HAY HAZ
          rw [hsn] at HAX HAY HAZ
          have hwk : IntKind.u64.wrap ((s : Int) + 1) = ((s + 1 : Nat) : Int) := by rw [IntKind.wrap_u64]; have := HK.out; have := HT2.out; omega
          have hle : (decide ((s : Int) ≤ (t3 : Int))) = decide (s ≤ c.top + 3) := by
            have h1 := HK.out.2.1
            have h2 := HK.out.2.2.2.1
            by_cases h : s ≤ c.top + 3
            · rw [decide_eq_true h]; exact decide_eq_true (by omega)
            · rw [decide_eq_false h]; exact decide_eq_false (by omega)
          have hle2 : (decide (s ≤ t3)) = decide (s ≤ c.top + 3) := by
            have h1 := HK.out.2.1
            have h2 := HK.out.2.2.2.1
            rw [h2, h1]
          generalize (c.at_ s).1 = av at *
          generalize decide (s ≤ c.top + 3) = bb at *
          have hne : ((av : Int) != (av : Int)) = false := by simp
          have hnb : (bb != bb) = false := by cases bb <;> rfl
          clear hda hsn hs0 hst
          go_wp2_with fail
          refine HAX.out.mono ?_; rintro e w13 ⟨rfl, B13⟩
          have F := F.below B13
          clear HAX B13
          go_wp2_with fail
          refine (HAY.out w13 F.y).mono ?_; rintro e w14 ⟨rfl, B14⟩
          have F := F.below B14
          clear HAY B14
          go_wp2_with fail
          refine (HAZ.out w14 F.z).mono ?_; rintro e w15 ⟨rfl, B15⟩
          have F := F.below B15
          clear HAZ B15
          go_wp2_with fail
          refine (HTP.out w15 F).mono ?_; rintro e w16 ⟨rfl, B16⟩
          have F := F.below B16
          clear B16
          have HF := Lib.hid F
          clear F
          go_wp2_with fail
          go_roundg (t5 + 1 - s)
          case measure => omega
          case rel => exact ⟨s + 1, by omega, by omega, rfl, HF.out⟩
        · have hk5 : ¬ (s : Int) ≤ (t5 : Int) := by omega
          have HTY := Lib.hid (fun W q => top_any (B := By) (g := gy) (c := dropC k c) (v := ay) (w := W) q)
          have HTZ := Lib.hid (fun W q => top_any (B := Bz) (g := gz) (c := dropC k c) (v := az) (w := W) q)
          rw [drop_top HK.out.1, ← HK.out.2.1] at HTY HTZ
          have HAX := Lib.hid (fun W q => tail_any (B := Bx) (g := gx) (c := c) (v := ax) (w := W) q)
          have HAY := Lib.hid (fun W q => tail_any (B := By) (g := gy) (c := dropC k c) (v := ay) (w := W) q)
          have htd : (dropC k c).tail = c.tail := drop_tail (by have := HC.out.2.2.2.1; have := HD.out; omega)
          rw [htd] at HAY
          generalize Byt.by8 c.tail = tb at HAX HAY
          obtain ⟨m40, hm40⟩ : ∃ m, m = n + 40 := ⟨_, rfl⟩
          have hw4 : IntKind.u64.wrap ((n : Int) + 40) = (m40 : Int) := by rw [IntKind.wrap_u64]; omega
          have HSX := Lib.hid (fun W q => span_any (B := Bx) (g := gx) (c := c) (v := ax) (w := W) q m1 m40 (by have := HK.out; omega))
          have HSY := Lib.hid (fun W q => span_any (B := By) (g := gy) (c := dropC k c) (v := ay) (w := W) q m1 m40 (by have := HK.out; omega))
          have hsp : (dropC k c).span m1 m40 = c.span m1 m40 := span_ext fun slot h1 _ => drop_at HK.out.1 (by have := HK.out.2.2.1; have := HC.out.2.2.2.1; have := HD.out.1; omega)
          rw [hsp] at HSY
          generalize c.span m1 m40 = sp at HSX HSY
          clear htd hsp hm40
          go_wp2_with fail
          refine (HTP.out w12 F).mono ?_; rintro e w13 ⟨rfl, B13⟩
          have F := F.below B13
          clear B13
          go_wp2_with fail
          refine (HTY.out w13 F.y).mono ?_; rintro e w14 ⟨rfl, B14⟩
          have F := F.below B14
          clear B14
          go_wp2_with fail
          refine (HTP.out w14 F).mono ?_; rintro e w15 ⟨rfl, B15⟩
          have F := F.below B15
          clear B15
          go_wp2_with fail
          refine (HTZ.out w15 F.z).mono ?_; rintro e w16 ⟨rfl, B16⟩
          have F := F.below B16
          clear B16
          go_wp2_with fail
          refine (HAX.out w16 F.x).mono ?_; rintro e w17 ⟨rfl, B17⟩
          have F := F.below B17
          clear B17
          go_wp2_with fail
          refine (HAY.out w17 F.y).mono ?_; rintro e w18 ⟨rfl, B18⟩
          have F := F.below B18
          clear B18
          go_wp2_with fail
          refine (HSX.out w18 F.x).mono ?_; rintro e w19 ⟨rfl, B19⟩
          have F := F.below B19
          clear B19
          go_wp2_with fail
          refine (HSY.out w19 F.y).mono ?_; rintro e w20 ⟨rfl, B20⟩
          have F := F.below B20
          clear B20
          have bw := F.bw
          clear F
          go_wp2_with fail
          refine (wakes_any _).mono ?_; rintro e w9 ⟨rfl, B9⟩
          have bz := bw.trans (B9.mono bw.size)
          go_wp2_with fail
          go_ret
          exact ⟨rfl, bz⟩
end Go.Proofs.Ytbamfnlgapchkaa.Chn
