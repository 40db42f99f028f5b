/- The reference of a chain, walked: Release. Conditions: the lists can be read. -/
import Derived.Test.YtbamfnlgapchkaaChDuo
import Derived.Test.YtbamfnlgapchkaaChRTail
namespace Go.Proofs.Ytbamfnlgapchkaa.Chn
open Go.RowKit Mem DrawInv

def dropJ (k : Nat) (c : Ch) : Ch := ⟨c.low + k, c.dirs.drop k⟩
theorem rel_drop {c : Ch} {b : Nat} (h : ¬ c.top < b) : c.release b = (dropJ (b - 2 - c.low) c, 0) := by
  unfold Ch.release dropJ
  rw [if_neg h]
  by_cases h2 : c.low < b - 2
  · rw [if_pos h2]
    congr 2
    omega
  · rw [if_neg h2, show b - 2 - c.low = 0 by omega]
    rfl
theorem FromA.cut {w : World} {A A' : Option Addr} (h : FromA w A A') (l k : Nat) : FromA w A (cut1 A' l k) := by
  unfold cut1
  split
  · exact h
  · intro ad he
    cases A' with
    | none => cases he
    | some a =>
      obtain rfl := Option.some.inj he
      rw [block_of_add]
      exact h a rfl
set_option linter.unusedSimpArgs false in
set_option linter.unusedVariables false in
set_option maxRecDepth 100000 in
set_option maxHeartbeats 2000000 in
theorem rrel_any (c : Ch) (hc : c.Ok) (b : Nat) (hb64 : b < 18446744073709551616) (A : Option Addr) (u : Value) (w : World) (h : RefC w c A u) : Calls Try.prog 31 #[u, .int .u64 (b : Int)] w fun e w' => RRet w A (c.release b).1 (c.release b).2 e w' ∧ Below w.heap.size w w' := by
  have HT := Lib.hid (fun (W : World) (hb : Below w.heap.size w W) => rtop_any c hc.ne hc.up hc.len A u W (h.below hb))
  have HRC := Lib.hid h
  obtain ⟨cp, rfl, hcp, hr⟩ := h
  obtain ⟨n, hn⟩ : ∃ n, n = c.dirs.length := ⟨_, rfl⟩
  have hn1 : n ≤ 1000 := by rw [hn]; exact hc.len
  have hn0 : 0 < n := by rw [hn]; exact hc.ne
  have hup := hc.up
  rw [← hn] at HT HRC hcp hr ⊢
  obtain ⟨lo, hlo⟩ : ∃ lo, lo = c.low := ⟨_, rfl⟩
  rw [← hlo] at HT HRC ⊢
  obtain ⟨tp, htp⟩ : ∃ tp, tp = c.top := ⟨_, rfl⟩
  have htn : tp + 1 = lo + n := by rw [htp, hlo, hn]; unfold Ch.top; have := hc.ne; omega
  rw [← htp] at HT hup
  obtain ⟨gx, hgx⟩ : ∃ g, g = w.heap.size := ⟨_, rfl⟩
  obtain ⟨ga, hga⟩ : ∃ g, g = w.heap.size + 1 := ⟨_, rfl⟩
  obtain ⟨wA, hwA⟩ : ∃ wA, wA = (w.alloc (.cells #[.int .u64 (lo : Int), .slice A n cp] 36)).alloc (.cells #[.int .u64 0, .slice none 0 0] 36) := ⟨_, rfl⟩
  have hs1 : (w.alloc (.cells #[.int .u64 (lo : Int), .slice A n cp] 36)).heap.size = ga := by rw [hga, World.alloc, Array.size_push]
  have kx := (Blk.new w 36 #[.int .u64 (lo : Int), .slice A n cp]).alloc (.cells #[.int .u64 0, .slice none 0 0] 36)
  have ka := Blk.new (w.alloc (.cells #[.int .u64 (lo : Int), .slice A n cp] 36)) 36 #[.int .u64 0, .slice none 0 0]
  have bw : Below w.heap.size w ((w.alloc (.cells #[.int .u64 (lo : Int), .slice A n cp] 36)).alloc (.cells #[.int .u64 0, .slice none 0 0] 36)) := ((Below.refl _ w).alloc (Nat.le_refl _) _).alloc (by rw [hs1, hga]; omega) _
  rw [hs1, ← hwA] at ka
  rw [← hgx, ← hwA] at kx
  rw [← hwA] at bw
  have hgl : w.heap.size ≤ ga := by omega
  have hgn : gx ≠ ga := by omega
  have HLO := Lib.hid hlo
  have HNN := Lib.hid hn
  clear hs1 hlo hn
  have x0 := kx.cell 0
  have x1 := kx.cell 1
  have HT1 := Lib.hid (HT.out wA bw)
  by_cases h7 : tp < b
  · have hp : c.release b = (c, 13) := by unfold Ch.release; rw [if_pos (by rw [← htp]; exact h7)]
    rw [hp]
    have h7i : (tp : Int) < (b : Int) := by omega
    have HQ : Hid (∀ w', Below w.heap.size w w' → RRet w A c 13 (.returned (.tuple #[.agg #[.int .u64 (lo : Int), .slice A n cp], .int .i64 (13 : Nat)])) w') := fun w' hb => ⟨_, _, rfl, HRC.out.below hb, FromA.refl _ _⟩
    clear hp hr hgn hcp HT h7 htp htn hup hb64 hn0 hn1
    go_enter Try.func31, Try.ntmps31
    go_upto_region 1 with fail
    rw [← hwA, ← hga, ← hgx]
    clear hwA hga hgx
    go_wp2_with fail
    refine HT1.out.mono ?_; rintro e w2 ⟨rfl, B2⟩
    have ka2 := ka.below B2 ka.lt
    have kx2 := kx.below B2 kx.lt
    have bw2 := bw.trans (B2.mono bw.size)
    obtain ⟨w3, hst, k3, hg3⟩ := st_rc ka2 rfl (lo : Int) A n cp
    have b3 := bw2.grown hg3 bw2.size (fun k hk => by cases hk; exact hgl)
    have HLD := Lib.hid (blk_loadVar (P := Try.prog) (ty := 36) k3 Try.underlying36 rfl size_rc)
    have HQ2 := Lib.hid (HQ.out w3 b3)
    clear x0 x1
    have x0 := kx2.cell 0
    have x1 := kx2.cell 1
    clear ka k3 hg3 HT1 kx bw hgl B2 ka2 kx2 bw2 HQ
    go_wp2_with (refine wpList_store (by rfl) (.tmp 4) (.tmp 10) (by rfl) (by rfl) (by rfl) hst ?_)
    exact bodyPost_ret (v := .tuple #[.agg #[.int .u64 (lo : Int), .slice A n cp], .int .i64 13]) (by simp [results, Try.results31, asAddr, HLD.out]) rfl ⟨HQ2.out, b3⟩
  have hp := rel_drop (c := c) (b := b) (by rw [← htp]; exact h7)
  rw [← HLO.out] at hp
  obtain ⟨d, hd⟩ : ∃ d, d = b - 2 - lo := ⟨_, rfl⟩
  rw [← hd] at hp
  rw [hp]
  have hdn : d < n := by omega
  have h7i : ¬ (tp : Int) < (b : Int) := by omega
  have HD := Lib.hid hd
  have HU : Hid (b ≤ tp ∧ tp ≤ 4611686018427387904) := ⟨by omega, hup⟩
  have HTN := Lib.hid htn
  have HRD := Lib.hid (And.intro hr hcp)
  have HGL := Lib.hid (And.intro hgl hgn)
  have HGX : Hid (w.heap.size ≤ gx) := by rw [hgx]; exact Nat.le_refl _
  clear hp hd htp htn hr hcp HT h7 hup
  go_enter Try.func31, Try.ntmps31
  go_upto_region 1 with fail
  rw [← hwA, ← hga, ← hgx]
  clear hwA hga hgx
  go_wp2_with fail
  refine HT1.out.mono ?_; rintro e w2 ⟨rfl, B2⟩
  have ka2 := ka.below B2 ka.lt
  have kx2 := kx.below B2 kx.lt
  have bw2 := bw.trans (B2.mono bw.size)
  clear x0 x1 ka kx bw B2 HT1 hgl hgn
  go_wp2_with fail
  clear h7i
  go_loopg [] d (fun gk wr => ∃ (j : Nat) (A' : Option Addr) (k' : Nat), j + gk = d ∧ Blk wr gx 36 #[.int .u64 ((lo + j : Nat) : Int), .slice A' (n - j) k'] ∧ Blk wr ga 36 #[.int .u64 0, .slice none 0 0] ∧ Hid (n - j ≤ k') ∧ Hid (Reads w w.heap.size 1 A' (n - j) ((c.dirs.drop j).map u8v)) ∧ Hid (FromA w A A') ∧ Below w.heap.size w wr)
  case atStart => exact ⟨0, A, cp, by omega, kx2, ka2, HRD.out.2, HRD.out.1, FromA.refl _ _, bw2⟩
  case round =>
    clear kx2 ka2 bw2
    obtain ⟨j, A', k', hj, kx, ka, HK, HRJ, HFA, bw⟩ := hrel
    obtain ⟨lj, hlj⟩ : ∃ l, l = lo + j := ⟨_, rfl⟩
    obtain ⟨mj, hmj⟩ : ∃ m, m = n - j := ⟨_, rfl⟩
    rw [← hlj, ← hmj] at kx
    rw [← hmj] at HK HRJ
    have x0 := kx.cell 0
    have x1 := kx.cell 1
    by_cases h4 : j < d
    · have h3b : 3 ≤ b := by have := HD.out; omega
      have h3i : (3 : Int) ≤ (b : Int) := by omega
      obtain ⟨b2, hb2⟩ : ∃ x, x = b - 2 := ⟨_, rfl⟩
      have hw1 : IntKind.u64.wrap ((b : Int) - 2) = (b2 : Int) := by rw [IntKind.wrap_u64]; omega
      have hlt : (lj : Int) < (b2 : Int) := by have := HD.out; omega
      have hlt2 : lj < b2 := by omega
      obtain ⟨l2, hl2⟩ : ∃ x, x = lj + 1 := ⟨_, rfl⟩
      have hw2 : IntKind.u64.wrap ((lj : Int) + 1) = (l2 : Int) := by rw [IntKind.wrap_u64]; have := HU.out; omega
      have hmj1 : 1 ≤ mj := by omega
      have h25 : ∀ W, (Instr.slice 22 (.slice A' mj k') (some (.int .i64 1)) none none).run Try.prog W = .ok (.slice (cut1 A' 1 k') (mj - 1) (k' - 1)) W := fun W => slb_from A' mj k' 1 hmj1 HK.out W
      go_upto_region 4 with fail
      obtain ⟨wN, hst, kN, hgN⟩ := st_rc kx.drew rfl (l2 : Int) (cut1 A' 1 k') (mj - 1) (k' - 1)
      have kaN : Blk wN ga 36 #[.int .u64 0, .slice none 0 0] := ka.drew.grown hgN (fun h => HGL.out.2 (Option.some.inj h).symm)
      have bN := bw.drew.grown hgN bw.drew.size (fun k hk => by cases hk; exact HGX.out)
      have hrN : Reads w w.heap.size 1 (cut1 A' 1 k') (mj - 1) ((c.dirs.drop (j + 1)).map u8v) := by
        have := cutb_reads (l := 1) HRJ.out hmj1 HK.out
        rw [List.drop_drop] at this
        exact this
      have hl1 := ld_lo kx.drew
      have hl2' := ld_row kx.drew
      have HN : Hid (Blk wN gx 36 #[.int .u64 ((lo + (j + 1) : Nat) : Int), .slice (cut1 A' 1 k') (n - (j + 1)) (k' - 1)] ∧ Reads w w.heap.size 1 (cut1 A' 1 k') (n - (j + 1)) ((c.dirs.drop (j + 1)).map u8v) ∧ n - (j + 1) ≤ k' - 1) := by
        have e1 : lo + (j + 1) = l2 := by omega
        have e2 : n - (j + 1) = mj - 1 := by omega
        rw [e1, e2]
        exact ⟨kN, hrN, by have := HK.out; omega⟩
      have HKN := Lib.hid (And.intro kaN bN)
      clear kx ka bw x0 x1 kN hgN kaN bN hrN h3b h3i hlt hlt2 hw1 hb2 hl2 hlj hmj
      refine wp_region_held_drew (S := (fun _ : World => True)) (by kernel_rfl) (trivial) (fun hHeld => ?_)
      refine take1 (i := 0) (d := 20) (v := ?_) rfl (by kernel_rfl) (by kernel_rfl) (by kernel_rfl) rfl (fun _ _ _ h => h) (Or.inl ⟨by rfl, ?_⟩) (by assumption) ?_
      rotate_left
      · (intro w hSw; (try dsimp only at hSw); go_simp); with_reducible rfl
      simp only [List.set_cons_zero, List.set_cons_succ]
      refine take1 (i := 3) (d := 23) (v := ?_) rfl (by kernel_rfl) (by kernel_rfl) (by kernel_rfl) rfl (fun _ _ _ h => h) (Or.inl ⟨by rfl, ?_⟩) (by assumption) ?_
      rotate_left
      · (intro w hSw; (try dsimp only at hSw); go_simp); with_reducible rfl
      simp only [List.set_cons_zero, List.set_cons_succ]
      refine wpAnyH_ready (rs := [1, 4]) (by kernel_rfl) (by simp) (AllReadyH.cons rfl (fun Kreg hKreg => ?_) (AllReadyH.cons rfl (fun Kreg hKreg => ?_) AllReadyH.nil))
      · refine step_load (by rfl) (.tmp 20) (by rfl) (by rfl) hl1 ?_
        refine hKreg.out _ _ (trivial) (fun hHeld => ?_)
        clear hKreg Kreg
        refine wpAnyH_put (d := 21) (by rfl) ?_
        simp only [List.set_cons_zero, List.set_cons_succ]
        refine take1 (i := 2) (d := 22) (v := ?_) rfl (by kernel_rfl) (by kernel_rfl) (by kernel_rfl) rfl (fun _ _ _ h => h) (Or.inl ⟨by rfl, ?_⟩) (by assumption) ?_
        rotate_left
        · (intro w hSw; (try dsimp only at hSw); go_simp); with_reducible rfl
        simp only [List.set_cons_zero, List.set_cons_succ]
        refine wpAnyH_ready (rs := [4]) (by kernel_rfl) (by simp) (AllReadyH.cons rfl (fun Kreg hKreg => ?_) AllReadyH.nil)
        refine step_load (by rfl) (.tmp 23) (by rfl) (by rfl) hl2' ?_
        refine hKreg.out _ _ (trivial) (fun hHeld => ?_)
        clear hKreg Kreg
        refine wpAnyH_put (d := 24) (by rfl) ?_
        simp only [List.set_cons_zero, List.set_cons_succ]
        refine take1 (i := 5) (d := 25) (v := ?_) rfl (by kernel_rfl) (by kernel_rfl) (by kernel_rfl) rfl (fun _ _ _ h => h) (Or.inl ⟨by rfl, ?_⟩) (by assumption) ?_
        rotate_left
        · (intro w hSw; (try dsimp only at hSw); go_simp); with_reducible rfl
        simp only [List.set_cons_zero, List.set_cons_succ]
        refine take1 (i := 6) (d := 26) (v := ?_) rfl (by kernel_rfl) (by kernel_rfl) (by kernel_rfl) rfl (fun _ _ _ h => h) (Or.inl ⟨by rfl, ?_⟩) (by assumption) ?_
        rotate_left
        · (intro w hSw; (try dsimp only at hSw); go_simp); with_reducible rfl
        simp only [List.set_cons_zero, List.set_cons_succ]
        refine wpAnyH_ready (rs := [7]) (by kernel_rfl) (by simp) (AllReadyH.cons rfl (fun Kreg hKreg => ?_) AllReadyH.nil)
        refine step_store (by rfl) (.tmp 2) (.tmp 26) (by rfl) (by rfl) (by rfl) hst ?_
        refine hKreg.out _ _ (trivial) (fun hHeld => ?_)
        clear hKreg Kreg
        try simp only [Act.put, List.setIfInBounds_toArray, List.set_cons_zero, List.set_cons_succ]
        refine wpAnyH_done (by kernel_rfl) ?_ _
        go_wp2_with fail
        go_roundg (d - (j + 1))
        case measure => omega
        case rel => exact ⟨j + 1, cut1 A' 1 k', k' - 1, by omega, HN.out.1, HKN.out.1, HN.out.2.2, HN.out.2.1, HFA.out.cut _ _, HKN.out.2⟩
      · refine step_load (by rfl) (.tmp 23) (by rfl) (by rfl) hl2' ?_
        refine hKreg.out _ _ (trivial) (fun hHeld => ?_)
        clear hKreg Kreg
        refine wpAnyH_put (d := 24) (by rfl) ?_
        simp only [List.set_cons_zero, List.set_cons_succ]
        refine take1 (i := 5) (d := 25) (v := ?_) rfl (by kernel_rfl) (by kernel_rfl) (by kernel_rfl) rfl (fun _ _ _ h => h) (Or.inl ⟨by rfl, ?_⟩) (by assumption) ?_
        rotate_left
        · (intro w hSw; (try dsimp only at hSw); go_simp); with_reducible rfl
        simp only [List.set_cons_zero, List.set_cons_succ]
        refine wpAnyH_ready (rs := [1]) (by kernel_rfl) (by simp) (AllReadyH.cons rfl (fun Kreg hKreg => ?_) AllReadyH.nil)
        refine step_load (by rfl) (.tmp 20) (by rfl) (by rfl) hl1 ?_
        refine hKreg.out _ _ (trivial) (fun hHeld => ?_)
        clear hKreg Kreg
        refine wpAnyH_put (d := 21) (by rfl) ?_
        simp only [List.set_cons_zero, List.set_cons_succ]
        refine take1 (i := 2) (d := 22) (v := ?_) rfl (by kernel_rfl) (by kernel_rfl) (by kernel_rfl) rfl (fun _ _ _ h => h) (Or.inl ⟨by rfl, ?_⟩) (by assumption) ?_
        rotate_left
        · (intro w hSw; (try dsimp only at hSw); go_simp); with_reducible rfl
        simp only [List.set_cons_zero, List.set_cons_succ]
        refine take1 (i := 6) (d := 26) (v := ?_) rfl (by kernel_rfl) (by kernel_rfl) (by kernel_rfl) rfl (fun _ _ _ h => h) (Or.inl ⟨by rfl, ?_⟩) (by assumption) ?_
        rotate_left
        · (intro w hSw; (try dsimp only at hSw); go_simp); with_reducible rfl
        simp only [List.set_cons_zero, List.set_cons_succ]
        refine wpAnyH_ready (rs := [7]) (by kernel_rfl) (by simp) (AllReadyH.cons rfl (fun Kreg hKreg => ?_) AllReadyH.nil)
        refine step_store (by rfl) (.tmp 2) (.tmp 26) (by rfl) (by rfl) (by rfl) hst ?_
        refine hKreg.out _ _ (trivial) (fun hHeld => ?_)
        clear hKreg Kreg
        try simp only [Act.put, List.setIfInBounds_toArray, List.set_cons_zero, List.set_cons_succ]
        refine wpAnyH_done (by kernel_rfl) ?_ _
        go_wp2_with fail
        go_roundg (d - (j + 1))
        case measure => omega
        case rel => exact ⟨j + 1, cut1 A' 1 k', k' - 1, by omega, HN.out.1, HKN.out.1, HN.out.2.2, HN.out.2.1, HFA.out.cut _ _, HKN.out.2⟩

    · obtain rfl : d = j := by omega
      obtain ⟨w3, hst, k3, hg3⟩ := st_rc ka rfl (lj : Int) A' mj k'
      have b3 := bw.grown hg3 bw.size (fun k hk => by cases hk; exact HGL.out.1)
      have HLD := Lib.hid (blk_loadVar (P := Try.prog) (ty := 36) k3 Try.underlying36 rfl size_rc)
      have HQ : Hid (RRet w A (dropJ d c) 0 (.returned (.tuple #[.agg #[.int .u64 (lj : Int), .slice A' mj k'], .int .i64 (0 : Nat)])) w3) := by
        have e1 : lj = (dropJ d c).low := by rw [hlj, HLO.out]; rfl
        have e2 : mj = (dropJ d c).dirs.length := by rw [hmj, HNN.out]; unfold dropJ; simp
        rw [e2] at HRJ HK
        rw [e1, e2]
        exact ⟨A', _, rfl, ⟨k', rfl, HK.out, (HRJ.out.below b3).more b3.size⟩, HFA.out⟩
      by_cases h3 : 3 ≤ b
      · have h3i : (3 : Int) ≤ (b : Int) := by omega
        obtain ⟨b2, hb2⟩ : ∃ x, x = b - 2 := ⟨_, rfl⟩
        have hw1 : IntKind.u64.wrap ((b : Int) - 2) = (b2 : Int) := by rw [IntKind.wrap_u64]; omega
        have hlt : ¬ (lj : Int) < (b2 : Int) := by have := HD.out; omega
        have hlt2 : ¬ lj < b2 := by omega
        clear hb2 hlj hmj h4 kx ka k3 hg3 bw
        go_wp2_with (refine wpList_store (by rfl) (.tmp 4) (.tmp 27) (by rfl) (by rfl) (by rfl) hst ?_)
        exact bodyPost_ret (v := .tuple #[.agg #[.int .u64 (lj : Int), .slice A' mj k'], .int .i64 0]) (by simp [results, Try.results31, asAddr, HLD.out]) rfl ⟨HQ.out, b3⟩
      · have h3i : ¬ (3 : Int) ≤ (b : Int) := by omega
        clear hlj hmj h4 kx ka k3 hg3 bw
        go_wp2_with (refine wpList_store (by rfl) (.tmp 4) (.tmp 27) (by rfl) (by rfl) (by rfl) hst ?_)
        exact bodyPost_ret (v := .tuple #[.agg #[.int .u64 (lj : Int), .slice A' mj k'], .int .i64 0]) (by simp [results, Try.results31, asAddr, HLD.out]) rfl ⟨HQ.out, b3⟩
end Go.Proofs.Ytbamfnlgapchkaa.Chn
