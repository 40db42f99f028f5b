/- The reference of a chain, walked: Of. Conditions: those each law names. -/
import Derived.Test.YtbamfnlgapchkaaChRefB
import Derived.Test.YtbamfnlgapchkaaChY
namespace Go.Proofs.Ytbamfnlgapchkaa.Chn
open Go.RowKit Mem DrawInv

/-- One byte behind a list: its own row, then the list. -/
theorem app_one {w : World} {B n : Nat} {v : Value} {xs : List Nat} (ho : w.ownsRow B 5 1 v n (xs.map u8v)) (hB : B ≤ w.heap.size) (hn : n ≤ 1000) (s : Nat) :
    ∃ g wz A2 k2 w2, (Instr.buildSlice 22 1 #[(0, .int .u8 (s : Int))]).run Try.prog w = .ok (.slice (some ⟨g, 0, none⟩) 1 1) wz ∧
      (Builtin.append_ #[22, 22] 22 #[v, .slice (some ⟨g, 0, none⟩) 1 1]).run Try.prog wz = .ok (.slice A2 (n + 1) k2) w2 ∧
      w2.ownsRow B 5 1 (.slice A2 (n + 1) k2) (n + 1) ((xs ++ [s]).map u8v) ∧ Below B w w2 ∧ Below B w wz := by
  have b0 : Below w.heap.size w (w.alloc (.cells #[.int .u8 (s : Int)] 5)) := (Below.refl _ w).alloc (Nat.le_refl _) _
  have ho1 := own1_below ho b0 (fun g hg => (ho.lt g hg).2)
  have b1 := b0.mono hB
  obtain ⟨v2, w2, happ, ho2, b2, _⟩ := app_b ho1 (Nat.le_trans hB b0.size) (by omega) (c := 1) (one_row w s) (by omega)
  obtain ⟨A2, k2, rfl, _, _⟩ := Byt.own_slice1 ho2
  exact ⟨_, _, A2, k2, w2, build_b s w, happ, ho2, b1.trans b2, b1⟩
theorem st_row {w : World} {g : Nat} {lo : Int} {v : Value} (hg : Blk w g 36 #[.int .u64 lo, v]) (A : Option Addr) (n k : Nat) : ∃ w', (Instr.storeAt 22 (.pointer (some ⟨g, 1, none⟩)) (.slice A n k)).run Try.prog w = .ok () w' ∧ Blk w' g 36 #[.int .u64 lo, .slice A n k] ∧ w.grownBy w' (some g) := by
  have c1 := hg.cell 1
  have f1 := hg.frozen 1
  refine ⟨_, by go_simp, hg.set_ 1 _, only_setCell (World.grownBy.refl _ _) (.inl rfl) _⟩
/-- What Of hands back. -/
def OfRR (w : World) (top : Nat) (tail : List Nat) (e : Ending) (w' : World) : Prop := (ofOk top tail = true ∧ RRet w none (ofCh top tail) 0 e w') ∨ (ofOk top tail = false ∧ e = .returned (.tuple #[.agg #[.int .u64 0, .slice none 0 0], .int .i64 2]))
set_option linter.unusedSimpArgs false in
set_option linter.unusedVariables false in
set_option maxRecDepth 100000 in
set_option maxHeartbeats 2000000 in
theorem rof_any (top : Nat) (ht64 : top < 18446744073709551616) (t8 : List UInt8) (hl8 : t8.length ≤ 9223372036854775807) (w : World) : Calls Try.prog 20 #[.int .u64 (top : Int), .string ⟨t8.toArray⟩] w fun e w' => OfRR w top (t8.map UInt8.toNat) e w' ∧ Below w.heap.size w w' := by
  have hsz := Byt.size_str t8
  obtain ⟨t, ht⟩ : ∃ t, t = t8.map UInt8.toNat := ⟨_, rfl⟩
  have htl : t.length = t8.length := by rw [ht, List.length_map]
  rw [← ht]
  obtain ⟨n, hn⟩ : ∃ n, n = t8.length := ⟨_, rfl⟩
  rw [← hn] at hsz htl hl8
  obtain ⟨m, hm⟩ : ∃ m, m = min (top + 1) 3 := ⟨_, rfl⟩
  have HM := Lib.hid hm
  obtain ⟨g4, hg4⟩ : ∃ g, g = w.heap.size := ⟨_, rfl⟩
  obtain ⟨wA, hwA⟩ : ∃ wA, wA = w.alloc (.cells #[.int .u64 0, .slice none 0 0] 36) := ⟨_, rfl⟩
  have k4 := Blk.new w 36 #[.int .u64 0, .slice none 0 0]
  have bw : Below w.heap.size w (w.alloc (.cells #[.int .u64 0, .slice none 0 0] 36)) := (Below.refl _ w).alloc (Nat.le_refl _) _
  have hsA : (w.alloc (.cells #[.int .u64 0, .slice none 0 0] 36)).heap.size = g4 + 1 := by rw [hg4, World.alloc, Array.size_push]
  rw [← hwA] at k4 bw hsA
  rw [← hg4] at k4
  have HSA := Lib.hid hsA
  have HG4 := Lib.hid hg4
  have HTL := Lib.hid htl
  have HT := Lib.hid ht
  have H64 := Lib.hid ht64
  have HN := Lib.hid hn
  clear hm hsA ht htl ht64 hn
  go_enter Try.func20, Try.ntmps20
  go_upto_if 10 with fail
  rw [← hwA, ← hg4]
  clear hwA hg4
  go_cut [6] (fun s6 wx => s6 = .int .i64 (m : Int) ∧ wx = wA)
  case first =>
    clear k4 bw hsz hl8
    by_cases h2 : top < 2
    · have h2i : (top : Int) < 2 := by omega
      have hw1 : IntKind.i64.wrap (top : Int) = (top : Int) := by rw [IntKind.wrap_i64]; omega
      have hz : Hid ((top : Int) + 1 = (m : Int)) := by show _ = _; rw [HM.out]; omega
      go_wp2_with fail
      go_meet
      exact ⟨by rw [hz.out], rfl⟩
    · have h2i : ¬ (top : Int) < 2 := by omega
      have hz : Hid ((3 : Int) = (m : Int)) := by show _ = _; rw [HM.out]; omega
      go_wp2_with fail
      go_meet
      exact ⟨by rw [hz.out], rfl⟩
  case rest =>
    obtain ⟨rfl, rfl⟩ := hcut
    by_cases h1 : 4611686018427387904 < top
    · have h1i : ((4611686018427387904 : Int) < (top : Int)) = True := eq_true (by omega)
      have hno : ofOk top t = false := by unfold ofOk; rw [decide_eq_false (by omega)]; rfl
      have HQ : Hid (∀ w', OfRR w top t (.returned (.tuple #[.agg #[.int .u64 0, .slice none 0 0], .int .i64 2])) w') := fun w' => .inr ⟨hno, rfl⟩
      clear h1 hno hl8
      obtain ⟨w3, hst, k3, hg3⟩ := st_rc k4 rfl 0 none 0 0
      have b3 := bw.grown hg3 bw.size (fun k hk => by cases hk; have := HG4.out; omega)
      have HLD := Lib.hid (blk_loadVar (P := Try.prog) (ty := 36) k3 Try.underlying36 rfl size_rc)
      clear k3 hg3 k4 bw
      go_wp2_with (refine wpList_store (by rfl) (.tmp 4) (.tmp 22) (by rfl) (by rfl) (by rfl) hst ?_)
      exact bodyPost_ret (v := .tuple #[.agg #[.int .u64 0, .slice none 0 0], .int .i64 2]) (by simp [results, Try.results20, asAddr, HLD.out]) rfl ⟨HQ.out _, b3⟩
    have h1i : ((4611686018427387904 : Int) < (top : Int)) = False := eq_false (by omega)
    by_cases h2 : n = m
    rotate_left
    · have h2i : ((n : Int) != (m : Int)) = true := by rw [bne_iff_ne]; omega
      have hno : ofOk top t = false := by unfold ofOk; rw [decide_eq_false (by rw [HTL.out, ← HM.out]; omega)]; rfl
      have HQ : Hid (∀ w', OfRR w top t (.returned (.tuple #[.agg #[.int .u64 0, .slice none 0 0], .int .i64 2])) w') := fun w' => .inr ⟨hno, rfl⟩
      clear h1 hno h2 hl8
      obtain ⟨w3, hst, k3, hg3⟩ := st_rc k4 rfl 0 none 0 0
      have b3 := bw.grown hg3 bw.size (fun k hk => by cases hk; have := HG4.out; omega)
      have HLD := Lib.hid (blk_loadVar (P := Try.prog) (ty := 36) k3 Try.underlying36 rfl size_rc)
      clear k3 hg3 k4 bw
      go_wp2_with (refine wpList_store (by rfl) (.tmp 4) (.tmp 22) (by rfl) (by rfl) (by rfl) hst ?_)
      exact bodyPost_ret (v := .tuple #[.agg #[.int .u64 0, .slice none 0 0], .int .i64 2]) (by simp [results, Try.results20, asAddr, HLD.out]) rfl ⟨HQ.out _, b3⟩
    subst h2
    have h2i : ((n : Int) != (n : Int)) = false := by simp
    have hn3 : n ≤ 3 := by have := HM.out; omega
    have hn0 : n ≤ top + 1 := by have := HM.out; omega
    have hw1 : IntKind.u64.wrap ((top : Int) + 1) = (top : Int) + 1 := by rw [IntKind.wrap_u64]; omega
    have hwn : IntKind.u64.wrap (n : Int) = (n : Int) := by rw [IntKind.wrap_u64]; omega
    obtain ⟨lw, hlw⟩ : ∃ lw, lw = top + 1 - n := ⟨_, rfl⟩
    have hw2 : IntKind.u64.wrap ((top : Int) + 1 - (n : Int)) = (lw : Int) := by rw [IntKind.wrap_u64]; omega
    have hok : ofOk top t = t.all dirB := by unfold ofOk; rw [decide_eq_true (by rw [HTL.out, ← HM.out]; omega)]; rfl
    have hch : ofCh top t = ⟨lw, t⟩ := by unfold ofCh; rw [HTL.out, ← hlw]
    have HOK := Lib.hid hok
    have HCH := Lib.hid hch
    obtain ⟨g7, hg7⟩ : ∃ g, g = wc.heap.size := ⟨_, rfl⟩
    have k7 := Blk.new wc 36 #[.int .u64 0, .slice none 0 0]
    have bA : Below wc.heap.size wc (wc.alloc (.cells #[.int .u64 0, .slice none 0 0] 36)) := (Below.refl _ wc).alloc (Nat.le_refl _) _
    have hsB : (wc.alloc (.cells #[.int .u64 0, .slice none 0 0] 36)).heap.size = g4 + 2 := by rw [World.alloc, Array.size_push, HSA.out]
    have k4 := k4.below bA k4.lt
    have bw := bw.trans (bA.mono bw.size)
    obtain ⟨wB, hwB⟩ : ∃ wB, wB = wc.alloc (.cells #[.int .u64 0, .slice none 0 0] 36) := ⟨_, rfl⟩
    rw [← hwB] at k7 hsB k4 bw
    rw [← hg7] at k7
    have h47 : g7 = g4 + 1 := by rw [hg7]; exact HSA.out
    obtain ⟨wC, hst, k7, hgC⟩ := st_rc k7 rfl (lw : Int) none 0 0
    have k4 : Blk wC g4 36 #[.int .u64 0, .slice none 0 0] := k4.grown hgC (fun h => by have := Option.some.inj h; omega)
    have bw := bw.grown hgC bw.size (fun k hk => by cases hk; have := HG4.out; omega)
    have hsC : g4 + 2 ≤ wC.heap.size := by rw [← hsB]; exact hgC.size
    have H47 := Lib.hid h47
    clear h1 hok hch hl8 hlw hn0 hsB h47 bA hgC
    obtain ⟨bs, hbs⟩ : ∃ b, b = g4 + 2 := ⟨_, rfl⟩
    have hb4 : g4 < bs := by omega
    have hb7 : g7 < bs := by have := H47.out; omega
    have hn47 : g7 ≠ g4 := by have := H47.out; omega
    have hwbs : w.heap.size ≤ bs := by have := HG4.out; omega
    rw [← hbs] at hsC
    clear hbs
    rw [hg7, hwB] at hst
    have HG7 := Lib.hid hg7
    clear hg7 hwB
    go_upto_region 7 with (refine wpList_store (by rfl) (.tmp 7) (.tmp 28) (by rfl) (by rfl) (by rfl) hst ?_)
    rw [← HG7.out]
    go_wp2_with fail
    clear h1i h2i hw1 hwn hw2 hst
    go_loopg [8] n (fun gk v8 wr => ∃ (j : Nat) (r : Value), j + gk = n ∧ v8 = .int .i64 (j : Int) ∧ Blk wr g7 36 #[.int .u64 (lw : Int), r] ∧ Blk wr g4 36 #[.int .u64 0, .slice none 0 0] ∧ wr.ownsRow bs 5 1 r j ((t.take j).map u8v) ∧ Hid ((t.take j).all dirB = true) ∧ Below w.heap.size w wr ∧ bs ≤ wr.heap.size)
    case atStart => exact ⟨0, _, by omega, rfl, k7, k4, World.ownsRow_nil _ _ _ _, rfl, bw, hsC⟩
    case round =>
      clear k7 k4 bw hsC
      obtain ⟨j, r, hj, rfl, k7, k4, ho, HA, bw, hsC⟩ := hrel
      obtain ⟨A0, k9, hv0, _⟩ := Byt.own_slice1 ho
      subst hv0
      by_cases h4 : j < n
      · have hk4 : (j : Int) < (n : Int) := by omega
        have hk0 : (0 : Int) ≤ (j : Int) := by omega
        have hj8 : j < t8.length := by have h := HTL.out; rw [HT.out, List.length_map] at h; omega
        obtain ⟨b, hb⟩ : ∃ b, t8[j]? = some b := ⟨_, List.getElem?_eq_getElem hj8⟩
        have hzz : j < (ByteArray.mk t8.toArray).size := by rw [Byt.size_str]; exact hj8
        have hix := Byt.index_at t8 j b hb hzz
        have htj : t[j]? = some b.toNat := by rw [HT.out, List.getElem?_map, hb]; rfl
        have hlt := b.toNat_lt
        obtain ⟨x, hx⟩ : ∃ x, x = b.toNat := ⟨_, rfl⟩
        rw [← hx] at htj
        have hxb : b.toNat = x := hx.symm
        have HD := Lib.hid (fun W => rdir_any x W)
        have htk : t.take (j + 1) = t.take j ++ [x] := by rw [List.take_add_one, htj]; rfl
        cases hd : dirB x
        · have hno : ofOk top t = false := by
            rw [HOK.out, List.all_eq_false]
            exact ⟨x, List.mem_of_getElem? htj, by rw [hd]; decide⟩
          have HQ : Hid (∀ w', OfRR w top t (.returned (.tuple #[.agg #[.int .u64 0, .slice none 0 0], .int .i64 2])) w') := fun w' => .inr ⟨hno, rfl⟩
          rw [hd] at HD
          obtain ⟨w3, hst, k3, hg3⟩ := st_rc k4 rfl 0 none 0 0
          have b3 := bw.grown hg3 bw.size (fun k hk => by cases hk; have := HG4.out; omega)
          have HLD := Lib.hid (blk_loadVar (P := Try.prog) (ty := 36) k3 Try.underlying36 rfl size_rc)
          clear hno htk htj hb hj8 hx ho k7 hlt k3 hg3 k4 bw
          go_wp2_with fail
          refine (HD.out _).mono ?_; rintro e w2 ⟨rfl, rfl⟩
          go_wp2_with (refine wpList_store (by rfl) (.tmp 4) (.tmp 40) (by rfl) (by rfl) (by rfl) hst ?_)
          exact bodyPost_ret (v := .tuple #[.agg #[.int .u64 0, .slice none 0 0], .int .i64 2]) (by simp [results, Try.results20, asAddr, HLD.out]) rfl ⟨HQ.out _, b3⟩
        · rw [hd] at HD
          have HA2 : Hid ((t.take (j + 1)).all dirB = true) := by show _ = _; rw [htk, List.all_append, HA.out]; simp [hd]
          clear hd hb hx
          go_wp2_with fail
          refine (HD.out _).mono ?_; rintro e w2 ⟨rfl, rfl⟩
          go_upto_region 12 with fail
          obtain ⟨gz, wz, A2, k2, wE, a1, a2, ho3, bE, bz⟩ := app_one (w := wr.drew) (B := bs) ho hsC (by omega) x
          rw [← htk] at ho3
          have k7d := k7.drew
          have k7z := k7d.below bz hb7
          have k7E := k7d.below bE hb7
          have k4E := k4.drew.below bE hb4
          obtain ⟨wF, sa, k7F, hgF⟩ := st_row k7E A2 (j + 1) k2
          have k4F : Blk wF g4 36 #[.int .u64 0, .slice none 0 0] := k4E.grown hgF (fun h => hn47 (Option.some.inj h).symm)
          have ho4 := own1_grown ho3 hgF (fun q hq he => by have := (ho3.lt q hq).1; have := Option.some.inj he; omega)
          have bF : Below w.heap.size w wF := (bw.drew.trans (bE.mono hwbs)).grown hgF (Nat.le_trans bw.drew.size bE.size) (fun k hk => by cases hk; have := HG4.out; have := H47.out; omega)
          have hsF : bs ≤ wF.heap.size := Nat.le_trans hsC (Nat.le_trans (show wr.heap.size ≤ wE.heap.size from bE.size) hgF.size)
          have hl1 := ld_row k7d
          have hl2 := ld_row k7z
          have HF := Lib.hid (And.intro k7F (And.intro k4F (And.intro ho4 (And.intro bF hsF))))
          clear k7 k4 ho htk htj hj8 hlt ho3 bE bz k7d k7z k7E k4E k7F hgF k4F ho4 bF hsF HD bw
          refine wp_region_held_drew (S := (fun _ : World => True)) (by kernel_rfl) (trivial) (fun hHeld => ?_)
          refine take1 (i := 0) (d := 41) (v := ?_) rfl (by kernel_rfl) (by kernel_rfl) (by kernel_rfl) rfl (fun _ _ _ h => h) (Or.inl ⟨by rfl, ?_⟩) (by assumption) ?_
          rotate_left
          · (intro w hSw; (try dsimp only at hSw); go_simp); with_reducible rfl
          simp only [List.set_cons_zero, List.set_cons_succ]
          refine take1 (i := 2) (d := 43) (v := ?_) rfl (by kernel_rfl) (by kernel_rfl) (by kernel_rfl) rfl (fun _ _ _ h => h) (Or.inl ⟨by rfl, ?_⟩) (by assumption) ?_
          rotate_left
          · (intro w hSw; (try dsimp only at hSw); go_simp); with_reducible rfl
          simp only [List.set_cons_zero, List.set_cons_succ]
          refine take1 (i := 3) (d := 44) (v := ?_) rfl (by kernel_rfl) (by kernel_rfl) (by kernel_rfl) rfl (fun _ _ _ h => h) (Or.inl ⟨by rfl, ?_⟩) (by assumption) ?_
          rotate_left
          · (intro w hSw; (try dsimp only at hSw); go_simp); with_reducible rfl
          simp only [List.set_cons_zero, List.set_cons_succ]
          refine take1 (i := 4) (d := 45) (v := ?_) rfl (by kernel_rfl) (by kernel_rfl) (by kernel_rfl) rfl (fun _ _ _ h => h) (Or.inl ⟨by rfl, ?_⟩) (by assumption) ?_
          rotate_left
          · (intro w hSw; (try dsimp only at hSw); go_simp); with_reducible rfl
          simp only [List.set_cons_zero, List.set_cons_succ]
          refine wpAnyH_ready (rs := [1, 5]) (by kernel_rfl) (by simp) (AllReadyH.cons rfl (fun Kreg hKreg => ?_) (AllReadyH.cons rfl (fun Kreg hKreg => ?_) AllReadyH.nil))
          · refine step_load (by rfl) (.tmp 41) (by rfl) (by rfl) (by first | exact hl1 | exact hl2) ?_
            refine hKreg.out _ _ (trivial) (fun hHeld => ?_)
            clear hKreg Kreg
            refine wpAnyH_put (d := 42) (by rfl) ?_
            simp only [List.set_cons_zero, List.set_cons_succ]
            refine wpAnyH_ready (rs := [5]) (by kernel_rfl) (by simp) (AllReadyH.cons rfl (fun Kreg hKreg => ?_) AllReadyH.nil)
            refine step_exec (by rfl) _ _ (exec_build1 (t := 22) (x := .tmp 45) (by rfl) (by rfl) a1) ?_
            refine hKreg.out _ _ (trivial) (fun hHeld => ?_)
            clear hKreg Kreg
            refine wpAnyH_put (d := 46) (by rfl) ?_
            simp only [List.set_cons_zero, List.set_cons_succ]
            refine wpAnyH_ready (rs := [6]) (by kernel_rfl) (by simp) (AllReadyH.cons rfl (fun Kreg hKreg => ?_) AllReadyH.nil)
            refine step_run_append (by rfl) (.tmp 42) (.tmp 46) 22 (by rfl) (by rfl) (by rfl) a2 ?_
            refine hKreg.out _ _ (trivial) (fun hHeld => ?_)
            clear hKreg Kreg
            refine wpAnyH_put (d := 47) (by rfl) ?_
            simp only [List.set_cons_zero, List.set_cons_succ]
            refine take1 (i := 7) (d := 48) (v := ?_) rfl (by kernel_rfl) (by kernel_rfl) (by kernel_rfl) rfl (fun _ _ _ h => h) (Or.inl ⟨by rfl, ?_⟩) (by assumption) ?_
            rotate_left
            · (intro w hSw; (try dsimp only at hSw); go_simp); with_reducible rfl
            simp only [List.set_cons_zero, List.set_cons_succ]
            refine wpAnyH_ready (rs := [8]) (by kernel_rfl) (by simp) (AllReadyH.cons rfl (fun Kreg hKreg => ?_) AllReadyH.nil)
            refine step_store (by rfl) (.tmp 48) (.tmp 47) (by rfl) (by rfl) (by rfl) sa ?_
            refine hKreg.out _ _ (trivial) (fun hHeld => ?_)
            clear hKreg Kreg
            try simp only [Act.put, List.setIfInBounds_toArray, List.set_cons_zero, List.set_cons_succ]
            refine wpAnyH_done (by kernel_rfl) ?_ _
            go_wp2_with fail
            go_roundg (n - (j + 1))
            case measure => omega
            case rel => exact ⟨j + 1, _, by omega, by go_num, HF.out.1, HF.out.2.1, HF.out.2.2.1, HA2, HF.out.2.2.2.1, HF.out.2.2.2.2⟩
          · refine step_exec (by rfl) _ _ (exec_build1 (t := 22) (x := .tmp 45) (by rfl) (by rfl) a1) ?_
            refine hKreg.out _ _ (trivial) (fun hHeld => ?_)
            clear hKreg Kreg
            refine wpAnyH_put (d := 46) (by rfl) ?_
            simp only [List.set_cons_zero, List.set_cons_succ]
            refine wpAnyH_ready (rs := [1]) (by kernel_rfl) (by simp) (AllReadyH.cons rfl (fun Kreg hKreg => ?_) AllReadyH.nil)
            refine step_load (by rfl) (.tmp 41) (by rfl) (by rfl) (by first | exact hl1 | exact hl2) ?_
            refine hKreg.out _ _ (trivial) (fun hHeld => ?_)
            clear hKreg Kreg
            refine wpAnyH_put (d := 42) (by rfl) ?_
            simp only [List.set_cons_zero, List.set_cons_succ]
            refine wpAnyH_ready (rs := [6]) (by kernel_rfl) (by simp) (AllReadyH.cons rfl (fun Kreg hKreg => ?_) AllReadyH.nil)
            refine step_run_append (by rfl) (.tmp 42) (.tmp 46) 22 (by rfl) (by rfl) (by rfl) a2 ?_
            refine hKreg.out _ _ (trivial) (fun hHeld => ?_)
            clear hKreg Kreg
            refine wpAnyH_put (d := 47) (by rfl) ?_
            simp only [List.set_cons_zero, List.set_cons_succ]
            refine take1 (i := 7) (d := 48) (v := ?_) rfl (by kernel_rfl) (by kernel_rfl) (by kernel_rfl) rfl (fun _ _ _ h => h) (Or.inl ⟨by rfl, ?_⟩) (by assumption) ?_
            rotate_left
            · (intro w hSw; (try dsimp only at hSw); go_simp); with_reducible rfl
            simp only [List.set_cons_zero, List.set_cons_succ]
            refine wpAnyH_ready (rs := [8]) (by kernel_rfl) (by simp) (AllReadyH.cons rfl (fun Kreg hKreg => ?_) AllReadyH.nil)
            refine step_store (by rfl) (.tmp 48) (.tmp 47) (by rfl) (by rfl) (by rfl) sa ?_
            refine hKreg.out _ _ (trivial) (fun hHeld => ?_)
            clear hKreg Kreg
            try simp only [Act.put, List.setIfInBounds_toArray, List.set_cons_zero, List.set_cons_succ]
            refine wpAnyH_done (by kernel_rfl) ?_ _
            go_wp2_with fail
            go_roundg (n - (j + 1))
            case measure => omega
            case rel => exact ⟨j + 1, _, by omega, by go_num, HF.out.1, HF.out.2.1, HF.out.2.2.1, HA2, HF.out.2.2.2.1, HF.out.2.2.2.2⟩

      · have hk4 : ¬ (j : Int) < (n : Int) := by omega
        obtain rfl : n = j := by omega
        have htt : t.take n = t := List.take_of_length_le (by rw [HTL.out]; omega)
        rw [htt] at ho
        have hall := HA.out
        rw [htt] at hall
        have hyes : ofOk top t = true := HOK.out.trans hall
        obtain ⟨w3, hst, k3, hg3⟩ := st_rc k4 rfl (lw : Int) A0 n k9
        have b3 := bw.grown hg3 bw.size (fun k hk => by cases hk; have := HG4.out; omega)
        have HLD := Lib.hid (blk_loadVar (P := Try.prog) (ty := 36) k3 Try.underlying36 rfl size_rc)
        have ho3 := own1_grown ho hg3 (fun q hq he => by have := (ho.lt q hq).1; have := Option.some.inj he; omega)
        have HQ : Hid (OfRR w top t (.returned (.tuple #[.agg #[.int .u64 (lw : Int), .slice A0 n k9], .int .i64 (0 : Nat)])) w3) := by
          obtain ⟨q1, q2⟩ := refC_own (c := ⟨lw, t⟩) (n := n) HTL.out ho3
          refine .inl ⟨hyes, ?_⟩
          rw [HCH.out]
          exact ⟨_, _, rfl, q1, fun ad he => .inr (Nat.le_trans hwbs (q2 ad he))⟩
        have x0 := k7.cell 0
        have x1 := k7.cell 1
        clear htt ho hall hyes k7 k4 bw k3 hg3 ho3
        go_wp2_with (refine wpList_store (by rfl) (.tmp 4) (.tmp 49) (by rfl) (by rfl) (by rfl) hst ?_)
        exact bodyPost_ret (v := .tuple #[.agg #[.int .u64 (lw : Int), .slice A0 n k9], .int .i64 0]) (by simp [results, Try.results20, asAddr, HLD.out]) rfl ⟨HQ.out, b3⟩
end Go.Proofs.Ytbamfnlgapchkaa.Chn
