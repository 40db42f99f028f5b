/- The law BatchPlays walked. Conditions: the argument can be read. -/
import Derived.Test.YtgpdggojajjppaaBatZ
import Derived.Deep.LoopGhost
import Derived.Deep.DeepCutAuto
import Derived.Deep.CutBlock
namespace Go.Proofs.Ytgpdggojajjppaa.Bat
open Go.RowKit Wire Cmd DrawInv

theorem size_ba : (Try.prog.info? 73).map (·.size) = some 9 := by kernel_rfl
theorem putQ_len (l : List Cm) (c : Cm) : (putQ l c).1.length ≤ l.length + 1 := by
  unfold putQ
  split
  · simp
  · split
    · simp
    · split
      · simp
      · split
        · simp
        · split
          · simp
          · simp [List.length_eraseIdx]; split <;> omega
theorem doneQ_len (l : List Cm) (k s : Nat) : (doneQ l k s).length ≤ l.length := by
  unfold doneQ
  split
  · simp
  · split
    · simp
    · split
      · simp [List.length_eraseIdx]; split <;> omega
      · simp
def PlaysAt (B g : Nat) (ln : Nat) (w : World) (gk : Nat) (v4 v5 : Value) (wr : World) : Prop :=
  ∃ (k : Nat) (m : List Cm) (v : Value) (A : Option Addr) (c : Nat), k + gk = ln ∧ v5 = .int .i64 (k : Int) ∧ v4 = .slice A m.length c ∧ Hid (m.length ≤ c) ∧ Hid (m.length ≤ k) ∧ QS B g m v wr ∧ RowsF wr g v A m ∧ Below w.heap.size w wr ∧ B ≤ wr.heap.size
def PlaysCut (B g : Nat) (k : Nat) (w : World) (v4 : Value) (wr : World) : Prop :=
  ∃ (m : List Cm) (v : Value) (A : Option Addr) (c : Nat), v4 = .slice A m.length c ∧ Hid (m.length ≤ c) ∧ Hid (m.length ≤ k) ∧ QS B g m v wr ∧ RowsF wr g v A m ∧ Below w.heap.size w wr ∧ B ≤ wr.heap.size
theorem same_self (m : List Cm) (n : Nat) (hn : m.length = n) (hl : n ≤ 100000) (A A2 : Option Addr) (c c2 : Nat) (w : World) (h : Rows w A 7 cmL m) (h2 : Rows w A2 7 cmL m) :
    Calls Try.prog 33 #[.slice A n c, .slice A2 n c2] w fun e w' => e = .returned (.bool true) ∧ Below w.heap.size w w' := by
  have h := same_any m m (by omega) (by omega) A A2 c c2 w h h2
  rw [hn, decide_eq_true rfl] at h
  exact h
set_option linter.unusedSimpArgs false in
set_option linter.unusedVariables false in
set_option maxRecDepth 100000 in
set_option maxHeartbeats 2000000 in
theorem bplays_any (l : List Ba) (ln : Nat) (hln : ln = l.length) (hQ : ∀ x ∈ l, x.Fits) (hl : ln ≤ 9223372036854775807) (A0 : Option Addr) (c0 : Nat) (w : World) (hA0 : Rows w A0 9 baC l) :
    Calls Try.prog 7 #[.slice A0 ln c0] w fun e w' => e = .returned (.bool true) ∧ Below w.heap.size w w' := by
  have HG := Lib.hid (fun W h => bgreat_any l ln hln hl A0 c0 W h)
  have HLN := Lib.hid hln
  clear hln
  go_enter Try.func7, Try.ntmps7
  go_wp2_with fail
  refine (HG.out w hA0).mono ?_; rintro e w1 ⟨he, B1⟩
  have bw := B1
  clear B1 HG
  cases he
  · go_wp2_with fail
    refine (wakes_any _).mono ?_; rintro e w2 ⟨rfl, B2⟩
    have bz := bw.trans (B2.mono bw.size)
    go_wp2_with fail
    go_ret
    exact ⟨rfl, bz⟩
  rename_i h200
  have H2 := Lib.hid h200
  clear h200
  go_wp2_with fail
  refine (new_q w1).mono ?_; rintro e w2 ⟨g, rfl, q0, B2⟩
  obtain ⟨B, hB⟩ : ∃ B, B = w1.heap.size := ⟨_, rfl⟩
  rw [← hB] at q0
  have HBB : Hid (w.heap.size ≤ B) := by show _ ≤ _; rw [hB]; exact bw.size
  have HBW : Hid (B ≤ w2.heap.size) := by show _ ≤ _; rw [hB]; exact B2.size
  have bw := bw.trans (B2.mono bw.size)
  clear hB B2
  go_wp2_with fail
  go_loopg [4, 5] ln (fun gk v4 v5 wr => PlaysAt B g ln w gk v4 v5 wr)
  case atStart => exact ⟨0, [], _, none, 0, by omega, rfl, rfl, Nat.le_refl _, Nat.le_refl _, q0, RowsF.nil _ _ _ _, bw, HBW.out⟩
  case round =>
    clear q0 bw HBW
    obtain ⟨k, m, v, A, c, hk, rfl, rfl, HMC, HMK, q, rf, bw, hBr⟩ := hrel
    by_cases h4 : k < ln
    · have hk4 : (k : Int) < (ln : Int) := by omega
      have HM : Hid (m.length ≤ 300) := by show _ ≤ _; have := HMK.out; have := H2.out; omega
      obtain ⟨a0, ha⟩ : ∃ x, l[k]? = some x := ⟨_, List.getElem?_eq_getElem (by rw [← HLN.out]; exact h4)⟩
      have haf := hQ a0 (List.mem_of_getElem? ha)
      obtain ⟨ad, rfl, hadl, z0, z1⟩ := hA0.at_ ha
      have hadb : (ad.add (k * 9)).block < w.heap.size := by rw [block_of_add]; exact hadl
      obtain ⟨xd, xn, ⟨xa, xb, xk, xs, xt, xu, xz⟩⟩ := a0
      have HN := Lib.hid haf.h2
      have HC := Lib.hid haf.h3
      have ld0 : wr.cell? (ad.add (k * 9)) = some (.int .u8 (xd : Int)) := (bw.cell hadb).trans (z0 _ rfl)
      have ld1 : wr.cell? { block := (ad.add (k * 9)).block, off := (ad.add (k * 9)).off + 1 } = some (.int .i64 xn) := (bw.cell (by exact hadb)).trans (z1 0 _ rfl)
      have ld2 : wr.cell? { block := (ad.add (k * 9)).block, off := (ad.add (k * 9)).off + 2 } = some (.int .u8 (xa : Int)) := (bw.cell (by exact hadb)).trans (z1 1 _ rfl)
      have ld3 : wr.cell? { block := (ad.add (k * 9)).block, off := (ad.add (k * 9)).off + 3 } = some (.int .u32 (xb : Int)) := (bw.cell (by exact hadb)).trans (z1 2 _ rfl)
      have ld4 : wr.cell? { block := (ad.add (k * 9)).block, off := (ad.add (k * 9)).off + 4 } = some (.int .u8 (xk : Int)) := (bw.cell (by exact hadb)).trans (z1 3 _ rfl)
      have ld5 : wr.cell? { block := (ad.add (k * 9)).block, off := (ad.add (k * 9)).off + 5 } = some (.string ⟨xs.toArray⟩) := (bw.cell (by exact hadb)).trans (z1 4 _ rfl)
      have ld6 : wr.cell? { block := (ad.add (k * 9)).block, off := (ad.add (k * 9)).off + 6 } = some (.string ⟨xt.toArray⟩) := (bw.cell (by exact hadb)).trans (z1 5 _ rfl)
      have ld7 : wr.cell? { block := (ad.add (k * 9)).block, off := (ad.add (k * 9)).off + 7 } = some (.string ⟨xu.toArray⟩) := (bw.cell (by exact hadb)).trans (z1 6 _ rfl)
      have ld8 : wr.cell? { block := (ad.add (k * 9)).block, off := (ad.add (k * 9)).off + 8 } = some (.int .u8 (xz : Int)) := (bw.cell (by exact hadb)).trans (z1 7 _ rfl)
      have HA0 := Lib.hid hA0
      clear z0 z1 ha haf hA0
      have kn := Blk.new wr 73 #[.int .u8 0, .int .i64 0, .int .u8 0, .int .u32 0, .int .u8 0, .string ⟨#[]⟩, .string ⟨#[]⟩, .string ⟨#[]⟩, .int .u8 0]
      obtain ⟨wb, hst, q3, rf3, bw3, hb, fb, hB3⟩ : ∃ wb, (Instr.storeAt 73 (.pointer (some ⟨wr.heap.size, 0, none⟩)) (.agg #[.int .u8 (xd : Int), .int .i64 xn, .int .u8 (xa : Int), .int .u32 (xb : Int), .int .u8 (xk : Int), .string ⟨xs.toArray⟩, .string ⟨xt.toArray⟩, .string ⟨xu.toArray⟩, .int .u8 (xz : Int)])).run Try.prog (wr.alloc (.cells #[.int .u8 0, .int .i64 0, .int .u8 0, .int .u32 0, .int .u8 0, .string ⟨#[]⟩, .string ⟨#[]⟩, .string ⟨#[]⟩, .int .u8 0] 73)) = .ok () wb ∧ QS B g m v wb ∧ RowsF wb g v A m ∧ Below w.heap.size w wb ∧ Blk wb wr.heap.size 73 #[.int .u8 (xd : Int), .int .i64 xn, .int .u8 (xa : Int), .int .u32 (xb : Int), .int .u8 (xk : Int), .string ⟨xs.toArray⟩, .string ⟨xt.toArray⟩, .string ⟨xu.toArray⟩, .int .u8 (xz : Int)] ∧ Far wb g v wr.heap.size ∧ B ≤ wb.heap.size := by
        have hB0 : Below wr.heap.size wr ((wr.alloc (.cells #[.int .u8 0, .int .i64 0, .int .u8 0, .int .u32 0, .int .u8 0, .string ⟨#[]⟩, .string ⟨#[]⟩, .string ⟨#[]⟩, .int .u8 0] 73)).setRow wr.heap.size #[.int .u8 (xd : Int), .int .i64 xn, .int .u8 (xa : Int), .int .u32 (xb : Int), .int .u8 (xk : Int), .string ⟨xs.toArray⟩, .string ⟨xt.toArray⟩, .string ⟨xu.toArray⟩, .int .u8 (xz : Int)]) := below_setRow ((Below.refl _ wr).alloc (Nat.le_refl _) _) (Nat.le_refl _)
        have kr : Blk ((wr.alloc (.cells #[.int .u8 0, .int .i64 0, .int .u8 0, .int .u32 0, .int .u8 0, .string ⟨#[]⟩, .string ⟨#[]⟩, .string ⟨#[]⟩, .int .u8 0] 73)).setRow wr.heap.size #[.int .u8 (xd : Int), .int .i64 xn, .int .u8 (xa : Int), .int .u32 (xb : Int), .int .u8 (xk : Int), .string ⟨xs.toArray⟩, .string ⟨xt.toArray⟩, .string ⟨xu.toArray⟩, .int .u8 (xz : Int)]) wr.heap.size 73 #[.int .u8 (xd : Int), .int .i64 xn, .int .u8 (xa : Int), .int .u32 (xb : Int), .int .u8 (xk : Int), .string ⟨xs.toArray⟩, .string ⟨xt.toArray⟩, .string ⟨xu.toArray⟩, .int .u8 (xz : Int)] := kn.setRow
        exact ⟨_, blk_store kn (by rfl) size_ba (by rfl), q.below hB0, rf.below hB0, bw.trans (hB0.mono bw.size), kr, far_new q (Nat.le_refl _) kr.lt, Nat.le_trans hBr hB0.size⟩
      clear kn
      go_upto_region 9 with (refine wpList_store (by rfl) (.tmp 6) (.tmp 28) (by rfl) (by rfl) (by rfl) hst ?_)
      obtain ⟨gb, hgb⟩ : ∃ gb, gb = wr.heap.size := ⟨_, rfl⟩
      rw [← hgb] at hb fb ⊢
      clear hst hgb q rf bw hBr ld0 ld1 ld2 ld3 ld4 ld5 ld6 ld7 ld8
      have q := q3
      have rf := rf3
      have bw := bw3
      have hBr := hB3
      clear q3 rf3 bw3 hB3
      have y0 := hb.cell 0
      go_upto_block 2 with fail
      go_cut [4, 7, 8, 9, 10, 11, 12] (fun s4 s7 s8 s9 s10 s11 s12 wx => PlaysCut B g (k + 1) w s4 wx)
      case first =>
        by_cases hd0 : xd = 0
        · subst hd0
          have y1 := hb.cell 1
          go_wp2_with fail
          refine (take_q q (by have := HM.out; omega) xn HN.out).mono ?_; rintro e w3 ⟨u, rfl, lu, v', uu, q', s, hub⟩
          obtain ⟨n, hn⟩ : ∃ n, n = takeN m xn := ⟨_, rfl⟩
          have HT := fun W => refTake_any m m.length rfl (by have := HM.out; omega) xn A c HMC.out W
          rw [← hn] at lu q' 
          simp only [← hn] at HT
          have HT := Lib.hid HT
          have hnl : n ≤ m.length := by rw [hn]; exact takeN_le m xn
          have HAU : Hid (∀ ad, cutA A n c = some ad → m.drop n ≠ [] → ∀ r, u.ownBlock = some r → ad.block ≠ r) := fun ad e hne r hr h => ((rf.cut hnl HMC.out).f hne ad e).nv (by rw [h]; exact hub r hr)
          clear hn hub y1
          have rf := rf.step s
          have bw := s.bw2 q bw HBB.out hBr
          have hBr := Nat.le_trans hBr s.out.size
          have hb := s.blk fb hb
          have fb := fb.step s
          have q := q'
          clear s q'
          have y1 := hb.cell 1
          have HNL := Lib.hid hnl
          clear hnl
          go_wp2_with fail
          refine (HT.out w3).mono ?_; rintro e w4 ⟨rfl, B4⟩
          clear y1 hb fb HT
          have rf := rf.below B4
          have bw := bw.trans (B4.mono bw.size)
          have hBr := Nat.le_trans hBr B4.size
          have lu := lu.below B4
          have uu := uu.below B4
          have q := q.below B4
          clear B4
          have hln : (m.take n).length = n := by rw [List.length_take]; have := HNL.out; omega
          obtain ⟨A2, c2, hu, rr, hA2⟩ := lu.slice
          rw [hln] at hu hA2
          subst hu
          have HA2 := Lib.hid hA2
          have HS := Lib.hid (same_self (m.take n) n hln (by have := HM.out; have := HNL.out; omega) A2 A c2 c w4 rr (rows_take rf.r n))
          have HLN2 := Lib.hid hln
          clear rr hA2 hln
          go_wp2_with fail
          refine HS.out.mono ?_; rintro e w5 ⟨rfl, B5⟩
          clear HS
          have rf := rf.below B5
          have bw := bw.trans (B5.mono bw.size)
          have hBr := Nat.le_trans hBr B5.size
          have lu := lu.below B5
          have uu := uu.below B5
          have q := q.below B5
          clear B5
          obtain ⟨wu, hwu⟩ : ∃ wu : World, wu = w5 := ⟨_, rfl⟩
          rw [← hwu] at q rf bw hBr lu uu ⊢
          clear hwu
          have HZ0 : Hid (ZR wu (.slice A2 n c2) n wu) := by have h := ZR.start lu; rwa [HLN2.out] at h
          have hn3 : n ≤ 300 := Nat.le_trans HNL.out HM.out
          go_wp2_with fail
          go_loopg [10] n (fun gk vz wz => ∃ k2 : Nat, k2 + gk = n ∧ vz = .int .i64 (k2 : Int) ∧ ZR wu (.slice A2 n c2) n wz)
          case atStart => exact ⟨0, by omega, rfl, HZ0.out⟩
          case round =>
            obtain ⟨k2, hk2, rfl, hz⟩ := hrel
            by_cases h42 : k2 < n
            · have hk42 : (k2 : Int) < (n : Int) := by omega
              obtain ⟨ad2, hA2', had2⟩ := HA2.out (by omega)
              subst hA2'
              obtain ⟨wz', hst, hz'⟩ := hz.store had2 h42
              clear had2 HA2
              go_wp2_with (refine wpList_store (by rfl) (.tmp 72) (.tmp 71) (by rfl) (by rfl) (by rfl) hst ?_)
              go_roundg (n - (k2 + 1))
              case measure => omega
              case rel => exact ⟨k2 + 1, by omega, by go_num, hz'⟩
            · have hk42 : ¬ (k2 : Int) < (n : Int) := by omega
              have hq := q.outs hz.out (fun r hr => uu r (by simpa using hr))
              have hrf := (rf.cut HNL.out HMC.out).outs hz.out (fun ad e hne hm => HAU.out ad e hne _ (by simpa using hm) rfl)
              have hbw := hz.below lu bw HBB.out hBr
              have hsz := Nat.le_trans hBr hz.out.size
              have e1 : (m.drop n).length = m.length - n := List.length_drop
              have HMC2 : Hid ((m.drop n).length ≤ c - n) := by show _ ≤ _; rw [e1]; have := HMC.out; omega
              have HMK2 : Hid ((m.drop n).length ≤ k + 1) := by show _ ≤ _; rw [e1]; have := HMK.out; omega
              go_wp2_with fail
              go_meet
              exact ⟨m.drop n, v', cutA A n c, c - n, by rw [e1], HMC2, HMK2, hq, hrf, hbw, hsz⟩
        · by_cases hd1 : xd = 1
          · subst hd1
            have y2 := hb.cell 2
            have y3 := hb.cell 3
            go_wp2_with fail
            refine (done_q q (by have := HM.out; omega) xa xb).mono ?_; rintro e w3 ⟨⟨ud, rfl⟩, v', q', s⟩
            clear y2 y3
            have rf := rf.step s
            have bw := s.bw2 q bw HBB.out hBr
            have hBr := Nat.le_trans hBr s.out.size
            have hb := s.blk fb hb
            have fb := fb.step s
            have q := q'
            clear s q'
            have y2 := hb.cell 2
            have y3 := hb.cell 3
            go_wp2_with fail
            refine (refDone_any m (by have := HM.out; omega) xa xb A c HMC.out w3 rf.r).mono ?_; rintro e w4 ⟨u, rfl, hr, B4⟩
            obtain ⟨A', c', rfl, hc', rf'⟩ := rf.ref q hr B4
            have hdl := doneQ_len m xa xb
            clear y2 y3 hr hb fb rf
            have bw := bw.trans (B4.mono bw.size)
            have hBr := Nat.le_trans hBr B4.size
            have q := q.below B4
            have HQ := Lib.hid (And.intro q (And.intro rf' (And.intro hc' (And.intro hdl (And.intro bw hBr)))))
            clear q rf' hc' hdl bw hBr B4
            go_wp2_with fail
            go_meet
            obtain ⟨q, rf', hc', hdl, bw, hBr⟩ := HQ.out
            exact ⟨doneQ m xa xb, v', A', c', rfl, hc', (by show _ ≤ _; have := HMK.out; omega), q, rf', bw, hBr⟩
          · have hn0 : ((xd : Int) == 0) = false := beq_eq_false_iff_ne.2 (by omega)
            have hn1 : ((xd : Int) == 1) = false := beq_eq_false_iff_ne.2 (by omega)
            have y2 := hb.cell 2
            have y3 := hb.cell 3
            have y4 := hb.cell 4
            have y5 := hb.cell 5
            have y6 := hb.cell 6
            have y7 := hb.cell 7
            have y8 := hb.cell 8
            have HP := Lib.hid (fun (W : World) (h : RowsF W g v A m) => refPut_any m (by have := HM.out; omega) ⟨xa, xb, xk, xs, xt, xu, xz⟩ HC.out A c HMC.out W h.r)
            have HP2 := Lib.hid (fun (W : World) (q : QS B g m v W) (h : B ≤ W.heap.size) => put_q q h (by have := HM.out; omega) ⟨xa, xb, xk, xs, xt, xu, xz⟩ HC.out)
            have hpl := putQ_len m ⟨xa, xb, xk, xs, xt, xu, xz⟩
            generalize putQ m ⟨xa, xb, xk, xs, xt, xu, xz⟩ = pq at *
            obtain ⟨m', pe⟩ := pq
            unfold cmV cmC at HP HP2
            dsimp only at HP HP2 hpl
            go_wp2_with fail
            refine (HP.out wb rf).mono ?_; rintro e w3 ⟨u, rfl, hr, B3⟩
            obtain ⟨A', c', rfl, hc', rf'⟩ := rf.ref q hr B3
            clear y2 y3 y4 y5 y6 y7 y8 hr rf HP
            have rf := rf'
            have hb := hb.below B3 hb.lt
            have fb := fb.below B3
            have bw := bw.trans (B3.mono bw.size)
            have hBr := Nat.le_trans hBr B3.size
            have q := q.below B3
            have HC' := Lib.hid hc'
            have HPL := Lib.hid hpl
            clear rf' hc' B3 hpl
            have y2 := hb.cell 2
            have y3 := hb.cell 3
            have y4 := hb.cell 4
            have y5 := hb.cell 5
            have y6 := hb.cell 6
            have y7 := hb.cell 7
            have y8 := hb.cell 8
            go_wp2_with fail
            refine (HP2.out w3 q hBr).mono ?_; rintro e w4 ⟨rfl, v', q', s⟩
            have hne : ((pe : Int) != (pe : Int)) = false := by simp
            clear y2 y3 y4 y5 y6 y7 y8 HP2
            have rf := rf.step s
            have bw := s.bw2 q bw HBB.out hBr
            have hBr := Nat.le_trans hBr s.out.size
            have q := q'
            clear s q'
            have HQ := Lib.hid (And.intro q (And.intro rf (And.intro bw hBr)))
            clear q rf bw hBr
            go_wp2_with fail
            go_meet
            obtain ⟨q, rf, bw, hBr⟩ := HQ.out
            exact ⟨m', v', A', c', rfl, HC', (by show _ ≤ _; have := HMK.out; have := HPL.out; omega), q, rf, bw, hBr⟩
      case rest =>
        clear q rf bw hBr hb fb y0 HM
        obtain ⟨m, v, A, c, rfl, HMC, HMK, q, rf, bw, hBr⟩ := hcut
        have HM : Hid (m.length ≤ 300) := by show _ ≤ _; have := HMK.out; have := H2.out; omega
        obtain ⟨wd, hwd⟩ : ∃ wd : World, wd = wc := ⟨_, rfl⟩
        rw [← hwd] at q rf bw hBr ⊢
        clear hwd
        go_wp2_with fail
        refine (all_q q hBr (by have := HM.out; omega)).mono ?_; rintro e w3 ⟨u, rfl, lu, uu, hun, B3⟩
        have HAU : Hid (∀ ad, A = some ad → m ≠ [] → ∀ r, u.ownBlock = some r → ad.block ≠ r) := fun ad e hne r hr h => by have h1 := (rf.f hne ad e).lt; have h2 := hun r hr; omega
        clear hun
        have rf := rf.below B3
        have bw := bw.trans (B3.mono bw.size)
        have hBr := Nat.le_trans hBr B3.size
        have q := q.below B3
        clear B3
        obtain ⟨A2, c2, hu, rr, hA2⟩ := lu.slice
        obtain ⟨n, hn⟩ : ∃ n, m.length = n := ⟨_, rfl⟩
        rw [hn] at hu hA2
        subst hu
        have HA2 := Lib.hid hA2
        have HS := Lib.hid (same_self m n hn (by have := HM.out; omega) A2 A c2 c w3 rr rf.r)
        have HN2 := Lib.hid hn
        rw [hn]
        clear rr hA2 hn
        go_wp2_with fail
        refine HS.out.mono ?_; rintro e w5 ⟨rfl, B5⟩
        clear HS
        have rf := rf.below B5
        have bw := bw.trans (B5.mono bw.size)
        have hBr := Nat.le_trans hBr B5.size
        have lu := lu.below B5
        have uu := uu.below B5
        have q := q.below B5
        clear B5
        obtain ⟨wu, hwu⟩ : ∃ wu : World, wu = w5 := ⟨_, rfl⟩
        rw [← hwu] at q rf bw hBr lu uu ⊢
        clear hwu
        have HZ0 : Hid (ZR wu (.slice A2 n c2) n wu) := by have h := ZR.start lu; rwa [HN2.out] at h
        have hn3 : n ≤ 300 := by rw [← HN2.out]; exact HM.out
        go_wp2_with fail
        go_loopg [14] n (fun gk vz wz => ∃ k2 : Nat, k2 + gk = n ∧ vz = .int .i64 (k2 : Int) ∧ ZR wu (.slice A2 n c2) n wz)
        case atStart => exact ⟨0, by omega, rfl, HZ0.out⟩
        case round =>
          obtain ⟨k2, hk2, rfl, hz⟩ := hrel
          by_cases h42 : k2 < n
          · have hk42 : (k2 : Int) < (n : Int) := by omega
            obtain ⟨ad2, hA2', had2⟩ := HA2.out (by omega)
            subst hA2'
            obtain ⟨wz', hst, hz'⟩ := hz.store had2 h42
            clear had2 HA2
            go_wp2_with (refine wpList_store (by rfl) (.tmp 106) (.tmp 105) (by rfl) (by rfl) (by rfl) hst ?_)
            go_roundg (n - (k2 + 1))
            case measure => omega
            case rel => exact ⟨k2 + 1, by omega, by go_num, hz'⟩
          · have hk42 : ¬ (k2 : Int) < (n : Int) := by omega
            have hq := q.outs hz.out (fun r hr => uu r (by simpa using hr))
            have hrf := rf.outs hz.out (fun ad e hne hm => HAU.out ad e hne _ (by simpa using hm) rfl)
            have hbw := hz.below lu bw HBB.out hBr
            have hsz := Nat.le_trans hBr hz.out.size
            go_wp2_with fail
            go_roundg (ln - (k + 1))
            case measure => omega
            case rel => exact ⟨k + 1, m, v, A, c, by omega, by go_num, by rw [HN2.out], HMC, HMK, hq, hrf, hbw, hsz⟩
    · have hk4 : ¬ (k : Int) < (ln : Int) := by omega
      have HM : Hid (m.length ≤ 300) := by show _ ≤ _; have := HMK.out; have := H2.out; omega
      go_wp2_with fail
      refine (all_q q hBr (by have := HM.out; omega)).mono ?_; rintro e w3 ⟨u, rfl, lu, uu, hun, B3⟩
      clear hun uu
      have rf := rf.below B3
      have bw := bw.trans (B3.mono bw.size)
      have hBr := Nat.le_trans hBr B3.size
      have q := q.below B3
      clear B3
      obtain ⟨A2, c2, hu, rr, hA2⟩ := lu.slice
      obtain ⟨n, hn⟩ : ∃ n, m.length = n := ⟨_, rfl⟩
      rw [hn] at hu
      subst hu
      have HS := Lib.hid (same_self m n hn (by have := HM.out; omega) A2 A c2 c w3 rr rf.r)
      rw [hn]
      clear rr hA2 lu
      go_wp2_with fail
      refine HS.out.mono ?_; rintro e w5 ⟨rfl, B5⟩
      have bw := bw.trans (B5.mono bw.size)
      clear HS B5
      go_wp2_with fail
      refine (wakes_any _).mono ?_; rintro e w6 ⟨rfl, B6⟩
      have bz := bw.trans (B6.mono bw.size)
      go_wp2_with fail
      go_ret
      exact ⟨rfl, bz⟩
end Go.Proofs.Ytgpdggojajjppaa.Bat
