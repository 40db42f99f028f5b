/- The law ElectPlays, walked. Conditions: the list can be read. -/
import Derived.Test.YtbamfnlgapchkaaElPlP
namespace Go.Proofs.Ytbamfnlgapchkaa.Ele
open Go Go.RowKit Bal Mem DrawInv

set_option maxRecDepth 100000 in
theorem run_eq_vote_n (n : Nat) (w : World) (a b c : Int) (s : ByteArray) : (Op.equalIn (n + 3) 73 (.agg #[.int .u64 a, .int .u64 b, .int .u8 c, .string s]) (.agg #[.int .u64 a, .int .u64 b, .int .u8 c, .string s])).run Try.prog w = .ok (((a == a)) && (((b == b) && ((c == c) && true)) && ((s.toList == s.toList) && true))) w := by
  have e1 := run_equalIn_int (P := Try.prog) w (n + 1) 26 .u64 .u64 a a Try.underlying26
  have e2 := run_eq_ballot n w b c b c
  have e3 := run_equalIn_string (P := Try.prog) w (n + 1) 9 s s Try.underlying9
  obtain ⟨h1, h2⟩ := fields_of Try.underlying73
  rw [run_equalIn_agg w (n + 2) _ _ _ h1 (by kernel_rfl), h2]
  exact eqFields_step (by decide) (by kernel_rfl) (by kernel_rfl) e1 (eqFields_step (by decide) (by kernel_rfl) (by kernel_rfl) e2 (eqFields_step (by decide) (by kernel_rfl) (by kernel_rfl) e3 (eqFields_nil _ _ _ _ _)))
theorem run_eq_vote (w : World) (a b c : Int) (s : ByteArray) : (Op.equalIn 10000 73 (.agg #[.int .u64 a, .int .u64 b, .int .u8 c, .string s]) (.agg #[.int .u64 a, .int .u64 b, .int .u8 c, .string s])).run Try.prog w = .ok true w := by
  have h := run_eq_vote_n 9997 w a b c s
  simpa using h
theorem run_same_ballot (w : World) (a b : Int) : (Op.equalIn 10000 71 (.agg #[.int .u64 a, .int .u8 b]) (.agg #[.int .u64 a, .int .u8 b])).run Try.prog w = .ok true w := by
  have h := run_eq_ballot 9998 w a b a b
  simpa using h
theorem list_at (x : Nat) (hx : x < 256) (w : World) : Calls Try.prog 69 #[.int .u8 (x : Int)] w fun e w' => ∃ u, e = .returned u ∧ NumsAt (listN x) u w' ∧ Below w.heap.size w w' :=
  (list_any x hx w).mono fun _ _ ⟨A, c, e1, hr, hb⟩ => ⟨_, e1, ⟨A, c, rfl, hr⟩, hb⟩
set_option linter.unusedSimpArgs false in
set_option linter.unusedVariables false in
set_option maxRecDepth 100000 in
set_option maxHeartbeats 2000000 in
theorem eplays_any (b : B) (l : List Td) (n : Nat) (hn : l.length = n) (hn63 : n ≤ 9223372036854775807) (A : Option Addr) (c : Nat) (slot : Nat) (cf : Nat) (hcf : cf < 256) (w : World) (hr : Rows w A 3 tdL l) (hf : ∀ x ∈ l, x.Fits w) :
    Calls Try.prog 13 #[bV b, .slice A n c, .int .u64 (slot : Int), .int .u8 (cf : Int)] w fun e w' => e = .returned (.bool true) ∧ Below w.heap.size w w' := by
  have b0 := below_1 w (.cells (bC b) 71)
  have k0 := Blk.new w 71 (bC b)
  have HNB := Lib.hid (fun h W => enew_bad b h W)
  have HNE := Lib.hid (fun h W => enew_any b h W)
  have HMY := Lib.hid (fun W => rmay_any b W)
  have HR := Lib.hid (And.intro hr (And.intro hf hn))
  have HGT := Lib.hid (fun (W : World) (hb : Below w.heap.size w W) => great_any l n hn hn63 A c W (hr.below hb) (fun x hx => (hf x hx).2.2.2.2))
  have HGN := Lib.hid (fun h => great_no (L := l) h)
  have HCF := Lib.hid hcf
  unfold bV bC at *
  obtain ⟨bn, hbn⟩ : ∃ x, b.n = x := ⟨_, rfl⟩
  obtain ⟨br, hbr⟩ : ∃ x, b.r = x := ⟨_, rfl⟩
  rw [hbn, hbr] at b0 k0 HNB HMY HNE ⊢
  have HB2 := Lib.hid (And.intro hbn hbr)
  clear hr hf hn hcf hbn hbr
  obtain ⟨wA, hwA⟩ : ∃ wA, w.alloc (.cells #[.int .u64 (bn : Int), .int .u8 (br : Int)] 71) = wA := ⟨_, rfl⟩
  obtain ⟨bx, hbx⟩ : ∃ g, w.heap.size = g := ⟨_, rfl⟩
  rw [hwA] at b0 k0
  rw [hbx] at k0
  have HW := Lib.hid (And.intro hwA hbx)
  have HBX : Hid (w.heap.size ≤ bx) := by show _ ≤ _; omega
  have c0 := k0.cell 0
  have c1 := k0.cell 1
  have HGA := Lib.hid (HGT.out wA b0)
  clear hwA hbx HGT
  go_enter Try.func13, Try.ntmps13
  go_upto_region 1 with fail
  rw [HW.out.1, HW.out.2]
  clear HW
  cases hg : greatB l
  rotate_left
  · rw [hg] at HGA
    clear hg HGN HNB HNE HMY
    go_wp2_with fail
    refine HGA.out.mono ?_; rintro e w1 ⟨rfl, rfl⟩
    go_wp2_with fail
    refine (wakes_any _).mono ?_; rintro e w2 ⟨rfl, B2⟩
    have bz := b0.trans (B2.mono b0.size)
    go_wp2_with fail
    go_ret
    exact ⟨rfl, bz⟩
  rw [hg] at HGA
  have HG2 := Lib.hid (HGN.out hg)
  clear hg HGN
  cases hok : okB b
  · have HNB := Lib.hid (HNB.out hok)
    rw [hok] at HMY
    clear hok HNE
    go_wp2_with fail
    refine HGA.out.mono ?_; rintro e w1 ⟨rfl, rfl⟩
    clear HGA
    go_wp2_with fail
    refine (HNB.out _).mono ?_; rintro e w2 ⟨rfl, B2⟩
    have bz := b0.trans (B2.mono b0.size)
    have kz := k0.below B2 k0.lt
    clear HNB B2 b0 k0 c0 c1
    have c0 := kz.cell 0
    have c1 := kz.cell 1
    go_wp2_with fail
    refine (HMY.out _).mono ?_; rintro e w3 ⟨rfl, B3⟩
    have bz := bz.trans (B3.mono bz.size)
    clear HMY B3 kz c0 c1
    go_wp2_with fail
    refine (wakes_any _).mono ?_; rintro e w4 ⟨rfl, B4⟩
    have bz := bz.trans (B4.mono bz.size)
    clear B4
    go_wp2_with fail
    go_ret
    exact ⟨rfl, bz⟩
  have HNE := Lib.hid (HNE.out hok)
  rw [hok] at HMY
  clear hok HNB
  go_wp2_with fail
  refine HGA.out.mono ?_; rintro e w1 ⟨rfl, rfl⟩
  clear HGA
  have HS1 := b0.size
  have hblt := k0.lt
  go_wp2_with fail
  refine (HNE.out _).mono ?_; rintro e w2 hnew
  obtain ⟨g, mg, rfl, r, B2⟩ := hnew
  have bz := b0.trans (B2.mono b0.size)
  have kz := k0.below B2 k0.lt
  have hbxg : bx < g ∧ bx < mg := ⟨Nat.lt_of_lt_of_le hblt r.hB, Nat.lt_of_lt_of_le hblt r.hM⟩
  have r := r.mono HS1
  clear HNE B2 b0 k0 c0 c1 HS1 hblt
  have c0 := kz.cell 0
  have c1 := kz.cell 1
  go_wp2_with fail
  refine (HMY.out _).mono ?_; rintro e w3 ⟨rfl, B3⟩
  have bz := bz.trans (B3.mono bz.size)
  have kz := kz.below B3 kz.lt
  have r := r.below B3
  clear HMY B3 c0 c1
  have c0 := kz.cell 0
  have c1 := kz.cell 1
  -- the document's round
  obtain ⟨wC, hwC⟩ : ∃ W, W = w3.alloc (.cells #[.int .u64 0, .int .u8 0, .slice none 0 0] 93) := ⟨_, rfl⟩
  obtain ⟨gw, hgw⟩ : ∃ x, x = w3.heap.size := ⟨_, rfl⟩
  have kC := Blk.new w3 93 #[.int .u64 0, .int .u8 0, .slice none 0 0]
  have bC : Below w3.heap.size w3 (w3.alloc (.cells #[.int .u64 0, .int .u8 0, .slice none 0 0] 93)) := (Below.refl _ w3).alloc (Nat.le_refl _) _
  rw [← hwC] at kC bC
  obtain ⟨wD, hst, kw, hgD⟩ := st_rr kC rfl bn br none 0 0
  have bD : Below w3.heap.size w3 wD := bC.grown hgD bC.size (fun k hk => by cases hk; exact Nat.le_refl _)
  rw [← hgw] at kw hst
  have HBS : Hid (bx < g ∧ bx < mg ∧ g < gw ∧ mg < gw ∧ bx < gw ∧ w.heap.size ≤ gw) := by
    have h1 := r.hg.lt
    have h2 := r.hm.lt
    have h3 := bz.size
    show _ ∧ _
    omega
  have r := r.below bD
  have kb := kz.below bD kz.lt
  have bw := bz.trans (bD.mono bz.size)
  have r : RoS w.heap.size g mg (roOf b []) wD := by rw [roOf_nil]; exact r
  have hup : Hid (w3.alloc (.cells #[.int .u64 0, .int .u8 0, .slice none 0 0] 93) = wC) := hwC.symm
  have hug : Hid (w3.heap.size = gw) := hgw.symm
  have HRF0 : Hid (RefR w wD b [] none 0) := ⟨Rows.nil _ _ _ _, (fun x hx => by cases hx), (by simp), (by simp [flatT])⟩
  clear hwC hgw kC bC hgD bD bz kz hbxg
  go_upto_region 9 with (refine wpList_store (by rfl) (.tmp 11) (.tmp 55) (by rfl) (by rfl) (by rfl) (by rw [hup.out, hug.out]; exact hst) ?_)
  rw [hug.out]
  clear hup hug hst c0 c1
  go_wp2_with fail
  go_loopg [12] n (fun gk v12 wr => ∃ (i : Nat) (Lc : List Td) (Ac : Option Addr) (cc m : Nat), i + gk = n ∧ v12 = .int .i64 (i : Int) ∧ Hid (Lc.length = m ∧ m ≤ i ∧ (flatT Lc).length ≤ 60 * i ∧ (∀ ad, Ac = some ad → gw < ad.block ∧ ad.block < wr.heap.size)) ∧ RoS w.heap.size g mg (roOf b Lc) wr ∧ Hid (RefR w wr b Lc Ac cc) ∧ Blk wr gw 93 #[.int .u64 (bn : Int), .int .u8 (br : Int), .slice Ac m cc] ∧ Blk wr bx 71 #[.int .u64 (bn : Int), .int .u8 (br : Int)] ∧ Below w.heap.size w wr)
  case atStart => exact ⟨0, [], none, 0, 0, by omega, rfl, ⟨rfl, Nat.le_refl _, (by simp [flatT]), (fun ad e => by cases e)⟩, r, HRF0.out, kw, kb, bw⟩
  case round =>
    clear r kw kb bw HRF0
    obtain ⟨i, Lc, Ac, cc, m, hi, rfl, HL, r, HRF, kw, kb, bw⟩ := hrel
    obtain ⟨wo, rfl⟩ : ∃ wo : World, wo = wr := ⟨_, rfl⟩
    by_cases h4 : i < n
    rotate_left
    · have hk4 : ¬ (i : Int) < (n : Int) := by omega
      clear r kw kb hi h4
      go_wp2_with fail
      refine (wakes_any _).mono ?_; rintro e w4 ⟨rfl, B4⟩
      have bz := bw.trans (B4.mono bw.size)
      go_wp2_with fail
      go_ret
      exact ⟨rfl, bz⟩
    have hk4 : (i : Int) < (n : Int) := by omega
    have HI := Lib.hid hi
    have hi20 : (i : Int) < 20 := by have := HG2.out.1; have := HR.out.2.2; omega
    obtain ⟨x, hx⟩ : ∃ x, l[i]? = some x := ⟨_, List.getElem?_eq_getElem (by rw [HR.out.2.2]; exact h4)⟩
    obtain ⟨ad, hAe, hcs⟩ := td_at HR.out.1 hx
    subst hAe
    have hxm := List.mem_of_getElem? hx
    have hxf := HR.out.2.1 x hxm
    have hx60 := HG2.out.2 x hxm
    obtain ⟨xn, hxn⟩ : ∃ y, x.node = y := ⟨_, rfl⟩
    obtain ⟨xb, hxb⟩ : ∃ y, x.base = y := ⟨_, rfl⟩
    obtain ⟨xA, hxA⟩ : ∃ y, x.A = y := ⟨_, rfl⟩
    obtain ⟨xc, hxc⟩ : ∃ y, x.c = y := ⟨_, rfl⟩
    obtain ⟨V, hV⟩ : ∃ y, x.V = y := ⟨_, rfl⟩
    obtain ⟨vn, hvn⟩ : ∃ y, V.length = y := ⟨_, rfl⟩
    have hxr := hxf.2.2.1
    have hx256 := hxf.1
    rw [hV] at hx60 hcs hxr
    rw [hvn] at hx60 hcs
    rw [hxn, hxb, hxA, hxc] at hcs
    rw [hxA] at hxr
    rw [hxn] at hx256
    have HCS := Lib.hid hcs
    have HXR := Lib.hid (And.intro hxr (And.intro hvn hx60))
    -- what the two rounds make of it
    obtain ⟨L2, hL2⟩ : ∃ L2, L2 = nextL Lc x := ⟨_, rfl⟩
    obtain ⟨m2, hm2⟩ : ∃ m2, m2 = L2.length := ⟨_, rfl⟩
    obtain ⟨er, her⟩ : ∃ er, er = addR Lc xn := ⟨_, rfl⟩
    have hnx : (nextL Lc x).length ≤ i + 1 ∧ (flatT (nextL Lc x)).length ≤ 60 * (i + 1) := by
      obtain ⟨h1, h2, h3, _⟩ := HL.out
      unfold nextL
      split
      · rw [List.length_append, flat_snoc, List.length_append, hV, hvn]
        simp
        omega
      · omega
    rw [← hL2] at hnx
    rw [← hm2] at hnx
    have HNX := Lib.hid (And.intro hm2 hnx)
    have HADD : Hid (∀ W, Below wo.heap.size wo W → Calls Try.prog 60 #[.agg #[.int .u64 (bn : Int), .int .u8 (br : Int), .slice Ac m cc], .agg #[.int .u8 (xn : Int), .int .u64 (xb : Int), .slice xA vn xc]] W fun e w' => ∃ A2 c2, e = .returned (.tuple #[.agg #[.int .u64 (bn : Int), .int .u8 (br : Int), .slice A2 m2 c2], .int .i64 (er : Int)]) ∧ RefR w w' b L2 A2 c2 ∧ (∀ ad, A2 = some ad → Ac = some ad ∨ (W.heap.size ≤ ad.block ∧ ad.block < w'.heap.size)) ∧ Below W.heap.size W w') := fun W hb => by
      have h := radd_any (HRF.out.below hb) m HL.out.1 (by have := HL.out.2.1; omega) x hxf (by have := HL.out.2.2.1; rw [hV, hvn]; omega) vn (by rw [hV]; exact hvn)
      unfold rrC at h
      rw [HB2.out.1, HB2.out.2, hxn, hxb, hxA, hxc] at h
      refine h.mono fun e w' hh => ?_
      obtain ⟨A2, c2, e1, h2⟩ := hh
      unfold rrC at e1
      rw [HB2.out.1, HB2.out.2, hxn, ← hL2, ← hm2, ← her] at e1
      rw [← hL2] at h2
      exact ⟨A2, c2, e1, h2⟩
    have HPAD : Hid (∀ W A3 c3, Below w.heap.size w W → RoS w.heap.size g mg (roOf b Lc) W → Rows W A3 4 vtL V → (∀ ad, A3 = some ad → ad.block ∉ [g, mg]) → Calls Try.prog 53 #[(.pointer (some ⟨g, 0, none⟩)), .int .u8 (xn : Int), .int .u64 (xb : Int), .slice A3 vn c3] W fun e w' => e = .returned (.int .i64 (er : Int)) ∧ RoS w.heap.size g mg (roOf b L2) w' ∧ Outs [g, mg] W w') := fun W A3 c3 hb hro hrw hA3 => by
      have h := eadd_any hro hb.size xn xb hx256 V vn hvn (by omega) A3 c3 hrw (fun _ => hA3)
      rw [addE_of, ← her, show (roOf b Lc).add xn xb V = roOf b L2 by rw [hL2, ← add_of, hxn, hxb, hV]] at h
      exact h
    obtain ⟨v13, w13, happ, ho13, B13⟩ := app_votes (w := wo) (B := wo.heap.size) (l := []) (Nat.le_refl _) (World.ownsRow_nil _ _ _ _) (A := xA) (c := xc) (hxr.below bw) (by rw [hvn]; simp; omega)
    rw [List.nil_append] at ho13
    rw [hvn] at happ ho13
    have ho13' := ho13
    rw [← hvn] at ho13'
    obtain ⟨A13, c13, hv13, _, hr13, hA13⟩ := own_rows_at vtL_len (by omega) ho13'
    rw [hvn] at hv13
    subst hv13
    have HO13 := Lib.hid (And.intro ho13 (And.intro hr13 hA13))
    have e2 := (hcs wo bw).2.2
    clear hx hxm hxf hx60 hxn hxb hxA hxc hV hvn hxr hx256 hL2 hm2 her hnx hcs ho13 ho13' hr13 hA13 hi h4
    go_upto_region 13 with (refine wpList_run_append (by rfl) (.const (.slice none 0 0)) (.tmp 66) 69 (by rfl) (by rfl) (by rfl) happ ?_)
    clear happ e2
    have bw13 := bw.trans (B13.mono bw.size)
    have r13 := r.below B13
    have kw13 := kw.below B13 kw.lt
    have kb13 := kb.below B13 kb.lt
    have HOS := Lib.hid (And.intro B13.size (And.intro r.hg.lt (And.intro r.hm.lt kw.lt)))
    have HB13 := Lib.hid B13
    have HBW := Lib.hid bw13
    have HR13 := Lib.hid r13
    clear bw r kw kb B13 bw13 r13
    have bq0 : Below w13.heap.size w13 w13.drew := (Below.refl _ w13).drew
    have bq1 : Below w13.heap.size w13 (w13.drew.alloc (.cells #[.int .u64 0, .int .u8 0, .slice none 0 0] 93)) := bq0.alloc bq0.size _
    have kn0 : Blk (w13.drew.alloc (.cells #[.int .u64 0, .int .u8 0, .slice none 0 0] 93)) w13.drew.heap.size 93 #[.int .u64 0, .int .u8 0, .slice none 0 0] := Blk.new w13.drew 93 #[.int .u64 0, .int .u8 0, .slice none 0 0]
    have HADW := Lib.hid (fun W (hb : Below w13.heap.size w13 W) => HADD.out W (HB13.out.trans (hb.mono HB13.out.size)))
    have HSK : Hid (∀ W, Below w13.heap.size w13 W → Blk W gw 93 #[.int .u64 (bn : Int), .int .u8 (br : Int), .slice Ac m cc] ∧ W.cell? (ad.add (i * 3)) = some (.int .u8 (xn : Int)) ∧ W.cell? { block := (ad.add (i * 3)).block, off := (ad.add (i * 3)).off + 1 } = some (.int .u64 (xb : Int)) ∧ W.cell? { block := (ad.add (i * 3)).block, off := (ad.add (i * 3)).off + 2 } = some (.slice xA vn xc)) := fun W hb => ⟨kw13.below hb kw13.lt, HCS.out W (HBW.out.trans (hb.mono HBW.out.size))⟩
    have HKB := Lib.hid (And.intro kw13 kb13)
    clear HADD kw13 kb13 HRF
    go_cut [14, 15] (fun v14 v15 wx => ∃ (gn : Nat) (A2 : Option Addr) (c2 : Nat), v14 = .pointer (some ⟨gn, 0, none⟩) ∧ v15 = .int .i64 (er : Int) ∧ Blk wx gn 93 #[.int .u64 (bn : Int), .int .u8 (br : Int), .slice A2 m2 c2] ∧ Hid (RefR w wx b L2 A2 c2 ∧ ∀ ad, A2 = some ad → gw < ad.block ∧ ad.block < wx.heap.size ∧ (ad.block < wo.heap.size ∨ w13.heap.size < ad.block + 1)) ∧ Below w13.heap.size w13 wx)
    case first =>
      have HF1 : Hid (∀ (A2 : Option Addr) (c2 : Nat) (w5 w6 : World), RefR w w5 b L2 A2 c2 → (∀ ad, A2 = some ad → Ac = some ad ∨ (w13.drew.heap.size ≤ ad.block ∧ ad.block < w5.heap.size)) → Below w13.heap.size w13 w5 → (w5.alloc (.cells #[.int .u64 0, .int .u8 0, .slice none 0 0] 93)).grownBy w6 (some w5.heap.size) → RefR w w6 b L2 A2 c2 ∧ ∀ ad, A2 = some ad → gw < ad.block ∧ ad.block < w6.heap.size ∧ (ad.block < wo.heap.size ∨ w13.heap.size < ad.block + 1)) := fun A2 c2 w5 w6 h ha hb hg => by
        have hs : (w5.alloc (.cells #[.int .u64 0, .int .u8 0, .slice none 0 0] 93)).heap.size = w5.heap.size + 1 := by rw [World.alloc, Array.size_push]
        have bz : Below w5.heap.size w5 w6 := Below.grown ((Below.refl _ w5).alloc (Nat.le_refl _) _) hg (by rw [hs]; omega) (fun k hk => by cases hk; exact Nat.le_refl _)
        refine ⟨h.below bz, fun ad e => ?_⟩
        have h0 := HOS.out
        have h1 := hb.size
        have h2 := bz.size
        rcases ha ad e with h | h
        · have := HL.out.2.2.2 ad h; omega
        · have h3 : w13.drew.heap.size = w13.heap.size := rfl
          omega
      have HF2 : Hid (∀ (A2 : Option Addr) (c2 : Nat) (w5 w6 : World), RefR w w5 b L2 A2 c2 → (∀ ad, A2 = some ad → Ac = some ad ∨ ((w13.drew.alloc (.cells #[.int .u64 0, .int .u8 0, .slice none 0 0] 93)).heap.size ≤ ad.block ∧ ad.block < w5.heap.size)) → Below w13.heap.size w13 w5 → w5.grownBy w6 (some w13.drew.heap.size) → RefR w w6 b L2 A2 c2 ∧ ∀ ad, A2 = some ad → gw < ad.block ∧ ad.block < w6.heap.size ∧ (ad.block < wo.heap.size ∨ w13.heap.size < ad.block + 1)) := fun A2 c2 w5 w6 h ha hb hg => by
        have hs : (w13.drew.alloc (.cells #[.int .u64 0, .int .u8 0, .slice none 0 0] 93)).heap.size = w13.heap.size + 1 := by rw [World.alloc, Array.size_push]; rfl
        have h3 : w13.drew.heap.size = w13.heap.size := rfl
        rw [hs] at ha
        have h0 := HOS.out
        have h1 := hb.size
        have h2 := hg.size
        refine ⟨h.out (Outs.of_grown hg (List.mem_singleton.2 rfl)) (fun ad e hm => ?_), fun ad e => ?_⟩
        · have hm := List.mem_singleton.1 hm
          rcases ha ad e with h | h
          · have := HL.out.2.2.2 ad h; omega
          · omega
        · rcases ha ad e with h | h
          · have := HL.out.2.2.2 ad h; omega
          · omega
      refine wp_region_held_drew (S := (fun W : World => Blk W gw 93 #[.int .u64 (bn : Int), .int .u8 (br : Int), .slice Ac m cc] ∧ W.cell? (ad.add (i * 3)) = some (.int .u8 (xn : Int)) ∧ W.cell? { block := (ad.add (i * 3)).block, off := (ad.add (i * 3)).off + 1 } = some (.int .u64 (xb : Int)) ∧ W.cell? { block := (ad.add (i * 3)).block, off := (ad.add (i * 3)).off + 2 } = some (.slice xA vn xc))) (by kernel_rfl) (HSK.out _ bq0) (fun hHeld => ?_)
      refine take1 (i := 0) (d := 69) (v := ?_) rfl (by kernel_rfl) (by kernel_rfl) (by kernel_rfl) rfl (fun _ _ _ h => h) (Or.inl ⟨by rfl, ?_⟩) (by assumption) ?_
      rotate_left
      · intro w hSw; refine (exec_load (.tmp 11) (by rfl) (by rfl) (blk_load (P := Try.prog) (ty := 93) hSw.1 Try.underlying93 rfl size_rr)).trans ?_; with_reducible rfl
      simp only [List.set_cons_zero, List.set_cons_succ]
      refine take1 (i := 1) (d := 70) (v := ?_) rfl (by kernel_rfl) (by kernel_rfl) (by kernel_rfl) rfl (fun _ _ _ h => h) (Or.inl ⟨by rfl, ?_⟩) (by assumption) ?_
      rotate_left
      · (intro w hSw; (try dsimp only at hSw); go_simp); with_reducible rfl
      simp only [List.set_cons_zero, List.set_cons_succ]
      refine take1 (i := 2) (d := 71) (v := ?_) rfl (by kernel_rfl) (by kernel_rfl) (by kernel_rfl) rfl (fun _ _ _ h => h) (Or.inl ⟨by rfl, ?_⟩) (by assumption) ?_
      rotate_left
      · (intro w hSw; (try dsimp only at hSw); go_simp); with_reducible rfl
      simp only [List.set_cons_zero, List.set_cons_succ]
      refine take1 (i := 3) (d := 72) (v := ?_) rfl (by kernel_rfl) (by kernel_rfl) (by kernel_rfl) rfl (fun _ _ _ h => h) (Or.inl ⟨by rfl, ?_⟩) (by assumption) ?_
      rotate_left
      · (intro w hSw; (try dsimp only at hSw); go_simp); with_reducible rfl
      simp only [List.set_cons_zero, List.set_cons_succ]
      refine take1 (i := 4) (d := 73) (v := ?_) rfl (by kernel_rfl) (by kernel_rfl) (by kernel_rfl) rfl (fun _ _ _ h => h) (Or.inl ⟨by rfl, ?_⟩) (by assumption) ?_
      rotate_left
      · (intro w hSw; obtain ⟨-, z0, z1, z2⟩ := hSw; go_simp); with_reducible rfl
      simp only [List.set_cons_zero, List.set_cons_succ]
      refine wpAnyH_ready (rs := [5, 9]) (by kernel_rfl) (by simp) (AllReadyH.cons rfl (fun Kreg hKreg => ?_) (AllReadyH.cons rfl (fun Kreg hKreg => ?_) AllReadyH.nil))
      · go_simp
        refine (HADW.out _ (by first | exact bq0 | exact bq1)).mono ?_; rintro e w5 ⟨A2, c2, rfl, hr5, ha5, b5⟩; have bq5 : Below w13.heap.size w13 w5 := (by first | exact bq0.trans (b5.mono bq0.size) | exact bq1.trans (b5.mono bq1.size)); (try have kn5 := kn0.below b5 kn0.lt)
        go_wp2_with fail
        refine hKreg.out _ _ ((HSK.out _ (by first | exact bq7 | exact bq6 | exact bq5 | exact bq1))) (fun hHeld => ?_)
        clear hKreg Kreg
        try simp only [Act.put, List.setIfInBounds_toArray, List.set_cons_zero, List.set_cons_succ]
        refine take1 (i := 6) (d := 68) (v := ?_) rfl (by kernel_rfl) (by kernel_rfl) (by kernel_rfl) rfl (fun _ _ _ h => h) (Or.inl ⟨by rfl, ?_⟩) (by assumption) ?_
        rotate_left
        · (intro w hSw; (try dsimp only at hSw); go_simp); with_reducible rfl
        simp only [List.set_cons_zero, List.set_cons_succ]
        refine take1 (i := 7) (d := 75) (v := ?_) rfl (by kernel_rfl) (by kernel_rfl) (by kernel_rfl) rfl (fun _ _ _ h => h) (Or.inl ⟨by rfl, ?_⟩) (by assumption) ?_
        rotate_left
        · (intro w hSw; (try dsimp only at hSw); go_simp); with_reducible rfl
        simp only [List.set_cons_zero, List.set_cons_succ]
        refine take1 (i := 8) (d := 76) (v := ?_) rfl (by kernel_rfl) (by kernel_rfl) (by kernel_rfl) rfl (fun _ _ _ h => h) (Or.inl ⟨by rfl, ?_⟩) (by assumption) ?_
        rotate_left
        · (intro w hSw; (try dsimp only at hSw); go_simp); with_reducible rfl
        simp only [List.set_cons_zero, List.set_cons_succ]
        refine wpAnyH_ready (rs := [9]) (by kernel_rfl) (by simp) (AllReadyH.cons rfl (fun Kreg hKreg => ?_) AllReadyH.nil)
        refine step_exec (by rfl) _ _ (exec_al rfl) ?_; (try have kn5 : Blk (w5.alloc (.cells #[.int .u64 0, .int .u8 0, .slice none 0 0] 93)) w5.heap.size 93 #[.int .u64 0, .int .u8 0, .slice none 0 0] := Blk.new w5 93 #[.int .u64 0, .int .u8 0, .slice none 0 0]); (try have bq6 : Below w13.heap.size w13 (w5.alloc (.cells #[.int .u64 0, .int .u8 0, .slice none 0 0] 93)) := bq5.alloc bq5.size _)
        refine hKreg.out _ _ ((HSK.out _ (by first | exact bq7 | exact bq6 | exact bq5 | exact bq1))) (fun hHeld => ?_)
        clear hKreg Kreg
        refine wpAnyH_put (d := 14) (by rfl) ?_
        simp only [List.set_cons_zero, List.set_cons_succ]
        refine wpAnyH_ready (rs := [10]) (by kernel_rfl) (by simp) (AllReadyH.cons rfl (fun Kreg hKreg => ?_) AllReadyH.nil)
        obtain ⟨w6, hst6, k6, hg6⟩ := st_rr kn5 rfl bn br A2 m2 c2; refine step_store (by rfl) (.tmp 14) (.tmp 75) (by rfl) (by rfl) (by rfl) hst6 ?_; have bq7 : Below w13.heap.size w13 w6 := (by first | exact bq6.grown hg6 bq6.size (fun k hk => by cases hk; exact bq5.size) | exact bq5.grown hg6 bq5.size (fun k hk => by cases hk; exact Nat.le_refl _))
        refine hKreg.out _ _ ((HSK.out _ (by first | exact bq7 | exact bq6 | exact bq5 | exact bq1))) (fun hHeld => ?_)
        clear hKreg Kreg
        try simp only [Act.put, List.setIfInBounds_toArray, List.set_cons_zero, List.set_cons_succ]
        refine take1 (i := 11) (d := 15) (v := ?_) rfl (by kernel_rfl) (by kernel_rfl) (by kernel_rfl) rfl (fun _ _ _ h => h) (Or.inl ⟨by rfl, ?_⟩) (by assumption) ?_
        rotate_left
        · (intro w hSw; (try dsimp only at hSw); go_simp); with_reducible rfl
        simp only [List.set_cons_zero, List.set_cons_succ]
        refine wpAnyH_done (by kernel_rfl) ?_ _
        go_wp2_with fail
        go_meet
        first
          | exact ⟨_, A2, c2, rfl, rfl, k6, HF1.out A2 c2 w5 w6 hr5 ha5 bq5 hg6, bq7⟩
          | exact ⟨_, A2, c2, rfl, rfl, k6, HF2.out A2 c2 w5 w6 hr5 ha5 bq5 hg6, bq7⟩
      · refine step_exec (by rfl) _ _ (exec_al rfl) ?_; (try have kn5 : Blk (w5.alloc (.cells #[.int .u64 0, .int .u8 0, .slice none 0 0] 93)) w5.heap.size 93 #[.int .u64 0, .int .u8 0, .slice none 0 0] := Blk.new w5 93 #[.int .u64 0, .int .u8 0, .slice none 0 0]); (try have bq6 : Below w13.heap.size w13 (w5.alloc (.cells #[.int .u64 0, .int .u8 0, .slice none 0 0] 93)) := bq5.alloc bq5.size _)
        refine hKreg.out _ _ ((HSK.out _ (by first | exact bq7 | exact bq6 | exact bq5 | exact bq1))) (fun hHeld => ?_)
        clear hKreg Kreg
        refine wpAnyH_put (d := 14) (by rfl) ?_
        simp only [List.set_cons_zero, List.set_cons_succ]
        refine wpAnyH_ready (rs := [5]) (by kernel_rfl) (by simp) (AllReadyH.cons rfl (fun Kreg hKreg => ?_) AllReadyH.nil)
        go_simp
        refine (HADW.out _ (by first | exact bq0 | exact bq1)).mono ?_; rintro e w5 ⟨A2, c2, rfl, hr5, ha5, b5⟩; have bq5 : Below w13.heap.size w13 w5 := (by first | exact bq0.trans (b5.mono bq0.size) | exact bq1.trans (b5.mono bq1.size)); (try have kn5 := kn0.below b5 kn0.lt)
        go_wp2_with fail
        refine hKreg.out _ _ ((HSK.out _ (by first | exact bq7 | exact bq6 | exact bq5 | exact bq1))) (fun hHeld => ?_)
        clear hKreg Kreg
        try simp only [Act.put, List.setIfInBounds_toArray, List.set_cons_zero, List.set_cons_succ]
        refine take1 (i := 6) (d := 68) (v := ?_) rfl (by kernel_rfl) (by kernel_rfl) (by kernel_rfl) rfl (fun _ _ _ h => h) (Or.inl ⟨by rfl, ?_⟩) (by assumption) ?_
        rotate_left
        · (intro w hSw; (try dsimp only at hSw); go_simp); with_reducible rfl
        simp only [List.set_cons_zero, List.set_cons_succ]
        refine take1 (i := 7) (d := 75) (v := ?_) rfl (by kernel_rfl) (by kernel_rfl) (by kernel_rfl) rfl (fun _ _ _ h => h) (Or.inl ⟨by rfl, ?_⟩) (by assumption) ?_
        rotate_left
        · (intro w hSw; (try dsimp only at hSw); go_simp); with_reducible rfl
        simp only [List.set_cons_zero, List.set_cons_succ]
        refine take1 (i := 8) (d := 76) (v := ?_) rfl (by kernel_rfl) (by kernel_rfl) (by kernel_rfl) rfl (fun _ _ _ h => h) (Or.inl ⟨by rfl, ?_⟩) (by assumption) ?_
        rotate_left
        · (intro w hSw; (try dsimp only at hSw); go_simp); with_reducible rfl
        simp only [List.set_cons_zero, List.set_cons_succ]
        refine wpAnyH_ready (rs := [10]) (by kernel_rfl) (by simp) (AllReadyH.cons rfl (fun Kreg hKreg => ?_) AllReadyH.nil)
        obtain ⟨w6, hst6, k6, hg6⟩ := st_rr kn5 rfl bn br A2 m2 c2; refine step_store (by rfl) (.tmp 14) (.tmp 75) (by rfl) (by rfl) (by rfl) hst6 ?_; have bq7 : Below w13.heap.size w13 w6 := (by first | exact bq6.grown hg6 bq6.size (fun k hk => by cases hk; exact bq5.size) | exact bq5.grown hg6 bq5.size (fun k hk => by cases hk; exact Nat.le_refl _))
        refine hKreg.out _ _ ((HSK.out _ (by first | exact bq7 | exact bq6 | exact bq5 | exact bq1))) (fun hHeld => ?_)
        clear hKreg Kreg
        try simp only [Act.put, List.setIfInBounds_toArray, List.set_cons_zero, List.set_cons_succ]
        refine take1 (i := 11) (d := 15) (v := ?_) rfl (by kernel_rfl) (by kernel_rfl) (by kernel_rfl) rfl (fun _ _ _ h => h) (Or.inl ⟨by rfl, ?_⟩) (by assumption) ?_
        rotate_left
        · (intro w hSw; (try dsimp only at hSw); go_simp); with_reducible rfl
        simp only [List.set_cons_zero, List.set_cons_succ]
        refine wpAnyH_done (by kernel_rfl) ?_ _
        go_wp2_with fail
        go_meet
        first
          | exact ⟨_, A2, c2, rfl, rfl, k6, HF1.out A2 c2 w5 w6 hr5 ha5 bq5 hg6, bq7⟩
          | exact ⟨_, A2, c2, rfl, rfl, k6, HF2.out A2 c2 w5 w6 hr5 ha5 bq5 hg6, bq7⟩
    case rest =>
      obtain ⟨gn, A2, c2, rfl, rfl, kn, hrf, B5⟩ := hcut
      clear HADW bq0 bq1 kn0 HSK
      obtain ⟨w5, rfl⟩ : ∃ w5 : World, w5 = wc := ⟨_, rfl⟩
      have bw5 := HBW.out.trans (B5.mono HBW.out.size)
      have y0 := kn.cell 0
      have y1 := kn.cell 1
      have y2 := kn.cell 2
      obtain ⟨w6, hst, kw6, hg6⟩ := st_rr (HKB.out.1.below B5 HKB.out.1.lt) rfl bn br A2 m2 c2
      have o6 : Outs [gw] w5 w6 := Outs.of_grown hg6 (by simp)
      have bw6 : Below w.heap.size w w6 := bw5.trans (o6.below bw5.size (fun k hk => by rw [List.mem_singleton.1 hk]; exact HBS.out.2.2.2.2.2))
      have r6 := (HR13.out.below B5).out o6 (by have := HBS.out; simp; omega) (by have := HBS.out; simp; omega)
      have kb6 := o6.blk (HKB.out.2.below B5 HKB.out.2.lt) (by have := HBS.out; simp; omega)
      have HA2 : Hid (∀ ad, A2 = some ad → gw < ad.block ∧ ad.block < w6.heap.size ∧ (ad.block < wo.heap.size ∨ w13.heap.size < ad.block + 1)) := fun ad e => by
        have h1 := hrf.out.2 ad e
        have h2 := o6.size
        omega
      have HRF6 : Hid (RefR w w6 b L2 A2 c2) := hrf.out.1.out o6 (fun ad e => by have := HA2.out ad e; simp; omega)
      have hr6 := rows_out (HO13.out.2.1.below B5) o6 (fun ad e => by have h1 := HO13.out.2.2 ad e; have h2 := HOS.out; simp; omega)
      have HO6 := Lib.hid (And.intro hr6 (show ∀ ad, A13 = some ad → ad.block ∉ [g, mg] from fun ad e => by have h1 := HO13.out.2.2 ad e; have h2 := HOS.out; simp; omega))
      have HTL : Hid (∀ a, A13 = some a → Tail w6 a V 0) := fun a e => by
        subst e
        have h1 := (Tail.of_own HO13.out.1 HXR.out.2.1)
        have h2 := h1.1.out (Outs.of_below B5 (S := [gw])) (by have h3 := h1.2; have h4 := HOS.out; simp; omega)
        exact h2.out o6 (by have h3 := h1.2; have h4 := HOS.out; simp; omega)
      have HSZ6 : Hid (w13.heap.size ≤ w6.heap.size) := Nat.le_trans B5.size o6.size
      have HOB := Lib.hid (show ∀ a, A13 = some a → wo.heap.size ≤ a.block ∧ a.block < w13.heap.size from fun a e => by
        subst e
        exact ⟨(Tail.of_own HO13.out.1 HXR.out.2.1).2, (HO13.out.1.lt a.block rfl).2⟩)
      have HKW6 := Lib.hid (And.intro kw6 kb6)
      clear o6 hg6 hrf bw5 B5 HKB HR13 hr6 HBW HB13 kb6 kw6
      go_upto_region 15 with (refine wpList_store (by rfl) (.tmp 11) (.tmp 77) (by rfl) (by rfl) (by rfl) hst ?_)
      clear hst kn y0 y1 y2
      have r7 : RoS w.heap.size g mg (roOf b Lc) w6.drew := r6.below (Below.refl _ w6).drew
      have bw7 := bw6.drew
      have HPA := Lib.hid (HPAD.out w6.drew A13 c13 bw7 r7 HO6.out.1 HO6.out.2)
      have HS15 : Hid (∀ W, Below w.heap.size w W → W.cell? (ad.add (i * 3)) = some (.int .u8 (xn : Int)) ∧ W.cell? { block := (ad.add (i * 3)).block, off := (ad.add (i * 3)).off + 1 } = some (.int .u64 (xb : Int))) := fun W hb => ⟨(HCS.out W hb).1, (HCS.out W hb).2.1⟩
      have HR6 := Lib.hid (And.intro r6 bw6)
      clear HPAD r6 bw6
      refine wp_region_held_drew (S := (fun W : World => W.cell? (ad.add (i * 3)) = some (.int .u8 (xn : Int)) ∧ W.cell? { block := (ad.add (i * 3)).block, off := (ad.add (i * 3)).off + 1 } = some (.int .u64 (xb : Int)))) (by kernel_rfl) (HS15.out _ bw7) (fun hHeld => ?_)
      refine take1 (i := 0) (d := 78) (v := ?_) rfl (by kernel_rfl) (by kernel_rfl) (by kernel_rfl) rfl (fun _ _ _ h => h) (Or.inl ⟨by rfl, ?_⟩) (by assumption) ?_
      rotate_left
      · (intro w hSw; (try dsimp only at hSw); go_simp); with_reducible rfl
      simp only [List.set_cons_zero, List.set_cons_succ]
      refine take1 (i := 1) (d := 79) (v := ?_) rfl (by kernel_rfl) (by kernel_rfl) (by kernel_rfl) rfl (fun _ _ _ h => h) (Or.inl ⟨by rfl, ?_⟩) (by assumption) ?_
      rotate_left
      · (intro w hSw; (try dsimp only at hSw); go_simp); with_reducible rfl
      simp only [List.set_cons_zero, List.set_cons_succ]
      refine take1 (i := 2) (d := 80) (v := ?_) rfl (by kernel_rfl) (by kernel_rfl) (by kernel_rfl) rfl (fun _ _ _ h => h) (Or.inl ⟨by rfl, ?_⟩) (by assumption) ?_
      rotate_left
      · (intro w hSw; (try dsimp only at hSw); go_simp); with_reducible rfl
      simp only [List.set_cons_zero, List.set_cons_succ]
      refine take1 (i := 3) (d := 81) (v := ?_) rfl (by kernel_rfl) (by kernel_rfl) (by kernel_rfl) rfl (fun _ _ _ h => h) (Or.inl ⟨by rfl, ?_⟩) (by assumption) ?_
      rotate_left
      · (intro w hSw; (try dsimp only at hSw); go_simp); with_reducible rfl
      simp only [List.set_cons_zero, List.set_cons_succ]
      refine take1 (i := 4) (d := 82) (v := ?_) rfl (by kernel_rfl) (by kernel_rfl) (by kernel_rfl) rfl (fun _ _ _ h => h) (Or.inl ⟨by rfl, ?_⟩) (by assumption) ?_
      rotate_left
      · (intro w hSw; (try dsimp only at hSw); go_simp); with_reducible rfl
      simp only [List.set_cons_zero, List.set_cons_succ]
      refine take1 (i := 5) (d := 83) (v := ?_) rfl (by kernel_rfl) (by kernel_rfl) (by kernel_rfl) rfl (fun _ _ _ h => h) (Or.inl ⟨by rfl, ?_⟩) (by assumption) ?_
      rotate_left
      · (intro w hSw; obtain ⟨z0, z1⟩ := hSw; go_simp); with_reducible rfl
      simp only [List.set_cons_zero, List.set_cons_succ]
      refine take1 (i := 6) (d := 84) (v := ?_) rfl (by kernel_rfl) (by kernel_rfl) (by kernel_rfl) rfl (fun _ _ _ h => h) (Or.inl ⟨by rfl, ?_⟩) (by assumption) ?_
      rotate_left
      · (intro w hSw; (try dsimp only at hSw); go_simp); with_reducible rfl
      simp only [List.set_cons_zero, List.set_cons_succ]
      refine take1 (i := 7) (d := 85) (v := ?_) rfl (by kernel_rfl) (by kernel_rfl) (by kernel_rfl) rfl (fun _ _ _ h => h) (Or.inl ⟨by rfl, ?_⟩) (by assumption) ?_
      rotate_left
      · (intro w hSw; (try dsimp only at hSw); go_simp); with_reducible rfl
      simp only [List.set_cons_zero, List.set_cons_succ]
      refine take1 (i := 8) (d := 86) (v := ?_) rfl (by kernel_rfl) (by kernel_rfl) (by kernel_rfl) rfl (fun _ _ _ h => h) (Or.inl ⟨by rfl, ?_⟩) (by assumption) ?_
      rotate_left
      · (intro w hSw; (try dsimp only at hSw); go_simp); with_reducible rfl
      simp only [List.set_cons_zero, List.set_cons_succ]
      refine take1 (i := 9) (d := 87) (v := ?_) rfl (by kernel_rfl) (by kernel_rfl) (by kernel_rfl) rfl (fun _ _ _ h => h) (Or.inl ⟨by rfl, ?_⟩) (by assumption) ?_
      rotate_left
      · (intro w hSw; (try dsimp only at hSw); go_simp); with_reducible rfl
      simp only [List.set_cons_zero, List.set_cons_succ]
      refine take1 (i := 10) (d := 88) (v := ?_) rfl (by kernel_rfl) (by kernel_rfl) (by kernel_rfl) rfl (fun _ _ _ h => h) (Or.inl ⟨by rfl, ?_⟩) (by assumption) ?_
      rotate_left
      · (intro w hSw; obtain ⟨z0, z1⟩ := hSw; go_simp); with_reducible rfl
      simp only [List.set_cons_zero, List.set_cons_succ]
      refine take1 (i := 11) (d := 89) (v := ?_) rfl (by kernel_rfl) (by kernel_rfl) (by kernel_rfl) rfl (fun _ _ _ h => h) (Or.inl ⟨by rfl, ?_⟩) (by assumption) ?_
      rotate_left
      · (intro w hSw; (try dsimp only at hSw); go_simp); with_reducible rfl
      simp only [List.set_cons_zero, List.set_cons_succ]
      refine take1 (i := 13) (d := 91) (v := ?_) rfl (by kernel_rfl) (by kernel_rfl) (by kernel_rfl) rfl (fun _ _ _ h => h) (Or.inl ⟨by rfl, ?_⟩) (by assumption) ?_
      rotate_left
      · (intro w hSw; (try dsimp only at hSw); go_simp); with_reducible rfl
      simp only [List.set_cons_zero, List.set_cons_succ]
      refine wpAnyH_ready (rs := [12]) (by kernel_rfl) (by simp) (AllReadyH.cons rfl (fun Kreg hKreg => ?_) AllReadyH.nil)
      go_simp
      refine HPA.out.mono ?_; rintro e w8 ⟨rfl, r8, o8⟩; have bw8 := r7.bw o8 bw7 (Nat.le_refl _)
      go_wp2_with fail
      refine hKreg.out _ _ ((HS15.out _ bw8)) (fun hHeld => ?_)
      clear hKreg Kreg
      try simp only [Act.put, List.setIfInBounds_toArray, List.set_cons_zero, List.set_cons_succ]
      refine take1 (i := 14) (d := 92) (v := ?_) rfl (by kernel_rfl) (by kernel_rfl) (by kernel_rfl) rfl (fun _ _ _ h => h) (Or.inl ⟨by rfl, ?_⟩) (by assumption) ?_
      rotate_left
      · (intro w hSw; (try dsimp only at hSw); go_simp); with_reducible rfl
      simp only [List.set_cons_zero, List.set_cons_succ]
      refine wpAnyH_done (by kernel_rfl) ?_ _
      clear HPA HS15 HO6 r7 bw7
      obtain ⟨g13, hg13⟩ : ∃ g13, g13 = (match A13 with | some a => a.block | none => w8.heap.size) := ⟨_, rfl⟩
      have hsz8 : w6.heap.size ≤ w8.heap.size := o8.size
      have HSZ8 := Lib.hid hsz8
      have HG13 : Hid ((∀ a, A13 = some a → a.block = g13) ∧ g ≠ g13 ∧ mg ≠ g13 ∧ gw ≠ g13 ∧ bx ≠ g13 ∧ w.heap.size ≤ g13 ∧ ∀ ad, A2 = some ad → ad.block ≠ g13) := by
        have h0 := HOS.out
        have h1 := HBS.out
        have h2 := HSZ6.out
        cases hA : A13 with
        | none =>
          rw [hA] at hg13
          dsimp only at hg13
          refine ⟨(fun a e => by cases e), ?_, ?_, ?_, ?_, ?_, fun ad e => ?_⟩
          · omega
          · omega
          · omega
          · omega
          · omega
          · have := HA2.out ad e; omega
        | some a =>
          rw [hA] at hg13
          dsimp only at hg13
          have h3 := HOB.out a hA
          refine ⟨(fun a' e => by cases e; exact hg13.symm), ?_, ?_, ?_, ?_, ?_, fun ad e => ?_⟩
          · omega
          · omega
          · omega
          · omega
          · omega
          · have := HA2.out ad e; omega
      have ho8 : Outs [g, mg] w6 w8 := (Outs.of_below (Below.refl _ w6).drew).trans o8
      have HTL8 : Hid (∀ a, A13 = some a → Tail w8 a V 0) := fun a e => (HTL.out a e).out ho8 (by have h1 := (HG13.out.1 a e); have h2 := HG13.out; simp; omega)
      have HRF8 : Hid (RefR w w8 b L2 A2 c2) := HRF6.out.out ho8 (fun ad e => by have h1 := HA2.out ad e; have h2 := HBS.out; simp; omega)
      have kw8 := ho8.blk HKW6.out.1 (by have h2 := HBS.out; simp; omega)
      have kb8 := ho8.blk HKW6.out.2 (by have h2 := HBS.out; simp; omega)
      have HE8 := Lib.hid (And.intro r8 (And.intro kw8 (And.intro kb8 bw8)))
      clear hg13 hsz8 ho8 o8 r8 kw8 kb8 bw8 HTL HRF6 HKW6 HR6
      go_wp2_with fail
      go_loopg [16] vn (fun gk2 v16 wr => ∃ k : Nat, k + gk2 = vn ∧ v16 = .int .i64 (k : Int) ∧ Outs [g13] w8 wr ∧ Hid (∀ a, A13 = some a → Tail wr a V k))
      case atStart => exact ⟨0, by omega, rfl, Outs.refl _ _, HTL8.out⟩
      case round =>
        clear HTL8
        obtain ⟨k, hk, rfl, oo, HT⟩ := hrel
        obtain ⟨wq, rfl⟩ : ∃ wq : World, wq = wr := ⟨_, rfl⟩
        have bw : Below w.heap.size w wq := HE8.out.2.2.2.trans (oo.below HE8.out.2.2.2.size (fun r hr => by rw [List.mem_singleton.1 hr]; exact HG13.out.2.2.2.2.2.1))
        by_cases h5 : k < vn
        · have hk5 : (k : Int) < (vn : Int) := by omega
          have hvnV : V.length = vn := HXR.out.2.1
          obtain ⟨y, hy⟩ : ∃ y, V[k]? = some y := ⟨_, List.getElem?_eq_getElem (by rw [hvnV]; exact h5)⟩
          have hk60 : (k : Int) < 60 := by have := HXR.out.2.2; omega
          obtain ⟨a13, hA, _⟩ := row4_all HO13.out.2.1 hy
          obtain ⟨ad2, hA2e, hds⟩ := row4_all HXR.out.1 hy
          have ht := HT.out a13 hA
          obtain ⟨hlt13, f0, f1, f2, f3⟩ := ht.at_ hy
          have hd := hds wq bw
          have e2 := (HCS.out wq bw).2.2
          obtain ⟨y0, yn, yr, yv⟩ := y
          dsimp only at hd f0 f1 f2 f3
          obtain ⟨d0, d1, d2, d3⟩ := hd
          have heq := fun W => run_eq_vote W (y0 : Int) (yn : Int) (yr : Int) ⟨yv.toArray⟩
          have HK := Lib.hid hk
          have HTT := Lib.hid (And.intro ht (And.intro oo (show k < V.length by rw [hvnV]; exact h5)))
          have HAB : Hid (a13.block = g13) := HG13.out.1 a13 hA
          have HA13E := Lib.hid hA
          have hds0 : wq.drew.cell? (ad2.add (k * 4)) = some (.int .u64 (y0 : Int)) := d0
          have hds1 : wq.drew.cell? { block := (ad2.add (k * 4)).block, off := (ad2.add (k * 4)).off + 1 } = some (.int .u64 (yn : Int)) := d1
          have hds2 : wq.drew.cell? { block := (ad2.add (k * 4)).block, off := (ad2.add (k * 4)).off + 2 } = some (.int .u8 (yr : Int)) := d2
          have hds3 : wq.drew.cell? { block := (ad2.add (k * 4)).block, off := (ad2.add (k * 4)).off + 3 } = some (.string ⟨yv.toArray⟩) := d3
          have hfs0 : wq.drew.cell? (a13.add (k * 4)) = some (.int .u64 (y0 : Int)) := f0
          have hfs1 : wq.drew.cell? { block := (a13.add (k * 4)).block, off := (a13.add (k * 4)).off + 1 } = some (.int .u64 (yn : Int)) := f1
          have hfs2 : wq.drew.cell? { block := (a13.add (k * 4)).block, off := (a13.add (k * 4)).off + 2 } = some (.int .u8 (yr : Int)) := f2
          have hfs3 : wq.drew.cell? { block := (a13.add (k * 4)).block, off := (a13.add (k * 4)).off + 3 } = some (.string ⟨yv.toArray⟩) := f3
          have he2 : wq.drew.cell? { block := (ad.add (i * 3)).block, off := (ad.add (i * 3)).off + 2 } = some (.slice xA vn xc) := e2
          rw [hA2e] at he2
          clear hy ht hds hk h5 oo hvnV HT hlt13 d0 d1 d2 d3 f0 f1 f2 f3 e2
          subst hA
          have HOF := Lib.hid (fun W => eof_any 99 0 W)
          unfold bV bC at HOF
          dsimp only at HOF
          go_wp2_with fail
          refine region_inv2 (by kernel_rfl) [] [(99, .slice (some a13) vn c13), (100, .int .i64 (k : Int)), (101, .pointer (some (a13.add (k * 4)))), (102, .agg #[.int .u64 (y0 : Int), .int .u64 (yn : Int), .int .u8 (yr : Int), .string ⟨yv.toArray⟩]), (103, .slice (some ad) n c), (104, .int .i64 (i : Int)), (105, .pointer (some (ad.add (i * 3)))), (106, .pointer (some { block := (ad.add (i * 3)).block, off := (ad.add (i * 3)).off + 2 })), (107, .slice (some ad2) vn xc), (108, .int .i64 (k : Int)), (109, .pointer (some (ad2.add (k * 4)))), (110, .agg #[.int .u64 (y0 : Int), .int .u64 (yn : Int), .int .u8 (yr : Int), .string ⟨yv.toArray⟩]), (111, .bool false)] (by kernel_rfl) (by kernel_rfl) rfl (by kernel_rfl) ?_ ?_ ?_
          · intro q hq; cases hq
          · refine And.intro ?_ ?_
            · intro d hd ρ W hcs bw hn hg
              cases hd
              have e13 : ρ (.tmp 13) = .slice (some a13) vn c13 := hn 13 (by decide)
              clear hn hg
              refine .inl ⟨trivial, ?_⟩
              refine .inl ⟨_, W, rfl, e13, Below.refl _ _⟩
            refine And.intro ?_ ?_
            · intro d hd ρ W hcs bw hn hg
              cases hd
              have e16 : ρ (.tmp 16) = .int .i64 (k : Int) := hn 16 (by decide)
              clear hn hg
              refine .inl ⟨trivial, ?_⟩
              refine .inl ⟨_, W, rfl, e16, Below.refl _ _⟩
            refine And.intro ?_ ?_
            · intro d hd ρ W hcs bw hn hg
              cases hd
              have e99 : ρ (.tmp 99) = .slice (some a13) vn c13 := hn 99 (by decide)
              have e100 : ρ (.tmp 100) = .int .i64 (k : Int) := hn 100 (by decide)
              clear hn hg
              refine .inl ⟨trivial, ?_⟩
              refine .inl ⟨.pointer (some (a13.add (k * 4))), W, ?_, rfl, Below.refl _ _⟩
              go_simp
            refine And.intro ?_ ?_
            · intro d hd ρ W hcs bw hn hg
              cases hd
              have e101 : ρ (.tmp 101) = .pointer (some (a13.add (k * 4))) := hn 101 (by decide)
              clear hn hg
              refine .inl ⟨trivial, ?_⟩
              have z0 : W.cell? (a13.add (k * 4)) = some (.int .u64 (y0 : Int)) := (bw.cell (cell_lt hfs0)).trans hfs0
              have z1 : W.cell? { block := (a13.add (k * 4)).block, off := (a13.add (k * 4)).off + 1 } = some (.int .u64 (yn : Int)) := (bw.cell (cell_lt hfs1)).trans hfs1
              have z2 : W.cell? { block := (a13.add (k * 4)).block, off := (a13.add (k * 4)).off + 2 } = some (.int .u8 (yr : Int)) := (bw.cell (cell_lt hfs2)).trans hfs2
              have z3 : W.cell? { block := (a13.add (k * 4)).block, off := (a13.add (k * 4)).off + 3 } = some (.string ⟨yv.toArray⟩) := (bw.cell (cell_lt hfs3)).trans hfs3
              refine .inl ⟨.agg #[.int .u64 (y0 : Int), .int .u64 (yn : Int), .int .u8 (yr : Int), .string ⟨yv.toArray⟩], W, ?_, rfl, Below.refl _ _⟩
              go_simp
            refine And.intro ?_ ?_
            · intro d hd ρ W hcs bw hn hg
              cases hd
              have e1 : ρ (.tmp 1) = .slice (some ad) n c := hn 1 (by decide)
              clear hn hg
              refine .inl ⟨trivial, ?_⟩
              refine .inl ⟨_, W, rfl, e1, Below.refl _ _⟩
            refine And.intro ?_ ?_
            · intro d hd ρ W hcs bw hn hg
              cases hd
              have e12 : ρ (.tmp 12) = .int .i64 (i : Int) := hn 12 (by decide)
              clear hn hg
              refine .inl ⟨trivial, ?_⟩
              refine .inl ⟨_, W, rfl, e12, Below.refl _ _⟩
            refine And.intro ?_ ?_
            · intro d hd ρ W hcs bw hn hg
              cases hd
              have e103 : ρ (.tmp 103) = .slice (some ad) n c := hn 103 (by decide)
              have e104 : ρ (.tmp 104) = .int .i64 (i : Int) := hn 104 (by decide)
              clear hn hg
              refine .inl ⟨trivial, ?_⟩
              refine .inl ⟨.pointer (some (ad.add (i * 3))), W, ?_, rfl, Below.refl _ _⟩
              go_simp
            refine And.intro ?_ ?_
            · intro d hd ρ W hcs bw hn hg
              cases hd
              have e105 : ρ (.tmp 105) = .pointer (some (ad.add (i * 3))) := hn 105 (by decide)
              clear hn hg
              refine .inl ⟨trivial, ?_⟩
              refine .inl ⟨.pointer (some { block := (ad.add (i * 3)).block, off := (ad.add (i * 3)).off + 2 }), W, ?_, rfl, Below.refl _ _⟩
              go_simp
            refine And.intro ?_ ?_
            · intro d hd ρ W hcs bw hn hg
              cases hd
              have e106 : ρ (.tmp 106) = .pointer (some { block := (ad.add (i * 3)).block, off := (ad.add (i * 3)).off + 2 }) := hn 106 (by decide)
              clear hn hg
              refine .inl ⟨trivial, ?_⟩
              have z0 : W.cell? { block := (ad.add (i * 3)).block, off := (ad.add (i * 3)).off + 2 } = some (.slice (some ad2) vn xc) := (bw.cell (cell_lt he2)).trans he2
              refine .inl ⟨.slice (some ad2) vn xc, W, ?_, rfl, Below.refl _ _⟩
              go_simp
            refine And.intro ?_ ?_
            · intro d hd ρ W hcs bw hn hg
              cases hd
              have e16 : ρ (.tmp 16) = .int .i64 (k : Int) := hn 16 (by decide)
              clear hn hg
              refine .inl ⟨trivial, ?_⟩
              refine .inl ⟨_, W, rfl, e16, Below.refl _ _⟩
            refine And.intro ?_ ?_
            · intro d hd ρ W hcs bw hn hg
              cases hd
              have e107 : ρ (.tmp 107) = .slice (some ad2) vn xc := hn 107 (by decide)
              have e108 : ρ (.tmp 108) = .int .i64 (k : Int) := hn 108 (by decide)
              clear hn hg
              refine .inl ⟨trivial, ?_⟩
              refine .inl ⟨.pointer (some (ad2.add (k * 4))), W, ?_, rfl, Below.refl _ _⟩
              go_simp
            refine And.intro ?_ ?_
            · intro d hd ρ W hcs bw hn hg
              cases hd
              have e109 : ρ (.tmp 109) = .pointer (some (ad2.add (k * 4))) := hn 109 (by decide)
              clear hn hg
              refine .inl ⟨trivial, ?_⟩
              have z0 : W.cell? (ad2.add (k * 4)) = some (.int .u64 (y0 : Int)) := (bw.cell (cell_lt hds0)).trans hds0
              have z1 : W.cell? { block := (ad2.add (k * 4)).block, off := (ad2.add (k * 4)).off + 1 } = some (.int .u64 (yn : Int)) := (bw.cell (cell_lt hds1)).trans hds1
              have z2 : W.cell? { block := (ad2.add (k * 4)).block, off := (ad2.add (k * 4)).off + 2 } = some (.int .u8 (yr : Int)) := (bw.cell (cell_lt hds2)).trans hds2
              have z3 : W.cell? { block := (ad2.add (k * 4)).block, off := (ad2.add (k * 4)).off + 3 } = some (.string ⟨yv.toArray⟩) := (bw.cell (cell_lt hds3)).trans hds3
              refine .inl ⟨.agg #[.int .u64 (y0 : Int), .int .u64 (yn : Int), .int .u8 (yr : Int), .string ⟨yv.toArray⟩], W, ?_, rfl, Below.refl _ _⟩
              go_simp
            refine And.intro ?_ ?_
            · intro d hd ρ W hcs bw hn hg
              cases hd
              have e102 : ρ (.tmp 102) = .agg #[.int .u64 (y0 : Int), .int .u64 (yn : Int), .int .u8 (yr : Int), .string ⟨yv.toArray⟩] := hn 102 (by decide)
              have e110 : ρ (.tmp 110) = .agg #[.int .u64 (y0 : Int), .int .u64 (yn : Int), .int .u8 (yr : Int), .string ⟨yv.toArray⟩] := hn 110 (by decide)
              clear hn hg
              refine .inl ⟨trivial, ?_⟩
              refine .inl ⟨.bool false, W, ?_, rfl, Below.refl _ _⟩
              go_simp
            trivial
          · intro a' w' hsz hdf hb hVs
            have q111 : a'.eval (.tmp 111) = .bool false := hVs 111
            have ha := slot_over_seg 99 13 [] rfl (by kernel_rfl) (of_decide_eq_true (by kernel_rfl)) hsz hdf hVs
            clear hVs hsz hdf
            rw [show List.range' 99 13 = [99, 100, 101, 102, 103, 104, 105, 106, 107, 108, 109, 110, 111] from rfl] at ha
            simp only [List.take_succ_cons, List.take_zero, List.drop_succ_cons, List.drop_zero, List.map_cons, List.map_nil, List.cons_append, List.nil_append, List.foldl_cons, List.foldl_nil, List.set_cons_zero, List.set_cons_succ, q111] at ha
            clear q111
            generalize a'.eval (.tmp 99) = x99 at ha
            generalize a'.eval (.tmp 100) = x100 at ha
            generalize a'.eval (.tmp 101) = x101 at ha
            generalize a'.eval (.tmp 102) = x102 at ha
            generalize a'.eval (.tmp 103) = x103 at ha
            generalize a'.eval (.tmp 104) = x104 at ha
            generalize a'.eval (.tmp 105) = x105 at ha
            generalize a'.eval (.tmp 106) = x106 at ha
            generalize a'.eval (.tmp 107) = x107 at ha
            generalize a'.eval (.tmp 108) = x108 at ha
            generalize a'.eval (.tmp 109) = x109 at ha
            generalize a'.eval (.tmp 110) = x110 at ha
            subst ha
            have HS2 := HTT.out.2.1.trans (Outs.of_below ((Below.refl _ wq).drew.trans hb))
            have ht2 := HTT.out.1.out (Outs.of_below ((Below.refl _ wq).drew.trans hb)) (S := []) (by simp)
            have HT2 := Lib.hid (And.intro ht2 HS2)
            clear hb bw heq hds0 hds1 hds2 hds3 hfs0 hfs1 hfs2 hfs3 he2 ht2 HS2
            go_wp2_with fail
            refine (HOF.out _).mono ?_; rintro e w9 ⟨rfl, B9⟩
            have ht9 := HT2.out.1.out (Outs.of_below B9) (S := []) (by simp)
            obtain ⟨wZ, hst, tZ, oZ⟩ := ht9.put HTT.out.2.2
            rw [HAB.out] at oZ
            have HZ := Lib.hid (And.intro tZ ((HT2.out.2.trans (Outs.of_below B9)).trans oZ))
            clear ht9 tZ oZ B9 HOF
            go_wp2_with (refine wpList_store (by rfl) (.tmp 116) (.tmp 115) (by rfl) (by rfl) (by rfl) hst ?_)
            go_roundg (vn - (k + 1))
            case measure => have := HK.out; omega
            case rel => exact ⟨k + 1, by have := HK.out; omega, by go_num, HZ.out.2, (fun a e => by cases e; exact HZ.out.1)⟩
        · have hk5 : ¬ (k : Int) < (vn : Int) := by omega
          have r9 := HE8.out.1.out oo (by have := HG13.out; simp; omega) (by have := HG13.out; simp; omega)
          have kw9 := oo.blk HE8.out.2.1 (by have := HG13.out; simp; omega)
          have kb9 := oo.blk HE8.out.2.2.1 (by have := HG13.out; simp; omega)
          have hrf9 := HRF8.out.out oo (fun ad e => by have := HG13.out.2.2.2.2.2.2 ad e; simpa using this)
          have HM2 : Hid (L2.length = m2) := HNX.out.1.symm
          have HSZ9 : Hid (w6.heap.size ≤ wq.heap.size) := Nat.le_trans HSZ8.out oo.size
          clear HE8 HRF8 oo HT hk h5
          obtain ⟨fl, hfl⟩ : ∃ f, f = (floorT L2).1 := ⟨_, rfl⟩
          obtain ⟨fb, hfb⟩ : ∃ f, f = (floorT L2).2 := ⟨_, rfl⟩
          obtain ⟨wh, hwh⟩ : ∃ f, f = setN (nodesT L2) := ⟨_, rfl⟩
          obtain ⟨la, hla⟩ : ∃ f, f = lastT (flatT L2) := ⟨_, rfl⟩
          have hb9 := Below.refl wq.heap.size wq
          have hkl : (nodesT L2).length = m2 := by unfold nodesT; rw [List.length_map]; exact HM2.out
          have hm100 : m2 ≤ 100 := by have := hrf9.len; have := HM2.out; omega
          have HEF : Hid (∀ W, Below wq.heap.size wq W → Calls Try.prog 56 #[(.pointer (some ⟨g, 0, none⟩))] W fun e w' => e = .returned (.tuple #[.int .u64 (fl : Int), .int .u8 (fb : Int)]) ∧ Below W.heap.size W w') := fun W hb => by rw [hfl, hfb]; exact efloor_any (r9.below hb)
          have HEB : Hid (∀ W, Below wq.heap.size wq W → Calls Try.prog 62 #[(.pointer (some ⟨g, 0, none⟩))] W fun e w' => e = .returned (.agg #[.int .u64 (bn : Int), .int .u8 (br : Int)]) ∧ Below W.heap.size W w') := fun W hb => by rw [← HB2.out.1, ← HB2.out.2]; exact eballot_any (r9.below hb)
          have HEW : Hid (∀ W, Below wq.heap.size wq W → Calls Try.prog 63 #[(.pointer (some ⟨g, 0, none⟩))] W fun e w' => e = .returned (.int .u8 (wh : Int)) ∧ W = w') := fun W hb => by rw [hwh]; exact ewho_any (r9.below hb)
          have HEL : Hid (∀ W, Below wq.heap.size wq W → Calls Try.prog 57 #[(.pointer (some ⟨g, 0, none⟩))] W fun e w' => e = .returned (.int .u64 (la : Int)) ∧ W = w') := fun W hb => by rw [hla]; exact elast_any (r9.below hb)
          have HRFL : Hid (∀ W, Below wq.heap.size wq W → Calls Try.prog 61 #[.agg #[.int .u64 (bn : Int), .int .u8 (br : Int), .slice A2 m2 c2]] W fun e w' => e = .returned (.tuple #[.int .u64 (fl : Int), .int .u8 (fb : Int)]) ∧ Below W.heap.size W w') := fun W hb => by
            have h := rfloor_any (hrf9.below hb) m2 HM2.out
            unfold rrC at h
            rw [HB2.out.1, HB2.out.2, ← hfl, ← hfb] at h
            exact h
          have HRWH : Hid (∀ W, Below wq.heap.size wq W → Calls Try.prog 65 #[.agg #[.int .u64 (bn : Int), .int .u8 (br : Int), .slice A2 m2 c2]] W fun e w' => ∃ u, e = .returned u ∧ NumsAt (nodesT L2) u w' ∧ Below W.heap.size W w') := fun W hb => by
            have h := rwho_at (hrf9.below hb) m2 HM2.out
            unfold rrC at h
            rw [HB2.out.1, HB2.out.2] at h
            exact h
          have HRLA : Hid (∀ W, Below wq.heap.size wq W → Calls Try.prog 66 #[.agg #[.int .u64 (bn : Int), .int .u8 (br : Int), .slice A2 m2 c2]] W fun e w' => e = .returned (.int .u64 (la : Int)) ∧ Below W.heap.size W w') := fun W hb => by
            have h := rlast_any (hrf9.below hb) (bw.mono (Nat.le_refl _) |>.trans (hb.mono bw.size)) m2 HM2.out
            unfold rrC at h
            rw [HB2.out.1, HB2.out.2, ← hla] at h
            exact h
          have HSET : Hid (∀ (A : Option Addr) (c : Nat) (W : World), Nums W A (nodesT L2) → Calls Try.prog 64 #[.slice A m2 c] W fun e w' => e = .returned (.int .u8 (wh : Int)) ∧ W = w') := fun A c W h => by rw [hwh]; exact setRef_any A m2 c (nodesT L2) hkl.symm (by unfold maxLen; omega) W h
          have HMJ : Hid (∀ (A A' : Option Addr) (c c' : Nat) (W : World), Reads W W.heap.size 1 A (listN cf).length ((listN cf).map u8v) → Reads W W.heap.size 1 A' m2 ((nodesT L2).map u8v) → Calls Try.prog 68 #[.slice A (listN cf).length c, .slice A' m2 c'] W fun e w' => e = .returned (.bool (majorB cf wh)) ∧ Below W.heap.size W w') := fun A A' c c' W h h' => by
            have h1 := majorRef_any A A' (listN cf).length m2 c c' (listN cf) (nodesT L2) rfl hkl.symm (by rw [len_list]; have := lenN_le cf; omega) (by omega) W h h'
            rw [major_who, ← hwh] at h1
            exact h1
          have HBO : Hid (∀ (s : Nat) (W : World), Below wq.heap.size wq W → Calls Try.prog 55 #[(.pointer (some ⟨g, 0, none⟩)), .int .u64 (s : Int)] W fun e w' => e = .returned (.tuple #[.string ⟨(boundV (roOf b L2) s).toArray⟩, .bool (boundB (roOf b L2) s)]) ∧ Below W.heap.size W w') := fun s W hb => ebound_any (r9.below hb) s
          have HRB : Hid (∀ (s : Nat) (W : World), Below wq.heap.size wq W → Calls Try.prog 67 #[.agg #[.int .u64 (bn : Int), .int .u8 (br : Int), .slice A2 m2 c2], .int .u64 (s : Int)] W fun e w' => e = .returned (.tuple #[.string ⟨(boundV (roOf b L2) s).toArray⟩, .bool (boundB (roOf b L2) s)]) ∧ Below W.heap.size W w') := fun s W hb => by
            have h := rbound_any (hrf9.below hb) (bw.mono (Nat.le_refl _) |>.trans (hb.mono bw.size)) m2 HM2.out s
            unfold rrC at h
            rw [HB2.out.1, HB2.out.2] at h
            exact h
          have HMA : Hid (∀ (s : Nat) (W : World), Below wq.heap.size wq W → Calls Try.prog 54 #[(.pointer (some ⟨g, 0, none⟩)), .int .u64 (s : Int), .int .u8 (cf : Int)] W fun e w' => e = .returned (.bool (decide (fl < s) && majorB cf wh)) ∧ W = w') := fun s W hb => by rw [hfl, hwh]; exact emay_any (r9.below hb) s cf HCF.out
          have HLI : Hid (∀ W, Calls Try.prog 69 #[.int .u8 (cf : Int)] W fun e w' => ∃ u, e = .returned u ∧ NumsAt (listN cf) u w' ∧ Below W.heap.size W w') := fun W => list_at cf HCF.out W
          have HKL := Lib.hid hkl
          have HE9 := Lib.hid (And.intro r9 (And.intro hrf9 (And.intro kw9 (And.intro kb9 bw))))
          clear hfl hfb hwh hla hkl hm100 r9 hrf9 bw
          have x0 := kw9.cell 0
          have x1 := kw9.cell 1
          have x2 := kw9.cell 2
          go_wp2_with fail
          refine (HEF.out _ hb9).mono ?_; rintro e wa ⟨rfl, Ba⟩
          have kwa := kw9.below Ba kw9.lt
          clear HEF x0 x1 x2
          have x0 := kwa.cell 0
          have x1 := kwa.cell 1
          have x2 := kwa.cell 2
          go_wp2_with fail
          refine (HRFL.out _ Ba).mono ?_; rintro e wb ⟨rfl, Bb⟩
          clear HRFL x0 x1 x2 kwa
          have bq := Ba.trans (Bb.mono Ba.size)
          have kwd : Blk wb.drew gw 93 #[.int .u64 (bn : Int), .int .u8 (br : Int), .slice A2 m2 c2] := kw9.below bq.drew kw9.lt
          have kbd : Blk wb.drew bx 71 #[.int .u64 (bn : Int), .int .u8 (br : Int)] := kb9.below bq.drew kb9.lt
          have bqd := bq.drew
          clear Ba Bb hb9 kw9 kb9
          have heqb := fun W => run_same_ballot W (bn : Int) (br : Int)
          go_upto_region 25 with fail
          refine region_inv2 (by kernel_rfl) [(135, NumsAt (nodesT L2))] [(127, .pointer (some ⟨g, 0, none⟩)), (128, .agg #[.int .u64 (bn : Int), .int .u8 (br : Int)]), (129, .agg #[.int .u64 (bn : Int), .int .u8 (br : Int)]), (130, .bool false), (131, .bool false), (132, .pointer (some ⟨g, 0, none⟩)), (133, .int .u8 (wh : Int)), (134, .agg #[.int .u64 (bn : Int), .int .u8 (br : Int), .slice A2 m2 c2]), (136, .int .u8 (wh : Int)), (137, .bool false), (138, .bool false), (139, .bool false), (140, .int .u64 (fl : Int)), (141, .int .u64 (fl : Int)), (142, .bool false), (143, .bool false), (144, .bool false), (145, .int .u8 (fb : Int)), (146, .int .u8 (fb : Int)), (147, .bool false), (148, .bool false), (149, .bool false), (150, .pointer (some ⟨g, 0, none⟩)), (151, .int .u64 (la : Int)), (152, .agg #[.int .u64 (bn : Int), .int .u8 (br : Int), .slice A2 m2 c2]), (153, .int .u64 (la : Int)), (154, .bool false), (155, .bool false)] (by kernel_rfl) (by kernel_rfl) rfl (by kernel_rfl) ?_ ?_ ?_
          · intro q hq
            obtain rfl := List.mem_singleton.1 hq
            exact NumsAt.below_ _
          · refine And.intro ?_ ?_
            · intro d hd ρ W hcs bw hn hg
              cases hd
              have e9 : ρ (.tmp 9) = .pointer (some ⟨g, 0, none⟩) := hn 9 (by decide)
              clear hn hg
              refine .inl ⟨trivial, ?_⟩
              refine .inl ⟨_, W, rfl, e9, Below.refl _ _⟩
            refine And.intro ?_ ?_
            · intro d hd ρ W hcs bw hn hg
              cases hd
              have e127 : ρ (.tmp 127) = .pointer (some ⟨g, 0, none⟩) := hn 127 (by decide)
              clear hn hg
              refine .inl ⟨trivial, ?_⟩
              have ef : ρ (.func 62) = .func (.func 62) #[] #[] := hcs.2 _
              refine .inr ⟨62, #[.pointer (some ⟨g, 0, none⟩)], ?_, (HEB.out W (bqd.trans (bw.mono bqd.size))).mono ?_⟩
              · go_simp
              · rintro e w2 ⟨rfl, B2⟩; exact ⟨_, rfl, rfl, B2⟩
            refine And.intro ?_ ?_
            · intro d hd ρ W hcs bw hn hg
              cases hd
              have e4 : ρ (.tmp 4) = .pointer (some ⟨bx, 0, none⟩) := hn 4 (by decide)
              clear hn hg
              refine .inl ⟨trivial, ?_⟩
              have z0 : W.cell? ⟨bx, 0, none⟩ = some (.int .u64 (bn : Int)) := (Blk.below kbd bw (Blk.lt kbd)).cell 0
              have z1 : W.cell? ⟨bx, 1, none⟩ = some (.int .u8 (br : Int)) := (Blk.below kbd bw (Blk.lt kbd)).cell 1
              refine .inl ⟨.agg #[.int .u64 (bn : Int), .int .u8 (br : Int)], W, ?_, rfl, Below.refl _ _⟩
              go_simp
            refine And.intro ?_ ?_
            · intro d hd ρ W hcs bw hn hg
              cases hd
              have e128 : ρ (.tmp 128) = .agg #[.int .u64 (bn : Int), .int .u8 (br : Int)] := hn 128 (by decide)
              have e129 : ρ (.tmp 129) = .agg #[.int .u64 (bn : Int), .int .u8 (br : Int)] := hn 129 (by decide)
              clear hn hg
              refine .inl ⟨trivial, ?_⟩
              refine .inl ⟨.bool false, W, ?_, rfl, Below.refl _ _⟩
              go_simp
            refine And.intro ?_ ?_
            · intro d hd ρ W hcs bw hn hg
              cases hd
              have e130 : ρ (.tmp 130) = .bool false := hn 130 (by decide)
              clear hn hg
              refine .inl ⟨trivial, ?_⟩
              refine .inl ⟨_, W, rfl, e130, Below.refl _ _⟩
            refine And.intro ?_ ?_
            · intro d hd ρ W hcs bw hn hg
              cases hd
              have eg : ρ (.tmp 131) = .bool false := hg _ _ _ _ rfl rfl rfl
              have e9 : ρ (.tmp 9) = .pointer (some ⟨g, 0, none⟩) := hn 9 (by decide)
              clear hn hg
              refine .inl ⟨⟨_, _, rfl, rfl, eg⟩, ?_⟩
              refine .inl ⟨_, W, rfl, e9, Below.refl _ _⟩
            refine And.intro ?_ ?_
            · intro d hd ρ W hcs bw hn hg
              cases hd
              have eg : ρ (.tmp 131) = .bool false := hg _ _ _ _ rfl rfl rfl
              have e132 : ρ (.tmp 132) = .pointer (some ⟨g, 0, none⟩) := hn 132 (by decide)
              clear hn hg
              refine .inl ⟨⟨_, _, rfl, rfl, eg⟩, ?_⟩
              have ef : ρ (.func 63) = .func (.func 63) #[] #[] := hcs.2 _
              refine .inr ⟨63, #[.pointer (some ⟨g, 0, none⟩)], ?_, (HEW.out W (bqd.trans (bw.mono bqd.size))).mono ?_⟩
              · go_simp
              · rintro e w2 ⟨rfl, rfl⟩; exact ⟨_, rfl, rfl, Below.refl _ _⟩
            refine And.intro ?_ ?_
            · intro d hd ρ W hcs bw hn hg
              cases hd
              have eg : ρ (.tmp 131) = .bool false := hg _ _ _ _ rfl rfl rfl
              have e11 : ρ (.tmp 11) = .pointer (some ⟨gw, 0, none⟩) := hn 11 (by decide)
              clear hn hg
              refine .inl ⟨⟨_, _, rfl, rfl, eg⟩, ?_⟩
              have z0 : W.cell? ⟨gw, 0, none⟩ = some (.int .u64 (bn : Int)) := (Blk.below kwd bw (Blk.lt kwd)).cell 0
              have z1 : W.cell? ⟨gw, 1, none⟩ = some (.int .u8 (br : Int)) := (Blk.below kwd bw (Blk.lt kwd)).cell 1
              have z2 : W.cell? ⟨gw, 2, none⟩ = some (.slice A2 m2 c2) := (Blk.below kwd bw (Blk.lt kwd)).cell 2
              refine .inl ⟨.agg #[.int .u64 (bn : Int), .int .u8 (br : Int), .slice A2 m2 c2], W, ?_, rfl, Below.refl _ _⟩
              go_simp
            refine And.intro ?_ ?_
            · intro d hd ρ W hcs bw hn hg
              cases hd
              have eg : ρ (.tmp 131) = .bool false := hg _ _ _ _ rfl rfl rfl
              have e134 : ρ (.tmp 134) = .agg #[.int .u64 (bn : Int), .int .u8 (br : Int), .slice A2 m2 c2] := hn 134 (by decide)
              clear hn hg
              refine .inl ⟨⟨_, _, rfl, rfl, eg⟩, ?_⟩
              have ef : ρ (.func 65) = .func (.func 65) #[] #[] := hcs.2 _
              refine .inr ⟨65, #[.agg #[.int .u64 (bn : Int), .int .u8 (br : Int), .slice A2 m2 c2]], ?_, (HRWH.out W (bqd.trans (bw.mono bqd.size))).mono ?_⟩
              · go_simp
              · rintro e w2 ⟨u, rfl, hu, B2⟩; exact ⟨_, rfl, hu, B2⟩
            refine And.intro ?_ ?_
            · intro d hd ρ W hcs bw hn hg
              cases hd
              have eg : ρ (.tmp 131) = .bool false := hg _ _ _ _ rfl rfl rfl
              have e135 : (NumsAt (nodesT L2)) (ρ (.tmp 135)) W := hn 135 (by decide)
              clear hn hg
              refine .inl ⟨⟨_, _, rfl, rfl, eg⟩, ?_⟩
              obtain ⟨A135, c135, er135, hn135⟩ := e135
              rw [HKL.out] at er135
              have ef : ρ (.func 64) = .func (.func 64) #[] #[] := hcs.2 _
              refine .inr ⟨64, #[.slice A135 m2 c135], ?_, (HSET.out A135 c135 W (nums_reads hn135)).mono ?_⟩
              · go_simp
              · rintro e w2 ⟨rfl, rfl⟩; exact ⟨_, rfl, rfl, Below.refl _ _⟩
            refine And.intro ?_ ?_
            · intro d hd ρ W hcs bw hn hg
              cases hd
              have eg : ρ (.tmp 131) = .bool false := hg _ _ _ _ rfl rfl rfl
              have e133 : ρ (.tmp 133) = .int .u8 (wh : Int) := hn 133 (by decide)
              have e136 : ρ (.tmp 136) = .int .u8 (wh : Int) := hn 136 (by decide)
              clear hn hg
              refine .inl ⟨⟨_, _, rfl, rfl, eg⟩, ?_⟩
              refine .inl ⟨.bool false, W, ?_, rfl, Below.refl _ _⟩
              go_simp
            refine And.intro ?_ ?_
            · intro d hd ρ W hcs bw hn hg
              cases hd
              have e131 : ρ (.tmp 131) = .bool false := hn 131 (by decide)
              have e137 : ρ (.tmp 137) = .bool false := hn 137 (by decide)
              clear hn hg
              refine .inl ⟨trivial, ?_⟩
              have hc1 := hcs.1
              refine .inl ⟨.bool false, W, ?_, rfl, Below.refl _ _⟩
              go_simp
            refine And.intro ?_ ?_
            · intro d hd ρ W hcs bw hn hg
              cases hd
              have e138 : ρ (.tmp 138) = .bool false := hn 138 (by decide)
              clear hn hg
              refine .inl ⟨trivial, ?_⟩
              refine .inl ⟨_, W, rfl, e138, Below.refl _ _⟩
            refine And.intro ?_ ?_
            · intro d hd ρ W hcs bw hn hg
              cases hd
              have eg : ρ (.tmp 139) = .bool false := hg _ _ _ _ rfl rfl rfl
              have e17 : ρ (.tmp 17) = .int .u64 (fl : Int) := hn 17 (by decide)
              clear hn hg
              refine .inl ⟨⟨_, _, rfl, rfl, eg⟩, ?_⟩
              refine .inl ⟨_, W, rfl, e17, Below.refl _ _⟩
            refine And.intro ?_ ?_
            · intro d hd ρ W hcs bw hn hg
              cases hd
              have eg : ρ (.tmp 139) = .bool false := hg _ _ _ _ rfl rfl rfl
              have e19 : ρ (.tmp 19) = .int .u64 (fl : Int) := hn 19 (by decide)
              clear hn hg
              refine .inl ⟨⟨_, _, rfl, rfl, eg⟩, ?_⟩
              refine .inl ⟨_, W, rfl, e19, Below.refl _ _⟩
            refine And.intro ?_ ?_
            · intro d hd ρ W hcs bw hn hg
              cases hd
              have eg : ρ (.tmp 139) = .bool false := hg _ _ _ _ rfl rfl rfl
              have e140 : ρ (.tmp 140) = .int .u64 (fl : Int) := hn 140 (by decide)
              have e141 : ρ (.tmp 141) = .int .u64 (fl : Int) := hn 141 (by decide)
              clear hn hg
              refine .inl ⟨⟨_, _, rfl, rfl, eg⟩, ?_⟩
              refine .inl ⟨.bool false, W, ?_, rfl, Below.refl _ _⟩
              go_simp
            refine And.intro ?_ ?_
            · intro d hd ρ W hcs bw hn hg
              cases hd
              have e139 : ρ (.tmp 139) = .bool false := hn 139 (by decide)
              have e142 : ρ (.tmp 142) = .bool false := hn 142 (by decide)
              clear hn hg
              refine .inl ⟨trivial, ?_⟩
              have hc1 := hcs.1
              refine .inl ⟨.bool false, W, ?_, rfl, Below.refl _ _⟩
              go_simp
            refine And.intro ?_ ?_
            · intro d hd ρ W hcs bw hn hg
              cases hd
              have e143 : ρ (.tmp 143) = .bool false := hn 143 (by decide)
              clear hn hg
              refine .inl ⟨trivial, ?_⟩
              refine .inl ⟨_, W, rfl, e143, Below.refl _ _⟩
            refine And.intro ?_ ?_
            · intro d hd ρ W hcs bw hn hg
              cases hd
              have eg : ρ (.tmp 144) = .bool false := hg _ _ _ _ rfl rfl rfl
              have e18 : ρ (.tmp 18) = .int .u8 (fb : Int) := hn 18 (by decide)
              clear hn hg
              refine .inl ⟨⟨_, _, rfl, rfl, eg⟩, ?_⟩
              refine .inl ⟨_, W, rfl, e18, Below.refl _ _⟩
            refine And.intro ?_ ?_
            · intro d hd ρ W hcs bw hn hg
              cases hd
              have eg : ρ (.tmp 144) = .bool false := hg _ _ _ _ rfl rfl rfl
              have e20 : ρ (.tmp 20) = .int .u8 (fb : Int) := hn 20 (by decide)
              clear hn hg
              refine .inl ⟨⟨_, _, rfl, rfl, eg⟩, ?_⟩
              refine .inl ⟨_, W, rfl, e20, Below.refl _ _⟩
            refine And.intro ?_ ?_
            · intro d hd ρ W hcs bw hn hg
              cases hd
              have eg : ρ (.tmp 144) = .bool false := hg _ _ _ _ rfl rfl rfl
              have e145 : ρ (.tmp 145) = .int .u8 (fb : Int) := hn 145 (by decide)
              have e146 : ρ (.tmp 146) = .int .u8 (fb : Int) := hn 146 (by decide)
              clear hn hg
              refine .inl ⟨⟨_, _, rfl, rfl, eg⟩, ?_⟩
              refine .inl ⟨.bool false, W, ?_, rfl, Below.refl _ _⟩
              go_simp
            refine And.intro ?_ ?_
            · intro d hd ρ W hcs bw hn hg
              cases hd
              have e144 : ρ (.tmp 144) = .bool false := hn 144 (by decide)
              have e147 : ρ (.tmp 147) = .bool false := hn 147 (by decide)
              clear hn hg
              refine .inl ⟨trivial, ?_⟩
              have hc1 := hcs.1
              refine .inl ⟨.bool false, W, ?_, rfl, Below.refl _ _⟩
              go_simp
            refine And.intro ?_ ?_
            · intro d hd ρ W hcs bw hn hg
              cases hd
              have e148 : ρ (.tmp 148) = .bool false := hn 148 (by decide)
              clear hn hg
              refine .inl ⟨trivial, ?_⟩
              refine .inl ⟨_, W, rfl, e148, Below.refl _ _⟩
            refine And.intro ?_ ?_
            · intro d hd ρ W hcs bw hn hg
              cases hd
              have eg : ρ (.tmp 149) = .bool false := hg _ _ _ _ rfl rfl rfl
              have e9 : ρ (.tmp 9) = .pointer (some ⟨g, 0, none⟩) := hn 9 (by decide)
              clear hn hg
              refine .inl ⟨⟨_, _, rfl, rfl, eg⟩, ?_⟩
              refine .inl ⟨_, W, rfl, e9, Below.refl _ _⟩
            refine And.intro ?_ ?_
            · intro d hd ρ W hcs bw hn hg
              cases hd
              have eg : ρ (.tmp 149) = .bool false := hg _ _ _ _ rfl rfl rfl
              have e150 : ρ (.tmp 150) = .pointer (some ⟨g, 0, none⟩) := hn 150 (by decide)
              clear hn hg
              refine .inl ⟨⟨_, _, rfl, rfl, eg⟩, ?_⟩
              have ef : ρ (.func 57) = .func (.func 57) #[] #[] := hcs.2 _
              refine .inr ⟨57, #[.pointer (some ⟨g, 0, none⟩)], ?_, (HEL.out W (bqd.trans (bw.mono bqd.size))).mono ?_⟩
              · go_simp
              · rintro e w2 ⟨rfl, rfl⟩; exact ⟨_, rfl, rfl, Below.refl _ _⟩
            refine And.intro ?_ ?_
            · intro d hd ρ W hcs bw hn hg
              cases hd
              have eg : ρ (.tmp 149) = .bool false := hg _ _ _ _ rfl rfl rfl
              have e11 : ρ (.tmp 11) = .pointer (some ⟨gw, 0, none⟩) := hn 11 (by decide)
              clear hn hg
              refine .inl ⟨⟨_, _, rfl, rfl, eg⟩, ?_⟩
              have z0 : W.cell? ⟨gw, 0, none⟩ = some (.int .u64 (bn : Int)) := (Blk.below kwd bw (Blk.lt kwd)).cell 0
              have z1 : W.cell? ⟨gw, 1, none⟩ = some (.int .u8 (br : Int)) := (Blk.below kwd bw (Blk.lt kwd)).cell 1
              have z2 : W.cell? ⟨gw, 2, none⟩ = some (.slice A2 m2 c2) := (Blk.below kwd bw (Blk.lt kwd)).cell 2
              refine .inl ⟨.agg #[.int .u64 (bn : Int), .int .u8 (br : Int), .slice A2 m2 c2], W, ?_, rfl, Below.refl _ _⟩
              go_simp
            refine And.intro ?_ ?_
            · intro d hd ρ W hcs bw hn hg
              cases hd
              have eg : ρ (.tmp 149) = .bool false := hg _ _ _ _ rfl rfl rfl
              have e152 : ρ (.tmp 152) = .agg #[.int .u64 (bn : Int), .int .u8 (br : Int), .slice A2 m2 c2] := hn 152 (by decide)
              clear hn hg
              refine .inl ⟨⟨_, _, rfl, rfl, eg⟩, ?_⟩
              have ef : ρ (.func 66) = .func (.func 66) #[] #[] := hcs.2 _
              refine .inr ⟨66, #[.agg #[.int .u64 (bn : Int), .int .u8 (br : Int), .slice A2 m2 c2]], ?_, (HRLA.out W (bqd.trans (bw.mono bqd.size))).mono ?_⟩
              · go_simp
              · rintro e w2 ⟨rfl, B2⟩; exact ⟨_, rfl, rfl, B2⟩
            refine And.intro ?_ ?_
            · intro d hd ρ W hcs bw hn hg
              cases hd
              have eg : ρ (.tmp 149) = .bool false := hg _ _ _ _ rfl rfl rfl
              have e151 : ρ (.tmp 151) = .int .u64 (la : Int) := hn 151 (by decide)
              have e153 : ρ (.tmp 153) = .int .u64 (la : Int) := hn 153 (by decide)
              clear hn hg
              refine .inl ⟨⟨_, _, rfl, rfl, eg⟩, ?_⟩
              refine .inl ⟨.bool false, W, ?_, rfl, Below.refl _ _⟩
              go_simp
            refine And.intro ?_ ?_
            · intro d hd ρ W hcs bw hn hg
              cases hd
              have e149 : ρ (.tmp 149) = .bool false := hn 149 (by decide)
              have e154 : ρ (.tmp 154) = .bool false := hn 154 (by decide)
              clear hn hg
              refine .inl ⟨trivial, ?_⟩
              have hc1 := hcs.1
              refine .inl ⟨.bool false, W, ?_, rfl, Below.refl _ _⟩
              go_simp
            trivial
          · intro a' w' hsz hdf hb hVs
            have q155 : a'.eval (.tmp 155) = .bool false := hVs 155
            have ha := slot_over_seg 127 29 [] rfl (by kernel_rfl) (of_decide_eq_true (by kernel_rfl)) hsz hdf hVs
            clear hVs hsz hdf
            rw [show List.range' 127 29 = [127, 128, 129, 130, 131, 132, 133, 134, 135, 136, 137, 138, 139, 140, 141, 142, 143, 144, 145, 146, 147, 148, 149, 150, 151, 152, 153, 154, 155] from rfl] at ha
            simp only [List.take_succ_cons, List.take_zero, List.drop_succ_cons, List.drop_zero, List.map_cons, List.map_nil, List.cons_append, List.nil_append, List.foldl_cons, List.foldl_nil, List.set_cons_zero, List.set_cons_succ, q155] at ha
            clear q155
            generalize a'.eval (.tmp 127) = x127 at ha
            generalize a'.eval (.tmp 128) = x128 at ha
            generalize a'.eval (.tmp 129) = x129 at ha
            generalize a'.eval (.tmp 130) = x130 at ha
            generalize a'.eval (.tmp 131) = x131 at ha
            generalize a'.eval (.tmp 132) = x132 at ha
            generalize a'.eval (.tmp 133) = x133 at ha
            generalize a'.eval (.tmp 134) = x134 at ha
            generalize a'.eval (.tmp 135) = x135 at ha
            generalize a'.eval (.tmp 136) = x136 at ha
            generalize a'.eval (.tmp 137) = x137 at ha
            generalize a'.eval (.tmp 138) = x138 at ha
            generalize a'.eval (.tmp 139) = x139 at ha
            generalize a'.eval (.tmp 140) = x140 at ha
            generalize a'.eval (.tmp 141) = x141 at ha
            generalize a'.eval (.tmp 142) = x142 at ha
            generalize a'.eval (.tmp 143) = x143 at ha
            generalize a'.eval (.tmp 144) = x144 at ha
            generalize a'.eval (.tmp 145) = x145 at ha
            generalize a'.eval (.tmp 146) = x146 at ha
            generalize a'.eval (.tmp 147) = x147 at ha
            generalize a'.eval (.tmp 148) = x148 at ha
            generalize a'.eval (.tmp 149) = x149 at ha
            generalize a'.eval (.tmp 150) = x150 at ha
            generalize a'.eval (.tmp 151) = x151 at ha
            generalize a'.eval (.tmp 152) = x152 at ha
            generalize a'.eval (.tmp 153) = x153 at ha
            generalize a'.eval (.tmp 154) = x154 at ha
            subst ha
            have bz := bqd.trans (hb.mono bqd.size)
            have HBZ := Lib.hid bz
            clear hb bq bqd kwd kbd heqb HEB HEW HEL HRLA HSET
            have kw := HE9.out.2.2.1.below bz HE9.out.2.2.1.lt
            have HKW := Lib.hid kw
            clear kw bz
            obtain ⟨wd, hwd⟩ : ∃ wd : World, wd = w' := ⟨_, rfl⟩
            rw [← hwd] at HKW HBZ ⊢
            clear hwd
            have bi := Below.refl wd.heap.size wd
            go_wp2_with fail
            go_loopg [21] 12 (fun gk3 v21 wr => ∃ k : Nat, k + gk3 = 12 ∧ v21 = .int .i64 (k : Int) ∧ Below wd.heap.size wd wr)
            case atStart => exact ⟨0, by omega, rfl, bi⟩
            case round =>
              clear bi
              obtain ⟨k3, hk3, rfl, bi⟩ := hrel
              obtain ⟨we, rfl⟩ : ∃ we : World, we = wr := ⟨_, rfl⟩
              by_cases h12 : k3 < 12
              · have hk12 : (k3 : Int) < 12 := by omega
                have HK3 := Lib.hid hk3
                have hwk : IntKind.u64.wrap (k3 : Int) = (k3 : Int) := by rw [IntKind.wrap_u64]; omega
                obtain ⟨at_, hat⟩ : ∃ x : Nat, IntKind.u64.wrap ((slot : Int) + (k3 : Int)) = (x : Int) := ⟨(IntKind.u64.wrap ((slot : Int) + (k3 : Int))).toNat, by rw [IntKind.wrap_u64]; omega⟩
                have be := HBZ.out.trans (bi.mono HBZ.out.size)
                have HBI := Lib.hid (And.intro bi be)
                have kwe := HKW.out.below bi HKW.out.lt
                clear hk3 h12 bi
                go_upto_region 31 with fail
                try rw [hat]
                clear hat hwk
                go_wp2_with fail
                refine (HBO.out at_ _ be).mono ?_; rintro e wf ⟨rfl, Bf⟩
                have bf := be.trans (Bf.mono be.size)
                have kwf := kwe.below Bf kwe.lt
                clear be kwe
                have x0 := kwf.cell 0
                have x1 := kwf.cell 1
                have x2 := kwf.cell 2
                obtain ⟨bv, hbv⟩ : ∃ s : ByteArray, s = ⟨(boundV (roOf b L2) at_).toArray⟩ := ⟨_, rfl⟩
                obtain ⟨bb, hbb⟩ : ∃ s : Bool, s = boundB (roOf b L2) at_ := ⟨_, rfl⟩
                have HRBX := Lib.hid (HRB.out at_ wf bf)
                rw [← hbv, ← hbb] at HRBX ⊢
                clear hbv hbb
                go_wp2_with fail
                refine HRBX.out.mono ?_; rintro e wg ⟨rfl, Bg⟩
                have bg := bf.trans (Bg.mono bf.size)
                have kwd : Blk wg.drew gw 93 #[.int .u64 (bn : Int), .int .u8 (br : Int), .slice A2 m2 c2] := kwf.below Bg.drew kwf.lt
                have bgd := bg.drew
                have HIG : Hid (Below wd.heap.size wd wg) := (HBI.out.1.trans (Bf.mono HBI.out.1.size)).trans (Bg.mono (HBI.out.1.trans (Bf.mono HBI.out.1.size)).size)
                clear HRBX bf Bf kwf x0 x1 x2 Bg bg
                obtain ⟨mj, hmj⟩ : ∃ s : Bool, s = majorB cf wh := ⟨_, rfl⟩
                have HMJX := HMJ
                have HMAX := Lib.hid (HMA.out at_)
                rw [← hmj] at HMJX HMAX
                clear hmj
                by_cases hfa : fl < at_
                · have hfi : (fl : Int) < (at_ : Int) := by omega
                  rw [decide_eq_true hfa, Bool.true_and] at HMAX
                  clear hfa
                  go_wp2_with fail
                  refine region_inv2 (by kernel_rfl) [(181, NumsAt (listN cf)), (183, NumsAt (nodesT L2))] [(176, .int .u64 (at_ : Int)), (177, .int .u64 (fl : Int)), (178, .bool true), (179, .bool true), (180, .int .u8 (cf : Int)), (182, .agg #[.int .u64 (bn : Int), .int .u8 (br : Int), .slice A2 m2 c2]), (184, .bool mj), (185, .bool mj), (27, .bool mj)] (by kernel_rfl) (by kernel_rfl) rfl (by kernel_rfl) ?_ ?_ ?_
                  · intro q hq
                    rcases List.mem_cons.1 hq with rfl | hq
                    · exact NumsAt.below_ _
                    obtain rfl := List.mem_singleton.1 hq
                    exact NumsAt.below_ _
                  · refine And.intro ?_ ?_
                    · intro d hd ρ W hcs bw hn hg
                      cases hd
                      have e22 : ρ (.tmp 22) = .int .u64 (at_ : Int) := hn 22 (by decide)
                      clear hn hg
                      refine .inl ⟨trivial, ?_⟩
                      refine .inl ⟨_, W, rfl, e22, Below.refl _ _⟩
                    refine And.intro ?_ ?_
                    · intro d hd ρ W hcs bw hn hg
                      cases hd
                      have e19 : ρ (.tmp 19) = .int .u64 (fl : Int) := hn 19 (by decide)
                      clear hn hg
                      refine .inl ⟨trivial, ?_⟩
                      refine .inl ⟨_, W, rfl, e19, Below.refl _ _⟩
                    refine And.intro ?_ ?_
                    · intro d hd ρ W hcs bw hn hg
                      cases hd
                      have e176 : ρ (.tmp 176) = .int .u64 (at_ : Int) := hn 176 (by decide)
                      have e177 : ρ (.tmp 177) = .int .u64 (fl : Int) := hn 177 (by decide)
                      clear hn hg
                      refine .inl ⟨trivial, ?_⟩
                      refine .inl ⟨.bool true, W, ?_, rfl, Below.refl _ _⟩
                      go_simp
                    refine And.intro ?_ ?_
                    · intro d hd ρ W hcs bw hn hg
                      cases hd
                      have e178 : ρ (.tmp 178) = .bool true := hn 178 (by decide)
                      clear hn hg
                      refine .inl ⟨trivial, ?_⟩
                      refine .inl ⟨_, W, rfl, e178, Below.refl _ _⟩
                    refine And.intro ?_ ?_
                    · intro d hd ρ W hcs bw hn hg
                      cases hd
                      have eg : ρ (.tmp 179) = .bool true := hg _ _ _ _ rfl rfl rfl
                      have e3 : ρ (.tmp 3) = .int .u8 (cf : Int) := hn 3 (by decide)
                      clear hn hg
                      refine .inl ⟨⟨_, _, rfl, rfl, eg⟩, ?_⟩
                      refine .inl ⟨_, W, rfl, e3, Below.refl _ _⟩
                    refine And.intro ?_ ?_
                    · intro d hd ρ W hcs bw hn hg
                      cases hd
                      have eg : ρ (.tmp 179) = .bool true := hg _ _ _ _ rfl rfl rfl
                      have e180 : ρ (.tmp 180) = .int .u8 (cf : Int) := hn 180 (by decide)
                      clear hn hg
                      refine .inl ⟨⟨_, _, rfl, rfl, eg⟩, ?_⟩
                      have ef : ρ (.func 69) = .func (.func 69) #[] #[] := hcs.2 _
                      refine .inr ⟨69, #[.int .u8 (cf : Int)], ?_, (HLI.out W).mono ?_⟩
                      · go_simp
                      · rintro e w2 ⟨u, rfl, hu, B2⟩; exact ⟨_, rfl, hu, B2⟩
                    refine And.intro ?_ ?_
                    · intro d hd ρ W hcs bw hn hg
                      cases hd
                      have eg : ρ (.tmp 179) = .bool true := hg _ _ _ _ rfl rfl rfl
                      have e11 : ρ (.tmp 11) = .pointer (some ⟨gw, 0, none⟩) := hn 11 (by decide)
                      clear hn hg
                      refine .inl ⟨⟨_, _, rfl, rfl, eg⟩, ?_⟩
                      have z0 : W.cell? ⟨gw, 0, none⟩ = some (.int .u64 (bn : Int)) := (Blk.below kwd bw (Blk.lt kwd)).cell 0
                      have z1 : W.cell? ⟨gw, 1, none⟩ = some (.int .u8 (br : Int)) := (Blk.below kwd bw (Blk.lt kwd)).cell 1
                      have z2 : W.cell? ⟨gw, 2, none⟩ = some (.slice A2 m2 c2) := (Blk.below kwd bw (Blk.lt kwd)).cell 2
                      refine .inl ⟨.agg #[.int .u64 (bn : Int), .int .u8 (br : Int), .slice A2 m2 c2], W, ?_, rfl, Below.refl _ _⟩
                      go_simp
                    refine And.intro ?_ ?_
                    · intro d hd ρ W hcs bw hn hg
                      cases hd
                      have eg : ρ (.tmp 179) = .bool true := hg _ _ _ _ rfl rfl rfl
                      have e182 : ρ (.tmp 182) = .agg #[.int .u64 (bn : Int), .int .u8 (br : Int), .slice A2 m2 c2] := hn 182 (by decide)
                      clear hn hg
                      refine .inl ⟨⟨_, _, rfl, rfl, eg⟩, ?_⟩
                      have ef : ρ (.func 65) = .func (.func 65) #[] #[] := hcs.2 _
                      refine .inr ⟨65, #[.agg #[.int .u64 (bn : Int), .int .u8 (br : Int), .slice A2 m2 c2]], ?_, (HRWH.out W (bgd.trans (bw.mono bgd.size))).mono ?_⟩
                      · go_simp
                      · rintro e w2 ⟨u, rfl, hu, B2⟩; exact ⟨_, rfl, hu, B2⟩
                    refine And.intro ?_ ?_
                    · intro d hd ρ W hcs bw hn hg
                      cases hd
                      have eg : ρ (.tmp 179) = .bool true := hg _ _ _ _ rfl rfl rfl
                      have e181 : (NumsAt (listN cf)) (ρ (.tmp 181)) W := hn 181 (by decide)
                      have e183 : (NumsAt (nodesT L2)) (ρ (.tmp 183)) W := hn 183 (by decide)
                      clear hn hg
                      refine .inl ⟨⟨_, _, rfl, rfl, eg⟩, ?_⟩
                      obtain ⟨A181, c181, er181, hn181⟩ := e181
                      obtain ⟨A183, c183, er183, hn183⟩ := e183
                      rw [HKL.out] at er183 hn183
                      have ef : ρ (.func 68) = .func (.func 68) #[] #[] := hcs.2 _
                      refine .inr ⟨68, #[.slice A181 (listN cf).length c181, .slice A183 m2 c183], ?_, (HMJX.out A181 A183 c181 c183 W hn181 hn183).mono ?_⟩
                      · go_simp
                      · rintro e w2 ⟨rfl, B2⟩; exact ⟨_, rfl, rfl, B2⟩
                    refine And.intro ?_ ?_
                    · intro d hd ρ W hcs bw hn hg
                      cases hd
                      have e179 : ρ (.tmp 179) = .bool true := hn 179 (by decide)
                      have e184 : ρ (.tmp 184) = .bool mj := hn 184 (by decide)
                      clear hn hg
                      refine .inl ⟨trivial, ?_⟩
                      have hc1 := hcs.1
                      refine .inl ⟨.bool mj, W, ?_, rfl, Below.refl _ _⟩
                      go_simp
                    refine And.intro ?_ ?_
                    · intro d hd ρ W hcs bw hn hg
                      cases hd
                      have e185 : ρ (.tmp 185) = .bool mj := hn 185 (by decide)
                      clear hn hg
                      refine .inl ⟨trivial, ?_⟩
                      refine .inl ⟨_, W, rfl, e185, Below.refl _ _⟩
                    trivial
                  · intro a' w' hsz hdf hb hVs
                    have q27 : a'.eval (.tmp 27) = .bool mj := hVs 27
                    have ha := slot_over_seg 176 10 [27] rfl (by kernel_rfl) (of_decide_eq_true (by kernel_rfl)) hsz hdf hVs
                    clear hVs hsz hdf
                    rw [show List.range' 176 10 = [176, 177, 178, 179, 180, 181, 182, 183, 184, 185] from rfl] at ha
                    simp only [List.take_succ_cons, List.take_zero, List.drop_succ_cons, List.drop_zero, List.map_cons, List.map_nil, List.cons_append, List.nil_append, List.foldl_cons, List.foldl_nil, List.set_cons_zero, List.set_cons_succ, q27] at ha
                    clear q27
                    generalize a'.eval (.tmp 176) = x176 at ha
                    generalize a'.eval (.tmp 177) = x177 at ha
                    generalize a'.eval (.tmp 178) = x178 at ha
                    generalize a'.eval (.tmp 179) = x179 at ha
                    generalize a'.eval (.tmp 180) = x180 at ha
                    generalize a'.eval (.tmp 181) = x181 at ha
                    generalize a'.eval (.tmp 182) = x182 at ha
                    generalize a'.eval (.tmp 183) = x183 at ha
                    generalize a'.eval (.tmp 184) = x184 at ha
                    generalize a'.eval (.tmp 185) = x185 at ha
                    subst ha
                    have bh : Below wd.heap.size wd w' := HIG.out.drew.trans (hb.mono HIG.out.drew.size)
                    have bh2 := HBZ.out.trans (bh.mono HBZ.out.size)
                    clear hb bgd kwd
                    go_wp2_with fail
                    refine (HMAX.out _ bh2).mono ?_; rintro e wi ⟨rfl, rfl⟩
                    go_wp2_with fail
                    go_roundg (12 - (k3 + 1))
                    case measure => have := HK3.out; omega
                    case rel => exact ⟨k3 + 1, by have := HK3.out; omega, by go_num, bh⟩
                · have hfi : ¬ (fl : Int) < (at_ : Int) := by omega
                  have hfn : at_ ≤ fl := by omega
                  rw [decide_eq_false hfa, Bool.false_and] at HMAX
                  clear hfa
                  go_wp2_with fail
                  refine region_inv2 (by kernel_rfl) [] [(176, .int .u64 (at_ : Int)), (177, .int .u64 (fl : Int)), (178, .bool false), (179, .bool false), (180, undef), (181, undef), (182, undef), (183, undef), (184, undef), (185, .bool false), (27, .bool false)] (by kernel_rfl) (by kernel_rfl) rfl (by kernel_rfl) ?_ ?_ ?_
                  · intro q hq; cases hq
                  · refine And.intro ?_ ?_
                    · intro d hd ρ W hcs bw hn hg
                      cases hd
                      have e22 : ρ (.tmp 22) = .int .u64 (at_ : Int) := hn 22 (by decide)
                      clear hn hg
                      refine .inl ⟨trivial, ?_⟩
                      refine .inl ⟨_, W, rfl, e22, Below.refl _ _⟩
                    refine And.intro ?_ ?_
                    · intro d hd ρ W hcs bw hn hg
                      cases hd
                      have e19 : ρ (.tmp 19) = .int .u64 (fl : Int) := hn 19 (by decide)
                      clear hn hg
                      refine .inl ⟨trivial, ?_⟩
                      refine .inl ⟨_, W, rfl, e19, Below.refl _ _⟩
                    refine And.intro ?_ ?_
                    · intro d hd ρ W hcs bw hn hg
                      cases hd
                      have e176 : ρ (.tmp 176) = .int .u64 (at_ : Int) := hn 176 (by decide)
                      have e177 : ρ (.tmp 177) = .int .u64 (fl : Int) := hn 177 (by decide)
                      clear hn hg
                      refine .inl ⟨trivial, ?_⟩
                      refine .inl ⟨.bool false, W, ?_, rfl, Below.refl _ _⟩
                      go_simp
                    refine And.intro ?_ ?_
                    · intro d hd ρ W hcs bw hn hg
                      cases hd
                      have e178 : ρ (.tmp 178) = .bool false := hn 178 (by decide)
                      clear hn hg
                      refine .inl ⟨trivial, ?_⟩
                      refine .inl ⟨_, W, rfl, e178, Below.refl _ _⟩
                    refine And.intro ?_ ?_
                    · intro d hd ρ W hcs bw hn hg
                      cases hd
                      have eg : ρ (.tmp 179) = .bool false := hg _ _ _ _ rfl rfl rfl
                      exact .inr ⟨⟨_, _, _, rfl, rfl, eg, nofun⟩, rfl⟩
                    refine And.intro ?_ ?_
                    · intro d hd ρ W hcs bw hn hg
                      cases hd
                      have eg : ρ (.tmp 179) = .bool false := hg _ _ _ _ rfl rfl rfl
                      exact .inr ⟨⟨_, _, _, rfl, rfl, eg, nofun⟩, rfl⟩
                    refine And.intro ?_ ?_
                    · intro d hd ρ W hcs bw hn hg
                      cases hd
                      have eg : ρ (.tmp 179) = .bool false := hg _ _ _ _ rfl rfl rfl
                      exact .inr ⟨⟨_, _, _, rfl, rfl, eg, nofun⟩, rfl⟩
                    refine And.intro ?_ ?_
                    · intro d hd ρ W hcs bw hn hg
                      cases hd
                      have eg : ρ (.tmp 179) = .bool false := hg _ _ _ _ rfl rfl rfl
                      exact .inr ⟨⟨_, _, _, rfl, rfl, eg, nofun⟩, rfl⟩
                    refine And.intro ?_ ?_
                    · intro d hd ρ W hcs bw hn hg
                      cases hd
                      have eg : ρ (.tmp 179) = .bool false := hg _ _ _ _ rfl rfl rfl
                      exact .inr ⟨⟨_, _, _, rfl, rfl, eg, nofun⟩, rfl⟩
                    refine And.intro ?_ ?_
                    · intro d hd ρ W hcs bw hn hg
                      cases hd
                      have e179 : ρ (.tmp 179) = .bool false := hn 179 (by decide)
                      have e184 : ρ (.tmp 184) = undef := hn 184 (by decide)
                      clear hn hg
                      refine .inl ⟨trivial, ?_⟩
                      have hc1 := hcs.1
                      refine .inl ⟨.bool false, W, ?_, rfl, Below.refl _ _⟩
                      go_simp
                    refine And.intro ?_ ?_
                    · intro d hd ρ W hcs bw hn hg
                      cases hd
                      have e185 : ρ (.tmp 185) = .bool false := hn 185 (by decide)
                      clear hn hg
                      refine .inl ⟨trivial, ?_⟩
                      refine .inl ⟨_, W, rfl, e185, Below.refl _ _⟩
                    trivial
                  · intro a' w' hsz hdf hb hVs
                    have q27 : a'.eval (.tmp 27) = .bool false := hVs 27
                    have ha := slot_over_seg 176 10 [27] rfl (by kernel_rfl) (of_decide_eq_true (by kernel_rfl)) hsz hdf hVs
                    clear hVs hsz hdf
                    rw [show List.range' 176 10 = [176, 177, 178, 179, 180, 181, 182, 183, 184, 185] from rfl] at ha
                    simp only [List.take_succ_cons, List.take_zero, List.drop_succ_cons, List.drop_zero, List.map_cons, List.map_nil, List.cons_append, List.nil_append, List.foldl_cons, List.foldl_nil, List.set_cons_zero, List.set_cons_succ, q27] at ha
                    clear q27
                    generalize a'.eval (.tmp 176) = x176 at ha
                    generalize a'.eval (.tmp 177) = x177 at ha
                    generalize a'.eval (.tmp 178) = x178 at ha
                    generalize a'.eval (.tmp 179) = x179 at ha
                    generalize a'.eval (.tmp 180) = x180 at ha
                    generalize a'.eval (.tmp 181) = x181 at ha
                    generalize a'.eval (.tmp 182) = x182 at ha
                    generalize a'.eval (.tmp 183) = x183 at ha
                    generalize a'.eval (.tmp 184) = x184 at ha
                    generalize a'.eval (.tmp 185) = x185 at ha
                    subst ha
                    have bh : Below wd.heap.size wd w' := HIG.out.drew.trans (hb.mono HIG.out.drew.size)
                    have bh2 := HBZ.out.trans (bh.mono HBZ.out.size)
                    clear hb bgd kwd
                    go_wp2_with fail
                    refine (HMAX.out _ bh2).mono ?_; rintro e wi ⟨rfl, rfl⟩
                    go_wp2_with fail
                    go_roundg (12 - (k3 + 1))
                    case measure => have := HK3.out; omega
                    case rel => exact ⟨k3 + 1, by have := HK3.out; omega, by go_num, bh⟩
              · have hk12 : ¬ (k3 : Int) < 12 := by omega
                have be := HBZ.out.trans (bi.mono HBZ.out.size)
                have bwz := HE9.out.2.2.2.2.trans (be.mono HE9.out.2.2.2.2.size)
                have rz := HE9.out.1.below be
                have kwz := HKW.out.below bi HKW.out.lt
                have kbz := HE9.out.2.2.2.1.below be HE9.out.2.2.2.1.lt
                have HRZ : Hid (RefR w we b L2 A2 c2) := HE9.out.2.1.below be
                have HLZ : Hid (L2.length = m2 ∧ m2 ≤ i + 1 ∧ (flatT L2).length ≤ 60 * (i + 1) ∧ (∀ ad, A2 = some ad → gw < ad.block ∧ ad.block < we.heap.size)) := ⟨HM2.out, HNX.out.2.1, HNX.out.2.2, fun ad e => by
                  have h1 := HA2.out ad e
                  have h2 := HSZ9.out
                  have h3 := be.size
                  omega⟩
                clear be hk3 h12 bi
                go_wp2_with fail
                go_roundg (n - (i + 1))
                case measure => have := HI.out; omega
                case rel => exact ⟨i + 1, L2, A2, c2, m2, by have := HI.out; omega, by go_num, HLZ.out, rz, HRZ.out, kwz, kbz, bwz⟩
end Go.Proofs.Ytbamfnlgapchkaa.Ele
