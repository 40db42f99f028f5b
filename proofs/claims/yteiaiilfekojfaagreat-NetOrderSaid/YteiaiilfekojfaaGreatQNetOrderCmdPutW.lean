/- Package cmd, walked: Put. Conditions: the bytes that came in can be read. -/
import Derived.Deep.DeepCutAuto
import Derived.Test.YteiaiilfekojfaaGreatQNetOrderCmdPut
namespace Go.Proofs.YteiaiilfekojfaaGreat.Cmd
open Go.RowKit Wire
theorem own_low {W : World} {b b' : Nat} {e : TypeId} {size n : Nat} {v : Value} {xs : List Value} (h : W.ownsRow b e size v n xs) (hb : b' ≤ b) : W.ownsRow b' e size v n xs :=
  ⟨h.1, h.2.imp id (fun ⟨g, cap, cur, e, hg, r⟩ => ⟨g, cap, cur, e, Nat.le_trans hb hg, r⟩)⟩
theorem own_of_slice {w : World} {base : Nat} {e : TypeId} {v : Value} {n : Nat} {xs : List Value} (h : w.ownsRow base e 1 v n xs) : ∃ A c, v = .slice A n c ∧ Reads w w.heap.size 1 A n xs ∧ w.ownsRow base e 1 (.slice A n c) n xs := by
  obtain ⟨A, c, rfl, hr⟩ := own_slice1 h
  exact ⟨A, c, rfl, hr, h⟩
theorem str_to {L s M : List UInt8} (hL : L.length ≤ 1000000000) (hs : s.length ≤ 1000000000) (hM : M = L ++ strB s) (A : Option Addr) (c : Nat) (w : World) (hr : Reads w w.heap.size 1 A L.length (bv L)) :
    Calls Tryz.prog 122 #[.slice A L.length c, .string ⟨s.toArray⟩] w fun e w' => ∃ A' c', e = .returned (.slice A' M.length c') ∧ Reads w' w'.heap.size 1 A' M.length (bv M) ∧ w'.ownsRow w.heap.size 5 1 (.slice A' M.length c') M.length (bv M) ∧ Below w.heap.size w w' := by
  subst hM
  refine (str_put A c L s hL hs w hr).mono ?_
  rintro e w' ⟨v, rfl, own, B⟩
  obtain ⟨A', c', rfl, r, own⟩ := own_of_slice own
  exact ⟨A', c', rfl, r, own, B⟩
set_option linter.unusedSimpArgs false in
set_option maxRecDepth 100000 in
set_option maxHeartbeats 8000000 in
theorem put_any (c : Cm) (hc : c.Fits) (l : List UInt8) (hl : l.length ≤ 1000000) (hk : c.key.length ≤ 1000) (ho : c.old.length ≤ 1000) (hn : c.new.length ≤ 1000) (A : Option Addr) (cap : Nat) (w : World) (hr : Reads w w.heap.size 1 A l.length (bv l)) :
    Calls Tryz.prog 111 #[.slice A l.length cap, cmV c] w fun e w' => RetB w w' e (l ++ oneB c) := by
  obtain ⟨i0, hi, hz0, hz1, hz2⟩ := info_parts info_u8
  obtain ⟨L1, hL1⟩ : ∃ L1, L1 = l ++ [UInt8.ofNat c.client] := ⟨_, rfl⟩
  have h1 := hc.h1
  have h2 := hc.h2
  have h3 := hc.h3
  have h7 := hc.h7
  have bte : ∀ x : Nat, x < 256 → [Value.int .u8 (x : Int)] = bv [UInt8.ofNat x] := fun x hx => by
    show _ = [Value.int .u8 ((UInt8.ofNat x).toNat : Int)]
    rw [UInt8.toNat_ofNat', Nat.mod_eq_of_lt (by omega)]
  have HE1 : Hid (bv l ++ [.int .u8 (c.client : Int)] = bv L1) := by show _ = _; rw [hL1, bv_append, bte _ h1]
  have hn1 : l.length + 1 = L1.length := by rw [hL1]; simp
  have HN1 := Lib.hid hn1
  have hl1 : L1.length ≤ 1000001 := by omega
  have hns := (numB_length c.seq (by omega)).1
  have hn2 : (L1 ++ numB c.seq).length ≤ 1000010 := by rw [List.length_append]; omega
  obtain ⟨L2, hL2⟩ : ∃ L2, L2 = L1 ++ numB c.seq ++ [UInt8.ofNat c.kind] := ⟨_, rfl⟩
  have HE2 : Hid (bv (L1 ++ numB c.seq) ++ [.int .u8 (c.kind : Int)] = bv L2) := by show _ = _; rw [hL2, bv_append _ [UInt8.ofNat c.kind], bte _ h3]
  have hn3 : (L1 ++ numB c.seq).length + 1 = L2.length := by rw [hL2]; simp only [List.length_append, List.length_cons, List.length_nil]
  have HN2 := Lib.hid hn3
  have hl2 : L2.length ≤ 1000011 := by omega
  have hsk : (strB c.key).length ≤ 1009 := by unfold strB; rw [List.length_append]; have := (numB_length c.key.length (by omega)).1; omega
  have hso : (strB c.old).length ≤ 1009 := by unfold strB; rw [List.length_append]; have := (numB_length c.old.length (by omega)).1; omega
  have hsn : (strB c.new).length ≤ 1009 := by unfold strB; rw [List.length_append]; have := (numB_length c.new.length (by omega)).1; omega
  obtain ⟨L3, hL3⟩ : ∃ L3, L3 = L2 ++ strB c.key := ⟨_, rfl⟩
  obtain ⟨L4, hL4⟩ : ∃ L4, L4 = L3 ++ strB c.old := ⟨_, rfl⟩
  obtain ⟨L5, hL5⟩ : ∃ L5, L5 = L4 ++ strB c.new := ⟨_, rfl⟩
  have hl3 : L3.length ≤ 1001020 := by rw [hL3, List.length_append]; omega
  have hl4 : L4.length ≤ 1002029 := by rw [hL4, List.length_append]; omega
  have hl5 : L5.length ≤ 1003038 := by rw [hL5, List.length_append]; omega
  have HS3 := Lib.hid (fun (A : Option Addr) (cc : Nat) (W : World) hr => str_to (show L2.length ≤ 1000000000 by omega) (show c.key.length ≤ 1000000000 by omega) hL3 A cc W hr)
  have HS4 := Lib.hid (fun (A : Option Addr) (cc : Nat) (W : World) hr => str_to (show L3.length ≤ 1000000000 by omega) (show c.old.length ≤ 1000000000 by omega) hL4 A cc W hr)
  have HS5 := Lib.hid (fun (A : Option Addr) (cc : Nat) (W : World) hr => str_to (show L4.length ≤ 1000000000 by omega) (show c.new.length ≤ 1000000000 by omega) hL5 A cc W hr)
  have hm5 : L5.length + 1 ≤ maxLen := by unfold maxLen; omega
  have hm6 : (L5.length + 1) * 1 ≤ 140737488355328 := by omega
  have HL5 : Hid (L5 ++ [UInt8.ofNat c.set] = l ++ oneB c) := by show _ = _; rw [hL5, hL4, hL3, hL2, hL1]; unfold oneB; simp
  have HM5 := Lib.hid (And.intro hm5 hm6)
  clear hL2 hL3 hL4 hL5 hn3 hsk hso hsn hl3 hl4 hl5 hm5 hm6
  have BTE := Lib.hid bte
  clear hL1 hn1 bte
  have hB1 : Below w.heap.size w (w.alloc (.cells (cmC c) 29)) := (Below.refl _ w).alloc (Nat.le_refl _) _
  have kb := Blk.new w 29 (cmC c)
  have HB0 := Lib.hid hB1
  have hw1s := Lib.hid hB1.size
  have hr1 := (hr.below hB1).more hB1.size
  unfold cmV
  unfold cmC at *
  go_enter Tryz.func111, Tryz.ntmps111
  go_upto_region 1 with fail
  generalize hw1 : w.alloc (.cells #[.int .u8 (c.client : Int), .int .u32 (c.seq : Int), .int .u8 (c.kind : Int), .string ⟨c.key.toArray⟩, .string ⟨c.old.toArray⟩, .string ⟨c.new.toArray⟩, .int .u8 (c.set : Int)] 29) = w1 at *
  have k0 : w1.cell? ⟨w.heap.size, 0, none⟩ = some (.int .u8 (c.client : Int)) := kb.cell 0
  have hlt := kb.lt
  have kc0 := k0
  have HCL := Lib.hid (fun W hW => clone_any A cap l (by omega) W hW)
  have hm1 : l.length + 1 ≤ maxLen := by unfold maxLen; omega
  have hm2 : (l.length + 1) * 1 ≤ 140737488355328 := by omega
  have kz0 : ∀ o, (w1.alloc o).cell? ⟨w.heap.size, 0, none⟩ = some (.int .u8 (c.client : Int)) := fun o => (kb.alloc o).cell 0
  have bX : Below w1.heap.size w1 (w1.alloc (.cells #[.int .u8 (c.client : Int)] 5)).drew := ((Below.refl _ w1).alloc (Nat.le_refl _) _).drew
  have hrX := (hr1.below bX).more bX.size
  have rX : Reads (w1.alloc (.cells #[.int .u8 (c.client : Int)] 5)) (w1.alloc (.cells #[.int .u8 (c.client : Int)] 5)).heap.size 1 (some ⟨w1.heap.size, 0, none⟩) 1 [.int .u8 (c.client : Int)] := Reads.of_own (own_new (w := w1) (base := 0) 5 (.int .u8 (c.client : Int)) (Nat.zero_le _))
  have hltX : w.heap.size < (w1.alloc (.cells #[.int .u8 (c.client : Int)] 5)).drew.heap.size := Nat.lt_of_lt_of_le hlt bX.size
  have kcX : (w1.alloc (.cells #[.int .u8 (c.client : Int)] 5)).drew.cell? ⟨w.heap.size, 0, none⟩ = some (.int .u8 (c.client : Int)) := kz0 _
  clear hw1 hB1
  go_cut [5] (fun s wx => wx.ownsRow w1.heap.size 5 1 s (l.length + 1) (bv l ++ [.int .u8 (c.client : Int)]) ∧ Below w1.heap.size w1 wx)
  case first =>
    -- [[
    go_region_held_law (fun W : World => W.cell? ⟨w.heap.size, 0, none⟩ = some (.int .u8 (c.client : Int))) (first | go_keep | exact k0) (first
      | (go_simp; go_at_call 177; refine (HCL.out w1.drew hr1).mono ?_; rintro e w2 ⟨v2, rfl, own2, B2⟩; have k0 := (B2.cell hlt).trans k0)
      | (refine step_append_any _ (by rfl) (.tmp 9) (.tmp 12) 103 (by rfl) _ 5 i0 (.int .u8 0) 1 1 Tryz.underlying103 hi hz0 hz1 hz2 rfl (by omega) v2 _ _ (by rfl) (own2.alloc _) _ _ 1 1 [.int .u8 (c.client : Int)] (by rfl) (Reads.of_own (own_new (base := 0) 5 _ (Nat.zero_le _))) (by simp [Value.oneCell']) hm1 hm2 (Nat.le_trans B2.size (by simp)) ?_; intro v3 w3 own3 g3 at3; have b3 := own_step own2 B2 B2.size g3; have k0 := (b3.cell hlt).trans kc0)
      | (go_simp; go_at_call 177; refine (HCL.out (w1.alloc (.cells #[.int .u8 (c.client : Int)] 5)).drew hrX).mono ?_; rintro e w2 ⟨v2, rfl, own2, B2⟩; have k0 := (B2.cell hltX).trans kcX)
      | (refine step_append_any _ (by rfl) (.tmp 9) (.tmp 12) 103 (by rfl) _ 5 i0 (.int .u8 0) 1 1 Tryz.underlying103 hi hz0 hz1 hz2 rfl (by omega) v2 _ _ (by rfl) own2 _ _ 1 1 [.int .u8 (c.client : Int)] (by rfl) (rX.drew.below B2) (by simp [Value.oneCell']) hm1 hm2 B2.size ?_; intro v3 w3 own3 g3 at3; have b3 := B2.grown g3 B2.size (fun k hk => (own2.lt k hk).1); have k0 := (b3.cell hltX).trans kcX))
    all_goals
      simp only [List.getElem_toArray, List.getElem_cons_succ, List.getElem_cons_zero, List.set_cons_zero, List.set_cons_succ]
      go_wp2_with fail
      go_meet
      first | exact ⟨own3, (Below.refl _ w1).drew.trans b3⟩ | exact ⟨own_low own3 bX.size, bX.trans (b3.mono bX.size)⟩
    -- ]]
  case rest =>
    obtain ⟨own, bw⟩ := hcut
    rw [HE1.out, HN1.out] at own
    obtain ⟨A1, c1, rfl, r1, own⟩ := own_of_slice own
    have kc := kb.below bw hlt
    have kk1 : wc.cell? ⟨w.heap.size, 1, none⟩ = some (.int .u32 (c.seq : Int)) := kc.cell 1
    have kk2 : wc.cell? ⟨w.heap.size, 2, none⟩ = some (.int .u8 (c.kind : Int)) := kc.cell 2
    have hltc := kc.lt
    have hb1 : w1.heap.size ≤ wc.heap.size := bw.size
    have hwr : IntKind.u64.wrap (c.seq : Int) = (c.seq : Int) := by rw [IntKind.wrap_u64]; omega
    have HCL2 := Lib.hid (fun W hW => num_put A1 c1 L1 c.seq (by omega) (by omega) W hW)
    have hm3 : (L1 ++ numB c.seq).length + 1 ≤ maxLen := by unfold maxLen; omega
    have hm4 : ((L1 ++ numB c.seq).length + 1) * 1 ≤ 140737488355328 := by omega
    have kz : ∀ o, (wc.alloc o).cell? ⟨w.heap.size, 1, none⟩ = some (.int .u32 (c.seq : Int)) ∧ (wc.alloc o).cell? ⟨w.heap.size, 2, none⟩ = some (.int .u8 (c.kind : Int)) := fun o => ⟨(kc.alloc o).cell 1, (kc.alloc o).cell 2⟩
    have bX2 : Below wc.heap.size wc (wc.alloc (.cells #[.int .u8 (c.kind : Int)] 5)).drew := ((Below.refl _ wc).alloc (Nat.le_refl _) _).drew
    have hrX2 := (r1.below bX2).more bX2.size
    have rX2 : Reads (wc.alloc (.cells #[.int .u8 (c.kind : Int)] 5)) (wc.alloc (.cells #[.int .u8 (c.kind : Int)] 5)).heap.size 1 (some ⟨wc.heap.size, 0, none⟩) 1 [.int .u8 (c.kind : Int)] := Reads.of_own (own_new (w := wc) (base := 0) 5 (.int .u8 (c.kind : Int)) (Nat.zero_le _))
    have hltX2 : w.heap.size < (wc.alloc (.cells #[.int .u8 (c.kind : Int)] 5)).drew.heap.size := Nat.lt_of_lt_of_le hltc bX2.size
    have kcX2 : (wc.alloc (.cells #[.int .u8 (c.kind : Int)] 5)).drew.cell? ⟨w.heap.size, 1, none⟩ = some (.int .u32 (c.seq : Int)) ∧ (wc.alloc (.cells #[.int .u8 (c.kind : Int)] 5)).drew.cell? ⟨w.heap.size, 2, none⟩ = some (.int .u8 (c.kind : Int)) := kz _
    clear own hlt k0 kc0 HCL kz0 bX hrX rX hltX kcX hr hr1 hm1 hm2
    go_upto_region 2 with fail
    go_cut [5] (fun s wx => wx.ownsRow w1.heap.size 5 1 s ((L1 ++ numB c.seq).length + 1) (bv (L1 ++ numB c.seq) ++ [.int .u8 (c.kind : Int)]) ∧ Below w1.heap.size w1 wx)
    case first =>
      -- [[
      go_region_held_law (fun W : World => W.cell? ⟨w.heap.size, 1, none⟩ = some (.int .u32 (c.seq : Int)) ∧ W.cell? ⟨w.heap.size, 2, none⟩ = some (.int .u8 (c.kind : Int))) (first | go_keep | exact ⟨kk1, kk2⟩ | exact kk0) (first
        | (go_simp; go_at_call 88; refine (HCL2.out wc.drew r1).mono ?_; rintro e w2 ⟨v2, rfl, own2, B2⟩; have kk0 := And.intro ((B2.cell hltc).trans kk1) ((B2.cell hltc).trans kk2))
        | (refine step_append_any _ (by rfl) (.tmp 18) (.tmp 21) 103 (by rfl) _ 5 i0 (.int .u8 0) 1 1 Tryz.underlying103 hi hz0 hz1 hz2 rfl (by omega) v2 _ _ (by rfl) (own2.alloc _) _ _ 1 1 [.int .u8 (c.kind : Int)] (by rfl) (Reads.of_own (own_new (base := 0) 5 _ (Nat.zero_le _))) (by simp [Value.oneCell']) hm3 hm4 (Nat.le_trans B2.size (by simp)) ?_; intro v3 w3 own3 g3 at3; have b3 := own_step own2 B2 B2.size g3; have kk0 := And.intro ((b3.cell hltc).trans kk1) ((b3.cell hltc).trans kk2))
        | (go_simp; go_at_call 88; refine (HCL2.out (wc.alloc (.cells #[.int .u8 (c.kind : Int)] 5)).drew hrX2).mono ?_; rintro e w2 ⟨v2, rfl, own2, B2⟩; have kk0 := And.intro ((B2.cell hltX2).trans kcX2.1) ((B2.cell hltX2).trans kcX2.2))
        | (refine step_append_any _ (by rfl) (.tmp 18) (.tmp 21) 103 (by rfl) _ 5 i0 (.int .u8 0) 1 1 Tryz.underlying103 hi hz0 hz1 hz2 rfl (by omega) v2 _ _ (by rfl) own2 _ _ 1 1 [.int .u8 (c.kind : Int)] (by rfl) (rX2.drew.below B2) (by simp [Value.oneCell']) hm3 hm4 B2.size ?_; intro v3 w3 own3 g3 at3; have b3 := B2.grown g3 B2.size (fun k hk => (own2.lt k hk).1); have kk0 := And.intro ((b3.cell hltX2).trans kcX2.1) ((b3.cell hltX2).trans kcX2.2)))
      all_goals
        simp only [List.getElem_toArray, List.getElem_cons_succ, List.getElem_cons_zero, List.set_cons_zero, List.set_cons_succ]
        go_wp2_with fail
        go_meet
        first | exact ⟨own_low own3 hb1, bw.trans ((Below.refl _ wc).drew.trans b3 |>.mono hb1)⟩ | exact ⟨own_low own3 (Nat.le_trans hb1 bX2.size), bw.trans ((bX2.trans (b3.mono bX2.size)).mono hb1)⟩
      -- ]]
    case rest =>
      obtain ⟨own, bw2⟩ := hcut
      rw [HE2.out, HN2.out] at own
      obtain ⟨A2, c2, rfl, r2, own⟩ := own_of_slice own
      have kc2 := kb.below bw2 kb.lt
      clear kk1 kk2 hltc hb1 HCL2 kz bX2 hrX2 rX2 hltX2 kcX2 r1 own hm3 hm4
      have k3 : wc.cell? ⟨w.heap.size, 3, none⟩ = some (.string ⟨c.key.toArray⟩) := kc2.cell 3
      have k4 : wc.cell? ⟨w.heap.size, 4, none⟩ = some (.string ⟨c.old.toArray⟩) := kc2.cell 4
      have k5 : wc.cell? ⟨w.heap.size, 5, none⟩ = some (.string ⟨c.new.toArray⟩) := kc2.cell 5
      have kd := Blk.new wc 9 #[.string ⟨c.key.toArray⟩, .string ⟨c.old.toArray⟩, .string ⟨c.new.toArray⟩]
      have kcd := kc2.alloc (.cells #[.string ⟨c.key.toArray⟩, .string ⟨c.old.toArray⟩, .string ⟨c.new.toArray⟩] 9)
      have bwd := bw2.alloc bw2.size (.cells #[.string ⟨c.key.toArray⟩, .string ⟨c.old.toArray⟩, .string ⟨c.new.toArray⟩] 9)
      have bb1 : Below wc.heap.size wc (wc.alloc (.cells #[.string ⟨c.key.toArray⟩, .string ⟨c.old.toArray⟩, .string ⟨c.new.toArray⟩] 9)) := (Below.refl _ wc).alloc (Nat.le_refl _) _
      have rd := (r2.below bb1).more bb1.size
      clear bb1 bw2 r2
      go_wp2_with fail
      obtain ⟨gd, hgd⟩ : ∃ gd, gd = wc.heap.size := ⟨_, rfl⟩
      generalize wc.alloc (.cells #[.string ⟨c.key.toArray⟩, .string ⟨c.old.toArray⟩, .string ⟨c.new.toArray⟩] 9) = wd at *
      rw [← hgd] at kd ⊢
      clear k3 k4 k5 hgd kc2
      obtain ⟨d0, d1, d2⟩ := kd.c3
      refine wp_loop_rounds 4 ?_
      rw [rounds_succ]
      go_wp2_with fail
      refine (HS3.out A2 c2 _ rd).mono ?_; rintro e w4 ⟨A4, c4, rfl, r4, own4, B4⟩
      have kd4 := kd.below B4 kd.lt
      have kc4 := kcd.below B4 kcd.lt
      have bw4 := bwd.trans (B4.mono bwd.size)
      clear kd kcd bwd rd own4 B4 d0 d1 d2
      obtain ⟨d0, d1, d2⟩ := kd4.c3
      go_wp2_with fail
      rw [rounds_succ]
      go_wp2_with fail
      refine (HS4.out A4 c4 _ r4).mono ?_; rintro e w5 ⟨A5, c5, rfl, r5, own5, B5⟩
      have kd5 := kd4.below B5 kd4.lt
      have kc5 := kc4.below B5 kc4.lt
      have bw5 := bw4.trans (B5.mono bw4.size)
      clear kd4 kc4 bw4 r4 own5 B5 d0 d1 d2
      obtain ⟨d0, d1, d2⟩ := kd5.c3
      go_wp2_with fail
      rw [rounds_succ]
      go_wp2_with fail
      refine (HS5.out A5 c5 _ r5).mono ?_; rintro e w6 ⟨A6, c6, rfl, r6, own6, B6⟩
      have kc6 := kc5.below B6 kc5.lt
      have bw6 := bw5.trans (B6.mono bw5.size)
      have own6 := own_low own6 bw5.size
      clear kd5 kc5 bw5 r5 B6 d0 d1 d2
      have k6 : w6.cell? ⟨w.heap.size, 6, none⟩ = some (.int .u8 (c.set : Int)) := kc6.cell 6
      have b6 := bw6.alloc bw6.size (.cells #[.int .u8 (c.set : Int)] 5)
      go_wp2_with fail
      rw [rounds_succ]
      go_wp2_with (at_builtin; go_must (refine wpList_append_any _ rfl (.tmp 39) (.tmp 42) _ rfl w1.heap.size 5 i0 (.int .u8 0) 1 1 Tryz.underlying103 hi hz0 hz1 hz2 rfl (by omega) (.slice A6 L5.length c6) _ _ rfl (own6.alloc _) _ _ 1 1 [.int .u8 (c.set : Int)] rfl (Reads.of_own (own_new (base := 0) 5 _ (Nat.zero_le _))) (by simp [Value.oneCell']) HM5.out.1 HM5.out.2 (Nat.le_trans bw6.size (by simp)) ?_); intro v7 w7 own7 g7 at7)
      have b7 := b6.grown g7 b6.size (fun k hk => (own6.lt k hk).1)
      go_ret
      rw [BTE.out _ h7, ← bv_append, HL5.out] at own7
      have e8 : L5.length + 1 = (l ++ oneB c).length := by rw [← HL5.out, List.length_append]; rfl
      rw [e8] at own7
      exact ⟨v7, rfl, own_low own7 hw1s.out, HB0.out.trans (b7.mono hw1s.out)⟩
end Go.Proofs.YteiaiilfekojfaaGreat.Cmd
