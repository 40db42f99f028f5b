/- The law CmdReads walked. Conditions: what the argument's type says. -/
import Derived.Test.YtgbnaifjdfoahaaCmdWakes
import Derived.Test.YtgbnaifjdfoahaaCmdParseRef
import Derived.Test.YtgbnaifjdfoahaaCmdSame
import Derived.Test.YtgbnaifjdfoahaaCmdNil
namespace Go.Proofs.Ytgbnaifjdfoahaa.Cmd
open Go.RowKit Wire DrawInv

theorem parseC_len (s : List UInt8) : (parseC s).1.length ≤ 4 := by
  unfold parseC
  by_cases h0 : s = []
  · rw [if_pos h0]; exact Nat.zero_le _
  rw [if_neg h0]
  simp only
  by_cases hb : (Rd.byte ⟨0, s⟩).1 = 0 ∨ 4 < (Rd.byte ⟨0, s⟩).1
  · rw [if_pos hb]; exact Nat.zero_le _
  rw [if_neg hb]
  split
  · exact Nat.zero_le _
  · simp only
    rw [lsN_len]
    omega
set_option linter.unusedSimpArgs false in
set_option maxRecDepth 100000 in
set_option maxHeartbeats 8000000 in
theorem creads_any (s : List UInt8) (hs : s.length ≤ 9223372036854775807) (w : World) : Calls Try.prog 14 #[.string ⟨s.toArray⟩] w fun e w' => e = .returned (.bool true) ∧ Below w.heap.size w w' := by
  have sz := size_str s
  by_cases h2 : 2000 < s.length
  · have h2i : (2000 : Int) < (s.length : Int) := by omega
    go_enter Try.func14, Try.ntmps14
    go_wp2_with fail
    refine (wakes_any _).mono ?_; rintro e w2 ⟨rfl, B2⟩
    go_wp2
    go_ret
    exact ⟨rfl, B2⟩
  have h2i : ¬ (2000 : Int) < (s.length : Int) := by omega
  have HPA := Lib.hid (fun W => parse_any s (by omega) W)
  have HPR := Lib.hid (fun W => refParse_any s (by omega) W)
  have hlen := parseC_len s
  generalize parseC s = p at *
  obtain ⟨l, er⟩ := p
  simp only at HPA HPR hlen
  have HTA := Lib.hid (fun (g : Nat) W => take_any g ⟨0, s⟩ (by simp only; omega) W)
  have HTR := Lib.hid (fun W => refTake_any ⟨0, s⟩ (by simp only; omega) W)
  have hdoc : (⟨0, s⟩ : Rd).doc = ⟨s, 0⟩ := rfl
  rw [hdoc] at HTR
  generalize takeC ⟨0, s⟩ = t at *
  obtain ⟨⟨xa, xb, xk, xs, xt, xu, xz⟩, q⟩ := t
  simp only at HTA HTR
  clear hdoc
  unfold drV drC at HTR
  unfold cmV cmC at HTR
  dsimp only at HTR
  go_enter Try.func14, Try.ntmps14
  go_wp2_with fail
  refine (HPA.out _).mono ?_; rintro e w1 ⟨A, ca, rfl, rA1, B1⟩
  go_wp2_with fail
  refine (HPR.out _).mono ?_; rintro e w2 ⟨A', ca', rfl, rA2, B2⟩
  have bw2 := B1.trans (B2.mono B1.size)
  have rA1 := rA1.below B2
  clear B1 B2 HPA HPR
  go_wp2_with fail
  refine (of_any s w2).mono ?_; rintro e w3 ⟨rfl, rfl⟩
  have rd : RdAt (w2.alloc (.cells (rdC ⟨0, s⟩) 98)) w2.heap.size ⟨0, s⟩ := Blk.new w2 _ _
  have ba : Below w2.heap.size w2 (w2.alloc (.cells (rdC ⟨0, s⟩) 98)) := (Below.refl _ w2).alloc (Nat.le_refl _) _
  generalize w2.alloc (.cells (rdC ⟨0, s⟩) 98) = w3 at *
  go_wp2_with fail
  refine (HTA.out _ _ rd).mono ?_; rintro e w4 ⟨rfl, g4⟩
  have b4 : Below w2.heap.size w2 w4 := ba.grown g4.2 ba.size (fun k hk => by cases hk; exact Nat.le_refl _)
  have rd4 := g4.1
  have rA1 := rA1.below b4
  have rA2 := rA2.below b4
  have bw4 := bw2.trans (b4.mono bw2.size)
  clear rd ba g4 b4 HTA bw2
  unfold cmV cmC
  dsimp only
  go_wp2_with fail
  refine (HTR.out _).mono ?_; rintro e w6 ⟨rfl, B6⟩
  have kb := (Blk.new w4 73 #[.int .u8 (xa : Int), .int .u32 (xb : Int), .int .u8 (xk : Int), .string ⟨xs.toArray⟩, .string ⟨xt.toArray⟩, .string ⟨xu.toArray⟩, .int .u8 (xz : Int)])
  have b5 : Below w4.heap.size w4 (w4.alloc (.cells #[.int .u8 (xa : Int), .int .u32 (xb : Int), .int .u8 (xk : Int), .string ⟨xs.toArray⟩, .string ⟨xt.toArray⟩, .string ⟨xu.toArray⟩, .int .u8 (xz : Int)] 73)) := (Below.refl _ w4).alloc (Nat.le_refl _) _
  have kb6 := kb.below B6 kb.lt
  have b6 := b5.trans (B6.mono b5.size)
  have rA1 := rA1.below b6
  have rA2 := rA2.below b6
  have rd6 := Blk.below rd4 b6 (Blk.lt rd4)
  have bw6 := bw4.trans (b6.mono bw4.size)
  clear kb b5 B6 b6 rd4 bw4 HTR
  generalize hgb : w4.heap.size = gb at *
  clear hgb
  have hde := doc_err q
  have hdl := doc_left q
  rw [hde]
  have hsl : (ByteArray.mk q.doc.s.toArray).size = q.left := by rw [size_str]; exact hdl
  have kc0 := (Blk.new w6 73 #[.int .u8 (xa : Int), .int .u32 (xb : Int), .int .u8 (xk : Int), .string ⟨xs.toArray⟩, .string ⟨xt.toArray⟩, .string ⟨xu.toArray⟩, .int .u8 (xz : Int)]).alloc (.cells #[.string ⟨q.doc.s.toArray⟩, .int .i64 (q.err : Int)] 48)
  have kd0 := Blk.new (w6.alloc (.cells #[.int .u8 (xa : Int), .int .u32 (xb : Int), .int .u8 (xk : Int), .string ⟨xs.toArray⟩, .string ⟨xt.toArray⟩, .string ⟨xu.toArray⟩, .int .u8 (xz : Int)] 73)) 48 #[.string ⟨q.doc.s.toArray⟩, .int .i64 (q.err : Int)]
  have es : (w6.alloc (.cells #[.int .u8 (xa : Int), .int .u32 (xb : Int), .int .u8 (xk : Int), .string ⟨xs.toArray⟩, .string ⟨xt.toArray⟩, .string ⟨xu.toArray⟩, .int .u8 (xz : Int)] 73)).heap.size = w6.heap.size + 1 := by simp
  rw [es] at kd0
  have b9 : Below w6.heap.size w6 ((w6.alloc (.cells #[.int .u8 (xa : Int), .int .u32 (xb : Int), .int .u8 (xk : Int), .string ⟨xs.toArray⟩, .string ⟨xt.toArray⟩, .string ⟨xu.toArray⟩, .int .u8 (xz : Int)] 73)).alloc (.cells #[.string ⟨q.doc.s.toArray⟩, .int .i64 (q.err : Int)] 48)) := ((Below.refl _ w6).alloc (Nat.le_refl _) _).alloc (by simp) _
  have rA1 : Rows ((w6.alloc (.cells #[.int .u8 (xa : Int), .int .u32 (xb : Int), .int .u8 (xk : Int), .string ⟨xs.toArray⟩, .string ⟨xt.toArray⟩, .string ⟨xu.toArray⟩, .int .u8 (xz : Int)] 73)).alloc (.cells #[.string ⟨q.doc.s.toArray⟩, .int .i64 (q.err : Int)] 48)).drew A 7 cmL l := rA1.below b9.drew
  have rA2 : Rows ((w6.alloc (.cells #[.int .u8 (xa : Int), .int .u32 (xb : Int), .int .u8 (xk : Int), .string ⟨xs.toArray⟩, .string ⟨xt.toArray⟩, .string ⟨xu.toArray⟩, .int .u8 (xz : Int)] 73)).alloc (.cells #[.string ⟨q.doc.s.toArray⟩, .int .i64 (q.err : Int)] 48)).drew A' 7 cmL l := rA2.below b9.drew
  have rd6 : RdAt ((w6.alloc (.cells #[.int .u8 (xa : Int), .int .u32 (xb : Int), .int .u8 (xk : Int), .string ⟨xs.toArray⟩, .string ⟨xt.toArray⟩, .string ⟨xu.toArray⟩, .int .u8 (xz : Int)] 73)).alloc (.cells #[.string ⟨q.doc.s.toArray⟩, .int .i64 (q.err : Int)] 48)).drew w2.heap.size q := Blk.below rd6 b9.drew (Blk.lt rd6)
  have kb6 := (kb6.below b9 kb6.lt).drew
  have kc := kc0.drew
  have kd := kd0.drew
  have bw9 := bw6.trans (b9.mono bw6.size)
  clear hde hdl kc0 kd0 es b9 bw6
  have HSA := Lib.hid (fun W h1 h2 => by
    have h := same_any l l (by omega) (by omega) A A' ca ca' W h1 h2
    rw [show decide (l = l) = true from by simp] at h
    exact h)
  have HNI := Lib.hid (fun W => take_nil W)
  unfold cmV cmC cm0 at HNI
  dsimp only at HNI
  go_upto_region 8 with fail
  obtain ⟨gc, hgc⟩ : ∃ gc, gc = w6.heap.size := ⟨_, rfl⟩
  obtain ⟨gd, hgd⟩ : ∃ gd, gd = w6.heap.size + 1 := ⟨_, rfl⟩
  rw [← hgd]
  rw [← hgc]
  rw [← hgc] at kc
  rw [← hgd] at kd
  generalize ((w6.alloc (.cells #[.int .u8 (xa : Int), .int .u32 (xb : Int), .int .u8 (xk : Int), .string ⟨xs.toArray⟩, .string ⟨xt.toArray⟩, .string ⟨xu.toArray⟩, .int .u8 (xz : Int)] 73)).alloc (.cells #[.string ⟨q.doc.s.toArray⟩, .int .i64 (q.err : Int)] 48)) = wz at *
  clear hgc hgd
  refine region_inv2 (by kernel_rfl) [] [(35, .slice A l.length ca), (36, .slice A' l.length ca'), (37, .bool true), (38, .bool true), (39, .int .i64 (er : Int)), (40, .int .i64 (er : Int)), (41, .bool true), (42, .bool true), (43, .bool true), (44, .agg #[.int .u8 (xa : Int), .int .u32 (xb : Int), .int .u8 (xk : Int), .string ⟨xs.toArray⟩, .string ⟨xt.toArray⟩, .string ⟨xu.toArray⟩, .int .u8 (xz : Int)]), (45, .agg #[.int .u8 (xa : Int), .int .u32 (xb : Int), .int .u8 (xk : Int), .string ⟨xs.toArray⟩, .string ⟨xt.toArray⟩, .string ⟨xu.toArray⟩, .int .u8 (xz : Int)]), (46, .bool true), (47, .bool true), (48, .bool true), (49, .pointer (some ⟨w2.heap.size, 0, none⟩)), (50, .int .i64 (q.err : Int)), (51, .pointer (some ⟨gd, 1, none⟩)), (52, .int .i64 (q.err : Int)), (53, .bool true), (54, .bool true), (55, .bool true), (56, .pointer (some ⟨w2.heap.size, 0, none⟩)), (57, .int .i64 (q.left : Int)), (58, .pointer (some ⟨gd, 0, none⟩)), (59, .string ⟨q.doc.s.toArray⟩), (60, .int .i64 (q.left : Int)), (61, .bool true), (62, .bool true), (63, .bool true), (64, .agg #[.int .u8 0, .int .u32 0, .int .u8 0, .string ⟨#[]⟩, .string ⟨#[]⟩, .string ⟨#[]⟩, .int .u8 0]), (65, .agg #[.int .u8 0, .int .u32 0, .int .u8 0, .string ⟨#[]⟩, .string ⟨#[]⟩, .string ⟨#[]⟩, .int .u8 0]), (66, .bool true), (67, .bool true), (68, .bool true), (69, .bool true), (70, .bool true), (2, .bool true)] (by kernel_rfl) (by kernel_rfl) rfl (by kernel_rfl) ?_ ?_ ?_
  · intro q hq; cases hq
  · refine And.intro ?_ ?_
    · intro d hd ρ W hcs bw hn hg
      cases hd
      refine .inl ⟨trivial, ?_⟩
      have e3 : ρ (.tmp 3) = .slice A l.length ca := hn 3 (by decide)
      clear hn hg
      refine .inl ⟨_, W, rfl, e3, Below.refl _ _⟩
    refine And.intro ?_ ?_
    · intro d hd ρ W hcs bw hn hg
      cases hd
      refine .inl ⟨trivial, ?_⟩
      have e5 : ρ (.tmp 5) = .slice A' l.length ca' := hn 5 (by decide)
      clear hn hg
      refine .inl ⟨_, W, rfl, e5, Below.refl _ _⟩
    refine And.intro ?_ ?_
    · intro d hd ρ W hcs bw hn hg
      cases hd
      refine .inl ⟨trivial, ?_⟩
      have e35 : ρ (.tmp 35) = .slice A l.length ca := hn 35 (by decide)
      have e36 : ρ (.tmp 36) = .slice A' l.length ca' := hn 36 (by decide)
      clear hn hg
      have ef : ρ (.func 47) = .func (.func 47) #[] #[] := hcs.2 _
      refine .inr ⟨47, #[.slice A l.length ca, .slice A' l.length ca'], ?_, (HSA.out W (rA1.below bw) (rA2.below bw)).mono ?_⟩
      · go_simp
      · rintro e w2 ⟨rfl, B2⟩; exact ⟨_, rfl, rfl, B2⟩
    refine And.intro ?_ ?_
    · intro d hd ρ W hcs bw hn hg
      cases hd
      refine .inl ⟨trivial, ?_⟩
      have e37 : ρ (.tmp 37) = .bool true := hn 37 (by decide)
      clear hn hg
      refine .inl ⟨_, W, rfl, e37, Below.refl _ _⟩
    refine And.intro ?_ ?_
    · intro d hd ρ W hcs bw hn hg
      cases hd
      have eg : ρ (.tmp 38) = .bool true := hg _ _ _ _ rfl rfl rfl
      refine .inl ⟨⟨_, _, rfl, rfl, eg⟩, ?_⟩
      have e4 : ρ (.tmp 4) = .int .i64 (er : Int) := hn 4 (by decide)
      clear hn hg
      refine .inl ⟨_, W, rfl, e4, Below.refl _ _⟩
    refine And.intro ?_ ?_
    · intro d hd ρ W hcs bw hn hg
      cases hd
      have eg : ρ (.tmp 38) = .bool true := hg _ _ _ _ rfl rfl rfl
      refine .inl ⟨⟨_, _, rfl, rfl, eg⟩, ?_⟩
      have e6 : ρ (.tmp 6) = .int .i64 (er : Int) := hn 6 (by decide)
      clear hn hg
      refine .inl ⟨_, W, rfl, e6, Below.refl _ _⟩
    refine And.intro ?_ ?_
    · intro d hd ρ W hcs bw hn hg
      cases hd
      have eg : ρ (.tmp 38) = .bool true := hg _ _ _ _ rfl rfl rfl
      refine .inl ⟨⟨_, _, rfl, rfl, eg⟩, ?_⟩
      have e39 : ρ (.tmp 39) = .int .i64 (er : Int) := hn 39 (by decide)
      have e40 : ρ (.tmp 40) = .int .i64 (er : Int) := hn 40 (by decide)
      clear hn hg
      refine .inl ⟨.bool true, W, ?_, rfl, Below.refl _ _⟩
      go_simp
    refine And.intro ?_ ?_
    · intro d hd ρ W hcs bw hn hg
      cases hd
      refine .inl ⟨trivial, ?_⟩
      have e38 : ρ (.tmp 38) = .bool true := hn 38 (by decide)
      have e41 : ρ (.tmp 41) = .bool true := hn 41 (by decide)
      clear hn hg
      refine .inl ⟨.bool true, W, ?_, rfl, Below.refl _ _⟩
      have hc1 := hcs.1
      go_simp
    refine And.intro ?_ ?_
    · intro d hd ρ W hcs bw hn hg
      cases hd
      refine .inl ⟨trivial, ?_⟩
      have e42 : ρ (.tmp 42) = .bool true := hn 42 (by decide)
      clear hn hg
      refine .inl ⟨_, W, rfl, e42, Below.refl _ _⟩
    refine And.intro ?_ ?_
    · intro d hd ρ W hcs bw hn hg
      cases hd
      have eg : ρ (.tmp 43) = .bool true := hg _ _ _ _ rfl rfl rfl
      refine .inl ⟨⟨_, _, rfl, rfl, eg⟩, ?_⟩
      have e8 : ρ (.tmp 8) = .pointer (some ⟨gb, 0, none⟩) := hn 8 (by decide)
      clear hn hg
      have z0 : W.cell? ⟨gb, 0, none⟩ = some (.int .u8 (xa : Int)) := (kb6.below bw kb6.lt).cell 0
      have z1 : W.cell? ⟨gb, 1, none⟩ = some (.int .u32 (xb : Int)) := (kb6.below bw kb6.lt).cell 1
      have z2 : W.cell? ⟨gb, 2, none⟩ = some (.int .u8 (xk : Int)) := (kb6.below bw kb6.lt).cell 2
      have z3 : W.cell? ⟨gb, 3, none⟩ = some (.string ⟨xs.toArray⟩) := (kb6.below bw kb6.lt).cell 3
      have z4 : W.cell? ⟨gb, 4, none⟩ = some (.string ⟨xt.toArray⟩) := (kb6.below bw kb6.lt).cell 4
      have z5 : W.cell? ⟨gb, 5, none⟩ = some (.string ⟨xu.toArray⟩) := (kb6.below bw kb6.lt).cell 5
      have z6 : W.cell? ⟨gb, 6, none⟩ = some (.int .u8 (xz : Int)) := (kb6.below bw kb6.lt).cell 6
      refine .inl ⟨.agg #[.int .u8 (xa : Int), .int .u32 (xb : Int), .int .u8 (xk : Int), .string ⟨xs.toArray⟩, .string ⟨xt.toArray⟩, .string ⟨xu.toArray⟩, .int .u8 (xz : Int)], W, ?_, rfl, Below.refl _ _⟩
      go_simp
    refine And.intro ?_ ?_
    · intro d hd ρ W hcs bw hn hg
      cases hd
      have eg : ρ (.tmp 43) = .bool true := hg _ _ _ _ rfl rfl rfl
      refine .inl ⟨⟨_, _, rfl, rfl, eg⟩, ?_⟩
      have e9 : ρ (.tmp 9) = .pointer (some ⟨gc, 0, none⟩) := hn 9 (by decide)
      clear hn hg
      have z0 : W.cell? ⟨gc, 0, none⟩ = some (.int .u8 (xa : Int)) := (kc.below bw kc.lt).cell 0
      have z1 : W.cell? ⟨gc, 1, none⟩ = some (.int .u32 (xb : Int)) := (kc.below bw kc.lt).cell 1
      have z2 : W.cell? ⟨gc, 2, none⟩ = some (.int .u8 (xk : Int)) := (kc.below bw kc.lt).cell 2
      have z3 : W.cell? ⟨gc, 3, none⟩ = some (.string ⟨xs.toArray⟩) := (kc.below bw kc.lt).cell 3
      have z4 : W.cell? ⟨gc, 4, none⟩ = some (.string ⟨xt.toArray⟩) := (kc.below bw kc.lt).cell 4
      have z5 : W.cell? ⟨gc, 5, none⟩ = some (.string ⟨xu.toArray⟩) := (kc.below bw kc.lt).cell 5
      have z6 : W.cell? ⟨gc, 6, none⟩ = some (.int .u8 (xz : Int)) := (kc.below bw kc.lt).cell 6
      refine .inl ⟨.agg #[.int .u8 (xa : Int), .int .u32 (xb : Int), .int .u8 (xk : Int), .string ⟨xs.toArray⟩, .string ⟨xt.toArray⟩, .string ⟨xu.toArray⟩, .int .u8 (xz : Int)], W, ?_, rfl, Below.refl _ _⟩
      go_simp
    refine And.intro ?_ ?_
    · intro d hd ρ W hcs bw hn hg
      cases hd
      have eg : ρ (.tmp 43) = .bool true := hg _ _ _ _ rfl rfl rfl
      refine .inl ⟨⟨_, _, rfl, rfl, eg⟩, ?_⟩
      have e44 : ρ (.tmp 44) = .agg #[.int .u8 (xa : Int), .int .u32 (xb : Int), .int .u8 (xk : Int), .string ⟨xs.toArray⟩, .string ⟨xt.toArray⟩, .string ⟨xu.toArray⟩, .int .u8 (xz : Int)] := hn 44 (by decide)
      have e45 : ρ (.tmp 45) = .agg #[.int .u8 (xa : Int), .int .u32 (xb : Int), .int .u8 (xk : Int), .string ⟨xs.toArray⟩, .string ⟨xt.toArray⟩, .string ⟨xu.toArray⟩, .int .u8 (xz : Int)] := hn 45 (by decide)
      clear hn hg
      refine .inl ⟨.bool true, W, ?_, rfl, Below.refl _ _⟩
      go_simp
    refine And.intro ?_ ?_
    · intro d hd ρ W hcs bw hn hg
      cases hd
      refine .inl ⟨trivial, ?_⟩
      have e43 : ρ (.tmp 43) = .bool true := hn 43 (by decide)
      have e46 : ρ (.tmp 46) = .bool true := hn 46 (by decide)
      clear hn hg
      refine .inl ⟨.bool true, W, ?_, rfl, Below.refl _ _⟩
      have hc1 := hcs.1
      go_simp
    refine And.intro ?_ ?_
    · intro d hd ρ W hcs bw hn hg
      cases hd
      refine .inl ⟨trivial, ?_⟩
      have e47 : ρ (.tmp 47) = .bool true := hn 47 (by decide)
      clear hn hg
      refine .inl ⟨_, W, rfl, e47, Below.refl _ _⟩
    refine And.intro ?_ ?_
    · intro d hd ρ W hcs bw hn hg
      cases hd
      have eg : ρ (.tmp 48) = .bool true := hg _ _ _ _ rfl rfl rfl
      refine .inl ⟨⟨_, _, rfl, rfl, eg⟩, ?_⟩
      have e7 : ρ (.tmp 7) = .pointer (some ⟨w2.heap.size, 0, none⟩) := hn 7 (by decide)
      clear hn hg
      refine .inl ⟨_, W, rfl, e7, Below.refl _ _⟩
    refine And.intro ?_ ?_
    · intro d hd ρ W hcs bw hn hg
      cases hd
      have eg : ρ (.tmp 48) = .bool true := hg _ _ _ _ rfl rfl rfl
      refine .inl ⟨⟨_, _, rfl, rfl, eg⟩, ?_⟩
      have e49 : ρ (.tmp 49) = .pointer (some ⟨w2.heap.size, 0, none⟩) := hn 49 (by decide)
      clear hn hg
      have ef : ρ (.func 27) = .func (.func 27) #[] #[] := hcs.2 _
      refine .inr ⟨27, #[.pointer (some ⟨w2.heap.size, 0, none⟩)], ?_, (err_any w2.heap.size q W (Blk.below rd6 bw (Blk.lt rd6))).mono ?_⟩
      · go_simp
      · rintro e w2 ⟨rfl, rfl⟩; exact ⟨_, rfl, rfl, Below.refl _ _⟩
    refine And.intro ?_ ?_
    · intro d hd ρ W hcs bw hn hg
      cases hd
      have eg : ρ (.tmp 48) = .bool true := hg _ _ _ _ rfl rfl rfl
      refine .inl ⟨⟨_, _, rfl, rfl, eg⟩, ?_⟩
      have e10 : ρ (.tmp 10) = .pointer (some ⟨gd, 0, none⟩) := hn 10 (by decide)
      clear hn hg
      refine .inl ⟨.pointer (some ⟨gd, 1, none⟩), W, ?_, rfl, Below.refl _ _⟩
      go_simp
    refine And.intro ?_ ?_
    · intro d hd ρ W hcs bw hn hg
      cases hd
      have eg : ρ (.tmp 48) = .bool true := hg _ _ _ _ rfl rfl rfl
      refine .inl ⟨⟨_, _, rfl, rfl, eg⟩, ?_⟩
      have e51 : ρ (.tmp 51) = .pointer (some ⟨gd, 1, none⟩) := hn 51 (by decide)
      clear hn hg
      have z1 : W.cell? ⟨gd, 1, none⟩ = some (.int .i64 (q.err : Int)) := (kd.below bw kd.lt).cell 1
      refine .inl ⟨.int .i64 (q.err : Int), W, ?_, rfl, Below.refl _ _⟩
      go_simp
    refine And.intro ?_ ?_
    · intro d hd ρ W hcs bw hn hg
      cases hd
      have eg : ρ (.tmp 48) = .bool true := hg _ _ _ _ rfl rfl rfl
      refine .inl ⟨⟨_, _, rfl, rfl, eg⟩, ?_⟩
      have e50 : ρ (.tmp 50) = .int .i64 (q.err : Int) := hn 50 (by decide)
      have e52 : ρ (.tmp 52) = .int .i64 (q.err : Int) := hn 52 (by decide)
      clear hn hg
      refine .inl ⟨.bool true, W, ?_, rfl, Below.refl _ _⟩
      go_simp
    refine And.intro ?_ ?_
    · intro d hd ρ W hcs bw hn hg
      cases hd
      refine .inl ⟨trivial, ?_⟩
      have e48 : ρ (.tmp 48) = .bool true := hn 48 (by decide)
      have e53 : ρ (.tmp 53) = .bool true := hn 53 (by decide)
      clear hn hg
      refine .inl ⟨.bool true, W, ?_, rfl, Below.refl _ _⟩
      have hc1 := hcs.1
      go_simp
    refine And.intro ?_ ?_
    · intro d hd ρ W hcs bw hn hg
      cases hd
      refine .inl ⟨trivial, ?_⟩
      have e54 : ρ (.tmp 54) = .bool true := hn 54 (by decide)
      clear hn hg
      refine .inl ⟨_, W, rfl, e54, Below.refl _ _⟩
    refine And.intro ?_ ?_
    · intro d hd ρ W hcs bw hn hg
      cases hd
      have eg : ρ (.tmp 55) = .bool true := hg _ _ _ _ rfl rfl rfl
      refine .inl ⟨⟨_, _, rfl, rfl, eg⟩, ?_⟩
      have e7 : ρ (.tmp 7) = .pointer (some ⟨w2.heap.size, 0, none⟩) := hn 7 (by decide)
      clear hn hg
      refine .inl ⟨_, W, rfl, e7, Below.refl _ _⟩
    refine And.intro ?_ ?_
    · intro d hd ρ W hcs bw hn hg
      cases hd
      have eg : ρ (.tmp 55) = .bool true := hg _ _ _ _ rfl rfl rfl
      refine .inl ⟨⟨_, _, rfl, rfl, eg⟩, ?_⟩
      have e56 : ρ (.tmp 56) = .pointer (some ⟨w2.heap.size, 0, none⟩) := hn 56 (by decide)
      clear hn hg
      have ef : ρ (.func 28) = .func (.func 28) #[] #[] := hcs.2 _
      refine .inr ⟨28, #[.pointer (some ⟨w2.heap.size, 0, none⟩)], ?_, (left_any w2.heap.size q W (Blk.below rd6 bw (Blk.lt rd6))).mono ?_⟩
      · go_simp
      · rintro e w2 ⟨rfl, rfl⟩; exact ⟨_, rfl, rfl, Below.refl _ _⟩
    refine And.intro ?_ ?_
    · intro d hd ρ W hcs bw hn hg
      cases hd
      have eg : ρ (.tmp 55) = .bool true := hg _ _ _ _ rfl rfl rfl
      refine .inl ⟨⟨_, _, rfl, rfl, eg⟩, ?_⟩
      have e10 : ρ (.tmp 10) = .pointer (some ⟨gd, 0, none⟩) := hn 10 (by decide)
      clear hn hg
      refine .inl ⟨.pointer (some ⟨gd, 0, none⟩), W, ?_, rfl, Below.refl _ _⟩
      go_simp
    refine And.intro ?_ ?_
    · intro d hd ρ W hcs bw hn hg
      cases hd
      have eg : ρ (.tmp 55) = .bool true := hg _ _ _ _ rfl rfl rfl
      refine .inl ⟨⟨_, _, rfl, rfl, eg⟩, ?_⟩
      have e58 : ρ (.tmp 58) = .pointer (some ⟨gd, 0, none⟩) := hn 58 (by decide)
      clear hn hg
      have z0 : W.cell? ⟨gd, 0, none⟩ = some (.string ⟨q.doc.s.toArray⟩) := (kd.below bw kd.lt).cell 0
      refine .inl ⟨.string ⟨q.doc.s.toArray⟩, W, ?_, rfl, Below.refl _ _⟩
      go_simp
    refine And.intro ?_ ?_
    · intro d hd ρ W hcs bw hn hg
      cases hd
      have eg : ρ (.tmp 55) = .bool true := hg _ _ _ _ rfl rfl rfl
      refine .inl ⟨⟨_, _, rfl, rfl, eg⟩, ?_⟩
      have e59 : ρ (.tmp 59) = .string ⟨q.doc.s.toArray⟩ := hn 59 (by decide)
      clear hn hg
      refine .inl ⟨.int .i64 (q.left : Int), W, ?_, rfl, Below.refl _ _⟩
      go_simp
    refine And.intro ?_ ?_
    · intro d hd ρ W hcs bw hn hg
      cases hd
      have eg : ρ (.tmp 55) = .bool true := hg _ _ _ _ rfl rfl rfl
      refine .inl ⟨⟨_, _, rfl, rfl, eg⟩, ?_⟩
      have e57 : ρ (.tmp 57) = .int .i64 (q.left : Int) := hn 57 (by decide)
      have e60 : ρ (.tmp 60) = .int .i64 (q.left : Int) := hn 60 (by decide)
      clear hn hg
      refine .inl ⟨.bool true, W, ?_, rfl, Below.refl _ _⟩
      go_simp
    refine And.intro ?_ ?_
    · intro d hd ρ W hcs bw hn hg
      cases hd
      refine .inl ⟨trivial, ?_⟩
      have e55 : ρ (.tmp 55) = .bool true := hn 55 (by decide)
      have e61 : ρ (.tmp 61) = .bool true := hn 61 (by decide)
      clear hn hg
      refine .inl ⟨.bool true, W, ?_, rfl, Below.refl _ _⟩
      have hc1 := hcs.1
      go_simp
    refine And.intro ?_ ?_
    · intro d hd ρ W hcs bw hn hg
      cases hd
      refine .inl ⟨trivial, ?_⟩
      have e62 : ρ (.tmp 62) = .bool true := hn 62 (by decide)
      clear hn hg
      refine .inl ⟨_, W, rfl, e62, Below.refl _ _⟩
    refine And.intro ?_ ?_
    · intro d hd ρ W hcs bw hn hg
      cases hd
      have eg : ρ (.tmp 63) = .bool true := hg _ _ _ _ rfl rfl rfl
      refine .inl ⟨⟨_, _, rfl, rfl, eg⟩, ?_⟩
      clear hn hg
      have hc1 := hcs.1
      have ef : ρ (.func 50) = .func (.func 50) #[] #[] := hcs.2 _
      refine .inr ⟨50, #[.pointer none], ?_, (HNI.out W).mono ?_⟩
      · go_simp
      · rintro e w2 ⟨rfl, B2⟩; exact ⟨_, rfl, rfl, B2⟩
    refine And.intro ?_ ?_
    · intro d hd ρ W hcs bw hn hg
      cases hd
      have eg : ρ (.tmp 63) = .bool true := hg _ _ _ _ rfl rfl rfl
      refine .inl ⟨⟨_, _, rfl, rfl, eg⟩, ?_⟩
      clear hn hg
      refine .inl ⟨.agg #[.int .u8 0, .int .u32 0, .int .u8 0, .string ⟨#[]⟩, .string ⟨#[]⟩, .string ⟨#[]⟩, .int .u8 0], W, ?_, rfl, Below.refl _ _⟩
      go_simp
    refine And.intro ?_ ?_
    · intro d hd ρ W hcs bw hn hg
      cases hd
      have eg : ρ (.tmp 63) = .bool true := hg _ _ _ _ rfl rfl rfl
      refine .inl ⟨⟨_, _, rfl, rfl, eg⟩, ?_⟩
      have e64 : ρ (.tmp 64) = .agg #[.int .u8 0, .int .u32 0, .int .u8 0, .string ⟨#[]⟩, .string ⟨#[]⟩, .string ⟨#[]⟩, .int .u8 0] := hn 64 (by decide)
      have e65 : ρ (.tmp 65) = .agg #[.int .u8 0, .int .u32 0, .int .u8 0, .string ⟨#[]⟩, .string ⟨#[]⟩, .string ⟨#[]⟩, .int .u8 0] := hn 65 (by decide)
      clear hn hg
      refine .inl ⟨.bool true, W, ?_, rfl, Below.refl _ _⟩
      go_simp
    refine And.intro ?_ ?_
    · intro d hd ρ W hcs bw hn hg
      cases hd
      refine .inl ⟨trivial, ?_⟩
      have e63 : ρ (.tmp 63) = .bool true := hn 63 (by decide)
      have e66 : ρ (.tmp 66) = .bool true := hn 66 (by decide)
      clear hn hg
      refine .inl ⟨.bool true, W, ?_, rfl, Below.refl _ _⟩
      have hc1 := hcs.1
      go_simp
    refine And.intro ?_ ?_
    · intro d hd ρ W hcs bw hn hg
      cases hd
      refine .inl ⟨trivial, ?_⟩
      have e67 : ρ (.tmp 67) = .bool true := hn 67 (by decide)
      clear hn hg
      refine .inl ⟨_, W, rfl, e67, Below.refl _ _⟩
    refine And.intro ?_ ?_
    · intro d hd ρ W hcs bw hn hg
      cases hd
      have eg : ρ (.tmp 68) = .bool true := hg _ _ _ _ rfl rfl rfl
      refine .inl ⟨⟨_, _, rfl, rfl, eg⟩, ?_⟩
      clear hn hg
      have ef : ρ (.func 40) = .func (.func 40) #[] #[] := hcs.2 _
      refine .inr ⟨40, #[], ?_, (wakes_any W).mono ?_⟩
      · go_simp
      · rintro e w2 ⟨rfl, B2⟩; exact ⟨_, rfl, rfl, B2⟩
    refine And.intro ?_ ?_
    · intro d hd ρ W hcs bw hn hg
      cases hd
      refine .inl ⟨trivial, ?_⟩
      have e68 : ρ (.tmp 68) = .bool true := hn 68 (by decide)
      have e69 : ρ (.tmp 69) = .bool true := hn 69 (by decide)
      clear hn hg
      refine .inl ⟨.bool true, W, ?_, rfl, Below.refl _ _⟩
      have hc1 := hcs.1
      go_simp
    refine And.intro ?_ ?_
    · intro d hd ρ W hcs bw hn hg
      cases hd
      refine .inl ⟨trivial, ?_⟩
      have e70 : ρ (.tmp 70) = .bool true := hn 70 (by decide)
      clear hn hg
      refine .inl ⟨_, W, rfl, e70, Below.refl _ _⟩
    trivial
  · intro a' w' hsz hdf hb hVs
    have hr : a'.eval (.tmp 2) = .bool true := hVs 2
    have bw := bw9.drew.trans (hb.mono bw9.drew.size)
    clear hVs
    go_wp2
    exact ret_slot Try.results14 hr hdf ⟨rfl, bw⟩
end Go.Proofs.Ytgbnaifjdfoahaa.Cmd
