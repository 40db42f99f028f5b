/- The law CmdTells walked. Conditions: the arguments can be read. -/
import Derived.Test.YtgbnaifjdfoahaaCmdWakes
import Derived.Test.YtgbnaifjdfoahaaCmdBatchRef
import Derived.Test.YtgbnaifjdfoahaaCmdMay
import Derived.Test.YtgbnaifjdfoahaaCmdGreat
import Derived.Test.YtgbnaifjdfoahaaInvB
namespace Go.Proofs.Ytgbnaifjdfoahaa.Cmd
open Go.RowKit Wire DrawInv

set_option linter.unusedSimpArgs false in
set_option maxRecDepth 100000 in
set_option maxHeartbeats 16000000 in
theorem ctells_any (l : List Cm) (hf : ∀ c ∈ l, c.Fits) (hl : l.length ≤ 9223372036854775807) (a : Cm) (ha : a.Fits) (ahead : List UInt8) (hh : ahead.length ≤ 9223372036854775807) (A A2 : Option Addr) (ca c2 : Nat) (w : World) (hA : Rows w A 7 cmL l) (hr : Reads w w.heap.size 1 A2 ahead.length (bv ahead)) :
    Calls Try.prog 11 #[.slice A l.length ca, cmV a, .slice A2 ahead.length c2] w fun e w' => e = .returned (.bool true) ∧ Below w.heap.size w w' := by
  have HGL := Lib.hid (fun W h => great_any l hl A ca W h)
  have HGA := Lib.hid (fun (W : World) (g : Nat) (h : Blk W g 73 (cmC a)) => great_any [a] (by simp) (some ⟨g, 0, none⟩) 1 W (rows_one h))
  have HCK := Lib.hid (fun W => check_any a ha W)
  have HMY := Lib.hid (fun W => refMay_any a W)
  have hlong : greatB [a] = longB a := by unfold greatB; simp
  rw [hlong] at HGA
  have HON := Lib.hid (fun (h : longB a = false) W => by
    unfold longB at h
    have h := of_decide_eq_false h
    exact refOne_any a ha (by omega) (by omega) (by omega) W)
  have HPU := Lib.hid (fun (h : longB a = false) (hn : ahead.length ≤ 100) (A5 : Option Addr) (c5 : Nat) W hr => by
    unfold longB at h
    have h := of_decide_eq_false h
    exact put_any a ha ahead (by omega) (by omega) (by omega) (by omega) A5 c5 W hr)
  have HBA := Lib.hid (fun W hA => batch_any l hf hl A ca W hA)
  have HBR := Lib.hid (fun (h : greatB l = false) W hA => by
    unfold greatB at h
    rw [Bool.or_eq_false_iff] at h
    have h1 := of_decide_eq_false h.1
    refine refBatch_any l hf (fun c hc => ?_) (by omega) A ca W hA
    have h2 := (List.any_eq_false (p := longB) (l := l)).1 h.2 c hc
    unfold longB at h2
    have h3 : ¬ (300 < c.key.length ∨ 300 < c.old.length ∨ 300 < c.new.length) := fun h => h2 (decide_eq_true h)
    omega)
  have kb := Blk.new w 73 (cmC a)
  have hB1 : Below w.heap.size w (w.alloc (.cells (cmC a) 73)) := (Below.refl _ w).alloc (Nat.le_refl _) _
  have rA := (hr.below hB1).more hB1.size
  have hA1 := hA.below hB1
  have hol0 : longB a = false → (oneB a).length ≤ 4000 := fun h => by
    unfold longB at h
    have h := of_decide_eq_false h
    exact oneB_most ha (by omega)
  generalize hob : oneB a = ob at *
  generalize greatB l = gl at *
  generalize longB a = ga at *
  generalize batchC l = pb at *
  obtain ⟨ps, pe⟩ := pb
  have add1 := add_str ahead ob
  have HOL := Lib.hid hol0
  clear hf hob hlong hA hr hol0
  obtain ⟨xa, xb, xk, xs, xt, xu, xz⟩ := a
  generalize mayB ⟨xa, xb, xk, xs, xt, xu, xz⟩ = b at *
  unfold cmV at *
  unfold cmC at *
  dsimp only at *
  go_enter Try.func11, Try.ntmps11
  go_wp2_with fail
  refine (HGL.out _ hA1).mono ?_; rintro e w2 ⟨rfl, B2⟩
  have kb2 := kb.below B2 kb.lt
  have rA2 := (rA.below B2).more B2.size
  have hA2 := hA1.below B2
  have bw2 := hB1.trans (B2.mono hB1.size)
  clear kb rA hA1 hB1 B2 HGL
  cases gl
  rotate_left
  · clear HGA HCK HMY HON HPU HBA HBR HOL
    go_wp2_with fail
    refine (wakes_any _).mono ?_; rintro e wz ⟨rfl, Bz⟩
    have bwz := bw2.trans (Bz.mono bw2.size)
    go_wp2_with fail
    go_ret
    exact ⟨rfl, bwz⟩
  have q0 := kb2.cell 0
  have q1 := kb2.cell 1
  have q2 := kb2.cell 2
  have q3 := kb2.cell 3
  have q4 := kb2.cell 4
  have q5 := kb2.cell 5
  have q6 := kb2.cell 6
  go_wp2_with fail
  have kn := Blk.new w2 73 #[.int .u8 (xa : Int), .int .u32 (xb : Int), .int .u8 (xk : Int), .string ⟨xs.toArray⟩, .string ⟨xt.toArray⟩, .string ⟨xu.toArray⟩, .int .u8 (xz : Int)]
  have b2 : Below w2.heap.size w2 (w2.alloc (.cells #[.int .u8 (xa : Int), .int .u32 (xb : Int), .int .u8 (xk : Int), .string ⟨xs.toArray⟩, .string ⟨xt.toArray⟩, .string ⟨xu.toArray⟩, .int .u8 (xz : Int)] 73)) := (Below.refl _ w2).alloc (Nat.le_refl _) _
  refine (HGA.out _ _ kn).mono ?_; rintro e w3 ⟨rfl, B3⟩
  have b3 := b2.trans (B3.mono b2.size)
  have kb3 := kb2.below b3 kb2.lt
  have rA3 := (rA2.below b3).more b3.size
  have hA3 := hA2.below b3
  have bw3 := bw2.trans (b3.mono bw2.size)
  clear kb2 rA2 hA2 bw2 B3 b3 b2 kn HGA q0 q1 q2 q3 q4 q5 q6
  cases ga
  rotate_left
  · clear HCK HMY HON HPU HBA HBR HOL
    go_wp2_with fail
    refine (wakes_any _).mono ?_; rintro e wz ⟨rfl, Bz⟩
    have bwz := bw3.trans (Bz.mono bw3.size)
    go_wp2_with fail
    go_ret
    exact ⟨rfl, bwz⟩
  by_cases hn : 100 < ahead.length
  · have hni : (100 : Int) < (ahead.length : Int) := by omega
    clear HCK HMY HON HPU HBA HBR HOL
    go_wp2_with fail
    refine (wakes_any _).mono ?_; rintro e wz ⟨rfl, Bz⟩
    have bwz := bw3.trans (Bz.mono bw3.size)
    go_wp2_with fail
    go_ret
    exact ⟨rfl, bwz⟩
  have hni : ¬ (100 : Int) < (ahead.length : Int) := by omega
  have hol := HOL.out (by trivial)
  have HBR2 := Lib.hid (HBR.out (by trivial))
  have HON2 := Lib.hid (HON.out (by trivial))
  have HPU2 := Lib.hid (HPU.out (by trivial) (by omega))
  clear HBR HON HPU HOL
  have lt1 : ¬ (9223372036854775807 < ahead.length + ob.length) := by omega
  have sz1 := size_str ahead
  have sz2 := size_str ob
  have hcv := conv_str Try.underlying40 Try.underlying5 Try.underlying9 c2 rA3
  go_wp2_with fail
  refine (HBA.out _ hA3).mono ?_; rintro e w4 ⟨rfl, B4⟩
  have kb4 := kb3.below B4 kb3.lt
  have rA4 := (rA3.below B4).more B4.size
  have hA4 := hA3.below B4
  have bw4 := bw3.trans (B4.mono bw3.size)
  clear kb3 rA3 hA3 bw3 B4 hcv HBA
  go_wp2_with fail
  refine (HBR2.out _ hA4).mono ?_; rintro e w5 ⟨rfl, B5⟩
  have kb5 := (kb4.below B5 kb4.lt).drew
  have rA5 : Reads w5.drew w5.drew.heap.size 1 A2 ahead.length (bv ahead) := (rA4.below B5).more B5.size
  have bw5 := bw4.trans (B5.mono bw4.size)
  clear kb4 rA4 hA4 bw4 B5 HBR2
  go_upto_region 6 with fail
  cases b
  · refine region_inv2 (by kernel_rfl) [(54, BtAt ahead), (56, BtAt (ahead ++ ob))] [(37, .agg #[.int .u8 (xa : Int), .int .u32 (xb : Int), .int .u8 (xk : Int), .string ⟨xs.toArray⟩, .string ⟨xt.toArray⟩, .string ⟨xu.toArray⟩, .int .u8 (xz : Int)]), (38, .int .i64 2), (39, .bool false), (40, .agg #[.int .u8 (xa : Int), .int .u32 (xb : Int), .int .u8 (xk : Int), .string ⟨xs.toArray⟩, .string ⟨xt.toArray⟩, .string ⟨xu.toArray⟩, .int .u8 (xz : Int)]), (41, .bool false), (42, .bool true), (43, .bool true), (44, .agg #[.int .u8 (xa : Int), .int .u32 (xb : Int), .int .u8 (xk : Int), .string ⟨xs.toArray⟩, .string ⟨xt.toArray⟩, .string ⟨xu.toArray⟩, .int .u8 (xz : Int)]), (45, .bool false), (46, .bool false), (47, .agg #[.int .u8 (xa : Int), .int .u32 (xb : Int), .int .u8 (xk : Int), .string ⟨xs.toArray⟩, .string ⟨xt.toArray⟩, .string ⟨xu.toArray⟩, .int .u8 (xz : Int)]), (48, .int .i64 2), (49, .bool true), (50, .bool true), (51, .bool true), (52, .bool true), (53, .slice A2 ahead.length c2), (55, .agg #[.int .u8 (xa : Int), .int .u32 (xb : Int), .int .u8 (xk : Int), .string ⟨xs.toArray⟩, .string ⟨xt.toArray⟩, .string ⟨xu.toArray⟩, .int .u8 (xz : Int)]), (57, .string ⟨(ahead ++ ob).toArray⟩), (58, .string ⟨ahead.toArray⟩), (59, .agg #[.int .u8 (xa : Int), .int .u32 (xb : Int), .int .u8 (xk : Int), .string ⟨xs.toArray⟩, .string ⟨xt.toArray⟩, .string ⟨xu.toArray⟩, .int .u8 (xz : Int)]), (60, .string ⟨ob.toArray⟩), (61, .string ⟨(ahead ++ ob).toArray⟩), (62, .bool true), (63, .bool true), (64, .bool true), (65, .string ⟨ps.toArray⟩), (66, .string ⟨ps.toArray⟩), (67, .bool true), (68, .bool true), (69, .bool true), (70, .int .i64 (pe : Int)), (71, .int .i64 (pe : Int)), (72, .bool true), (73, .bool true), (74, .bool true), (75, .bool true), (76, .bool true), (6, .bool true)] (by kernel_rfl) (by kernel_rfl) rfl (by kernel_rfl) ?_ ?_ ?_
    · intro q hq
      rcases List.mem_cons.1 hq with rfl | hq
      · exact BtAt.below _
      obtain rfl := List.mem_singleton.1 hq
      exact BtAt.below _
    · refine And.intro ?_ ?_
      · intro d hd ρ W hcs bw hn hg
        cases hd
        refine .inl ⟨trivial, ?_⟩
        have e4 : ρ (.tmp 4) = .pointer (some ⟨w.heap.size, 0, none⟩) := hn 4 (by decide)
        clear hn hg
        have z0 : W.cell? ⟨w.heap.size, 0, none⟩ = some (.int .u8 (xa : Int)) := (kb5.below bw kb5.lt).cell 0
        have z1 : W.cell? ⟨w.heap.size, 1, none⟩ = some (.int .u32 (xb : Int)) := (kb5.below bw kb5.lt).cell 1
        have z2 : W.cell? ⟨w.heap.size, 2, none⟩ = some (.int .u8 (xk : Int)) := (kb5.below bw kb5.lt).cell 2
        have z3 : W.cell? ⟨w.heap.size, 3, none⟩ = some (.string ⟨xs.toArray⟩) := (kb5.below bw kb5.lt).cell 3
        have z4 : W.cell? ⟨w.heap.size, 4, none⟩ = some (.string ⟨xt.toArray⟩) := (kb5.below bw kb5.lt).cell 4
        have z5 : W.cell? ⟨w.heap.size, 5, none⟩ = some (.string ⟨xu.toArray⟩) := (kb5.below bw kb5.lt).cell 5
        have z6 : W.cell? ⟨w.heap.size, 6, none⟩ = some (.int .u8 (xz : Int)) := (kb5.below bw kb5.lt).cell 6
        refine .inl ⟨.agg #[.int .u8 (xa : Int), .int .u32 (xb : Int), .int .u8 (xk : Int), .string ⟨xs.toArray⟩, .string ⟨xt.toArray⟩, .string ⟨xu.toArray⟩, .int .u8 (xz : Int)], W, ?_, rfl, Below.refl _ _⟩
        go_simp
      refine And.intro ?_ ?_
      · intro d hd ρ W hcs bw hn hg
        cases hd
        refine .inl ⟨trivial, ?_⟩
        have e37 : ρ (.tmp 37) = .agg #[.int .u8 (xa : Int), .int .u32 (xb : Int), .int .u8 (xk : Int), .string ⟨xs.toArray⟩, .string ⟨xt.toArray⟩, .string ⟨xu.toArray⟩, .int .u8 (xz : Int)] := hn 37 (by decide)
        clear hn hg
        have ef : ρ (.func 43) = .func (.func 43) #[] #[] := hcs.2 _
        refine .inr ⟨43, #[.agg #[.int .u8 (xa : Int), .int .u32 (xb : Int), .int .u8 (xk : Int), .string ⟨xs.toArray⟩, .string ⟨xt.toArray⟩, .string ⟨xu.toArray⟩, .int .u8 (xz : Int)]], ?_, (HCK.out W).mono ?_⟩
        · go_simp
        · rintro e w2 ⟨rfl, B2⟩; exact ⟨_, rfl, rfl, B2⟩
      refine And.intro ?_ ?_
      · intro d hd ρ W hcs bw hn hg
        cases hd
        refine .inl ⟨trivial, ?_⟩
        have e38 : ρ (.tmp 38) = .int .i64 2 := hn 38 (by decide)
        clear hn hg
        refine .inl ⟨.bool false, W, ?_, rfl, Below.refl _ _⟩
        have hc1 := hcs.1
        go_simp
      refine And.intro ?_ ?_
      · intro d hd ρ W hcs bw hn hg
        cases hd
        refine .inl ⟨trivial, ?_⟩
        have e4 : ρ (.tmp 4) = .pointer (some ⟨w.heap.size, 0, none⟩) := hn 4 (by decide)
        clear hn hg
        have z0 : W.cell? ⟨w.heap.size, 0, none⟩ = some (.int .u8 (xa : Int)) := (kb5.below bw kb5.lt).cell 0
        have z1 : W.cell? ⟨w.heap.size, 1, none⟩ = some (.int .u32 (xb : Int)) := (kb5.below bw kb5.lt).cell 1
        have z2 : W.cell? ⟨w.heap.size, 2, none⟩ = some (.int .u8 (xk : Int)) := (kb5.below bw kb5.lt).cell 2
        have z3 : W.cell? ⟨w.heap.size, 3, none⟩ = some (.string ⟨xs.toArray⟩) := (kb5.below bw kb5.lt).cell 3
        have z4 : W.cell? ⟨w.heap.size, 4, none⟩ = some (.string ⟨xt.toArray⟩) := (kb5.below bw kb5.lt).cell 4
        have z5 : W.cell? ⟨w.heap.size, 5, none⟩ = some (.string ⟨xu.toArray⟩) := (kb5.below bw kb5.lt).cell 5
        have z6 : W.cell? ⟨w.heap.size, 6, none⟩ = some (.int .u8 (xz : Int)) := (kb5.below bw kb5.lt).cell 6
        refine .inl ⟨.agg #[.int .u8 (xa : Int), .int .u32 (xb : Int), .int .u8 (xk : Int), .string ⟨xs.toArray⟩, .string ⟨xt.toArray⟩, .string ⟨xu.toArray⟩, .int .u8 (xz : Int)], W, ?_, rfl, Below.refl _ _⟩
        go_simp
      refine And.intro ?_ ?_
      · intro d hd ρ W hcs bw hn hg
        cases hd
        refine .inl ⟨trivial, ?_⟩
        have e40 : ρ (.tmp 40) = .agg #[.int .u8 (xa : Int), .int .u32 (xb : Int), .int .u8 (xk : Int), .string ⟨xs.toArray⟩, .string ⟨xt.toArray⟩, .string ⟨xu.toArray⟩, .int .u8 (xz : Int)] := hn 40 (by decide)
        clear hn hg
        have ef : ρ (.func 44) = .func (.func 44) #[] #[] := hcs.2 _
        refine .inr ⟨44, #[.agg #[.int .u8 (xa : Int), .int .u32 (xb : Int), .int .u8 (xk : Int), .string ⟨xs.toArray⟩, .string ⟨xt.toArray⟩, .string ⟨xu.toArray⟩, .int .u8 (xz : Int)]], ?_, (HMY.out W).mono ?_⟩
        · go_simp
        · rintro e w2 ⟨rfl, B2⟩; exact ⟨_, rfl, rfl, B2⟩
      refine And.intro ?_ ?_
      · intro d hd ρ W hcs bw hn hg
        cases hd
        refine .inl ⟨trivial, ?_⟩
        have e39 : ρ (.tmp 39) = .bool false := hn 39 (by decide)
        have e41 : ρ (.tmp 41) = .bool false := hn 41 (by decide)
        clear hn hg
        refine .inl ⟨.bool true, W, ?_, rfl, Below.refl _ _⟩
        go_simp
      refine And.intro ?_ ?_
      · intro d hd ρ W hcs bw hn hg
        cases hd
        refine .inl ⟨trivial, ?_⟩
        have e42 : ρ (.tmp 42) = .bool true := hn 42 (by decide)
        clear hn hg
        refine .inl ⟨_, W, rfl, e42, Below.refl _ _⟩
      refine And.intro ?_ ?_
      · intro d hd ρ W hcs bw hn hg
        cases hd
        have eg : ρ (.tmp 43) = .bool true := hg _ _ _ _ rfl rfl rfl
        refine .inl ⟨⟨_, _, rfl, rfl, eg⟩, ?_⟩
        have e4 : ρ (.tmp 4) = .pointer (some ⟨w.heap.size, 0, none⟩) := hn 4 (by decide)
        clear hn hg
        have z0 : W.cell? ⟨w.heap.size, 0, none⟩ = some (.int .u8 (xa : Int)) := (kb5.below bw kb5.lt).cell 0
        have z1 : W.cell? ⟨w.heap.size, 1, none⟩ = some (.int .u32 (xb : Int)) := (kb5.below bw kb5.lt).cell 1
        have z2 : W.cell? ⟨w.heap.size, 2, none⟩ = some (.int .u8 (xk : Int)) := (kb5.below bw kb5.lt).cell 2
        have z3 : W.cell? ⟨w.heap.size, 3, none⟩ = some (.string ⟨xs.toArray⟩) := (kb5.below bw kb5.lt).cell 3
        have z4 : W.cell? ⟨w.heap.size, 4, none⟩ = some (.string ⟨xt.toArray⟩) := (kb5.below bw kb5.lt).cell 4
        have z5 : W.cell? ⟨w.heap.size, 5, none⟩ = some (.string ⟨xu.toArray⟩) := (kb5.below bw kb5.lt).cell 5
        have z6 : W.cell? ⟨w.heap.size, 6, none⟩ = some (.int .u8 (xz : Int)) := (kb5.below bw kb5.lt).cell 6
        refine .inl ⟨.agg #[.int .u8 (xa : Int), .int .u32 (xb : Int), .int .u8 (xk : Int), .string ⟨xs.toArray⟩, .string ⟨xt.toArray⟩, .string ⟨xu.toArray⟩, .int .u8 (xz : Int)], W, ?_, rfl, Below.refl _ _⟩
        go_simp
      refine And.intro ?_ ?_
      · intro d hd ρ W hcs bw hn hg
        cases hd
        have eg : ρ (.tmp 43) = .bool true := hg _ _ _ _ rfl rfl rfl
        refine .inl ⟨⟨_, _, rfl, rfl, eg⟩, ?_⟩
        have e44 : ρ (.tmp 44) = .agg #[.int .u8 (xa : Int), .int .u32 (xb : Int), .int .u8 (xk : Int), .string ⟨xs.toArray⟩, .string ⟨xt.toArray⟩, .string ⟨xu.toArray⟩, .int .u8 (xz : Int)] := hn 44 (by decide)
        clear hn hg
        have ef : ρ (.func 44) = .func (.func 44) #[] #[] := hcs.2 _
        refine .inr ⟨44, #[.agg #[.int .u8 (xa : Int), .int .u32 (xb : Int), .int .u8 (xk : Int), .string ⟨xs.toArray⟩, .string ⟨xt.toArray⟩, .string ⟨xu.toArray⟩, .int .u8 (xz : Int)]], ?_, (HMY.out W).mono ?_⟩
        · go_simp
        · rintro e w2 ⟨rfl, B2⟩; exact ⟨_, rfl, rfl, B2⟩
      refine And.intro ?_ ?_
      · intro d hd ρ W hcs bw hn hg
        cases hd
        have eg : ρ (.tmp 43) = .bool true := hg _ _ _ _ rfl rfl rfl
        refine .inl ⟨⟨_, _, rfl, rfl, eg⟩, ?_⟩
        have e45 : ρ (.tmp 45) = .bool false := hn 45 (by decide)
        clear hn hg
        refine .inl ⟨_, W, rfl, e45, Below.refl _ _⟩
      refine And.intro ?_ ?_
      · intro d hd ρ W hcs bw hn hg
        cases hd
        have eg : ρ (.tmp 46) = .bool false := hg _ _ _ _ rfl rfl rfl
        refine .inl ⟨⟨_, _, rfl, rfl, eg⟩, ?_⟩
        have e4 : ρ (.tmp 4) = .pointer (some ⟨w.heap.size, 0, none⟩) := hn 4 (by decide)
        clear hn hg
        have z0 : W.cell? ⟨w.heap.size, 0, none⟩ = some (.int .u8 (xa : Int)) := (kb5.below bw kb5.lt).cell 0
        have z1 : W.cell? ⟨w.heap.size, 1, none⟩ = some (.int .u32 (xb : Int)) := (kb5.below bw kb5.lt).cell 1
        have z2 : W.cell? ⟨w.heap.size, 2, none⟩ = some (.int .u8 (xk : Int)) := (kb5.below bw kb5.lt).cell 2
        have z3 : W.cell? ⟨w.heap.size, 3, none⟩ = some (.string ⟨xs.toArray⟩) := (kb5.below bw kb5.lt).cell 3
        have z4 : W.cell? ⟨w.heap.size, 4, none⟩ = some (.string ⟨xt.toArray⟩) := (kb5.below bw kb5.lt).cell 4
        have z5 : W.cell? ⟨w.heap.size, 5, none⟩ = some (.string ⟨xu.toArray⟩) := (kb5.below bw kb5.lt).cell 5
        have z6 : W.cell? ⟨w.heap.size, 6, none⟩ = some (.int .u8 (xz : Int)) := (kb5.below bw kb5.lt).cell 6
        refine .inl ⟨.agg #[.int .u8 (xa : Int), .int .u32 (xb : Int), .int .u8 (xk : Int), .string ⟨xs.toArray⟩, .string ⟨xt.toArray⟩, .string ⟨xu.toArray⟩, .int .u8 (xz : Int)], W, ?_, rfl, Below.refl _ _⟩
        go_simp
      refine And.intro ?_ ?_
      · intro d hd ρ W hcs bw hn hg
        cases hd
        have eg : ρ (.tmp 46) = .bool false := hg _ _ _ _ rfl rfl rfl
        refine .inl ⟨⟨_, _, rfl, rfl, eg⟩, ?_⟩
        have e47 : ρ (.tmp 47) = .agg #[.int .u8 (xa : Int), .int .u32 (xb : Int), .int .u8 (xk : Int), .string ⟨xs.toArray⟩, .string ⟨xt.toArray⟩, .string ⟨xu.toArray⟩, .int .u8 (xz : Int)] := hn 47 (by decide)
        clear hn hg
        have ef : ρ (.func 43) = .func (.func 43) #[] #[] := hcs.2 _
        refine .inr ⟨43, #[.agg #[.int .u8 (xa : Int), .int .u32 (xb : Int), .int .u8 (xk : Int), .string ⟨xs.toArray⟩, .string ⟨xt.toArray⟩, .string ⟨xu.toArray⟩, .int .u8 (xz : Int)]], ?_, (HCK.out W).mono ?_⟩
        · go_simp
        · rintro e w2 ⟨rfl, B2⟩; exact ⟨_, rfl, rfl, B2⟩
      refine And.intro ?_ ?_
      · intro d hd ρ W hcs bw hn hg
        cases hd
        have eg : ρ (.tmp 46) = .bool false := hg _ _ _ _ rfl rfl rfl
        refine .inl ⟨⟨_, _, rfl, rfl, eg⟩, ?_⟩
        have e48 : ρ (.tmp 48) = .int .i64 2 := hn 48 (by decide)
        clear hn hg
        refine .inl ⟨.bool true, W, ?_, rfl, Below.refl _ _⟩
        have hc1 := hcs.1
        go_simp
      refine And.intro ?_ ?_
      · intro d hd ρ W hcs bw hn hg
        cases hd
        have eg : ρ (.tmp 43) = .bool true := hg _ _ _ _ rfl rfl rfl
        refine .inl ⟨⟨_, _, rfl, rfl, eg⟩, ?_⟩
        have e46 : ρ (.tmp 46) = .bool false := hn 46 (by decide)
        have e49 : ρ (.tmp 49) = .bool true := hn 49 (by decide)
        clear hn hg
        refine .inl ⟨.bool true, W, ?_, rfl, Below.refl _ _⟩
        have hc1 := hcs.1
        go_simp
      refine And.intro ?_ ?_
      · intro d hd ρ W hcs bw hn hg
        cases hd
        refine .inl ⟨trivial, ?_⟩
        have e43 : ρ (.tmp 43) = .bool true := hn 43 (by decide)
        have e50 : ρ (.tmp 50) = .bool true := hn 50 (by decide)
        clear hn hg
        refine .inl ⟨.bool true, W, ?_, rfl, Below.refl _ _⟩
        have hc1 := hcs.1
        go_simp
      refine And.intro ?_ ?_
      · intro d hd ρ W hcs bw hn hg
        cases hd
        refine .inl ⟨trivial, ?_⟩
        have e51 : ρ (.tmp 51) = .bool true := hn 51 (by decide)
        clear hn hg
        refine .inl ⟨_, W, rfl, e51, Below.refl _ _⟩
      refine And.intro ?_ ?_
      · intro d hd ρ W hcs bw hn hg
        cases hd
        have eg : ρ (.tmp 52) = .bool true := hg _ _ _ _ rfl rfl rfl
        refine .inl ⟨⟨_, _, rfl, rfl, eg⟩, ?_⟩
        have e2 : ρ (.tmp 2) = .slice A2 ahead.length c2 := hn 2 (by decide)
        clear hn hg
        refine .inl ⟨_, W, rfl, e2, Below.refl _ _⟩
      refine And.intro ?_ ?_
      · intro d hd ρ W hcs bw hn hg
        cases hd
        have eg : ρ (.tmp 52) = .bool true := hg _ _ _ _ rfl rfl rfl
        refine .inl ⟨⟨_, _, rfl, rfl, eg⟩, ?_⟩
        have e53 : ρ (.tmp 53) = .slice A2 ahead.length c2 := hn 53 (by decide)
        clear hn hg
        exact exec_append_nil hcs.1 rfl Try.underlying40 e53 (by omega) ((rA5.below bw).more bw.size) (fun v w' h => h)
      refine And.intro ?_ ?_
      · intro d hd ρ W hcs bw hn hg
        cases hd
        have eg : ρ (.tmp 52) = .bool true := hg _ _ _ _ rfl rfl rfl
        refine .inl ⟨⟨_, _, rfl, rfl, eg⟩, ?_⟩
        have e4 : ρ (.tmp 4) = .pointer (some ⟨w.heap.size, 0, none⟩) := hn 4 (by decide)
        clear hn hg
        have z0 : W.cell? ⟨w.heap.size, 0, none⟩ = some (.int .u8 (xa : Int)) := (kb5.below bw kb5.lt).cell 0
        have z1 : W.cell? ⟨w.heap.size, 1, none⟩ = some (.int .u32 (xb : Int)) := (kb5.below bw kb5.lt).cell 1
        have z2 : W.cell? ⟨w.heap.size, 2, none⟩ = some (.int .u8 (xk : Int)) := (kb5.below bw kb5.lt).cell 2
        have z3 : W.cell? ⟨w.heap.size, 3, none⟩ = some (.string ⟨xs.toArray⟩) := (kb5.below bw kb5.lt).cell 3
        have z4 : W.cell? ⟨w.heap.size, 4, none⟩ = some (.string ⟨xt.toArray⟩) := (kb5.below bw kb5.lt).cell 4
        have z5 : W.cell? ⟨w.heap.size, 5, none⟩ = some (.string ⟨xu.toArray⟩) := (kb5.below bw kb5.lt).cell 5
        have z6 : W.cell? ⟨w.heap.size, 6, none⟩ = some (.int .u8 (xz : Int)) := (kb5.below bw kb5.lt).cell 6
        refine .inl ⟨.agg #[.int .u8 (xa : Int), .int .u32 (xb : Int), .int .u8 (xk : Int), .string ⟨xs.toArray⟩, .string ⟨xt.toArray⟩, .string ⟨xu.toArray⟩, .int .u8 (xz : Int)], W, ?_, rfl, Below.refl _ _⟩
        go_simp
      refine And.intro ?_ ?_
      · intro d hd ρ W hcs bw hn hg
        cases hd
        have eg : ρ (.tmp 52) = .bool true := hg _ _ _ _ rfl rfl rfl
        refine .inl ⟨⟨_, _, rfl, rfl, eg⟩, ?_⟩
        have e54 : (BtAt ahead) (ρ (.tmp 54)) W := hn 54 (by decide)
        have e55 : ρ (.tmp 55) = .agg #[.int .u8 (xa : Int), .int .u32 (xb : Int), .int .u8 (xk : Int), .string ⟨xs.toArray⟩, .string ⟨xt.toArray⟩, .string ⟨xu.toArray⟩, .int .u8 (xz : Int)] := hn 55 (by decide)
        clear hn hg
        obtain ⟨A5, c5, e5, r5⟩ := e54
        have ef : ρ (.func 45) = .func (.func 45) #[] #[] := hcs.2 _
        refine .inr ⟨45, #[.slice A5 ahead.length c5, .agg #[.int .u8 (xa : Int), .int .u32 (xb : Int), .int .u8 (xk : Int), .string ⟨xs.toArray⟩, .string ⟨xt.toArray⟩, .string ⟨xu.toArray⟩, .int .u8 (xz : Int)]], ?_, RetB.s' (HPU2.out A5 c5 W r5) ?_⟩
        · go_simp
        · rintro e w2 ⟨A6, c6, rfl, r6, B6⟩; exact ⟨_, rfl, ⟨A6, c6, rfl, r6⟩, B6⟩
      refine And.intro ?_ ?_
      · intro d hd ρ W hcs bw hn hg
        cases hd
        have eg : ρ (.tmp 52) = .bool true := hg _ _ _ _ rfl rfl rfl
        refine .inl ⟨⟨_, _, rfl, rfl, eg⟩, ?_⟩
        have e56 : (BtAt (ahead ++ ob)) (ρ (.tmp 56)) W := hn 56 (by decide)
        clear hn hg
        obtain ⟨A6, c6, e6, r6⟩ := e56
        refine .inl ⟨.string ⟨(ahead ++ ob).toArray⟩, W, ?_, rfl, Below.refl _ _⟩
        have hcv := conv_str Try.underlying40 Try.underlying5 Try.underlying9 c6 r6
        rw [List.length_append] at hcv
        go_simp
      refine And.intro ?_ ?_
      · intro d hd ρ W hcs bw hn hg
        cases hd
        have eg : ρ (.tmp 52) = .bool true := hg _ _ _ _ rfl rfl rfl
        refine .inl ⟨⟨_, _, rfl, rfl, eg⟩, ?_⟩
        have e7 : ρ (.tmp 7) = .string ⟨ahead.toArray⟩ := hn 7 (by decide)
        clear hn hg
        refine .inl ⟨_, W, rfl, e7, Below.refl _ _⟩
      refine And.intro ?_ ?_
      · intro d hd ρ W hcs bw hn hg
        cases hd
        have eg : ρ (.tmp 52) = .bool true := hg _ _ _ _ rfl rfl rfl
        refine .inl ⟨⟨_, _, rfl, rfl, eg⟩, ?_⟩
        have e4 : ρ (.tmp 4) = .pointer (some ⟨w.heap.size, 0, none⟩) := hn 4 (by decide)
        clear hn hg
        have z0 : W.cell? ⟨w.heap.size, 0, none⟩ = some (.int .u8 (xa : Int)) := (kb5.below bw kb5.lt).cell 0
        have z1 : W.cell? ⟨w.heap.size, 1, none⟩ = some (.int .u32 (xb : Int)) := (kb5.below bw kb5.lt).cell 1
        have z2 : W.cell? ⟨w.heap.size, 2, none⟩ = some (.int .u8 (xk : Int)) := (kb5.below bw kb5.lt).cell 2
        have z3 : W.cell? ⟨w.heap.size, 3, none⟩ = some (.string ⟨xs.toArray⟩) := (kb5.below bw kb5.lt).cell 3
        have z4 : W.cell? ⟨w.heap.size, 4, none⟩ = some (.string ⟨xt.toArray⟩) := (kb5.below bw kb5.lt).cell 4
        have z5 : W.cell? ⟨w.heap.size, 5, none⟩ = some (.string ⟨xu.toArray⟩) := (kb5.below bw kb5.lt).cell 5
        have z6 : W.cell? ⟨w.heap.size, 6, none⟩ = some (.int .u8 (xz : Int)) := (kb5.below bw kb5.lt).cell 6
        refine .inl ⟨.agg #[.int .u8 (xa : Int), .int .u32 (xb : Int), .int .u8 (xk : Int), .string ⟨xs.toArray⟩, .string ⟨xt.toArray⟩, .string ⟨xu.toArray⟩, .int .u8 (xz : Int)], W, ?_, rfl, Below.refl _ _⟩
        go_simp
      refine And.intro ?_ ?_
      · intro d hd ρ W hcs bw hn hg
        cases hd
        have eg : ρ (.tmp 52) = .bool true := hg _ _ _ _ rfl rfl rfl
        refine .inl ⟨⟨_, _, rfl, rfl, eg⟩, ?_⟩
        have e59 : ρ (.tmp 59) = .agg #[.int .u8 (xa : Int), .int .u32 (xb : Int), .int .u8 (xk : Int), .string ⟨xs.toArray⟩, .string ⟨xt.toArray⟩, .string ⟨xu.toArray⟩, .int .u8 (xz : Int)] := hn 59 (by decide)
        clear hn hg
        have ef : ρ (.func 46) = .func (.func 46) #[] #[] := hcs.2 _
        refine .inr ⟨46, #[.agg #[.int .u8 (xa : Int), .int .u32 (xb : Int), .int .u8 (xk : Int), .string ⟨xs.toArray⟩, .string ⟨xt.toArray⟩, .string ⟨xu.toArray⟩, .int .u8 (xz : Int)]], ?_, (HON2.out W).mono ?_⟩
        · go_simp
        · rintro e w2 ⟨rfl, B2⟩; exact ⟨_, rfl, rfl, B2⟩
      refine And.intro ?_ ?_
      · intro d hd ρ W hcs bw hn hg
        cases hd
        have eg : ρ (.tmp 52) = .bool true := hg _ _ _ _ rfl rfl rfl
        refine .inl ⟨⟨_, _, rfl, rfl, eg⟩, ?_⟩
        have e58 : ρ (.tmp 58) = .string ⟨ahead.toArray⟩ := hn 58 (by decide)
        have e60 : ρ (.tmp 60) = .string ⟨ob.toArray⟩ := hn 60 (by decide)
        clear hn hg
        refine .inl ⟨.string ⟨(ahead ++ ob).toArray⟩, W, ?_, rfl, Below.refl _ _⟩
        go_simp
      refine And.intro ?_ ?_
      · intro d hd ρ W hcs bw hn hg
        cases hd
        have eg : ρ (.tmp 52) = .bool true := hg _ _ _ _ rfl rfl rfl
        refine .inl ⟨⟨_, _, rfl, rfl, eg⟩, ?_⟩
        have e57 : ρ (.tmp 57) = .string ⟨(ahead ++ ob).toArray⟩ := hn 57 (by decide)
        have e61 : ρ (.tmp 61) = .string ⟨(ahead ++ ob).toArray⟩ := hn 61 (by decide)
        clear hn hg
        refine .inl ⟨.bool true, W, ?_, rfl, Below.refl _ _⟩
        go_simp
      refine And.intro ?_ ?_
      · intro d hd ρ W hcs bw hn hg
        cases hd
        refine .inl ⟨trivial, ?_⟩
        have e52 : ρ (.tmp 52) = .bool true := hn 52 (by decide)
        have e62 : ρ (.tmp 62) = .bool true := hn 62 (by decide)
        clear hn hg
        refine .inl ⟨.bool true, W, ?_, rfl, Below.refl _ _⟩
        have hc1 := hcs.1
        go_simp
      refine And.intro ?_ ?_
      · intro d hd ρ W hcs bw hn hg
        cases hd
        refine .inl ⟨trivial, ?_⟩
        have e63 : ρ (.tmp 63) = .bool true := hn 63 (by decide)
        clear hn hg
        refine .inl ⟨_, W, rfl, e63, Below.refl _ _⟩
      refine And.intro ?_ ?_
      · intro d hd ρ W hcs bw hn hg
        cases hd
        have eg : ρ (.tmp 64) = .bool true := hg _ _ _ _ rfl rfl rfl
        refine .inl ⟨⟨_, _, rfl, rfl, eg⟩, ?_⟩
        have e8 : ρ (.tmp 8) = .string ⟨ps.toArray⟩ := hn 8 (by decide)
        clear hn hg
        refine .inl ⟨_, W, rfl, e8, Below.refl _ _⟩
      refine And.intro ?_ ?_
      · intro d hd ρ W hcs bw hn hg
        cases hd
        have eg : ρ (.tmp 64) = .bool true := hg _ _ _ _ rfl rfl rfl
        refine .inl ⟨⟨_, _, rfl, rfl, eg⟩, ?_⟩
        have e10 : ρ (.tmp 10) = .string ⟨ps.toArray⟩ := hn 10 (by decide)
        clear hn hg
        refine .inl ⟨_, W, rfl, e10, Below.refl _ _⟩
      refine And.intro ?_ ?_
      · intro d hd ρ W hcs bw hn hg
        cases hd
        have eg : ρ (.tmp 64) = .bool true := hg _ _ _ _ rfl rfl rfl
        refine .inl ⟨⟨_, _, rfl, rfl, eg⟩, ?_⟩
        have e65 : ρ (.tmp 65) = .string ⟨ps.toArray⟩ := hn 65 (by decide)
        have e66 : ρ (.tmp 66) = .string ⟨ps.toArray⟩ := hn 66 (by decide)
        clear hn hg
        refine .inl ⟨.bool true, W, ?_, rfl, Below.refl _ _⟩
        go_simp
      refine And.intro ?_ ?_
      · intro d hd ρ W hcs bw hn hg
        cases hd
        refine .inl ⟨trivial, ?_⟩
        have e64 : ρ (.tmp 64) = .bool true := hn 64 (by decide)
        have e67 : ρ (.tmp 67) = .bool true := hn 67 (by decide)
        clear hn hg
        refine .inl ⟨.bool true, W, ?_, rfl, Below.refl _ _⟩
        have hc1 := hcs.1
        go_simp
      refine And.intro ?_ ?_
      · intro d hd ρ W hcs bw hn hg
        cases hd
        refine .inl ⟨trivial, ?_⟩
        have e68 : ρ (.tmp 68) = .bool true := hn 68 (by decide)
        clear hn hg
        refine .inl ⟨_, W, rfl, e68, Below.refl _ _⟩
      refine And.intro ?_ ?_
      · intro d hd ρ W hcs bw hn hg
        cases hd
        have eg : ρ (.tmp 69) = .bool true := hg _ _ _ _ rfl rfl rfl
        refine .inl ⟨⟨_, _, rfl, rfl, eg⟩, ?_⟩
        have e9 : ρ (.tmp 9) = .int .i64 (pe : Int) := hn 9 (by decide)
        clear hn hg
        refine .inl ⟨_, W, rfl, e9, Below.refl _ _⟩
      refine And.intro ?_ ?_
      · intro d hd ρ W hcs bw hn hg
        cases hd
        have eg : ρ (.tmp 69) = .bool true := hg _ _ _ _ rfl rfl rfl
        refine .inl ⟨⟨_, _, rfl, rfl, eg⟩, ?_⟩
        have e11 : ρ (.tmp 11) = .int .i64 (pe : Int) := hn 11 (by decide)
        clear hn hg
        refine .inl ⟨_, W, rfl, e11, Below.refl _ _⟩
      refine And.intro ?_ ?_
      · intro d hd ρ W hcs bw hn hg
        cases hd
        have eg : ρ (.tmp 69) = .bool true := hg _ _ _ _ rfl rfl rfl
        refine .inl ⟨⟨_, _, rfl, rfl, eg⟩, ?_⟩
        have e70 : ρ (.tmp 70) = .int .i64 (pe : Int) := hn 70 (by decide)
        have e71 : ρ (.tmp 71) = .int .i64 (pe : Int) := hn 71 (by decide)
        clear hn hg
        refine .inl ⟨.bool true, W, ?_, rfl, Below.refl _ _⟩
        go_simp
      refine And.intro ?_ ?_
      · intro d hd ρ W hcs bw hn hg
        cases hd
        refine .inl ⟨trivial, ?_⟩
        have e69 : ρ (.tmp 69) = .bool true := hn 69 (by decide)
        have e72 : ρ (.tmp 72) = .bool true := hn 72 (by decide)
        clear hn hg
        refine .inl ⟨.bool true, W, ?_, rfl, Below.refl _ _⟩
        have hc1 := hcs.1
        go_simp
      refine And.intro ?_ ?_
      · intro d hd ρ W hcs bw hn hg
        cases hd
        refine .inl ⟨trivial, ?_⟩
        have e73 : ρ (.tmp 73) = .bool true := hn 73 (by decide)
        clear hn hg
        refine .inl ⟨_, W, rfl, e73, Below.refl _ _⟩
      refine And.intro ?_ ?_
      · intro d hd ρ W hcs bw hn hg
        cases hd
        have eg : ρ (.tmp 74) = .bool true := hg _ _ _ _ rfl rfl rfl
        refine .inl ⟨⟨_, _, rfl, rfl, eg⟩, ?_⟩
        clear hn hg
        have ef : ρ (.func 40) = .func (.func 40) #[] #[] := hcs.2 _
        refine .inr ⟨40, #[], ?_, (wakes_any W).mono ?_⟩
        · go_simp
        · rintro e w2 ⟨rfl, B2⟩; exact ⟨_, rfl, rfl, B2⟩
      refine And.intro ?_ ?_
      · intro d hd ρ W hcs bw hn hg
        cases hd
        refine .inl ⟨trivial, ?_⟩
        have e74 : ρ (.tmp 74) = .bool true := hn 74 (by decide)
        have e75 : ρ (.tmp 75) = .bool true := hn 75 (by decide)
        clear hn hg
        refine .inl ⟨.bool true, W, ?_, rfl, Below.refl _ _⟩
        have hc1 := hcs.1
        go_simp
      refine And.intro ?_ ?_
      · intro d hd ρ W hcs bw hn hg
        cases hd
        refine .inl ⟨trivial, ?_⟩
        have e76 : ρ (.tmp 76) = .bool true := hn 76 (by decide)
        clear hn hg
        refine .inl ⟨_, W, rfl, e76, Below.refl _ _⟩
      trivial
    · intro a' w' hsz hdf hb hVs
      have hr : a'.eval (.tmp 6) = .bool true := hVs 6
      have bw := bw5.drew.trans (hb.mono bw5.drew.size)
      clear hVs
      go_wp2
      exact ret_slot Try.results11 hr hdf ⟨rfl, bw⟩
  · refine region_inv2 (by kernel_rfl) [(54, BtAt ahead), (56, BtAt (ahead ++ ob))] [(37, .agg #[.int .u8 (xa : Int), .int .u32 (xb : Int), .int .u8 (xk : Int), .string ⟨xs.toArray⟩, .string ⟨xt.toArray⟩, .string ⟨xu.toArray⟩, .int .u8 (xz : Int)]), (38, .int .i64 0), (39, .bool true), (40, .agg #[.int .u8 (xa : Int), .int .u32 (xb : Int), .int .u8 (xk : Int), .string ⟨xs.toArray⟩, .string ⟨xt.toArray⟩, .string ⟨xu.toArray⟩, .int .u8 (xz : Int)]), (41, .bool true), (42, .bool true), (43, .bool true), (44, .agg #[.int .u8 (xa : Int), .int .u32 (xb : Int), .int .u8 (xk : Int), .string ⟨xs.toArray⟩, .string ⟨xt.toArray⟩, .string ⟨xu.toArray⟩, .int .u8 (xz : Int)]), (45, .bool true), (46, .bool true), (47, undef), (48, undef), (49, undef), (50, .bool true), (51, .bool true), (52, .bool true), (53, .slice A2 ahead.length c2), (55, .agg #[.int .u8 (xa : Int), .int .u32 (xb : Int), .int .u8 (xk : Int), .string ⟨xs.toArray⟩, .string ⟨xt.toArray⟩, .string ⟨xu.toArray⟩, .int .u8 (xz : Int)]), (57, .string ⟨(ahead ++ ob).toArray⟩), (58, .string ⟨ahead.toArray⟩), (59, .agg #[.int .u8 (xa : Int), .int .u32 (xb : Int), .int .u8 (xk : Int), .string ⟨xs.toArray⟩, .string ⟨xt.toArray⟩, .string ⟨xu.toArray⟩, .int .u8 (xz : Int)]), (60, .string ⟨ob.toArray⟩), (61, .string ⟨(ahead ++ ob).toArray⟩), (62, .bool true), (63, .bool true), (64, .bool true), (65, .string ⟨ps.toArray⟩), (66, .string ⟨ps.toArray⟩), (67, .bool true), (68, .bool true), (69, .bool true), (70, .int .i64 (pe : Int)), (71, .int .i64 (pe : Int)), (72, .bool true), (73, .bool true), (74, .bool true), (75, .bool true), (76, .bool true), (6, .bool true)] (by kernel_rfl) (by kernel_rfl) rfl (by kernel_rfl) ?_ ?_ ?_
    · intro q hq
      rcases List.mem_cons.1 hq with rfl | hq
      · exact BtAt.below _
      obtain rfl := List.mem_singleton.1 hq
      exact BtAt.below _
    · refine And.intro ?_ ?_
      · intro d hd ρ W hcs bw hn hg
        cases hd
        refine .inl ⟨trivial, ?_⟩
        have e4 : ρ (.tmp 4) = .pointer (some ⟨w.heap.size, 0, none⟩) := hn 4 (by decide)
        clear hn hg
        have z0 : W.cell? ⟨w.heap.size, 0, none⟩ = some (.int .u8 (xa : Int)) := (kb5.below bw kb5.lt).cell 0
        have z1 : W.cell? ⟨w.heap.size, 1, none⟩ = some (.int .u32 (xb : Int)) := (kb5.below bw kb5.lt).cell 1
        have z2 : W.cell? ⟨w.heap.size, 2, none⟩ = some (.int .u8 (xk : Int)) := (kb5.below bw kb5.lt).cell 2
        have z3 : W.cell? ⟨w.heap.size, 3, none⟩ = some (.string ⟨xs.toArray⟩) := (kb5.below bw kb5.lt).cell 3
        have z4 : W.cell? ⟨w.heap.size, 4, none⟩ = some (.string ⟨xt.toArray⟩) := (kb5.below bw kb5.lt).cell 4
        have z5 : W.cell? ⟨w.heap.size, 5, none⟩ = some (.string ⟨xu.toArray⟩) := (kb5.below bw kb5.lt).cell 5
        have z6 : W.cell? ⟨w.heap.size, 6, none⟩ = some (.int .u8 (xz : Int)) := (kb5.below bw kb5.lt).cell 6
        refine .inl ⟨.agg #[.int .u8 (xa : Int), .int .u32 (xb : Int), .int .u8 (xk : Int), .string ⟨xs.toArray⟩, .string ⟨xt.toArray⟩, .string ⟨xu.toArray⟩, .int .u8 (xz : Int)], W, ?_, rfl, Below.refl _ _⟩
        go_simp
      refine And.intro ?_ ?_
      · intro d hd ρ W hcs bw hn hg
        cases hd
        refine .inl ⟨trivial, ?_⟩
        have e37 : ρ (.tmp 37) = .agg #[.int .u8 (xa : Int), .int .u32 (xb : Int), .int .u8 (xk : Int), .string ⟨xs.toArray⟩, .string ⟨xt.toArray⟩, .string ⟨xu.toArray⟩, .int .u8 (xz : Int)] := hn 37 (by decide)
        clear hn hg
        have ef : ρ (.func 43) = .func (.func 43) #[] #[] := hcs.2 _
        refine .inr ⟨43, #[.agg #[.int .u8 (xa : Int), .int .u32 (xb : Int), .int .u8 (xk : Int), .string ⟨xs.toArray⟩, .string ⟨xt.toArray⟩, .string ⟨xu.toArray⟩, .int .u8 (xz : Int)]], ?_, (HCK.out W).mono ?_⟩
        · go_simp
        · rintro e w2 ⟨rfl, B2⟩; exact ⟨_, rfl, rfl, B2⟩
      refine And.intro ?_ ?_
      · intro d hd ρ W hcs bw hn hg
        cases hd
        refine .inl ⟨trivial, ?_⟩
        have e38 : ρ (.tmp 38) = .int .i64 0 := hn 38 (by decide)
        clear hn hg
        refine .inl ⟨.bool true, W, ?_, rfl, Below.refl _ _⟩
        have hc1 := hcs.1
        go_simp
      refine And.intro ?_ ?_
      · intro d hd ρ W hcs bw hn hg
        cases hd
        refine .inl ⟨trivial, ?_⟩
        have e4 : ρ (.tmp 4) = .pointer (some ⟨w.heap.size, 0, none⟩) := hn 4 (by decide)
        clear hn hg
        have z0 : W.cell? ⟨w.heap.size, 0, none⟩ = some (.int .u8 (xa : Int)) := (kb5.below bw kb5.lt).cell 0
        have z1 : W.cell? ⟨w.heap.size, 1, none⟩ = some (.int .u32 (xb : Int)) := (kb5.below bw kb5.lt).cell 1
        have z2 : W.cell? ⟨w.heap.size, 2, none⟩ = some (.int .u8 (xk : Int)) := (kb5.below bw kb5.lt).cell 2
        have z3 : W.cell? ⟨w.heap.size, 3, none⟩ = some (.string ⟨xs.toArray⟩) := (kb5.below bw kb5.lt).cell 3
        have z4 : W.cell? ⟨w.heap.size, 4, none⟩ = some (.string ⟨xt.toArray⟩) := (kb5.below bw kb5.lt).cell 4
        have z5 : W.cell? ⟨w.heap.size, 5, none⟩ = some (.string ⟨xu.toArray⟩) := (kb5.below bw kb5.lt).cell 5
        have z6 : W.cell? ⟨w.heap.size, 6, none⟩ = some (.int .u8 (xz : Int)) := (kb5.below bw kb5.lt).cell 6
        refine .inl ⟨.agg #[.int .u8 (xa : Int), .int .u32 (xb : Int), .int .u8 (xk : Int), .string ⟨xs.toArray⟩, .string ⟨xt.toArray⟩, .string ⟨xu.toArray⟩, .int .u8 (xz : Int)], W, ?_, rfl, Below.refl _ _⟩
        go_simp
      refine And.intro ?_ ?_
      · intro d hd ρ W hcs bw hn hg
        cases hd
        refine .inl ⟨trivial, ?_⟩
        have e40 : ρ (.tmp 40) = .agg #[.int .u8 (xa : Int), .int .u32 (xb : Int), .int .u8 (xk : Int), .string ⟨xs.toArray⟩, .string ⟨xt.toArray⟩, .string ⟨xu.toArray⟩, .int .u8 (xz : Int)] := hn 40 (by decide)
        clear hn hg
        have ef : ρ (.func 44) = .func (.func 44) #[] #[] := hcs.2 _
        refine .inr ⟨44, #[.agg #[.int .u8 (xa : Int), .int .u32 (xb : Int), .int .u8 (xk : Int), .string ⟨xs.toArray⟩, .string ⟨xt.toArray⟩, .string ⟨xu.toArray⟩, .int .u8 (xz : Int)]], ?_, (HMY.out W).mono ?_⟩
        · go_simp
        · rintro e w2 ⟨rfl, B2⟩; exact ⟨_, rfl, rfl, B2⟩
      refine And.intro ?_ ?_
      · intro d hd ρ W hcs bw hn hg
        cases hd
        refine .inl ⟨trivial, ?_⟩
        have e39 : ρ (.tmp 39) = .bool true := hn 39 (by decide)
        have e41 : ρ (.tmp 41) = .bool true := hn 41 (by decide)
        clear hn hg
        refine .inl ⟨.bool true, W, ?_, rfl, Below.refl _ _⟩
        go_simp
      refine And.intro ?_ ?_
      · intro d hd ρ W hcs bw hn hg
        cases hd
        refine .inl ⟨trivial, ?_⟩
        have e42 : ρ (.tmp 42) = .bool true := hn 42 (by decide)
        clear hn hg
        refine .inl ⟨_, W, rfl, e42, Below.refl _ _⟩
      refine And.intro ?_ ?_
      · intro d hd ρ W hcs bw hn hg
        cases hd
        have eg : ρ (.tmp 43) = .bool true := hg _ _ _ _ rfl rfl rfl
        refine .inl ⟨⟨_, _, rfl, rfl, eg⟩, ?_⟩
        have e4 : ρ (.tmp 4) = .pointer (some ⟨w.heap.size, 0, none⟩) := hn 4 (by decide)
        clear hn hg
        have z0 : W.cell? ⟨w.heap.size, 0, none⟩ = some (.int .u8 (xa : Int)) := (kb5.below bw kb5.lt).cell 0
        have z1 : W.cell? ⟨w.heap.size, 1, none⟩ = some (.int .u32 (xb : Int)) := (kb5.below bw kb5.lt).cell 1
        have z2 : W.cell? ⟨w.heap.size, 2, none⟩ = some (.int .u8 (xk : Int)) := (kb5.below bw kb5.lt).cell 2
        have z3 : W.cell? ⟨w.heap.size, 3, none⟩ = some (.string ⟨xs.toArray⟩) := (kb5.below bw kb5.lt).cell 3
        have z4 : W.cell? ⟨w.heap.size, 4, none⟩ = some (.string ⟨xt.toArray⟩) := (kb5.below bw kb5.lt).cell 4
        have z5 : W.cell? ⟨w.heap.size, 5, none⟩ = some (.string ⟨xu.toArray⟩) := (kb5.below bw kb5.lt).cell 5
        have z6 : W.cell? ⟨w.heap.size, 6, none⟩ = some (.int .u8 (xz : Int)) := (kb5.below bw kb5.lt).cell 6
        refine .inl ⟨.agg #[.int .u8 (xa : Int), .int .u32 (xb : Int), .int .u8 (xk : Int), .string ⟨xs.toArray⟩, .string ⟨xt.toArray⟩, .string ⟨xu.toArray⟩, .int .u8 (xz : Int)], W, ?_, rfl, Below.refl _ _⟩
        go_simp
      refine And.intro ?_ ?_
      · intro d hd ρ W hcs bw hn hg
        cases hd
        have eg : ρ (.tmp 43) = .bool true := hg _ _ _ _ rfl rfl rfl
        refine .inl ⟨⟨_, _, rfl, rfl, eg⟩, ?_⟩
        have e44 : ρ (.tmp 44) = .agg #[.int .u8 (xa : Int), .int .u32 (xb : Int), .int .u8 (xk : Int), .string ⟨xs.toArray⟩, .string ⟨xt.toArray⟩, .string ⟨xu.toArray⟩, .int .u8 (xz : Int)] := hn 44 (by decide)
        clear hn hg
        have ef : ρ (.func 44) = .func (.func 44) #[] #[] := hcs.2 _
        refine .inr ⟨44, #[.agg #[.int .u8 (xa : Int), .int .u32 (xb : Int), .int .u8 (xk : Int), .string ⟨xs.toArray⟩, .string ⟨xt.toArray⟩, .string ⟨xu.toArray⟩, .int .u8 (xz : Int)]], ?_, (HMY.out W).mono ?_⟩
        · go_simp
        · rintro e w2 ⟨rfl, B2⟩; exact ⟨_, rfl, rfl, B2⟩
      refine And.intro ?_ ?_
      · intro d hd ρ W hcs bw hn hg
        cases hd
        have eg : ρ (.tmp 43) = .bool true := hg _ _ _ _ rfl rfl rfl
        refine .inl ⟨⟨_, _, rfl, rfl, eg⟩, ?_⟩
        have e45 : ρ (.tmp 45) = .bool true := hn 45 (by decide)
        clear hn hg
        refine .inl ⟨_, W, rfl, e45, Below.refl _ _⟩
      refine And.intro ?_ ?_
      · intro d hd ρ W hcs bw hn hg
        cases hd
        have eg : ρ (.tmp 46) = .bool true := hg _ _ _ _ rfl rfl rfl
        exact .inr ⟨⟨_, _, _, rfl, rfl, eg, by decide⟩, rfl⟩
      refine And.intro ?_ ?_
      · intro d hd ρ W hcs bw hn hg
        cases hd
        have eg : ρ (.tmp 46) = .bool true := hg _ _ _ _ rfl rfl rfl
        exact .inr ⟨⟨_, _, _, rfl, rfl, eg, by decide⟩, rfl⟩
      refine And.intro ?_ ?_
      · intro d hd ρ W hcs bw hn hg
        cases hd
        have eg : ρ (.tmp 46) = .bool true := hg _ _ _ _ rfl rfl rfl
        exact .inr ⟨⟨_, _, _, rfl, rfl, eg, by decide⟩, rfl⟩
      refine And.intro ?_ ?_
      · intro d hd ρ W hcs bw hn hg
        cases hd
        have eg : ρ (.tmp 43) = .bool true := hg _ _ _ _ rfl rfl rfl
        refine .inl ⟨⟨_, _, rfl, rfl, eg⟩, ?_⟩
        have e46 : ρ (.tmp 46) = .bool true := hn 46 (by decide)
        have e49 : ρ (.tmp 49) = undef := hn 49 (by decide)
        clear hn hg
        refine .inl ⟨.bool true, W, ?_, rfl, Below.refl _ _⟩
        have hc1 := hcs.1
        go_simp
      refine And.intro ?_ ?_
      · intro d hd ρ W hcs bw hn hg
        cases hd
        refine .inl ⟨trivial, ?_⟩
        have e43 : ρ (.tmp 43) = .bool true := hn 43 (by decide)
        have e50 : ρ (.tmp 50) = .bool true := hn 50 (by decide)
        clear hn hg
        refine .inl ⟨.bool true, W, ?_, rfl, Below.refl _ _⟩
        have hc1 := hcs.1
        go_simp
      refine And.intro ?_ ?_
      · intro d hd ρ W hcs bw hn hg
        cases hd
        refine .inl ⟨trivial, ?_⟩
        have e51 : ρ (.tmp 51) = .bool true := hn 51 (by decide)
        clear hn hg
        refine .inl ⟨_, W, rfl, e51, Below.refl _ _⟩
      refine And.intro ?_ ?_
      · intro d hd ρ W hcs bw hn hg
        cases hd
        have eg : ρ (.tmp 52) = .bool true := hg _ _ _ _ rfl rfl rfl
        refine .inl ⟨⟨_, _, rfl, rfl, eg⟩, ?_⟩
        have e2 : ρ (.tmp 2) = .slice A2 ahead.length c2 := hn 2 (by decide)
        clear hn hg
        refine .inl ⟨_, W, rfl, e2, Below.refl _ _⟩
      refine And.intro ?_ ?_
      · intro d hd ρ W hcs bw hn hg
        cases hd
        have eg : ρ (.tmp 52) = .bool true := hg _ _ _ _ rfl rfl rfl
        refine .inl ⟨⟨_, _, rfl, rfl, eg⟩, ?_⟩
        have e53 : ρ (.tmp 53) = .slice A2 ahead.length c2 := hn 53 (by decide)
        clear hn hg
        exact exec_append_nil hcs.1 rfl Try.underlying40 e53 (by omega) ((rA5.below bw).more bw.size) (fun v w' h => h)
      refine And.intro ?_ ?_
      · intro d hd ρ W hcs bw hn hg
        cases hd
        have eg : ρ (.tmp 52) = .bool true := hg _ _ _ _ rfl rfl rfl
        refine .inl ⟨⟨_, _, rfl, rfl, eg⟩, ?_⟩
        have e4 : ρ (.tmp 4) = .pointer (some ⟨w.heap.size, 0, none⟩) := hn 4 (by decide)
        clear hn hg
        have z0 : W.cell? ⟨w.heap.size, 0, none⟩ = some (.int .u8 (xa : Int)) := (kb5.below bw kb5.lt).cell 0
        have z1 : W.cell? ⟨w.heap.size, 1, none⟩ = some (.int .u32 (xb : Int)) := (kb5.below bw kb5.lt).cell 1
        have z2 : W.cell? ⟨w.heap.size, 2, none⟩ = some (.int .u8 (xk : Int)) := (kb5.below bw kb5.lt).cell 2
        have z3 : W.cell? ⟨w.heap.size, 3, none⟩ = some (.string ⟨xs.toArray⟩) := (kb5.below bw kb5.lt).cell 3
        have z4 : W.cell? ⟨w.heap.size, 4, none⟩ = some (.string ⟨xt.toArray⟩) := (kb5.below bw kb5.lt).cell 4
        have z5 : W.cell? ⟨w.heap.size, 5, none⟩ = some (.string ⟨xu.toArray⟩) := (kb5.below bw kb5.lt).cell 5
        have z6 : W.cell? ⟨w.heap.size, 6, none⟩ = some (.int .u8 (xz : Int)) := (kb5.below bw kb5.lt).cell 6
        refine .inl ⟨.agg #[.int .u8 (xa : Int), .int .u32 (xb : Int), .int .u8 (xk : Int), .string ⟨xs.toArray⟩, .string ⟨xt.toArray⟩, .string ⟨xu.toArray⟩, .int .u8 (xz : Int)], W, ?_, rfl, Below.refl _ _⟩
        go_simp
      refine And.intro ?_ ?_
      · intro d hd ρ W hcs bw hn hg
        cases hd
        have eg : ρ (.tmp 52) = .bool true := hg _ _ _ _ rfl rfl rfl
        refine .inl ⟨⟨_, _, rfl, rfl, eg⟩, ?_⟩
        have e54 : (BtAt ahead) (ρ (.tmp 54)) W := hn 54 (by decide)
        have e55 : ρ (.tmp 55) = .agg #[.int .u8 (xa : Int), .int .u32 (xb : Int), .int .u8 (xk : Int), .string ⟨xs.toArray⟩, .string ⟨xt.toArray⟩, .string ⟨xu.toArray⟩, .int .u8 (xz : Int)] := hn 55 (by decide)
        clear hn hg
        obtain ⟨A5, c5, e5, r5⟩ := e54
        have ef : ρ (.func 45) = .func (.func 45) #[] #[] := hcs.2 _
        refine .inr ⟨45, #[.slice A5 ahead.length c5, .agg #[.int .u8 (xa : Int), .int .u32 (xb : Int), .int .u8 (xk : Int), .string ⟨xs.toArray⟩, .string ⟨xt.toArray⟩, .string ⟨xu.toArray⟩, .int .u8 (xz : Int)]], ?_, RetB.s' (HPU2.out A5 c5 W r5) ?_⟩
        · go_simp
        · rintro e w2 ⟨A6, c6, rfl, r6, B6⟩; exact ⟨_, rfl, ⟨A6, c6, rfl, r6⟩, B6⟩
      refine And.intro ?_ ?_
      · intro d hd ρ W hcs bw hn hg
        cases hd
        have eg : ρ (.tmp 52) = .bool true := hg _ _ _ _ rfl rfl rfl
        refine .inl ⟨⟨_, _, rfl, rfl, eg⟩, ?_⟩
        have e56 : (BtAt (ahead ++ ob)) (ρ (.tmp 56)) W := hn 56 (by decide)
        clear hn hg
        obtain ⟨A6, c6, e6, r6⟩ := e56
        refine .inl ⟨.string ⟨(ahead ++ ob).toArray⟩, W, ?_, rfl, Below.refl _ _⟩
        have hcv := conv_str Try.underlying40 Try.underlying5 Try.underlying9 c6 r6
        rw [List.length_append] at hcv
        go_simp
      refine And.intro ?_ ?_
      · intro d hd ρ W hcs bw hn hg
        cases hd
        have eg : ρ (.tmp 52) = .bool true := hg _ _ _ _ rfl rfl rfl
        refine .inl ⟨⟨_, _, rfl, rfl, eg⟩, ?_⟩
        have e7 : ρ (.tmp 7) = .string ⟨ahead.toArray⟩ := hn 7 (by decide)
        clear hn hg
        refine .inl ⟨_, W, rfl, e7, Below.refl _ _⟩
      refine And.intro ?_ ?_
      · intro d hd ρ W hcs bw hn hg
        cases hd
        have eg : ρ (.tmp 52) = .bool true := hg _ _ _ _ rfl rfl rfl
        refine .inl ⟨⟨_, _, rfl, rfl, eg⟩, ?_⟩
        have e4 : ρ (.tmp 4) = .pointer (some ⟨w.heap.size, 0, none⟩) := hn 4 (by decide)
        clear hn hg
        have z0 : W.cell? ⟨w.heap.size, 0, none⟩ = some (.int .u8 (xa : Int)) := (kb5.below bw kb5.lt).cell 0
        have z1 : W.cell? ⟨w.heap.size, 1, none⟩ = some (.int .u32 (xb : Int)) := (kb5.below bw kb5.lt).cell 1
        have z2 : W.cell? ⟨w.heap.size, 2, none⟩ = some (.int .u8 (xk : Int)) := (kb5.below bw kb5.lt).cell 2
        have z3 : W.cell? ⟨w.heap.size, 3, none⟩ = some (.string ⟨xs.toArray⟩) := (kb5.below bw kb5.lt).cell 3
        have z4 : W.cell? ⟨w.heap.size, 4, none⟩ = some (.string ⟨xt.toArray⟩) := (kb5.below bw kb5.lt).cell 4
        have z5 : W.cell? ⟨w.heap.size, 5, none⟩ = some (.string ⟨xu.toArray⟩) := (kb5.below bw kb5.lt).cell 5
        have z6 : W.cell? ⟨w.heap.size, 6, none⟩ = some (.int .u8 (xz : Int)) := (kb5.below bw kb5.lt).cell 6
        refine .inl ⟨.agg #[.int .u8 (xa : Int), .int .u32 (xb : Int), .int .u8 (xk : Int), .string ⟨xs.toArray⟩, .string ⟨xt.toArray⟩, .string ⟨xu.toArray⟩, .int .u8 (xz : Int)], W, ?_, rfl, Below.refl _ _⟩
        go_simp
      refine And.intro ?_ ?_
      · intro d hd ρ W hcs bw hn hg
        cases hd
        have eg : ρ (.tmp 52) = .bool true := hg _ _ _ _ rfl rfl rfl
        refine .inl ⟨⟨_, _, rfl, rfl, eg⟩, ?_⟩
        have e59 : ρ (.tmp 59) = .agg #[.int .u8 (xa : Int), .int .u32 (xb : Int), .int .u8 (xk : Int), .string ⟨xs.toArray⟩, .string ⟨xt.toArray⟩, .string ⟨xu.toArray⟩, .int .u8 (xz : Int)] := hn 59 (by decide)
        clear hn hg
        have ef : ρ (.func 46) = .func (.func 46) #[] #[] := hcs.2 _
        refine .inr ⟨46, #[.agg #[.int .u8 (xa : Int), .int .u32 (xb : Int), .int .u8 (xk : Int), .string ⟨xs.toArray⟩, .string ⟨xt.toArray⟩, .string ⟨xu.toArray⟩, .int .u8 (xz : Int)]], ?_, (HON2.out W).mono ?_⟩
        · go_simp
        · rintro e w2 ⟨rfl, B2⟩; exact ⟨_, rfl, rfl, B2⟩
      refine And.intro ?_ ?_
      · intro d hd ρ W hcs bw hn hg
        cases hd
        have eg : ρ (.tmp 52) = .bool true := hg _ _ _ _ rfl rfl rfl
        refine .inl ⟨⟨_, _, rfl, rfl, eg⟩, ?_⟩
        have e58 : ρ (.tmp 58) = .string ⟨ahead.toArray⟩ := hn 58 (by decide)
        have e60 : ρ (.tmp 60) = .string ⟨ob.toArray⟩ := hn 60 (by decide)
        clear hn hg
        refine .inl ⟨.string ⟨(ahead ++ ob).toArray⟩, W, ?_, rfl, Below.refl _ _⟩
        go_simp
      refine And.intro ?_ ?_
      · intro d hd ρ W hcs bw hn hg
        cases hd
        have eg : ρ (.tmp 52) = .bool true := hg _ _ _ _ rfl rfl rfl
        refine .inl ⟨⟨_, _, rfl, rfl, eg⟩, ?_⟩
        have e57 : ρ (.tmp 57) = .string ⟨(ahead ++ ob).toArray⟩ := hn 57 (by decide)
        have e61 : ρ (.tmp 61) = .string ⟨(ahead ++ ob).toArray⟩ := hn 61 (by decide)
        clear hn hg
        refine .inl ⟨.bool true, W, ?_, rfl, Below.refl _ _⟩
        go_simp
      refine And.intro ?_ ?_
      · intro d hd ρ W hcs bw hn hg
        cases hd
        refine .inl ⟨trivial, ?_⟩
        have e52 : ρ (.tmp 52) = .bool true := hn 52 (by decide)
        have e62 : ρ (.tmp 62) = .bool true := hn 62 (by decide)
        clear hn hg
        refine .inl ⟨.bool true, W, ?_, rfl, Below.refl _ _⟩
        have hc1 := hcs.1
        go_simp
      refine And.intro ?_ ?_
      · intro d hd ρ W hcs bw hn hg
        cases hd
        refine .inl ⟨trivial, ?_⟩
        have e63 : ρ (.tmp 63) = .bool true := hn 63 (by decide)
        clear hn hg
        refine .inl ⟨_, W, rfl, e63, Below.refl _ _⟩
      refine And.intro ?_ ?_
      · intro d hd ρ W hcs bw hn hg
        cases hd
        have eg : ρ (.tmp 64) = .bool true := hg _ _ _ _ rfl rfl rfl
        refine .inl ⟨⟨_, _, rfl, rfl, eg⟩, ?_⟩
        have e8 : ρ (.tmp 8) = .string ⟨ps.toArray⟩ := hn 8 (by decide)
        clear hn hg
        refine .inl ⟨_, W, rfl, e8, Below.refl _ _⟩
      refine And.intro ?_ ?_
      · intro d hd ρ W hcs bw hn hg
        cases hd
        have eg : ρ (.tmp 64) = .bool true := hg _ _ _ _ rfl rfl rfl
        refine .inl ⟨⟨_, _, rfl, rfl, eg⟩, ?_⟩
        have e10 : ρ (.tmp 10) = .string ⟨ps.toArray⟩ := hn 10 (by decide)
        clear hn hg
        refine .inl ⟨_, W, rfl, e10, Below.refl _ _⟩
      refine And.intro ?_ ?_
      · intro d hd ρ W hcs bw hn hg
        cases hd
        have eg : ρ (.tmp 64) = .bool true := hg _ _ _ _ rfl rfl rfl
        refine .inl ⟨⟨_, _, rfl, rfl, eg⟩, ?_⟩
        have e65 : ρ (.tmp 65) = .string ⟨ps.toArray⟩ := hn 65 (by decide)
        have e66 : ρ (.tmp 66) = .string ⟨ps.toArray⟩ := hn 66 (by decide)
        clear hn hg
        refine .inl ⟨.bool true, W, ?_, rfl, Below.refl _ _⟩
        go_simp
      refine And.intro ?_ ?_
      · intro d hd ρ W hcs bw hn hg
        cases hd
        refine .inl ⟨trivial, ?_⟩
        have e64 : ρ (.tmp 64) = .bool true := hn 64 (by decide)
        have e67 : ρ (.tmp 67) = .bool true := hn 67 (by decide)
        clear hn hg
        refine .inl ⟨.bool true, W, ?_, rfl, Below.refl _ _⟩
        have hc1 := hcs.1
        go_simp
      refine And.intro ?_ ?_
      · intro d hd ρ W hcs bw hn hg
        cases hd
        refine .inl ⟨trivial, ?_⟩
        have e68 : ρ (.tmp 68) = .bool true := hn 68 (by decide)
        clear hn hg
        refine .inl ⟨_, W, rfl, e68, Below.refl _ _⟩
      refine And.intro ?_ ?_
      · intro d hd ρ W hcs bw hn hg
        cases hd
        have eg : ρ (.tmp 69) = .bool true := hg _ _ _ _ rfl rfl rfl
        refine .inl ⟨⟨_, _, rfl, rfl, eg⟩, ?_⟩
        have e9 : ρ (.tmp 9) = .int .i64 (pe : Int) := hn 9 (by decide)
        clear hn hg
        refine .inl ⟨_, W, rfl, e9, Below.refl _ _⟩
      refine And.intro ?_ ?_
      · intro d hd ρ W hcs bw hn hg
        cases hd
        have eg : ρ (.tmp 69) = .bool true := hg _ _ _ _ rfl rfl rfl
        refine .inl ⟨⟨_, _, rfl, rfl, eg⟩, ?_⟩
        have e11 : ρ (.tmp 11) = .int .i64 (pe : Int) := hn 11 (by decide)
        clear hn hg
        refine .inl ⟨_, W, rfl, e11, Below.refl _ _⟩
      refine And.intro ?_ ?_
      · intro d hd ρ W hcs bw hn hg
        cases hd
        have eg : ρ (.tmp 69) = .bool true := hg _ _ _ _ rfl rfl rfl
        refine .inl ⟨⟨_, _, rfl, rfl, eg⟩, ?_⟩
        have e70 : ρ (.tmp 70) = .int .i64 (pe : Int) := hn 70 (by decide)
        have e71 : ρ (.tmp 71) = .int .i64 (pe : Int) := hn 71 (by decide)
        clear hn hg
        refine .inl ⟨.bool true, W, ?_, rfl, Below.refl _ _⟩
        go_simp
      refine And.intro ?_ ?_
      · intro d hd ρ W hcs bw hn hg
        cases hd
        refine .inl ⟨trivial, ?_⟩
        have e69 : ρ (.tmp 69) = .bool true := hn 69 (by decide)
        have e72 : ρ (.tmp 72) = .bool true := hn 72 (by decide)
        clear hn hg
        refine .inl ⟨.bool true, W, ?_, rfl, Below.refl _ _⟩
        have hc1 := hcs.1
        go_simp
      refine And.intro ?_ ?_
      · intro d hd ρ W hcs bw hn hg
        cases hd
        refine .inl ⟨trivial, ?_⟩
        have e73 : ρ (.tmp 73) = .bool true := hn 73 (by decide)
        clear hn hg
        refine .inl ⟨_, W, rfl, e73, Below.refl _ _⟩
      refine And.intro ?_ ?_
      · intro d hd ρ W hcs bw hn hg
        cases hd
        have eg : ρ (.tmp 74) = .bool true := hg _ _ _ _ rfl rfl rfl
        refine .inl ⟨⟨_, _, rfl, rfl, eg⟩, ?_⟩
        clear hn hg
        have ef : ρ (.func 40) = .func (.func 40) #[] #[] := hcs.2 _
        refine .inr ⟨40, #[], ?_, (wakes_any W).mono ?_⟩
        · go_simp
        · rintro e w2 ⟨rfl, B2⟩; exact ⟨_, rfl, rfl, B2⟩
      refine And.intro ?_ ?_
      · intro d hd ρ W hcs bw hn hg
        cases hd
        refine .inl ⟨trivial, ?_⟩
        have e74 : ρ (.tmp 74) = .bool true := hn 74 (by decide)
        have e75 : ρ (.tmp 75) = .bool true := hn 75 (by decide)
        clear hn hg
        refine .inl ⟨.bool true, W, ?_, rfl, Below.refl _ _⟩
        have hc1 := hcs.1
        go_simp
      refine And.intro ?_ ?_
      · intro d hd ρ W hcs bw hn hg
        cases hd
        refine .inl ⟨trivial, ?_⟩
        have e76 : ρ (.tmp 76) = .bool true := hn 76 (by decide)
        clear hn hg
        refine .inl ⟨_, W, rfl, e76, Below.refl _ _⟩
      trivial
    · intro a' w' hsz hdf hb hVs
      have hr : a'.eval (.tmp 6) = .bool true := hVs 6
      have bw := bw5.drew.trans (hb.mono bw5.drew.size)
      clear hVs
      go_wp2
      exact ret_slot Try.results11 hr hdf ⟨rfl, bw⟩
end Go.Proofs.Ytgbnaifjdfoahaa.Cmd
