/- Package thrift, walked: Heard. Conditions: the memory lies in memory of its own. -/
import Derived.Test.YtbamfnlgapchkaaThX
namespace Go.Proofs.Ytbamfnlgapchkaa.Thr
open Go.RowKit Mem DrawInv Chn

theorem store_mem {w : World} {g : Nat} {me : Int} {v : Value} (hg : Blk w g 116 #[.int .u8 me, v]) (A : Option Addr) (n k : Nat) : ∃ w', (Instr.storeAt 22 (.pointer (some ⟨g, 1, none⟩)) (.slice A n k)).run Try.prog w = .ok () w' ∧ Blk w' g 116 #[.int .u8 me, .slice A n k] ∧ w.grownBy w' (some g) := by
  have c1 := hg.cell 1
  have f1 := hg.frozen 1
  refine ⟨_, by go_simp, hg.set_ 1 _, only_setCell (World.grownBy.refl _ _) (.inl rfl) _⟩
set_option linter.unusedVariables false in
set_option linter.unusedSimpArgs false in
set_option maxRecDepth 100000 in
set_option maxHeartbeats 2000000 in
theorem theard_nil (node : Nat) (w : World) : Calls Try.prog 39 #[.pointer none, .int .u8 (node : Int)] w fun e w' => e = .returned (.tuple #[]) ∧ Below w.heap.size w w' := by
  obtain ⟨bx, hbx⟩ : ∃ b, b = w.heap.size := ⟨_, rfl⟩
  obtain ⟨wA, hwA⟩ : ∃ wA, wA = w.alloc (.cells #[.int .u8 (node : Int)] 5) := ⟨_, rfl⟩
  have bwA : Below w.heap.size w wA := by rw [hwA]; exact (Below.refl _ w).alloc (Nat.le_refl _) _
  go_enter Try.func39, Try.ntmps39
  go_upto_region 1 with fail
  rw [← hwA, ← hbx]
  clear hwA hbx
  refine region_inv2 (by kernel_rfl) [] [(5, .pointer none), (6, .bool true), (7, .bool true), (8, undef), (9, undef), (10, undef), (11, undef), (12, undef), (13, undef), (14, .bool true), (15, .bool true), (16, undef), (17, undef), (18, .bool true)] (by kernel_rfl) (by kernel_rfl) rfl (by kernel_rfl) ?_ ?_ ?_
  · intro q hq; cases hq
  · refine And.intro ?_ ?_
    · intro d hd ρ W hcs bw hn hg
      cases hd
      have e0 : ρ (.tmp 0) = .pointer none := hn 0 (by decide)
      clear hn hg
      refine .inl ⟨trivial, ?_⟩
      refine .inl ⟨_, W, rfl, e0, Below.refl _ _⟩
    refine And.intro ?_ ?_
    · intro d hd ρ W hcs bw hn hg
      cases hd
      have e5 : ρ (.tmp 5) = .pointer none := hn 5 (by decide)
      clear hn hg
      refine .inl ⟨trivial, ?_⟩
      have hc1 := hcs.1
      refine .inl ⟨.bool true, W, ?_, rfl, Below.refl _ _⟩
      go_simp
    refine And.intro ?_ ?_
    · intro d hd ρ W hcs bw hn hg
      cases hd
      have e6 : ρ (.tmp 6) = .bool true := hn 6 (by decide)
      clear hn hg
      refine .inl ⟨trivial, ?_⟩
      refine .inl ⟨_, W, rfl, e6, Below.refl _ _⟩
    refine And.intro ?_ ?_
    · intro d hd ρ W hcs bw hn hg
      cases hd
      have eg : ρ (.tmp 7) = .bool true := hg _ _ _ _ rfl rfl rfl
      exact .inr ⟨⟨_, _, _, rfl, rfl, eg, nofun⟩, rfl⟩
    refine And.intro ?_ ?_
    · intro d hd ρ W hcs bw hn hg
      cases hd
      have eg : ρ (.tmp 7) = .bool true := hg _ _ _ _ rfl rfl rfl
      exact .inr ⟨⟨_, _, _, rfl, rfl, eg, nofun⟩, rfl⟩
    refine And.intro ?_ ?_
    · intro d hd ρ W hcs bw hn hg
      cases hd
      have eg : ρ (.tmp 7) = .bool true := hg _ _ _ _ rfl rfl rfl
      exact .inr ⟨⟨_, _, _, rfl, rfl, eg, nofun⟩, rfl⟩
    refine And.intro ?_ ?_
    · intro d hd ρ W hcs bw hn hg
      cases hd
      have eg : ρ (.tmp 7) = .bool true := hg _ _ _ _ rfl rfl rfl
      exact .inr ⟨⟨_, _, _, rfl, rfl, eg, nofun⟩, rfl⟩
    refine And.intro ?_ ?_
    · intro d hd ρ W hcs bw hn hg
      cases hd
      have eg : ρ (.tmp 7) = .bool true := hg _ _ _ _ rfl rfl rfl
      exact .inr ⟨⟨_, _, _, rfl, rfl, eg, nofun⟩, rfl⟩
    refine And.intro ?_ ?_
    · intro d hd ρ W hcs bw hn hg
      cases hd
      have eg : ρ (.tmp 7) = .bool true := hg _ _ _ _ rfl rfl rfl
      exact .inr ⟨⟨_, _, _, rfl, rfl, eg, nofun⟩, rfl⟩
    refine And.intro ?_ ?_
    · intro d hd ρ W hcs bw hn hg
      cases hd
      have e7 : ρ (.tmp 7) = .bool true := hn 7 (by decide)
      have e13 : ρ (.tmp 13) = undef := hn 13 (by decide)
      clear hn hg
      refine .inl ⟨trivial, ?_⟩
      have hc1 := hcs.1
      refine .inl ⟨.bool true, W, ?_, rfl, Below.refl _ _⟩
      go_simp
    refine And.intro ?_ ?_
    · intro d hd ρ W hcs bw hn hg
      cases hd
      have e14 : ρ (.tmp 14) = .bool true := hn 14 (by decide)
      clear hn hg
      refine .inl ⟨trivial, ?_⟩
      refine .inl ⟨_, W, rfl, e14, Below.refl _ _⟩
    refine And.intro ?_ ?_
    · intro d hd ρ W hcs bw hn hg
      cases hd
      have eg : ρ (.tmp 15) = .bool true := hg _ _ _ _ rfl rfl rfl
      exact .inr ⟨⟨_, _, _, rfl, rfl, eg, nofun⟩, rfl⟩
    refine And.intro ?_ ?_
    · intro d hd ρ W hcs bw hn hg
      cases hd
      have eg : ρ (.tmp 15) = .bool true := hg _ _ _ _ rfl rfl rfl
      exact .inr ⟨⟨_, _, _, rfl, rfl, eg, nofun⟩, rfl⟩
    refine And.intro ?_ ?_
    · intro d hd ρ W hcs bw hn hg
      cases hd
      have e15 : ρ (.tmp 15) = .bool true := hn 15 (by decide)
      have e17 : ρ (.tmp 17) = undef := hn 17 (by decide)
      clear hn hg
      refine .inl ⟨trivial, ?_⟩
      have hc1 := hcs.1
      refine .inl ⟨.bool true, W, ?_, rfl, Below.refl _ _⟩
      go_simp
    trivial
  · intro a' w' hsz hdf hb hVs
    have q18 : a'.eval (.tmp 18) = .bool true := hVs 18
    have ha := slot_over_seg 5 14 [] rfl (by kernel_rfl) (of_decide_eq_true (by kernel_rfl)) hsz hdf hVs
    clear hVs hsz hdf
    rw [show List.range' 5 14 = [5, 6, 7, 8, 9, 10, 11, 12, 13, 14, 15, 16, 17, 18] from rfl] at ha
    simp only [List.take_succ_cons, List.take_zero, List.drop_succ_cons, List.drop_zero, List.map_cons, List.map_nil, List.cons_append, List.nil_append, List.foldl_cons, List.foldl_nil, List.set_cons_zero, List.set_cons_succ, q18] at ha
    clear q18
    generalize a'.eval (.tmp 5) = x5 at ha
    generalize a'.eval (.tmp 6) = x6 at ha
    generalize a'.eval (.tmp 7) = x7 at ha
    generalize a'.eval (.tmp 8) = x8 at ha
    generalize a'.eval (.tmp 9) = x9 at ha
    generalize a'.eval (.tmp 10) = x10 at ha
    generalize a'.eval (.tmp 11) = x11 at ha
    generalize a'.eval (.tmp 12) = x12 at ha
    generalize a'.eval (.tmp 13) = x13 at ha
    generalize a'.eval (.tmp 14) = x14 at ha
    generalize a'.eval (.tmp 15) = x15 at ha
    generalize a'.eval (.tmp 16) = x16 at ha
    generalize a'.eval (.tmp 17) = x17 at ha
    subst ha
    have bz : Below w.heap.size w w' := bwA.drew.trans (hb.mono bwA.drew.size)
    clear hb bwA
    go_wp2_with fail
    exact bodyPost_ret (results_none rfl _ _ _) rfl ⟨rfl, bz⟩
set_option linter.unusedVariables false in
set_option linter.unusedSimpArgs false in
set_option maxRecDepth 100000 in
set_option maxHeartbeats 2000000 in
theorem theard_any {B g me : Nat} {row : List Nat} {v : Value} {w : World} (q : ThS B g me row v w) (hB : B ≤ w.heap.size) (node : Nat) : Calls Try.prog 39 #[.pointer (some ⟨g, 0, none⟩), .int .u8 (node : Int)] w fun e w' => e = .returned (.tuple #[]) ∧ ∃ v', ThS B g me (heardT me row node) v' w' ∧ QStep g v w v' w' := by
  have hok := heard_ok q.ok node
  obtain ⟨bx, hbx⟩ : ∃ b, b = w.heap.size := ⟨_, rfl⟩
  obtain ⟨wA, hwA⟩ : ∃ wA, wA = w.alloc (.cells #[.int .u8 (node : Int)] 5) := ⟨_, rfl⟩
  have kb0 := Blk.new w 5 #[.int .u8 (node : Int)]
  rw [← hwA, ← hbx] at kb0
  have kb : Blk wA.drew bx 5 #[.int .u8 (node : Int)] := kb0
  have bwA : Below w.heap.size w wA := by rw [hwA]; exact (Below.refl _ w).alloc (Nat.le_refl _) _
  have HBX : Hid (w.heap.size ≤ bx) := by rw [hbx]; exact Nat.le_refl _
  obtain ⟨A, cp, hv, _, _⟩ := Byt.own_slice1 q.ho
  obtain ⟨n, hn⟩ : ∃ n, n = row.length := ⟨_, rfl⟩
  rw [← hn] at hv
  subst hv
  have kg0 := q.hg.below bwA q.hg.lt
  have kg : Blk wA.drew g 116 #[.int .u8 (me : Int), .slice A n cp] := kg0
  have hgl := q.hg.lt
  have HQ := Lib.hid (And.intro q (And.intro hok hB))
  clear q hok hB hn
  by_cases h1 : node = me
  · have hh : heardT me row node = row := by unfold heardT; rw [if_pos (.inr h1)]
    subst h1
    have HF : Hid (∀ w', Below w.heap.size w w' → ∃ v', ThS B g node (heardT node row node) v' w' ∧ QStep g (.slice A n cp) w v' w') := fun w' hb => ⟨_, by rw [hh]; exact HQ.out.1.below hb, QStep.of_below hb⟩
    clear hh
    go_enter Try.func39, Try.ntmps39
    go_upto_region 1 with fail
    rw [← hwA, ← hbx]
    clear hwA hbx
    refine region_inv2 (by kernel_rfl) [] [(5, .pointer (some ⟨g, 0, none⟩)), (6, .bool false), (7, .bool false), (8, .int .u8 (node : Int)), (9, .pointer (some ⟨g, 0, none⟩)), (10, .pointer (some ⟨g, 0, none⟩)), (11, .pointer (some ⟨g, 0, none⟩)), (12, .int .u8 (node : Int)), (13, .bool true), (14, .bool true), (15, .bool true), (16, undef), (17, undef), (18, .bool true)] (by kernel_rfl) (by kernel_rfl) rfl (by kernel_rfl) ?_ ?_ ?_
    · intro q hq; cases hq
    · refine And.intro ?_ ?_
      · intro d hd ρ W hcs bw hn hg
        cases hd
        have e0 : ρ (.tmp 0) = .pointer (some ⟨g, 0, none⟩) := hn 0 (by decide)
        clear hn hg
        refine .inl ⟨trivial, ?_⟩
        refine .inl ⟨_, W, rfl, e0, Below.refl _ _⟩
      refine And.intro ?_ ?_
      · intro d hd ρ W hcs bw hn hg
        cases hd
        have e5 : ρ (.tmp 5) = .pointer (some ⟨g, 0, none⟩) := hn 5 (by decide)
        clear hn hg
        refine .inl ⟨trivial, ?_⟩
        have hc1 := hcs.1
        refine .inl ⟨.bool false, W, ?_, rfl, Below.refl _ _⟩
        go_simp
      refine And.intro ?_ ?_
      · intro d hd ρ W hcs bw hn hg
        cases hd
        have e6 : ρ (.tmp 6) = .bool false := hn 6 (by decide)
        clear hn hg
        refine .inl ⟨trivial, ?_⟩
        refine .inl ⟨_, W, rfl, e6, Below.refl _ _⟩
      refine And.intro ?_ ?_
      · intro d hd ρ W hcs bw hn hg
        cases hd
        have eg : ρ (.tmp 7) = .bool false := hg _ _ _ _ rfl rfl rfl
        have e3 : ρ (.tmp 3) = .pointer (some ⟨bx, 0, none⟩) := hn 3 (by decide)
        clear hn hg
        refine .inl ⟨⟨_, _, rfl, rfl, eg⟩, ?_⟩
        have z0 : W.cell? ⟨bx, 0, none⟩ = some (.int .u8 (node : Int)) := (Blk.below kb bw (Blk.lt kb)).cell 0
        refine .inl ⟨.int .u8 (node : Int), W, ?_, rfl, Below.refl _ _⟩
        go_simp
      refine And.intro ?_ ?_
      · intro d hd ρ W hcs bw hn hg
        cases hd
        have eg : ρ (.tmp 7) = .bool false := hg _ _ _ _ rfl rfl rfl
        have e0 : ρ (.tmp 0) = .pointer (some ⟨g, 0, none⟩) := hn 0 (by decide)
        clear hn hg
        refine .inl ⟨⟨_, _, rfl, rfl, eg⟩, ?_⟩
        refine .inl ⟨_, W, rfl, e0, Below.refl _ _⟩
      refine And.intro ?_ ?_
      · intro d hd ρ W hcs bw hn hg
        cases hd
        have eg : ρ (.tmp 7) = .bool false := hg _ _ _ _ rfl rfl rfl
        have e9 : ρ (.tmp 9) = .pointer (some ⟨g, 0, none⟩) := hn 9 (by decide)
        clear hn hg
        refine .inl ⟨⟨_, _, rfl, rfl, eg⟩, ?_⟩
        refine .inl ⟨.pointer (some ⟨g, 0, none⟩), W, ?_, rfl, Below.refl _ _⟩
        go_simp
      refine And.intro ?_ ?_
      · intro d hd ρ W hcs bw hn hg
        cases hd
        have eg : ρ (.tmp 7) = .bool false := hg _ _ _ _ rfl rfl rfl
        have e10 : ρ (.tmp 10) = .pointer (some ⟨g, 0, none⟩) := hn 10 (by decide)
        clear hn hg
        refine .inl ⟨⟨_, _, rfl, rfl, eg⟩, ?_⟩
        refine .inl ⟨.pointer (some ⟨g, 0, none⟩), W, ?_, rfl, Below.refl _ _⟩
        go_simp
      refine And.intro ?_ ?_
      · intro d hd ρ W hcs bw hn hg
        cases hd
        have eg : ρ (.tmp 7) = .bool false := hg _ _ _ _ rfl rfl rfl
        have e11 : ρ (.tmp 11) = .pointer (some ⟨g, 0, none⟩) := hn 11 (by decide)
        clear hn hg
        refine .inl ⟨⟨_, _, rfl, rfl, eg⟩, ?_⟩
        have z0 : W.cell? ⟨g, 0, none⟩ = some (.int .u8 (node : Int)) := (Blk.below kg bw (Blk.lt kg)).cell 0
        refine .inl ⟨.int .u8 (node : Int), W, ?_, rfl, Below.refl _ _⟩
        go_simp
      refine And.intro ?_ ?_
      · intro d hd ρ W hcs bw hn hg
        cases hd
        have eg : ρ (.tmp 7) = .bool false := hg _ _ _ _ rfl rfl rfl
        have e8 : ρ (.tmp 8) = .int .u8 (node : Int) := hn 8 (by decide)
        have e12 : ρ (.tmp 12) = .int .u8 (node : Int) := hn 12 (by decide)
        clear hn hg
        refine .inl ⟨⟨_, _, rfl, rfl, eg⟩, ?_⟩
        refine .inl ⟨.bool true, W, ?_, rfl, Below.refl _ _⟩
        go_simp
      refine And.intro ?_ ?_
      · intro d hd ρ W hcs bw hn hg
        cases hd
        have e7 : ρ (.tmp 7) = .bool false := hn 7 (by decide)
        have e13 : ρ (.tmp 13) = .bool true := hn 13 (by decide)
        clear hn hg
        refine .inl ⟨trivial, ?_⟩
        have hc1 := hcs.1
        refine .inl ⟨.bool true, W, ?_, rfl, Below.refl _ _⟩
        go_simp
      refine And.intro ?_ ?_
      · intro d hd ρ W hcs bw hn hg
        cases hd
        have e14 : ρ (.tmp 14) = .bool true := hn 14 (by decide)
        clear hn hg
        refine .inl ⟨trivial, ?_⟩
        refine .inl ⟨_, W, rfl, e14, Below.refl _ _⟩
      refine And.intro ?_ ?_
      · intro d hd ρ W hcs bw hn hg
        cases hd
        have eg : ρ (.tmp 15) = .bool true := hg _ _ _ _ rfl rfl rfl
        exact .inr ⟨⟨_, _, _, rfl, rfl, eg, nofun⟩, rfl⟩
      refine And.intro ?_ ?_
      · intro d hd ρ W hcs bw hn hg
        cases hd
        have eg : ρ (.tmp 15) = .bool true := hg _ _ _ _ rfl rfl rfl
        exact .inr ⟨⟨_, _, _, rfl, rfl, eg, nofun⟩, rfl⟩
      refine And.intro ?_ ?_
      · intro d hd ρ W hcs bw hn hg
        cases hd
        have e15 : ρ (.tmp 15) = .bool true := hn 15 (by decide)
        have e17 : ρ (.tmp 17) = undef := hn 17 (by decide)
        clear hn hg
        refine .inl ⟨trivial, ?_⟩
        have hc1 := hcs.1
        refine .inl ⟨.bool true, W, ?_, rfl, Below.refl _ _⟩
        go_simp
      trivial
    · intro a' w' hsz hdf hb hVs
      have q18 : a'.eval (.tmp 18) = .bool true := hVs 18
      have ha := slot_over_seg 5 14 [] rfl (by kernel_rfl) (of_decide_eq_true (by kernel_rfl)) hsz hdf hVs
      clear hVs hsz hdf
      rw [show List.range' 5 14 = [5, 6, 7, 8, 9, 10, 11, 12, 13, 14, 15, 16, 17, 18] from rfl] at ha
      simp only [List.take_succ_cons, List.take_zero, List.drop_succ_cons, List.drop_zero, List.map_cons, List.map_nil, List.cons_append, List.nil_append, List.foldl_cons, List.foldl_nil, List.set_cons_zero, List.set_cons_succ, q18] at ha
      clear q18
      generalize a'.eval (.tmp 5) = x5 at ha
      generalize a'.eval (.tmp 6) = x6 at ha
      generalize a'.eval (.tmp 7) = x7 at ha
      generalize a'.eval (.tmp 8) = x8 at ha
      generalize a'.eval (.tmp 9) = x9 at ha
      generalize a'.eval (.tmp 10) = x10 at ha
      generalize a'.eval (.tmp 11) = x11 at ha
      generalize a'.eval (.tmp 12) = x12 at ha
      generalize a'.eval (.tmp 13) = x13 at ha
      generalize a'.eval (.tmp 14) = x14 at ha
      generalize a'.eval (.tmp 15) = x15 at ha
      generalize a'.eval (.tmp 16) = x16 at ha
      generalize a'.eval (.tmp 17) = x17 at ha
      subst ha
      have bz : Below w.heap.size w w' := bwA.drew.trans (hb.mono bwA.drew.size)
      clear hb bwA kg kb kg0 kb0
      go_wp2_with fail
      exact bodyPost_ret (results_none rfl _ _ _) rfl ⟨rfl, HF.out _ bz⟩
  have h1i : ((node : Int) == (me : Int)) = false := beq_eq_false_iff_ne.2 (by omega)
  by_cases h2 : 6 < node
  · have h2i : (7 : Int) ≤ (node : Int) := by omega
    have hh : heardT me row node = row := by unfold heardT; rw [if_pos (.inl h2)]
    have HF : Hid (∀ w', Below w.heap.size w w' → ∃ v', ThS B g me (heardT me row node) v' w' ∧ QStep g (.slice A n cp) w v' w') := fun w' hb => ⟨_, by rw [hh]; exact HQ.out.1.below hb, QStep.of_below hb⟩
    clear hh h1 h2
    go_enter Try.func39, Try.ntmps39
    go_upto_region 1 with fail
    rw [← hwA, ← hbx]
    clear hwA hbx
    refine region_inv2 (by kernel_rfl) [] [(5, .pointer (some ⟨g, 0, none⟩)), (6, .bool false), (7, .bool false), (8, .int .u8 (node : Int)), (9, .pointer (some ⟨g, 0, none⟩)), (10, .pointer (some ⟨g, 0, none⟩)), (11, .pointer (some ⟨g, 0, none⟩)), (12, .int .u8 (me : Int)), (13, .bool false), (14, .bool false), (15, .bool false), (16, .int .u8 (node : Int)), (17, .bool true), (18, .bool true)] (by kernel_rfl) (by kernel_rfl) rfl (by kernel_rfl) ?_ ?_ ?_
    · intro q hq; cases hq
    · refine And.intro ?_ ?_
      · intro d hd ρ W hcs bw hn hg
        cases hd
        have e0 : ρ (.tmp 0) = .pointer (some ⟨g, 0, none⟩) := hn 0 (by decide)
        clear hn hg
        refine .inl ⟨trivial, ?_⟩
        refine .inl ⟨_, W, rfl, e0, Below.refl _ _⟩
      refine And.intro ?_ ?_
      · intro d hd ρ W hcs bw hn hg
        cases hd
        have e5 : ρ (.tmp 5) = .pointer (some ⟨g, 0, none⟩) := hn 5 (by decide)
        clear hn hg
        refine .inl ⟨trivial, ?_⟩
        have hc1 := hcs.1
        refine .inl ⟨.bool false, W, ?_, rfl, Below.refl _ _⟩
        go_simp
      refine And.intro ?_ ?_
      · intro d hd ρ W hcs bw hn hg
        cases hd
        have e6 : ρ (.tmp 6) = .bool false := hn 6 (by decide)
        clear hn hg
        refine .inl ⟨trivial, ?_⟩
        refine .inl ⟨_, W, rfl, e6, Below.refl _ _⟩
      refine And.intro ?_ ?_
      · intro d hd ρ W hcs bw hn hg
        cases hd
        have eg : ρ (.tmp 7) = .bool false := hg _ _ _ _ rfl rfl rfl
        have e3 : ρ (.tmp 3) = .pointer (some ⟨bx, 0, none⟩) := hn 3 (by decide)
        clear hn hg
        refine .inl ⟨⟨_, _, rfl, rfl, eg⟩, ?_⟩
        have z0 : W.cell? ⟨bx, 0, none⟩ = some (.int .u8 (node : Int)) := (Blk.below kb bw (Blk.lt kb)).cell 0
        refine .inl ⟨.int .u8 (node : Int), W, ?_, rfl, Below.refl _ _⟩
        go_simp
      refine And.intro ?_ ?_
      · intro d hd ρ W hcs bw hn hg
        cases hd
        have eg : ρ (.tmp 7) = .bool false := hg _ _ _ _ rfl rfl rfl
        have e0 : ρ (.tmp 0) = .pointer (some ⟨g, 0, none⟩) := hn 0 (by decide)
        clear hn hg
        refine .inl ⟨⟨_, _, rfl, rfl, eg⟩, ?_⟩
        refine .inl ⟨_, W, rfl, e0, Below.refl _ _⟩
      refine And.intro ?_ ?_
      · intro d hd ρ W hcs bw hn hg
        cases hd
        have eg : ρ (.tmp 7) = .bool false := hg _ _ _ _ rfl rfl rfl
        have e9 : ρ (.tmp 9) = .pointer (some ⟨g, 0, none⟩) := hn 9 (by decide)
        clear hn hg
        refine .inl ⟨⟨_, _, rfl, rfl, eg⟩, ?_⟩
        refine .inl ⟨.pointer (some ⟨g, 0, none⟩), W, ?_, rfl, Below.refl _ _⟩
        go_simp
      refine And.intro ?_ ?_
      · intro d hd ρ W hcs bw hn hg
        cases hd
        have eg : ρ (.tmp 7) = .bool false := hg _ _ _ _ rfl rfl rfl
        have e10 : ρ (.tmp 10) = .pointer (some ⟨g, 0, none⟩) := hn 10 (by decide)
        clear hn hg
        refine .inl ⟨⟨_, _, rfl, rfl, eg⟩, ?_⟩
        refine .inl ⟨.pointer (some ⟨g, 0, none⟩), W, ?_, rfl, Below.refl _ _⟩
        go_simp
      refine And.intro ?_ ?_
      · intro d hd ρ W hcs bw hn hg
        cases hd
        have eg : ρ (.tmp 7) = .bool false := hg _ _ _ _ rfl rfl rfl
        have e11 : ρ (.tmp 11) = .pointer (some ⟨g, 0, none⟩) := hn 11 (by decide)
        clear hn hg
        refine .inl ⟨⟨_, _, rfl, rfl, eg⟩, ?_⟩
        have z0 : W.cell? ⟨g, 0, none⟩ = some (.int .u8 (me : Int)) := (Blk.below kg bw (Blk.lt kg)).cell 0
        refine .inl ⟨.int .u8 (me : Int), W, ?_, rfl, Below.refl _ _⟩
        go_simp
      refine And.intro ?_ ?_
      · intro d hd ρ W hcs bw hn hg
        cases hd
        have eg : ρ (.tmp 7) = .bool false := hg _ _ _ _ rfl rfl rfl
        have e8 : ρ (.tmp 8) = .int .u8 (node : Int) := hn 8 (by decide)
        have e12 : ρ (.tmp 12) = .int .u8 (me : Int) := hn 12 (by decide)
        clear hn hg
        refine .inl ⟨⟨_, _, rfl, rfl, eg⟩, ?_⟩
        refine .inl ⟨.bool false, W, ?_, rfl, Below.refl _ _⟩
        go_simp
      refine And.intro ?_ ?_
      · intro d hd ρ W hcs bw hn hg
        cases hd
        have e7 : ρ (.tmp 7) = .bool false := hn 7 (by decide)
        have e13 : ρ (.tmp 13) = .bool false := hn 13 (by decide)
        clear hn hg
        refine .inl ⟨trivial, ?_⟩
        have hc1 := hcs.1
        refine .inl ⟨.bool false, W, ?_, rfl, Below.refl _ _⟩
        go_simp
      refine And.intro ?_ ?_
      · intro d hd ρ W hcs bw hn hg
        cases hd
        have e14 : ρ (.tmp 14) = .bool false := hn 14 (by decide)
        clear hn hg
        refine .inl ⟨trivial, ?_⟩
        refine .inl ⟨_, W, rfl, e14, Below.refl _ _⟩
      refine And.intro ?_ ?_
      · intro d hd ρ W hcs bw hn hg
        cases hd
        have eg : ρ (.tmp 15) = .bool false := hg _ _ _ _ rfl rfl rfl
        have e3 : ρ (.tmp 3) = .pointer (some ⟨bx, 0, none⟩) := hn 3 (by decide)
        clear hn hg
        refine .inl ⟨⟨_, _, rfl, rfl, eg⟩, ?_⟩
        have z0 : W.cell? ⟨bx, 0, none⟩ = some (.int .u8 (node : Int)) := (Blk.below kb bw (Blk.lt kb)).cell 0
        refine .inl ⟨.int .u8 (node : Int), W, ?_, rfl, Below.refl _ _⟩
        go_simp
      refine And.intro ?_ ?_
      · intro d hd ρ W hcs bw hn hg
        cases hd
        have eg : ρ (.tmp 15) = .bool false := hg _ _ _ _ rfl rfl rfl
        have e16 : ρ (.tmp 16) = .int .u8 (node : Int) := hn 16 (by decide)
        clear hn hg
        refine .inl ⟨⟨_, _, rfl, rfl, eg⟩, ?_⟩
        have hc1 := hcs.1
        refine .inl ⟨.bool true, W, ?_, rfl, Below.refl _ _⟩
        go_simp
      refine And.intro ?_ ?_
      · intro d hd ρ W hcs bw hn hg
        cases hd
        have e15 : ρ (.tmp 15) = .bool false := hn 15 (by decide)
        have e17 : ρ (.tmp 17) = .bool true := hn 17 (by decide)
        clear hn hg
        refine .inl ⟨trivial, ?_⟩
        have hc1 := hcs.1
        refine .inl ⟨.bool true, W, ?_, rfl, Below.refl _ _⟩
        go_simp
      trivial
    · intro a' w' hsz hdf hb hVs
      have q18 : a'.eval (.tmp 18) = .bool true := hVs 18
      have ha := slot_over_seg 5 14 [] rfl (by kernel_rfl) (of_decide_eq_true (by kernel_rfl)) hsz hdf hVs
      clear hVs hsz hdf
      rw [show List.range' 5 14 = [5, 6, 7, 8, 9, 10, 11, 12, 13, 14, 15, 16, 17, 18] from rfl] at ha
      simp only [List.take_succ_cons, List.take_zero, List.drop_succ_cons, List.drop_zero, List.map_cons, List.map_nil, List.cons_append, List.nil_append, List.foldl_cons, List.foldl_nil, List.set_cons_zero, List.set_cons_succ, q18] at ha
      clear q18
      generalize a'.eval (.tmp 5) = x5 at ha
      generalize a'.eval (.tmp 6) = x6 at ha
      generalize a'.eval (.tmp 7) = x7 at ha
      generalize a'.eval (.tmp 8) = x8 at ha
      generalize a'.eval (.tmp 9) = x9 at ha
      generalize a'.eval (.tmp 10) = x10 at ha
      generalize a'.eval (.tmp 11) = x11 at ha
      generalize a'.eval (.tmp 12) = x12 at ha
      generalize a'.eval (.tmp 13) = x13 at ha
      generalize a'.eval (.tmp 14) = x14 at ha
      generalize a'.eval (.tmp 15) = x15 at ha
      generalize a'.eval (.tmp 16) = x16 at ha
      generalize a'.eval (.tmp 17) = x17 at ha
      subst ha
      have bz : Below w.heap.size w w' := bwA.drew.trans (hb.mono bwA.drew.size)
      clear hb bwA kg kb kg0 kb0
      go_wp2_with fail
      exact bodyPost_ret (results_none rfl _ _ _) rfl ⟨rfl, HF.out _ bz⟩
  have h2i : ¬ (7 : Int) ≤ (node : Int) := by omega
  have hh : heardT me row node = node :: row.filter fun y => y != node := by unfold heardT; rw [if_neg (fun h => h.elim h2 h1)]
  have HH := Lib.hid hh
  clear hh h1 h2
  go_enter Try.func39, Try.ntmps39
  go_upto_region 1 with fail
  rw [← hwA, ← hbx]
  clear hwA hbx
  refine region_inv2 (by kernel_rfl) [] [(5, .pointer (some ⟨g, 0, none⟩)), (6, .bool false), (7, .bool false), (8, .int .u8 (node : Int)), (9, .pointer (some ⟨g, 0, none⟩)), (10, .pointer (some ⟨g, 0, none⟩)), (11, .pointer (some ⟨g, 0, none⟩)), (12, .int .u8 (me : Int)), (13, .bool false), (14, .bool false), (15, .bool false), (16, .int .u8 (node : Int)), (17, .bool false), (18, .bool false)] (by kernel_rfl) (by kernel_rfl) rfl (by kernel_rfl) ?_ ?_ ?_
  · intro q hq; cases hq
  · refine And.intro ?_ ?_
    · intro d hd ρ W hcs bw hn hg
      cases hd
      have e0 : ρ (.tmp 0) = .pointer (some ⟨g, 0, none⟩) := hn 0 (by decide)
      clear hn hg
      refine .inl ⟨trivial, ?_⟩
      refine .inl ⟨_, W, rfl, e0, Below.refl _ _⟩
    refine And.intro ?_ ?_
    · intro d hd ρ W hcs bw hn hg
      cases hd
      have e5 : ρ (.tmp 5) = .pointer (some ⟨g, 0, none⟩) := hn 5 (by decide)
      clear hn hg
      refine .inl ⟨trivial, ?_⟩
      have hc1 := hcs.1
      refine .inl ⟨.bool false, W, ?_, rfl, Below.refl _ _⟩
      go_simp
    refine And.intro ?_ ?_
    · intro d hd ρ W hcs bw hn hg
      cases hd
      have e6 : ρ (.tmp 6) = .bool false := hn 6 (by decide)
      clear hn hg
      refine .inl ⟨trivial, ?_⟩
      refine .inl ⟨_, W, rfl, e6, Below.refl _ _⟩
    refine And.intro ?_ ?_
    · intro d hd ρ W hcs bw hn hg
      cases hd
      have eg : ρ (.tmp 7) = .bool false := hg _ _ _ _ rfl rfl rfl
      have e3 : ρ (.tmp 3) = .pointer (some ⟨bx, 0, none⟩) := hn 3 (by decide)
      clear hn hg
      refine .inl ⟨⟨_, _, rfl, rfl, eg⟩, ?_⟩
      have z0 : W.cell? ⟨bx, 0, none⟩ = some (.int .u8 (node : Int)) := (Blk.below kb bw (Blk.lt kb)).cell 0
      refine .inl ⟨.int .u8 (node : Int), W, ?_, rfl, Below.refl _ _⟩
      go_simp
    refine And.intro ?_ ?_
    · intro d hd ρ W hcs bw hn hg
      cases hd
      have eg : ρ (.tmp 7) = .bool false := hg _ _ _ _ rfl rfl rfl
      have e0 : ρ (.tmp 0) = .pointer (some ⟨g, 0, none⟩) := hn 0 (by decide)
      clear hn hg
      refine .inl ⟨⟨_, _, rfl, rfl, eg⟩, ?_⟩
      refine .inl ⟨_, W, rfl, e0, Below.refl _ _⟩
    refine And.intro ?_ ?_
    · intro d hd ρ W hcs bw hn hg
      cases hd
      have eg : ρ (.tmp 7) = .bool false := hg _ _ _ _ rfl rfl rfl
      have e9 : ρ (.tmp 9) = .pointer (some ⟨g, 0, none⟩) := hn 9 (by decide)
      clear hn hg
      refine .inl ⟨⟨_, _, rfl, rfl, eg⟩, ?_⟩
      refine .inl ⟨.pointer (some ⟨g, 0, none⟩), W, ?_, rfl, Below.refl _ _⟩
      go_simp
    refine And.intro ?_ ?_
    · intro d hd ρ W hcs bw hn hg
      cases hd
      have eg : ρ (.tmp 7) = .bool false := hg _ _ _ _ rfl rfl rfl
      have e10 : ρ (.tmp 10) = .pointer (some ⟨g, 0, none⟩) := hn 10 (by decide)
      clear hn hg
      refine .inl ⟨⟨_, _, rfl, rfl, eg⟩, ?_⟩
      refine .inl ⟨.pointer (some ⟨g, 0, none⟩), W, ?_, rfl, Below.refl _ _⟩
      go_simp
    refine And.intro ?_ ?_
    · intro d hd ρ W hcs bw hn hg
      cases hd
      have eg : ρ (.tmp 7) = .bool false := hg _ _ _ _ rfl rfl rfl
      have e11 : ρ (.tmp 11) = .pointer (some ⟨g, 0, none⟩) := hn 11 (by decide)
      clear hn hg
      refine .inl ⟨⟨_, _, rfl, rfl, eg⟩, ?_⟩
      have z0 : W.cell? ⟨g, 0, none⟩ = some (.int .u8 (me : Int)) := (Blk.below kg bw (Blk.lt kg)).cell 0
      refine .inl ⟨.int .u8 (me : Int), W, ?_, rfl, Below.refl _ _⟩
      go_simp
    refine And.intro ?_ ?_
    · intro d hd ρ W hcs bw hn hg
      cases hd
      have eg : ρ (.tmp 7) = .bool false := hg _ _ _ _ rfl rfl rfl
      have e8 : ρ (.tmp 8) = .int .u8 (node : Int) := hn 8 (by decide)
      have e12 : ρ (.tmp 12) = .int .u8 (me : Int) := hn 12 (by decide)
      clear hn hg
      refine .inl ⟨⟨_, _, rfl, rfl, eg⟩, ?_⟩
      refine .inl ⟨.bool false, W, ?_, rfl, Below.refl _ _⟩
      go_simp
    refine And.intro ?_ ?_
    · intro d hd ρ W hcs bw hn hg
      cases hd
      have e7 : ρ (.tmp 7) = .bool false := hn 7 (by decide)
      have e13 : ρ (.tmp 13) = .bool false := hn 13 (by decide)
      clear hn hg
      refine .inl ⟨trivial, ?_⟩
      have hc1 := hcs.1
      refine .inl ⟨.bool false, W, ?_, rfl, Below.refl _ _⟩
      go_simp
    refine And.intro ?_ ?_
    · intro d hd ρ W hcs bw hn hg
      cases hd
      have e14 : ρ (.tmp 14) = .bool false := hn 14 (by decide)
      clear hn hg
      refine .inl ⟨trivial, ?_⟩
      refine .inl ⟨_, W, rfl, e14, Below.refl _ _⟩
    refine And.intro ?_ ?_
    · intro d hd ρ W hcs bw hn hg
      cases hd
      have eg : ρ (.tmp 15) = .bool false := hg _ _ _ _ rfl rfl rfl
      have e3 : ρ (.tmp 3) = .pointer (some ⟨bx, 0, none⟩) := hn 3 (by decide)
      clear hn hg
      refine .inl ⟨⟨_, _, rfl, rfl, eg⟩, ?_⟩
      have z0 : W.cell? ⟨bx, 0, none⟩ = some (.int .u8 (node : Int)) := (Blk.below kb bw (Blk.lt kb)).cell 0
      refine .inl ⟨.int .u8 (node : Int), W, ?_, rfl, Below.refl _ _⟩
      go_simp
    refine And.intro ?_ ?_
    · intro d hd ρ W hcs bw hn hg
      cases hd
      have eg : ρ (.tmp 15) = .bool false := hg _ _ _ _ rfl rfl rfl
      have e16 : ρ (.tmp 16) = .int .u8 (node : Int) := hn 16 (by decide)
      clear hn hg
      refine .inl ⟨⟨_, _, rfl, rfl, eg⟩, ?_⟩
      have hc1 := hcs.1
      refine .inl ⟨.bool false, W, ?_, rfl, Below.refl _ _⟩
      go_simp
    refine And.intro ?_ ?_
    · intro d hd ρ W hcs bw hn hg
      cases hd
      have e15 : ρ (.tmp 15) = .bool false := hn 15 (by decide)
      have e17 : ρ (.tmp 17) = .bool false := hn 17 (by decide)
      clear hn hg
      refine .inl ⟨trivial, ?_⟩
      have hc1 := hcs.1
      refine .inl ⟨.bool false, W, ?_, rfl, Below.refl _ _⟩
      go_simp
    trivial
  · intro a' w' hsz hdf hb hVs
    have q18 : a'.eval (.tmp 18) = .bool false := hVs 18
    have ha := slot_over_seg 5 14 [] rfl (by kernel_rfl) (of_decide_eq_true (by kernel_rfl)) hsz hdf hVs
    clear hVs hsz hdf
    rw [show List.range' 5 14 = [5, 6, 7, 8, 9, 10, 11, 12, 13, 14, 15, 16, 17, 18] from rfl] at ha
    simp only [List.take_succ_cons, List.take_zero, List.drop_succ_cons, List.drop_zero, List.map_cons, List.map_nil, List.cons_append, List.nil_append, List.foldl_cons, List.foldl_nil, List.set_cons_zero, List.set_cons_succ, q18] at ha
    clear q18
    generalize a'.eval (.tmp 5) = x5 at ha
    generalize a'.eval (.tmp 6) = x6 at ha
    generalize a'.eval (.tmp 7) = x7 at ha
    generalize a'.eval (.tmp 8) = x8 at ha
    generalize a'.eval (.tmp 9) = x9 at ha
    generalize a'.eval (.tmp 10) = x10 at ha
    generalize a'.eval (.tmp 11) = x11 at ha
    generalize a'.eval (.tmp 12) = x12 at ha
    generalize a'.eval (.tmp 13) = x13 at ha
    generalize a'.eval (.tmp 14) = x14 at ha
    generalize a'.eval (.tmp 15) = x15 at ha
    generalize a'.eval (.tmp 16) = x16 at ha
    generalize a'.eval (.tmp 17) = x17 at ha
    subst ha
    have bz : Below w.heap.size w w' := bwA.drew.trans (hb.mono bwA.drew.size)
    have kb2 : Blk w' bx 5 #[.int .u8 (node : Int)] := kb.below hb kb.lt
    have q2 := HQ.out.1.below bz
    clear hb bwA kg kb kg0 kb0 h1i h2i
    have HT := Lib.hid (trow_any q2)
    go_wp2_with fail
    refine HT.out.mono ?_; rintro e w3 hrr
    clear HT
    obtain ⟨u, rfl, _, ho3, B3⟩ := hrr
    have b3 := bz.trans (B3.mono bz.size)
    have kb3 := kb2.below B3 kb2.lt
    have HD := Lib.hid (tdel_any row q2.ok.nd row.length node bx w'.heap.size rfl (by have := row_len q2.ok; omega) u w3 ho3 B3.size (kb3.cell 0) kb2.lt)
    clear ho3
    go_wp2_with fail
    refine HD.out.mono ?_; rintro e w4 hdd
    clear HD
    obtain ⟨u4, rfl, ho4, B4⟩ := hdd
    have b4 := b3.trans (B4.mono bz.size)
    have kb4 := kb3.below B4 kb2.lt
    have g4 := kb4.cell 0
    have q4 := q2.below (B3.trans B4)
    obtain ⟨rest, hrest⟩ : ∃ rest, rest = row.filter fun y => y != node := ⟨_, rfl⟩
    have HR := Lib.hid hrest
    rw [← hrest] at ho4
    have hrl : rest.length ≤ 7 := by rw [hrest]; exact Nat.le_trans (List.length_filter_le _ _) (row_len q2.ok)
    clear hrest
    obtain ⟨m, hm⟩ : ∃ m, m = rest.length := ⟨_, rfl⟩
    rw [← hm] at ho4 hrl
    obtain ⟨A4, c4, hv4, _, hr4⟩ := Byt.own_slice1 ho4
    subst hv4
    have bn : Below w4.heap.size w4 (w4.alloc (.cells #[.int .u8 (node : Int)] 5)) := (Below.refl _ w4).alloc (Nat.le_refl _) _
    have own0 : (w4.alloc (.cells #[.int .u8 (node : Int)] 5)).ownsRow w4.heap.size 5 1 (.slice (some ⟨w4.heap.size, 0, none⟩) 1 1) 1 ([node].map u8v) := own1_of_blk (Blk.new w4 5 #[.int .u8 (node : Int)]) (Nat.le_refl _) rfl rfl (by unfold maxLen; omega)
    obtain ⟨v5, w5, happ, ho5, b5, _⟩ := app_b own0 bn.size (by omega) (c := c4) ((hr4.below bn).more bn.size) (by omega)
    have b45 := bn.trans b5
    have q5 := q4.below b45
    have HM := Lib.hid hm
    obtain ⟨A5, c5, hv5, _, _⟩ := Byt.own_slice1 ho5
    subst hv5
    obtain ⟨w6, hst, k6, hg6⟩ := store_mem q5.hg A5 (1 + m) c5
    have hg1 := q5.hg.cell 1
    have hgl4 : g < w4.heap.size := q4.hg.lt
    have HF : Hid (∃ v', ThS B g me (heardT me row node) v' w6 ∧ QStep g (.slice A n cp) w v' w6) := by
      refine ⟨_, ⟨k6, ?_, HQ.out.1.hB, HQ.out.2.1, fun h => ?_⟩, ?_, fun r hr => ?_⟩
      · rw [HH.out, ← HR.out]
        have h6 := own1_grown ho5 hg6 (fun r hr he => by have := (ho5.lt r hr).1; have := Option.some.inj he; omega)
        have h7 := h6.mono (Nat.le_trans HQ.out.2.2 b4.size)
        rw [List.length_cons, ← HM.out, Nat.add_comm m 1]
        exact h7
      · rw [HH.out] at h; cases h
      · have b5w := b4.trans (b45.mono b4.size)
        exact (Outs.of_below b5w).trans (Outs.of_grown hg6 (by simp))
      · exact .inr (Nat.le_trans b4.size (ho5.lt r hr).1)
    clear q2 q4 q5 ho4 ho5 hr4 own0 b5 b45 bn hg6 k6 bz B3 B4 b3 b4 kb2 kb3 kb4 hm
    go_wp2_with (first | refine wpList_run_append (by rfl) (.tmp 25) (.tmp 26) 22 (by rfl) (by rfl) (by rfl) happ ?_ | refine wpList_store (by rfl) (.tmp 29) (.tmp 27) (by rfl) (by rfl) (by rfl) hst ?_)
    exact bodyPost_end (results_none rfl _ _ _) rfl ⟨rfl, HF.out⟩
end Go.Proofs.Ytbamfnlgapchkaa.Thr
