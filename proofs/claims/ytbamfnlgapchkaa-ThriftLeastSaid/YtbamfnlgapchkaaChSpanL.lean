/- The iterator of a chain, and all nodes of a stretch of slots, walked. Conditions: the chain lies in memory of its own. -/
import Derived.Test.YtbamfnlgapchkaaChSpan
import Derived.Test.YtbamfnlgapchkaaKeepN
namespace Go.Proofs.Ytbamfnlgapchkaa.Chn
open Go Go.RowKit Mem DrawInv

attribute [local go_sem] Oper.semAt_some
theorem store_box {w : World} {b : Nat} {x : Int} (h : Boxed w b 26 (.int .u64 x)) (y : Int) : ∃ w', (Instr.storeAt 26 (.pointer (some ⟨b, 0, none⟩)) (.int .u64 y)).run Try.prog w = .ok () w' ∧ Boxed w' b 26 (.int .u64 y) ∧ w.grownBy w' (some b) := by
  have c0 := h.cell
  have f0 := h.frozen
  refine ⟨w.setCell ⟨b, 0, none⟩ (.int .u64 y), ?_, h.set _, only_setCell (World.grownBy.refl w _) (p := ⟨b, 0, none⟩) (.inl rfl) _⟩
  go_simp
theorem load_box {w : World} {b : Nat} {x : Int} (h : Boxed w b 26 (.int .u64 x)) : (Instr.loadAt 26 (.pointer (some ⟨b, 0, none⟩))).run Try.prog w = .ok (.int .u64 x) w := by
  have c0 := h.cell
  go_simp
/-- What known hands back. -/
def KnownRet (w : World) (g : Nat) (f t : Nat) (e : Ending) (w' : World) : Prop :=
  ∃ bf bt bc, e = .returned (.func (.func 89) #[] #[.pointer (some ⟨bf, 0, none⟩), .pointer (some ⟨bt, 0, none⟩), .pointer (some ⟨bc, 0, none⟩)]) ∧ Boxed w' bf 26 (.int .u64 (f : Int)) ∧ Boxed w' bt 26 (.int .u64 (t : Int)) ∧ Boxed w' bc 24 (.pointer (some ⟨g, 0, none⟩)) ∧
    w.heap.size ≤ bf ∧ w.heap.size ≤ bt ∧ w.heap.size ≤ bc ∧ Below w.heap.size w w'
set_option linter.unusedSimpArgs false in
set_option linter.unusedVariables false in
set_option maxRecDepth 1000000 in
set_option maxHeartbeats 2000000 in
theorem known_any {B g : Nat} {c : Ch} {v : Value} {w : World} (q : ChS B g c v w) (a b : Nat) : Calls Try.prog 75 #[.pointer (some ⟨g, 0, none⟩), .int .u64 (a : Int), .int .u64 (b : Int)] w fun e w' => KnownRet w g (fromN c a) (toN c b) e w' := by
  have hup := q.ok.up
  have hlo : c.low ≤ c.top := by unfold Ch.top; have := q.ok.ne; omega
  obtain ⟨f, hf⟩ : ∃ f, f = fromN c a := ⟨_, rfl⟩
  obtain ⟨t, ht⟩ : ∃ t, t = toN c b := ⟨_, rfl⟩
  rw [← hf, ← ht]
  obtain ⟨tp, htp⟩ : ∃ tp, tp = c.top := ⟨_, rfl⟩
  obtain ⟨lo, hlo2⟩ : ∃ lo, lo = c.low := ⟨_, rfl⟩
  have hw3 : IntKind.u64.wrap ((tp : Int) + 3) = (tp : Int) + 3 := by rw [IntKind.wrap_u64]; omega
  have hmn : min (b : Int) ((tp : Int) + 3) = (t : Int) := by rw [ht]; unfold toN; omega
  have hw2 : IntKind.u64.wrap ((lo : Int) + 3) = (lo : Int) + 3 := by rw [IntKind.wrap_u64]; omega
  have hff : f = if 0 < lo then max a (lo + 3) else a := by rw [hf, hlo2]; rfl
  have HTOP := Lib.hid (fun (W : World) (h : Below w.heap.size w W) => top_any (q.below h))
  rw [← htp] at HTOP
  have hg0 : w.cell? ⟨g, 0, none⟩ = some (.int .u64 (lo : Int)) := by rw [hlo2]; exact q.hg.cell 0
  have hgl := q.hg.lt
  -- the three boxes
  have kc0 := ((Boxed.new w 24 (.pointer (some ⟨g, 0, none⟩))).alloc (.cells #[.int .u64 (a : Int)] 26)).alloc (.cells #[.int .u64 (b : Int)] 26)
  have kf0 := (Boxed.new (w.alloc (.cells #[.pointer (some ⟨g, 0, none⟩)] 24)) 26 (.int .u64 (a : Int))).alloc (.cells #[.int .u64 (b : Int)] 26)
  rw [World.size_alloc] at kf0
  have kt0 := Boxed.new ((w.alloc (.cells #[.pointer (some ⟨g, 0, none⟩)] 24)).alloc (.cells #[.int .u64 (a : Int)] 26)) 26 (.int .u64 (b : Int))
  rw [World.size_alloc, World.size_alloc] at kt0
  have bw : Below w.heap.size w (((w.alloc (.cells #[.pointer (some ⟨g, 0, none⟩)] 24)).alloc (.cells #[.int .u64 (a : Int)] 26)).alloc (.cells #[.int .u64 (b : Int)] 26)) := (((Below.refl _ w).alloc (Nat.le_refl _) _).alloc (by simp) _).alloc (by simp; omega) _
  clear q hup hlo hf ht htp hlo2
  go_enter Try.func75, Try.ntmps75
  go_upto_region 1 with fail
  obtain ⟨bc, hbc⟩ : ∃ x, x = w.heap.size := ⟨_, rfl⟩
  obtain ⟨bf, hbf⟩ : ∃ x, x = w.heap.size + 1 := ⟨_, rfl⟩
  obtain ⟨bt, hbt⟩ : ∃ x, x = w.heap.size + 2 := ⟨_, rfl⟩
  rw [← hbc] at kc0
  rw [← hbf] at kf0
  rw [← hbt] at kt0
  rw [show w.heap.size + 1 + 1 = bt from hbt.symm, ← hbf, ← hbc]
  generalize ((w.alloc (.cells #[.pointer (some ⟨g, 0, none⟩)] 24)).alloc (.cells #[.int .u64 (a : Int)] 26)).alloc (.cells #[.int .u64 (b : Int)] 26) = w1 at *
  have HN : Hid (bc ≠ bf ∧ bc ≠ bt ∧ bf ≠ bt ∧ w.heap.size ≤ bf ∧ w.heap.size ≤ bt ∧ w.heap.size ≤ bc) := by show _ ∧ _; omega
  clear hbc hbf hbt
  have cc := kc0.cell
  have cg := (bw.cell (p := ⟨g, 0, none⟩) hgl).trans hg0
  by_cases hl0 : 0 < lo
  · have hl0i : (0 : Int) < (lo : Int) := by omega
    have hmx : max (a : Int) ((lo : Int) + 3) = (f : Int) := by rw [hff, if_pos hl0]; omega
    clear hl0 hff
    go_upto_region 2 with fail
    obtain ⟨w2, hst, kf1, hgr⟩ := store_box (w := w1.drew) kf0 (f : Int)
    have kc1 : Boxed w2 bc 24 _ := Boxed.kept (W := w1.drew) kc0 hgr (fun e => HN.out.1 (Option.some.inj e))
    have kt1 : Boxed w2 bt 26 _ := Boxed.kept (W := w1.drew) kt0 hgr (fun e => HN.out.2.2.1 (Option.some.inj e).symm)
    have bw2 : Below w.heap.size w w2 := bw.drew.grown hgr bw.drew.size (fun k hk => by cases hk; exact HN.out.2.2.2.1)
    have hlf := load_box (w := w1.drew) kf0
    have cc1 := kc1.cell
    have cg1 := (bw2.cell (p := ⟨g, 0, none⟩) hgl).trans hg0
    have ccd : w1.drew.cell? ⟨bc, 0, none⟩ = some (.pointer (some ⟨g, 0, none⟩)) := cc
    have cgd : w1.drew.cell? ⟨g, 0, none⟩ = some (.int .u64 (lo : Int)) := cg
    clear hl0i
    refine wp_region_held_drew (S := (fun W : World => W.cell? ⟨bc, 0, none⟩ = some (.pointer (some ⟨g, 0, none⟩)) ∧ W.cell? ⟨g, 0, none⟩ = some (.int .u64 (lo : Int)))) (by kernel_rfl) (⟨ccd, cgd⟩) (fun hHeld => ?_)
    refine take1 (i := 1) (d := 13) (v := ?_) rfl (by kernel_rfl) (by kernel_rfl) (by kernel_rfl) rfl (fun _ _ _ h => h) (Or.inl ⟨by rfl, ?_⟩) (by assumption) ?_
    rotate_left
    · (intro w hSw; (try dsimp only at hSw); go_simp); with_reducible rfl
    simp only [List.set_cons_zero, List.set_cons_succ]
    refine take1 (i := 2) (d := 14) (v := ?_) rfl (by kernel_rfl) (by kernel_rfl) (by kernel_rfl) rfl (fun _ _ _ h => h) (Or.inl ⟨by rfl, ?_⟩) (by assumption) ?_
    rotate_left
    · (intro w hSw; (try dsimp only at hSw); go_simp); with_reducible rfl
    simp only [List.set_cons_zero, List.set_cons_succ]
    refine take1 (i := 3) (d := 15) (v := ?_) rfl (by kernel_rfl) (by kernel_rfl) (by kernel_rfl) rfl (fun _ _ _ h => h) (Or.inl ⟨by rfl, ?_⟩) (by assumption) ?_
    rotate_left
    · (intro w hSw; (try dsimp only at hSw); go_simp); with_reducible rfl
    simp only [List.set_cons_zero, List.set_cons_succ]
    refine take1 (i := 4) (d := 16) (v := ?_) rfl (by kernel_rfl) (by kernel_rfl) (by kernel_rfl) rfl (fun _ _ _ h => h) (Or.inl ⟨by rfl, ?_⟩) (by assumption) ?_
    rotate_left
    · (intro w hSw; (try dsimp only at hSw); go_simp); with_reducible rfl
    simp only [List.set_cons_zero, List.set_cons_succ]
    refine take1 (i := 5) (d := 17) (v := ?_) rfl (by kernel_rfl) (by kernel_rfl) (by kernel_rfl) rfl (fun _ _ _ h => h) (Or.inl ⟨by rfl, ?_⟩) (by assumption) ?_
    rotate_left
    · (intro w hSw; (try dsimp only at hSw); go_simp); with_reducible rfl
    simp only [List.set_cons_zero, List.set_cons_succ]
    refine wpAnyH_ready (rs := [0]) (by kernel_rfl) (by simp) (AllReadyH.cons rfl (fun Kreg hKreg => ?_) AllReadyH.nil)
    refine step_load (by rfl) (.tmp 4) (by rfl) (by rfl) hlf ?_
    refine hKreg.out _ _ ((by first | exact ⟨ccd, cgd⟩ | exact ⟨cc1, cg1⟩)) (fun hHeld => ?_)
    clear hKreg Kreg
    refine wpAnyH_put (d := 12) (by rfl) ?_
    simp only [List.set_cons_zero, List.set_cons_succ]
    refine take1 (i := 6) (d := 18) (v := ?_) rfl (by kernel_rfl) (by kernel_rfl) (by kernel_rfl) rfl (fun _ _ _ h => h) (Or.inl ⟨by rfl, ?_⟩) (by assumption) ?_
    rotate_left
    · (intro w hSw; (try dsimp only at hSw); go_simp); with_reducible rfl
    simp only [List.set_cons_zero, List.set_cons_succ]
    refine wpAnyH_ready (rs := [7]) (by kernel_rfl) (by simp) (AllReadyH.cons rfl (fun Kreg hKreg => ?_) AllReadyH.nil)
    refine step_store (by rfl) (.tmp 4) (.tmp 18) (by rfl) (by rfl) (by rfl) hst ?_
    refine hKreg.out _ _ ((by first | exact ⟨ccd, cgd⟩ | exact ⟨cc1, cg1⟩)) (fun hHeld => ?_)
    clear hKreg Kreg
    try simp only [Act.put, List.setIfInBounds_toArray, List.set_cons_zero, List.set_cons_succ]
    refine wpAnyH_done (by kernel_rfl) ?_ _
    clear hst hgr hlf cc cg ccd cgd hmx kf0 kc0 kt0 bw
    go_upto_region 3 with fail
    have bwD : Below w.heap.size w w2.drew := bw2.drew
    have ktD : Boxed w2.drew bt 26 (.int .u64 (b : Int)) := kt1
    have kcD : Boxed w2.drew bc 24 (.pointer (some ⟨g, 0, none⟩)) := kc1
    have kfD : Boxed w2.drew bf 26 (.int .u64 (f : Int)) := kf1
    have hlt := load_box ktD
    have ccD := kcD.cell
    refine wp_region_held_drew (S := (fun W : World => W.cell? ⟨bc, 0, none⟩ = some (.pointer (some ⟨g, 0, none⟩)))) (by kernel_rfl) (ccD) (fun hHeld => ?_)
    refine take1 (i := 1) (d := 20) (v := ?_) rfl (by kernel_rfl) (by kernel_rfl) (by kernel_rfl) rfl (fun _ _ _ h => h) (Or.inl ⟨by rfl, ?_⟩) (by assumption) ?_
    rotate_left
    · (intro w hSw; (try dsimp only at hSw); go_simp); with_reducible rfl
    simp only [List.set_cons_zero, List.set_cons_succ]
    refine wpAnyH_ready (rs := [0, 2]) (by kernel_rfl) (by simp) (AllReadyH.cons rfl (fun Kreg hKreg => ?_) (AllReadyH.cons rfl (fun Kreg hKreg => ?_) AllReadyH.nil))
    · refine step_load (by rfl) (.tmp 5) (by rfl) (by rfl) (by first | exact hlt | exact hlt3) ?_
      refine hKreg.out _ _ ((by first | exact ccD | exact cc3 | exact cc4)) (fun hHeld => ?_)
      clear hKreg Kreg
      refine wpAnyH_put (d := 19) (by rfl) ?_
      simp only [List.set_cons_zero, List.set_cons_succ]
      refine wpAnyH_ready (rs := [2]) (by kernel_rfl) (by simp) (AllReadyH.cons rfl (fun Kreg hKreg => ?_) AllReadyH.nil)
      go_simp
      refine (HTOP.out _ bwD).mono ?_; rintro e w3 ⟨rfl, B3⟩
      have kt3 := Boxed.kept ktD (only_of_below B3 none) (by simp)
      have kc3 := Boxed.kept kcD (only_of_below B3 none) (by simp)
      have kf3 := Boxed.kept kfD (only_of_below B3 none) (by simp)
      have bw3 := bwD.trans (B3.mono bwD.size)
      have hlt3 := load_box kt3
      have cc3 := kc3.cell
      obtain ⟨w4, hst4, kt4, hgr4⟩ := store_box kt3 (t : Int)
      have kc4 := Boxed.kept kc3 hgr4 (fun e => HN.out.2.1 (Option.some.inj e))
      have kf4 := Boxed.kept kf3 hgr4 (fun e => HN.out.2.2.1 (Option.some.inj e))
      have bw4 := bw3.grown hgr4 bw3.size (fun k hk => by cases hk; exact HN.out.2.2.2.2.1)
      have cc4 := kc4.cell
      go_wp2_with fail
      refine hKreg.out _ _ ((by first | exact ccD | exact cc3 | exact cc4)) (fun hHeld => ?_)
      clear hKreg Kreg
      try simp only [Act.put, List.setIfInBounds_toArray, List.set_cons_zero, List.set_cons_succ]
      refine take1 (i := 3) (d := 22) (v := ?_) rfl (by kernel_rfl) (by kernel_rfl) (by kernel_rfl) rfl (fun _ _ _ h => h) (Or.inl ⟨by rfl, ?_⟩) (by assumption) ?_
      rotate_left
      · (intro w hSw; (try dsimp only at hSw); go_simp); with_reducible rfl
      simp only [List.set_cons_zero, List.set_cons_succ]
      refine take1 (i := 4) (d := 23) (v := ?_) rfl (by kernel_rfl) (by kernel_rfl) (by kernel_rfl) rfl (fun _ _ _ h => h) (Or.inl ⟨by rfl, ?_⟩) (by assumption) ?_
      rotate_left
      · (intro w hSw; (try dsimp only at hSw); go_simp); with_reducible rfl
      simp only [List.set_cons_zero, List.set_cons_succ]
      refine wpAnyH_ready (rs := [5]) (by kernel_rfl) (by simp) (AllReadyH.cons rfl (fun Kreg hKreg => ?_) AllReadyH.nil)
      refine step_store (by rfl) (.tmp 5) (.tmp 23) (by rfl) (by rfl) (by rfl) hst4 ?_
      refine hKreg.out _ _ ((by first | exact ccD | exact cc3 | exact cc4)) (fun hHeld => ?_)
      clear hKreg Kreg
      try simp only [Act.put, List.setIfInBounds_toArray, List.set_cons_zero, List.set_cons_succ]
      refine wpAnyH_done (by kernel_rfl) ?_ _
      clear hw3 hmn
      go_wp2_with fail
      go_ret
      exact ⟨bf, bt, bc, rfl, kf4, kt4, kc4, HN.out.2.2.2.1, HN.out.2.2.2.2.1, HN.out.2.2.2.2.2, bw4⟩
    · go_simp
      refine (HTOP.out _ bwD).mono ?_; rintro e w3 ⟨rfl, B3⟩
      have kt3 := Boxed.kept ktD (only_of_below B3 none) (by simp)
      have kc3 := Boxed.kept kcD (only_of_below B3 none) (by simp)
      have kf3 := Boxed.kept kfD (only_of_below B3 none) (by simp)
      have bw3 := bwD.trans (B3.mono bwD.size)
      have hlt3 := load_box kt3
      have cc3 := kc3.cell
      obtain ⟨w4, hst4, kt4, hgr4⟩ := store_box kt3 (t : Int)
      have kc4 := Boxed.kept kc3 hgr4 (fun e => HN.out.2.1 (Option.some.inj e))
      have kf4 := Boxed.kept kf3 hgr4 (fun e => HN.out.2.2.1 (Option.some.inj e))
      have bw4 := bw3.grown hgr4 bw3.size (fun k hk => by cases hk; exact HN.out.2.2.2.2.1)
      have cc4 := kc4.cell
      go_wp2_with fail
      refine hKreg.out _ _ ((by first | exact ccD | exact cc3 | exact cc4)) (fun hHeld => ?_)
      clear hKreg Kreg
      try simp only [Act.put, List.setIfInBounds_toArray, List.set_cons_zero, List.set_cons_succ]
      refine take1 (i := 3) (d := 22) (v := ?_) rfl (by kernel_rfl) (by kernel_rfl) (by kernel_rfl) rfl (fun _ _ _ h => h) (Or.inl ⟨by rfl, ?_⟩) (by assumption) ?_
      rotate_left
      · (intro w hSw; (try dsimp only at hSw); go_simp); with_reducible rfl
      simp only [List.set_cons_zero, List.set_cons_succ]
      refine wpAnyH_ready (rs := [0]) (by kernel_rfl) (by simp) (AllReadyH.cons rfl (fun Kreg hKreg => ?_) AllReadyH.nil)
      refine step_load (by rfl) (.tmp 5) (by rfl) (by rfl) (by first | exact hlt | exact hlt3) ?_
      refine hKreg.out _ _ ((by first | exact ccD | exact cc3 | exact cc4)) (fun hHeld => ?_)
      clear hKreg Kreg
      refine wpAnyH_put (d := 19) (by rfl) ?_
      simp only [List.set_cons_zero, List.set_cons_succ]
      refine take1 (i := 4) (d := 23) (v := ?_) rfl (by kernel_rfl) (by kernel_rfl) (by kernel_rfl) rfl (fun _ _ _ h => h) (Or.inl ⟨by rfl, ?_⟩) (by assumption) ?_
      rotate_left
      · (intro w hSw; (try dsimp only at hSw); go_simp); with_reducible rfl
      simp only [List.set_cons_zero, List.set_cons_succ]
      refine wpAnyH_ready (rs := [5]) (by kernel_rfl) (by simp) (AllReadyH.cons rfl (fun Kreg hKreg => ?_) AllReadyH.nil)
      refine step_store (by rfl) (.tmp 5) (.tmp 23) (by rfl) (by rfl) (by rfl) hst4 ?_
      refine hKreg.out _ _ ((by first | exact ccD | exact cc3 | exact cc4)) (fun hHeld => ?_)
      clear hKreg Kreg
      try simp only [Act.put, List.setIfInBounds_toArray, List.set_cons_zero, List.set_cons_succ]
      refine wpAnyH_done (by kernel_rfl) ?_ _
      clear hw3 hmn
      go_wp2_with fail
      go_ret
      exact ⟨bf, bt, bc, rfl, kf4, kt4, kc4, HN.out.2.2.2.1, HN.out.2.2.2.2.1, HN.out.2.2.2.2.2, bw4⟩

  · have hl0i : ¬ (0 : Int) < (lo : Int) := by omega
    have hfa : f = a := by rw [hff, if_neg hl0]
    subst hfa
    clear hl0 hff
    go_upto_region 3 with fail
    clear hl0i
    have bwD : Below w.heap.size w w1.drew := bw.drew
    have ktD : Boxed w1.drew bt 26 (.int .u64 (b : Int)) := kt0
    have kcD : Boxed w1.drew bc 24 (.pointer (some ⟨g, 0, none⟩)) := kc0
    have kfD : Boxed w1.drew bf 26 (.int .u64 (f : Int)) := kf0
    have hlt := load_box ktD
    have ccD := kcD.cell
    refine wp_region_held_drew (S := (fun W : World => W.cell? ⟨bc, 0, none⟩ = some (.pointer (some ⟨g, 0, none⟩)))) (by kernel_rfl) (ccD) (fun hHeld => ?_)
    refine take1 (i := 1) (d := 20) (v := ?_) rfl (by kernel_rfl) (by kernel_rfl) (by kernel_rfl) rfl (fun _ _ _ h => h) (Or.inl ⟨by rfl, ?_⟩) (by assumption) ?_
    rotate_left
    · (intro w hSw; (try dsimp only at hSw); go_simp); with_reducible rfl
    simp only [List.set_cons_zero, List.set_cons_succ]
    refine wpAnyH_ready (rs := [0, 2]) (by kernel_rfl) (by simp) (AllReadyH.cons rfl (fun Kreg hKreg => ?_) (AllReadyH.cons rfl (fun Kreg hKreg => ?_) AllReadyH.nil))
    · refine step_load (by rfl) (.tmp 5) (by rfl) (by rfl) (by first | exact hlt | exact hlt3) ?_
      refine hKreg.out _ _ ((by first | exact ccD | exact cc3 | exact cc4)) (fun hHeld => ?_)
      clear hKreg Kreg
      refine wpAnyH_put (d := 19) (by rfl) ?_
      simp only [List.set_cons_zero, List.set_cons_succ]
      refine wpAnyH_ready (rs := [2]) (by kernel_rfl) (by simp) (AllReadyH.cons rfl (fun Kreg hKreg => ?_) AllReadyH.nil)
      go_simp
      refine (HTOP.out _ bwD).mono ?_; rintro e w3 ⟨rfl, B3⟩
      have kt3 := Boxed.kept ktD (only_of_below B3 none) (by simp)
      have kc3 := Boxed.kept kcD (only_of_below B3 none) (by simp)
      have kf3 := Boxed.kept kfD (only_of_below B3 none) (by simp)
      have bw3 := bwD.trans (B3.mono bwD.size)
      have hlt3 := load_box kt3
      have cc3 := kc3.cell
      obtain ⟨w4, hst4, kt4, hgr4⟩ := store_box kt3 (t : Int)
      have kc4 := Boxed.kept kc3 hgr4 (fun e => HN.out.2.1 (Option.some.inj e))
      have kf4 := Boxed.kept kf3 hgr4 (fun e => HN.out.2.2.1 (Option.some.inj e))
      have bw4 := bw3.grown hgr4 bw3.size (fun k hk => by cases hk; exact HN.out.2.2.2.2.1)
      have cc4 := kc4.cell
      go_wp2_with fail
      refine hKreg.out _ _ ((by first | exact ccD | exact cc3 | exact cc4)) (fun hHeld => ?_)
      clear hKreg Kreg
      try simp only [Act.put, List.setIfInBounds_toArray, List.set_cons_zero, List.set_cons_succ]
      refine take1 (i := 3) (d := 22) (v := ?_) rfl (by kernel_rfl) (by kernel_rfl) (by kernel_rfl) rfl (fun _ _ _ h => h) (Or.inl ⟨by rfl, ?_⟩) (by assumption) ?_
      rotate_left
      · (intro w hSw; (try dsimp only at hSw); go_simp); with_reducible rfl
      simp only [List.set_cons_zero, List.set_cons_succ]
      refine take1 (i := 4) (d := 23) (v := ?_) rfl (by kernel_rfl) (by kernel_rfl) (by kernel_rfl) rfl (fun _ _ _ h => h) (Or.inl ⟨by rfl, ?_⟩) (by assumption) ?_
      rotate_left
      · (intro w hSw; (try dsimp only at hSw); go_simp); with_reducible rfl
      simp only [List.set_cons_zero, List.set_cons_succ]
      refine wpAnyH_ready (rs := [5]) (by kernel_rfl) (by simp) (AllReadyH.cons rfl (fun Kreg hKreg => ?_) AllReadyH.nil)
      refine step_store (by rfl) (.tmp 5) (.tmp 23) (by rfl) (by rfl) (by rfl) hst4 ?_
      refine hKreg.out _ _ ((by first | exact ccD | exact cc3 | exact cc4)) (fun hHeld => ?_)
      clear hKreg Kreg
      try simp only [Act.put, List.setIfInBounds_toArray, List.set_cons_zero, List.set_cons_succ]
      refine wpAnyH_done (by kernel_rfl) ?_ _
      clear hw3 hmn
      go_wp2_with fail
      go_ret
      exact ⟨bf, bt, bc, rfl, kf4, kt4, kc4, HN.out.2.2.2.1, HN.out.2.2.2.2.1, HN.out.2.2.2.2.2, bw4⟩
    · go_simp
      refine (HTOP.out _ bwD).mono ?_; rintro e w3 ⟨rfl, B3⟩
      have kt3 := Boxed.kept ktD (only_of_below B3 none) (by simp)
      have kc3 := Boxed.kept kcD (only_of_below B3 none) (by simp)
      have kf3 := Boxed.kept kfD (only_of_below B3 none) (by simp)
      have bw3 := bwD.trans (B3.mono bwD.size)
      have hlt3 := load_box kt3
      have cc3 := kc3.cell
      obtain ⟨w4, hst4, kt4, hgr4⟩ := store_box kt3 (t : Int)
      have kc4 := Boxed.kept kc3 hgr4 (fun e => HN.out.2.1 (Option.some.inj e))
      have kf4 := Boxed.kept kf3 hgr4 (fun e => HN.out.2.2.1 (Option.some.inj e))
      have bw4 := bw3.grown hgr4 bw3.size (fun k hk => by cases hk; exact HN.out.2.2.2.2.1)
      have cc4 := kc4.cell
      go_wp2_with fail
      refine hKreg.out _ _ ((by first | exact ccD | exact cc3 | exact cc4)) (fun hHeld => ?_)
      clear hKreg Kreg
      try simp only [Act.put, List.setIfInBounds_toArray, List.set_cons_zero, List.set_cons_succ]
      refine take1 (i := 3) (d := 22) (v := ?_) rfl (by kernel_rfl) (by kernel_rfl) (by kernel_rfl) rfl (fun _ _ _ h => h) (Or.inl ⟨by rfl, ?_⟩) (by assumption) ?_
      rotate_left
      · (intro w hSw; (try dsimp only at hSw); go_simp); with_reducible rfl
      simp only [List.set_cons_zero, List.set_cons_succ]
      refine wpAnyH_ready (rs := [0]) (by kernel_rfl) (by simp) (AllReadyH.cons rfl (fun Kreg hKreg => ?_) AllReadyH.nil)
      refine step_load (by rfl) (.tmp 5) (by rfl) (by rfl) (by first | exact hlt | exact hlt3) ?_
      refine hKreg.out _ _ ((by first | exact ccD | exact cc3 | exact cc4)) (fun hHeld => ?_)
      clear hKreg Kreg
      refine wpAnyH_put (d := 19) (by rfl) ?_
      simp only [List.set_cons_zero, List.set_cons_succ]
      refine take1 (i := 4) (d := 23) (v := ?_) rfl (by kernel_rfl) (by kernel_rfl) (by kernel_rfl) rfl (fun _ _ _ h => h) (Or.inl ⟨by rfl, ?_⟩) (by assumption) ?_
      rotate_left
      · (intro w hSw; (try dsimp only at hSw); go_simp); with_reducible rfl
      simp only [List.set_cons_zero, List.set_cons_succ]
      refine wpAnyH_ready (rs := [5]) (by kernel_rfl) (by simp) (AllReadyH.cons rfl (fun Kreg hKreg => ?_) AllReadyH.nil)
      refine step_store (by rfl) (.tmp 5) (.tmp 23) (by rfl) (by rfl) (by rfl) hst4 ?_
      refine hKreg.out _ _ ((by first | exact ccD | exact cc3 | exact cc4)) (fun hHeld => ?_)
      clear hKreg Kreg
      try simp only [Act.put, List.setIfInBounds_toArray, List.set_cons_zero, List.set_cons_succ]
      refine wpAnyH_done (by kernel_rfl) ?_ _
      clear hw3 hmn
      go_wp2_with fail
      go_ret
      exact ⟨bf, bt, bc, rfl, kf4, kt4, kc4, HN.out.2.2.2.1, HN.out.2.2.2.2.1, HN.out.2.2.2.2.2, bw4⟩

set_option linter.unusedVariables false in
/-- Ranges over the iterator that known hands back. -/
theorem known_stops (n : Nat) {B g : Nat} {c : Ch} {v : Value} {w0 : World} (q : ChS B g c v w0) (L : Nat → Prop) (hLg : L g) (hLr : ∀ r, v.ownBlock = some r → L r) (bf bt bc f t : Nat)
    (kf : Boxed w0 bf 26 (.int .u64 (f : Int))) (kt : Boxed w0 bt 26 (.int .u64 (t : Int))) (kc : Boxed w0 bc 24 (.pointer (some ⟨g, 0, none⟩))) (h1 : L bf) (h2 : L bt) (h3 : L bc) (ht : t < 9223372036854775807) (hf : f < 18446744073709551616)
    (hnum : t + 1 - f ≤ 2000) (hL : ∀ i, L i → i < w0.heap.size) :
    SeqStopsB Fence.wide n Try.prog 89 #[] #[.pointer (some ⟨bf, 0, none⟩), .pointer (some ⟨bt, 0, none⟩), .pointer (some ⟨bc, 0, none⟩)] (fun x : Fin 256 => #[Value.int .u8 (x.val : Int)]) (KpL L) (fun xs => xs.map Fin.val = toldTo c f (t + 1)) (fun _ => True) 2000 w0 := by
  intro l J Jx W hb hJ _ hY h0
  have h := known_in n q L hLg hLr bf bt bc f t kf kt kc h1 h2 h3 ht hf hnum l (fun pre X => ∃ p : List (Fin 256), p.map Fin.val = pre ∧ J p X) (fun pre X => ∃ p : List (Fin 256), Jx p X) W (fun i hi => hb.block i (hL i hi)) hL
    (fun X Y pre ⟨p, hp, hx⟩ hXY => ⟨p, hp, hJ p X Y none hx (only_of_below hXY none) (fun r e => by cases e)⟩)
    (fun pre x W1 hx ⟨p, hp, hJp⟩ hlen => by
      have hy := hY p ⟨x, hx⟩ W1 hJp (by rw [← hp, List.length_map] at hlen; exact hlen)
      obtain ⟨fn, tmps, assign, body, hr, hR⟩ := hy
      refine ⟨fn, tmps, assign, body, hr, hR.mono ?_⟩
      rintro e W' (⟨he, h4, h5⟩ | ⟨he, h4⟩)
      · exact .inl ⟨he, ⟨p ++ [⟨x, hx⟩], by rw [List.map_append, hp]; rfl, h4⟩, h5⟩
      · exact .inr ⟨he, _, h4⟩)
    ⟨[], rfl, h0⟩
  have h2 : CallsIn Fence.wide n Try.prog 89 #[.func (.yield l) #[] #[], .pointer (some ⟨bf, 0, none⟩), .pointer (some ⟨bt, 0, none⟩), .pointer (some ⟨bc, 0, none⟩)] W (fun e W' => (∃ v, e = .returned v) ∧ ((∃ xs : List (Fin 256), xs.map Fin.val = toldTo c f (t + 1) ∧ J xs W') ∨ (∃ pre : List (Fin 256), True ∧ Jx pre W'))) := h.mono (by
    rintro e W' ⟨hv, (⟨xs, rfl, p, hp, hx⟩ | ⟨pre, _, p, hx⟩)⟩
    · exact ⟨hv, .inl ⟨p, hp, hx⟩⟩
    · exact ⟨hv, .inr ⟨p, trivial, hx⟩⟩)
  exact h2
theorem ownFrom_kpl {β : Type} {L : Nat → Prop} {w : World} (hL : ∀ i, L i → i < w.heap.size) : OwnFrom w.heap.size (fun (_ : β) W => KpL L w W ∧ w.heap.size ≤ W.heap.size) :=
  fun _ X Y row hs hg hr => ⟨fun i hi => (hg.block i (Nat.lt_of_lt_of_le (hL i hi) hs.2) (fun e => by have := (hr i e.symm).1; have := hL i hi; omega)).trans (hs.1 i hi), Nat.le_trans hs.2 hg.size⟩
def sumOf (pre : List (Fin 256)) : Nat := (pre.map Fin.val).foldl withN 0
theorem sum_lt (pre : List (Fin 256)) : sumOf pre < 128 := fold_with_lt _ _ (by omega)
theorem sum_snoc (pre : List (Fin 256)) (x : Fin 256) : sumOf (pre ++ [x]) = withN (sumOf pre) x.val := by unfold sumOf; rw [List.map_append, List.foldl_append]; rfl
def SpanI (w W0 : World) (L : Nat → Prop) (ga : Nat) (pre : List (Fin 256)) (W : World) : Prop :=
  (KpL L W0 W ∧ W0.heap.size ≤ W.heap.size) ∧ (Boxed W ga 27 (.int .u8 (sumOf pre : Int)) ∧ Below w.heap.size w W)
theorem span_own (w W0 : World) (L : Nat → Prop) (hL : ∀ i, L i → i < W0.heap.size) (ga : Nat) (hB : w.heap.size ≤ W0.heap.size) : OwnFrom W0.heap.size (SpanI w W0 L ga) :=
  OwnFrom.and (ownFrom_kpl hL) (OwnFrom.and (Own.from (boxed_own ga 27 (fun pre : List (Fin 256) => Value.int .u8 (sumOf pre : Int))) _) (ownFrom_below (Nat.le_refl _) hB))
theorem span_nil (a b : Nat) (w : World) : Calls Try.prog 26 #[.pointer none, .int .u64 (a : Int), .int .u64 (b : Int)] w fun e w' => e = .returned (.int .u8 0) ∧ Below w.heap.size w w' := by
  have bw : Below w.heap.size w (w.alloc (.cells #[.int .u8 0] 27)) := (Below.refl _ w).alloc (Nat.le_refl _) _
  refine (callsIn_wide (n := 5)).1 ?_
  refine callsIn_of_wp_marks Try.func26 rfl trivial ?_ rfl
  simp only [Try.ntmps26, List.size_toArray, List.length_cons, List.length_nil, Nat.reduceAdd, Nat.reduceSub, Array.replicate_succ, Array.replicate_zero, List.push_toArray, List.append_toArray, List.nil_append, List.cons_append]
  gi_wp2
  exact ⟨_, results_tmp rfl _ _ _, rfl, bw⟩
set_option linter.unusedVariables false in
set_option maxRecDepth 100000 in
set_option maxHeartbeats 2000000 in
theorem span_any {B g : Nat} {c : Ch} {v : Value} {w : World} (q : ChS B g c v w) (a b : Nat) (ha : a < 18446744073709551616) : Calls Try.prog 26 #[.pointer (some ⟨g, 0, none⟩), .int .u64 (a : Int), .int .u64 (b : Int)] w fun e w' => e = .returned (.int .u8 (c.span a b : Int)) ∧ Below w.heap.size w w' := by
  have hgl := q.hg.lt
  have b0 : Below w.heap.size w (w.alloc (.cells #[.int .u8 0] 27)) := (Below.refl _ w).alloc (Nat.le_refl _) _
  have k0 := Boxed.new w 27 (.int .u8 0)
  have HK := Lib.hid (known_any (q.below b0) a b)
  have hop : c.top ≤ 4611686018427387904 := q.ok.up
  have hne := q.ok.ne
  have hlen := q.ok.len
  have htop : c.top = c.low + c.dirs.length - 1 := rfl
  obtain ⟨f, hf⟩ : ∃ f, f = fromN c a := ⟨_, rfl⟩
  obtain ⟨t, ht⟩ : ∃ t, t = toN c b := ⟨_, rfl⟩
  have htold : toldTo c f (t + 1) = knownL c a b := by rw [hf, ht]; rfl
  have ht2 : t < 9223372036854775807 := by rw [ht]; unfold toN; omega
  have hf2 : f < 18446744073709551616 := by rw [hf]; unfold fromN; split <;> omega
  have hnum : t + 1 - f ≤ 2000 := by rw [hf, ht]; unfold toN fromN; split <;> omega
  rw [← hf, ← ht] at HK
  have HTOLD := Lib.hid htold
  have HT2 := Lib.hid (And.intro ht2 (And.intro hf2 hnum))
  have HQ := Lib.hid q
  have HRL := Lib.hid (fun r hr => (q.ho.lt r hr).2)
  clear hop hne hlen htop hf ht htold ht2 hf2 hnum ha q
  refine (callsIn_wide (n := 5)).1 ?_
  refine callsIn_of_wp_marks Try.func26 rfl trivial ?_ rfl
  simp only [Try.ntmps26, List.size_toArray, List.length_cons, List.length_nil, Nat.reduceAdd, Nat.reduceSub, Array.replicate_succ, Array.replicate_zero, List.push_toArray, List.append_toArray, List.nil_append, List.cons_append]
  gi_wp2
  refine ⟨trivial, ?_⟩
  refine (callsIn_wide.2 HK.out).mono ?_; rintro e w2 ⟨bf, bt, bc, rfl, kf, kt, kc, h1, h2, h3, B2⟩
  rw [World.size_alloc] at h1 h2 h3
  have bw := b0.trans (B2.mono b0.size)
  have k2 : Boxed w2 w.heap.size 27 (.int .u8 0) := (B2.block _ (by simp)).trans k0
  have hq2 := HQ.out.below bw
  have hsz : w.heap.size < w2.heap.size := k2.lt
  have hfn : ∀ W : World, (binOp .eql 113 (.func (.func 89) #[] #[.pointer (some ⟨bf, 0, none⟩), .pointer (some ⟨bt, 0, none⟩), .pointer (some ⟨bc, 0, none⟩)]) .nilFunc).run Try.prog W = .ok (.bool false) W := fun _ => by kernel_rfl
  obtain ⟨L, hLd⟩ : ∃ L : Nat → Prop, L = fun i => i < w2.heap.size ∧ i ≠ w.heap.size := ⟨_, rfl⟩
  have hL : ∀ i, L i → i < w2.heap.size := fun i hi => by rw [hLd] at hi; exact hi.1
  have hL1 : ∀ i, i < w2.heap.size → i ≠ w.heap.size → L i := fun i hi hn => by rw [hLd]; exact ⟨hi, hn⟩
  have hLn : ¬ L w.heap.size := fun h => by rw [hLd] at h; exact h.2 rfl
  clear hLd
  gi_wp2
  refine range_bound rfl (by omega) (gf := 89) (bd := #[]) (lb := #[.pointer (some ⟨bf, 0, none⟩), .pointer (some ⟨bt, 0, none⟩), .pointer (some ⟨bc, 0, none⟩)]) rfl trivial (enters_of Try.func89 (by kernel_rfl) rfl)
    (known_stops _ hq2 L (hL1 g (by omega) (by omega)) (fun r hr => hL1 r (by have := HRL.out r hr; omega) (by have := HRL.out r hr; omega)) bf bt bc f t kf kt kc (hL1 bf kf.lt (by omega)) (hL1 bt kt.lt (by omega)) (hL1 bc kc.lt (by omega)) HT2.out.1 HT2.out.2.1 HT2.out.2.2 hL) (fun h k => h.trans k)
    (fun W l o o' hl _ _ _ i hi => World.putObj_heap_other (by have := hL i hi; omega)) (Below.refl _ _) (fun _ => rfl)
    (SpanI w w2 L w.heap.size) (fun _ _ _ => False) (span_own w w2 L hL w.heap.size bw.size) (fun _ _ _ _ _ h _ _ => h)
    ⟨⟨fun _ _ => rfl, Nat.le_refl _⟩, k2, bw⟩
    ?a1 ?assign ?body ?done ?stop
  case assign =>
    intro l x W K hK
    gi_wp2
    exact hK
  case body =>
    rintro l pre x W ⟨⟨hkp, hs⟩, hA, hB⟩ hlt
    have cA := hA.cell
    have fA := hA.frozen
    have HW := Lib.hid (fun W' => with_any (sumOf pre) x.val (by have := sum_lt pre; omega) x.isLt W')
    have hA2 := hA.set (.int .u8 (withN (sumOf pre) x.val : Int))
    have hB2 := hB.setCell (p := ⟨w.heap.size, 0, none⟩) (Nat.le_refl _) (.int .u8 (withN (sumOf pre) x.val : Int))
    have hK2 : KpL L W (W.setCell ⟨w.heap.size, 0, none⟩ (.int .u8 (withN (sumOf pre) x.val : Int))) := fun i hi => Below.heap_setCell W _ _ i (fun e => hLn (by rw [← show i = w.heap.size from e]; exact hi))
    gi_wp2
    refine ⟨trivial, ?_⟩
    refine (callsIn_wide.2 (HW.out _)).mono ?_; rintro e w' ⟨rfl, rfl⟩
    gi_wp2
    exact ⟨(KeepsOthers.setCell W _ _).from _, hK2, ⟨hkp.trans hK2, by simpa using hs⟩, by rw [sum_snoc]; exact hA2, hB2⟩
  case done =>
    rintro D ys W hD hys ⟨⟨hkp, hs⟩, hA, hB⟩ hK
    have cA := hA.cell
    have hsum : sumOf ys = c.span a b := by unfold sumOf Ch.span; rw [hys, HTOLD.out]
    rw [hsum] at cA
    have hb := hB.trans (belowK_b (w := w) (Nat.le_refl _) W D (.deferred (some [])) (.deferred none) (by omega) hK rfl rfl)
    clear hys hsum hA
    gi_wp2
    exact ⟨by simp, .inl ⟨_, _, rfl, run_takeDeferred hK, _, results_tmp rfl _ _ _, rfl, hb⟩⟩
  case stop =>
    rintro D c pre W hD hpre hF hK
    exact hF.elim
end Go.Proofs.Ytbamfnlgapchkaa.Chn
