/- Package elect, walked: the closure that grows a round by a vote. Conditions: the round lies in memory of its own. -/
import Derived.Test.YtbamfnlgapchkaaElW
import Derived.RangeFuncBox
namespace Go.Proofs.Ytbamfnlgapchkaa.Ele
open Go Go.RowKit Bal Mem DrawInv

theorem exec_lookup {P : Program} {ρ : Operand → Value} {w : World} {o : Oper} {t : TypeId} {m k : Operand} {b : Bool} {vm vk v : Value} (ho : o.op = .lookup t m k b) (hm : ρ m = vm) (hk : ρ k = vk) (hr : (Instr.lookup t vm vk b).run P w = .ok v w) : (execOp ρ o).run P w = .ok (.value v) w := by
  unfold execOp
  simp only [ho, hm, hk, Sem.run_bind, Sem.run_pure, Result.andThen_ok, hr]
theorem wp_update {P : Program} {w w' : World} {o : Oper} {a : Act} {K : Act → World → Prop} {Q : Exit → Act → World → Prop} {t : TypeId} (m k x : Operand) (ho : o.op = .mapUpdate t m k x) {vm vk vx : Value} (hm : a.eval m = vm) (hk : a.eval k = vk) (hx : a.eval x = vx)
    (hrun : (Instr.mapUpdate t vm vk vx).run P w = .ok () w') (h : K (a.put o.dst undef) w') : o.wp P a w K Q := by
  unfold Oper.wp execOp
  simp only [ho, hm, hk, hx, Sem.run_bind, Sem.run_pure, Result.andThen_ok, hrun]
  exact h
theorem step_update {P : Program} {w w' : World} {ops : Array Oper} {o : Oper} {a : Act} {K : Act → World → Prop} {Q : Exit → Act → World → Prop} {E : Prop} (hgd : o.guard = none) {t : TypeId} (m k x : Operand) (ho : o.op = .mapUpdate t m k x) {vm vk vx : Value} (hm : a.eval m = vm) (hk : a.eval k = vk) (hx : a.eval x = vx)
    (hrun : (Instr.mapUpdate t vm vk vx).run P w = .ok () w') (h : K (a.put o.dst undef) w') : if Region.wanted o (yielded ops a.tmps) = true then Oper.wp P o a w K Q else E := by
  have hw : Region.wanted o (yielded ops a.tmps) = true := by simp [Region.wanted, hgd]
  rw [if_pos hw]
  exact wp_update m k x ho hm hk hx hrun h
theorem store_last {w : World} {g : Nat} {n r wh fl bb la mg : Nat} (hg : Blk w g 127 #[.int .u64 (n : Int), .int .u8 (r : Int), .int .u8 (wh : Int), .int .u64 (fl : Int), .int .u8 (bb : Int), .int .u64 (la : Int), .map (some mg)]) (x : Int) : ∃ w', (Instr.storeAt 26 (.pointer (some ⟨g, 5, none⟩)) (.int .u64 x)).run Try.prog w = .ok () w' ∧ Blk w' g 127 #[.int .u64 (n : Int), .int .u8 (r : Int), .int .u8 (wh : Int), .int .u64 (fl : Int), .int .u8 (bb : Int), .int .u64 x, .map (some mg)] ∧ w.grownBy w' (some g) := by
  have c1 := hg.cell 5
  have f1 := hg.frozen 5
  refine ⟨_, by go_simp, hg.set_ 5 _, only_setCell (World.grownBy.refl _ _) (.inl rfl) _⟩
/-- What stays behind a step of a round. -/
theorem outs_two {g mg : Nat} {w w' : World} {k : Nat} (h : w.grownBy w' (some k)) (hk : k = g ∨ k = mg) : Outs [g, mg] w w' := Outs.of_grown h (by rcases hk with rfl | rfl <;> simp)
theorem box_not_two {B0 g mg bx : Nat} {q : Ro} {w : World} {v : Value} (hb : Boxed w bx 75 v) (h : RoS B0 g mg q w) : bx ∉ [g, mg] := by
  intro hm
  rcases List.mem_cons.1 hm with rfl | hm
  · have h2 : w.heap[bx]? = some (.cells (roC q mg) 127 (0, 0)) := h.hg
    have h3 : w.heap[bx]? = some (.cells #[v] 75 (0, 0)) := hb
    rw [h2] at h3
    injection h3 with h3
    injection h3 with _ h4
    exact absurd h4 (by decide)
  · obtain rfl := List.mem_singleton.1 hm
    obtain ⟨es, c, L, h1, _⟩ := h.hm
    have h3 : w.heap[bx]? = some (.cells #[v] 75 (0, 0)) := hb
    rw [h1] at h3
    cases h3
theorem box_out {bx : Nat} {t : TypeId} {v : Value} {S : List Nat} {w w' : World} (hb : Boxed w bx t v) (h : Outs S w w') (hn : bx ∉ S) : Boxed w' bx t v := (h.block bx hb.lt hn).trans hb
set_option linter.unusedVariables false in
set_option linter.unusedSimpArgs false in
set_option maxRecDepth 100000 in
set_option maxHeartbeats 2000000 in
theorem grow_any {B0 g mg : Nat} {q : Ro} {w : World} (h : RoS B0 g mg q w) (hB : B0 ≤ w.heap.size) (bx : Nat) (hb : Boxed w bx 75 (.pointer (some ⟨g, 0, none⟩))) (v : Vt) : Calls Try.prog 83 #[vtV v, (.pointer (some ⟨bx, 0, none⟩))] w fun e w' => e = .returned (.tuple #[]) ∧ RoS B0 g mg (q.grow v) w' ∧ Outs [g, mg] w w' := by
  have hbn := box_not_two hb h
  have hgm := h.ne
  have hw0 := h.lw
  have HH := Lib.hid h
  obtain ⟨n, r, wh, fl, bb, la, F⟩ := q
  obtain ⟨xs, xn, xr, xv⟩ := v
  unfold vtV vtC
  dsimp only
  -- the box of the vote
  have b0 := below_1 w (.cells #[.int .u64 (xs : Int), .int .u64 (xn : Int), .int .u8 (xr : Int), .string ⟨xv.toArray⟩] 73)
  have kv := Blk.new w 73 #[.int .u64 (xs : Int), .int .u64 (xn : Int), .int .u8 (xr : Int), .string ⟨xv.toArray⟩]
  have hA := h.below b0
  have hbA : Boxed (w.alloc (.cells #[.int .u64 (xs : Int), .int .u64 (xn : Int), .int .u8 (xr : Int), .string ⟨xv.toArray⟩] 73)) bx 75 (.pointer (some ⟨g, 0, none⟩)) := hb.alloc _
  obtain ⟨wA, hwA⟩ : ∃ wA, wA = w.alloc (.cells #[.int .u64 (xs : Int), .int .u64 (xn : Int), .int .u8 (xr : Int), .string ⟨xv.toArray⟩] 73) := ⟨_, rfl⟩
  obtain ⟨gv, hgv⟩ : ∃ g, g = w.heap.size := ⟨_, rfl⟩
  rw [← hwA] at b0 kv hA hbA
  rw [← hgv] at kv
  have hgvn : gv ∉ [g, mg] := by
    have h1 := h.hg.lt
    have h2 := h.hm.lt
    simp
    omega
  have hup : Hid (w.alloc (.cells #[.int .u64 (xs : Int), .int .u64 (xn : Int), .int .u8 (xr : Int), .string ⟨xv.toArray⟩] 73) = wA) := hwA.symm
  have hug : Hid (w.heap.size = gv) := hgv.symm
  clear hwA
  -- the old vote
  have hlk := fun (W : World) (hW : MapAt W mg F) => map_look_ hW xs
  obtain ⟨y, hy⟩ : ∃ y, y = (F xs).getD vt0 := ⟨_, rfl⟩
  obtain ⟨is, his⟩ : ∃ i, i = (F xs).isSome := ⟨_, rfl⟩
  simp only [← hy, ← his] at hlk
  obtain ⟨ys, yn, yr, yv⟩ := y
  unfold vtV vtC at hlk
  dsimp only at hlk
  have HLK := Lib.hid hlk
  clear hlk
  -- its box
  obtain ⟨gl, hgl⟩ : ∃ g, g = wA.heap.size := ⟨_, rfl⟩
  obtain ⟨wB, hwB⟩ : ∃ wB, wB = wA.drew.alloc (.cells #[.int .u64 0, .int .u64 0, .int .u8 0, .string ⟨#[]⟩] 73) := ⟨_, rfl⟩
  have bAB : Below wA.heap.size wA wB := by rw [hwB]; exact ((Below.refl _ wA).drew).alloc (Nat.le_refl _) _
  have kl0 := Blk.new wA.drew 73 #[.int .u64 0, .int .u64 0, .int .u8 0, .string ⟨#[]⟩]
  rw [← hwB] at kl0
  have kl0 : Blk wB gl 73 #[.int .u64 0, .int .u64 0, .int .u8 0, .string ⟨#[]⟩] := by rw [hgl]; exact kl0
  obtain ⟨wC, hst, klC, hgC⟩ : ∃ wC, (Instr.storeAt 73 (.pointer (some ⟨gl, 0, none⟩)) (.agg #[.int .u64 (ys : Int), .int .u64 (yn : Int), .int .u8 (yr : Int), .string ⟨yv.toArray⟩])).run Try.prog wB = .ok () wC ∧ Blk wC gl 73 #[.int .u64 (ys : Int), .int .u64 (yn : Int), .int .u8 (yr : Int), .string ⟨yv.toArray⟩] ∧ wB.grownBy wC (some gl) := ⟨_, blk_store kl0 rfl (by kernel_rfl) rfl, kl0.setRow, grown_setRow (World.grownBy.refl _ _) (.inr rfl)⟩
  have bAC : Below wA.heap.size wA wC := bAB.grown hgC bAB.size (fun k hk => by cases hk; rw [hgl]; exact Nat.le_refl _)
  have hHB := hA.below bAB
  have hHC := hA.below bAC
  have hbB : Boxed wB bx 75 (.pointer (some ⟨g, 0, none⟩)) := (bAB.block _ hbA.lt).trans hbA
  have hbC : Boxed wC bx 75 (.pointer (some ⟨g, 0, none⟩)) := (bAC.block _ hbA.lt).trans hbA
  have kvB := kv.below bAB kv.lt
  have kvC := kv.below bAC kv.lt
  have hgln : gl ≠ gv := by have := kv.lt; omega
  have hgln2 : gl ∉ [g, mg] := by
    have h1 := hA.hg.lt
    have h2 := hA.hm.lt
    simp
    omega
  have HGL : Hid (gl = wA.heap.size ∧ wB = wA.drew.alloc (.cells #[.int .u64 0, .int .u64 0, .int .u8 0, .string ⟨#[]⟩] 73)) := ⟨hgl, hwB⟩
  have SA : wA.drew.cell? ⟨bx, 0, none⟩ = some (.pointer (some ⟨g, 0, none⟩)) ∧ wA.drew.cell? ⟨g, 6, none⟩ = some (.map (some mg)) ∧ wA.drew.cell? ⟨gv, 0, none⟩ = some (.int .u64 (xs : Int)) ∧ MapAt wA.drew mg F := ⟨hbA.cell, hA.hg.cell 6, kv.cell 0, hA.hm⟩
  have SB : wB.cell? ⟨bx, 0, none⟩ = some (.pointer (some ⟨g, 0, none⟩)) ∧ wB.cell? ⟨g, 6, none⟩ = some (.map (some mg)) ∧ wB.cell? ⟨gv, 0, none⟩ = some (.int .u64 (xs : Int)) ∧ MapAt wB mg F := ⟨hbB.cell, hHB.hg.cell 6, kvB.cell 0, hHB.hm⟩
  have SC : wC.cell? ⟨bx, 0, none⟩ = some (.pointer (some ⟨g, 0, none⟩)) ∧ wC.cell? ⟨g, 6, none⟩ = some (.map (some mg)) ∧ wC.cell? ⟨gv, 0, none⟩ = some (.int .u64 (xs : Int)) ∧ MapAt wC mg F := ⟨hbC.cell, hHC.hg.cell 6, kvC.cell 0, hHC.hm⟩
  have bC : Below w.heap.size w wC := b0.trans (bAC.mono b0.size)
  have HC := Lib.hid (And.intro hHC (And.intro hbC (And.intro kvC (And.intro klC bC))))
  have cb := hbA.cell
  have HYV := Lib.hid (And.intro hy his)
  clear hgv hgl hwB bAB kl0 hgC bAC hHB hHC hbB kvB hb h hbA hA kv hy his b0 bC
  generalize hsx : (⟨xv.toArray⟩ : ByteArray) = sx at *
  generalize hsy : (⟨yv.toArray⟩ : ByteArray) = sy at *
  go_enter Try.func83, Try.ntmps83
  go_upto_region 1 with fail
  rw [hup.out, hug.out]
  refine wp_region_held_drew (S := (fun W : World => W.cell? ⟨bx, 0, none⟩ = some (.pointer (some ⟨g, 0, none⟩)) ∧ W.cell? ⟨g, 6, none⟩ = some (.map (some mg)) ∧ W.cell? ⟨gv, 0, none⟩ = some (.int .u64 (xs : Int)) ∧ MapAt W mg F)) (by kernel_rfl) (SA) (fun hHeld => ?_)
  refine take1 (i := 0) (d := 6) (v := ?_) rfl (by kernel_rfl) (by kernel_rfl) (by kernel_rfl) rfl (fun _ _ _ h => h) (Or.inl ⟨by rfl, ?_⟩) (by assumption) ?_
  rotate_left
  · (intro w hSw; (try dsimp only at hSw); go_simp); with_reducible rfl
  simp only [List.set_cons_zero, List.set_cons_succ]
  refine take1 (i := 1) (d := 7) (v := ?_) rfl (by kernel_rfl) (by kernel_rfl) (by kernel_rfl) rfl (fun _ _ _ h => h) (Or.inl ⟨by rfl, ?_⟩) (by assumption) ?_
  rotate_left
  · (intro w hSw; (try dsimp only at hSw); go_simp); with_reducible rfl
  simp only [List.set_cons_zero, List.set_cons_succ]
  refine take1 (i := 2) (d := 8) (v := ?_) rfl (by kernel_rfl) (by kernel_rfl) (by kernel_rfl) rfl (fun _ _ _ h => h) (Or.inl ⟨by rfl, ?_⟩) (by assumption) ?_
  rotate_left
  · (intro w hSw; (try dsimp only at hSw); go_simp); with_reducible rfl
  simp only [List.set_cons_zero, List.set_cons_succ]
  refine take1 (i := 3) (d := 9) (v := ?_) rfl (by kernel_rfl) (by kernel_rfl) (by kernel_rfl) rfl (fun _ _ _ h => h) (Or.inl ⟨by rfl, ?_⟩) (by assumption) ?_
  rotate_left
  · (intro w hSw; (try dsimp only at hSw); go_simp); with_reducible rfl
  simp only [List.set_cons_zero, List.set_cons_succ]
  refine take1 (i := 4) (d := 10) (v := ?_) rfl (by kernel_rfl) (by kernel_rfl) (by kernel_rfl) rfl (fun _ _ _ h => h) (Or.inl ⟨by rfl, ?_⟩) (by assumption) ?_
  rotate_left
  · (intro w hSw; (try dsimp only at hSw); go_simp); with_reducible rfl
  simp only [List.set_cons_zero, List.set_cons_succ]
  refine take1 (i := 5) (d := 11) (v := ?_) rfl (by kernel_rfl) (by kernel_rfl) (by kernel_rfl) rfl (fun _ _ _ h => h) (Or.inl ⟨by rfl, ?_⟩) (by assumption) ?_
  rotate_left
  · (intro w hSw; (try dsimp only at hSw); go_simp); with_reducible rfl
  simp only [List.set_cons_zero, List.set_cons_succ]
  refine take1 (i := 6) (d := 12) (v := ?_) rfl (by kernel_rfl) (by kernel_rfl) (by kernel_rfl) rfl (fun _ _ _ h => h) (Or.inl ⟨by rfl, ?_⟩) (by assumption) ?_
  rotate_left
  · intro w hSw; refine (exec_lookup (t := 125) (m := .tmp 9) (k := .tmp 11) (b := true) (by rfl) (by rfl) (by rfl) (HLK.out w hSw.2.2.2)).trans ?_; with_reducible rfl
  simp only [List.set_cons_zero, List.set_cons_succ]
  refine take1 (i := 7) (d := 5) (v := ?_) rfl (by kernel_rfl) (by kernel_rfl) (by kernel_rfl) rfl (fun _ _ _ h => h) (Or.inl ⟨by rfl, ?_⟩) (by assumption) ?_
  rotate_left
  · (intro w hSw; (try dsimp only at hSw); go_simp); with_reducible rfl
  simp only [List.set_cons_zero, List.set_cons_succ]
  refine take1 (i := 8) (d := 13) (v := ?_) rfl (by kernel_rfl) (by kernel_rfl) (by kernel_rfl) rfl (fun _ _ _ h => h) (Or.inl ⟨by rfl, ?_⟩) (by assumption) ?_
  rotate_left
  · (intro w hSw; (try dsimp only at hSw); go_simp); with_reducible rfl
  simp only [List.set_cons_zero, List.set_cons_succ]
  refine take1 (i := 9) (d := 14) (v := ?_) rfl (by kernel_rfl) (by kernel_rfl) (by kernel_rfl) rfl (fun _ _ _ h => h) (Or.inl ⟨by rfl, ?_⟩) (by assumption) ?_
  rotate_left
  · (intro w hSw; (try dsimp only at hSw); go_simp); with_reducible rfl
  simp only [List.set_cons_zero, List.set_cons_succ]
  refine wpAnyH_ready (rs := [10]) (by kernel_rfl) (by simp) (AllReadyH.cons rfl (fun Kreg hKreg => ?_) AllReadyH.nil)
  refine step_exec (by rfl) (.pointer (some ⟨gl, 0, none⟩)) wB (by rw [HGL.out.2, HGL.out.1]; go_simp) ?_
  refine hKreg.out _ _ ((by first | exact SB | exact SC)) (fun hHeld => ?_)
  clear hKreg Kreg
  refine wpAnyH_put (d := 3) (by rfl) ?_
  simp only [List.set_cons_zero, List.set_cons_succ]
  refine wpAnyH_ready (rs := [11]) (by kernel_rfl) (by simp) (AllReadyH.cons rfl (fun Kreg hKreg => ?_) AllReadyH.nil)
  refine step_store (by rfl) (.tmp 3) (.tmp 13) (by rfl) (by rfl) (by rfl) hst ?_
  refine hKreg.out _ _ ((by first | exact SB | exact SC)) (fun hHeld => ?_)
  clear hKreg Kreg
  try simp only [Act.put, List.setIfInBounds_toArray, List.set_cons_zero, List.set_cons_succ]
  refine take1 (i := 12) (d := 4) (v := ?_) rfl (by kernel_rfl) (by kernel_rfl) (by kernel_rfl) rfl (fun _ _ _ h => h) (Or.inl ⟨by rfl, ?_⟩) (by assumption) ?_
  rotate_left
  · (intro w hSw; (try dsimp only at hSw); go_simp); with_reducible rfl
  simp only [List.set_cons_zero, List.set_cons_succ]
  refine wpAnyH_done (by kernel_rfl) ?_ _
  clear HGL SA SB cb hst
  have c0 := SC.1
  have l1 : wC.cell? ⟨gl, 1, none⟩ = some (.int .u64 (yn : Int)) := klC.cell 1
  have l2 : wC.cell? ⟨gl, 2, none⟩ = some (.int .u8 (yr : Int)) := klC.cell 2
  have v1 : wC.cell? ⟨gv, 1, none⟩ = some (.int .u64 (xn : Int)) := kvC.cell 1
  have v2 : wC.cell? ⟨gv, 2, none⟩ = some (.int .u8 (xr : Int)) := kvC.cell 2
  have HOC : Hid (Outs [g, mg] w wC) := Outs.of_below HC.out.2.2.2.2
  have HNN := Lib.hid (And.intro hgvn (And.intro hbn (And.intro hgm hw0)))
  have HWH := Lib.hid hB
  clear SC kvC klC hgvn hgln hgln2 hbn hgm hw0 hup hug hB
  obtain ⟨up, hup⟩ : ∃ u, u = (!is || ltB ⟨yn, yr⟩ ⟨xn, xr⟩) := ⟨_, rfl⟩
  have HUP := Lib.hid hup
  clear hup
  go_upto_region 2 with fail
  go_cut [23] (fun s wx => s = .bool up ∧ Below wC.heap.size wC wx)
  case first =>
    have HBL := Lib.hid (below_any ⟨yn, yr⟩ ⟨xn, xr⟩ wC)
    unfold bV bC at HBL
    dsimp only at HBL
    have HU := HUP.out
    cases is
    · rw [Bool.not_false, Bool.true_or] at HU
      have HU2 := Lib.hid HU
      clear HU
      go_wp2_with fail
      go_meet
      exact ⟨by rw [HU2.out], Below.refl _ _⟩
    · rw [Bool.not_true, Bool.false_or] at HU
      rw [← HU] at HBL
      clear HU
      go_wp2_with fail
      refine HBL.out.mono ?_; rintro e w9 ⟨rfl, hal⟩
      have B9 := hal.below
      clear hal HBL
      go_wp2_with fail
      go_meet
      exact ⟨rfl, B9⟩
  case rest =>
    obtain ⟨rfl, B9⟩ := hcut
    have HC9 : Hid (RoS B0 g mg ⟨n, r, wh, fl, bb, la, F⟩ wc ∧ Boxed wc bx 75 (.pointer (some ⟨g, 0, none⟩)) ∧ Blk wc gv 73 #[.int .u64 (xs : Int), .int .u64 (xn : Int), .int .u8 (xr : Int), .string sx] ∧ Outs [g, mg] w wc) := ⟨HC.out.1.below B9, (B9.block _ HC.out.2.1.lt).trans HC.out.2.1, HC.out.2.2.1.below B9 HC.out.2.2.1.lt, HOC.out.trans (Outs.of_below B9)⟩
    clear HC HOC B9 c0 l1 l2 v1 v2
    go_upto_if 23 with fail
    go_cut [] (fun wx => RoS B0 g mg ⟨n, r, wh, fl, bb, la, fun s => bestF (F s) ⟨xs, xn, xr, xv⟩ s⟩ wx ∧ Boxed wx bx 75 (.pointer (some ⟨g, 0, none⟩)) ∧ Blk wx gv 73 #[.int .u64 (xs : Int), .int .u64 (xn : Int), .int .u8 (xr : Int), .string sx] ∧ Hid (Outs [g, mg] w wx))
    case first =>
      cases up
      · have HF : Hid ((fun s => bestF (F s) ⟨xs, xn, xr, xv⟩ s) = F) := by
          show _ = _
          funext s
          unfold bestF
          by_cases hs : xs = s
          · subst hs
            have hy := HYV.out
            have hu := HUP.out
            rw [if_pos rfl]
            cases hF : F xs with
            | none => rw [hF] at hy; rw [hy.2] at hu; cases hu
            | some o =>
              rw [hF] at hy
              have ho : (⟨ys, yn, yr, yv⟩ : Vt) = o := hy.1
              rw [hy.2] at hu
              have hl : ltB o.b (⟨xs, xn, xr, xv⟩ : Vt).b = false := by rw [← ho]; simpa [Vt.b] using hu.symm
              show (if ltB o.b _ = true then some _ else some o) = some o
              rw [hl]
              rfl
          · rw [if_neg hs]
        go_wp2_with fail
        go_meet
        exact ⟨by rw [HF.out]; exact HC9.out.1, HC9.out.2.1, HC9.out.2.2.1, HC9.out.2.2.2⟩
      · have HF : Hid ((fun y => if y = xs then some (⟨xs, xn, xr, xv⟩ : Vt) else F y) = fun s => bestF (F s) ⟨xs, xn, xr, xv⟩ s) := by
          show _ = _
          funext s
          unfold bestF
          by_cases hs : xs = s
          · subst hs
            have hy := HYV.out
            have hu := HUP.out
            rw [if_pos rfl, if_pos rfl]
            cases hF : F xs with
            | none => rfl
            | some o =>
              rw [hF] at hy
              have ho : (⟨ys, yn, yr, yv⟩ : Vt) = o := hy.1
              rw [hy.2] at hu
              have hl : ltB o.b (⟨xs, xn, xr, xv⟩ : Vt).b = true := by rw [← ho]; simpa [Vt.b] using hu.symm
              show some _ = (if ltB o.b _ = true then some _ else some o)
              rw [hl]
              rfl
          · rw [if_neg hs, if_neg (Ne.symm hs)]
        have hm9 : MapAt wc.drew mg F := HC9.out.1.hm
        obtain ⟨wD, hput, hmD, hgD⟩ := map_put_ hm9 xs ⟨xs, xn, xr, xv⟩
        unfold vtV vtC at hput
        dsimp only at hput
        rw [hsx] at hput
        rw [HF.out] at hmD
        have kg9 : Blk wc.drew g 127 #[.int .u64 (n : Int), .int .u8 (r : Int), .int .u8 (wh : Int), .int .u64 (fl : Int), .int .u8 (bb : Int), .int .u64 (la : Int), .map (some mg)] := HC9.out.1.hg
        have kgD : Blk wD g 127 #[.int .u64 (n : Int), .int .u8 (r : Int), .int .u8 (wh : Int), .int .u64 (fl : Int), .int .u8 (bb : Int), .int .u64 (la : Int), .map (some mg)] := kg9.grown hgD (fun e => HNN.out.2.2.1 (Option.some.inj e))
        have kb9 : Boxed wc.drew bx 75 (.pointer (some ⟨g, 0, none⟩)) := HC9.out.2.1
        have kbD : Boxed wD bx 75 (.pointer (some ⟨g, 0, none⟩)) := kb9.kept hgD (fun e => HNN.out.2.1 (by rw [Option.some.inj e]; simp))
        have kv9 : Blk wc.drew gv 73 #[.int .u64 (xs : Int), .int .u64 (xn : Int), .int .u8 (xr : Int), .string sx] := HC9.out.2.2.1
        have kvD : Blk wD gv 73 #[.int .u64 (xs : Int), .int .u64 (xn : Int), .int .u8 (xr : Int), .string sx] := kv9.grown hgD (fun e => HNN.out.1 (by rw [Option.some.inj e]; simp))
        have SE : wc.drew.cell? ⟨bx, 0, none⟩ = some (.pointer (some ⟨g, 0, none⟩)) ∧ wc.drew.cell? ⟨g, 6, none⟩ = some (.map (some mg)) ∧ wc.drew.cell? ⟨gv, 0, none⟩ = some (.int .u64 (xs : Int)) ∧ wc.drew.cell? ⟨gv, 1, none⟩ = some (.int .u64 (xn : Int)) ∧ wc.drew.cell? ⟨gv, 2, none⟩ = some (.int .u8 (xr : Int)) ∧ wc.drew.cell? ⟨gv, 3, none⟩ = some (.string sx) := ⟨kb9.cell, kg9.cell 6, kv9.cell 0, kv9.cell 1, kv9.cell 2, kv9.cell 3⟩
        have SD : wD.cell? ⟨bx, 0, none⟩ = some (.pointer (some ⟨g, 0, none⟩)) ∧ wD.cell? ⟨g, 6, none⟩ = some (.map (some mg)) ∧ wD.cell? ⟨gv, 0, none⟩ = some (.int .u64 (xs : Int)) ∧ wD.cell? ⟨gv, 1, none⟩ = some (.int .u64 (xn : Int)) ∧ wD.cell? ⟨gv, 2, none⟩ = some (.int .u8 (xr : Int)) ∧ wD.cell? ⟨gv, 3, none⟩ = some (.string sx) := ⟨kbD.cell, kgD.cell 6, kvD.cell 0, kvD.cell 1, kvD.cell 2, kvD.cell 3⟩
        have HD : Hid (RoS B0 g mg ⟨n, r, wh, fl, bb, la, fun s => bestF (F s) ⟨xs, xn, xr, xv⟩ s⟩ wD ∧ Boxed wD bx 75 (.pointer (some ⟨g, 0, none⟩)) ∧ Blk wD gv 73 #[.int .u64 (xs : Int), .int .u64 (xn : Int), .int .u8 (xr : Int), .string sx] ∧ Hid (Outs [g, mg] w wD)) := ⟨⟨kgD, hmD, HC9.out.1.hB, HC9.out.1.hM, HNN.out.2.2.2⟩, kbD, kvD, HC9.out.2.2.2.trans ((Outs.of_below ((Below.refl _ wc).drew)).trans (outs_two hgD (.inr rfl)))⟩
        clear hm9 hmD hgD kg9 kgD kb9 kbD kv9 kvD HC9
        go_wp2_with fail
        refine wp_region_held_drew (S := (fun W : World => W.cell? ⟨bx, 0, none⟩ = some (.pointer (some ⟨g, 0, none⟩)) ∧ W.cell? ⟨g, 6, none⟩ = some (.map (some mg)) ∧ W.cell? ⟨gv, 0, none⟩ = some (.int .u64 (xs : Int)) ∧ W.cell? ⟨gv, 1, none⟩ = some (.int .u64 (xn : Int)) ∧ W.cell? ⟨gv, 2, none⟩ = some (.int .u8 (xr : Int)) ∧ W.cell? ⟨gv, 3, none⟩ = some (.string sx))) (by kernel_rfl) (SE) (fun hHeld => ?_)
        refine take1 (i := 0) (d := 24) (v := ?_) rfl (by kernel_rfl) (by kernel_rfl) (by kernel_rfl) rfl (fun _ _ _ h => h) (Or.inl ⟨by rfl, ?_⟩) (by assumption) ?_
        rotate_left
        · (intro w hSw; (try dsimp only at hSw); go_simp); with_reducible rfl
        simp only [List.set_cons_zero, List.set_cons_succ]
        refine take1 (i := 1) (d := 25) (v := ?_) rfl (by kernel_rfl) (by kernel_rfl) (by kernel_rfl) rfl (fun _ _ _ h => h) (Or.inl ⟨by rfl, ?_⟩) (by assumption) ?_
        rotate_left
        · (intro w hSw; (try dsimp only at hSw); go_simp); with_reducible rfl
        simp only [List.set_cons_zero, List.set_cons_succ]
        refine take1 (i := 2) (d := 26) (v := ?_) rfl (by kernel_rfl) (by kernel_rfl) (by kernel_rfl) rfl (fun _ _ _ h => h) (Or.inl ⟨by rfl, ?_⟩) (by assumption) ?_
        rotate_left
        · (intro w hSw; (try dsimp only at hSw); go_simp); with_reducible rfl
        simp only [List.set_cons_zero, List.set_cons_succ]
        refine take1 (i := 3) (d := 27) (v := ?_) rfl (by kernel_rfl) (by kernel_rfl) (by kernel_rfl) rfl (fun _ _ _ h => h) (Or.inl ⟨by rfl, ?_⟩) (by assumption) ?_
        rotate_left
        · (intro w hSw; (try dsimp only at hSw); go_simp); with_reducible rfl
        simp only [List.set_cons_zero, List.set_cons_succ]
        refine take1 (i := 4) (d := 28) (v := ?_) rfl (by kernel_rfl) (by kernel_rfl) (by kernel_rfl) rfl (fun _ _ _ h => h) (Or.inl ⟨by rfl, ?_⟩) (by assumption) ?_
        rotate_left
        · (intro w hSw; (try dsimp only at hSw); go_simp); with_reducible rfl
        simp only [List.set_cons_zero, List.set_cons_succ]
        refine take1 (i := 5) (d := 29) (v := ?_) rfl (by kernel_rfl) (by kernel_rfl) (by kernel_rfl) rfl (fun _ _ _ h => h) (Or.inl ⟨by rfl, ?_⟩) (by assumption) ?_
        rotate_left
        · (intro w hSw; (try dsimp only at hSw); go_simp); with_reducible rfl
        simp only [List.set_cons_zero, List.set_cons_succ]
        refine take1 (i := 6) (d := 30) (v := ?_) rfl (by kernel_rfl) (by kernel_rfl) (by kernel_rfl) rfl (fun _ _ _ h => h) (Or.inl ⟨by rfl, ?_⟩) (by assumption) ?_
        rotate_left
        · (intro w hSw; (try dsimp only at hSw); go_simp); with_reducible rfl
        simp only [List.set_cons_zero, List.set_cons_succ]
        refine wpAnyH_ready (rs := [7]) (by kernel_rfl) (by simp) (AllReadyH.cons rfl (fun Kreg hKreg => ?_) AllReadyH.nil)
        refine step_update (by rfl) (.tmp 27) (.tmp 29) (.tmp 30) (by rfl) (by rfl) (by rfl) (by rfl) hput ?_
        refine hKreg.out _ _ ((by exact SD)) (fun hHeld => ?_)
        clear hKreg Kreg
        try simp only [Act.put, List.setIfInBounds_toArray, List.set_cons_zero, List.set_cons_succ]
        refine wpAnyH_done (by kernel_rfl) ?_ _
        clear SE SD hput
        go_wp2_with fail
        go_meet
        exact HD.out
    case rest =>
      obtain ⟨h9, kb9, kv9, hO9⟩ := hcut
      have hg9 : Blk wc.drew g 127 #[.int .u64 (n : Int), .int .u8 (r : Int), .int .u8 (wh : Int), .int .u64 (fl : Int), .int .u8 (bb : Int), .int .u64 (la : Int), .map (some mg)] := h9.hg
      obtain ⟨wE, hst, kgE, hgE⟩ := store_last hg9 ((max la xs : Nat) : Int)
      have hmx : max (la : Int) (xs : Int) = ((max la xs : Nat) : Int) := by omega
      have kbd : Boxed wc.drew bx 75 (.pointer (some ⟨g, 0, none⟩)) := kb9
      have kvd : Blk wc.drew gv 73 #[.int .u64 (xs : Int), .int .u64 (xn : Int), .int .u8 (xr : Int), .string sx] := kv9
      have kbE : Boxed wE bx 75 (.pointer (some ⟨g, 0, none⟩)) := kbd.kept hgE (fun e => HNN.out.2.1 (by rw [Option.some.inj e]; simp))
      have kvE : Blk wE gv 73 #[.int .u64 (xs : Int), .int .u64 (xn : Int), .int .u8 (xr : Int), .string sx] := kvd.grown hgE (fun e => HNN.out.1 (by rw [Option.some.inj e]; simp))
      have hmd : MapAt wc.drew mg (fun s => bestF (F s) ⟨xs, xn, xr, xv⟩ s) := h9.hm
      have hmE := hmd.keep (hgE.block mg hmd.lt (fun e => HNN.out.2.2.1 (Option.some.inj e).symm))
      have SF : wc.drew.cell? ⟨bx, 0, none⟩ = some (.pointer (some ⟨g, 0, none⟩)) ∧ wc.drew.cell? ⟨gv, 0, none⟩ = some (.int .u64 (xs : Int)) := ⟨kbd.cell, kvd.cell 0⟩
      have SG : wE.cell? ⟨bx, 0, none⟩ = some (.pointer (some ⟨g, 0, none⟩)) ∧ wE.cell? ⟨gv, 0, none⟩ = some (.int .u64 (xs : Int)) := ⟨kbE.cell, kvE.cell 0⟩
      have hll : (Instr.loadAt 26 (.pointer (some ⟨g, 5, none⟩))).run Try.prog wc.drew = .ok (.int .u64 (la : Int)) wc.drew := by
        have c5 := hg9.cell 5
        go_simp
      have HQ : Hid (RoS B0 g mg ⟨n, r, wh, fl, bb, max la xs, fun s => bestF (F s) ⟨xs, xn, xr, xv⟩ s⟩ wE ∧ Outs [g, mg] w wE) := ⟨⟨kgE, hmE, h9.hB, h9.hM, HNN.out.2.2.2⟩, hO9.out.trans ((Outs.of_below ((Below.refl _ wc).drew)).trans (outs_two hgE (.inl rfl)))⟩
      clear h9 kb9 kv9 hO9 hg9 kgE hgE kbd kvd kbE kvE hmd hmE
      go_wp2_with fail
      refine wp_region_held_drew (S := (fun W : World => W.cell? ⟨bx, 0, none⟩ = some (.pointer (some ⟨g, 0, none⟩)) ∧ W.cell? ⟨gv, 0, none⟩ = some (.int .u64 (xs : Int)))) (by kernel_rfl) (SF) (fun hHeld => ?_)
      refine take1 (i := 0) (d := 31) (v := ?_) rfl (by kernel_rfl) (by kernel_rfl) (by kernel_rfl) rfl (fun _ _ _ h => h) (Or.inl ⟨by rfl, ?_⟩) (by assumption) ?_
      rotate_left
      · (intro w hSw; (try dsimp only at hSw); go_simp); with_reducible rfl
      simp only [List.set_cons_zero, List.set_cons_succ]
      refine take1 (i := 1) (d := 32) (v := ?_) rfl (by kernel_rfl) (by kernel_rfl) (by kernel_rfl) rfl (fun _ _ _ h => h) (Or.inl ⟨by rfl, ?_⟩) (by assumption) ?_
      rotate_left
      · (intro w hSw; (try dsimp only at hSw); go_simp); with_reducible rfl
      simp only [List.set_cons_zero, List.set_cons_succ]
      refine take1 (i := 2) (d := 33) (v := ?_) rfl (by kernel_rfl) (by kernel_rfl) (by kernel_rfl) rfl (fun _ _ _ h => h) (Or.inl ⟨by rfl, ?_⟩) (by assumption) ?_
      rotate_left
      · (intro w hSw; (try dsimp only at hSw); go_simp); with_reducible rfl
      simp only [List.set_cons_zero, List.set_cons_succ]
      refine take1 (i := 3) (d := 34) (v := ?_) rfl (by kernel_rfl) (by kernel_rfl) (by kernel_rfl) rfl (fun _ _ _ h => h) (Or.inl ⟨by rfl, ?_⟩) (by assumption) ?_
      rotate_left
      · (intro w hSw; (try dsimp only at hSw); go_simp); with_reducible rfl
      simp only [List.set_cons_zero, List.set_cons_succ]
      refine take1 (i := 5) (d := 36) (v := ?_) rfl (by kernel_rfl) (by kernel_rfl) (by kernel_rfl) rfl (fun _ _ _ h => h) (Or.inl ⟨by rfl, ?_⟩) (by assumption) ?_
      rotate_left
      · (intro w hSw; (try dsimp only at hSw); go_simp); with_reducible rfl
      simp only [List.set_cons_zero, List.set_cons_succ]
      refine take1 (i := 6) (d := 37) (v := ?_) rfl (by kernel_rfl) (by kernel_rfl) (by kernel_rfl) rfl (fun _ _ _ h => h) (Or.inl ⟨by rfl, ?_⟩) (by assumption) ?_
      rotate_left
      · (intro w hSw; (try dsimp only at hSw); go_simp); with_reducible rfl
      simp only [List.set_cons_zero, List.set_cons_succ]
      refine wpAnyH_ready (rs := [4]) (by kernel_rfl) (by simp) (AllReadyH.cons rfl (fun Kreg hKreg => ?_) AllReadyH.nil)
      refine step_load (by rfl) (.tmp 34) (by rfl) (by rfl) hll ?_
      refine hKreg.out _ _ ((by first | exact SF | exact SG)) (fun hHeld => ?_)
      clear hKreg Kreg
      refine wpAnyH_put (d := 35) (by rfl) ?_
      simp only [List.set_cons_zero, List.set_cons_succ]
      refine take1 (i := 7) (d := 38) (v := ?_) rfl (by kernel_rfl) (by kernel_rfl) (by kernel_rfl) rfl (fun _ _ _ h => h) (Or.inl ⟨by rfl, ?_⟩) (by assumption) ?_
      rotate_left
      · (intro w hSw; (try dsimp only at hSw); go_simp); with_reducible rfl
      simp only [List.set_cons_zero, List.set_cons_succ]
      refine take1 (i := 8) (d := 39) (v := ?_) rfl (by kernel_rfl) (by kernel_rfl) (by kernel_rfl) rfl (fun _ _ _ h => h) (Or.inl ⟨by rfl, ?_⟩) (by assumption) ?_
      rotate_left
      · (intro w hSw; (try dsimp only at hSw); go_simp); with_reducible rfl
      simp only [List.set_cons_zero, List.set_cons_succ]
      refine take1 (i := 9) (d := 40) (v := ?_) rfl (by kernel_rfl) (by kernel_rfl) (by kernel_rfl) rfl (fun _ _ _ h => h) (Or.inl ⟨by rfl, ?_⟩) (by assumption) ?_
      rotate_left
      · (intro w hSw; (try dsimp only at hSw); go_simp); with_reducible rfl
      simp only [List.set_cons_zero, List.set_cons_succ]
      refine wpAnyH_ready (rs := [10]) (by kernel_rfl) (by simp) (AllReadyH.cons rfl (fun Kreg hKreg => ?_) AllReadyH.nil)
      refine step_store (by rfl) (.tmp 40) (.tmp 38) (by rfl) (by rfl) (by rfl) hst ?_
      refine hKreg.out _ _ ((by first | exact SF | exact SG)) (fun hHeld => ?_)
      clear hKreg Kreg
      try simp only [Act.put, List.setIfInBounds_toArray, List.set_cons_zero, List.set_cons_succ]
      refine wpAnyH_done (by kernel_rfl) ?_ _
      go_wp2_with fail
      exact bodyPost_end (results_none rfl _ _ _) rfl ⟨rfl, HQ.out.1, HQ.out.2⟩
end Go.Proofs.Ytbamfnlgapchkaa.Ele
