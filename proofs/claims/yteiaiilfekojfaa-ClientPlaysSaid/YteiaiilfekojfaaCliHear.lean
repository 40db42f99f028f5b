/- Package client, walked: Hear, its test. Conditions: the client and the letter are as they may be. -/
import Derived.Test.YteiaiilfekojfaaCliInv
namespace Go.Proofs.Yteiaiilfekojfaa.Cli
open Go.RowKit Wire Cmd

theorem size_reply : (Try.prog.info? 43).map (·.size) = some 2 := by kernel_rfl
set_option linter.unusedSimpArgs false in
set_option maxRecDepth 100000 in
set_option maxHeartbeats 8000000 in
theorem hear_nil (l : Lt) (w : World) : Calls Try.prog 17 #[.pointer none, ltV l] w fun e w' => e = .returned (.tuple #[ltV lt0, .bool false, .agg #[.int .u8 0, .string ⟨#[]⟩], .bool false]) ∧ Below w.heap.size w w' := by
  obtain ⟨ls, ld, lk, lbn, lbr, lba, lsl, lno, lv, lvo, lit, ⟨ya, yb, yk, ys, yt, yu, yz⟩, lco, lte⟩ := l
  unfold ltV
  unfold ltC
  dsimp only
  have kl0 := (Blk.new (w.alloc (.cells #[.int .u8 (ls : Int), .int .u8 (ld : Int), .int .u8 (lk : Int), .int .u64 (lbn : Int), .int .u8 (lbr : Int), .int .u64 (lba : Int), .int .u64 (lsl : Int), .int .u8 (lno : Int), .string ⟨lv.toArray⟩, lvo, lit, .int .u8 (ya : Int), .int .u32 (yb : Int), .int .u8 (yk : Int), .string ⟨ys.toArray⟩, .string ⟨yt.toArray⟩, .string ⟨yu.toArray⟩, .int .u8 (yz : Int), .int .u8 (lco : Int), .string ⟨lte.toArray⟩] 47)) 47 #[.int .u8 0, .int .u8 0, .int .u8 0, .int .u64 0, .int .u8 0, .int .u64 0, .int .u64 0, .int .u8 0, .string ⟨#[]⟩, .slice none 0 0, .slice none 0 0, .int .u8 0, .int .u32 0, .int .u8 0, .string ⟨#[]⟩, .string ⟨#[]⟩, .string ⟨#[]⟩, .int .u8 0, .int .u8 0, .string ⟨#[]⟩]).alloc (.cells #[.int .u8 0, .string ⟨#[]⟩] 43)
  have kr0 := Blk.new ((w.alloc (.cells #[.int .u8 (ls : Int), .int .u8 (ld : Int), .int .u8 (lk : Int), .int .u64 (lbn : Int), .int .u8 (lbr : Int), .int .u64 (lba : Int), .int .u64 (lsl : Int), .int .u8 (lno : Int), .string ⟨lv.toArray⟩, lvo, lit, .int .u8 (ya : Int), .int .u32 (yb : Int), .int .u8 (yk : Int), .string ⟨ys.toArray⟩, .string ⟨yt.toArray⟩, .string ⟨yu.toArray⟩, .int .u8 (yz : Int), .int .u8 (lco : Int), .string ⟨lte.toArray⟩] 47)).alloc (.cells #[.int .u8 0, .int .u8 0, .int .u8 0, .int .u64 0, .int .u8 0, .int .u64 0, .int .u64 0, .int .u8 0, .string ⟨#[]⟩, .slice none 0 0, .slice none 0 0, .int .u8 0, .int .u32 0, .int .u8 0, .string ⟨#[]⟩, .string ⟨#[]⟩, .string ⟨#[]⟩, .int .u8 0, .int .u8 0, .string ⟨#[]⟩] 47)) 43 #[.int .u8 0, .string ⟨#[]⟩]
  have bw0 := (((Below.refl _ w).alloc (Nat.le_refl _) (.cells #[.int .u8 (ls : Int), .int .u8 (ld : Int), .int .u8 (lk : Int), .int .u64 (lbn : Int), .int .u8 (lbr : Int), .int .u64 (lba : Int), .int .u64 (lsl : Int), .int .u8 (lno : Int), .string ⟨lv.toArray⟩, lvo, lit, .int .u8 (ya : Int), .int .u32 (yb : Int), .int .u8 (yk : Int), .string ⟨ys.toArray⟩, .string ⟨yt.toArray⟩, .string ⟨yu.toArray⟩, .int .u8 (yz : Int), .int .u8 (lco : Int), .string ⟨lte.toArray⟩] 47)).alloc (by simp) (.cells #[.int .u8 0, .int .u8 0, .int .u8 0, .int .u64 0, .int .u8 0, .int .u64 0, .int .u64 0, .int .u8 0, .string ⟨#[]⟩, .slice none 0 0, .slice none 0 0, .int .u8 0, .int .u32 0, .int .u8 0, .string ⟨#[]⟩, .string ⟨#[]⟩, .string ⟨#[]⟩, .int .u8 0, .int .u8 0, .string ⟨#[]⟩] 47)).alloc (by simp <;> omega) (.cells #[.int .u8 0, .string ⟨#[]⟩] 43)
  have es : (w.alloc (.cells #[.int .u8 (ls : Int), .int .u8 (ld : Int), .int .u8 (lk : Int), .int .u64 (lbn : Int), .int .u8 (lbr : Int), .int .u64 (lba : Int), .int .u64 (lsl : Int), .int .u8 (lno : Int), .string ⟨lv.toArray⟩, lvo, lit, .int .u8 (ya : Int), .int .u32 (yb : Int), .int .u8 (yk : Int), .string ⟨ys.toArray⟩, .string ⟨yt.toArray⟩, .string ⟨yu.toArray⟩, .int .u8 (yz : Int), .int .u8 (lco : Int), .string ⟨lte.toArray⟩] 47)).heap.size = w.heap.size + 1 := by simp
  have es2 : ((w.alloc (.cells #[.int .u8 (ls : Int), .int .u8 (ld : Int), .int .u8 (lk : Int), .int .u64 (lbn : Int), .int .u8 (lbr : Int), .int .u64 (lba : Int), .int .u64 (lsl : Int), .int .u8 (lno : Int), .string ⟨lv.toArray⟩, lvo, lit, .int .u8 (ya : Int), .int .u32 (yb : Int), .int .u8 (yk : Int), .string ⟨ys.toArray⟩, .string ⟨yt.toArray⟩, .string ⟨yu.toArray⟩, .int .u8 (yz : Int), .int .u8 (lco : Int), .string ⟨lte.toArray⟩] 47)).alloc (.cells #[.int .u8 0, .int .u8 0, .int .u8 0, .int .u64 0, .int .u8 0, .int .u64 0, .int .u64 0, .int .u8 0, .string ⟨#[]⟩, .slice none 0 0, .slice none 0 0, .int .u8 0, .int .u32 0, .int .u8 0, .string ⟨#[]⟩, .string ⟨#[]⟩, .string ⟨#[]⟩, .int .u8 0, .int .u8 0, .string ⟨#[]⟩] 47)).heap.size = w.heap.size + 2 := by simp
  rw [es] at kl0
  rw [es2] at kr0
  go_enter Try.func17, Try.ntmps17
  go_upto_region 1 with fail
  obtain ⟨gl, hgl0⟩ : ∃ gl, gl = w.heap.size + 1 := ⟨_, rfl⟩
  obtain ⟨gr, hgr0⟩ : ∃ gr, gr = w.heap.size + 2 := ⟨_, rfl⟩
  have hwl : w.heap.size ≤ gl := by omega
  have hwr : w.heap.size ≤ gr := by omega
  have hlr : gl ≠ gr := by omega
  rw [← hgl0] at kl0 ⊢
  rw [← hgr0] at kr0 ⊢
  generalize ((w.alloc (.cells #[.int .u8 (ls : Int), .int .u8 (ld : Int), .int .u8 (lk : Int), .int .u64 (lbn : Int), .int .u8 (lbr : Int), .int .u64 (lba : Int), .int .u64 (lsl : Int), .int .u8 (lno : Int), .string ⟨lv.toArray⟩, lvo, lit, .int .u8 (ya : Int), .int .u32 (yb : Int), .int .u8 (yk : Int), .string ⟨ys.toArray⟩, .string ⟨yt.toArray⟩, .string ⟨yu.toArray⟩, .int .u8 (yz : Int), .int .u8 (lco : Int), .string ⟨lte.toArray⟩] 47)).alloc (.cells #[.int .u8 0, .int .u8 0, .int .u8 0, .int .u64 0, .int .u8 0, .int .u64 0, .int .u64 0, .int .u8 0, .string ⟨#[]⟩, .slice none 0 0, .slice none 0 0, .int .u8 0, .int .u32 0, .int .u8 0, .string ⟨#[]⟩, .string ⟨#[]⟩, .string ⟨#[]⟩, .int .u8 0, .int .u8 0, .string ⟨#[]⟩] 47)).alloc (.cells #[.int .u8 0, .string ⟨#[]⟩] 43) = w1 at *
  clear es es2 hgl0 hgr0
  have kl := kl0.drew
  have kr := kr0.drew
  have bw := bw0.drew
  obtain ⟨wA, hstA, kl2, kr2, bw2⟩ : ∃ wA, (Instr.storeAt 47 (.pointer (some ⟨gl, 0, none⟩)) (.agg #[.int .u8 0, .int .u8 0, .int .u8 0, .int .u64 0, .int .u8 0, .int .u64 0, .int .u64 0, .int .u8 0, .string ⟨#[]⟩, .slice none 0 0, .slice none 0 0, .int .u8 0, .int .u32 0, .int .u8 0, .string ⟨#[]⟩, .string ⟨#[]⟩, .string ⟨#[]⟩, .int .u8 0, .int .u8 0, .string ⟨#[]⟩])).run Try.prog w1.drew = .ok () wA ∧ Blk wA gl 47 #[.int .u8 0, .int .u8 0, .int .u8 0, .int .u64 0, .int .u8 0, .int .u64 0, .int .u64 0, .int .u8 0, .string ⟨#[]⟩, .slice none 0 0, .slice none 0 0, .int .u8 0, .int .u32 0, .int .u8 0, .string ⟨#[]⟩, .string ⟨#[]⟩, .string ⟨#[]⟩, .int .u8 0, .int .u8 0, .string ⟨#[]⟩] ∧ Blk wA gr 43 #[.int .u8 0, .string ⟨#[]⟩] ∧ Below w.heap.size w wA :=
    ⟨_, blk_store kl rfl size_lt rfl, kl.setRow, kr.setRowFar (Ne.symm hlr), below_setRow bw hwl⟩
  obtain ⟨wB, hstB, kl3, kr3, bw3⟩ : ∃ wB, (Instr.storeAt 43 (.pointer (some ⟨gr, 0, none⟩)) (.agg #[.int .u8 0, .string ⟨#[]⟩])).run Try.prog wA = .ok () wB ∧ Blk wB gl 47 #[.int .u8 0, .int .u8 0, .int .u8 0, .int .u64 0, .int .u8 0, .int .u64 0, .int .u64 0, .int .u8 0, .string ⟨#[]⟩, .slice none 0 0, .slice none 0 0, .int .u8 0, .int .u32 0, .int .u8 0, .string ⟨#[]⟩, .string ⟨#[]⟩, .string ⟨#[]⟩, .int .u8 0, .int .u8 0, .string ⟨#[]⟩] ∧ Blk wB gr 43 #[.int .u8 0, .string ⟨#[]⟩] ∧ Below w.heap.size w wB :=
    ⟨_, blk_store kr2 rfl size_reply rfl, kl2.setRowFar hlr, kr2.setRow, below_setRow bw2 hwr⟩
  have HL := Lib.hid (blk_loadVar (P := Try.prog) (ty := 47) kl3 Try.underlying47 rfl size_lt)
  have HRp := Lib.hid (blk_loadVar (P := Try.prog) (ty := 43) kr3 Try.underlying43 rfl size_reply)
  have HB := Lib.hid bw3
  clear kl0 kr0 bw0 kl kr bw kl2 kr2 bw2 kl3 kr3 bw3
  refine wp_region_held_drew (S := fun _ : World => True) (by kernel_rfl) (trivial) (fun hHeld => ?_)
  refine take1 (i := 0) (d := 9) (v := ?_) rfl (by kernel_rfl) (by kernel_rfl) (by kernel_rfl) rfl (fun _ _ _ h => h) (Or.inl ⟨by rfl, ?_⟩) (by assumption) ?_
  rotate_left
  · (intro w hSw; (try dsimp only at hSw); go_simp); with_reducible rfl
  simp only [List.set_cons_zero, List.set_cons_succ]
  refine take1 (i := 1) (d := 10) (v := ?_) rfl (by kernel_rfl) (by kernel_rfl) (by kernel_rfl) rfl (fun _ _ _ h => h) (Or.inl ⟨by rfl, ?_⟩) (by assumption) ?_
  rotate_left
  · (intro w hSw; (try dsimp only at hSw); go_simp); with_reducible rfl
  simp only [List.set_cons_zero, List.set_cons_succ]
  refine take1 (i := 2) (d := 11) (v := ?_) rfl (by kernel_rfl) (by kernel_rfl) (by kernel_rfl) rfl (fun _ _ _ h => h) (Or.inl ⟨by rfl, ?_⟩) (by assumption) ?_
  rotate_left
  · (intro w hSw; (try dsimp only at hSw); go_simp); with_reducible rfl
  simp only [List.set_cons_zero, List.set_cons_succ]
  refine take1 (i := 3) (d := 12) (v := undef) rfl (by kernel_rfl) (by kernel_rfl) (by kernel_rfl) rfl (fun _ _ _ h => h) (Or.inr ⟨by rfl, rfl⟩) (by assumption) ?_
  simp only [List.set_cons_zero, List.set_cons_succ]
  refine take1 (i := 4) (d := 13) (v := undef) rfl (by kernel_rfl) (by kernel_rfl) (by kernel_rfl) rfl (fun _ _ _ h => h) (Or.inr ⟨by rfl, rfl⟩) (by assumption) ?_
  simp only [List.set_cons_zero, List.set_cons_succ]
  refine take1 (i := 5) (d := 14) (v := undef) rfl (by kernel_rfl) (by kernel_rfl) (by kernel_rfl) rfl (fun _ _ _ h => h) (Or.inr ⟨by rfl, rfl⟩) (by assumption) ?_
  simp only [List.set_cons_zero, List.set_cons_succ]
  refine take1 (i := 6) (d := 15) (v := undef) rfl (by kernel_rfl) (by kernel_rfl) (by kernel_rfl) rfl (fun _ _ _ h => h) (Or.inr ⟨by rfl, rfl⟩) (by assumption) ?_
  simp only [List.set_cons_zero, List.set_cons_succ]
  refine take1 (i := 7) (d := 16) (v := undef) rfl (by kernel_rfl) (by kernel_rfl) (by kernel_rfl) rfl (fun _ _ _ h => h) (Or.inr ⟨by rfl, rfl⟩) (by assumption) ?_
  simp only [List.set_cons_zero, List.set_cons_succ]
  refine take1 (i := 8) (d := 17) (v := ?_) rfl (by kernel_rfl) (by kernel_rfl) (by kernel_rfl) rfl (fun _ _ _ h => h) (Or.inl ⟨by rfl, ?_⟩) (by assumption) ?_
  rotate_left
  · (intro w hSw; (try dsimp only at hSw); go_simp); with_reducible rfl
  simp only [List.set_cons_zero, List.set_cons_succ]
  refine take1 (i := 9) (d := 18) (v := ?_) rfl (by kernel_rfl) (by kernel_rfl) (by kernel_rfl) rfl (fun _ _ _ h => h) (Or.inl ⟨by rfl, ?_⟩) (by assumption) ?_
  rotate_left
  · (intro w hSw; (try dsimp only at hSw); go_simp); with_reducible rfl
  simp only [List.set_cons_zero, List.set_cons_succ]
  refine take1 (i := 10) (d := 19) (v := undef) rfl (by kernel_rfl) (by kernel_rfl) (by kernel_rfl) rfl (fun _ _ _ h => h) (Or.inr ⟨by rfl, rfl⟩) (by assumption) ?_
  simp only [List.set_cons_zero, List.set_cons_succ]
  refine take1 (i := 11) (d := 20) (v := undef) rfl (by kernel_rfl) (by kernel_rfl) (by kernel_rfl) rfl (fun _ _ _ h => h) (Or.inr ⟨by rfl, rfl⟩) (by assumption) ?_
  simp only [List.set_cons_zero, List.set_cons_succ]
  refine take1 (i := 12) (d := 21) (v := undef) rfl (by kernel_rfl) (by kernel_rfl) (by kernel_rfl) rfl (fun _ _ _ h => h) (Or.inr ⟨by rfl, rfl⟩) (by assumption) ?_
  simp only [List.set_cons_zero, List.set_cons_succ]
  refine take1 (i := 13) (d := 22) (v := undef) rfl (by kernel_rfl) (by kernel_rfl) (by kernel_rfl) rfl (fun _ _ _ h => h) (Or.inr ⟨by rfl, rfl⟩) (by assumption) ?_
  simp only [List.set_cons_zero, List.set_cons_succ]
  refine take1 (i := 14) (d := 23) (v := undef) rfl (by kernel_rfl) (by kernel_rfl) (by kernel_rfl) rfl (fun _ _ _ h => h) (Or.inr ⟨by rfl, rfl⟩) (by assumption) ?_
  simp only [List.set_cons_zero, List.set_cons_succ]
  refine take1 (i := 15) (d := 24) (v := undef) rfl (by kernel_rfl) (by kernel_rfl) (by kernel_rfl) rfl (fun _ _ _ h => h) (Or.inr ⟨by rfl, rfl⟩) (by assumption) ?_
  simp only [List.set_cons_zero, List.set_cons_succ]
  refine take1 (i := 16) (d := 25) (v := undef) rfl (by kernel_rfl) (by kernel_rfl) (by kernel_rfl) rfl (fun _ _ _ h => h) (Or.inr ⟨by rfl, rfl⟩) (by assumption) ?_
  simp only [List.set_cons_zero, List.set_cons_succ]
  refine take1 (i := 17) (d := 26) (v := undef) rfl (by kernel_rfl) (by kernel_rfl) (by kernel_rfl) rfl (fun _ _ _ h => h) (Or.inr ⟨by rfl, rfl⟩) (by assumption) ?_
  simp only [List.set_cons_zero, List.set_cons_succ]
  refine take1 (i := 18) (d := 27) (v := ?_) rfl (by kernel_rfl) (by kernel_rfl) (by kernel_rfl) rfl (fun _ _ _ h => h) (Or.inl ⟨by rfl, ?_⟩) (by assumption) ?_
  rotate_left
  · (intro w hSw; (try dsimp only at hSw); go_simp); with_reducible rfl
  simp only [List.set_cons_zero, List.set_cons_succ]
  refine take1 (i := 19) (d := 28) (v := ?_) rfl (by kernel_rfl) (by kernel_rfl) (by kernel_rfl) rfl (fun _ _ _ h => h) (Or.inl ⟨by rfl, ?_⟩) (by assumption) ?_
  rotate_left
  · (intro w hSw; (try dsimp only at hSw); go_simp); with_reducible rfl
  simp only [List.set_cons_zero, List.set_cons_succ]
  refine take1 (i := 20) (d := 29) (v := undef) rfl (by kernel_rfl) (by kernel_rfl) (by kernel_rfl) rfl (fun _ _ _ h => h) (Or.inr ⟨by rfl, rfl⟩) (by assumption) ?_
  simp only [List.set_cons_zero, List.set_cons_succ]
  refine take1 (i := 21) (d := 30) (v := undef) rfl (by kernel_rfl) (by kernel_rfl) (by kernel_rfl) rfl (fun _ _ _ h => h) (Or.inr ⟨by rfl, rfl⟩) (by assumption) ?_
  simp only [List.set_cons_zero, List.set_cons_succ]
  refine take1 (i := 22) (d := 31) (v := undef) rfl (by kernel_rfl) (by kernel_rfl) (by kernel_rfl) rfl (fun _ _ _ h => h) (Or.inr ⟨by rfl, rfl⟩) (by assumption) ?_
  simp only [List.set_cons_zero, List.set_cons_succ]
  refine take1 (i := 23) (d := 32) (v := undef) rfl (by kernel_rfl) (by kernel_rfl) (by kernel_rfl) rfl (fun _ _ _ h => h) (Or.inr ⟨by rfl, rfl⟩) (by assumption) ?_
  simp only [List.set_cons_zero, List.set_cons_succ]
  refine take1 (i := 24) (d := 33) (v := undef) rfl (by kernel_rfl) (by kernel_rfl) (by kernel_rfl) rfl (fun _ _ _ h => h) (Or.inr ⟨by rfl, rfl⟩) (by assumption) ?_
  simp only [List.set_cons_zero, List.set_cons_succ]
  refine take1 (i := 25) (d := 34) (v := undef) rfl (by kernel_rfl) (by kernel_rfl) (by kernel_rfl) rfl (fun _ _ _ h => h) (Or.inr ⟨by rfl, rfl⟩) (by assumption) ?_
  simp only [List.set_cons_zero, List.set_cons_succ]
  refine take1 (i := 26) (d := 35) (v := undef) rfl (by kernel_rfl) (by kernel_rfl) (by kernel_rfl) rfl (fun _ _ _ h => h) (Or.inr ⟨by rfl, rfl⟩) (by assumption) ?_
  simp only [List.set_cons_zero, List.set_cons_succ]
  refine take1 (i := 27) (d := 36) (v := undef) rfl (by kernel_rfl) (by kernel_rfl) (by kernel_rfl) rfl (fun _ _ _ h => h) (Or.inr ⟨by rfl, rfl⟩) (by assumption) ?_
  simp only [List.set_cons_zero, List.set_cons_succ]
  refine take1 (i := 28) (d := 37) (v := ?_) rfl (by kernel_rfl) (by kernel_rfl) (by kernel_rfl) rfl (fun _ _ _ h => h) (Or.inl ⟨by rfl, ?_⟩) (by assumption) ?_
  rotate_left
  · (intro w hSw; (try dsimp only at hSw); go_simp); with_reducible rfl
  simp only [List.set_cons_zero, List.set_cons_succ]
  refine take1 (i := 29) (d := 38) (v := ?_) rfl (by kernel_rfl) (by kernel_rfl) (by kernel_rfl) rfl (fun _ _ _ h => h) (Or.inl ⟨by rfl, ?_⟩) (by assumption) ?_
  rotate_left
  · (intro w hSw; (try dsimp only at hSw); go_simp); with_reducible rfl
  simp only [List.set_cons_zero, List.set_cons_succ]
  refine take1 (i := 30) (d := 39) (v := undef) rfl (by kernel_rfl) (by kernel_rfl) (by kernel_rfl) rfl (fun _ _ _ h => h) (Or.inr ⟨by rfl, rfl⟩) (by assumption) ?_
  simp only [List.set_cons_zero, List.set_cons_succ]
  refine take1 (i := 31) (d := 40) (v := undef) rfl (by kernel_rfl) (by kernel_rfl) (by kernel_rfl) rfl (fun _ _ _ h => h) (Or.inr ⟨by rfl, rfl⟩) (by assumption) ?_
  simp only [List.set_cons_zero, List.set_cons_succ]
  refine take1 (i := 32) (d := 41) (v := undef) rfl (by kernel_rfl) (by kernel_rfl) (by kernel_rfl) rfl (fun _ _ _ h => h) (Or.inr ⟨by rfl, rfl⟩) (by assumption) ?_
  simp only [List.set_cons_zero, List.set_cons_succ]
  refine take1 (i := 33) (d := 42) (v := undef) rfl (by kernel_rfl) (by kernel_rfl) (by kernel_rfl) rfl (fun _ _ _ h => h) (Or.inr ⟨by rfl, rfl⟩) (by assumption) ?_
  simp only [List.set_cons_zero, List.set_cons_succ]
  refine take1 (i := 34) (d := 43) (v := undef) rfl (by kernel_rfl) (by kernel_rfl) (by kernel_rfl) rfl (fun _ _ _ h => h) (Or.inr ⟨by rfl, rfl⟩) (by assumption) ?_
  simp only [List.set_cons_zero, List.set_cons_succ]
  refine take1 (i := 35) (d := 44) (v := undef) rfl (by kernel_rfl) (by kernel_rfl) (by kernel_rfl) rfl (fun _ _ _ h => h) (Or.inr ⟨by rfl, rfl⟩) (by assumption) ?_
  simp only [List.set_cons_zero, List.set_cons_succ]
  refine take1 (i := 36) (d := 45) (v := undef) rfl (by kernel_rfl) (by kernel_rfl) (by kernel_rfl) rfl (fun _ _ _ h => h) (Or.inr ⟨by rfl, rfl⟩) (by assumption) ?_
  simp only [List.set_cons_zero, List.set_cons_succ]
  refine take1 (i := 37) (d := 46) (v := undef) rfl (by kernel_rfl) (by kernel_rfl) (by kernel_rfl) rfl (fun _ _ _ h => h) (Or.inr ⟨by rfl, rfl⟩) (by assumption) ?_
  simp only [List.set_cons_zero, List.set_cons_succ]
  refine take1 (i := 38) (d := 47) (v := undef) rfl (by kernel_rfl) (by kernel_rfl) (by kernel_rfl) rfl (fun _ _ _ h => h) (Or.inr ⟨by rfl, rfl⟩) (by assumption) ?_
  simp only [List.set_cons_zero, List.set_cons_succ]
  refine take1 (i := 39) (d := 48) (v := undef) rfl (by kernel_rfl) (by kernel_rfl) (by kernel_rfl) rfl (fun _ _ _ h => h) (Or.inr ⟨by rfl, rfl⟩) (by assumption) ?_
  simp only [List.set_cons_zero, List.set_cons_succ]
  refine take1 (i := 40) (d := 49) (v := ?_) rfl (by kernel_rfl) (by kernel_rfl) (by kernel_rfl) rfl (fun _ _ _ h => h) (Or.inl ⟨by rfl, ?_⟩) (by assumption) ?_
  rotate_left
  · (intro w hSw; (try dsimp only at hSw); go_simp); with_reducible rfl
  simp only [List.set_cons_zero, List.set_cons_succ]
  refine wpAnyH_done (by kernel_rfl) ?_ _
  go_wp2_with (first | refine wpList_store (by rfl) (.tmp 4) (.tmp 50) (by rfl) (by rfl) (by rfl) hstA ?_ | refine wpList_store (by rfl) (.tmp 6) (.tmp 51) (by rfl) (by rfl) (by rfl) hstB ?_)
  exact bodyPost_ret (v := .tuple #[.agg #[.int .u8 0, .int .u8 0, .int .u8 0, .int .u64 0, .int .u8 0, .int .u64 0, .int .u64 0, .int .u8 0, .string ⟨#[]⟩, .slice none 0 0, .slice none 0 0, .int .u8 0, .int .u32 0, .int .u8 0, .string ⟨#[]⟩, .string ⟨#[]⟩, .string ⟨#[]⟩, .int .u8 0, .int .u8 0, .string ⟨#[]⟩], .bool false, .agg #[.int .u8 0, .string ⟨#[]⟩], .bool false]) (by simp [results, Try.results17, asAddr, HL.out, HRp.out]) rfl ⟨rfl, HB.out⟩
set_option linter.unusedSimpArgs false in
set_option maxRecDepth 100000 in
set_option maxHeartbeats 16000000 in
theorem hear_any (g : Nat) (x : Cl) (hf : x.Fits) (l : Lt) (hl : l.Fits) (w : World) (h : ClAt w g x) : Calls Try.prog 17 #[.pointer (some ⟨g, 0, none⟩), ltV l] w fun e w' => e = .returned (.tuple #[ltV (hearC x l).2.1, .bool (hearC x l).2.2.1, .agg #[.int .u8 ((hearC x l).2.2.2.1.1 : Int), .string ⟨(hearC x l).2.2.2.1.2.toArray⟩], .bool (hearC x l).2.2.2.2]) ∧ ClGo w g (hearC x l).1 w' := by
  obtain ⟨h1, h2, h3, h4, h5, h6⟩ := hf
  obtain ⟨m1, m2, m3, m4, m5, m6, m7, m8⟩ := hl
  have hlt := Blk.lt h
  have HA := Lib.hid (fun (y : Cl) (hy : y.id < 4) W (hW : ClAt W g y) => ask_any g y hy W hW)
  obtain ⟨r, hr⟩ : ∃ r, r = hearC x l := ⟨_, rfl⟩
  rw [← hr]
  unfold hearC at hr
  obtain ⟨fb, hfb⟩ : ∃ fb, fb = forB x l := ⟨_, rfl⟩
  rw [← hfb] at hr
  unfold forB at hfb
  obtain ⟨id, n, node, seq, ⟨xa, xb, xk, xs, xt, xu, xz⟩, wt⟩ := x
  obtain ⟨ls, ld, lk, lbn, lbr, lba, lsl, lno, lv, lvo, lit, ⟨ya, yb, yk, ys, yt, yu, yz⟩, lco, lte⟩ := l
  dsimp only at hfb hr
  have HFB := Lib.hid hfb
  have HR := Lib.hid hr
  unfold ltV
  unfold ClAt clC at h
  unfold ltC
  dsimp only at h h1 h2 h3 h4 h5 h6 m1 m2 m3 m4 m5 m6 m7 m8 ⊢
  clear hr hfb m5 m7 m8 h6
  have kb0 := ((Blk.new w 47 #[.int .u8 (ls : Int), .int .u8 (ld : Int), .int .u8 (lk : Int), .int .u64 (lbn : Int), .int .u8 (lbr : Int), .int .u64 (lba : Int), .int .u64 (lsl : Int), .int .u8 (lno : Int), .string ⟨lv.toArray⟩, lvo, lit, .int .u8 (ya : Int), .int .u32 (yb : Int), .int .u8 (yk : Int), .string ⟨ys.toArray⟩, .string ⟨yt.toArray⟩, .string ⟨yu.toArray⟩, .int .u8 (yz : Int), .int .u8 (lco : Int), .string ⟨lte.toArray⟩]).alloc (.cells #[.int .u8 0, .int .u8 0, .int .u8 0, .int .u64 0, .int .u8 0, .int .u64 0, .int .u64 0, .int .u8 0, .string ⟨#[]⟩, .slice none 0 0, .slice none 0 0, .int .u8 0, .int .u32 0, .int .u8 0, .string ⟨#[]⟩, .string ⟨#[]⟩, .string ⟨#[]⟩, .int .u8 0, .int .u8 0, .string ⟨#[]⟩] 47)).alloc (.cells #[.int .u8 0, .string ⟨#[]⟩] 43)
  have kl0 := (Blk.new (w.alloc (.cells #[.int .u8 (ls : Int), .int .u8 (ld : Int), .int .u8 (lk : Int), .int .u64 (lbn : Int), .int .u8 (lbr : Int), .int .u64 (lba : Int), .int .u64 (lsl : Int), .int .u8 (lno : Int), .string ⟨lv.toArray⟩, lvo, lit, .int .u8 (ya : Int), .int .u32 (yb : Int), .int .u8 (yk : Int), .string ⟨ys.toArray⟩, .string ⟨yt.toArray⟩, .string ⟨yu.toArray⟩, .int .u8 (yz : Int), .int .u8 (lco : Int), .string ⟨lte.toArray⟩] 47)) 47 #[.int .u8 0, .int .u8 0, .int .u8 0, .int .u64 0, .int .u8 0, .int .u64 0, .int .u64 0, .int .u8 0, .string ⟨#[]⟩, .slice none 0 0, .slice none 0 0, .int .u8 0, .int .u32 0, .int .u8 0, .string ⟨#[]⟩, .string ⟨#[]⟩, .string ⟨#[]⟩, .int .u8 0, .int .u8 0, .string ⟨#[]⟩]).alloc (.cells #[.int .u8 0, .string ⟨#[]⟩] 43)
  have kr0 := Blk.new ((w.alloc (.cells #[.int .u8 (ls : Int), .int .u8 (ld : Int), .int .u8 (lk : Int), .int .u64 (lbn : Int), .int .u8 (lbr : Int), .int .u64 (lba : Int), .int .u64 (lsl : Int), .int .u8 (lno : Int), .string ⟨lv.toArray⟩, lvo, lit, .int .u8 (ya : Int), .int .u32 (yb : Int), .int .u8 (yk : Int), .string ⟨ys.toArray⟩, .string ⟨yt.toArray⟩, .string ⟨yu.toArray⟩, .int .u8 (yz : Int), .int .u8 (lco : Int), .string ⟨lte.toArray⟩] 47)).alloc (.cells #[.int .u8 0, .int .u8 0, .int .u8 0, .int .u64 0, .int .u8 0, .int .u64 0, .int .u64 0, .int .u8 0, .string ⟨#[]⟩, .slice none 0 0, .slice none 0 0, .int .u8 0, .int .u32 0, .int .u8 0, .string ⟨#[]⟩, .string ⟨#[]⟩, .string ⟨#[]⟩, .int .u8 0, .int .u8 0, .string ⟨#[]⟩] 47)) 43 #[.int .u8 0, .string ⟨#[]⟩]
  have hg0 := ((h.alloc (.cells #[.int .u8 (ls : Int), .int .u8 (ld : Int), .int .u8 (lk : Int), .int .u64 (lbn : Int), .int .u8 (lbr : Int), .int .u64 (lba : Int), .int .u64 (lsl : Int), .int .u8 (lno : Int), .string ⟨lv.toArray⟩, lvo, lit, .int .u8 (ya : Int), .int .u32 (yb : Int), .int .u8 (yk : Int), .string ⟨ys.toArray⟩, .string ⟨yt.toArray⟩, .string ⟨yu.toArray⟩, .int .u8 (yz : Int), .int .u8 (lco : Int), .string ⟨lte.toArray⟩] 47)).alloc (.cells #[.int .u8 0, .int .u8 0, .int .u8 0, .int .u64 0, .int .u8 0, .int .u64 0, .int .u64 0, .int .u8 0, .string ⟨#[]⟩, .slice none 0 0, .slice none 0 0, .int .u8 0, .int .u32 0, .int .u8 0, .string ⟨#[]⟩, .string ⟨#[]⟩, .string ⟨#[]⟩, .int .u8 0, .int .u8 0, .string ⟨#[]⟩] 47)).alloc (.cells #[.int .u8 0, .string ⟨#[]⟩] 43)
  have bw0 : w.grownBy (((w.alloc (.cells #[.int .u8 (ls : Int), .int .u8 (ld : Int), .int .u8 (lk : Int), .int .u64 (lbn : Int), .int .u8 (lbr : Int), .int .u64 (lba : Int), .int .u64 (lsl : Int), .int .u8 (lno : Int), .string ⟨lv.toArray⟩, lvo, lit, .int .u8 (ya : Int), .int .u32 (yb : Int), .int .u8 (yk : Int), .string ⟨ys.toArray⟩, .string ⟨yt.toArray⟩, .string ⟨yu.toArray⟩, .int .u8 (yz : Int), .int .u8 (lco : Int), .string ⟨lte.toArray⟩] 47)).alloc (.cells #[.int .u8 0, .int .u8 0, .int .u8 0, .int .u64 0, .int .u8 0, .int .u64 0, .int .u64 0, .int .u8 0, .string ⟨#[]⟩, .slice none 0 0, .slice none 0 0, .int .u8 0, .int .u32 0, .int .u8 0, .string ⟨#[]⟩, .string ⟨#[]⟩, .string ⟨#[]⟩, .int .u8 0, .int .u8 0, .string ⟨#[]⟩] 47)).alloc (.cells #[.int .u8 0, .string ⟨#[]⟩] 43)) (some g) := only_alloc (only_alloc (only_alloc (World.grownBy.refl w _) _) _) _
  have es : (w.alloc (.cells #[.int .u8 (ls : Int), .int .u8 (ld : Int), .int .u8 (lk : Int), .int .u64 (lbn : Int), .int .u8 (lbr : Int), .int .u64 (lba : Int), .int .u64 (lsl : Int), .int .u8 (lno : Int), .string ⟨lv.toArray⟩, lvo, lit, .int .u8 (ya : Int), .int .u32 (yb : Int), .int .u8 (yk : Int), .string ⟨ys.toArray⟩, .string ⟨yt.toArray⟩, .string ⟨yu.toArray⟩, .int .u8 (yz : Int), .int .u8 (lco : Int), .string ⟨lte.toArray⟩] 47)).heap.size = w.heap.size + 1 := by simp
  have es2 : ((w.alloc (.cells #[.int .u8 (ls : Int), .int .u8 (ld : Int), .int .u8 (lk : Int), .int .u64 (lbn : Int), .int .u8 (lbr : Int), .int .u64 (lba : Int), .int .u64 (lsl : Int), .int .u8 (lno : Int), .string ⟨lv.toArray⟩, lvo, lit, .int .u8 (ya : Int), .int .u32 (yb : Int), .int .u8 (yk : Int), .string ⟨ys.toArray⟩, .string ⟨yt.toArray⟩, .string ⟨yu.toArray⟩, .int .u8 (yz : Int), .int .u8 (lco : Int), .string ⟨lte.toArray⟩] 47)).alloc (.cells #[.int .u8 0, .int .u8 0, .int .u8 0, .int .u64 0, .int .u8 0, .int .u64 0, .int .u64 0, .int .u8 0, .string ⟨#[]⟩, .slice none 0 0, .slice none 0 0, .int .u8 0, .int .u32 0, .int .u8 0, .string ⟨#[]⟩, .string ⟨#[]⟩, .string ⟨#[]⟩, .int .u8 0, .int .u8 0, .string ⟨#[]⟩] 47)).heap.size = w.heap.size + 2 := by simp
  rw [es] at kl0
  rw [es2] at kr0
  go_enter Try.func17, Try.ntmps17
  go_upto_region 1 with fail
  obtain ⟨gl, hgl0⟩ : ∃ gl, gl = w.heap.size + 1 := ⟨_, rfl⟩
  obtain ⟨gr, hgr0⟩ : ∃ gr, gr = w.heap.size + 2 := ⟨_, rfl⟩
  obtain ⟨gb, hgb0⟩ : ∃ gb, gb = w.heap.size := ⟨_, rfl⟩
  have hwl : w.heap.size ≤ gl := by omega
  have hwr : w.heap.size ≤ gr := by omega
  have hlr : gl ≠ gr := by omega
  have hbl : gb ≠ gl := by omega
  have hbr : gb ≠ gr := by omega
  have hgb : g ≠ gb := by omega
  have hgl : g ≠ gl := by omega
  have hgr : g ≠ gr := by omega
  rw [← hgl0] at kl0 ⊢
  rw [← hgr0] at kr0 ⊢
  rw [← hgb0] at kb0 ⊢
  generalize ((w.alloc (.cells #[.int .u8 (ls : Int), .int .u8 (ld : Int), .int .u8 (lk : Int), .int .u64 (lbn : Int), .int .u8 (lbr : Int), .int .u64 (lba : Int), .int .u64 (lsl : Int), .int .u8 (lno : Int), .string ⟨lv.toArray⟩, lvo, lit, .int .u8 (ya : Int), .int .u32 (yb : Int), .int .u8 (yk : Int), .string ⟨ys.toArray⟩, .string ⟨yt.toArray⟩, .string ⟨yu.toArray⟩, .int .u8 (yz : Int), .int .u8 (lco : Int), .string ⟨lte.toArray⟩] 47)).alloc (.cells #[.int .u8 0, .int .u8 0, .int .u8 0, .int .u64 0, .int .u8 0, .int .u64 0, .int .u64 0, .int .u8 0, .string ⟨#[]⟩, .slice none 0 0, .slice none 0 0, .int .u8 0, .int .u32 0, .int .u8 0, .string ⟨#[]⟩, .string ⟨#[]⟩, .string ⟨#[]⟩, .int .u8 0, .int .u8 0, .string ⟨#[]⟩] 47)).alloc (.cells #[.int .u8 0, .string ⟨#[]⟩] 43) = w1 at *
  clear es es2 hgl0 hgr0 hgb0 h
  have hw8 : IntKind.u8.wrap (16 + (id : Int)) = 16 + (id : Int) := by rw [IntKind.wrap_u8]; omega
  have hw9 : IntKind.i64.wrap (ls : Int) = (ls : Int) := by rw [IntKind.wrap_i64]; omega
  have hgd := hg0.drew
  have kbd := kb0.drew
  go_cut [49] (fun v wx => v = .bool (!fb) ∧ Below w1.heap.size w1 wx)
  case first =>
    clear kl0 kr0 hg0 bw0 kb0 HA HR
    cases wt
    · obtain rfl : fb = false := HFB.out
      clear HFB
      -- [[
      refine wp_region_held_drew (S := fun W : World => W.cell? ⟨g, 0, none⟩ = some (.int .u8 (id : Int)) ∧ W.cell? ⟨g, 1, none⟩ = some (.int .i64 (n : Int)) ∧ W.cell? ⟨g, 4, none⟩ = some (.int .u8 (xa : Int)) ∧ W.cell? ⟨g, 5, none⟩ = some (.int .u32 (xb : Int)) ∧ W.cell? ⟨g, 6, none⟩ = some (.int .u8 (xk : Int)) ∧ W.cell? ⟨g, 7, none⟩ = some (.string ⟨xs.toArray⟩) ∧ W.cell? ⟨g, 8, none⟩ = some (.string ⟨xt.toArray⟩) ∧ W.cell? ⟨g, 9, none⟩ = some (.string ⟨xu.toArray⟩) ∧ W.cell? ⟨g, 10, none⟩ = some (.int .u8 (xz : Int)) ∧ W.cell? ⟨g, 11, none⟩ = some (.bool false) ∧ W.cell? ⟨gb, 0, none⟩ = some (.int .u8 (ls : Int)) ∧ W.cell? ⟨gb, 1, none⟩ = some (.int .u8 (ld : Int)) ∧ W.cell? ⟨gb, 11, none⟩ = some (.int .u8 (ya : Int)) ∧ W.cell? ⟨gb, 12, none⟩ = some (.int .u32 (yb : Int)) ∧ W.cell? ⟨gb, 13, none⟩ = some (.int .u8 (yk : Int)) ∧ W.cell? ⟨gb, 14, none⟩ = some (.string ⟨ys.toArray⟩) ∧ W.cell? ⟨gb, 15, none⟩ = some (.string ⟨yt.toArray⟩) ∧ W.cell? ⟨gb, 16, none⟩ = some (.string ⟨yu.toArray⟩) ∧ W.cell? ⟨gb, 17, none⟩ = some (.int .u8 (yz : Int))) (by kernel_rfl) (⟨hgd.cell 0, hgd.cell 1, hgd.cell 4, hgd.cell 5, hgd.cell 6, hgd.cell 7, hgd.cell 8, hgd.cell 9, hgd.cell 10, hgd.cell 11, kbd.cell 0, kbd.cell 1, kbd.cell 11, kbd.cell 12, kbd.cell 13, kbd.cell 14, kbd.cell 15, kbd.cell 16, kbd.cell 17⟩) (fun hHeld => ?_)
      refine take1 (i := 0) (d := 9) (v := ?_) rfl (by kernel_rfl) (by kernel_rfl) (by kernel_rfl) rfl (fun _ _ _ h => h) (Or.inl ⟨by rfl, ?_⟩) (by assumption) ?_
      rotate_left
      · (intro w hSw; (try dsimp only at hSw); go_simp); with_reducible rfl
      simp only [List.set_cons_zero, List.set_cons_succ]
      refine take1 (i := 1) (d := 10) (v := ?_) rfl (by kernel_rfl) (by kernel_rfl) (by kernel_rfl) rfl (fun _ _ _ h => h) (Or.inl ⟨by rfl, ?_⟩) (by assumption) ?_
      rotate_left
      · (intro w hSw; (try dsimp only at hSw); go_simp); with_reducible rfl
      simp only [List.set_cons_zero, List.set_cons_succ]
      refine take1 (i := 2) (d := 11) (v := ?_) rfl (by kernel_rfl) (by kernel_rfl) (by kernel_rfl) rfl (fun _ _ _ h => h) (Or.inl ⟨by rfl, ?_⟩) (by assumption) ?_
      rotate_left
      · (intro w hSw; (try dsimp only at hSw); go_simp); with_reducible rfl
      simp only [List.set_cons_zero, List.set_cons_succ]
      refine take1 (i := 3) (d := 12) (v := ?_) rfl (by kernel_rfl) (by kernel_rfl) (by kernel_rfl) rfl (fun _ _ _ h => h) (Or.inl ⟨by rfl, ?_⟩) (by assumption) ?_
      rotate_left
      · (intro w hSw; (try dsimp only at hSw); go_simp); with_reducible rfl
      simp only [List.set_cons_zero, List.set_cons_succ]
      refine take1 (i := 4) (d := 13) (v := ?_) rfl (by kernel_rfl) (by kernel_rfl) (by kernel_rfl) rfl (fun _ _ _ h => h) (Or.inl ⟨by rfl, ?_⟩) (by assumption) ?_
      rotate_left
      · (intro w hSw; (try dsimp only at hSw); go_simp); with_reducible rfl
      simp only [List.set_cons_zero, List.set_cons_succ]
      refine take1 (i := 5) (d := 14) (v := ?_) rfl (by kernel_rfl) (by kernel_rfl) (by kernel_rfl) rfl (fun _ _ _ h => h) (Or.inl ⟨by rfl, ?_⟩) (by assumption) ?_
      rotate_left
      · (intro w hSw; (try dsimp only at hSw); go_simp); with_reducible rfl
      simp only [List.set_cons_zero, List.set_cons_succ]
      refine take1 (i := 6) (d := 15) (v := ?_) rfl (by kernel_rfl) (by kernel_rfl) (by kernel_rfl) rfl (fun _ _ _ h => h) (Or.inl ⟨by rfl, ?_⟩) (by assumption) ?_
      rotate_left
      · (intro w hSw; (try dsimp only at hSw); go_simp); with_reducible rfl
      simp only [List.set_cons_zero, List.set_cons_succ]
      refine take1 (i := 7) (d := 16) (v := ?_) rfl (by kernel_rfl) (by kernel_rfl) (by kernel_rfl) rfl (fun _ _ _ h => h) (Or.inl ⟨by rfl, ?_⟩) (by assumption) ?_
      rotate_left
      · (intro w hSw; (try dsimp only at hSw); go_simp); with_reducible rfl
      simp only [List.set_cons_zero, List.set_cons_succ]
      refine take1 (i := 8) (d := 17) (v := ?_) rfl (by kernel_rfl) (by kernel_rfl) (by kernel_rfl) rfl (fun _ _ _ h => h) (Or.inl ⟨by rfl, ?_⟩) (by assumption) ?_
      rotate_left
      · (intro w hSw; (try dsimp only at hSw); go_simp); with_reducible rfl
      simp only [List.set_cons_zero, List.set_cons_succ]
      refine take1 (i := 9) (d := 18) (v := ?_) rfl (by kernel_rfl) (by kernel_rfl) (by kernel_rfl) rfl (fun _ _ _ h => h) (Or.inl ⟨by rfl, ?_⟩) (by assumption) ?_
      rotate_left
      · (intro w hSw; (try dsimp only at hSw); go_simp); with_reducible rfl
      simp only [List.set_cons_zero, List.set_cons_succ]
      refine take1 (i := 10) (d := 19) (v := undef) rfl (by kernel_rfl) (by kernel_rfl) (by kernel_rfl) rfl (fun _ _ _ h => h) (Or.inr ⟨by rfl, rfl⟩) (by assumption) ?_
      simp only [List.set_cons_zero, List.set_cons_succ]
      refine take1 (i := 11) (d := 20) (v := undef) rfl (by kernel_rfl) (by kernel_rfl) (by kernel_rfl) rfl (fun _ _ _ h => h) (Or.inr ⟨by rfl, rfl⟩) (by assumption) ?_
      simp only [List.set_cons_zero, List.set_cons_succ]
      refine take1 (i := 12) (d := 21) (v := undef) rfl (by kernel_rfl) (by kernel_rfl) (by kernel_rfl) rfl (fun _ _ _ h => h) (Or.inr ⟨by rfl, rfl⟩) (by assumption) ?_
      simp only [List.set_cons_zero, List.set_cons_succ]
      refine take1 (i := 13) (d := 22) (v := undef) rfl (by kernel_rfl) (by kernel_rfl) (by kernel_rfl) rfl (fun _ _ _ h => h) (Or.inr ⟨by rfl, rfl⟩) (by assumption) ?_
      simp only [List.set_cons_zero, List.set_cons_succ]
      refine take1 (i := 14) (d := 23) (v := undef) rfl (by kernel_rfl) (by kernel_rfl) (by kernel_rfl) rfl (fun _ _ _ h => h) (Or.inr ⟨by rfl, rfl⟩) (by assumption) ?_
      simp only [List.set_cons_zero, List.set_cons_succ]
      refine take1 (i := 15) (d := 24) (v := undef) rfl (by kernel_rfl) (by kernel_rfl) (by kernel_rfl) rfl (fun _ _ _ h => h) (Or.inr ⟨by rfl, rfl⟩) (by assumption) ?_
      simp only [List.set_cons_zero, List.set_cons_succ]
      refine take1 (i := 16) (d := 25) (v := undef) rfl (by kernel_rfl) (by kernel_rfl) (by kernel_rfl) rfl (fun _ _ _ h => h) (Or.inr ⟨by rfl, rfl⟩) (by assumption) ?_
      simp only [List.set_cons_zero, List.set_cons_succ]
      refine take1 (i := 17) (d := 26) (v := undef) rfl (by kernel_rfl) (by kernel_rfl) (by kernel_rfl) rfl (fun _ _ _ h => h) (Or.inr ⟨by rfl, rfl⟩) (by assumption) ?_
      simp only [List.set_cons_zero, List.set_cons_succ]
      refine take1 (i := 18) (d := 27) (v := ?_) rfl (by kernel_rfl) (by kernel_rfl) (by kernel_rfl) rfl (fun _ _ _ h => h) (Or.inl ⟨by rfl, ?_⟩) (by assumption) ?_
      rotate_left
      · (intro w hSw; (try dsimp only at hSw); go_simp); with_reducible rfl
      simp only [List.set_cons_zero, List.set_cons_succ]
      refine take1 (i := 19) (d := 28) (v := ?_) rfl (by kernel_rfl) (by kernel_rfl) (by kernel_rfl) rfl (fun _ _ _ h => h) (Or.inl ⟨by rfl, ?_⟩) (by assumption) ?_
      rotate_left
      · (intro w hSw; (try dsimp only at hSw); go_simp); with_reducible rfl
      simp only [List.set_cons_zero, List.set_cons_succ]
      refine take1 (i := 20) (d := 29) (v := undef) rfl (by kernel_rfl) (by kernel_rfl) (by kernel_rfl) rfl (fun _ _ _ h => h) (Or.inr ⟨by rfl, rfl⟩) (by assumption) ?_
      simp only [List.set_cons_zero, List.set_cons_succ]
      refine take1 (i := 21) (d := 30) (v := undef) rfl (by kernel_rfl) (by kernel_rfl) (by kernel_rfl) rfl (fun _ _ _ h => h) (Or.inr ⟨by rfl, rfl⟩) (by assumption) ?_
      simp only [List.set_cons_zero, List.set_cons_succ]
      refine take1 (i := 22) (d := 31) (v := undef) rfl (by kernel_rfl) (by kernel_rfl) (by kernel_rfl) rfl (fun _ _ _ h => h) (Or.inr ⟨by rfl, rfl⟩) (by assumption) ?_
      simp only [List.set_cons_zero, List.set_cons_succ]
      refine take1 (i := 23) (d := 32) (v := undef) rfl (by kernel_rfl) (by kernel_rfl) (by kernel_rfl) rfl (fun _ _ _ h => h) (Or.inr ⟨by rfl, rfl⟩) (by assumption) ?_
      simp only [List.set_cons_zero, List.set_cons_succ]
      refine take1 (i := 24) (d := 33) (v := undef) rfl (by kernel_rfl) (by kernel_rfl) (by kernel_rfl) rfl (fun _ _ _ h => h) (Or.inr ⟨by rfl, rfl⟩) (by assumption) ?_
      simp only [List.set_cons_zero, List.set_cons_succ]
      refine take1 (i := 25) (d := 34) (v := undef) rfl (by kernel_rfl) (by kernel_rfl) (by kernel_rfl) rfl (fun _ _ _ h => h) (Or.inr ⟨by rfl, rfl⟩) (by assumption) ?_
      simp only [List.set_cons_zero, List.set_cons_succ]
      refine take1 (i := 26) (d := 35) (v := undef) rfl (by kernel_rfl) (by kernel_rfl) (by kernel_rfl) rfl (fun _ _ _ h => h) (Or.inr ⟨by rfl, rfl⟩) (by assumption) ?_
      simp only [List.set_cons_zero, List.set_cons_succ]
      refine take1 (i := 27) (d := 36) (v := undef) rfl (by kernel_rfl) (by kernel_rfl) (by kernel_rfl) rfl (fun _ _ _ h => h) (Or.inr ⟨by rfl, rfl⟩) (by assumption) ?_
      simp only [List.set_cons_zero, List.set_cons_succ]
      refine take1 (i := 28) (d := 37) (v := ?_) rfl (by kernel_rfl) (by kernel_rfl) (by kernel_rfl) rfl (fun _ _ _ h => h) (Or.inl ⟨by rfl, ?_⟩) (by assumption) ?_
      rotate_left
      · (intro w hSw; (try dsimp only at hSw); go_simp); with_reducible rfl
      simp only [List.set_cons_zero, List.set_cons_succ]
      refine take1 (i := 29) (d := 38) (v := ?_) rfl (by kernel_rfl) (by kernel_rfl) (by kernel_rfl) rfl (fun _ _ _ h => h) (Or.inl ⟨by rfl, ?_⟩) (by assumption) ?_
      rotate_left
      · (intro w hSw; (try dsimp only at hSw); go_simp); with_reducible rfl
      simp only [List.set_cons_zero, List.set_cons_succ]
      refine take1 (i := 30) (d := 39) (v := undef) rfl (by kernel_rfl) (by kernel_rfl) (by kernel_rfl) rfl (fun _ _ _ h => h) (Or.inr ⟨by rfl, rfl⟩) (by assumption) ?_
      simp only [List.set_cons_zero, List.set_cons_succ]
      refine take1 (i := 31) (d := 40) (v := undef) rfl (by kernel_rfl) (by kernel_rfl) (by kernel_rfl) rfl (fun _ _ _ h => h) (Or.inr ⟨by rfl, rfl⟩) (by assumption) ?_
      simp only [List.set_cons_zero, List.set_cons_succ]
      refine take1 (i := 32) (d := 41) (v := undef) rfl (by kernel_rfl) (by kernel_rfl) (by kernel_rfl) rfl (fun _ _ _ h => h) (Or.inr ⟨by rfl, rfl⟩) (by assumption) ?_
      simp only [List.set_cons_zero, List.set_cons_succ]
      refine take1 (i := 33) (d := 42) (v := undef) rfl (by kernel_rfl) (by kernel_rfl) (by kernel_rfl) rfl (fun _ _ _ h => h) (Or.inr ⟨by rfl, rfl⟩) (by assumption) ?_
      simp only [List.set_cons_zero, List.set_cons_succ]
      refine take1 (i := 34) (d := 43) (v := undef) rfl (by kernel_rfl) (by kernel_rfl) (by kernel_rfl) rfl (fun _ _ _ h => h) (Or.inr ⟨by rfl, rfl⟩) (by assumption) ?_
      simp only [List.set_cons_zero, List.set_cons_succ]
      refine take1 (i := 35) (d := 44) (v := undef) rfl (by kernel_rfl) (by kernel_rfl) (by kernel_rfl) rfl (fun _ _ _ h => h) (Or.inr ⟨by rfl, rfl⟩) (by assumption) ?_
      simp only [List.set_cons_zero, List.set_cons_succ]
      refine take1 (i := 36) (d := 45) (v := undef) rfl (by kernel_rfl) (by kernel_rfl) (by kernel_rfl) rfl (fun _ _ _ h => h) (Or.inr ⟨by rfl, rfl⟩) (by assumption) ?_
      simp only [List.set_cons_zero, List.set_cons_succ]
      refine take1 (i := 37) (d := 46) (v := undef) rfl (by kernel_rfl) (by kernel_rfl) (by kernel_rfl) rfl (fun _ _ _ h => h) (Or.inr ⟨by rfl, rfl⟩) (by assumption) ?_
      simp only [List.set_cons_zero, List.set_cons_succ]
      refine take1 (i := 38) (d := 47) (v := undef) rfl (by kernel_rfl) (by kernel_rfl) (by kernel_rfl) rfl (fun _ _ _ h => h) (Or.inr ⟨by rfl, rfl⟩) (by assumption) ?_
      simp only [List.set_cons_zero, List.set_cons_succ]
      refine take1 (i := 39) (d := 48) (v := undef) rfl (by kernel_rfl) (by kernel_rfl) (by kernel_rfl) rfl (fun _ _ _ h => h) (Or.inr ⟨by rfl, rfl⟩) (by assumption) ?_
      simp only [List.set_cons_zero, List.set_cons_succ]
      refine take1 (i := 40) (d := 49) (v := ?_) rfl (by kernel_rfl) (by kernel_rfl) (by kernel_rfl) rfl (fun _ _ _ h => h) (Or.inl ⟨by rfl, ?_⟩) (by assumption) ?_
      rotate_left
      · (intro w hSw; (try dsimp only at hSw); go_simp); with_reducible rfl
      simp only [List.set_cons_zero, List.set_cons_succ]
      refine wpAnyH_done (by kernel_rfl) ?_ _
      go_wp2_with fail
      go_meet
      exact ⟨rfl, (Below.refl _ w1).drew⟩
      -- ]]
    by_cases hd : ld = 16 + id
    rotate_left
    · obtain rfl : fb = false := HFB.out.trans (by rw [decide_eq_false hd]; rfl)
      have hd1 : ((ld : Int) != 16 + (id : Int)) = true := by rw [bne_iff_ne]; omega
      clear HFB hd
      -- [[
      refine wp_region_held_drew (S := fun W : World => W.cell? ⟨g, 0, none⟩ = some (.int .u8 (id : Int)) ∧ W.cell? ⟨g, 1, none⟩ = some (.int .i64 (n : Int)) ∧ W.cell? ⟨g, 4, none⟩ = some (.int .u8 (xa : Int)) ∧ W.cell? ⟨g, 5, none⟩ = some (.int .u32 (xb : Int)) ∧ W.cell? ⟨g, 6, none⟩ = some (.int .u8 (xk : Int)) ∧ W.cell? ⟨g, 7, none⟩ = some (.string ⟨xs.toArray⟩) ∧ W.cell? ⟨g, 8, none⟩ = some (.string ⟨xt.toArray⟩) ∧ W.cell? ⟨g, 9, none⟩ = some (.string ⟨xu.toArray⟩) ∧ W.cell? ⟨g, 10, none⟩ = some (.int .u8 (xz : Int)) ∧ W.cell? ⟨g, 11, none⟩ = some (.bool true) ∧ W.cell? ⟨gb, 0, none⟩ = some (.int .u8 (ls : Int)) ∧ W.cell? ⟨gb, 1, none⟩ = some (.int .u8 (ld : Int)) ∧ W.cell? ⟨gb, 11, none⟩ = some (.int .u8 (ya : Int)) ∧ W.cell? ⟨gb, 12, none⟩ = some (.int .u32 (yb : Int)) ∧ W.cell? ⟨gb, 13, none⟩ = some (.int .u8 (yk : Int)) ∧ W.cell? ⟨gb, 14, none⟩ = some (.string ⟨ys.toArray⟩) ∧ W.cell? ⟨gb, 15, none⟩ = some (.string ⟨yt.toArray⟩) ∧ W.cell? ⟨gb, 16, none⟩ = some (.string ⟨yu.toArray⟩) ∧ W.cell? ⟨gb, 17, none⟩ = some (.int .u8 (yz : Int))) (by kernel_rfl) (⟨hgd.cell 0, hgd.cell 1, hgd.cell 4, hgd.cell 5, hgd.cell 6, hgd.cell 7, hgd.cell 8, hgd.cell 9, hgd.cell 10, hgd.cell 11, kbd.cell 0, kbd.cell 1, kbd.cell 11, kbd.cell 12, kbd.cell 13, kbd.cell 14, kbd.cell 15, kbd.cell 16, kbd.cell 17⟩) (fun hHeld => ?_)
      refine take1 (i := 0) (d := 9) (v := ?_) rfl (by kernel_rfl) (by kernel_rfl) (by kernel_rfl) rfl (fun _ _ _ h => h) (Or.inl ⟨by rfl, ?_⟩) (by assumption) ?_
      rotate_left
      · (intro w hSw; (try dsimp only at hSw); go_simp); with_reducible rfl
      simp only [List.set_cons_zero, List.set_cons_succ]
      refine take1 (i := 1) (d := 10) (v := ?_) rfl (by kernel_rfl) (by kernel_rfl) (by kernel_rfl) rfl (fun _ _ _ h => h) (Or.inl ⟨by rfl, ?_⟩) (by assumption) ?_
      rotate_left
      · (intro w hSw; (try dsimp only at hSw); go_simp); with_reducible rfl
      simp only [List.set_cons_zero, List.set_cons_succ]
      refine take1 (i := 2) (d := 11) (v := ?_) rfl (by kernel_rfl) (by kernel_rfl) (by kernel_rfl) rfl (fun _ _ _ h => h) (Or.inl ⟨by rfl, ?_⟩) (by assumption) ?_
      rotate_left
      · (intro w hSw; (try dsimp only at hSw); go_simp); with_reducible rfl
      simp only [List.set_cons_zero, List.set_cons_succ]
      refine take1 (i := 3) (d := 12) (v := ?_) rfl (by kernel_rfl) (by kernel_rfl) (by kernel_rfl) rfl (fun _ _ _ h => h) (Or.inl ⟨by rfl, ?_⟩) (by assumption) ?_
      rotate_left
      · (intro w hSw; (try dsimp only at hSw); go_simp); with_reducible rfl
      simp only [List.set_cons_zero, List.set_cons_succ]
      refine take1 (i := 4) (d := 13) (v := ?_) rfl (by kernel_rfl) (by kernel_rfl) (by kernel_rfl) rfl (fun _ _ _ h => h) (Or.inl ⟨by rfl, ?_⟩) (by assumption) ?_
      rotate_left
      · (intro w hSw; (try dsimp only at hSw); go_simp); with_reducible rfl
      simp only [List.set_cons_zero, List.set_cons_succ]
      refine take1 (i := 5) (d := 14) (v := ?_) rfl (by kernel_rfl) (by kernel_rfl) (by kernel_rfl) rfl (fun _ _ _ h => h) (Or.inl ⟨by rfl, ?_⟩) (by assumption) ?_
      rotate_left
      · (intro w hSw; (try dsimp only at hSw); go_simp); with_reducible rfl
      simp only [List.set_cons_zero, List.set_cons_succ]
      refine take1 (i := 6) (d := 15) (v := ?_) rfl (by kernel_rfl) (by kernel_rfl) (by kernel_rfl) rfl (fun _ _ _ h => h) (Or.inl ⟨by rfl, ?_⟩) (by assumption) ?_
      rotate_left
      · (intro w hSw; (try dsimp only at hSw); go_simp); with_reducible rfl
      simp only [List.set_cons_zero, List.set_cons_succ]
      refine take1 (i := 7) (d := 16) (v := ?_) rfl (by kernel_rfl) (by kernel_rfl) (by kernel_rfl) rfl (fun _ _ _ h => h) (Or.inl ⟨by rfl, ?_⟩) (by assumption) ?_
      rotate_left
      · (intro w hSw; (try dsimp only at hSw); go_simp); with_reducible rfl
      simp only [List.set_cons_zero, List.set_cons_succ]
      refine take1 (i := 8) (d := 17) (v := ?_) rfl (by kernel_rfl) (by kernel_rfl) (by kernel_rfl) rfl (fun _ _ _ h => h) (Or.inl ⟨by rfl, ?_⟩) (by assumption) ?_
      rotate_left
      · (intro w hSw; (try dsimp only at hSw); go_simp); with_reducible rfl
      simp only [List.set_cons_zero, List.set_cons_succ]
      refine take1 (i := 9) (d := 18) (v := ?_) rfl (by kernel_rfl) (by kernel_rfl) (by kernel_rfl) rfl (fun _ _ _ h => h) (Or.inl ⟨by rfl, ?_⟩) (by assumption) ?_
      rotate_left
      · (intro w hSw; (try dsimp only at hSw); go_simp); with_reducible rfl
      simp only [List.set_cons_zero, List.set_cons_succ]
      refine take1 (i := 10) (d := 19) (v := ?_) rfl (by kernel_rfl) (by kernel_rfl) (by kernel_rfl) rfl (fun _ _ _ h => h) (Or.inl ⟨by rfl, ?_⟩) (by assumption) ?_
      rotate_left
      · (intro w hSw; (try dsimp only at hSw); go_simp); with_reducible rfl
      simp only [List.set_cons_zero, List.set_cons_succ]
      refine take1 (i := 11) (d := 20) (v := ?_) rfl (by kernel_rfl) (by kernel_rfl) (by kernel_rfl) rfl (fun _ _ _ h => h) (Or.inl ⟨by rfl, ?_⟩) (by assumption) ?_
      rotate_left
      · (intro w hSw; (try dsimp only at hSw); go_simp); with_reducible rfl
      simp only [List.set_cons_zero, List.set_cons_succ]
      refine take1 (i := 12) (d := 21) (v := ?_) rfl (by kernel_rfl) (by kernel_rfl) (by kernel_rfl) rfl (fun _ _ _ h => h) (Or.inl ⟨by rfl, ?_⟩) (by assumption) ?_
      rotate_left
      · (intro w hSw; (try dsimp only at hSw); go_simp); with_reducible rfl
      simp only [List.set_cons_zero, List.set_cons_succ]
      refine take1 (i := 13) (d := 22) (v := ?_) rfl (by kernel_rfl) (by kernel_rfl) (by kernel_rfl) rfl (fun _ _ _ h => h) (Or.inl ⟨by rfl, ?_⟩) (by assumption) ?_
      rotate_left
      · (intro w hSw; (try dsimp only at hSw); go_simp); with_reducible rfl
      simp only [List.set_cons_zero, List.set_cons_succ]
      refine take1 (i := 14) (d := 23) (v := ?_) rfl (by kernel_rfl) (by kernel_rfl) (by kernel_rfl) rfl (fun _ _ _ h => h) (Or.inl ⟨by rfl, ?_⟩) (by assumption) ?_
      rotate_left
      · (intro w hSw; (try dsimp only at hSw); go_simp); with_reducible rfl
      simp only [List.set_cons_zero, List.set_cons_succ]
      refine take1 (i := 15) (d := 24) (v := ?_) rfl (by kernel_rfl) (by kernel_rfl) (by kernel_rfl) rfl (fun _ _ _ h => h) (Or.inl ⟨by rfl, ?_⟩) (by assumption) ?_
      rotate_left
      · (intro w hSw; (try dsimp only at hSw); go_simp); with_reducible rfl
      simp only [List.set_cons_zero, List.set_cons_succ]
      refine take1 (i := 16) (d := 25) (v := ?_) rfl (by kernel_rfl) (by kernel_rfl) (by kernel_rfl) rfl (fun _ _ _ h => h) (Or.inl ⟨by rfl, ?_⟩) (by assumption) ?_
      rotate_left
      · (intro w hSw; (try dsimp only at hSw); go_simp); with_reducible rfl
      simp only [List.set_cons_zero, List.set_cons_succ]
      refine take1 (i := 17) (d := 26) (v := ?_) rfl (by kernel_rfl) (by kernel_rfl) (by kernel_rfl) rfl (fun _ _ _ h => h) (Or.inl ⟨by rfl, ?_⟩) (by assumption) ?_
      rotate_left
      · (intro w hSw; (try dsimp only at hSw); go_simp); with_reducible rfl
      simp only [List.set_cons_zero, List.set_cons_succ]
      refine take1 (i := 18) (d := 27) (v := ?_) rfl (by kernel_rfl) (by kernel_rfl) (by kernel_rfl) rfl (fun _ _ _ h => h) (Or.inl ⟨by rfl, ?_⟩) (by assumption) ?_
      rotate_left
      · (intro w hSw; (try dsimp only at hSw); go_simp); with_reducible rfl
      simp only [List.set_cons_zero, List.set_cons_succ]
      refine take1 (i := 19) (d := 28) (v := ?_) rfl (by kernel_rfl) (by kernel_rfl) (by kernel_rfl) rfl (fun _ _ _ h => h) (Or.inl ⟨by rfl, ?_⟩) (by assumption) ?_
      rotate_left
      · (intro w hSw; (try dsimp only at hSw); go_simp); with_reducible rfl
      simp only [List.set_cons_zero, List.set_cons_succ]
      refine take1 (i := 20) (d := 29) (v := undef) rfl (by kernel_rfl) (by kernel_rfl) (by kernel_rfl) rfl (fun _ _ _ h => h) (Or.inr ⟨by rfl, rfl⟩) (by assumption) ?_
      simp only [List.set_cons_zero, List.set_cons_succ]
      refine take1 (i := 21) (d := 30) (v := undef) rfl (by kernel_rfl) (by kernel_rfl) (by kernel_rfl) rfl (fun _ _ _ h => h) (Or.inr ⟨by rfl, rfl⟩) (by assumption) ?_
      simp only [List.set_cons_zero, List.set_cons_succ]
      refine take1 (i := 22) (d := 31) (v := undef) rfl (by kernel_rfl) (by kernel_rfl) (by kernel_rfl) rfl (fun _ _ _ h => h) (Or.inr ⟨by rfl, rfl⟩) (by assumption) ?_
      simp only [List.set_cons_zero, List.set_cons_succ]
      refine take1 (i := 23) (d := 32) (v := undef) rfl (by kernel_rfl) (by kernel_rfl) (by kernel_rfl) rfl (fun _ _ _ h => h) (Or.inr ⟨by rfl, rfl⟩) (by assumption) ?_
      simp only [List.set_cons_zero, List.set_cons_succ]
      refine take1 (i := 24) (d := 33) (v := undef) rfl (by kernel_rfl) (by kernel_rfl) (by kernel_rfl) rfl (fun _ _ _ h => h) (Or.inr ⟨by rfl, rfl⟩) (by assumption) ?_
      simp only [List.set_cons_zero, List.set_cons_succ]
      refine take1 (i := 25) (d := 34) (v := undef) rfl (by kernel_rfl) (by kernel_rfl) (by kernel_rfl) rfl (fun _ _ _ h => h) (Or.inr ⟨by rfl, rfl⟩) (by assumption) ?_
      simp only [List.set_cons_zero, List.set_cons_succ]
      refine take1 (i := 26) (d := 35) (v := undef) rfl (by kernel_rfl) (by kernel_rfl) (by kernel_rfl) rfl (fun _ _ _ h => h) (Or.inr ⟨by rfl, rfl⟩) (by assumption) ?_
      simp only [List.set_cons_zero, List.set_cons_succ]
      refine take1 (i := 27) (d := 36) (v := undef) rfl (by kernel_rfl) (by kernel_rfl) (by kernel_rfl) rfl (fun _ _ _ h => h) (Or.inr ⟨by rfl, rfl⟩) (by assumption) ?_
      simp only [List.set_cons_zero, List.set_cons_succ]
      refine take1 (i := 28) (d := 37) (v := ?_) rfl (by kernel_rfl) (by kernel_rfl) (by kernel_rfl) rfl (fun _ _ _ h => h) (Or.inl ⟨by rfl, ?_⟩) (by assumption) ?_
      rotate_left
      · (intro w hSw; (try dsimp only at hSw); go_simp); with_reducible rfl
      simp only [List.set_cons_zero, List.set_cons_succ]
      refine take1 (i := 29) (d := 38) (v := ?_) rfl (by kernel_rfl) (by kernel_rfl) (by kernel_rfl) rfl (fun _ _ _ h => h) (Or.inl ⟨by rfl, ?_⟩) (by assumption) ?_
      rotate_left
      · (intro w hSw; (try dsimp only at hSw); go_simp); with_reducible rfl
      simp only [List.set_cons_zero, List.set_cons_succ]
      refine take1 (i := 30) (d := 39) (v := undef) rfl (by kernel_rfl) (by kernel_rfl) (by kernel_rfl) rfl (fun _ _ _ h => h) (Or.inr ⟨by rfl, rfl⟩) (by assumption) ?_
      simp only [List.set_cons_zero, List.set_cons_succ]
      refine take1 (i := 31) (d := 40) (v := undef) rfl (by kernel_rfl) (by kernel_rfl) (by kernel_rfl) rfl (fun _ _ _ h => h) (Or.inr ⟨by rfl, rfl⟩) (by assumption) ?_
      simp only [List.set_cons_zero, List.set_cons_succ]
      refine take1 (i := 32) (d := 41) (v := undef) rfl (by kernel_rfl) (by kernel_rfl) (by kernel_rfl) rfl (fun _ _ _ h => h) (Or.inr ⟨by rfl, rfl⟩) (by assumption) ?_
      simp only [List.set_cons_zero, List.set_cons_succ]
      refine take1 (i := 33) (d := 42) (v := undef) rfl (by kernel_rfl) (by kernel_rfl) (by kernel_rfl) rfl (fun _ _ _ h => h) (Or.inr ⟨by rfl, rfl⟩) (by assumption) ?_
      simp only [List.set_cons_zero, List.set_cons_succ]
      refine take1 (i := 34) (d := 43) (v := undef) rfl (by kernel_rfl) (by kernel_rfl) (by kernel_rfl) rfl (fun _ _ _ h => h) (Or.inr ⟨by rfl, rfl⟩) (by assumption) ?_
      simp only [List.set_cons_zero, List.set_cons_succ]
      refine take1 (i := 35) (d := 44) (v := undef) rfl (by kernel_rfl) (by kernel_rfl) (by kernel_rfl) rfl (fun _ _ _ h => h) (Or.inr ⟨by rfl, rfl⟩) (by assumption) ?_
      simp only [List.set_cons_zero, List.set_cons_succ]
      refine take1 (i := 36) (d := 45) (v := undef) rfl (by kernel_rfl) (by kernel_rfl) (by kernel_rfl) rfl (fun _ _ _ h => h) (Or.inr ⟨by rfl, rfl⟩) (by assumption) ?_
      simp only [List.set_cons_zero, List.set_cons_succ]
      refine take1 (i := 37) (d := 46) (v := undef) rfl (by kernel_rfl) (by kernel_rfl) (by kernel_rfl) rfl (fun _ _ _ h => h) (Or.inr ⟨by rfl, rfl⟩) (by assumption) ?_
      simp only [List.set_cons_zero, List.set_cons_succ]
      refine take1 (i := 38) (d := 47) (v := undef) rfl (by kernel_rfl) (by kernel_rfl) (by kernel_rfl) rfl (fun _ _ _ h => h) (Or.inr ⟨by rfl, rfl⟩) (by assumption) ?_
      simp only [List.set_cons_zero, List.set_cons_succ]
      refine take1 (i := 39) (d := 48) (v := undef) rfl (by kernel_rfl) (by kernel_rfl) (by kernel_rfl) rfl (fun _ _ _ h => h) (Or.inr ⟨by rfl, rfl⟩) (by assumption) ?_
      simp only [List.set_cons_zero, List.set_cons_succ]
      refine take1 (i := 40) (d := 49) (v := ?_) rfl (by kernel_rfl) (by kernel_rfl) (by kernel_rfl) rfl (fun _ _ _ h => h) (Or.inl ⟨by rfl, ?_⟩) (by assumption) ?_
      rotate_left
      · (intro w hSw; (try dsimp only at hSw); go_simp); with_reducible rfl
      simp only [List.set_cons_zero, List.set_cons_succ]
      refine wpAnyH_done (by kernel_rfl) ?_ _
      go_wp2_with fail
      go_meet
      exact ⟨rfl, (Below.refl _ w1).drew⟩
      -- ]]
    have hd1 : ((ld : Int) != 16 + (id : Int)) = false := by rw [hd]; simp
    by_cases hs : ls < n
    rotate_left
    · obtain rfl : fb = false := HFB.out.trans (by rw [decide_eq_false hs]; simp)
      have hs1 : (n : Int) ≤ (ls : Int) := by omega
      clear HFB hd hs
      -- [[
      refine wp_region_held_drew (S := fun W : World => W.cell? ⟨g, 0, none⟩ = some (.int .u8 (id : Int)) ∧ W.cell? ⟨g, 1, none⟩ = some (.int .i64 (n : Int)) ∧ W.cell? ⟨g, 4, none⟩ = some (.int .u8 (xa : Int)) ∧ W.cell? ⟨g, 5, none⟩ = some (.int .u32 (xb : Int)) ∧ W.cell? ⟨g, 6, none⟩ = some (.int .u8 (xk : Int)) ∧ W.cell? ⟨g, 7, none⟩ = some (.string ⟨xs.toArray⟩) ∧ W.cell? ⟨g, 8, none⟩ = some (.string ⟨xt.toArray⟩) ∧ W.cell? ⟨g, 9, none⟩ = some (.string ⟨xu.toArray⟩) ∧ W.cell? ⟨g, 10, none⟩ = some (.int .u8 (xz : Int)) ∧ W.cell? ⟨g, 11, none⟩ = some (.bool true) ∧ W.cell? ⟨gb, 0, none⟩ = some (.int .u8 (ls : Int)) ∧ W.cell? ⟨gb, 1, none⟩ = some (.int .u8 (ld : Int)) ∧ W.cell? ⟨gb, 11, none⟩ = some (.int .u8 (ya : Int)) ∧ W.cell? ⟨gb, 12, none⟩ = some (.int .u32 (yb : Int)) ∧ W.cell? ⟨gb, 13, none⟩ = some (.int .u8 (yk : Int)) ∧ W.cell? ⟨gb, 14, none⟩ = some (.string ⟨ys.toArray⟩) ∧ W.cell? ⟨gb, 15, none⟩ = some (.string ⟨yt.toArray⟩) ∧ W.cell? ⟨gb, 16, none⟩ = some (.string ⟨yu.toArray⟩) ∧ W.cell? ⟨gb, 17, none⟩ = some (.int .u8 (yz : Int))) (by kernel_rfl) (⟨hgd.cell 0, hgd.cell 1, hgd.cell 4, hgd.cell 5, hgd.cell 6, hgd.cell 7, hgd.cell 8, hgd.cell 9, hgd.cell 10, hgd.cell 11, kbd.cell 0, kbd.cell 1, kbd.cell 11, kbd.cell 12, kbd.cell 13, kbd.cell 14, kbd.cell 15, kbd.cell 16, kbd.cell 17⟩) (fun hHeld => ?_)
      refine take1 (i := 0) (d := 9) (v := ?_) rfl (by kernel_rfl) (by kernel_rfl) (by kernel_rfl) rfl (fun _ _ _ h => h) (Or.inl ⟨by rfl, ?_⟩) (by assumption) ?_
      rotate_left
      · (intro w hSw; (try dsimp only at hSw); go_simp); with_reducible rfl
      simp only [List.set_cons_zero, List.set_cons_succ]
      refine take1 (i := 1) (d := 10) (v := ?_) rfl (by kernel_rfl) (by kernel_rfl) (by kernel_rfl) rfl (fun _ _ _ h => h) (Or.inl ⟨by rfl, ?_⟩) (by assumption) ?_
      rotate_left
      · (intro w hSw; (try dsimp only at hSw); go_simp); with_reducible rfl
      simp only [List.set_cons_zero, List.set_cons_succ]
      refine take1 (i := 2) (d := 11) (v := ?_) rfl (by kernel_rfl) (by kernel_rfl) (by kernel_rfl) rfl (fun _ _ _ h => h) (Or.inl ⟨by rfl, ?_⟩) (by assumption) ?_
      rotate_left
      · (intro w hSw; (try dsimp only at hSw); go_simp); with_reducible rfl
      simp only [List.set_cons_zero, List.set_cons_succ]
      refine take1 (i := 3) (d := 12) (v := ?_) rfl (by kernel_rfl) (by kernel_rfl) (by kernel_rfl) rfl (fun _ _ _ h => h) (Or.inl ⟨by rfl, ?_⟩) (by assumption) ?_
      rotate_left
      · (intro w hSw; (try dsimp only at hSw); go_simp); with_reducible rfl
      simp only [List.set_cons_zero, List.set_cons_succ]
      refine take1 (i := 4) (d := 13) (v := ?_) rfl (by kernel_rfl) (by kernel_rfl) (by kernel_rfl) rfl (fun _ _ _ h => h) (Or.inl ⟨by rfl, ?_⟩) (by assumption) ?_
      rotate_left
      · (intro w hSw; (try dsimp only at hSw); go_simp); with_reducible rfl
      simp only [List.set_cons_zero, List.set_cons_succ]
      refine take1 (i := 5) (d := 14) (v := ?_) rfl (by kernel_rfl) (by kernel_rfl) (by kernel_rfl) rfl (fun _ _ _ h => h) (Or.inl ⟨by rfl, ?_⟩) (by assumption) ?_
      rotate_left
      · (intro w hSw; (try dsimp only at hSw); go_simp); with_reducible rfl
      simp only [List.set_cons_zero, List.set_cons_succ]
      refine take1 (i := 6) (d := 15) (v := ?_) rfl (by kernel_rfl) (by kernel_rfl) (by kernel_rfl) rfl (fun _ _ _ h => h) (Or.inl ⟨by rfl, ?_⟩) (by assumption) ?_
      rotate_left
      · (intro w hSw; (try dsimp only at hSw); go_simp); with_reducible rfl
      simp only [List.set_cons_zero, List.set_cons_succ]
      refine take1 (i := 7) (d := 16) (v := ?_) rfl (by kernel_rfl) (by kernel_rfl) (by kernel_rfl) rfl (fun _ _ _ h => h) (Or.inl ⟨by rfl, ?_⟩) (by assumption) ?_
      rotate_left
      · (intro w hSw; (try dsimp only at hSw); go_simp); with_reducible rfl
      simp only [List.set_cons_zero, List.set_cons_succ]
      refine take1 (i := 8) (d := 17) (v := ?_) rfl (by kernel_rfl) (by kernel_rfl) (by kernel_rfl) rfl (fun _ _ _ h => h) (Or.inl ⟨by rfl, ?_⟩) (by assumption) ?_
      rotate_left
      · (intro w hSw; (try dsimp only at hSw); go_simp); with_reducible rfl
      simp only [List.set_cons_zero, List.set_cons_succ]
      refine take1 (i := 9) (d := 18) (v := ?_) rfl (by kernel_rfl) (by kernel_rfl) (by kernel_rfl) rfl (fun _ _ _ h => h) (Or.inl ⟨by rfl, ?_⟩) (by assumption) ?_
      rotate_left
      · (intro w hSw; (try dsimp only at hSw); go_simp); with_reducible rfl
      simp only [List.set_cons_zero, List.set_cons_succ]
      refine take1 (i := 10) (d := 19) (v := ?_) rfl (by kernel_rfl) (by kernel_rfl) (by kernel_rfl) rfl (fun _ _ _ h => h) (Or.inl ⟨by rfl, ?_⟩) (by assumption) ?_
      rotate_left
      · (intro w hSw; (try dsimp only at hSw); go_simp); with_reducible rfl
      simp only [List.set_cons_zero, List.set_cons_succ]
      refine take1 (i := 11) (d := 20) (v := ?_) rfl (by kernel_rfl) (by kernel_rfl) (by kernel_rfl) rfl (fun _ _ _ h => h) (Or.inl ⟨by rfl, ?_⟩) (by assumption) ?_
      rotate_left
      · (intro w hSw; (try dsimp only at hSw); go_simp); with_reducible rfl
      simp only [List.set_cons_zero, List.set_cons_succ]
      refine take1 (i := 12) (d := 21) (v := ?_) rfl (by kernel_rfl) (by kernel_rfl) (by kernel_rfl) rfl (fun _ _ _ h => h) (Or.inl ⟨by rfl, ?_⟩) (by assumption) ?_
      rotate_left
      · (intro w hSw; (try dsimp only at hSw); go_simp); with_reducible rfl
      simp only [List.set_cons_zero, List.set_cons_succ]
      refine take1 (i := 13) (d := 22) (v := ?_) rfl (by kernel_rfl) (by kernel_rfl) (by kernel_rfl) rfl (fun _ _ _ h => h) (Or.inl ⟨by rfl, ?_⟩) (by assumption) ?_
      rotate_left
      · (intro w hSw; (try dsimp only at hSw); go_simp); with_reducible rfl
      simp only [List.set_cons_zero, List.set_cons_succ]
      refine take1 (i := 14) (d := 23) (v := ?_) rfl (by kernel_rfl) (by kernel_rfl) (by kernel_rfl) rfl (fun _ _ _ h => h) (Or.inl ⟨by rfl, ?_⟩) (by assumption) ?_
      rotate_left
      · (intro w hSw; (try dsimp only at hSw); go_simp); with_reducible rfl
      simp only [List.set_cons_zero, List.set_cons_succ]
      refine take1 (i := 15) (d := 24) (v := ?_) rfl (by kernel_rfl) (by kernel_rfl) (by kernel_rfl) rfl (fun _ _ _ h => h) (Or.inl ⟨by rfl, ?_⟩) (by assumption) ?_
      rotate_left
      · (intro w hSw; (try dsimp only at hSw); go_simp); with_reducible rfl
      simp only [List.set_cons_zero, List.set_cons_succ]
      refine take1 (i := 16) (d := 25) (v := ?_) rfl (by kernel_rfl) (by kernel_rfl) (by kernel_rfl) rfl (fun _ _ _ h => h) (Or.inl ⟨by rfl, ?_⟩) (by assumption) ?_
      rotate_left
      · (intro w hSw; (try dsimp only at hSw); go_simp); with_reducible rfl
      simp only [List.set_cons_zero, List.set_cons_succ]
      refine take1 (i := 17) (d := 26) (v := ?_) rfl (by kernel_rfl) (by kernel_rfl) (by kernel_rfl) rfl (fun _ _ _ h => h) (Or.inl ⟨by rfl, ?_⟩) (by assumption) ?_
      rotate_left
      · (intro w hSw; (try dsimp only at hSw); go_simp); with_reducible rfl
      simp only [List.set_cons_zero, List.set_cons_succ]
      refine take1 (i := 18) (d := 27) (v := ?_) rfl (by kernel_rfl) (by kernel_rfl) (by kernel_rfl) rfl (fun _ _ _ h => h) (Or.inl ⟨by rfl, ?_⟩) (by assumption) ?_
      rotate_left
      · (intro w hSw; (try dsimp only at hSw); go_simp); with_reducible rfl
      simp only [List.set_cons_zero, List.set_cons_succ]
      refine take1 (i := 19) (d := 28) (v := ?_) rfl (by kernel_rfl) (by kernel_rfl) (by kernel_rfl) rfl (fun _ _ _ h => h) (Or.inl ⟨by rfl, ?_⟩) (by assumption) ?_
      rotate_left
      · (intro w hSw; (try dsimp only at hSw); go_simp); with_reducible rfl
      simp only [List.set_cons_zero, List.set_cons_succ]
      refine take1 (i := 20) (d := 29) (v := ?_) rfl (by kernel_rfl) (by kernel_rfl) (by kernel_rfl) rfl (fun _ _ _ h => h) (Or.inl ⟨by rfl, ?_⟩) (by assumption) ?_
      rotate_left
      · (intro w hSw; (try dsimp only at hSw); go_simp); with_reducible rfl
      simp only [List.set_cons_zero, List.set_cons_succ]
      refine take1 (i := 21) (d := 30) (v := ?_) rfl (by kernel_rfl) (by kernel_rfl) (by kernel_rfl) rfl (fun _ _ _ h => h) (Or.inl ⟨by rfl, ?_⟩) (by assumption) ?_
      rotate_left
      · (intro w hSw; (try dsimp only at hSw); go_simp); with_reducible rfl
      simp only [List.set_cons_zero, List.set_cons_succ]
      refine take1 (i := 22) (d := 31) (v := ?_) rfl (by kernel_rfl) (by kernel_rfl) (by kernel_rfl) rfl (fun _ _ _ h => h) (Or.inl ⟨by rfl, ?_⟩) (by assumption) ?_
      rotate_left
      · (intro w hSw; (try dsimp only at hSw); go_simp); with_reducible rfl
      simp only [List.set_cons_zero, List.set_cons_succ]
      refine take1 (i := 23) (d := 32) (v := ?_) rfl (by kernel_rfl) (by kernel_rfl) (by kernel_rfl) rfl (fun _ _ _ h => h) (Or.inl ⟨by rfl, ?_⟩) (by assumption) ?_
      rotate_left
      · (intro w hSw; (try dsimp only at hSw); go_simp); with_reducible rfl
      simp only [List.set_cons_zero, List.set_cons_succ]
      refine take1 (i := 24) (d := 33) (v := ?_) rfl (by kernel_rfl) (by kernel_rfl) (by kernel_rfl) rfl (fun _ _ _ h => h) (Or.inl ⟨by rfl, ?_⟩) (by assumption) ?_
      rotate_left
      · (intro w hSw; (try dsimp only at hSw); go_simp); with_reducible rfl
      simp only [List.set_cons_zero, List.set_cons_succ]
      refine take1 (i := 25) (d := 34) (v := ?_) rfl (by kernel_rfl) (by kernel_rfl) (by kernel_rfl) rfl (fun _ _ _ h => h) (Or.inl ⟨by rfl, ?_⟩) (by assumption) ?_
      rotate_left
      · (intro w hSw; (try dsimp only at hSw); go_simp); with_reducible rfl
      simp only [List.set_cons_zero, List.set_cons_succ]
      refine take1 (i := 26) (d := 35) (v := ?_) rfl (by kernel_rfl) (by kernel_rfl) (by kernel_rfl) rfl (fun _ _ _ h => h) (Or.inl ⟨by rfl, ?_⟩) (by assumption) ?_
      rotate_left
      · (intro w hSw; (try dsimp only at hSw); go_simp); with_reducible rfl
      simp only [List.set_cons_zero, List.set_cons_succ]
      refine take1 (i := 27) (d := 36) (v := ?_) rfl (by kernel_rfl) (by kernel_rfl) (by kernel_rfl) rfl (fun _ _ _ h => h) (Or.inl ⟨by rfl, ?_⟩) (by assumption) ?_
      rotate_left
      · (intro w hSw; (try dsimp only at hSw); go_simp); with_reducible rfl
      simp only [List.set_cons_zero, List.set_cons_succ]
      refine take1 (i := 28) (d := 37) (v := ?_) rfl (by kernel_rfl) (by kernel_rfl) (by kernel_rfl) rfl (fun _ _ _ h => h) (Or.inl ⟨by rfl, ?_⟩) (by assumption) ?_
      rotate_left
      · (intro w hSw; (try dsimp only at hSw); go_simp); with_reducible rfl
      simp only [List.set_cons_zero, List.set_cons_succ]
      refine take1 (i := 29) (d := 38) (v := ?_) rfl (by kernel_rfl) (by kernel_rfl) (by kernel_rfl) rfl (fun _ _ _ h => h) (Or.inl ⟨by rfl, ?_⟩) (by assumption) ?_
      rotate_left
      · (intro w hSw; (try dsimp only at hSw); go_simp); with_reducible rfl
      simp only [List.set_cons_zero, List.set_cons_succ]
      refine take1 (i := 30) (d := 39) (v := undef) rfl (by kernel_rfl) (by kernel_rfl) (by kernel_rfl) rfl (fun _ _ _ h => h) (Or.inr ⟨by rfl, rfl⟩) (by assumption) ?_
      simp only [List.set_cons_zero, List.set_cons_succ]
      refine take1 (i := 31) (d := 40) (v := undef) rfl (by kernel_rfl) (by kernel_rfl) (by kernel_rfl) rfl (fun _ _ _ h => h) (Or.inr ⟨by rfl, rfl⟩) (by assumption) ?_
      simp only [List.set_cons_zero, List.set_cons_succ]
      refine take1 (i := 32) (d := 41) (v := undef) rfl (by kernel_rfl) (by kernel_rfl) (by kernel_rfl) rfl (fun _ _ _ h => h) (Or.inr ⟨by rfl, rfl⟩) (by assumption) ?_
      simp only [List.set_cons_zero, List.set_cons_succ]
      refine take1 (i := 33) (d := 42) (v := undef) rfl (by kernel_rfl) (by kernel_rfl) (by kernel_rfl) rfl (fun _ _ _ h => h) (Or.inr ⟨by rfl, rfl⟩) (by assumption) ?_
      simp only [List.set_cons_zero, List.set_cons_succ]
      refine take1 (i := 34) (d := 43) (v := undef) rfl (by kernel_rfl) (by kernel_rfl) (by kernel_rfl) rfl (fun _ _ _ h => h) (Or.inr ⟨by rfl, rfl⟩) (by assumption) ?_
      simp only [List.set_cons_zero, List.set_cons_succ]
      refine take1 (i := 35) (d := 44) (v := undef) rfl (by kernel_rfl) (by kernel_rfl) (by kernel_rfl) rfl (fun _ _ _ h => h) (Or.inr ⟨by rfl, rfl⟩) (by assumption) ?_
      simp only [List.set_cons_zero, List.set_cons_succ]
      refine take1 (i := 36) (d := 45) (v := undef) rfl (by kernel_rfl) (by kernel_rfl) (by kernel_rfl) rfl (fun _ _ _ h => h) (Or.inr ⟨by rfl, rfl⟩) (by assumption) ?_
      simp only [List.set_cons_zero, List.set_cons_succ]
      refine take1 (i := 37) (d := 46) (v := undef) rfl (by kernel_rfl) (by kernel_rfl) (by kernel_rfl) rfl (fun _ _ _ h => h) (Or.inr ⟨by rfl, rfl⟩) (by assumption) ?_
      simp only [List.set_cons_zero, List.set_cons_succ]
      refine take1 (i := 38) (d := 47) (v := undef) rfl (by kernel_rfl) (by kernel_rfl) (by kernel_rfl) rfl (fun _ _ _ h => h) (Or.inr ⟨by rfl, rfl⟩) (by assumption) ?_
      simp only [List.set_cons_zero, List.set_cons_succ]
      refine take1 (i := 39) (d := 48) (v := undef) rfl (by kernel_rfl) (by kernel_rfl) (by kernel_rfl) rfl (fun _ _ _ h => h) (Or.inr ⟨by rfl, rfl⟩) (by assumption) ?_
      simp only [List.set_cons_zero, List.set_cons_succ]
      refine take1 (i := 40) (d := 49) (v := ?_) rfl (by kernel_rfl) (by kernel_rfl) (by kernel_rfl) rfl (fun _ _ _ h => h) (Or.inl ⟨by rfl, ?_⟩) (by assumption) ?_
      rotate_left
      · (intro w hSw; (try dsimp only at hSw); go_simp); with_reducible rfl
      simp only [List.set_cons_zero, List.set_cons_succ]
      refine wpAnyH_done (by kernel_rfl) ?_ _
      go_wp2_with fail
      go_meet
      exact ⟨rfl, (Below.refl _ w1).drew⟩
      -- ]]
    have hs1 : ¬ (n : Int) ≤ (ls : Int) := by omega
    by_cases ha : ya = xa
    rotate_left
    · obtain rfl : fb = false := HFB.out.trans (by rw [decide_eq_false ha]; simp)
      have ha1 : ((ya : Int) == (xa : Int)) = false := beq_eq_false_iff_ne.2 (by omega)
      clear HFB hd hs ha
      -- [[
      refine wp_region_held_drew (S := fun W : World => W.cell? ⟨g, 0, none⟩ = some (.int .u8 (id : Int)) ∧ W.cell? ⟨g, 1, none⟩ = some (.int .i64 (n : Int)) ∧ W.cell? ⟨g, 4, none⟩ = some (.int .u8 (xa : Int)) ∧ W.cell? ⟨g, 5, none⟩ = some (.int .u32 (xb : Int)) ∧ W.cell? ⟨g, 6, none⟩ = some (.int .u8 (xk : Int)) ∧ W.cell? ⟨g, 7, none⟩ = some (.string ⟨xs.toArray⟩) ∧ W.cell? ⟨g, 8, none⟩ = some (.string ⟨xt.toArray⟩) ∧ W.cell? ⟨g, 9, none⟩ = some (.string ⟨xu.toArray⟩) ∧ W.cell? ⟨g, 10, none⟩ = some (.int .u8 (xz : Int)) ∧ W.cell? ⟨g, 11, none⟩ = some (.bool true) ∧ W.cell? ⟨gb, 0, none⟩ = some (.int .u8 (ls : Int)) ∧ W.cell? ⟨gb, 1, none⟩ = some (.int .u8 (ld : Int)) ∧ W.cell? ⟨gb, 11, none⟩ = some (.int .u8 (ya : Int)) ∧ W.cell? ⟨gb, 12, none⟩ = some (.int .u32 (yb : Int)) ∧ W.cell? ⟨gb, 13, none⟩ = some (.int .u8 (yk : Int)) ∧ W.cell? ⟨gb, 14, none⟩ = some (.string ⟨ys.toArray⟩) ∧ W.cell? ⟨gb, 15, none⟩ = some (.string ⟨yt.toArray⟩) ∧ W.cell? ⟨gb, 16, none⟩ = some (.string ⟨yu.toArray⟩) ∧ W.cell? ⟨gb, 17, none⟩ = some (.int .u8 (yz : Int))) (by kernel_rfl) (⟨hgd.cell 0, hgd.cell 1, hgd.cell 4, hgd.cell 5, hgd.cell 6, hgd.cell 7, hgd.cell 8, hgd.cell 9, hgd.cell 10, hgd.cell 11, kbd.cell 0, kbd.cell 1, kbd.cell 11, kbd.cell 12, kbd.cell 13, kbd.cell 14, kbd.cell 15, kbd.cell 16, kbd.cell 17⟩) (fun hHeld => ?_)
      refine take1 (i := 0) (d := 9) (v := ?_) rfl (by kernel_rfl) (by kernel_rfl) (by kernel_rfl) rfl (fun _ _ _ h => h) (Or.inl ⟨by rfl, ?_⟩) (by assumption) ?_
      rotate_left
      · (intro w hSw; (try dsimp only at hSw); go_simp); with_reducible rfl
      simp only [List.set_cons_zero, List.set_cons_succ]
      refine take1 (i := 1) (d := 10) (v := ?_) rfl (by kernel_rfl) (by kernel_rfl) (by kernel_rfl) rfl (fun _ _ _ h => h) (Or.inl ⟨by rfl, ?_⟩) (by assumption) ?_
      rotate_left
      · (intro w hSw; (try dsimp only at hSw); go_simp); with_reducible rfl
      simp only [List.set_cons_zero, List.set_cons_succ]
      refine take1 (i := 2) (d := 11) (v := ?_) rfl (by kernel_rfl) (by kernel_rfl) (by kernel_rfl) rfl (fun _ _ _ h => h) (Or.inl ⟨by rfl, ?_⟩) (by assumption) ?_
      rotate_left
      · (intro w hSw; (try dsimp only at hSw); go_simp); with_reducible rfl
      simp only [List.set_cons_zero, List.set_cons_succ]
      refine take1 (i := 3) (d := 12) (v := ?_) rfl (by kernel_rfl) (by kernel_rfl) (by kernel_rfl) rfl (fun _ _ _ h => h) (Or.inl ⟨by rfl, ?_⟩) (by assumption) ?_
      rotate_left
      · (intro w hSw; (try dsimp only at hSw); go_simp); with_reducible rfl
      simp only [List.set_cons_zero, List.set_cons_succ]
      refine take1 (i := 4) (d := 13) (v := ?_) rfl (by kernel_rfl) (by kernel_rfl) (by kernel_rfl) rfl (fun _ _ _ h => h) (Or.inl ⟨by rfl, ?_⟩) (by assumption) ?_
      rotate_left
      · (intro w hSw; (try dsimp only at hSw); go_simp); with_reducible rfl
      simp only [List.set_cons_zero, List.set_cons_succ]
      refine take1 (i := 5) (d := 14) (v := ?_) rfl (by kernel_rfl) (by kernel_rfl) (by kernel_rfl) rfl (fun _ _ _ h => h) (Or.inl ⟨by rfl, ?_⟩) (by assumption) ?_
      rotate_left
      · (intro w hSw; (try dsimp only at hSw); go_simp); with_reducible rfl
      simp only [List.set_cons_zero, List.set_cons_succ]
      refine take1 (i := 6) (d := 15) (v := ?_) rfl (by kernel_rfl) (by kernel_rfl) (by kernel_rfl) rfl (fun _ _ _ h => h) (Or.inl ⟨by rfl, ?_⟩) (by assumption) ?_
      rotate_left
      · (intro w hSw; (try dsimp only at hSw); go_simp); with_reducible rfl
      simp only [List.set_cons_zero, List.set_cons_succ]
      refine take1 (i := 7) (d := 16) (v := ?_) rfl (by kernel_rfl) (by kernel_rfl) (by kernel_rfl) rfl (fun _ _ _ h => h) (Or.inl ⟨by rfl, ?_⟩) (by assumption) ?_
      rotate_left
      · (intro w hSw; (try dsimp only at hSw); go_simp); with_reducible rfl
      simp only [List.set_cons_zero, List.set_cons_succ]
      refine take1 (i := 8) (d := 17) (v := ?_) rfl (by kernel_rfl) (by kernel_rfl) (by kernel_rfl) rfl (fun _ _ _ h => h) (Or.inl ⟨by rfl, ?_⟩) (by assumption) ?_
      rotate_left
      · (intro w hSw; (try dsimp only at hSw); go_simp); with_reducible rfl
      simp only [List.set_cons_zero, List.set_cons_succ]
      refine take1 (i := 9) (d := 18) (v := ?_) rfl (by kernel_rfl) (by kernel_rfl) (by kernel_rfl) rfl (fun _ _ _ h => h) (Or.inl ⟨by rfl, ?_⟩) (by assumption) ?_
      rotate_left
      · (intro w hSw; (try dsimp only at hSw); go_simp); with_reducible rfl
      simp only [List.set_cons_zero, List.set_cons_succ]
      refine take1 (i := 10) (d := 19) (v := ?_) rfl (by kernel_rfl) (by kernel_rfl) (by kernel_rfl) rfl (fun _ _ _ h => h) (Or.inl ⟨by rfl, ?_⟩) (by assumption) ?_
      rotate_left
      · (intro w hSw; (try dsimp only at hSw); go_simp); with_reducible rfl
      simp only [List.set_cons_zero, List.set_cons_succ]
      refine take1 (i := 11) (d := 20) (v := ?_) rfl (by kernel_rfl) (by kernel_rfl) (by kernel_rfl) rfl (fun _ _ _ h => h) (Or.inl ⟨by rfl, ?_⟩) (by assumption) ?_
      rotate_left
      · (intro w hSw; (try dsimp only at hSw); go_simp); with_reducible rfl
      simp only [List.set_cons_zero, List.set_cons_succ]
      refine take1 (i := 12) (d := 21) (v := ?_) rfl (by kernel_rfl) (by kernel_rfl) (by kernel_rfl) rfl (fun _ _ _ h => h) (Or.inl ⟨by rfl, ?_⟩) (by assumption) ?_
      rotate_left
      · (intro w hSw; (try dsimp only at hSw); go_simp); with_reducible rfl
      simp only [List.set_cons_zero, List.set_cons_succ]
      refine take1 (i := 13) (d := 22) (v := ?_) rfl (by kernel_rfl) (by kernel_rfl) (by kernel_rfl) rfl (fun _ _ _ h => h) (Or.inl ⟨by rfl, ?_⟩) (by assumption) ?_
      rotate_left
      · (intro w hSw; (try dsimp only at hSw); go_simp); with_reducible rfl
      simp only [List.set_cons_zero, List.set_cons_succ]
      refine take1 (i := 14) (d := 23) (v := ?_) rfl (by kernel_rfl) (by kernel_rfl) (by kernel_rfl) rfl (fun _ _ _ h => h) (Or.inl ⟨by rfl, ?_⟩) (by assumption) ?_
      rotate_left
      · (intro w hSw; (try dsimp only at hSw); go_simp); with_reducible rfl
      simp only [List.set_cons_zero, List.set_cons_succ]
      refine take1 (i := 15) (d := 24) (v := ?_) rfl (by kernel_rfl) (by kernel_rfl) (by kernel_rfl) rfl (fun _ _ _ h => h) (Or.inl ⟨by rfl, ?_⟩) (by assumption) ?_
      rotate_left
      · (intro w hSw; (try dsimp only at hSw); go_simp); with_reducible rfl
      simp only [List.set_cons_zero, List.set_cons_succ]
      refine take1 (i := 16) (d := 25) (v := ?_) rfl (by kernel_rfl) (by kernel_rfl) (by kernel_rfl) rfl (fun _ _ _ h => h) (Or.inl ⟨by rfl, ?_⟩) (by assumption) ?_
      rotate_left
      · (intro w hSw; (try dsimp only at hSw); go_simp); with_reducible rfl
      simp only [List.set_cons_zero, List.set_cons_succ]
      refine take1 (i := 17) (d := 26) (v := ?_) rfl (by kernel_rfl) (by kernel_rfl) (by kernel_rfl) rfl (fun _ _ _ h => h) (Or.inl ⟨by rfl, ?_⟩) (by assumption) ?_
      rotate_left
      · (intro w hSw; (try dsimp only at hSw); go_simp); with_reducible rfl
      simp only [List.set_cons_zero, List.set_cons_succ]
      refine take1 (i := 18) (d := 27) (v := ?_) rfl (by kernel_rfl) (by kernel_rfl) (by kernel_rfl) rfl (fun _ _ _ h => h) (Or.inl ⟨by rfl, ?_⟩) (by assumption) ?_
      rotate_left
      · (intro w hSw; (try dsimp only at hSw); go_simp); with_reducible rfl
      simp only [List.set_cons_zero, List.set_cons_succ]
      refine take1 (i := 19) (d := 28) (v := ?_) rfl (by kernel_rfl) (by kernel_rfl) (by kernel_rfl) rfl (fun _ _ _ h => h) (Or.inl ⟨by rfl, ?_⟩) (by assumption) ?_
      rotate_left
      · (intro w hSw; (try dsimp only at hSw); go_simp); with_reducible rfl
      simp only [List.set_cons_zero, List.set_cons_succ]
      refine take1 (i := 20) (d := 29) (v := ?_) rfl (by kernel_rfl) (by kernel_rfl) (by kernel_rfl) rfl (fun _ _ _ h => h) (Or.inl ⟨by rfl, ?_⟩) (by assumption) ?_
      rotate_left
      · (intro w hSw; (try dsimp only at hSw); go_simp); with_reducible rfl
      simp only [List.set_cons_zero, List.set_cons_succ]
      refine take1 (i := 21) (d := 30) (v := ?_) rfl (by kernel_rfl) (by kernel_rfl) (by kernel_rfl) rfl (fun _ _ _ h => h) (Or.inl ⟨by rfl, ?_⟩) (by assumption) ?_
      rotate_left
      · (intro w hSw; (try dsimp only at hSw); go_simp); with_reducible rfl
      simp only [List.set_cons_zero, List.set_cons_succ]
      refine take1 (i := 22) (d := 31) (v := ?_) rfl (by kernel_rfl) (by kernel_rfl) (by kernel_rfl) rfl (fun _ _ _ h => h) (Or.inl ⟨by rfl, ?_⟩) (by assumption) ?_
      rotate_left
      · (intro w hSw; (try dsimp only at hSw); go_simp); with_reducible rfl
      simp only [List.set_cons_zero, List.set_cons_succ]
      refine take1 (i := 23) (d := 32) (v := ?_) rfl (by kernel_rfl) (by kernel_rfl) (by kernel_rfl) rfl (fun _ _ _ h => h) (Or.inl ⟨by rfl, ?_⟩) (by assumption) ?_
      rotate_left
      · (intro w hSw; (try dsimp only at hSw); go_simp); with_reducible rfl
      simp only [List.set_cons_zero, List.set_cons_succ]
      refine take1 (i := 24) (d := 33) (v := ?_) rfl (by kernel_rfl) (by kernel_rfl) (by kernel_rfl) rfl (fun _ _ _ h => h) (Or.inl ⟨by rfl, ?_⟩) (by assumption) ?_
      rotate_left
      · (intro w hSw; (try dsimp only at hSw); go_simp); with_reducible rfl
      simp only [List.set_cons_zero, List.set_cons_succ]
      refine take1 (i := 25) (d := 34) (v := ?_) rfl (by kernel_rfl) (by kernel_rfl) (by kernel_rfl) rfl (fun _ _ _ h => h) (Or.inl ⟨by rfl, ?_⟩) (by assumption) ?_
      rotate_left
      · (intro w hSw; (try dsimp only at hSw); go_simp); with_reducible rfl
      simp only [List.set_cons_zero, List.set_cons_succ]
      refine take1 (i := 26) (d := 35) (v := ?_) rfl (by kernel_rfl) (by kernel_rfl) (by kernel_rfl) rfl (fun _ _ _ h => h) (Or.inl ⟨by rfl, ?_⟩) (by assumption) ?_
      rotate_left
      · (intro w hSw; (try dsimp only at hSw); go_simp); with_reducible rfl
      simp only [List.set_cons_zero, List.set_cons_succ]
      refine take1 (i := 27) (d := 36) (v := ?_) rfl (by kernel_rfl) (by kernel_rfl) (by kernel_rfl) rfl (fun _ _ _ h => h) (Or.inl ⟨by rfl, ?_⟩) (by assumption) ?_
      rotate_left
      · (intro w hSw; (try dsimp only at hSw); go_simp); with_reducible rfl
      simp only [List.set_cons_zero, List.set_cons_succ]
      refine take1 (i := 28) (d := 37) (v := ?_) rfl (by kernel_rfl) (by kernel_rfl) (by kernel_rfl) rfl (fun _ _ _ h => h) (Or.inl ⟨by rfl, ?_⟩) (by assumption) ?_
      rotate_left
      · (intro w hSw; (try dsimp only at hSw); go_simp); with_reducible rfl
      simp only [List.set_cons_zero, List.set_cons_succ]
      refine take1 (i := 29) (d := 38) (v := ?_) rfl (by kernel_rfl) (by kernel_rfl) (by kernel_rfl) rfl (fun _ _ _ h => h) (Or.inl ⟨by rfl, ?_⟩) (by assumption) ?_
      rotate_left
      · (intro w hSw; (try dsimp only at hSw); go_simp); with_reducible rfl
      simp only [List.set_cons_zero, List.set_cons_succ]
      refine take1 (i := 30) (d := 39) (v := ?_) rfl (by kernel_rfl) (by kernel_rfl) (by kernel_rfl) rfl (fun _ _ _ h => h) (Or.inl ⟨by rfl, ?_⟩) (by assumption) ?_
      rotate_left
      · (intro w hSw; (try dsimp only at hSw); go_simp); with_reducible rfl
      simp only [List.set_cons_zero, List.set_cons_succ]
      refine take1 (i := 31) (d := 40) (v := ?_) rfl (by kernel_rfl) (by kernel_rfl) (by kernel_rfl) rfl (fun _ _ _ h => h) (Or.inl ⟨by rfl, ?_⟩) (by assumption) ?_
      rotate_left
      · (intro w hSw; (try dsimp only at hSw); go_simp); with_reducible rfl
      simp only [List.set_cons_zero, List.set_cons_succ]
      refine take1 (i := 32) (d := 41) (v := ?_) rfl (by kernel_rfl) (by kernel_rfl) (by kernel_rfl) rfl (fun _ _ _ h => h) (Or.inl ⟨by rfl, ?_⟩) (by assumption) ?_
      rotate_left
      · (intro w hSw; (try dsimp only at hSw); go_simp); with_reducible rfl
      simp only [List.set_cons_zero, List.set_cons_succ]
      refine take1 (i := 34) (d := 43) (v := ?_) rfl (by kernel_rfl) (by kernel_rfl) (by kernel_rfl) rfl (fun _ _ _ h => h) (Or.inl ⟨by rfl, ?_⟩) (by assumption) ?_
      rotate_left
      · (intro w hSw; (try dsimp only at hSw); go_simp); with_reducible rfl
      simp only [List.set_cons_zero, List.set_cons_succ]
      refine take1 (i := 35) (d := 44) (v := ?_) rfl (by kernel_rfl) (by kernel_rfl) (by kernel_rfl) rfl (fun _ _ _ h => h) (Or.inl ⟨by rfl, ?_⟩) (by assumption) ?_
      rotate_left
      · (intro w hSw; (try dsimp only at hSw); go_simp); with_reducible rfl
      simp only [List.set_cons_zero, List.set_cons_succ]
      refine take1 (i := 36) (d := 45) (v := ?_) rfl (by kernel_rfl) (by kernel_rfl) (by kernel_rfl) rfl (fun _ _ _ h => h) (Or.inl ⟨by rfl, ?_⟩) (by assumption) ?_
      rotate_left
      · (intro w hSw; (try dsimp only at hSw); go_simp); with_reducible rfl
      simp only [List.set_cons_zero, List.set_cons_succ]
      refine take1 (i := 37) (d := 46) (v := ?_) rfl (by kernel_rfl) (by kernel_rfl) (by kernel_rfl) rfl (fun _ _ _ h => h) (Or.inl ⟨by rfl, ?_⟩) (by assumption) ?_
      rotate_left
      · (intro w hSw; (try dsimp only at hSw); go_simp); with_reducible rfl
      simp only [List.set_cons_zero, List.set_cons_succ]
      refine wpAnyH_ready (rs := [33]) (by kernel_rfl) (by simp) (AllReadyH.cons rfl (fun Kreg hKreg => ?_) AllReadyH.nil)
      go_simp
      refine (nameOf_any ⟨ya, yb, yk, ys, yt, yu, yz⟩ _).mono ?_; rintro e w2 ⟨rfl, B2⟩; have hgW := hgd.below B2 hgd.lt; have kbW := kbd.below B2 kbd.lt; have bW := B2
      go_wp2_with fail
      refine hKreg.out _ _ (⟨hgW.cell 0, hgW.cell 1, hgW.cell 4, hgW.cell 5, hgW.cell 6, hgW.cell 7, hgW.cell 8, hgW.cell 9, hgW.cell 10, hgW.cell 11, kbW.cell 0, kbW.cell 1, kbW.cell 11, kbW.cell 12, kbW.cell 13, kbW.cell 14, kbW.cell 15, kbW.cell 16, kbW.cell 17⟩) (fun hHeld => ?_)
      clear hKreg Kreg
      try simp only [Act.put, List.setIfInBounds_toArray, List.set_cons_zero, List.set_cons_succ]
      refine wpAnyH_ready (rs := [38]) (by kernel_rfl) (by simp) (AllReadyH.cons rfl (fun Kreg hKreg => ?_) AllReadyH.nil)
      go_simp
      refine (nameOf_any ⟨xa, xb, xk, xs, xt, xu, xz⟩ _).mono ?_; rintro e w3 ⟨rfl, B3⟩; have hgW := hgW.below B3 hgW.lt; have kbW := kbW.below B3 kbW.lt; have bW := bW.trans (B3.mono bW.size)
      go_wp2_with fail
      refine hKreg.out _ _ (⟨hgW.cell 0, hgW.cell 1, hgW.cell 4, hgW.cell 5, hgW.cell 6, hgW.cell 7, hgW.cell 8, hgW.cell 9, hgW.cell 10, hgW.cell 11, kbW.cell 0, kbW.cell 1, kbW.cell 11, kbW.cell 12, kbW.cell 13, kbW.cell 14, kbW.cell 15, kbW.cell 16, kbW.cell 17⟩) (fun hHeld => ?_)
      clear hKreg Kreg
      try simp only [Act.put, List.setIfInBounds_toArray, List.set_cons_zero, List.set_cons_succ]
      refine take1 (i := 39) (d := 48) (v := ?_) rfl (by kernel_rfl) (by kernel_rfl) (by kernel_rfl) rfl (fun _ _ _ h => h) (Or.inl ⟨by rfl, ?_⟩) (by assumption) ?_
      rotate_left
      · (intro w hSw; (try dsimp only at hSw); go_simp); with_reducible rfl
      simp only [List.set_cons_zero, List.set_cons_succ]
      refine take1 (i := 40) (d := 49) (v := ?_) rfl (by kernel_rfl) (by kernel_rfl) (by kernel_rfl) rfl (fun _ _ _ h => h) (Or.inl ⟨by rfl, ?_⟩) (by assumption) ?_
      rotate_left
      · (intro w hSw; (try dsimp only at hSw); go_simp); with_reducible rfl
      simp only [List.set_cons_zero, List.set_cons_succ]
      refine wpAnyH_done (by kernel_rfl) ?_ _
      go_wp2_with fail
      go_meet
      exact ⟨rfl, (Below.refl _ w1).drew.trans bW⟩
      -- ]]
    have ha1 : ((ya : Int) == (xa : Int)) = true := by rw [ha]; simp
    by_cases hb : yb = xb
    rotate_left
    · obtain rfl : fb = false := HFB.out.trans (by rw [decide_eq_false hb]; simp)
      have hb1 : ((yb : Int) == (xb : Int)) = false := beq_eq_false_iff_ne.2 (by omega)
      clear HFB hd hs ha hb
      -- [[
      refine wp_region_held_drew (S := fun W : World => W.cell? ⟨g, 0, none⟩ = some (.int .u8 (id : Int)) ∧ W.cell? ⟨g, 1, none⟩ = some (.int .i64 (n : Int)) ∧ W.cell? ⟨g, 4, none⟩ = some (.int .u8 (xa : Int)) ∧ W.cell? ⟨g, 5, none⟩ = some (.int .u32 (xb : Int)) ∧ W.cell? ⟨g, 6, none⟩ = some (.int .u8 (xk : Int)) ∧ W.cell? ⟨g, 7, none⟩ = some (.string ⟨xs.toArray⟩) ∧ W.cell? ⟨g, 8, none⟩ = some (.string ⟨xt.toArray⟩) ∧ W.cell? ⟨g, 9, none⟩ = some (.string ⟨xu.toArray⟩) ∧ W.cell? ⟨g, 10, none⟩ = some (.int .u8 (xz : Int)) ∧ W.cell? ⟨g, 11, none⟩ = some (.bool true) ∧ W.cell? ⟨gb, 0, none⟩ = some (.int .u8 (ls : Int)) ∧ W.cell? ⟨gb, 1, none⟩ = some (.int .u8 (ld : Int)) ∧ W.cell? ⟨gb, 11, none⟩ = some (.int .u8 (ya : Int)) ∧ W.cell? ⟨gb, 12, none⟩ = some (.int .u32 (yb : Int)) ∧ W.cell? ⟨gb, 13, none⟩ = some (.int .u8 (yk : Int)) ∧ W.cell? ⟨gb, 14, none⟩ = some (.string ⟨ys.toArray⟩) ∧ W.cell? ⟨gb, 15, none⟩ = some (.string ⟨yt.toArray⟩) ∧ W.cell? ⟨gb, 16, none⟩ = some (.string ⟨yu.toArray⟩) ∧ W.cell? ⟨gb, 17, none⟩ = some (.int .u8 (yz : Int))) (by kernel_rfl) (⟨hgd.cell 0, hgd.cell 1, hgd.cell 4, hgd.cell 5, hgd.cell 6, hgd.cell 7, hgd.cell 8, hgd.cell 9, hgd.cell 10, hgd.cell 11, kbd.cell 0, kbd.cell 1, kbd.cell 11, kbd.cell 12, kbd.cell 13, kbd.cell 14, kbd.cell 15, kbd.cell 16, kbd.cell 17⟩) (fun hHeld => ?_)
      refine take1 (i := 0) (d := 9) (v := ?_) rfl (by kernel_rfl) (by kernel_rfl) (by kernel_rfl) rfl (fun _ _ _ h => h) (Or.inl ⟨by rfl, ?_⟩) (by assumption) ?_
      rotate_left
      · (intro w hSw; (try dsimp only at hSw); go_simp); with_reducible rfl
      simp only [List.set_cons_zero, List.set_cons_succ]
      refine take1 (i := 1) (d := 10) (v := ?_) rfl (by kernel_rfl) (by kernel_rfl) (by kernel_rfl) rfl (fun _ _ _ h => h) (Or.inl ⟨by rfl, ?_⟩) (by assumption) ?_
      rotate_left
      · (intro w hSw; (try dsimp only at hSw); go_simp); with_reducible rfl
      simp only [List.set_cons_zero, List.set_cons_succ]
      refine take1 (i := 2) (d := 11) (v := ?_) rfl (by kernel_rfl) (by kernel_rfl) (by kernel_rfl) rfl (fun _ _ _ h => h) (Or.inl ⟨by rfl, ?_⟩) (by assumption) ?_
      rotate_left
      · (intro w hSw; (try dsimp only at hSw); go_simp); with_reducible rfl
      simp only [List.set_cons_zero, List.set_cons_succ]
      refine take1 (i := 3) (d := 12) (v := ?_) rfl (by kernel_rfl) (by kernel_rfl) (by kernel_rfl) rfl (fun _ _ _ h => h) (Or.inl ⟨by rfl, ?_⟩) (by assumption) ?_
      rotate_left
      · (intro w hSw; (try dsimp only at hSw); go_simp); with_reducible rfl
      simp only [List.set_cons_zero, List.set_cons_succ]
      refine take1 (i := 4) (d := 13) (v := ?_) rfl (by kernel_rfl) (by kernel_rfl) (by kernel_rfl) rfl (fun _ _ _ h => h) (Or.inl ⟨by rfl, ?_⟩) (by assumption) ?_
      rotate_left
      · (intro w hSw; (try dsimp only at hSw); go_simp); with_reducible rfl
      simp only [List.set_cons_zero, List.set_cons_succ]
      refine take1 (i := 5) (d := 14) (v := ?_) rfl (by kernel_rfl) (by kernel_rfl) (by kernel_rfl) rfl (fun _ _ _ h => h) (Or.inl ⟨by rfl, ?_⟩) (by assumption) ?_
      rotate_left
      · (intro w hSw; (try dsimp only at hSw); go_simp); with_reducible rfl
      simp only [List.set_cons_zero, List.set_cons_succ]
      refine take1 (i := 6) (d := 15) (v := ?_) rfl (by kernel_rfl) (by kernel_rfl) (by kernel_rfl) rfl (fun _ _ _ h => h) (Or.inl ⟨by rfl, ?_⟩) (by assumption) ?_
      rotate_left
      · (intro w hSw; (try dsimp only at hSw); go_simp); with_reducible rfl
      simp only [List.set_cons_zero, List.set_cons_succ]
      refine take1 (i := 7) (d := 16) (v := ?_) rfl (by kernel_rfl) (by kernel_rfl) (by kernel_rfl) rfl (fun _ _ _ h => h) (Or.inl ⟨by rfl, ?_⟩) (by assumption) ?_
      rotate_left
      · (intro w hSw; (try dsimp only at hSw); go_simp); with_reducible rfl
      simp only [List.set_cons_zero, List.set_cons_succ]
      refine take1 (i := 8) (d := 17) (v := ?_) rfl (by kernel_rfl) (by kernel_rfl) (by kernel_rfl) rfl (fun _ _ _ h => h) (Or.inl ⟨by rfl, ?_⟩) (by assumption) ?_
      rotate_left
      · (intro w hSw; (try dsimp only at hSw); go_simp); with_reducible rfl
      simp only [List.set_cons_zero, List.set_cons_succ]
      refine take1 (i := 9) (d := 18) (v := ?_) rfl (by kernel_rfl) (by kernel_rfl) (by kernel_rfl) rfl (fun _ _ _ h => h) (Or.inl ⟨by rfl, ?_⟩) (by assumption) ?_
      rotate_left
      · (intro w hSw; (try dsimp only at hSw); go_simp); with_reducible rfl
      simp only [List.set_cons_zero, List.set_cons_succ]
      refine take1 (i := 10) (d := 19) (v := ?_) rfl (by kernel_rfl) (by kernel_rfl) (by kernel_rfl) rfl (fun _ _ _ h => h) (Or.inl ⟨by rfl, ?_⟩) (by assumption) ?_
      rotate_left
      · (intro w hSw; (try dsimp only at hSw); go_simp); with_reducible rfl
      simp only [List.set_cons_zero, List.set_cons_succ]
      refine take1 (i := 11) (d := 20) (v := ?_) rfl (by kernel_rfl) (by kernel_rfl) (by kernel_rfl) rfl (fun _ _ _ h => h) (Or.inl ⟨by rfl, ?_⟩) (by assumption) ?_
      rotate_left
      · (intro w hSw; (try dsimp only at hSw); go_simp); with_reducible rfl
      simp only [List.set_cons_zero, List.set_cons_succ]
      refine take1 (i := 12) (d := 21) (v := ?_) rfl (by kernel_rfl) (by kernel_rfl) (by kernel_rfl) rfl (fun _ _ _ h => h) (Or.inl ⟨by rfl, ?_⟩) (by assumption) ?_
      rotate_left
      · (intro w hSw; (try dsimp only at hSw); go_simp); with_reducible rfl
      simp only [List.set_cons_zero, List.set_cons_succ]
      refine take1 (i := 13) (d := 22) (v := ?_) rfl (by kernel_rfl) (by kernel_rfl) (by kernel_rfl) rfl (fun _ _ _ h => h) (Or.inl ⟨by rfl, ?_⟩) (by assumption) ?_
      rotate_left
      · (intro w hSw; (try dsimp only at hSw); go_simp); with_reducible rfl
      simp only [List.set_cons_zero, List.set_cons_succ]
      refine take1 (i := 14) (d := 23) (v := ?_) rfl (by kernel_rfl) (by kernel_rfl) (by kernel_rfl) rfl (fun _ _ _ h => h) (Or.inl ⟨by rfl, ?_⟩) (by assumption) ?_
      rotate_left
      · (intro w hSw; (try dsimp only at hSw); go_simp); with_reducible rfl
      simp only [List.set_cons_zero, List.set_cons_succ]
      refine take1 (i := 15) (d := 24) (v := ?_) rfl (by kernel_rfl) (by kernel_rfl) (by kernel_rfl) rfl (fun _ _ _ h => h) (Or.inl ⟨by rfl, ?_⟩) (by assumption) ?_
      rotate_left
      · (intro w hSw; (try dsimp only at hSw); go_simp); with_reducible rfl
      simp only [List.set_cons_zero, List.set_cons_succ]
      refine take1 (i := 16) (d := 25) (v := ?_) rfl (by kernel_rfl) (by kernel_rfl) (by kernel_rfl) rfl (fun _ _ _ h => h) (Or.inl ⟨by rfl, ?_⟩) (by assumption) ?_
      rotate_left
      · (intro w hSw; (try dsimp only at hSw); go_simp); with_reducible rfl
      simp only [List.set_cons_zero, List.set_cons_succ]
      refine take1 (i := 17) (d := 26) (v := ?_) rfl (by kernel_rfl) (by kernel_rfl) (by kernel_rfl) rfl (fun _ _ _ h => h) (Or.inl ⟨by rfl, ?_⟩) (by assumption) ?_
      rotate_left
      · (intro w hSw; (try dsimp only at hSw); go_simp); with_reducible rfl
      simp only [List.set_cons_zero, List.set_cons_succ]
      refine take1 (i := 18) (d := 27) (v := ?_) rfl (by kernel_rfl) (by kernel_rfl) (by kernel_rfl) rfl (fun _ _ _ h => h) (Or.inl ⟨by rfl, ?_⟩) (by assumption) ?_
      rotate_left
      · (intro w hSw; (try dsimp only at hSw); go_simp); with_reducible rfl
      simp only [List.set_cons_zero, List.set_cons_succ]
      refine take1 (i := 19) (d := 28) (v := ?_) rfl (by kernel_rfl) (by kernel_rfl) (by kernel_rfl) rfl (fun _ _ _ h => h) (Or.inl ⟨by rfl, ?_⟩) (by assumption) ?_
      rotate_left
      · (intro w hSw; (try dsimp only at hSw); go_simp); with_reducible rfl
      simp only [List.set_cons_zero, List.set_cons_succ]
      refine take1 (i := 20) (d := 29) (v := ?_) rfl (by kernel_rfl) (by kernel_rfl) (by kernel_rfl) rfl (fun _ _ _ h => h) (Or.inl ⟨by rfl, ?_⟩) (by assumption) ?_
      rotate_left
      · (intro w hSw; (try dsimp only at hSw); go_simp); with_reducible rfl
      simp only [List.set_cons_zero, List.set_cons_succ]
      refine take1 (i := 21) (d := 30) (v := ?_) rfl (by kernel_rfl) (by kernel_rfl) (by kernel_rfl) rfl (fun _ _ _ h => h) (Or.inl ⟨by rfl, ?_⟩) (by assumption) ?_
      rotate_left
      · (intro w hSw; (try dsimp only at hSw); go_simp); with_reducible rfl
      simp only [List.set_cons_zero, List.set_cons_succ]
      refine take1 (i := 22) (d := 31) (v := ?_) rfl (by kernel_rfl) (by kernel_rfl) (by kernel_rfl) rfl (fun _ _ _ h => h) (Or.inl ⟨by rfl, ?_⟩) (by assumption) ?_
      rotate_left
      · (intro w hSw; (try dsimp only at hSw); go_simp); with_reducible rfl
      simp only [List.set_cons_zero, List.set_cons_succ]
      refine take1 (i := 23) (d := 32) (v := ?_) rfl (by kernel_rfl) (by kernel_rfl) (by kernel_rfl) rfl (fun _ _ _ h => h) (Or.inl ⟨by rfl, ?_⟩) (by assumption) ?_
      rotate_left
      · (intro w hSw; (try dsimp only at hSw); go_simp); with_reducible rfl
      simp only [List.set_cons_zero, List.set_cons_succ]
      refine take1 (i := 24) (d := 33) (v := ?_) rfl (by kernel_rfl) (by kernel_rfl) (by kernel_rfl) rfl (fun _ _ _ h => h) (Or.inl ⟨by rfl, ?_⟩) (by assumption) ?_
      rotate_left
      · (intro w hSw; (try dsimp only at hSw); go_simp); with_reducible rfl
      simp only [List.set_cons_zero, List.set_cons_succ]
      refine take1 (i := 25) (d := 34) (v := ?_) rfl (by kernel_rfl) (by kernel_rfl) (by kernel_rfl) rfl (fun _ _ _ h => h) (Or.inl ⟨by rfl, ?_⟩) (by assumption) ?_
      rotate_left
      · (intro w hSw; (try dsimp only at hSw); go_simp); with_reducible rfl
      simp only [List.set_cons_zero, List.set_cons_succ]
      refine take1 (i := 26) (d := 35) (v := ?_) rfl (by kernel_rfl) (by kernel_rfl) (by kernel_rfl) rfl (fun _ _ _ h => h) (Or.inl ⟨by rfl, ?_⟩) (by assumption) ?_
      rotate_left
      · (intro w hSw; (try dsimp only at hSw); go_simp); with_reducible rfl
      simp only [List.set_cons_zero, List.set_cons_succ]
      refine take1 (i := 27) (d := 36) (v := ?_) rfl (by kernel_rfl) (by kernel_rfl) (by kernel_rfl) rfl (fun _ _ _ h => h) (Or.inl ⟨by rfl, ?_⟩) (by assumption) ?_
      rotate_left
      · (intro w hSw; (try dsimp only at hSw); go_simp); with_reducible rfl
      simp only [List.set_cons_zero, List.set_cons_succ]
      refine take1 (i := 28) (d := 37) (v := ?_) rfl (by kernel_rfl) (by kernel_rfl) (by kernel_rfl) rfl (fun _ _ _ h => h) (Or.inl ⟨by rfl, ?_⟩) (by assumption) ?_
      rotate_left
      · (intro w hSw; (try dsimp only at hSw); go_simp); with_reducible rfl
      simp only [List.set_cons_zero, List.set_cons_succ]
      refine take1 (i := 29) (d := 38) (v := ?_) rfl (by kernel_rfl) (by kernel_rfl) (by kernel_rfl) rfl (fun _ _ _ h => h) (Or.inl ⟨by rfl, ?_⟩) (by assumption) ?_
      rotate_left
      · (intro w hSw; (try dsimp only at hSw); go_simp); with_reducible rfl
      simp only [List.set_cons_zero, List.set_cons_succ]
      refine take1 (i := 30) (d := 39) (v := ?_) rfl (by kernel_rfl) (by kernel_rfl) (by kernel_rfl) rfl (fun _ _ _ h => h) (Or.inl ⟨by rfl, ?_⟩) (by assumption) ?_
      rotate_left
      · (intro w hSw; (try dsimp only at hSw); go_simp); with_reducible rfl
      simp only [List.set_cons_zero, List.set_cons_succ]
      refine take1 (i := 31) (d := 40) (v := ?_) rfl (by kernel_rfl) (by kernel_rfl) (by kernel_rfl) rfl (fun _ _ _ h => h) (Or.inl ⟨by rfl, ?_⟩) (by assumption) ?_
      rotate_left
      · (intro w hSw; (try dsimp only at hSw); go_simp); with_reducible rfl
      simp only [List.set_cons_zero, List.set_cons_succ]
      refine take1 (i := 32) (d := 41) (v := ?_) rfl (by kernel_rfl) (by kernel_rfl) (by kernel_rfl) rfl (fun _ _ _ h => h) (Or.inl ⟨by rfl, ?_⟩) (by assumption) ?_
      rotate_left
      · (intro w hSw; (try dsimp only at hSw); go_simp); with_reducible rfl
      simp only [List.set_cons_zero, List.set_cons_succ]
      refine take1 (i := 34) (d := 43) (v := ?_) rfl (by kernel_rfl) (by kernel_rfl) (by kernel_rfl) rfl (fun _ _ _ h => h) (Or.inl ⟨by rfl, ?_⟩) (by assumption) ?_
      rotate_left
      · (intro w hSw; (try dsimp only at hSw); go_simp); with_reducible rfl
      simp only [List.set_cons_zero, List.set_cons_succ]
      refine take1 (i := 35) (d := 44) (v := ?_) rfl (by kernel_rfl) (by kernel_rfl) (by kernel_rfl) rfl (fun _ _ _ h => h) (Or.inl ⟨by rfl, ?_⟩) (by assumption) ?_
      rotate_left
      · (intro w hSw; (try dsimp only at hSw); go_simp); with_reducible rfl
      simp only [List.set_cons_zero, List.set_cons_succ]
      refine take1 (i := 36) (d := 45) (v := ?_) rfl (by kernel_rfl) (by kernel_rfl) (by kernel_rfl) rfl (fun _ _ _ h => h) (Or.inl ⟨by rfl, ?_⟩) (by assumption) ?_
      rotate_left
      · (intro w hSw; (try dsimp only at hSw); go_simp); with_reducible rfl
      simp only [List.set_cons_zero, List.set_cons_succ]
      refine take1 (i := 37) (d := 46) (v := ?_) rfl (by kernel_rfl) (by kernel_rfl) (by kernel_rfl) rfl (fun _ _ _ h => h) (Or.inl ⟨by rfl, ?_⟩) (by assumption) ?_
      rotate_left
      · (intro w hSw; (try dsimp only at hSw); go_simp); with_reducible rfl
      simp only [List.set_cons_zero, List.set_cons_succ]
      refine wpAnyH_ready (rs := [33]) (by kernel_rfl) (by simp) (AllReadyH.cons rfl (fun Kreg hKreg => ?_) AllReadyH.nil)
      go_simp
      refine (nameOf_any ⟨ya, yb, yk, ys, yt, yu, yz⟩ _).mono ?_; rintro e w2 ⟨rfl, B2⟩; have hgW := hgd.below B2 hgd.lt; have kbW := kbd.below B2 kbd.lt; have bW := B2
      go_wp2_with fail
      refine hKreg.out _ _ (⟨hgW.cell 0, hgW.cell 1, hgW.cell 4, hgW.cell 5, hgW.cell 6, hgW.cell 7, hgW.cell 8, hgW.cell 9, hgW.cell 10, hgW.cell 11, kbW.cell 0, kbW.cell 1, kbW.cell 11, kbW.cell 12, kbW.cell 13, kbW.cell 14, kbW.cell 15, kbW.cell 16, kbW.cell 17⟩) (fun hHeld => ?_)
      clear hKreg Kreg
      try simp only [Act.put, List.setIfInBounds_toArray, List.set_cons_zero, List.set_cons_succ]
      refine wpAnyH_ready (rs := [38]) (by kernel_rfl) (by simp) (AllReadyH.cons rfl (fun Kreg hKreg => ?_) AllReadyH.nil)
      go_simp
      refine (nameOf_any ⟨xa, xb, xk, xs, xt, xu, xz⟩ _).mono ?_; rintro e w3 ⟨rfl, B3⟩; have hgW := hgW.below B3 hgW.lt; have kbW := kbW.below B3 kbW.lt; have bW := bW.trans (B3.mono bW.size)
      go_wp2_with fail
      refine hKreg.out _ _ (⟨hgW.cell 0, hgW.cell 1, hgW.cell 4, hgW.cell 5, hgW.cell 6, hgW.cell 7, hgW.cell 8, hgW.cell 9, hgW.cell 10, hgW.cell 11, kbW.cell 0, kbW.cell 1, kbW.cell 11, kbW.cell 12, kbW.cell 13, kbW.cell 14, kbW.cell 15, kbW.cell 16, kbW.cell 17⟩) (fun hHeld => ?_)
      clear hKreg Kreg
      try simp only [Act.put, List.setIfInBounds_toArray, List.set_cons_zero, List.set_cons_succ]
      refine take1 (i := 39) (d := 48) (v := ?_) rfl (by kernel_rfl) (by kernel_rfl) (by kernel_rfl) rfl (fun _ _ _ h => h) (Or.inl ⟨by rfl, ?_⟩) (by assumption) ?_
      rotate_left
      · (intro w hSw; (try dsimp only at hSw); go_simp); with_reducible rfl
      simp only [List.set_cons_zero, List.set_cons_succ]
      refine take1 (i := 40) (d := 49) (v := ?_) rfl (by kernel_rfl) (by kernel_rfl) (by kernel_rfl) rfl (fun _ _ _ h => h) (Or.inl ⟨by rfl, ?_⟩) (by assumption) ?_
      rotate_left
      · (intro w hSw; (try dsimp only at hSw); go_simp); with_reducible rfl
      simp only [List.set_cons_zero, List.set_cons_succ]
      refine wpAnyH_done (by kernel_rfl) ?_ _
      go_wp2_with fail
      go_meet
      exact ⟨rfl, (Below.refl _ w1).drew.trans bW⟩
      -- ]]
    have hb1 : ((yb : Int) == (xb : Int)) = true := by rw [hb]; simp
    obtain rfl : fb = true := HFB.out.trans (by rw [decide_eq_true hd, decide_eq_true hs, decide_eq_true ha, decide_eq_true hb]; rfl)
    clear HFB hd hs ha hb
    -- [[
    refine wp_region_held_drew (S := fun W : World => W.cell? ⟨g, 0, none⟩ = some (.int .u8 (id : Int)) ∧ W.cell? ⟨g, 1, none⟩ = some (.int .i64 (n : Int)) ∧ W.cell? ⟨g, 4, none⟩ = some (.int .u8 (xa : Int)) ∧ W.cell? ⟨g, 5, none⟩ = some (.int .u32 (xb : Int)) ∧ W.cell? ⟨g, 6, none⟩ = some (.int .u8 (xk : Int)) ∧ W.cell? ⟨g, 7, none⟩ = some (.string ⟨xs.toArray⟩) ∧ W.cell? ⟨g, 8, none⟩ = some (.string ⟨xt.toArray⟩) ∧ W.cell? ⟨g, 9, none⟩ = some (.string ⟨xu.toArray⟩) ∧ W.cell? ⟨g, 10, none⟩ = some (.int .u8 (xz : Int)) ∧ W.cell? ⟨g, 11, none⟩ = some (.bool true) ∧ W.cell? ⟨gb, 0, none⟩ = some (.int .u8 (ls : Int)) ∧ W.cell? ⟨gb, 1, none⟩ = some (.int .u8 (ld : Int)) ∧ W.cell? ⟨gb, 11, none⟩ = some (.int .u8 (ya : Int)) ∧ W.cell? ⟨gb, 12, none⟩ = some (.int .u32 (yb : Int)) ∧ W.cell? ⟨gb, 13, none⟩ = some (.int .u8 (yk : Int)) ∧ W.cell? ⟨gb, 14, none⟩ = some (.string ⟨ys.toArray⟩) ∧ W.cell? ⟨gb, 15, none⟩ = some (.string ⟨yt.toArray⟩) ∧ W.cell? ⟨gb, 16, none⟩ = some (.string ⟨yu.toArray⟩) ∧ W.cell? ⟨gb, 17, none⟩ = some (.int .u8 (yz : Int))) (by kernel_rfl) (⟨hgd.cell 0, hgd.cell 1, hgd.cell 4, hgd.cell 5, hgd.cell 6, hgd.cell 7, hgd.cell 8, hgd.cell 9, hgd.cell 10, hgd.cell 11, kbd.cell 0, kbd.cell 1, kbd.cell 11, kbd.cell 12, kbd.cell 13, kbd.cell 14, kbd.cell 15, kbd.cell 16, kbd.cell 17⟩) (fun hHeld => ?_)
    refine take1 (i := 0) (d := 9) (v := ?_) rfl (by kernel_rfl) (by kernel_rfl) (by kernel_rfl) rfl (fun _ _ _ h => h) (Or.inl ⟨by rfl, ?_⟩) (by assumption) ?_
    rotate_left
    · (intro w hSw; (try dsimp only at hSw); go_simp); with_reducible rfl
    simp only [List.set_cons_zero, List.set_cons_succ]
    refine take1 (i := 1) (d := 10) (v := ?_) rfl (by kernel_rfl) (by kernel_rfl) (by kernel_rfl) rfl (fun _ _ _ h => h) (Or.inl ⟨by rfl, ?_⟩) (by assumption) ?_
    rotate_left
    · (intro w hSw; (try dsimp only at hSw); go_simp); with_reducible rfl
    simp only [List.set_cons_zero, List.set_cons_succ]
    refine take1 (i := 2) (d := 11) (v := ?_) rfl (by kernel_rfl) (by kernel_rfl) (by kernel_rfl) rfl (fun _ _ _ h => h) (Or.inl ⟨by rfl, ?_⟩) (by assumption) ?_
    rotate_left
    · (intro w hSw; (try dsimp only at hSw); go_simp); with_reducible rfl
    simp only [List.set_cons_zero, List.set_cons_succ]
    refine take1 (i := 3) (d := 12) (v := ?_) rfl (by kernel_rfl) (by kernel_rfl) (by kernel_rfl) rfl (fun _ _ _ h => h) (Or.inl ⟨by rfl, ?_⟩) (by assumption) ?_
    rotate_left
    · (intro w hSw; (try dsimp only at hSw); go_simp); with_reducible rfl
    simp only [List.set_cons_zero, List.set_cons_succ]
    refine take1 (i := 4) (d := 13) (v := ?_) rfl (by kernel_rfl) (by kernel_rfl) (by kernel_rfl) rfl (fun _ _ _ h => h) (Or.inl ⟨by rfl, ?_⟩) (by assumption) ?_
    rotate_left
    · (intro w hSw; (try dsimp only at hSw); go_simp); with_reducible rfl
    simp only [List.set_cons_zero, List.set_cons_succ]
    refine take1 (i := 5) (d := 14) (v := ?_) rfl (by kernel_rfl) (by kernel_rfl) (by kernel_rfl) rfl (fun _ _ _ h => h) (Or.inl ⟨by rfl, ?_⟩) (by assumption) ?_
    rotate_left
    · (intro w hSw; (try dsimp only at hSw); go_simp); with_reducible rfl
    simp only [List.set_cons_zero, List.set_cons_succ]
    refine take1 (i := 6) (d := 15) (v := ?_) rfl (by kernel_rfl) (by kernel_rfl) (by kernel_rfl) rfl (fun _ _ _ h => h) (Or.inl ⟨by rfl, ?_⟩) (by assumption) ?_
    rotate_left
    · (intro w hSw; (try dsimp only at hSw); go_simp); with_reducible rfl
    simp only [List.set_cons_zero, List.set_cons_succ]
    refine take1 (i := 7) (d := 16) (v := ?_) rfl (by kernel_rfl) (by kernel_rfl) (by kernel_rfl) rfl (fun _ _ _ h => h) (Or.inl ⟨by rfl, ?_⟩) (by assumption) ?_
    rotate_left
    · (intro w hSw; (try dsimp only at hSw); go_simp); with_reducible rfl
    simp only [List.set_cons_zero, List.set_cons_succ]
    refine take1 (i := 8) (d := 17) (v := ?_) rfl (by kernel_rfl) (by kernel_rfl) (by kernel_rfl) rfl (fun _ _ _ h => h) (Or.inl ⟨by rfl, ?_⟩) (by assumption) ?_
    rotate_left
    · (intro w hSw; (try dsimp only at hSw); go_simp); with_reducible rfl
    simp only [List.set_cons_zero, List.set_cons_succ]
    refine take1 (i := 9) (d := 18) (v := ?_) rfl (by kernel_rfl) (by kernel_rfl) (by kernel_rfl) rfl (fun _ _ _ h => h) (Or.inl ⟨by rfl, ?_⟩) (by assumption) ?_
    rotate_left
    · (intro w hSw; (try dsimp only at hSw); go_simp); with_reducible rfl
    simp only [List.set_cons_zero, List.set_cons_succ]
    refine take1 (i := 10) (d := 19) (v := ?_) rfl (by kernel_rfl) (by kernel_rfl) (by kernel_rfl) rfl (fun _ _ _ h => h) (Or.inl ⟨by rfl, ?_⟩) (by assumption) ?_
    rotate_left
    · (intro w hSw; (try dsimp only at hSw); go_simp); with_reducible rfl
    simp only [List.set_cons_zero, List.set_cons_succ]
    refine take1 (i := 11) (d := 20) (v := ?_) rfl (by kernel_rfl) (by kernel_rfl) (by kernel_rfl) rfl (fun _ _ _ h => h) (Or.inl ⟨by rfl, ?_⟩) (by assumption) ?_
    rotate_left
    · (intro w hSw; (try dsimp only at hSw); go_simp); with_reducible rfl
    simp only [List.set_cons_zero, List.set_cons_succ]
    refine take1 (i := 12) (d := 21) (v := ?_) rfl (by kernel_rfl) (by kernel_rfl) (by kernel_rfl) rfl (fun _ _ _ h => h) (Or.inl ⟨by rfl, ?_⟩) (by assumption) ?_
    rotate_left
    · (intro w hSw; (try dsimp only at hSw); go_simp); with_reducible rfl
    simp only [List.set_cons_zero, List.set_cons_succ]
    refine take1 (i := 13) (d := 22) (v := ?_) rfl (by kernel_rfl) (by kernel_rfl) (by kernel_rfl) rfl (fun _ _ _ h => h) (Or.inl ⟨by rfl, ?_⟩) (by assumption) ?_
    rotate_left
    · (intro w hSw; (try dsimp only at hSw); go_simp); with_reducible rfl
    simp only [List.set_cons_zero, List.set_cons_succ]
    refine take1 (i := 14) (d := 23) (v := ?_) rfl (by kernel_rfl) (by kernel_rfl) (by kernel_rfl) rfl (fun _ _ _ h => h) (Or.inl ⟨by rfl, ?_⟩) (by assumption) ?_
    rotate_left
    · (intro w hSw; (try dsimp only at hSw); go_simp); with_reducible rfl
    simp only [List.set_cons_zero, List.set_cons_succ]
    refine take1 (i := 15) (d := 24) (v := ?_) rfl (by kernel_rfl) (by kernel_rfl) (by kernel_rfl) rfl (fun _ _ _ h => h) (Or.inl ⟨by rfl, ?_⟩) (by assumption) ?_
    rotate_left
    · (intro w hSw; (try dsimp only at hSw); go_simp); with_reducible rfl
    simp only [List.set_cons_zero, List.set_cons_succ]
    refine take1 (i := 16) (d := 25) (v := ?_) rfl (by kernel_rfl) (by kernel_rfl) (by kernel_rfl) rfl (fun _ _ _ h => h) (Or.inl ⟨by rfl, ?_⟩) (by assumption) ?_
    rotate_left
    · (intro w hSw; (try dsimp only at hSw); go_simp); with_reducible rfl
    simp only [List.set_cons_zero, List.set_cons_succ]
    refine take1 (i := 17) (d := 26) (v := ?_) rfl (by kernel_rfl) (by kernel_rfl) (by kernel_rfl) rfl (fun _ _ _ h => h) (Or.inl ⟨by rfl, ?_⟩) (by assumption) ?_
    rotate_left
    · (intro w hSw; (try dsimp only at hSw); go_simp); with_reducible rfl
    simp only [List.set_cons_zero, List.set_cons_succ]
    refine take1 (i := 18) (d := 27) (v := ?_) rfl (by kernel_rfl) (by kernel_rfl) (by kernel_rfl) rfl (fun _ _ _ h => h) (Or.inl ⟨by rfl, ?_⟩) (by assumption) ?_
    rotate_left
    · (intro w hSw; (try dsimp only at hSw); go_simp); with_reducible rfl
    simp only [List.set_cons_zero, List.set_cons_succ]
    refine take1 (i := 19) (d := 28) (v := ?_) rfl (by kernel_rfl) (by kernel_rfl) (by kernel_rfl) rfl (fun _ _ _ h => h) (Or.inl ⟨by rfl, ?_⟩) (by assumption) ?_
    rotate_left
    · (intro w hSw; (try dsimp only at hSw); go_simp); with_reducible rfl
    simp only [List.set_cons_zero, List.set_cons_succ]
    refine take1 (i := 20) (d := 29) (v := ?_) rfl (by kernel_rfl) (by kernel_rfl) (by kernel_rfl) rfl (fun _ _ _ h => h) (Or.inl ⟨by rfl, ?_⟩) (by assumption) ?_
    rotate_left
    · (intro w hSw; (try dsimp only at hSw); go_simp); with_reducible rfl
    simp only [List.set_cons_zero, List.set_cons_succ]
    refine take1 (i := 21) (d := 30) (v := ?_) rfl (by kernel_rfl) (by kernel_rfl) (by kernel_rfl) rfl (fun _ _ _ h => h) (Or.inl ⟨by rfl, ?_⟩) (by assumption) ?_
    rotate_left
    · (intro w hSw; (try dsimp only at hSw); go_simp); with_reducible rfl
    simp only [List.set_cons_zero, List.set_cons_succ]
    refine take1 (i := 22) (d := 31) (v := ?_) rfl (by kernel_rfl) (by kernel_rfl) (by kernel_rfl) rfl (fun _ _ _ h => h) (Or.inl ⟨by rfl, ?_⟩) (by assumption) ?_
    rotate_left
    · (intro w hSw; (try dsimp only at hSw); go_simp); with_reducible rfl
    simp only [List.set_cons_zero, List.set_cons_succ]
    refine take1 (i := 23) (d := 32) (v := ?_) rfl (by kernel_rfl) (by kernel_rfl) (by kernel_rfl) rfl (fun _ _ _ h => h) (Or.inl ⟨by rfl, ?_⟩) (by assumption) ?_
    rotate_left
    · (intro w hSw; (try dsimp only at hSw); go_simp); with_reducible rfl
    simp only [List.set_cons_zero, List.set_cons_succ]
    refine take1 (i := 24) (d := 33) (v := ?_) rfl (by kernel_rfl) (by kernel_rfl) (by kernel_rfl) rfl (fun _ _ _ h => h) (Or.inl ⟨by rfl, ?_⟩) (by assumption) ?_
    rotate_left
    · (intro w hSw; (try dsimp only at hSw); go_simp); with_reducible rfl
    simp only [List.set_cons_zero, List.set_cons_succ]
    refine take1 (i := 25) (d := 34) (v := ?_) rfl (by kernel_rfl) (by kernel_rfl) (by kernel_rfl) rfl (fun _ _ _ h => h) (Or.inl ⟨by rfl, ?_⟩) (by assumption) ?_
    rotate_left
    · (intro w hSw; (try dsimp only at hSw); go_simp); with_reducible rfl
    simp only [List.set_cons_zero, List.set_cons_succ]
    refine take1 (i := 26) (d := 35) (v := ?_) rfl (by kernel_rfl) (by kernel_rfl) (by kernel_rfl) rfl (fun _ _ _ h => h) (Or.inl ⟨by rfl, ?_⟩) (by assumption) ?_
    rotate_left
    · (intro w hSw; (try dsimp only at hSw); go_simp); with_reducible rfl
    simp only [List.set_cons_zero, List.set_cons_succ]
    refine take1 (i := 27) (d := 36) (v := ?_) rfl (by kernel_rfl) (by kernel_rfl) (by kernel_rfl) rfl (fun _ _ _ h => h) (Or.inl ⟨by rfl, ?_⟩) (by assumption) ?_
    rotate_left
    · (intro w hSw; (try dsimp only at hSw); go_simp); with_reducible rfl
    simp only [List.set_cons_zero, List.set_cons_succ]
    refine take1 (i := 28) (d := 37) (v := ?_) rfl (by kernel_rfl) (by kernel_rfl) (by kernel_rfl) rfl (fun _ _ _ h => h) (Or.inl ⟨by rfl, ?_⟩) (by assumption) ?_
    rotate_left
    · (intro w hSw; (try dsimp only at hSw); go_simp); with_reducible rfl
    simp only [List.set_cons_zero, List.set_cons_succ]
    refine take1 (i := 29) (d := 38) (v := ?_) rfl (by kernel_rfl) (by kernel_rfl) (by kernel_rfl) rfl (fun _ _ _ h => h) (Or.inl ⟨by rfl, ?_⟩) (by assumption) ?_
    rotate_left
    · (intro w hSw; (try dsimp only at hSw); go_simp); with_reducible rfl
    simp only [List.set_cons_zero, List.set_cons_succ]
    refine take1 (i := 30) (d := 39) (v := ?_) rfl (by kernel_rfl) (by kernel_rfl) (by kernel_rfl) rfl (fun _ _ _ h => h) (Or.inl ⟨by rfl, ?_⟩) (by assumption) ?_
    rotate_left
    · (intro w hSw; (try dsimp only at hSw); go_simp); with_reducible rfl
    simp only [List.set_cons_zero, List.set_cons_succ]
    refine take1 (i := 31) (d := 40) (v := ?_) rfl (by kernel_rfl) (by kernel_rfl) (by kernel_rfl) rfl (fun _ _ _ h => h) (Or.inl ⟨by rfl, ?_⟩) (by assumption) ?_
    rotate_left
    · (intro w hSw; (try dsimp only at hSw); go_simp); with_reducible rfl
    simp only [List.set_cons_zero, List.set_cons_succ]
    refine take1 (i := 32) (d := 41) (v := ?_) rfl (by kernel_rfl) (by kernel_rfl) (by kernel_rfl) rfl (fun _ _ _ h => h) (Or.inl ⟨by rfl, ?_⟩) (by assumption) ?_
    rotate_left
    · (intro w hSw; (try dsimp only at hSw); go_simp); with_reducible rfl
    simp only [List.set_cons_zero, List.set_cons_succ]
    refine take1 (i := 34) (d := 43) (v := ?_) rfl (by kernel_rfl) (by kernel_rfl) (by kernel_rfl) rfl (fun _ _ _ h => h) (Or.inl ⟨by rfl, ?_⟩) (by assumption) ?_
    rotate_left
    · (intro w hSw; (try dsimp only at hSw); go_simp); with_reducible rfl
    simp only [List.set_cons_zero, List.set_cons_succ]
    refine take1 (i := 35) (d := 44) (v := ?_) rfl (by kernel_rfl) (by kernel_rfl) (by kernel_rfl) rfl (fun _ _ _ h => h) (Or.inl ⟨by rfl, ?_⟩) (by assumption) ?_
    rotate_left
    · (intro w hSw; (try dsimp only at hSw); go_simp); with_reducible rfl
    simp only [List.set_cons_zero, List.set_cons_succ]
    refine take1 (i := 36) (d := 45) (v := ?_) rfl (by kernel_rfl) (by kernel_rfl) (by kernel_rfl) rfl (fun _ _ _ h => h) (Or.inl ⟨by rfl, ?_⟩) (by assumption) ?_
    rotate_left
    · (intro w hSw; (try dsimp only at hSw); go_simp); with_reducible rfl
    simp only [List.set_cons_zero, List.set_cons_succ]
    refine take1 (i := 37) (d := 46) (v := ?_) rfl (by kernel_rfl) (by kernel_rfl) (by kernel_rfl) rfl (fun _ _ _ h => h) (Or.inl ⟨by rfl, ?_⟩) (by assumption) ?_
    rotate_left
    · (intro w hSw; (try dsimp only at hSw); go_simp); with_reducible rfl
    simp only [List.set_cons_zero, List.set_cons_succ]
    refine wpAnyH_ready (rs := [33]) (by kernel_rfl) (by simp) (AllReadyH.cons rfl (fun Kreg hKreg => ?_) AllReadyH.nil)
    go_simp
    refine (nameOf_any ⟨ya, yb, yk, ys, yt, yu, yz⟩ _).mono ?_; rintro e w2 ⟨rfl, B2⟩; have hgW := hgd.below B2 hgd.lt; have kbW := kbd.below B2 kbd.lt; have bW := B2
    go_wp2_with fail
    refine hKreg.out _ _ (⟨hgW.cell 0, hgW.cell 1, hgW.cell 4, hgW.cell 5, hgW.cell 6, hgW.cell 7, hgW.cell 8, hgW.cell 9, hgW.cell 10, hgW.cell 11, kbW.cell 0, kbW.cell 1, kbW.cell 11, kbW.cell 12, kbW.cell 13, kbW.cell 14, kbW.cell 15, kbW.cell 16, kbW.cell 17⟩) (fun hHeld => ?_)
    clear hKreg Kreg
    try simp only [Act.put, List.setIfInBounds_toArray, List.set_cons_zero, List.set_cons_succ]
    refine wpAnyH_ready (rs := [38]) (by kernel_rfl) (by simp) (AllReadyH.cons rfl (fun Kreg hKreg => ?_) AllReadyH.nil)
    go_simp
    refine (nameOf_any ⟨xa, xb, xk, xs, xt, xu, xz⟩ _).mono ?_; rintro e w3 ⟨rfl, B3⟩; have hgW := hgW.below B3 hgW.lt; have kbW := kbW.below B3 kbW.lt; have bW := bW.trans (B3.mono bW.size)
    go_wp2_with fail
    refine hKreg.out _ _ (⟨hgW.cell 0, hgW.cell 1, hgW.cell 4, hgW.cell 5, hgW.cell 6, hgW.cell 7, hgW.cell 8, hgW.cell 9, hgW.cell 10, hgW.cell 11, kbW.cell 0, kbW.cell 1, kbW.cell 11, kbW.cell 12, kbW.cell 13, kbW.cell 14, kbW.cell 15, kbW.cell 16, kbW.cell 17⟩) (fun hHeld => ?_)
    clear hKreg Kreg
    try simp only [Act.put, List.setIfInBounds_toArray, List.set_cons_zero, List.set_cons_succ]
    refine take1 (i := 39) (d := 48) (v := ?_) rfl (by kernel_rfl) (by kernel_rfl) (by kernel_rfl) rfl (fun _ _ _ h => h) (Or.inl ⟨by rfl, ?_⟩) (by assumption) ?_
    rotate_left
    · (intro w hSw; (try dsimp only at hSw); go_simp); with_reducible rfl
    simp only [List.set_cons_zero, List.set_cons_succ]
    refine take1 (i := 40) (d := 49) (v := ?_) rfl (by kernel_rfl) (by kernel_rfl) (by kernel_rfl) rfl (fun _ _ _ h => h) (Or.inl ⟨by rfl, ?_⟩) (by assumption) ?_
    rotate_left
    · (intro w hSw; (try dsimp only at hSw); go_simp); with_reducible rfl
    simp only [List.set_cons_zero, List.set_cons_succ]
    refine wpAnyH_done (by kernel_rfl) ?_ _
    go_wp2_with fail
    go_meet
    exact ⟨rfl, (Below.refl _ w1).drew.trans bW⟩
    -- ]]
  case rest =>
    obtain ⟨rfl, B1⟩ := hcut
    have hg := hg0.below B1 hg0.lt
    have kb := kb0.below B1 kb0.lt
    have kl := kl0.below B1 kl0.lt
    have kr := kr0.below B1 kr0.lt
    have bw := grown_step bw0 (only_of_below B1 (some g))
    clear kl0 kr0 hg0 bw0 kb0 B1 hgd kbd
    cases fb
    · have hr := HR.out
      simp only [if_true] at hr
      subst hr
      obtain ⟨wA, hstA, hgA, klA, krA, bwA⟩ : ∃ wA, (Instr.storeAt 47 (.pointer (some ⟨gl, 0, none⟩)) (.agg #[.int .u8 0, .int .u8 0, .int .u8 0, .int .u64 0, .int .u8 0, .int .u64 0, .int .u64 0, .int .u8 0, .string ⟨#[]⟩, .slice none 0 0, .slice none 0 0, .int .u8 0, .int .u32 0, .int .u8 0, .string ⟨#[]⟩, .string ⟨#[]⟩, .string ⟨#[]⟩, .int .u8 0, .int .u8 0, .string ⟨#[]⟩])).run Try.prog _ = .ok () wA ∧ Blk wA g 81 #[.int .u8 (id : Int), .int .i64 (n : Int), .int .u8 (node : Int), .int .u32 (seq : Int), .int .u8 (xa : Int), .int .u32 (xb : Int), .int .u8 (xk : Int), .string ⟨xs.toArray⟩, .string ⟨xt.toArray⟩, .string ⟨xu.toArray⟩, .int .u8 (xz : Int), .bool wt] ∧ Blk wA gl 47 #[.int .u8 0, .int .u8 0, .int .u8 0, .int .u64 0, .int .u8 0, .int .u64 0, .int .u64 0, .int .u8 0, .string ⟨#[]⟩, .slice none 0 0, .slice none 0 0, .int .u8 0, .int .u32 0, .int .u8 0, .string ⟨#[]⟩, .string ⟨#[]⟩, .string ⟨#[]⟩, .int .u8 0, .int .u8 0, .string ⟨#[]⟩] ∧ Blk wA gr 43 #[.int .u8 0, .string ⟨#[]⟩] ∧ w.grownBy wA (some g) :=
        ⟨_, blk_store kl rfl size_lt rfl, hg.setRowFar hgl, kl.setRow, kr.setRowFar (Ne.symm hlr), grown_setRow bw (.inl hwl)⟩
      obtain ⟨wB, hstB, hgB, klB, krB, bwB⟩ : ∃ wB, (Instr.storeAt 43 (.pointer (some ⟨gr, 0, none⟩)) (.agg #[.int .u8 0, .string ⟨#[]⟩])).run Try.prog wA = .ok () wB ∧ Blk wB g 81 #[.int .u8 (id : Int), .int .i64 (n : Int), .int .u8 (node : Int), .int .u32 (seq : Int), .int .u8 (xa : Int), .int .u32 (xb : Int), .int .u8 (xk : Int), .string ⟨xs.toArray⟩, .string ⟨xt.toArray⟩, .string ⟨xu.toArray⟩, .int .u8 (xz : Int), .bool wt] ∧ Blk wB gl 47 #[.int .u8 0, .int .u8 0, .int .u8 0, .int .u64 0, .int .u8 0, .int .u64 0, .int .u64 0, .int .u8 0, .string ⟨#[]⟩, .slice none 0 0, .slice none 0 0, .int .u8 0, .int .u32 0, .int .u8 0, .string ⟨#[]⟩, .string ⟨#[]⟩, .string ⟨#[]⟩, .int .u8 0, .int .u8 0, .string ⟨#[]⟩] ∧ Blk wB gr 43 #[.int .u8 0, .string ⟨#[]⟩] ∧ w.grownBy wB (some g) :=
        ⟨_, blk_store krA rfl size_reply rfl, hgA.setRowFar hgr, klA.setRowFar hlr, krA.setRow, grown_setRow bwA (.inl hwr)⟩
      have HL := Lib.hid (blk_loadVar (P := Try.prog) (ty := 47) klB Try.underlying47 rfl size_lt)
      have HRp := Lib.hid (blk_loadVar (P := Try.prog) (ty := 43) krB Try.underlying43 rfl size_reply)
      have HG := Lib.hid (And.intro hgB bwB)
      clear hg kl kr bw hgA klA krA bwA hgB klB krB bwB
      go_wp2_with (first | refine wpList_store (by rfl) (.tmp 4) (.tmp 50) (by rfl) (by rfl) (by rfl) hstA ?_ | refine wpList_store (by rfl) (.tmp 6) (.tmp 51) (by rfl) (by rfl) (by rfl) hstB ?_)
      exact bodyPost_ret (v := .tuple #[.agg #[.int .u8 0, .int .u8 0, .int .u8 0, .int .u64 0, .int .u8 0, .int .u64 0, .int .u64 0, .int .u8 0, .string ⟨#[]⟩, .slice none 0 0, .slice none 0 0, .int .u8 0, .int .u32 0, .int .u8 0, .string ⟨#[]⟩, .string ⟨#[]⟩, .string ⟨#[]⟩, .int .u8 0, .int .u8 0, .string ⟨#[]⟩], .bool false, .agg #[.int .u8 0, .string ⟨#[]⟩], .bool false]) (by simp [results, Try.results17, asAddr, HL.out, HRp.out]) rfl ⟨rfl, And.intro HG.out.1 HG.out.2⟩
    have hwt : wt = true := by
      have hh := HFB.out
      cases wt with
      | true => rfl
      | false => simp at hh
    subst hwt
    have hr := HR.out
    simp only [Bool.true_eq_false, if_false] at hr
    clear HFB
    have HR2 := Lib.hid hr
    clear hr HR
    have p2 := kb.cell 2
    have p7 := kb.cell 7
    have p18 := kb.cell 18
    have p19 := kb.cell 19
    have q1 := hg.cell 1
    have hw7 : IntKind.i64.wrap (lno : Int) = (lno : Int) := by rw [IntKind.wrap_i64]; omega
    obtain ⟨mb, hmb⟩ : ∃ mb, mb = decide (lk = 3 ∧ lno < n) := ⟨_, rfl⟩
    have HMB := Lib.hid hmb
    clear hmb
    go_upto_region 4 with fail
    have p2d : wc.drew.cell? ⟨gb, 2, none⟩ = some (.int .u8 (lk : Int)) := p2
    have p7d : wc.drew.cell? ⟨gb, 7, none⟩ = some (.int .u8 (lno : Int)) := p7
    have q1d : wc.drew.cell? ⟨g, 1, none⟩ = some (.int .i64 (n : Int)) := q1
    go_cut [54] (fun v wx => v = .bool mb ∧ Below wc.heap.size wc wx)
    case first =>
      clear hg kb kl kr bw HA HR2
      by_cases hk3 : lk = 3
      rotate_left
      · obtain rfl : mb = false := HMB.out.trans (decide_eq_false (fun h => hk3 h.1))
        have hk1 : ((lk : Int) == 3) = false := beq_eq_false_iff_ne.2 (by omega)
        clear HMB hk3
        refine wp_region_held_drew (S := fun W : World => W.cell? ⟨gb, 2, none⟩ = some (.int .u8 (lk : Int)) ∧ W.cell? ⟨gb, 7, none⟩ = some (.int .u8 (lno : Int)) ∧ W.cell? ⟨g, 1, none⟩ = some (.int .i64 (n : Int))) (by kernel_rfl) (⟨p2d, p7d, q1d⟩) (fun hHeld => ?_)
        refine take1 (i := 0) (d := 55) (v := ?_) rfl (by kernel_rfl) (by kernel_rfl) (by kernel_rfl) rfl (fun _ _ _ h => h) (Or.inl ⟨by rfl, ?_⟩) (by assumption) ?_
        rotate_left
        · (intro w hSw; (try dsimp only at hSw); go_simp); with_reducible rfl
        simp only [List.set_cons_zero, List.set_cons_succ]
        refine take1 (i := 1) (d := 56) (v := ?_) rfl (by kernel_rfl) (by kernel_rfl) (by kernel_rfl) rfl (fun _ _ _ h => h) (Or.inl ⟨by rfl, ?_⟩) (by assumption) ?_
        rotate_left
        · (intro w hSw; (try dsimp only at hSw); go_simp); with_reducible rfl
        simp only [List.set_cons_zero, List.set_cons_succ]
        refine take1 (i := 2) (d := 57) (v := ?_) rfl (by kernel_rfl) (by kernel_rfl) (by kernel_rfl) rfl (fun _ _ _ h => h) (Or.inl ⟨by rfl, ?_⟩) (by assumption) ?_
        rotate_left
        · (intro w hSw; (try dsimp only at hSw); go_simp); with_reducible rfl
        simp only [List.set_cons_zero, List.set_cons_succ]
        refine take1 (i := 3) (d := 58) (v := ?_) rfl (by kernel_rfl) (by kernel_rfl) (by kernel_rfl) rfl (fun _ _ _ h => h) (Or.inl ⟨by rfl, ?_⟩) (by assumption) ?_
        rotate_left
        · (intro w hSw; (try dsimp only at hSw); go_simp); with_reducible rfl
        simp only [List.set_cons_zero, List.set_cons_succ]
        refine take1 (i := 4) (d := 59) (v := ?_) rfl (by kernel_rfl) (by kernel_rfl) (by kernel_rfl) rfl (fun _ _ _ h => h) (Or.inl ⟨by rfl, ?_⟩) (by assumption) ?_
        rotate_left
        · (intro w hSw; (try dsimp only at hSw); go_simp); with_reducible rfl
        simp only [List.set_cons_zero, List.set_cons_succ]
        refine take1 (i := 5) (d := 60) (v := undef) rfl (by kernel_rfl) (by kernel_rfl) (by kernel_rfl) rfl (fun _ _ _ h => h) (Or.inr ⟨by rfl, rfl⟩) (by assumption) ?_
        simp only [List.set_cons_zero, List.set_cons_succ]
        refine take1 (i := 6) (d := 61) (v := undef) rfl (by kernel_rfl) (by kernel_rfl) (by kernel_rfl) rfl (fun _ _ _ h => h) (Or.inr ⟨by rfl, rfl⟩) (by assumption) ?_
        simp only [List.set_cons_zero, List.set_cons_succ]
        refine take1 (i := 7) (d := 62) (v := undef) rfl (by kernel_rfl) (by kernel_rfl) (by kernel_rfl) rfl (fun _ _ _ h => h) (Or.inr ⟨by rfl, rfl⟩) (by assumption) ?_
        simp only [List.set_cons_zero, List.set_cons_succ]
        refine take1 (i := 8) (d := 63) (v := undef) rfl (by kernel_rfl) (by kernel_rfl) (by kernel_rfl) rfl (fun _ _ _ h => h) (Or.inr ⟨by rfl, rfl⟩) (by assumption) ?_
        simp only [List.set_cons_zero, List.set_cons_succ]
        refine take1 (i := 9) (d := 64) (v := undef) rfl (by kernel_rfl) (by kernel_rfl) (by kernel_rfl) rfl (fun _ _ _ h => h) (Or.inr ⟨by rfl, rfl⟩) (by assumption) ?_
        simp only [List.set_cons_zero, List.set_cons_succ]
        refine take1 (i := 10) (d := 65) (v := undef) rfl (by kernel_rfl) (by kernel_rfl) (by kernel_rfl) rfl (fun _ _ _ h => h) (Or.inr ⟨by rfl, rfl⟩) (by assumption) ?_
        simp only [List.set_cons_zero, List.set_cons_succ]
        refine take1 (i := 11) (d := 66) (v := undef) rfl (by kernel_rfl) (by kernel_rfl) (by kernel_rfl) rfl (fun _ _ _ h => h) (Or.inr ⟨by rfl, rfl⟩) (by assumption) ?_
        simp only [List.set_cons_zero, List.set_cons_succ]
        refine take1 (i := 12) (d := 67) (v := undef) rfl (by kernel_rfl) (by kernel_rfl) (by kernel_rfl) rfl (fun _ _ _ h => h) (Or.inr ⟨by rfl, rfl⟩) (by assumption) ?_
        simp only [List.set_cons_zero, List.set_cons_succ]
        refine take1 (i := 13) (d := 68) (v := undef) rfl (by kernel_rfl) (by kernel_rfl) (by kernel_rfl) rfl (fun _ _ _ h => h) (Or.inr ⟨by rfl, rfl⟩) (by assumption) ?_
        simp only [List.set_cons_zero, List.set_cons_succ]
        refine take1 (i := 14) (d := 69) (v := ?_) rfl (by kernel_rfl) (by kernel_rfl) (by kernel_rfl) rfl (fun _ _ _ h => h) (Or.inl ⟨by rfl, ?_⟩) (by assumption) ?_
        rotate_left
        · (intro w hSw; (try dsimp only at hSw); go_simp); with_reducible rfl
        simp only [List.set_cons_zero, List.set_cons_succ]
        refine take1 (i := 15) (d := 54) (v := ?_) rfl (by kernel_rfl) (by kernel_rfl) (by kernel_rfl) rfl (fun _ _ _ h => h) (Or.inl ⟨by rfl, ?_⟩) (by assumption) ?_
        rotate_left
        · (intro w hSw; (try dsimp only at hSw); go_simp); with_reducible rfl
        simp only [List.set_cons_zero, List.set_cons_succ]
        refine wpAnyH_done (by kernel_rfl) ?_ _
        go_wp2_with fail
        go_meet
        exact ⟨rfl, (Below.refl _ wc).drew⟩
      have hk1 : ((lk : Int) == 3) = true := by rw [hk3]; rfl
      by_cases hno : lno < n
      · obtain rfl : mb = true := HMB.out.trans (decide_eq_true ⟨hk3, hno⟩)
        have hno1 : (lno : Int) < (n : Int) := by omega
        clear HMB hk3 hno
        refine wp_region_held_drew (S := fun W : World => W.cell? ⟨gb, 2, none⟩ = some (.int .u8 (lk : Int)) ∧ W.cell? ⟨gb, 7, none⟩ = some (.int .u8 (lno : Int)) ∧ W.cell? ⟨g, 1, none⟩ = some (.int .i64 (n : Int))) (by kernel_rfl) (⟨p2d, p7d, q1d⟩) (fun hHeld => ?_)
        refine take1 (i := 0) (d := 55) (v := ?_) rfl (by kernel_rfl) (by kernel_rfl) (by kernel_rfl) rfl (fun _ _ _ h => h) (Or.inl ⟨by rfl, ?_⟩) (by assumption) ?_
        rotate_left
        · (intro w hSw; (try dsimp only at hSw); go_simp); with_reducible rfl
        simp only [List.set_cons_zero, List.set_cons_succ]
        refine take1 (i := 1) (d := 56) (v := ?_) rfl (by kernel_rfl) (by kernel_rfl) (by kernel_rfl) rfl (fun _ _ _ h => h) (Or.inl ⟨by rfl, ?_⟩) (by assumption) ?_
        rotate_left
        · (intro w hSw; (try dsimp only at hSw); go_simp); with_reducible rfl
        simp only [List.set_cons_zero, List.set_cons_succ]
        refine take1 (i := 2) (d := 57) (v := ?_) rfl (by kernel_rfl) (by kernel_rfl) (by kernel_rfl) rfl (fun _ _ _ h => h) (Or.inl ⟨by rfl, ?_⟩) (by assumption) ?_
        rotate_left
        · (intro w hSw; (try dsimp only at hSw); go_simp); with_reducible rfl
        simp only [List.set_cons_zero, List.set_cons_succ]
        refine take1 (i := 3) (d := 58) (v := ?_) rfl (by kernel_rfl) (by kernel_rfl) (by kernel_rfl) rfl (fun _ _ _ h => h) (Or.inl ⟨by rfl, ?_⟩) (by assumption) ?_
        rotate_left
        · (intro w hSw; (try dsimp only at hSw); go_simp); with_reducible rfl
        simp only [List.set_cons_zero, List.set_cons_succ]
        refine take1 (i := 4) (d := 59) (v := ?_) rfl (by kernel_rfl) (by kernel_rfl) (by kernel_rfl) rfl (fun _ _ _ h => h) (Or.inl ⟨by rfl, ?_⟩) (by assumption) ?_
        rotate_left
        · (intro w hSw; (try dsimp only at hSw); go_simp); with_reducible rfl
        simp only [List.set_cons_zero, List.set_cons_succ]
        refine take1 (i := 5) (d := 60) (v := ?_) rfl (by kernel_rfl) (by kernel_rfl) (by kernel_rfl) rfl (fun _ _ _ h => h) (Or.inl ⟨by rfl, ?_⟩) (by assumption) ?_
        rotate_left
        · (intro w hSw; (try dsimp only at hSw); go_simp); with_reducible rfl
        simp only [List.set_cons_zero, List.set_cons_succ]
        refine take1 (i := 6) (d := 61) (v := ?_) rfl (by kernel_rfl) (by kernel_rfl) (by kernel_rfl) rfl (fun _ _ _ h => h) (Or.inl ⟨by rfl, ?_⟩) (by assumption) ?_
        rotate_left
        · (intro w hSw; (try dsimp only at hSw); go_simp); with_reducible rfl
        simp only [List.set_cons_zero, List.set_cons_succ]
        refine take1 (i := 7) (d := 62) (v := ?_) rfl (by kernel_rfl) (by kernel_rfl) (by kernel_rfl) rfl (fun _ _ _ h => h) (Or.inl ⟨by rfl, ?_⟩) (by assumption) ?_
        rotate_left
        · (intro w hSw; (try dsimp only at hSw); go_simp); with_reducible rfl
        simp only [List.set_cons_zero, List.set_cons_succ]
        refine take1 (i := 8) (d := 63) (v := ?_) rfl (by kernel_rfl) (by kernel_rfl) (by kernel_rfl) rfl (fun _ _ _ h => h) (Or.inl ⟨by rfl, ?_⟩) (by assumption) ?_
        rotate_left
        · (intro w hSw; (try dsimp only at hSw); go_simp); with_reducible rfl
        simp only [List.set_cons_zero, List.set_cons_succ]
        refine take1 (i := 9) (d := 64) (v := ?_) rfl (by kernel_rfl) (by kernel_rfl) (by kernel_rfl) rfl (fun _ _ _ h => h) (Or.inl ⟨by rfl, ?_⟩) (by assumption) ?_
        rotate_left
        · (intro w hSw; (try dsimp only at hSw); go_simp); with_reducible rfl
        simp only [List.set_cons_zero, List.set_cons_succ]
        refine take1 (i := 10) (d := 65) (v := ?_) rfl (by kernel_rfl) (by kernel_rfl) (by kernel_rfl) rfl (fun _ _ _ h => h) (Or.inl ⟨by rfl, ?_⟩) (by assumption) ?_
        rotate_left
        · (intro w hSw; (try dsimp only at hSw); go_simp); with_reducible rfl
        simp only [List.set_cons_zero, List.set_cons_succ]
        refine take1 (i := 11) (d := 66) (v := ?_) rfl (by kernel_rfl) (by kernel_rfl) (by kernel_rfl) rfl (fun _ _ _ h => h) (Or.inl ⟨by rfl, ?_⟩) (by assumption) ?_
        rotate_left
        · (intro w hSw; (try dsimp only at hSw); go_simp); with_reducible rfl
        simp only [List.set_cons_zero, List.set_cons_succ]
        refine take1 (i := 12) (d := 67) (v := ?_) rfl (by kernel_rfl) (by kernel_rfl) (by kernel_rfl) rfl (fun _ _ _ h => h) (Or.inl ⟨by rfl, ?_⟩) (by assumption) ?_
        rotate_left
        · (intro w hSw; (try dsimp only at hSw); go_simp); with_reducible rfl
        simp only [List.set_cons_zero, List.set_cons_succ]
        refine take1 (i := 13) (d := 68) (v := ?_) rfl (by kernel_rfl) (by kernel_rfl) (by kernel_rfl) rfl (fun _ _ _ h => h) (Or.inl ⟨by rfl, ?_⟩) (by assumption) ?_
        rotate_left
        · (intro w hSw; (try dsimp only at hSw); go_simp); with_reducible rfl
        simp only [List.set_cons_zero, List.set_cons_succ]
        refine take1 (i := 14) (d := 69) (v := ?_) rfl (by kernel_rfl) (by kernel_rfl) (by kernel_rfl) rfl (fun _ _ _ h => h) (Or.inl ⟨by rfl, ?_⟩) (by assumption) ?_
        rotate_left
        · (intro w hSw; (try dsimp only at hSw); go_simp); with_reducible rfl
        simp only [List.set_cons_zero, List.set_cons_succ]
        refine take1 (i := 15) (d := 54) (v := ?_) rfl (by kernel_rfl) (by kernel_rfl) (by kernel_rfl) rfl (fun _ _ _ h => h) (Or.inl ⟨by rfl, ?_⟩) (by assumption) ?_
        rotate_left
        · (intro w hSw; (try dsimp only at hSw); go_simp); with_reducible rfl
        simp only [List.set_cons_zero, List.set_cons_succ]
        refine wpAnyH_done (by kernel_rfl) ?_ _
        go_wp2_with fail
        go_meet
        exact ⟨rfl, (Below.refl _ wc).drew⟩
      · obtain rfl : mb = false := HMB.out.trans (decide_eq_false (fun h => hno h.2))
        have hno1 : ¬ (lno : Int) < (n : Int) := by omega
        clear HMB hk3 hno
        refine wp_region_held_drew (S := fun W : World => W.cell? ⟨gb, 2, none⟩ = some (.int .u8 (lk : Int)) ∧ W.cell? ⟨gb, 7, none⟩ = some (.int .u8 (lno : Int)) ∧ W.cell? ⟨g, 1, none⟩ = some (.int .i64 (n : Int))) (by kernel_rfl) (⟨p2d, p7d, q1d⟩) (fun hHeld => ?_)
        refine take1 (i := 0) (d := 55) (v := ?_) rfl (by kernel_rfl) (by kernel_rfl) (by kernel_rfl) rfl (fun _ _ _ h => h) (Or.inl ⟨by rfl, ?_⟩) (by assumption) ?_
        rotate_left
        · (intro w hSw; (try dsimp only at hSw); go_simp); with_reducible rfl
        simp only [List.set_cons_zero, List.set_cons_succ]
        refine take1 (i := 1) (d := 56) (v := ?_) rfl (by kernel_rfl) (by kernel_rfl) (by kernel_rfl) rfl (fun _ _ _ h => h) (Or.inl ⟨by rfl, ?_⟩) (by assumption) ?_
        rotate_left
        · (intro w hSw; (try dsimp only at hSw); go_simp); with_reducible rfl
        simp only [List.set_cons_zero, List.set_cons_succ]
        refine take1 (i := 2) (d := 57) (v := ?_) rfl (by kernel_rfl) (by kernel_rfl) (by kernel_rfl) rfl (fun _ _ _ h => h) (Or.inl ⟨by rfl, ?_⟩) (by assumption) ?_
        rotate_left
        · (intro w hSw; (try dsimp only at hSw); go_simp); with_reducible rfl
        simp only [List.set_cons_zero, List.set_cons_succ]
        refine take1 (i := 3) (d := 58) (v := ?_) rfl (by kernel_rfl) (by kernel_rfl) (by kernel_rfl) rfl (fun _ _ _ h => h) (Or.inl ⟨by rfl, ?_⟩) (by assumption) ?_
        rotate_left
        · (intro w hSw; (try dsimp only at hSw); go_simp); with_reducible rfl
        simp only [List.set_cons_zero, List.set_cons_succ]
        refine take1 (i := 4) (d := 59) (v := ?_) rfl (by kernel_rfl) (by kernel_rfl) (by kernel_rfl) rfl (fun _ _ _ h => h) (Or.inl ⟨by rfl, ?_⟩) (by assumption) ?_
        rotate_left
        · (intro w hSw; (try dsimp only at hSw); go_simp); with_reducible rfl
        simp only [List.set_cons_zero, List.set_cons_succ]
        refine take1 (i := 5) (d := 60) (v := ?_) rfl (by kernel_rfl) (by kernel_rfl) (by kernel_rfl) rfl (fun _ _ _ h => h) (Or.inl ⟨by rfl, ?_⟩) (by assumption) ?_
        rotate_left
        · (intro w hSw; (try dsimp only at hSw); go_simp); with_reducible rfl
        simp only [List.set_cons_zero, List.set_cons_succ]
        refine take1 (i := 6) (d := 61) (v := ?_) rfl (by kernel_rfl) (by kernel_rfl) (by kernel_rfl) rfl (fun _ _ _ h => h) (Or.inl ⟨by rfl, ?_⟩) (by assumption) ?_
        rotate_left
        · (intro w hSw; (try dsimp only at hSw); go_simp); with_reducible rfl
        simp only [List.set_cons_zero, List.set_cons_succ]
        refine take1 (i := 7) (d := 62) (v := ?_) rfl (by kernel_rfl) (by kernel_rfl) (by kernel_rfl) rfl (fun _ _ _ h => h) (Or.inl ⟨by rfl, ?_⟩) (by assumption) ?_
        rotate_left
        · (intro w hSw; (try dsimp only at hSw); go_simp); with_reducible rfl
        simp only [List.set_cons_zero, List.set_cons_succ]
        refine take1 (i := 8) (d := 63) (v := ?_) rfl (by kernel_rfl) (by kernel_rfl) (by kernel_rfl) rfl (fun _ _ _ h => h) (Or.inl ⟨by rfl, ?_⟩) (by assumption) ?_
        rotate_left
        · (intro w hSw; (try dsimp only at hSw); go_simp); with_reducible rfl
        simp only [List.set_cons_zero, List.set_cons_succ]
        refine take1 (i := 9) (d := 64) (v := ?_) rfl (by kernel_rfl) (by kernel_rfl) (by kernel_rfl) rfl (fun _ _ _ h => h) (Or.inl ⟨by rfl, ?_⟩) (by assumption) ?_
        rotate_left
        · (intro w hSw; (try dsimp only at hSw); go_simp); with_reducible rfl
        simp only [List.set_cons_zero, List.set_cons_succ]
        refine take1 (i := 10) (d := 65) (v := ?_) rfl (by kernel_rfl) (by kernel_rfl) (by kernel_rfl) rfl (fun _ _ _ h => h) (Or.inl ⟨by rfl, ?_⟩) (by assumption) ?_
        rotate_left
        · (intro w hSw; (try dsimp only at hSw); go_simp); with_reducible rfl
        simp only [List.set_cons_zero, List.set_cons_succ]
        refine take1 (i := 11) (d := 66) (v := ?_) rfl (by kernel_rfl) (by kernel_rfl) (by kernel_rfl) rfl (fun _ _ _ h => h) (Or.inl ⟨by rfl, ?_⟩) (by assumption) ?_
        rotate_left
        · (intro w hSw; (try dsimp only at hSw); go_simp); with_reducible rfl
        simp only [List.set_cons_zero, List.set_cons_succ]
        refine take1 (i := 12) (d := 67) (v := ?_) rfl (by kernel_rfl) (by kernel_rfl) (by kernel_rfl) rfl (fun _ _ _ h => h) (Or.inl ⟨by rfl, ?_⟩) (by assumption) ?_
        rotate_left
        · (intro w hSw; (try dsimp only at hSw); go_simp); with_reducible rfl
        simp only [List.set_cons_zero, List.set_cons_succ]
        refine take1 (i := 13) (d := 68) (v := ?_) rfl (by kernel_rfl) (by kernel_rfl) (by kernel_rfl) rfl (fun _ _ _ h => h) (Or.inl ⟨by rfl, ?_⟩) (by assumption) ?_
        rotate_left
        · (intro w hSw; (try dsimp only at hSw); go_simp); with_reducible rfl
        simp only [List.set_cons_zero, List.set_cons_succ]
        refine take1 (i := 14) (d := 69) (v := ?_) rfl (by kernel_rfl) (by kernel_rfl) (by kernel_rfl) rfl (fun _ _ _ h => h) (Or.inl ⟨by rfl, ?_⟩) (by assumption) ?_
        rotate_left
        · (intro w hSw; (try dsimp only at hSw); go_simp); with_reducible rfl
        simp only [List.set_cons_zero, List.set_cons_succ]
        refine take1 (i := 15) (d := 54) (v := ?_) rfl (by kernel_rfl) (by kernel_rfl) (by kernel_rfl) rfl (fun _ _ _ h => h) (Or.inl ⟨by rfl, ?_⟩) (by assumption) ?_
        rotate_left
        · (intro w hSw; (try dsimp only at hSw); go_simp); with_reducible rfl
        simp only [List.set_cons_zero, List.set_cons_succ]
        refine wpAnyH_done (by kernel_rfl) ?_ _
        go_wp2_with fail
        go_meet
        exact ⟨rfl, (Below.refl _ wc).drew⟩
    case rest =>
      obtain ⟨rfl, B2⟩ := hcut
      have hg2 := hg.below B2 hg.lt
      have kb2 := kb.below B2 kb.lt
      have kl2 := kl.below B2 kl.lt
      have kr2 := kr.below B2 kr.lt
      have bw2 := grown_step bw (only_of_below B2 (some g))
      clear hg kb kl kr bw B2 p2 p7 p18 p19 q1 p2d p7d q1d
      have p2 := kb2.cell 2
      have p7 := kb2.cell 7
      have p18 := kb2.cell 18
      have p19 := kb2.cell 19
      have q2 := hg2.cell 2
      have f2 := hg2.frozen 2
      cases mb
      rotate_left
      · have hr := HR2.out
        rw [if_pos (of_decide_eq_true HMB.out.symm)] at hr
        subst hr
        obtain ⟨w5, hst5, hg, kl, kr, bw⟩ : ∃ w5, (Instr.storeAt 5 (.pointer (some ⟨g, 2, none⟩)) (.int .u8 (lno : Int))).run Try.prog wc = .ok () w5 ∧ Blk w5 g 81 #[.int .u8 (id : Int), .int .i64 (n : Int), .int .u8 (lno : Int), .int .u32 (seq : Int), .int .u8 (xa : Int), .int .u32 (xb : Int), .int .u8 (xk : Int), .string ⟨xs.toArray⟩, .string ⟨xt.toArray⟩, .string ⟨xu.toArray⟩, .int .u8 (xz : Int), .bool true] ∧ Blk w5 gl 47 #[.int .u8 0, .int .u8 0, .int .u8 0, .int .u64 0, .int .u8 0, .int .u64 0, .int .u64 0, .int .u8 0, .string ⟨#[]⟩, .slice none 0 0, .slice none 0 0, .int .u8 0, .int .u32 0, .int .u8 0, .string ⟨#[]⟩, .string ⟨#[]⟩, .string ⟨#[]⟩, .int .u8 0, .int .u8 0, .string ⟨#[]⟩] ∧ Blk w5 gr 43 #[.int .u8 0, .string ⟨#[]⟩] ∧ w.grownBy w5 (some g) := by
          refine ⟨wc.setCell ⟨g, 2, none⟩ (.int .u8 (lno : Int)), by go_simp, ?_, kl2.far (p := ⟨g, 2, none⟩) (Ne.symm hgl) _, kr2.far (p := ⟨g, 2, none⟩) (Ne.symm hgr) _, only_setCell bw2 (p := ⟨g, 2, none⟩) (.inl rfl) _⟩
          have hgB := hg2.set_ 2 (.int .u8 (lno : Int))
          simp only [List.setIfInBounds_toArray, List.set_cons_zero, List.set_cons_succ] at hgB
          exact hgB
        clear hg2 kb2 kl2 kr2 bw2 q2 f2 HR2 HMB
        go_wp2_with (refine wpList_store (by rfl) (.tmp 75) (.tmp 73) (by rfl) (by rfl) (by rfl) hst5 ?_)
        refine (HA.out ⟨id, n, lno, seq, ⟨xa, xb, xk, xs, xt, xu, xz⟩, true⟩ h1 _ hg).mono ?_; rintro e w6 ⟨rfl, B6⟩
        have hg := hg.below B6 hg.lt
        have kl := kl.below B6 kl.lt
        have kr := kr.below B6 kr.lt
        have bw := grown_step bw (only_of_below B6 (some g))
        unfold ltV ltC askL lt0 cm0
        dsimp only
        obtain ⟨wA, hstA, hgA, klA, krA, bwA⟩ : ∃ wA, (Instr.storeAt 47 (.pointer (some ⟨gl, 0, none⟩)) (.agg #[.int .u8 (16 + (id : Int)), .int .u8 (lno : Int), .int .u8 1, .int .u64 0, .int .u8 0, .int .u64 0, .int .u64 0, .int .u8 0, .string ⟨#[]⟩, .slice none 0 0, .slice none 0 0, .int .u8 (xa : Int), .int .u32 (xb : Int), .int .u8 (xk : Int), .string ⟨xs.toArray⟩, .string ⟨xt.toArray⟩, .string ⟨xu.toArray⟩, .int .u8 (xz : Int), .int .u8 0, .string ⟨#[]⟩])).run Try.prog _ = .ok () wA ∧ Blk wA g 81 #[.int .u8 (id : Int), .int .i64 (n : Int), .int .u8 (lno : Int), .int .u32 (seq : Int), .int .u8 (xa : Int), .int .u32 (xb : Int), .int .u8 (xk : Int), .string ⟨xs.toArray⟩, .string ⟨xt.toArray⟩, .string ⟨xu.toArray⟩, .int .u8 (xz : Int), .bool true] ∧ Blk wA gl 47 #[.int .u8 (16 + (id : Int)), .int .u8 (lno : Int), .int .u8 1, .int .u64 0, .int .u8 0, .int .u64 0, .int .u64 0, .int .u8 0, .string ⟨#[]⟩, .slice none 0 0, .slice none 0 0, .int .u8 (xa : Int), .int .u32 (xb : Int), .int .u8 (xk : Int), .string ⟨xs.toArray⟩, .string ⟨xt.toArray⟩, .string ⟨xu.toArray⟩, .int .u8 (xz : Int), .int .u8 0, .string ⟨#[]⟩] ∧ Blk wA gr 43 #[.int .u8 0, .string ⟨#[]⟩] ∧ w.grownBy wA (some g) :=
          ⟨_, blk_store kl rfl size_lt rfl, hg.setRowFar hgl, kl.setRow, kr.setRowFar (Ne.symm hlr), grown_setRow bw (.inl hwl)⟩
        obtain ⟨wB, hstB, hgB, klB, krB, bwB⟩ : ∃ wB, (Instr.storeAt 43 (.pointer (some ⟨gr, 0, none⟩)) (.agg #[.int .u8 0, .string ⟨#[]⟩])).run Try.prog wA = .ok () wB ∧ Blk wB g 81 #[.int .u8 (id : Int), .int .i64 (n : Int), .int .u8 (lno : Int), .int .u32 (seq : Int), .int .u8 (xa : Int), .int .u32 (xb : Int), .int .u8 (xk : Int), .string ⟨xs.toArray⟩, .string ⟨xt.toArray⟩, .string ⟨xu.toArray⟩, .int .u8 (xz : Int), .bool true] ∧ Blk wB gl 47 #[.int .u8 (16 + (id : Int)), .int .u8 (lno : Int), .int .u8 1, .int .u64 0, .int .u8 0, .int .u64 0, .int .u64 0, .int .u8 0, .string ⟨#[]⟩, .slice none 0 0, .slice none 0 0, .int .u8 (xa : Int), .int .u32 (xb : Int), .int .u8 (xk : Int), .string ⟨xs.toArray⟩, .string ⟨xt.toArray⟩, .string ⟨xu.toArray⟩, .int .u8 (xz : Int), .int .u8 0, .string ⟨#[]⟩] ∧ Blk wB gr 43 #[.int .u8 0, .string ⟨#[]⟩] ∧ w.grownBy wB (some g) :=
          ⟨_, blk_store krA rfl size_reply rfl, hgA.setRowFar hgr, klA.setRowFar hlr, krA.setRow, grown_setRow bwA (.inl hwr)⟩
        have HL := Lib.hid (blk_loadVar (P := Try.prog) (ty := 47) klB Try.underlying47 rfl size_lt)
        have HRp := Lib.hid (blk_loadVar (P := Try.prog) (ty := 43) krB Try.underlying43 rfl size_reply)
        have HG := Lib.hid (And.intro hgB bwB)
        clear hg kl kr bw hgA klA krA bwA hgB klB krB bwB
        go_wp2_with (first | refine wpList_store (by rfl) (.tmp 4) (.tmp 77) (by rfl) (by rfl) (by rfl) hstA ?_ | refine wpList_store (by rfl) (.tmp 6) (.tmp 78) (by rfl) (by rfl) (by rfl) hstB ?_)
        exact bodyPost_ret (v := .tuple #[.agg #[.int .u8 (16 + (id : Int)), .int .u8 (lno : Int), .int .u8 1, .int .u64 0, .int .u8 0, .int .u64 0, .int .u64 0, .int .u8 0, .string ⟨#[]⟩, .slice none 0 0, .slice none 0 0, .int .u8 (xa : Int), .int .u32 (xb : Int), .int .u8 (xk : Int), .string ⟨xs.toArray⟩, .string ⟨xt.toArray⟩, .string ⟨xu.toArray⟩, .int .u8 (xz : Int), .int .u8 0, .string ⟨#[]⟩], .bool true, .agg #[.int .u8 0, .string ⟨#[]⟩], .bool false]) (by simp [results, Try.results17, asAddr, HL.out, HRp.out]) rfl ⟨rfl, And.intro HG.out.1 HG.out.2⟩
      have hmbf := of_decide_eq_false HMB.out.symm
      have hr := HR2.out
      rw [if_neg hmbf] at hr
      have HR3 := Lib.hid hr
      clear hr HR2 HMB hmbf
      by_cases hk2 : lk = 2
      rotate_left
      · have hk1 : ((lk : Int) == 2) = false := beq_eq_false_iff_ne.2 (by omega)
        have hr := HR3.out
        rw [if_neg (fun h => hk2 h.1)] at hr
        subst hr
        have hg := hg2
        have kl := kl2
        have kr := kr2
        have bw := bw2
        clear hg2 kl2 kr2 bw2 HR3 hk2
        obtain ⟨wA, hstA, hgA, klA, krA, bwA⟩ : ∃ wA, (Instr.storeAt 47 (.pointer (some ⟨gl, 0, none⟩)) (.agg #[.int .u8 0, .int .u8 0, .int .u8 0, .int .u64 0, .int .u8 0, .int .u64 0, .int .u64 0, .int .u8 0, .string ⟨#[]⟩, .slice none 0 0, .slice none 0 0, .int .u8 0, .int .u32 0, .int .u8 0, .string ⟨#[]⟩, .string ⟨#[]⟩, .string ⟨#[]⟩, .int .u8 0, .int .u8 0, .string ⟨#[]⟩])).run Try.prog _ = .ok () wA ∧ Blk wA g 81 #[.int .u8 (id : Int), .int .i64 (n : Int), .int .u8 (node : Int), .int .u32 (seq : Int), .int .u8 (xa : Int), .int .u32 (xb : Int), .int .u8 (xk : Int), .string ⟨xs.toArray⟩, .string ⟨xt.toArray⟩, .string ⟨xu.toArray⟩, .int .u8 (xz : Int), .bool true] ∧ Blk wA gl 47 #[.int .u8 0, .int .u8 0, .int .u8 0, .int .u64 0, .int .u8 0, .int .u64 0, .int .u64 0, .int .u8 0, .string ⟨#[]⟩, .slice none 0 0, .slice none 0 0, .int .u8 0, .int .u32 0, .int .u8 0, .string ⟨#[]⟩, .string ⟨#[]⟩, .string ⟨#[]⟩, .int .u8 0, .int .u8 0, .string ⟨#[]⟩] ∧ Blk wA gr 43 #[.int .u8 0, .string ⟨#[]⟩] ∧ w.grownBy wA (some g) :=
          ⟨_, blk_store kl rfl size_lt rfl, hg.setRowFar hgl, kl.setRow, kr.setRowFar (Ne.symm hlr), grown_setRow bw (.inl hwl)⟩
        obtain ⟨wB, hstB, hgB, klB, krB, bwB⟩ : ∃ wB, (Instr.storeAt 43 (.pointer (some ⟨gr, 0, none⟩)) (.agg #[.int .u8 0, .string ⟨#[]⟩])).run Try.prog wA = .ok () wB ∧ Blk wB g 81 #[.int .u8 (id : Int), .int .i64 (n : Int), .int .u8 (node : Int), .int .u32 (seq : Int), .int .u8 (xa : Int), .int .u32 (xb : Int), .int .u8 (xk : Int), .string ⟨xs.toArray⟩, .string ⟨xt.toArray⟩, .string ⟨xu.toArray⟩, .int .u8 (xz : Int), .bool true] ∧ Blk wB gl 47 #[.int .u8 0, .int .u8 0, .int .u8 0, .int .u64 0, .int .u8 0, .int .u64 0, .int .u64 0, .int .u8 0, .string ⟨#[]⟩, .slice none 0 0, .slice none 0 0, .int .u8 0, .int .u32 0, .int .u8 0, .string ⟨#[]⟩, .string ⟨#[]⟩, .string ⟨#[]⟩, .int .u8 0, .int .u8 0, .string ⟨#[]⟩] ∧ Blk wB gr 43 #[.int .u8 0, .string ⟨#[]⟩] ∧ w.grownBy wB (some g) :=
          ⟨_, blk_store krA rfl size_reply rfl, hgA.setRowFar hgr, klA.setRowFar hlr, krA.setRow, grown_setRow bwA (.inl hwr)⟩
        have HL := Lib.hid (blk_loadVar (P := Try.prog) (ty := 47) klB Try.underlying47 rfl size_lt)
        have HRp := Lib.hid (blk_loadVar (P := Try.prog) (ty := 43) krB Try.underlying43 rfl size_reply)
        have HG := Lib.hid (And.intro hgB bwB)
        clear hg kl kr bw hgA klA krA bwA hgB klB krB bwB
        go_wp2_with (first | refine wpList_store (by rfl) (.tmp 4) (.tmp 102) (by rfl) (by rfl) (by rfl) hstA ?_ | refine wpList_store (by rfl) (.tmp 6) (.tmp 103) (by rfl) (by rfl) (by rfl) hstB ?_)
        exact bodyPost_ret (v := .tuple #[.agg #[.int .u8 0, .int .u8 0, .int .u8 0, .int .u64 0, .int .u8 0, .int .u64 0, .int .u64 0, .int .u8 0, .string ⟨#[]⟩, .slice none 0 0, .slice none 0 0, .int .u8 0, .int .u32 0, .int .u8 0, .string ⟨#[]⟩, .string ⟨#[]⟩, .string ⟨#[]⟩, .int .u8 0, .int .u8 0, .string ⟨#[]⟩], .bool false, .agg #[.int .u8 0, .string ⟨#[]⟩], .bool false]) (by simp [results, Try.results17, asAddr, HL.out, HRp.out]) rfl ⟨rfl, And.intro HG.out.1 HG.out.2⟩
      have hk1 : ((lk : Int) == 2) = true := by rw [hk2]; rfl
      by_cases hco : lco = 3
      · have hc1 : ((lco : Int) != 3) = false := by rw [hco]; rfl
        have hr := HR3.out
        rw [if_neg (fun h => h.2 hco)] at hr
        subst hr
        have hg := hg2
        have kl := kl2
        have kr := kr2
        have bw := bw2
        clear hg2 kl2 kr2 bw2 HR3 hk2 hco
        obtain ⟨wA, hstA, hgA, klA, krA, bwA⟩ : ∃ wA, (Instr.storeAt 47 (.pointer (some ⟨gl, 0, none⟩)) (.agg #[.int .u8 0, .int .u8 0, .int .u8 0, .int .u64 0, .int .u8 0, .int .u64 0, .int .u64 0, .int .u8 0, .string ⟨#[]⟩, .slice none 0 0, .slice none 0 0, .int .u8 0, .int .u32 0, .int .u8 0, .string ⟨#[]⟩, .string ⟨#[]⟩, .string ⟨#[]⟩, .int .u8 0, .int .u8 0, .string ⟨#[]⟩])).run Try.prog _ = .ok () wA ∧ Blk wA g 81 #[.int .u8 (id : Int), .int .i64 (n : Int), .int .u8 (node : Int), .int .u32 (seq : Int), .int .u8 (xa : Int), .int .u32 (xb : Int), .int .u8 (xk : Int), .string ⟨xs.toArray⟩, .string ⟨xt.toArray⟩, .string ⟨xu.toArray⟩, .int .u8 (xz : Int), .bool true] ∧ Blk wA gl 47 #[.int .u8 0, .int .u8 0, .int .u8 0, .int .u64 0, .int .u8 0, .int .u64 0, .int .u64 0, .int .u8 0, .string ⟨#[]⟩, .slice none 0 0, .slice none 0 0, .int .u8 0, .int .u32 0, .int .u8 0, .string ⟨#[]⟩, .string ⟨#[]⟩, .string ⟨#[]⟩, .int .u8 0, .int .u8 0, .string ⟨#[]⟩] ∧ Blk wA gr 43 #[.int .u8 0, .string ⟨#[]⟩] ∧ w.grownBy wA (some g) :=
          ⟨_, blk_store kl rfl size_lt rfl, hg.setRowFar hgl, kl.setRow, kr.setRowFar (Ne.symm hlr), grown_setRow bw (.inl hwl)⟩
        obtain ⟨wB, hstB, hgB, klB, krB, bwB⟩ : ∃ wB, (Instr.storeAt 43 (.pointer (some ⟨gr, 0, none⟩)) (.agg #[.int .u8 0, .string ⟨#[]⟩])).run Try.prog wA = .ok () wB ∧ Blk wB g 81 #[.int .u8 (id : Int), .int .i64 (n : Int), .int .u8 (node : Int), .int .u32 (seq : Int), .int .u8 (xa : Int), .int .u32 (xb : Int), .int .u8 (xk : Int), .string ⟨xs.toArray⟩, .string ⟨xt.toArray⟩, .string ⟨xu.toArray⟩, .int .u8 (xz : Int), .bool true] ∧ Blk wB gl 47 #[.int .u8 0, .int .u8 0, .int .u8 0, .int .u64 0, .int .u8 0, .int .u64 0, .int .u64 0, .int .u8 0, .string ⟨#[]⟩, .slice none 0 0, .slice none 0 0, .int .u8 0, .int .u32 0, .int .u8 0, .string ⟨#[]⟩, .string ⟨#[]⟩, .string ⟨#[]⟩, .int .u8 0, .int .u8 0, .string ⟨#[]⟩] ∧ Blk wB gr 43 #[.int .u8 0, .string ⟨#[]⟩] ∧ w.grownBy wB (some g) :=
          ⟨_, blk_store krA rfl size_reply rfl, hgA.setRowFar hgr, klA.setRowFar hlr, krA.setRow, grown_setRow bwA (.inl hwr)⟩
        have HL := Lib.hid (blk_loadVar (P := Try.prog) (ty := 47) klB Try.underlying47 rfl size_lt)
        have HRp := Lib.hid (blk_loadVar (P := Try.prog) (ty := 43) krB Try.underlying43 rfl size_reply)
        have HG := Lib.hid (And.intro hgB bwB)
        clear hg kl kr bw hgA klA krA bwA hgB klB krB bwB
        go_wp2_with (first | refine wpList_store (by rfl) (.tmp 4) (.tmp 102) (by rfl) (by rfl) (by rfl) hstA ?_ | refine wpList_store (by rfl) (.tmp 6) (.tmp 103) (by rfl) (by rfl) (by rfl) hstB ?_)
        exact bodyPost_ret (v := .tuple #[.agg #[.int .u8 0, .int .u8 0, .int .u8 0, .int .u64 0, .int .u8 0, .int .u64 0, .int .u64 0, .int .u8 0, .string ⟨#[]⟩, .slice none 0 0, .slice none 0 0, .int .u8 0, .int .u32 0, .int .u8 0, .string ⟨#[]⟩, .string ⟨#[]⟩, .string ⟨#[]⟩, .int .u8 0, .int .u8 0, .string ⟨#[]⟩], .bool false, .agg #[.int .u8 0, .string ⟨#[]⟩], .bool false]) (by simp [results, Try.results17, asAddr, HL.out, HRp.out]) rfl ⟨rfl, And.intro HG.out.1 HG.out.2⟩
      have hc1 : ((lco : Int) != 3) = true := by rw [bne_iff_ne]; omega
      have hr := HR3.out
      rw [if_pos ⟨hk2, hco⟩] at hr
      subst hr
      obtain ⟨w5, hst5, hg5, kb5, kl5, kr5, bw5⟩ : ∃ w5, (Instr.storeAt 36 (.pointer (some ⟨g, 4, none⟩)) (.agg #[.int .u8 0, .int .u32 0, .int .u8 0, .string ⟨#[]⟩, .string ⟨#[]⟩, .string ⟨#[]⟩, .int .u8 0])).run Try.prog wc = .ok () w5 ∧ Blk w5 g 81 #[.int .u8 (id : Int), .int .i64 (n : Int), .int .u8 (node : Int), .int .u32 (seq : Int), .int .u8 0, .int .u32 0, .int .u8 0, .string ⟨#[]⟩, .string ⟨#[]⟩, .string ⟨#[]⟩, .int .u8 0, .bool true] ∧ Blk w5 gb 47 #[.int .u8 (ls : Int), .int .u8 (ld : Int), .int .u8 (lk : Int), .int .u64 (lbn : Int), .int .u8 (lbr : Int), .int .u64 (lba : Int), .int .u64 (lsl : Int), .int .u8 (lno : Int), .string ⟨lv.toArray⟩, lvo, lit, .int .u8 (ya : Int), .int .u32 (yb : Int), .int .u8 (yk : Int), .string ⟨ys.toArray⟩, .string ⟨yt.toArray⟩, .string ⟨yu.toArray⟩, .int .u8 (yz : Int), .int .u8 (lco : Int), .string ⟨lte.toArray⟩] ∧ Blk w5 gl 47 #[.int .u8 0, .int .u8 0, .int .u8 0, .int .u64 0, .int .u8 0, .int .u64 0, .int .u64 0, .int .u8 0, .string ⟨#[]⟩, .slice none 0 0, .slice none 0 0, .int .u8 0, .int .u32 0, .int .u8 0, .string ⟨#[]⟩, .string ⟨#[]⟩, .string ⟨#[]⟩, .int .u8 0, .int .u8 0, .string ⟨#[]⟩] ∧ Blk w5 gr 43 #[.int .u8 0, .string ⟨#[]⟩] ∧ w.grownBy w5 (some g) := by
        refine ⟨_, blk_put hg2 4 #[.int .u8 0, .int .u32 0, .int .u8 0, .string ⟨#[]⟩, .string ⟨#[]⟩, .string ⟨#[]⟩, .int .u8 0] (by simp) size_cmd rfl, ?_, kb2.setCellsFar [.int .u8 0, .int .u32 0, .int .u8 0, .string ⟨#[]⟩, .string ⟨#[]⟩, .string ⟨#[]⟩, .int .u8 0] 4 (Ne.symm hgb), kl2.setCellsFar [.int .u8 0, .int .u32 0, .int .u8 0, .string ⟨#[]⟩, .string ⟨#[]⟩, .string ⟨#[]⟩, .int .u8 0] 4 (Ne.symm hgl), kr2.setCellsFar [.int .u8 0, .int .u32 0, .int .u8 0, .string ⟨#[]⟩, .string ⟨#[]⟩, .string ⟨#[]⟩, .int .u8 0] 4 (Ne.symm hgr), grown_setCells [.int .u8 0, .int .u32 0, .int .u8 0, .string ⟨#[]⟩, .string ⟨#[]⟩, .string ⟨#[]⟩, .int .u8 0] 4 bw2⟩
        have hgA := hg2.setCells [.int .u8 0, .int .u32 0, .int .u8 0, .string ⟨#[]⟩, .string ⟨#[]⟩, .string ⟨#[]⟩, .int .u8 0] 4
        simp only [putA, List.setIfInBounds_toArray, List.set_cons_zero, List.set_cons_succ] at hgA
        exact hgA
      have c11 := hg5.cell 11
      have f11 := hg5.frozen 11
      obtain ⟨w6, hst6, hg6, kb6, kl6, kr6, bw6⟩ : ∃ w6, (Instr.storeAt 4 (.pointer (some ⟨g, 11, none⟩)) (.bool false)).run Try.prog w5 = .ok () w6 ∧ Blk w6 g 81 #[.int .u8 (id : Int), .int .i64 (n : Int), .int .u8 (node : Int), .int .u32 (seq : Int), .int .u8 0, .int .u32 0, .int .u8 0, .string ⟨#[]⟩, .string ⟨#[]⟩, .string ⟨#[]⟩, .int .u8 0, .bool false] ∧ Blk w6 gb 47 #[.int .u8 (ls : Int), .int .u8 (ld : Int), .int .u8 (lk : Int), .int .u64 (lbn : Int), .int .u8 (lbr : Int), .int .u64 (lba : Int), .int .u64 (lsl : Int), .int .u8 (lno : Int), .string ⟨lv.toArray⟩, lvo, lit, .int .u8 (ya : Int), .int .u32 (yb : Int), .int .u8 (yk : Int), .string ⟨ys.toArray⟩, .string ⟨yt.toArray⟩, .string ⟨yu.toArray⟩, .int .u8 (yz : Int), .int .u8 (lco : Int), .string ⟨lte.toArray⟩] ∧ Blk w6 gl 47 #[.int .u8 0, .int .u8 0, .int .u8 0, .int .u64 0, .int .u8 0, .int .u64 0, .int .u64 0, .int .u8 0, .string ⟨#[]⟩, .slice none 0 0, .slice none 0 0, .int .u8 0, .int .u32 0, .int .u8 0, .string ⟨#[]⟩, .string ⟨#[]⟩, .string ⟨#[]⟩, .int .u8 0, .int .u8 0, .string ⟨#[]⟩] ∧ Blk w6 gr 43 #[.int .u8 0, .string ⟨#[]⟩] ∧ w.grownBy w6 (some g) := by
        refine ⟨w5.setCell ⟨g, 11, none⟩ (.bool false), by go_simp, ?_, kb5.far (p := ⟨g, 11, none⟩) (Ne.symm hgb) _, kl5.far (p := ⟨g, 11, none⟩) (Ne.symm hgl) _, kr5.far (p := ⟨g, 11, none⟩) (Ne.symm hgr) _, only_setCell bw5 (p := ⟨g, 11, none⟩) (.inl rfl) _⟩
        have hgB := hg5.set_ 11 (.bool false)
        simp only [List.setIfInBounds_toArray, List.set_cons_zero, List.set_cons_succ] at hgB
        exact hgB
      clear hg5 kb5 kl5 kr5 bw5 c11 f11 hg2 kb2 kl2 kr2 bw2 HR3 hk2 hco q2 f2
      go_wp2_with (first | refine wpList_store (by rfl) (.tmp 95) (.tmp 93) (by rfl) (by rfl) (by rfl) hst5 ?_ | refine wpList_store (by rfl) (.tmp 97) (.const (.bool false)) (by rfl) (by rfl) (by rfl) hst6 ?_)
      have hg := hg6.drew
      have kb := kb6.drew
      have kl := kl6.drew
      have kr := kr6.drew
      have bw := only_drew bw6
      clear hg6 kb6 kl6 kr6 bw6 hst5 hst6
      have u18 : w6.drew.cell? ⟨gb, 18, none⟩ = some (.int .u8 (lco : Int)) := kb.cell 18
      have u19 : w6.drew.cell? ⟨gb, 19, none⟩ = some (.string ⟨lte.toArray⟩) := kb.cell 19
      obtain ⟨wA, hstA, hgA, kbA, klA, krA, bwA⟩ : ∃ wA, (Instr.storeAt 47 (.pointer (some ⟨gl, 0, none⟩)) (.agg #[.int .u8 0, .int .u8 0, .int .u8 0, .int .u64 0, .int .u8 0, .int .u64 0, .int .u64 0, .int .u8 0, .string ⟨#[]⟩, .slice none 0 0, .slice none 0 0, .int .u8 0, .int .u32 0, .int .u8 0, .string ⟨#[]⟩, .string ⟨#[]⟩, .string ⟨#[]⟩, .int .u8 0, .int .u8 0, .string ⟨#[]⟩])).run Try.prog w6.drew = .ok () wA ∧ Blk wA g 81 #[.int .u8 (id : Int), .int .i64 (n : Int), .int .u8 (node : Int), .int .u32 (seq : Int), .int .u8 0, .int .u32 0, .int .u8 0, .string ⟨#[]⟩, .string ⟨#[]⟩, .string ⟨#[]⟩, .int .u8 0, .bool false] ∧ Blk wA gb 47 #[.int .u8 (ls : Int), .int .u8 (ld : Int), .int .u8 (lk : Int), .int .u64 (lbn : Int), .int .u8 (lbr : Int), .int .u64 (lba : Int), .int .u64 (lsl : Int), .int .u8 (lno : Int), .string ⟨lv.toArray⟩, lvo, lit, .int .u8 (ya : Int), .int .u32 (yb : Int), .int .u8 (yk : Int), .string ⟨ys.toArray⟩, .string ⟨yt.toArray⟩, .string ⟨yu.toArray⟩, .int .u8 (yz : Int), .int .u8 (lco : Int), .string ⟨lte.toArray⟩] ∧ Blk wA gl 47 #[.int .u8 0, .int .u8 0, .int .u8 0, .int .u64 0, .int .u8 0, .int .u64 0, .int .u64 0, .int .u8 0, .string ⟨#[]⟩, .slice none 0 0, .slice none 0 0, .int .u8 0, .int .u32 0, .int .u8 0, .string ⟨#[]⟩, .string ⟨#[]⟩, .string ⟨#[]⟩, .int .u8 0, .int .u8 0, .string ⟨#[]⟩] ∧ Blk wA gr 43 #[.int .u8 0, .string ⟨#[]⟩] ∧ w.grownBy wA (some g) :=
        ⟨_, blk_store kl rfl size_lt rfl, hg.setRowFar hgl, kb.setRowFar hbl, kl.setRow, kr.setRowFar (Ne.symm hlr), grown_setRow bw (.inl hwl)⟩
      obtain ⟨wB, hstB, hgB, kbB, klB, krB, bwB⟩ : ∃ wB, (Instr.storeAt 43 (.pointer (some ⟨gr, 0, none⟩)) (.agg #[.int .u8 (lco : Int), .string ⟨lte.toArray⟩])).run Try.prog wA = .ok () wB ∧ Blk wB g 81 #[.int .u8 (id : Int), .int .i64 (n : Int), .int .u8 (node : Int), .int .u32 (seq : Int), .int .u8 0, .int .u32 0, .int .u8 0, .string ⟨#[]⟩, .string ⟨#[]⟩, .string ⟨#[]⟩, .int .u8 0, .bool false] ∧ Blk wB gb 47 #[.int .u8 (ls : Int), .int .u8 (ld : Int), .int .u8 (lk : Int), .int .u64 (lbn : Int), .int .u8 (lbr : Int), .int .u64 (lba : Int), .int .u64 (lsl : Int), .int .u8 (lno : Int), .string ⟨lv.toArray⟩, lvo, lit, .int .u8 (ya : Int), .int .u32 (yb : Int), .int .u8 (yk : Int), .string ⟨ys.toArray⟩, .string ⟨yt.toArray⟩, .string ⟨yu.toArray⟩, .int .u8 (yz : Int), .int .u8 (lco : Int), .string ⟨lte.toArray⟩] ∧ Blk wB gl 47 #[.int .u8 0, .int .u8 0, .int .u8 0, .int .u64 0, .int .u8 0, .int .u64 0, .int .u64 0, .int .u8 0, .string ⟨#[]⟩, .slice none 0 0, .slice none 0 0, .int .u8 0, .int .u32 0, .int .u8 0, .string ⟨#[]⟩, .string ⟨#[]⟩, .string ⟨#[]⟩, .int .u8 0, .int .u8 0, .string ⟨#[]⟩] ∧ Blk wB gr 43 #[.int .u8 (lco : Int), .string ⟨lte.toArray⟩] ∧ w.grownBy wB (some g) :=
        ⟨_, blk_store krA rfl size_reply rfl, hgA.setRowFar hgr, kbA.setRowFar hbr, klA.setRowFar hlr, krA.setRow, grown_setRow bwA (.inl hwr)⟩
      have HL := Lib.hid (blk_loadVar (P := Try.prog) (ty := 47) klB Try.underlying47 rfl size_lt)
      have HRp := Lib.hid (blk_loadVar (P := Try.prog) (ty := 43) krB Try.underlying43 rfl size_reply)
      have HG := Lib.hid (And.intro hgB bwB)
      have HKA := Lib.hid kbA
      have HKB := Lib.hid kbB
      clear hg kb kl kr bw hgA klA krA bwA kbA hgB klB krB bwB kbB p2 p7 p18 p19
      refine wp_region_held_drew (S := fun W : World => W.cell? ⟨gb, 18, none⟩ = some (.int .u8 (lco : Int)) ∧ W.cell? ⟨gb, 19, none⟩ = some (.string ⟨lte.toArray⟩)) (by kernel_rfl) (⟨u18, u19⟩) (fun hHeld => ?_)
      refine take1 (i := 0) (d := 98) (v := ?_) rfl (by kernel_rfl) (by kernel_rfl) (by kernel_rfl) rfl (fun _ _ _ h => h) (Or.inl ⟨by rfl, ?_⟩) (by assumption) ?_
      rotate_left
      · (intro w hSw; (try dsimp only at hSw); go_simp); with_reducible rfl
      simp only [List.set_cons_zero, List.set_cons_succ]
      refine take1 (i := 1) (d := 99) (v := ?_) rfl (by kernel_rfl) (by kernel_rfl) (by kernel_rfl) rfl (fun _ _ _ h => h) (Or.inl ⟨by rfl, ?_⟩) (by assumption) ?_
      rotate_left
      · (intro w hSw; (try dsimp only at hSw); go_simp); with_reducible rfl
      simp only [List.set_cons_zero, List.set_cons_succ]
      refine take1 (i := 2) (d := 100) (v := ?_) rfl (by kernel_rfl) (by kernel_rfl) (by kernel_rfl) rfl (fun _ _ _ h => h) (Or.inl ⟨by rfl, ?_⟩) (by assumption) ?_
      rotate_left
      · (intro w hSw; (try dsimp only at hSw); go_simp); with_reducible rfl
      simp only [List.set_cons_zero, List.set_cons_succ]
      refine take1 (i := 3) (d := 101) (v := ?_) rfl (by kernel_rfl) (by kernel_rfl) (by kernel_rfl) rfl (fun _ _ _ h => h) (Or.inl ⟨by rfl, ?_⟩) (by assumption) ?_
      rotate_left
      · (intro w hSw; (try dsimp only at hSw); go_simp); with_reducible rfl
      simp only [List.set_cons_zero, List.set_cons_succ]
      refine wpAnyH_ready (rs := [4]) (by kernel_rfl) (by simp) (AllReadyH.cons rfl (fun Kreg hKreg => ?_) AllReadyH.nil)
      refine step_store (by rfl) (.tmp 4) (.tmp 98) (by rfl) (by rfl) (by rfl) hstA ?_
      refine hKreg.out _ _ (by first | exact ⟨HKA.out.cell 18, HKA.out.cell 19⟩ | exact ⟨HKB.out.cell 18, HKB.out.cell 19⟩) (fun hHeld => ?_)
      clear hKreg Kreg
      try simp only [Act.put, List.setIfInBounds_toArray, List.set_cons_zero, List.set_cons_succ]
      refine take1 (i := 5) (d := 5) (v := ?_) rfl (by kernel_rfl) (by kernel_rfl) (by kernel_rfl) rfl (fun _ _ _ h => h) (Or.inl ⟨by rfl, ?_⟩) (by assumption) ?_
      rotate_left
      · (intro w hSw; (try dsimp only at hSw); go_simp); with_reducible rfl
      simp only [List.set_cons_zero, List.set_cons_succ]
      refine wpAnyH_ready (rs := [6]) (by kernel_rfl) (by simp) (AllReadyH.cons rfl (fun Kreg hKreg => ?_) AllReadyH.nil)
      refine step_store (by rfl) (.tmp 6) (.tmp 101) (by rfl) (by rfl) (by rfl) hstB ?_
      refine hKreg.out _ _ (by first | exact ⟨HKA.out.cell 18, HKA.out.cell 19⟩ | exact ⟨HKB.out.cell 18, HKB.out.cell 19⟩) (fun hHeld => ?_)
      clear hKreg Kreg
      try simp only [Act.put, List.setIfInBounds_toArray, List.set_cons_zero, List.set_cons_succ]
      refine take1 (i := 7) (d := 7) (v := ?_) rfl (by kernel_rfl) (by kernel_rfl) (by kernel_rfl) rfl (fun _ _ _ h => h) (Or.inl ⟨by rfl, ?_⟩) (by assumption) ?_
      rotate_left
      · (intro w hSw; (try dsimp only at hSw); go_simp); with_reducible rfl
      simp only [List.set_cons_zero, List.set_cons_succ]
      refine wpAnyH_done (by kernel_rfl) ?_ _
      clear hstA hstB
      go_wp2_with fail
      exact bodyPost_ret (v := .tuple #[.agg #[.int .u8 0, .int .u8 0, .int .u8 0, .int .u64 0, .int .u8 0, .int .u64 0, .int .u64 0, .int .u8 0, .string ⟨#[]⟩, .slice none 0 0, .slice none 0 0, .int .u8 0, .int .u32 0, .int .u8 0, .string ⟨#[]⟩, .string ⟨#[]⟩, .string ⟨#[]⟩, .int .u8 0, .int .u8 0, .string ⟨#[]⟩], .bool false, .agg #[.int .u8 (lco : Int), .string ⟨lte.toArray⟩], .bool true]) (by simp [results, Try.results17, asAddr, HL.out, HRp.out]) rfl ⟨rfl, And.intro HG.out.1 HG.out.2⟩
end Go.Proofs.Yteiaiilfekojfaa.Cli
