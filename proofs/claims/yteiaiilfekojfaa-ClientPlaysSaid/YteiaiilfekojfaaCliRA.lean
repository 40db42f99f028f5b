/- The reference of chapter 27, walked: asks, Nudge. Conditions: the list of commands can be read. -/
import Derived.Test.YteiaiilfekojfaaCliR
import Derived.Test.YteiaiilfekojfaaInvS
namespace Go.Proofs.Yteiaiilfekojfaa.Cli
open Go.RowKit Wire Cmd DrawInv

theorem st_ask {w : World} {g : Nat} {old : Array Value} (h : Blk w g 47 old) (ho : old.size = 20) (id dst la lb lk : Nat) (ls lt lu : List UInt8) (lz : Nat) : ∃ w', (Instr.storeAt 47 (.pointer (some ⟨g, 0, none⟩)) (.agg #[.int .u8 (16 + (id : Int)), .int .u8 (dst : Int), .int .u8 1, .int .u64 0, .int .u8 0, .int .u64 0, .int .u64 0, .int .u8 0, .string ⟨#[]⟩, .slice none 0 0, .slice none 0 0, .int .u8 (la : Int), .int .u32 (lb : Int), .int .u8 (lk : Int), .string ⟨ls.toArray⟩, .string ⟨lt.toArray⟩, .string ⟨lu.toArray⟩, .int .u8 (lz : Int), .int .u8 0, .string ⟨#[]⟩])).run Try.prog w = .ok () w' ∧ Blk w' g 47 #[.int .u8 (16 + (id : Int)), .int .u8 (dst : Int), .int .u8 1, .int .u64 0, .int .u8 0, .int .u64 0, .int .u64 0, .int .u8 0, .string ⟨#[]⟩, .slice none 0 0, .slice none 0 0, .int .u8 (la : Int), .int .u32 (lb : Int), .int .u8 (lk : Int), .string ⟨ls.toArray⟩, .string ⟨lt.toArray⟩, .string ⟨lu.toArray⟩, .int .u8 (lz : Int), .int .u8 0, .string ⟨#[]⟩] ∧ w.grownBy w' (some g) :=
  ⟨_, blk_store h ho size_lt rfl, Blk.setRow h, grown_setRow (World.grownBy.refl _ _) (.inr rfl)⟩
theorem st_l0 {w : World} {g : Nat} {old : Array Value} (h : Blk w g 47 old) (ho : old.size = 20) : ∃ w', (Instr.storeAt 47 (.pointer (some ⟨g, 0, none⟩)) (.agg #[.int .u8 0, .int .u8 0, .int .u8 0, .int .u64 0, .int .u8 0, .int .u64 0, .int .u64 0, .int .u8 0, .string ⟨#[]⟩, .slice none 0 0, .slice none 0 0, .int .u8 0, .int .u32 0, .int .u8 0, .string ⟨#[]⟩, .string ⟨#[]⟩, .string ⟨#[]⟩, .int .u8 0, .int .u8 0, .string ⟨#[]⟩])).run Try.prog w = .ok () w' ∧ Blk w' g 47 #[.int .u8 0, .int .u8 0, .int .u8 0, .int .u64 0, .int .u8 0, .int .u64 0, .int .u64 0, .int .u8 0, .string ⟨#[]⟩, .slice none 0 0, .slice none 0 0, .int .u8 0, .int .u32 0, .int .u8 0, .string ⟨#[]⟩, .string ⟨#[]⟩, .string ⟨#[]⟩, .int .u8 0, .int .u8 0, .string ⟨#[]⟩] ∧ w.grownBy w' (some g) :=
  ⟨_, blk_store h ho size_lt rfl, Blk.setRow h, grown_setRow (World.grownBy.refl _ _) (.inr rfl)⟩
theorem st_dst {w : World} {g id n m k : Nat} {x0 : Int} {A : Option Addr} {wt : Bool} (h : Blk w g 32 #[.int .u8 (id : Int), .int .i64 (n : Int), .slice A m k, .bool wt, .int .u8 x0]) (x : Int) : ∃ w', (Instr.storeAt 5 (.pointer (some ⟨g, 4, none⟩)) (.int .u8 x)).run Try.prog w = .ok () w' ∧ Blk w' g 32 #[.int .u8 (id : Int), .int .i64 (n : Int), .slice A m k, .bool wt, .int .u8 x] ∧ w.grownBy w' (some g) := by
  have c1 := h.cell 4
  have f1 := h.frozen 4
  refine ⟨_, by go_simp, h.set_ 4 _, only_setCell (World.grownBy.refl _ _) (.inl rfl) _⟩
set_option linter.unusedSimpArgs false in
set_option linter.unusedVariables false in
set_option maxRecDepth 100000 in
set_option maxHeartbeats 2000000 in
theorem rasks_any (r : Rc) (h4 : r.id < 4) (m : Nat) (hm : r.L.length = m) (hm3 : m ≤ 1000) (A : Option Addr) (k : Nat) (w : World) (hr : Rows w A 7 cmL r.L) : Calls Try.prog 34 #[.agg #[.int .u8 (r.id : Int), .int .i64 (r.n : Int), .slice A m k, .bool r.waits, .int .u8 (r.dst : Int)]] w fun e w' => e = .returned (ltV (askR r)) ∧ Below w.heap.size w w' := by
  have HLA := Lib.hid (fun (W : World) (hb : Below w.heap.size w W) => rlast_any r m hm hm3 A k W (hr.below hb))
  obtain ⟨id, n, L, wt, dst⟩ := r
  unfold askR
  dsimp only at HLA h4 ⊢
  obtain ⟨y, hy⟩ : ∃ y, y = lastR L := ⟨_, rfl⟩
  rw [← hy] at HLA ⊢
  obtain ⟨la, lb, lk, ls, lt, lu, lz⟩ := y
  unfold cmV cmC at HLA
  dsimp only at HLA
  clear hy hm hr
  have hwr : IntKind.u8.wrap (16 + (id : Int)) = 16 + (id : Int) := by rw [IntKind.wrap_u8]; omega
  obtain ⟨gx, hgx⟩ : ∃ g, g = w.heap.size := ⟨_, rfl⟩
  obtain ⟨ga, hga⟩ : ∃ g, g = w.heap.size + 1 := ⟨_, rfl⟩
  obtain ⟨w1, hw1⟩ : ∃ W, W = w.alloc (.cells #[.int .u8 (id : Int), .int .i64 (n : Int), .slice A m k, .bool wt, .int .u8 (dst : Int)] 32) := ⟨_, rfl⟩
  obtain ⟨wA, hwA⟩ : ∃ W, W = w1.alloc (.cells #[.int .u8 0, .int .u8 0, .int .u8 0, .int .u64 0, .int .u8 0, .int .u64 0, .int .u64 0, .int .u8 0, .string ⟨#[]⟩, .slice none 0 0, .slice none 0 0, .int .u8 0, .int .u32 0, .int .u8 0, .string ⟨#[]⟩, .string ⟨#[]⟩, .string ⟨#[]⟩, .int .u8 0, .int .u8 0, .string ⟨#[]⟩] 47) := ⟨_, rfl⟩
  have hs1 : w1.heap.size = ga := by rw [hw1, hga, World.alloc, Array.size_push]
  have bw : Below w.heap.size w wA := by
    rw [hwA, hw1]
    refine ((Below.refl _ w).alloc (Nat.le_refl _) _).alloc ?_ _
    rw [← hw1, hs1, hga]; omega
  have kx : Blk wA gx 32 #[.int .u8 (id : Int), .int .i64 (n : Int), .slice A m k, .bool wt, .int .u8 (dst : Int)] := by rw [hwA, hw1, hgx]; exact (Blk.new w 32 #[.int .u8 (id : Int), .int .i64 (n : Int), .slice A m k, .bool wt, .int .u8 (dst : Int)]).alloc _
  have ka : Blk wA ga 47 #[.int .u8 0, .int .u8 0, .int .u8 0, .int .u64 0, .int .u8 0, .int .u64 0, .int .u64 0, .int .u8 0, .string ⟨#[]⟩, .slice none 0 0, .slice none 0 0, .int .u8 0, .int .u32 0, .int .u8 0, .string ⟨#[]⟩, .string ⟨#[]⟩, .string ⟨#[]⟩, .int .u8 0, .int .u8 0, .string ⟨#[]⟩] := by rw [hwA, ← hs1]; exact Blk.new w1 47 #[.int .u8 0, .int .u8 0, .int .u8 0, .int .u64 0, .int .u8 0, .int .u64 0, .int .u64 0, .int .u8 0, .string ⟨#[]⟩, .slice none 0 0, .slice none 0 0, .int .u8 0, .int .u32 0, .int .u8 0, .string ⟨#[]⟩, .string ⟨#[]⟩, .string ⟨#[]⟩, .int .u8 0, .int .u8 0, .string ⟨#[]⟩]
  have hup : Hid ((w.alloc (.cells #[.int .u8 (id : Int), .int .i64 (n : Int), .slice A m k, .bool wt, .int .u8 (dst : Int)] 32)).alloc (.cells #[.int .u8 0, .int .u8 0, .int .u8 0, .int .u64 0, .int .u8 0, .int .u64 0, .int .u64 0, .int .u8 0, .string ⟨#[]⟩, .slice none 0 0, .slice none 0 0, .int .u8 0, .int .u32 0, .int .u8 0, .string ⟨#[]⟩, .string ⟨#[]⟩, .string ⟨#[]⟩, .int .u8 0, .int .u8 0, .string ⟨#[]⟩] 47) = wA) := by show _ = _; rw [hwA, hw1]
  have hug : Hid (w.heap.size = gx ∧ w.heap.size + 1 = ga) := ⟨hgx.symm, hga.symm⟩
  have HGL : Hid (w.heap.size ≤ ga ∧ gx ≠ ga) := by show _ ∧ _; omega
  clear hwA hw1 hs1 hgx hga
  go_enter Try.func34, Try.ntmps34
  go_upto_region 1 with fail
  rw [show (w.alloc (.cells #[.int .u8 (id : Int), .int .i64 (n : Int), .slice A m k, .bool wt, .int .u8 (dst : Int)] 32)).alloc (.cells #[.int .u8 0, .int .u8 0, .int .u8 0, .int .u64 0, .int .u8 0, .int .u64 0, .int .u64 0, .int .u8 0, .string ⟨#[]⟩, .slice none 0 0, .slice none 0 0, .int .u8 0, .int .u32 0, .int .u8 0, .string ⟨#[]⟩, .string ⟨#[]⟩, .string ⟨#[]⟩, .int .u8 0, .int .u8 0, .string ⟨#[]⟩] 47) = wA from hup.out, hug.out.2, hug.out.1]
  clear hup hug
  have bq0 := bw.drew
  have kxd : Blk wA.drew gx 32 #[.int .u8 (id : Int), .int .i64 (n : Int), .slice A m k, .bool wt, .int .u8 (dst : Int)] := kx
  have kad : Blk wA.drew ga 47 #[.int .u8 0, .int .u8 0, .int .u8 0, .int .u64 0, .int .u8 0, .int .u64 0, .int .u64 0, .int .u8 0, .string ⟨#[]⟩, .slice none 0 0, .slice none 0 0, .int .u8 0, .int .u32 0, .int .u8 0, .string ⟨#[]⟩, .string ⟨#[]⟩, .string ⟨#[]⟩, .int .u8 0, .int .u8 0, .string ⟨#[]⟩] := ka
  clear bw kx ka
  refine wp_region_held_drew (S := (fun W : World => Blk W gx 32 #[.int .u8 (id : Int), .int .i64 (n : Int), .slice A m k, .bool wt, .int .u8 (dst : Int)])) (by kernel_rfl) (kxd) (fun hHeld => ?_)
  refine take1 (i := 0) (d := 3) (v := ?_) rfl (by kernel_rfl) (by kernel_rfl) (by kernel_rfl) rfl (fun _ _ _ h => h) (Or.inl ⟨by rfl, ?_⟩) (by assumption) ?_
  rotate_left
  · (intro w hSw; (try dsimp only at hSw); go_simp); with_reducible rfl
  simp only [List.set_cons_zero, List.set_cons_succ]
  refine take1 (i := 1) (d := 4) (v := ?_) rfl (by kernel_rfl) (by kernel_rfl) (by kernel_rfl) rfl (fun _ _ _ h => h) (Or.inl ⟨by rfl, ?_⟩) (by assumption) ?_
  rotate_left
  · (intro w hSw; have z0 := hSw.cell 0; go_simp); with_reducible rfl
  simp only [List.set_cons_zero, List.set_cons_succ]
  refine take1 (i := 2) (d := 5) (v := ?_) rfl (by kernel_rfl) (by kernel_rfl) (by kernel_rfl) rfl (fun _ _ _ h => h) (Or.inl ⟨by rfl, ?_⟩) (by assumption) ?_
  rotate_left
  · (intro w hSw; (try dsimp only at hSw); go_simp); with_reducible rfl
  simp only [List.set_cons_zero, List.set_cons_succ]
  refine take1 (i := 3) (d := 6) (v := ?_) rfl (by kernel_rfl) (by kernel_rfl) (by kernel_rfl) rfl (fun _ _ _ h => h) (Or.inl ⟨by rfl, ?_⟩) (by assumption) ?_
  rotate_left
  · (intro w hSw; (try dsimp only at hSw); go_simp); with_reducible rfl
  simp only [List.set_cons_zero, List.set_cons_succ]
  refine take1 (i := 4) (d := 7) (v := ?_) rfl (by kernel_rfl) (by kernel_rfl) (by kernel_rfl) rfl (fun _ _ _ h => h) (Or.inl ⟨by rfl, ?_⟩) (by assumption) ?_
  rotate_left
  · (intro w hSw; have z0 := hSw.cell 4; go_simp); with_reducible rfl
  simp only [List.set_cons_zero, List.set_cons_succ]
  refine take1 (i := 5) (d := 8) (v := ?_) rfl (by kernel_rfl) (by kernel_rfl) (by kernel_rfl) rfl (fun _ _ _ h => h) (Or.inl ⟨by rfl, ?_⟩) (by assumption) ?_
  rotate_left
  · intro w hSw; refine (exec_load (.tmp 1) (by rfl) (by rfl) (blk_load (P := Try.prog) (ty := 32) hSw Try.underlying32 rfl size_rc)).trans ?_; with_reducible rfl
  simp only [List.set_cons_zero, List.set_cons_succ]
  refine wpAnyH_ready (rs := [6]) (by kernel_rfl) (by simp) (AllReadyH.cons rfl (fun Kreg hKreg => ?_) AllReadyH.nil)
  go_simp
  refine (HLA.out _ bq0).mono ?_; rintro e w5 ⟨rfl, b5⟩; have b5q := bq0.trans (b5.mono bq0.size); have kx5 := kxd.below b5 kxd.lt; have ka5 := kad.below b5 kad.lt; clear HLA b5
  go_wp2_with fail
  refine hKreg.out _ _ ((by first | exact kx6 | exact kx5)) (fun hHeld => ?_)
  clear hKreg Kreg
  try simp only [Act.put, List.setIfInBounds_toArray, List.set_cons_zero, List.set_cons_succ]
  refine take1 (i := 7) (d := 10) (v := ?_) rfl (by kernel_rfl) (by kernel_rfl) (by kernel_rfl) rfl (fun _ _ _ h => h) (Or.inl ⟨by rfl, ?_⟩) (by assumption) ?_
  rotate_left
  · (intro w hSw; (try dsimp only at hSw); go_simp); with_reducible rfl
  simp only [List.set_cons_zero, List.set_cons_succ]
  refine take1 (i := 8) (d := 11) (v := ?_) rfl (by kernel_rfl) (by kernel_rfl) (by kernel_rfl) rfl (fun _ _ _ h => h) (Or.inl ⟨by rfl, ?_⟩) (by assumption) ?_
  rotate_left
  · (intro w hSw; (try dsimp only at hSw); go_simp); with_reducible rfl
  simp only [List.set_cons_zero, List.set_cons_succ]
  refine wpAnyH_ready (rs := [9]) (by kernel_rfl) (by simp) (AllReadyH.cons rfl (fun Kreg hKreg => ?_) AllReadyH.nil)
  obtain ⟨w6, hst, k6, hg6⟩ := st_ask ka5 rfl id dst la lb lk ls lt lu lz; have kx6 : Blk w6 gx 32 _ := kx5.grown hg6 (fun h => HGL.out.2 (Option.some.inj h)); have b6 := b5q.grown hg6 b5q.size (fun k hk => by cases hk; exact HGL.out.1); have HLD := Lib.hid (blk_loadVar (P := Try.prog) (ty := 47) k6 Try.underlying47 rfl size_lt); refine step_store (by rfl) (.tmp 2) (.tmp 11) (by rfl) (by rfl) (by rfl) hst ?_
  refine hKreg.out _ _ ((by first | exact kx6 | exact kx5)) (fun hHeld => ?_)
  clear hKreg Kreg
  try simp only [Act.put, List.setIfInBounds_toArray, List.set_cons_zero, List.set_cons_succ]
  refine wpAnyH_done (by kernel_rfl) ?_ _
  clear hst
  go_wp2_with fail
  exact bodyPost_ret (v := .agg #[.int .u8 (16 + (id : Int)), .int .u8 (dst : Int), .int .u8 1, .int .u64 0, .int .u8 0, .int .u64 0, .int .u64 0, .int .u8 0, .string ⟨#[]⟩, .slice none 0 0, .slice none 0 0, .int .u8 (la : Int), .int .u32 (lb : Int), .int .u8 (lk : Int), .string ⟨ls.toArray⟩, .string ⟨lt.toArray⟩, .string ⟨lu.toArray⟩, .int .u8 (lz : Int), .int .u8 0, .string ⟨#[]⟩]) (by simp [results, Try.results34, asAddr, HLD.out, Act.put]) rfl ⟨rfl, b6⟩
set_option linter.unusedSimpArgs false in
set_option linter.unusedVariables false in
set_option maxRecDepth 100000 in
set_option maxHeartbeats 2000000 in
theorem rnudge_any (r : Rc) (h4 : r.id < 4) (hd : r.dst < 7) (m : Nat) (hm : r.L.length = m) (hm3 : m ≤ 1000) (A : Option Addr) (k : Nat) (w : World) (hr : Rows w A 7 cmL r.L) : Calls Try.prog 16 #[.agg #[.int .u8 (r.id : Int), .int .i64 (r.n : Int), .slice A m k, .bool r.waits, .int .u8 (r.dst : Int)]] w fun e w' => e = .returned (.tuple #[.agg #[.int .u8 (r.id : Int), .int .i64 (r.n : Int), .slice A m k, .bool r.waits, .int .u8 ((nudR r).1.dst : Int)], ltV (nudR r).2.1, .int .i64 ((nudR r).2.2 : Int)]) ∧ Below w.heap.size w w' := by
  have HAK := Lib.hid (fun (W : World) (hb : Below w.heap.size w W) => rasks_any { r with dst := turnR r } h4 m hm hm3 A k W (hr.below hb))
  obtain ⟨id, n, L, wt, dst⟩ := r
  unfold askR at HAK
  dsimp only at HAK h4 hd ⊢
  obtain ⟨gx, hgx⟩ : ∃ g, g = w.heap.size := ⟨_, rfl⟩
  obtain ⟨gr, hgr⟩ : ∃ g, g = w.heap.size + 1 := ⟨_, rfl⟩
  obtain ⟨gl, hgl⟩ : ∃ g, g = w.heap.size + 1 + 1 := ⟨_, rfl⟩
  obtain ⟨w1, hw1⟩ : ∃ W, W = w.alloc (.cells #[.int .u8 (id : Int), .int .i64 (n : Int), .slice A m k, .bool wt, .int .u8 (dst : Int)] 32) := ⟨_, rfl⟩
  obtain ⟨w2, hw2⟩ : ∃ W, W = w1.alloc (.cells #[.int .u8 0, .int .i64 0, .slice none 0 0, .bool false, .int .u8 0] 32) := ⟨_, rfl⟩
  obtain ⟨wA, hwA⟩ : ∃ W, W = w2.alloc (.cells #[.int .u8 0, .int .u8 0, .int .u8 0, .int .u64 0, .int .u8 0, .int .u64 0, .int .u64 0, .int .u8 0, .string ⟨#[]⟩, .slice none 0 0, .slice none 0 0, .int .u8 0, .int .u32 0, .int .u8 0, .string ⟨#[]⟩, .string ⟨#[]⟩, .string ⟨#[]⟩, .int .u8 0, .int .u8 0, .string ⟨#[]⟩] 47) := ⟨_, rfl⟩
  have hs1 : w1.heap.size = gr := by rw [hw1, hgr, World.alloc, Array.size_push]
  have hs2 : w2.heap.size = gl := by rw [hw2, hgl, World.alloc, Array.size_push, hs1, hgr]
  have bw : Below w.heap.size w wA := by
    rw [hwA, hw2, hw1]
    refine (((Below.refl _ w).alloc (Nat.le_refl _) _).alloc ?_ _).alloc ?_ _
    · rw [← hw1, hs1, hgr]; omega
    · rw [← hw1, ← hw2, hs2, hgl]; omega
  have kx : Blk wA gx 32 #[.int .u8 (id : Int), .int .i64 (n : Int), .slice A m k, .bool wt, .int .u8 (dst : Int)] := by rw [hwA, hw2, hw1, hgx]; exact ((Blk.new w 32 #[.int .u8 (id : Int), .int .i64 (n : Int), .slice A m k, .bool wt, .int .u8 (dst : Int)]).alloc _).alloc _
  have kr : Blk wA gr 32 #[.int .u8 0, .int .i64 0, .slice none 0 0, .bool false, .int .u8 0] := by rw [hwA, hw2, ← hs1]; exact (Blk.new w1 32 #[.int .u8 0, .int .i64 0, .slice none 0 0, .bool false, .int .u8 0]).alloc _
  have kl : Blk wA gl 47 #[.int .u8 0, .int .u8 0, .int .u8 0, .int .u64 0, .int .u8 0, .int .u64 0, .int .u64 0, .int .u8 0, .string ⟨#[]⟩, .slice none 0 0, .slice none 0 0, .int .u8 0, .int .u32 0, .int .u8 0, .string ⟨#[]⟩, .string ⟨#[]⟩, .string ⟨#[]⟩, .int .u8 0, .int .u8 0, .string ⟨#[]⟩] := by rw [hwA, ← hs2]; exact Blk.new w2 47 #[.int .u8 0, .int .u8 0, .int .u8 0, .int .u64 0, .int .u8 0, .int .u64 0, .int .u64 0, .int .u8 0, .string ⟨#[]⟩, .slice none 0 0, .slice none 0 0, .int .u8 0, .int .u32 0, .int .u8 0, .string ⟨#[]⟩, .string ⟨#[]⟩, .string ⟨#[]⟩, .int .u8 0, .int .u8 0, .string ⟨#[]⟩]
  have hup : Hid (((w.alloc (.cells #[.int .u8 (id : Int), .int .i64 (n : Int), .slice A m k, .bool wt, .int .u8 (dst : Int)] 32)).alloc (.cells #[.int .u8 0, .int .i64 0, .slice none 0 0, .bool false, .int .u8 0] 32)).alloc (.cells #[.int .u8 0, .int .u8 0, .int .u8 0, .int .u64 0, .int .u8 0, .int .u64 0, .int .u64 0, .int .u8 0, .string ⟨#[]⟩, .slice none 0 0, .slice none 0 0, .int .u8 0, .int .u32 0, .int .u8 0, .string ⟨#[]⟩, .string ⟨#[]⟩, .string ⟨#[]⟩, .int .u8 0, .int .u8 0, .string ⟨#[]⟩] 47) = wA) := by show _ = _; rw [hwA, hw2, hw1]
  have hug : Hid (w.heap.size = gx ∧ w.heap.size + 1 = gr ∧ w.heap.size + 1 + 1 = gl) := ⟨hgx.symm, hgr.symm, hgl.symm⟩
  have hug2 : Hid (w.heap.size + 2 = gl) := hgl.symm
  have HGL : Hid (w.heap.size ≤ gx ∧ w.heap.size ≤ gr ∧ w.heap.size ≤ gl ∧ gx ≠ gr ∧ gx ≠ gl ∧ gr ≠ gl) := by show _ ∧ _; omega
  clear hwA hw2 hw1 hs1 hs2 hgx hgr hgl
  have x0 := kx.cell 0
  have x1 := kx.cell 1
  have x2 := kx.cell 2
  have x3 := kx.cell 3
  have x4 := kx.cell 4
  cases wt
  · obtain ⟨wB, hst1, kr1, hg1⟩ := st_rc kr rfl id n A m k false dst
    have kl1 : Blk wB gl 47 _ := kl.grown hg1 (fun h => HGL.out.2.2.2.2.2 (Option.some.inj h).symm)
    obtain ⟨wC, hst2, kl2, hg2⟩ := st_l0 kl1 rfl
    have kr2 : Blk wC gr 32 _ := kr1.grown hg2 (fun h => HGL.out.2.2.2.2.2 (Option.some.inj h))
    have b1 := bw.grown hg1 bw.size (fun k hk => by cases hk; exact HGL.out.2.1)
    have b2 := b1.grown hg2 b1.size (fun k hk => by cases hk; exact HGL.out.2.2.1)
    have HLD1 := Lib.hid (blk_loadVar (P := Try.prog) (ty := 32) kr2 Try.underlying32 rfl size_rc)
    have HLD2 := Lib.hid (blk_loadVar (P := Try.prog) (ty := 47) kl2 Try.underlying47 rfl size_lt)
    clear kx kr kl bw kr1 hg1 kl1 kl2 hg2 kr2 b1
    go_enter Try.func16, Try.ntmps16
    go_upto_region 1 with fail
    rw [show ((w.alloc (.cells #[.int .u8 (id : Int), .int .i64 (n : Int), .slice A m k, .bool false, .int .u8 (dst : Int)] 32)).alloc (.cells #[.int .u8 0, .int .i64 0, .slice none 0 0, .bool false, .int .u8 0] 32)).alloc (.cells #[.int .u8 0, .int .u8 0, .int .u8 0, .int .u64 0, .int .u8 0, .int .u64 0, .int .u64 0, .int .u8 0, .string ⟨#[]⟩, .slice none 0 0, .slice none 0 0, .int .u8 0, .int .u32 0, .int .u8 0, .string ⟨#[]⟩, .string ⟨#[]⟩, .string ⟨#[]⟩, .int .u8 0, .int .u8 0, .string ⟨#[]⟩] 47) = wA from hup.out]
    first | rw [hug.out.2.2] | rw [hug2.out]
    rw [hug.out.2.1, hug.out.1]
    go_wp2_with (first | refine wpList_store (by rfl) (.tmp 2) (.tmp 8) (by rfl) (by rfl) (by rfl) hst1 ?_ | refine wpList_store (by rfl) (.tmp 3) (.tmp 9) (by rfl) (by rfl) (by rfl) hst2 ?_)
    exact bodyPost_ret (v := .tuple #[.agg #[.int .u8 (id : Int), .int .i64 (n : Int), .slice A m k, .bool false, .int .u8 (dst : Int)], .agg #[.int .u8 0, .int .u8 0, .int .u8 0, .int .u64 0, .int .u8 0, .int .u64 0, .int .u64 0, .int .u8 0, .string ⟨#[]⟩, .slice none 0 0, .slice none 0 0, .int .u8 0, .int .u32 0, .int .u8 0, .string ⟨#[]⟩, .string ⟨#[]⟩, .string ⟨#[]⟩, .int .u8 0, .int .u8 0, .string ⟨#[]⟩], .int .i64 13]) (by simp [results, Try.results16, asAddr, HLD1.out, HLD2.out, Act.put]) rfl ⟨rfl, b2⟩
  obtain ⟨t, ht⟩ : ∃ t, t = turnR ⟨id, n, L, true, dst⟩ := ⟨_, rfl⟩
  have hn : nudR ⟨id, n, L, true, dst⟩ = (⟨id, n, L, true, t⟩, askR ⟨id, n, L, true, t⟩, 0) := by unfold nudR; rw [← ht]; rfl
  rw [hn]
  rw [← ht] at HAK
  unfold askR
  dsimp only at HAK ⊢
  obtain ⟨y, hy⟩ : ∃ y, y = lastR L := ⟨_, rfl⟩
  rw [← hy] at HAK ⊢
  obtain ⟨la, lb, lk, ls, lt, lu, lz⟩ := y
  unfold turnR at ht
  dsimp only at ht
  have HAKW : Hid (∀ W, Below w.heap.size w W → Calls Try.prog 34 #[.agg #[.int .u8 (id : Int), .int .i64 (n : Int), .slice A m k, .bool true, .int .u8 (t : Int)]] W fun e w' => e = .returned (.agg #[.int .u8 (16 + (id : Int)), .int .u8 (t : Int), .int .u8 1, .int .u64 0, .int .u8 0, .int .u64 0, .int .u64 0, .int .u8 0, .string ⟨#[]⟩, .slice none 0 0, .slice none 0 0, .int .u8 (la : Int), .int .u32 (lb : Int), .int .u8 (lk : Int), .string ⟨ls.toArray⟩, .string ⟨lt.toArray⟩, .string ⟨lu.toArray⟩, .int .u8 (lz : Int), .int .u8 0, .string ⟨#[]⟩]) ∧ Below W.heap.size W w') := HAK.out
  have hw1 : IntKind.u8.wrap ((dst : Int) + 1) = (dst : Int) + 1 := by rw [IntKind.wrap_u8]; omega
  have hw2 : IntKind.i64.wrap ((dst : Int) + 1) = (dst : Int) + 1 := by rw [IntKind.wrap_i64]; omega
  obtain ⟨wB, hst1, kx1, hg1⟩ := st_dst kx ((dst : Int) + 1)
  have bB := bw.grown hg1 bw.size (fun k hk => by cases hk; exact HGL.out.1)
  have kr1 : Blk wB gr 32 _ := kr.grown hg1 (fun h => HGL.out.2.2.2.1 (Option.some.inj h).symm)
  have kl1 : Blk wB gl 47 _ := kl.grown hg1 (fun h => HGL.out.2.2.2.2.1 (Option.some.inj h).symm)
  have y1 := kx1.cell 1
  have y4 := kx1.cell 4
  clear kx kr kl bw hg1 HAK hy hn hm hr
  by_cases hdn : dst + 1 = n
  · have hdi : (((dst : Int) + 1) == (n : Int)) = true := by rw [beq_iff_eq]; omega
    rw [if_pos hdn] at ht
    subst ht
    obtain ⟨wC, hst2, kx2, hg2⟩ := st_dst kx1 0
    have bC := bB.grown hg2 bB.size (fun k hk => by cases hk; exact HGL.out.1)
    have kr2 : Blk wC gr 32 _ := kr1.grown hg2 (fun h => HGL.out.2.2.2.1 (Option.some.inj h).symm)
    have kl2 : Blk wC gl 47 _ := kl1.grown hg2 (fun h => HGL.out.2.2.2.2.1 (Option.some.inj h).symm)
    have kxd : Blk wC.drew gx 32 #[.int .u8 (id : Int), .int .i64 (n : Int), .slice A m k, .bool true, .int .u8 ((0 : Nat) : Int)] := kx2
    have krd : Blk wC.drew gr 32 _ := kr2
    have kld : Blk wC.drew gl 47 _ := kl2
    have bq0 := bC.drew
    clear kx1 kr1 kl1 kx2 kr2 kl2 bC bB hg2 hdn
    go_enter Try.func16, Try.ntmps16
    go_upto_region 1 with fail
    rw [show ((w.alloc (.cells #[.int .u8 (id : Int), .int .i64 (n : Int), .slice A m k, .bool true, .int .u8 (dst : Int)] 32)).alloc (.cells #[.int .u8 0, .int .i64 0, .slice none 0 0, .bool false, .int .u8 0] 32)).alloc (.cells #[.int .u8 0, .int .u8 0, .int .u8 0, .int .u64 0, .int .u8 0, .int .u64 0, .int .u64 0, .int .u8 0, .string ⟨#[]⟩, .slice none 0 0, .slice none 0 0, .int .u8 0, .int .u32 0, .int .u8 0, .string ⟨#[]⟩, .string ⟨#[]⟩, .string ⟨#[]⟩, .int .u8 0, .int .u8 0, .string ⟨#[]⟩] 47) = wA from hup.out]
    first | rw [hug.out.2.2] | rw [hug2.out]
    rw [hug.out.2.1, hug.out.1]
    go_upto_region 6 with (first | refine wpList_store (by rfl) (.tmp 13) (.tmp 12) (by rfl) (by rfl) (by rfl) hst1 ?_ | refine wpList_store (by rfl) (.tmp 20) (.const (.int .u8 0)) (by rfl) (by rfl) (by rfl) hst2 ?_)
    clear hst1 hst2 x0 x1 x2 x3 x4 y1 y4
    refine wp_region_held_drew (S := (fun W : World => Blk W gx 32 #[.int .u8 (id : Int), .int .i64 (n : Int), .slice A m k, .bool true, .int .u8 ((0 : Nat) : Int)])) (by kernel_rfl) (kxd) (fun hHeld => ?_)
    refine take1 (i := 0) (d := 21) (v := ?_) rfl (by kernel_rfl) (by kernel_rfl) (by kernel_rfl) rfl (fun _ _ _ h => h) (Or.inl ⟨by rfl, ?_⟩) (by assumption) ?_
    rotate_left
    · intro w hSw; refine (exec_load (.tmp 1) (by rfl) (by rfl) (blk_load (P := Try.prog) (ty := 32) hSw Try.underlying32 rfl size_rc)).trans ?_; with_reducible rfl
    simp only [List.set_cons_zero, List.set_cons_succ]
    refine take1 (i := 1) (d := 22) (v := ?_) rfl (by kernel_rfl) (by kernel_rfl) (by kernel_rfl) rfl (fun _ _ _ h => h) (Or.inl ⟨by rfl, ?_⟩) (by assumption) ?_
    rotate_left
    · intro w hSw; refine (exec_load (.tmp 1) (by rfl) (by rfl) (blk_load (P := Try.prog) (ty := 32) hSw Try.underlying32 rfl size_rc)).trans ?_; with_reducible rfl
    simp only [List.set_cons_zero, List.set_cons_succ]
    refine wpAnyH_ready (rs := [2]) (by kernel_rfl) (by simp) (AllReadyH.cons rfl (fun Kreg hKreg => ?_) AllReadyH.nil)
    go_simp
    refine (HAKW.out _ bq0).mono ?_; rintro e w5 ⟨rfl, b5⟩; have b5q := bq0.trans (b5.mono bq0.size); have kx5 := kxd.below b5 kxd.lt; have kr5 := krd.below b5 krd.lt; have kl5 := kld.below b5 kld.lt; clear HAKW b5
    go_wp2_with fail
    refine hKreg.out _ _ ((by first | exact kx7 | exact kx6 | exact kx5)) (fun hHeld => ?_)
    clear hKreg Kreg
    try simp only [Act.put, List.setIfInBounds_toArray, List.set_cons_zero, List.set_cons_succ]
    refine wpAnyH_ready (rs := [3]) (by kernel_rfl) (by simp) (AllReadyH.cons rfl (fun Kreg hKreg => ?_) AllReadyH.nil)
    obtain ⟨w6, hst3, kr6, hg6⟩ := st_rc kr5 rfl id n A m k true (0); have kx6 : Blk w6 gx 32 _ := kx5.grown hg6 (fun h => HGL.out.2.2.2.1 (Option.some.inj h)); have kl6 : Blk w6 gl 47 _ := kl5.grown hg6 (fun h => HGL.out.2.2.2.2.2 (Option.some.inj h).symm); have b6 := b5q.grown hg6 b5q.size (fun k hk => by cases hk; exact HGL.out.2.1); refine step_store (by rfl) (.tmp 2) (.tmp 21) (by rfl) (by rfl) (by rfl) hst3 ?_
    refine hKreg.out _ _ ((by first | exact kx7 | exact kx6 | exact kx5)) (fun hHeld => ?_)
    clear hKreg Kreg
    try simp only [Act.put, List.setIfInBounds_toArray, List.set_cons_zero, List.set_cons_succ]
    refine wpAnyH_ready (rs := [4]) (by kernel_rfl) (by simp) (AllReadyH.cons rfl (fun Kreg hKreg => ?_) AllReadyH.nil)
    obtain ⟨w7, hst4, kl7, hg7⟩ := st_ask kl6 rfl id (0) la lb lk ls lt lu lz; have kx7 : Blk w7 gx 32 _ := kx6.grown hg7 (fun h => HGL.out.2.2.2.2.1 (Option.some.inj h)); have kr7 : Blk w7 gr 32 _ := kr6.grown hg7 (fun h => HGL.out.2.2.2.2.2 (Option.some.inj h)); have b7 := b6.grown hg7 b6.size (fun k hk => by cases hk; exact HGL.out.2.2.1); have HLD1 := Lib.hid (blk_loadVar (P := Try.prog) (ty := 32) kr7 Try.underlying32 rfl size_rc); have HLD2 := Lib.hid (blk_loadVar (P := Try.prog) (ty := 47) kl7 Try.underlying47 rfl size_lt); refine step_store (by rfl) (.tmp 3) (.tmp 23) (by rfl) (by rfl) (by rfl) hst4 ?_
    refine hKreg.out _ _ ((by first | exact kx7 | exact kx6 | exact kx5)) (fun hHeld => ?_)
    clear hKreg Kreg
    try simp only [Act.put, List.setIfInBounds_toArray, List.set_cons_zero, List.set_cons_succ]
    refine take1 (i := 5) (d := 4) (v := ?_) rfl (by kernel_rfl) (by kernel_rfl) (by kernel_rfl) rfl (fun _ _ _ h => h) (Or.inl ⟨by rfl, ?_⟩) (by assumption) ?_
    rotate_left
    · (intro w hSw; (try dsimp only at hSw); go_simp); with_reducible rfl
    simp only [List.set_cons_zero, List.set_cons_succ]
    refine wpAnyH_done (by kernel_rfl) ?_ _
    clear hst3 hst4
    go_wp2_with fail
    exact bodyPost_ret (v := .tuple #[.agg #[.int .u8 (id : Int), .int .i64 (n : Int), .slice A m k, .bool true, .int .u8 ((0 : Nat) : Int)], .agg #[.int .u8 (16 + (id : Int)), .int .u8 ((0 : Nat) : Int), .int .u8 1, .int .u64 0, .int .u8 0, .int .u64 0, .int .u64 0, .int .u8 0, .string ⟨#[]⟩, .slice none 0 0, .slice none 0 0, .int .u8 (la : Int), .int .u32 (lb : Int), .int .u8 (lk : Int), .string ⟨ls.toArray⟩, .string ⟨lt.toArray⟩, .string ⟨lu.toArray⟩, .int .u8 (lz : Int), .int .u8 0, .string ⟨#[]⟩], .int .i64 0]) (by simp [results, Try.results16, asAddr, HLD1.out, HLD2.out, Act.put]) rfl ⟨rfl, b7⟩
  · have hdi : (((dst : Int) + 1) == (n : Int)) = false := beq_eq_false_iff_ne.2 (by omega)
    have hdi2 : ¬ (dst : Int) + 1 = (n : Int) := by omega
    rw [if_neg hdn] at ht
    subst ht
    have kxd : Blk wB.drew gx 32 #[.int .u8 (id : Int), .int .i64 (n : Int), .slice A m k, .bool true, .int .u8 ((dst + 1 : Nat) : Int)] := kx1
    have krd : Blk wB.drew gr 32 _ := kr1
    have kld : Blk wB.drew gl 47 _ := kl1
    have bq0 := bB.drew
    clear kx1 kr1 kl1 bB hdn
    go_enter Try.func16, Try.ntmps16
    go_upto_region 1 with fail
    rw [show ((w.alloc (.cells #[.int .u8 (id : Int), .int .i64 (n : Int), .slice A m k, .bool true, .int .u8 (dst : Int)] 32)).alloc (.cells #[.int .u8 0, .int .i64 0, .slice none 0 0, .bool false, .int .u8 0] 32)).alloc (.cells #[.int .u8 0, .int .u8 0, .int .u8 0, .int .u64 0, .int .u8 0, .int .u64 0, .int .u64 0, .int .u8 0, .string ⟨#[]⟩, .slice none 0 0, .slice none 0 0, .int .u8 0, .int .u32 0, .int .u8 0, .string ⟨#[]⟩, .string ⟨#[]⟩, .string ⟨#[]⟩, .int .u8 0, .int .u8 0, .string ⟨#[]⟩] 47) = wA from hup.out]
    first | rw [hug.out.2.2] | rw [hug2.out]
    rw [hug.out.2.1, hug.out.1]
    go_upto_region 6 with (refine wpList_store (by rfl) (.tmp 13) (.tmp 12) (by rfl) (by rfl) (by rfl) hst1 ?_)
    clear hst1 x0 x1 x2 x3 x4 y1 y4
    refine wp_region_held_drew (S := (fun W : World => Blk W gx 32 #[.int .u8 (id : Int), .int .i64 (n : Int), .slice A m k, .bool true, .int .u8 ((dst + 1 : Nat) : Int)])) (by kernel_rfl) (kxd) (fun hHeld => ?_)
    refine take1 (i := 0) (d := 21) (v := ?_) rfl (by kernel_rfl) (by kernel_rfl) (by kernel_rfl) rfl (fun _ _ _ h => h) (Or.inl ⟨by rfl, ?_⟩) (by assumption) ?_
    rotate_left
    · intro w hSw; refine (exec_load (.tmp 1) (by rfl) (by rfl) (blk_load (P := Try.prog) (ty := 32) hSw Try.underlying32 rfl size_rc)).trans ?_; with_reducible rfl
    simp only [List.set_cons_zero, List.set_cons_succ]
    refine take1 (i := 1) (d := 22) (v := ?_) rfl (by kernel_rfl) (by kernel_rfl) (by kernel_rfl) rfl (fun _ _ _ h => h) (Or.inl ⟨by rfl, ?_⟩) (by assumption) ?_
    rotate_left
    · intro w hSw; refine (exec_load (.tmp 1) (by rfl) (by rfl) (blk_load (P := Try.prog) (ty := 32) hSw Try.underlying32 rfl size_rc)).trans ?_; with_reducible rfl
    simp only [List.set_cons_zero, List.set_cons_succ]
    refine wpAnyH_ready (rs := [2]) (by kernel_rfl) (by simp) (AllReadyH.cons rfl (fun Kreg hKreg => ?_) AllReadyH.nil)
    go_simp
    refine (HAKW.out _ bq0).mono ?_; rintro e w5 ⟨rfl, b5⟩; have b5q := bq0.trans (b5.mono bq0.size); have kx5 := kxd.below b5 kxd.lt; have kr5 := krd.below b5 krd.lt; have kl5 := kld.below b5 kld.lt; clear HAKW b5
    go_wp2_with fail
    refine hKreg.out _ _ ((by first | exact kx7 | exact kx6 | exact kx5)) (fun hHeld => ?_)
    clear hKreg Kreg
    try simp only [Act.put, List.setIfInBounds_toArray, List.set_cons_zero, List.set_cons_succ]
    refine wpAnyH_ready (rs := [3]) (by kernel_rfl) (by simp) (AllReadyH.cons rfl (fun Kreg hKreg => ?_) AllReadyH.nil)
    obtain ⟨w6, hst3, kr6, hg6⟩ := st_rc kr5 rfl id n A m k true (dst + 1); have kx6 : Blk w6 gx 32 _ := kx5.grown hg6 (fun h => HGL.out.2.2.2.1 (Option.some.inj h)); have kl6 : Blk w6 gl 47 _ := kl5.grown hg6 (fun h => HGL.out.2.2.2.2.2 (Option.some.inj h).symm); have b6 := b5q.grown hg6 b5q.size (fun k hk => by cases hk; exact HGL.out.2.1); refine step_store (by rfl) (.tmp 2) (.tmp 21) (by rfl) (by rfl) (by rfl) hst3 ?_
    refine hKreg.out _ _ ((by first | exact kx7 | exact kx6 | exact kx5)) (fun hHeld => ?_)
    clear hKreg Kreg
    try simp only [Act.put, List.setIfInBounds_toArray, List.set_cons_zero, List.set_cons_succ]
    refine wpAnyH_ready (rs := [4]) (by kernel_rfl) (by simp) (AllReadyH.cons rfl (fun Kreg hKreg => ?_) AllReadyH.nil)
    obtain ⟨w7, hst4, kl7, hg7⟩ := st_ask kl6 rfl id (dst + 1) la lb lk ls lt lu lz; have kx7 : Blk w7 gx 32 _ := kx6.grown hg7 (fun h => HGL.out.2.2.2.2.1 (Option.some.inj h)); have kr7 : Blk w7 gr 32 _ := kr6.grown hg7 (fun h => HGL.out.2.2.2.2.2 (Option.some.inj h)); have b7 := b6.grown hg7 b6.size (fun k hk => by cases hk; exact HGL.out.2.2.1); have HLD1 := Lib.hid (blk_loadVar (P := Try.prog) (ty := 32) kr7 Try.underlying32 rfl size_rc); have HLD2 := Lib.hid (blk_loadVar (P := Try.prog) (ty := 47) kl7 Try.underlying47 rfl size_lt); refine step_store (by rfl) (.tmp 3) (.tmp 23) (by rfl) (by rfl) (by rfl) hst4 ?_
    refine hKreg.out _ _ ((by first | exact kx7 | exact kx6 | exact kx5)) (fun hHeld => ?_)
    clear hKreg Kreg
    try simp only [Act.put, List.setIfInBounds_toArray, List.set_cons_zero, List.set_cons_succ]
    refine take1 (i := 5) (d := 4) (v := ?_) rfl (by kernel_rfl) (by kernel_rfl) (by kernel_rfl) rfl (fun _ _ _ h => h) (Or.inl ⟨by rfl, ?_⟩) (by assumption) ?_
    rotate_left
    · (intro w hSw; (try dsimp only at hSw); go_simp); with_reducible rfl
    simp only [List.set_cons_zero, List.set_cons_succ]
    refine wpAnyH_done (by kernel_rfl) ?_ _
    clear hst3 hst4
    go_wp2_with fail
    exact bodyPost_ret (v := .tuple #[.agg #[.int .u8 (id : Int), .int .i64 (n : Int), .slice A m k, .bool true, .int .u8 ((dst + 1 : Nat) : Int)], .agg #[.int .u8 (16 + (id : Int)), .int .u8 ((dst + 1 : Nat) : Int), .int .u8 1, .int .u64 0, .int .u8 0, .int .u64 0, .int .u64 0, .int .u8 0, .string ⟨#[]⟩, .slice none 0 0, .slice none 0 0, .int .u8 (la : Int), .int .u32 (lb : Int), .int .u8 (lk : Int), .string ⟨ls.toArray⟩, .string ⟨lt.toArray⟩, .string ⟨lu.toArray⟩, .int .u8 (lz : Int), .int .u8 0, .string ⟨#[]⟩], .int .i64 0]) (by simp [results, Try.results16, asAddr, HLD1.out, HLD2.out, Act.put]) rfl ⟨rfl, b7⟩
end Go.Proofs.Yteiaiilfekojfaa.Cli
