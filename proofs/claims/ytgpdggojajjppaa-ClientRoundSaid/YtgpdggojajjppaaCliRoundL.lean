/- The law ClientRound walked. Conditions: what the arguments' types say. -/
import Derived.Test.YtgpdggojajjppaaCliNilL
import Derived.Test.YtgpdggojajjppaaSeen
import Derived.Deep.LoopGhost
namespace Go.Proofs.Ytgpdggojajjppaa.Cli
open Go.RowKit Wire Cmd

/-- The client that waits for its first command, at a node. -/
def clR (id m node : Nat) : Cl := ⟨id, m, node, 1, ⟨id, 1, 1, [107], [], [], 0⟩, true⟩
theorem clR_fits {id m node : Nat} (h1 : id < 4) (h2 : m ≤ 7) (h3 : node < m) : (clR id m node).Fits :=
  ⟨h1, (show 1 ≤ m by omega), h2, h3, (show 1 < 4294967296 by omega), ⟨(show id < 256 by omega), (show 1 < 4294967296 by omega), (show 1 < 256 by omega), (show 1 ≤ 9223372036854775807 by omega), (show 0 ≤ 9223372036854775807 by omega), (show 0 ≤ 9223372036854775807 by omega), (show 0 < 256 by omega)⟩⟩
theorem invoke_first (id m : Nat) (h : id < 4) : (invokeC (cl0 id m) ⟨0, 0, 1, [107], [], [], 0⟩).1 = clR id m (id % m) := by
  have hm : mayB (stamp (cl0 id m) ⟨0, 0, 1, [107], [], [], 0⟩) = true := by
    unfold mayB stamp cl0
    exact decide_eq_true ⟨h, Nat.le_refl 1, (show 1 ≤ 16 by omega), (show 0 ≤ 64 by omega), (show 0 ≤ 64 by omega), .inl ⟨.inl rfl, Nat.le_refl 1, rfl, rfl, rfl⟩⟩
  unfold invokeC
  rw [hm]
  rfl
def startN (id m mv : Nat) : Nat := if mv < m then mv else id % m
theorem hear_first (id m mv : Nat) (hm : 0 < m) : (hearC (clR id m (id % m)) ⟨0, 16 + id, 3, 0, 0, 0, 0, mv, [], .slice none 0 0, .slice none 0 0, ⟨id, 1, 0, [], [], [], 0⟩, 0, []⟩).1 = clR id m (startN id m mv) := by
  have hf : forB (clR id m (id % m)) ⟨0, 16 + id, 3, 0, 0, 0, 0, mv, [], .slice none 0 0, .slice none 0 0, ⟨id, 1, 0, [], [], [], 0⟩, 0, []⟩ = true := by
    unfold forB clR
    simp [hm]
  unfold hearC startN
  rw [hf]
  simp only [Bool.true_eq_false, if_false]
  by_cases h : mv < m
  · rw [if_pos ⟨by trivial, h⟩, if_pos h]; rfl
  · rw [if_neg (fun q => h q.2), if_neg h, if_neg (fun q => by have := q.1; simp at this)]
def RoundAt (id m s g gm gl : Nat) (w : World) (gk : Nat) (vi : Value) (wr : World) : Prop :=
  ∃ (k : Nat) (ld : Array Value), k + gk = m ∧ vi = .int .i64 (k : Int) ∧ ClAt wr g (clR id m ((s + k) % m)) ∧ SeenAt wr gm .u8 (roundK s m k) ∧ Blk wr gl 47 ld ∧ ld.size = 20 ∧ Hid (0 < k → ld[1]? = some (.int .u8 (((s + k) % m : Nat) : Int))) ∧ Below w.heap.size w wr
set_option linter.unusedSimpArgs false in
set_option maxRecDepth 100000 in
set_option maxHeartbeats 8000000 in
theorem cround_any (id : Nat) (hid : id < 256) (n : Int) (mv : Nat) (hmv : mv < 256) (w : World) : Calls Try.prog 6 #[.int .u8 (id : Int), .int .i64 n, .int .u8 (mv : Int)] w fun e w' => e = .returned (.bool true) ∧ Below w.heap.size w w' := by
  by_cases h1 : 4 ≤ (id : Int)
  · go_enter Try.func6, Try.ntmps6
    go_wp2_with fail
    refine (wakes_any _).mono ?_; rintro e w2 ⟨rfl, B2⟩
    go_wp2_with fail
    go_ret
    exact ⟨rfl, B2⟩
  by_cases h2 : n < 1
  · go_enter Try.func6, Try.ntmps6
    go_wp2_with fail
    refine (wakes_any _).mono ?_; rintro e w2 ⟨rfl, B2⟩
    go_wp2_with fail
    go_ret
    exact ⟨rfl, B2⟩
  by_cases h3 : 7 < n
  · go_enter Try.func6, Try.ntmps6
    go_wp2_with fail
    refine (wakes_any _).mono ?_; rintro e w2 ⟨rfl, B2⟩
    go_wp2_with fail
    go_ret
    exact ⟨rfl, B2⟩
  obtain ⟨m, rfl⟩ := Int.eq_ofNat_of_zero_le (show 0 ≤ n by omega)
  have m1 : 1 ≤ m := by omega
  have m7 : m ≤ 7 := by omega
  have hi4 : id < 4 := by omega
  have HN := Lib.hid (fun W => new_any id m hi4 m1 m7 W)
  have hsl : startN id m mv < m := by
    unfold startN
    split
    · assumption
    · exact Nat.mod_lt _ (by omega)
  have HV := Lib.hid (fun (g : Nat) W h => invoke_any g (cl0 id m) (cl0_fits hi4 m1 m7) ⟨0, 0, 1, [107], [], [], 0⟩ ⟨by decide, by decide, by decide, by decide, by decide, by decide, by decide⟩ W h)
  rw [invoke_first id m hi4] at HV
  have HHr : Hid (∀ g W, ClAt W g (clR id m (id % m)) → Calls Try.prog 22 #[.pointer (some ⟨g, 0, none⟩), .agg #[.int .u8 0, .int .u8 (16 + (id : Int)), .int .u8 3, .int .u64 0, .int .u8 0, .int .u64 0, .int .u64 0, .int .u8 (mv : Int), .string ⟨#[]⟩, .slice none 0 0, .slice none 0 0, .int .u8 (id : Int), .int .u32 1, .int .u8 0, .string ⟨#[]⟩, .string ⟨#[]⟩, .string ⟨#[]⟩, .int .u8 0, .int .u8 0, .string ⟨#[]⟩]] W fun e w' => (∃ v, e = .returned v) ∧ ClGo W g (clR id m (startN id m mv)) w') := fun g W h => by
    have q := hear_any g (clR id m (id % m)) (clR_fits hi4 m7 (Nat.mod_lt _ (by omega))) ⟨0, 16 + id, 3, 0, 0, 0, 0, mv, [], .slice none 0 0, .slice none 0 0, ⟨id, 1, 0, [], [], [], 0⟩, 0, []⟩ ⟨(show 0 < 256 by omega), (show 16 + id < 256 by omega), (show 3 < 256 by omega), hmv, ⟨(show id < 256 by omega), (show 1 < 4294967296 by omega), (show 0 < 256 by omega), (show 0 ≤ 9223372036854775807 by omega), (show 0 ≤ 9223372036854775807 by omega), (show 0 ≤ 9223372036854775807 by omega), (show 0 < 256 by omega)⟩, (show 0 < 256 by omega), rfl, rfl⟩ W h
    rw [hear_first id m mv (by omega)] at q
    exact q.mono fun e w' hq => ⟨⟨_, hq.1⟩, hq.2⟩
  have HNu : Hid (∀ g W (a : Nat), a < m → ClAt W g (clR id m a) → Calls Try.prog 20 #[.pointer (some ⟨g, 0, none⟩)] W fun e w' => ∀ y, y = (a + 1) % m → e = .returned (.tuple #[.agg #[.int .u8 (16 + (id : Int)), .int .u8 (y : Int), .int .u8 1, .int .u64 0, .int .u8 0, .int .u64 0, .int .u64 0, .int .u8 0, .string ⟨#[]⟩, .slice none 0 0, .slice none 0 0, .int .u8 (id : Int), .int .u32 1, .int .u8 1, .string ⟨#[107]⟩, .string ⟨#[]⟩, .string ⟨#[]⟩, .int .u8 0, .int .u8 0, .string ⟨#[]⟩], .int .i64 0]) ∧ ClGo W g (clR id m y) w') := fun g W a ha h => by
    refine (nudge_any g (clR id m a) (clR_fits hi4 m7 ha) W h).mono fun e w' hq y hy => ?_
    subst hy
    exact hq
  have hwid : IntKind.u8.wrap (16 + (id : Int)) = 16 + (id : Int) := by rw [IntKind.wrap_u8]; omega
  generalize hsd : startN id m mv = s at *
  have HSD := Lib.hid hsd
  clear hsd
  go_enter Try.func6, Try.ntmps6
  go_wp2_with fail
  refine (HN.out w).mono ?_; rintro e w1 ⟨rfl, rfl⟩
  have hc : ClAt (w.alloc (.cells (clC (cl0 id m)) 97)) w.heap.size (cl0 id m) := Blk.new w 97 (clC (cl0 id m))
  have bw : Below w.heap.size w (w.alloc (.cells (clC (cl0 id m)) 97)) := (Below.refl _ w).alloc (Nat.le_refl _) _
  obtain ⟨g, hg⟩ : ∃ g, g = w.heap.size := ⟨_, rfl⟩
  have hwg : w.heap.size ≤ g := by omega
  rw [← hg] at hc ⊢
  generalize w.alloc (.cells (clC (cl0 id m)) 97) = w1 at *
  clear hg HN
  go_wp2_with fail
  refine (get_any _).mono ?_; rintro e w2 ⟨rfl, B2⟩
  have hc := Blk.below hc B2 (Blk.lt hc)
  have bw := bw.trans (B2.mono bw.size)
  clear B2
  go_wp2_with fail
  refine (HV.out g _ hc).mono ?_; rintro e w3 ⟨rfl, hc, G3⟩
  have bw := bw.grown G3 bw.size (fun k hk => by cases hk; exact hwg)
  clear G3 HV
  go_wp2_with fail
  refine (HHr.out g _ hc).mono ?_; rintro e w4 ⟨⟨v4, rfl⟩, hc, G4⟩
  have bw := bw.grown G4 bw.size (fun k hk => by cases hk; exact hwg)
  clear G4 HHr
  have hmk : (Instr.makeMap 66 none).run Try.prog w4 = .ok (.map (some w4.heap.size)) (w4.alloc (.map #[] 0)) := by simp [Instr.makeMap]
  go_upto_region 9 with fail
  have hs5 : SeenAt (w4.alloc (.map #[] 0)) w4.heap.size .u8 [] := ⟨#[], 0, heap_alloc_new w4 _, rfl⟩
  have hgl4 := Blk.lt hc
  have hww4 := bw.size
  have hc5 := Blk.alloc hc (.map #[] 0)
  have bw5 := bw.alloc bw.size (.map #[] 0)
  obtain ⟨gm, hgm⟩ : ∃ gm, gm = w4.heap.size := ⟨_, rfl⟩
  have hgne : gm ≠ g := by omega
  have hwgm : w.heap.size ≤ gm := by omega
  rw [← hgm] at hs5 ⊢
  generalize w4.alloc (.map #[] 0) = w5 at *
  clear hmk hc bw hgl4 hww4 hgm
  have kn := Blk.new w5 47 #[.int .u8 0, .int .u8 0, .int .u8 0, .int .u64 0, .int .u8 0, .int .u64 0, .int .u64 0, .int .u8 0, .string ⟨#[]⟩, .slice none 0 0, .slice none 0 0, .int .u8 0, .int .u32 0, .int .u8 0, .string ⟨#[]⟩, .string ⟨#[]⟩, .string ⟨#[]⟩, .int .u8 0, .int .u8 0, .string ⟨#[]⟩]
  have hl5 := Blk.lt hc5
  have hm5 := hs5.lt
  have hw5 := bw5.size
  obtain ⟨gl, hgl⟩ : ∃ gl, gl = w5.heap.size := ⟨_, rfl⟩
  obtain ⟨w6, hst, hc6, hs6, bl6, bw6⟩ : ∃ w6, (Instr.storeAt 47 (.pointer (some ⟨w5.heap.size, 0, none⟩)) (.agg #[.int .u8 0, .int .u8 0, .int .u8 0, .int .u64 0, .int .u8 0, .int .u64 0, .int .u64 0, .int .u8 0, .string ⟨#[]⟩, .slice none 0 0, .slice none 0 0, .int .u8 0, .int .u32 0, .int .u8 0, .string ⟨#[]⟩, .string ⟨#[]⟩, .string ⟨#[]⟩, .int .u8 0, .int .u8 0, .string ⟨#[]⟩])).run Try.prog (w5.alloc (.cells #[.int .u8 0, .int .u8 0, .int .u8 0, .int .u64 0, .int .u8 0, .int .u64 0, .int .u64 0, .int .u8 0, .string ⟨#[]⟩, .slice none 0 0, .slice none 0 0, .int .u8 0, .int .u32 0, .int .u8 0, .string ⟨#[]⟩, .string ⟨#[]⟩, .string ⟨#[]⟩, .int .u8 0, .int .u8 0, .string ⟨#[]⟩] 47)) = .ok () w6 ∧ ClAt w6 g (clR id m s) ∧ SeenAt w6 gm .u8 [] ∧ Blk w6 gl 47 #[.int .u8 0, .int .u8 0, .int .u8 0, .int .u64 0, .int .u8 0, .int .u64 0, .int .u64 0, .int .u8 0, .string ⟨#[]⟩, .slice none 0 0, .slice none 0 0, .int .u8 0, .int .u32 0, .int .u8 0, .string ⟨#[]⟩, .string ⟨#[]⟩, .string ⟨#[]⟩, .int .u8 0, .int .u8 0, .string ⟨#[]⟩] ∧ Below w.heap.size w w6 :=
    ⟨_, blk_store kn rfl size_lt rfl, Blk.setRowFar (Blk.alloc hc5 _) (by omega), hs5.below (below_setRow ((Below.refl _ w5).alloc (Nat.le_refl _) _) (Nat.le_refl _)) hm5, hgl ▸ kn.setRow, below_setRow (bw5.alloc bw5.size _) hw5⟩
  have hlg : gl ≠ g := by omega
  have hlm : gl ≠ gm := by omega
  have hwgl : w.heap.size ≤ gl := by omega
  clear kn hl5 hm5 hw5 hc5 hs5 bw5
  go_wp2_with (refine wpList_store (by rfl) (.tmp 10) (.tmp 50) (by rfl) (by rfl) (by rfl) hst ?_)
  rw [← hgl]
  clear hst hgl
  go_loopg [11] m (fun gk i wr => RoundAt id m s g gm gl w gk i wr)
  case atStart => exact ⟨0, _, by omega, rfl, by rw [Nat.add_zero, Nat.mod_eq_of_lt hsl]; exact hc6, hs6, bl6, rfl, fun h => by omega, bw6⟩
  case round =>
    clear hc6 hs6 bl6 bw6
    obtain ⟨k, ld, hk, rfl, hc, hs, bl, hld, hlast, bw⟩ := hrel
    by_cases hkm : k < m
    · have hkm1 : (k : Int) < (m : Int) := by omega
      have hnew := round_new s m k hkm
      have hsucc := roundK_succ s m k
      have hmod : ((s + k) % m + 1) % m = (s + k + 1) % m := by rw [Nat.add_mod ((s + k) % m), Nat.mod_mod, ← Nat.add_mod]
      have hy := Nat.mod_lt (s + k + 1) (show 0 < m by omega)
      have ha := Nat.mod_lt (s + k) (show 0 < m by omega)
      have hCall := HNu.out g wr ((s + k) % m) ha hc
      have HMK := Lib.hid (show s + (k + 1) = s + k + 1 by omega)
      obtain ⟨y, hyd⟩ : ∃ y, y = (s + k + 1) % m := ⟨_, rfl⟩
      rw [← hyd] at hmod hy hnew hsucc
      have HYD := Lib.hid hyd
      rw [hmod] at hCall
      clear hyd
      clear hmod
      go_wp2_with fail
      refine hCall.mono ?_; rintro e w7 hq
      obtain ⟨rfl, hc7, G7⟩ := hq y rfl
      have hs7 := hs.grown G7 (fun he => hgne (Option.some.inj he))
      have bl7 := bl.grown G7 (fun he => hlg (Option.some.inj he))
      have bw7 := bw.grown G7 bw.size (fun k hk => by cases hk; exact hwg)
      clear hc hs bl bw G7 hCall hq
      have kn := Blk.new w7 47 #[.int .u8 0, .int .u8 0, .int .u8 0, .int .u64 0, .int .u8 0, .int .u64 0, .int .u64 0, .int .u8 0, .string ⟨#[]⟩, .slice none 0 0, .slice none 0 0, .int .u8 0, .int .u32 0, .int .u8 0, .string ⟨#[]⟩, .string ⟨#[]⟩, .string ⟨#[]⟩, .int .u8 0, .int .u8 0, .string ⟨#[]⟩]
      have e1 := Blk.lt hc7
      have e2 := hs7.lt
      have e3 := bl7.lt
      have e4 := bw7.size
      obtain ⟨gn, hgn⟩ : ∃ gn, gn = w7.heap.size := ⟨_, rfl⟩
      obtain ⟨w8, hst8, hc8, hs8, bl8, bn8, bw8⟩ : ∃ w8, (Instr.storeAt 47 (.pointer (some ⟨w7.heap.size, 0, none⟩)) (.agg #[.int .u8 (16 + (id : Int)), .int .u8 (y : Int), .int .u8 1, .int .u64 0, .int .u8 0, .int .u64 0, .int .u64 0, .int .u8 0, .string ⟨#[]⟩, .slice none 0 0, .slice none 0 0, .int .u8 (id : Int), .int .u32 1, .int .u8 1, .string ⟨#[107]⟩, .string ⟨#[]⟩, .string ⟨#[]⟩, .int .u8 0, .int .u8 0, .string ⟨#[]⟩])).run Try.prog (w7.alloc (.cells #[.int .u8 0, .int .u8 0, .int .u8 0, .int .u64 0, .int .u8 0, .int .u64 0, .int .u64 0, .int .u8 0, .string ⟨#[]⟩, .slice none 0 0, .slice none 0 0, .int .u8 0, .int .u32 0, .int .u8 0, .string ⟨#[]⟩, .string ⟨#[]⟩, .string ⟨#[]⟩, .int .u8 0, .int .u8 0, .string ⟨#[]⟩] 47)) = .ok () w8 ∧ ClAt w8 g (clR id m y) ∧ SeenAt w8 gm .u8 (roundK s m k) ∧ Blk w8 gl 47 ld ∧ Blk w8 gn 47 #[.int .u8 (16 + (id : Int)), .int .u8 (y : Int), .int .u8 1, .int .u64 0, .int .u8 0, .int .u64 0, .int .u64 0, .int .u8 0, .string ⟨#[]⟩, .slice none 0 0, .slice none 0 0, .int .u8 (id : Int), .int .u32 1, .int .u8 1, .string ⟨#[107]⟩, .string ⟨#[]⟩, .string ⟨#[]⟩, .int .u8 0, .int .u8 0, .string ⟨#[]⟩] ∧ Below w.heap.size w w8 :=
        ⟨_, blk_store kn rfl size_lt rfl, Blk.setRowFar (Blk.alloc hc7 _) (by omega), hs7.below (below_setRow ((Below.refl _ w7).alloc (Nat.le_refl _) _) (Nat.le_refl _)) e2, (bl7.alloc _).setRowFar (by omega), hgn ▸ kn.setRow, below_setRow (bw7.alloc bw7.size _) e4⟩
      have hng : gn ≠ g := by omega
      have hnm : gn ≠ gm := by omega
      have hnl : gn ≠ gl := by omega
      clear kn e1 e2 e3 e4 hc7 hs7 bl7 bw7
      have hlk : (Instr.lookup 66 (.map (some gm)) (.int .u8 (y : Int)) false).run Try.prog w8 = .ok (.bool false) w8 := seen_look hs8 Try.underlying66 Try.underlying5 (.bool false) (by kernel_rfl) y hnew
      obtain ⟨w9, hput, hs9, hbel, hblk⟩ := seen_put (P := Try.prog) hs8 Try.underlying66 Try.underlying5 (.bool true) y hnew
      have v8 : w8.cell? ⟨gn, 1, none⟩ = some (.int .u8 (y : Int)) := bn8.cell 1
      have hc9 : ClAt w9 g (clR id m y) := hblk _ _ _ hc8 (Ne.symm hgne)
      have bl9 := hblk _ _ _ bl8 hlm
      have bn9 := hblk _ _ _ bn8 hnm
      have bw9 := hbel _ _ bw8 hwgm
      have hld9 := blk_load (P := Try.prog) (ty := 47) bn9 Try.underlying47 rfl size_lt
      obtain ⟨wA, hstA, hcA, hsA, blA, bwA⟩ : ∃ wA, (Instr.storeAt 47 (.pointer (some ⟨gl, 0, none⟩)) (.agg #[.int .u8 (16 + (id : Int)), .int .u8 (y : Int), .int .u8 1, .int .u64 0, .int .u8 0, .int .u64 0, .int .u64 0, .int .u8 0, .string ⟨#[]⟩, .slice none 0 0, .slice none 0 0, .int .u8 (id : Int), .int .u32 1, .int .u8 1, .string ⟨#[107]⟩, .string ⟨#[]⟩, .string ⟨#[]⟩, .int .u8 0, .int .u8 0, .string ⟨#[]⟩])).run Try.prog w9 = .ok () wA ∧ ClAt wA g (clR id m y) ∧ SeenAt wA gm .u8 (roundK s m k ++ [y]) ∧ Blk wA gl 47 #[.int .u8 (16 + (id : Int)), .int .u8 (y : Int), .int .u8 1, .int .u64 0, .int .u8 0, .int .u64 0, .int .u64 0, .int .u8 0, .string ⟨#[]⟩, .slice none 0 0, .slice none 0 0, .int .u8 (id : Int), .int .u32 1, .int .u8 1, .string ⟨#[107]⟩, .string ⟨#[]⟩, .string ⟨#[]⟩, .int .u8 0, .int .u8 0, .string ⟨#[]⟩] ∧ Below w.heap.size w wA :=
        ⟨_, blk_store bl9 (by rw [hld]; rfl) size_lt rfl, Blk.setRowFar hc9 (Ne.symm hlg), (by obtain ⟨es, cl, p1, p2⟩ := hs9; exact ⟨es, cl, (setRow_other (Ne.symm hlm)).trans p1, p2⟩), bl9.setRow, below_setRow bw9 hwgl⟩
      have hwy : IntKind.i64.wrap (y : Int) = (y : Int) := by rw [IntKind.wrap_i64]; omega
      have hym : ¬ (m : Int) ≤ (y : Int) := by omega
      clear hc8 hs8 bl8 bn8 bw8 hs9 hbel hblk hc9 bl9 bn9 bw9 hnew
      rw [hgn] at v8 hld9
      go_wp2_with (first | refine wpList_store (by rfl) (.tmp 12) (.tmp 59) (by rfl) (by rfl) (by rfl) hst8 ?_ | refine wpList_load (by rfl) (.tmp 12) (by rfl) (by rfl) hld9 ?_ | refine wpList_store (by rfl) (.tmp 10) (.tmp 79) (by rfl) (by rfl) (by rfl) hstA ?_)
      go_roundg (m - (k + 1))
      case measure => omega
      case rel => exact ⟨k + 1, _, by omega, by go_num, by rw [HMK.out, ← HYD.out]; exact hcA, by rw [hsucc]; exact hsA, blA, rfl, fun _ => by rw [HMK.out, ← HYD.out]; rfl, bwA⟩
    · have hkm2 : k = m := by omega
      have hkm1 : ¬ (k : Int) < (m : Int) := by omega
      have hwv : IntKind.i64.wrap (mv : Int) = (mv : Int) := by rw [IntKind.wrap_i64]; omega
      by_cases hv : mv < m
      · have hsm : s = mv := by
          have := HSD.out
          unfold startN at this
          rw [if_pos hv] at this
          exact this.symm
        have hl1 := hlast.out (by omega)
        rw [hkm2, Nat.add_mod_right, Nat.mod_eq_of_lt hsl, hsm] at hl1
        have v1 : wr.cell? ⟨gl, 1, none⟩ = some (.int .u8 (mv : Int)) := (bl.cell 1).trans hl1
        have hv1 : ¬ (m : Int) ≤ (mv : Int) := by omega
        clear hc hs bl hlast hl1 HNu HSD hsm hkm2
        go_wp2_with fail
        refine (wakes_any _).mono ?_; rintro e w7 ⟨rfl, B7⟩
        have bz := bw.trans (B7.mono bw.size)
        go_wp2_with fail
        go_ret
        exact ⟨rfl, bz⟩
      · have hv1 : (m : Int) ≤ (mv : Int) := by omega
        clear hc hs bl hlast HNu HSD hkm2
        go_wp2_with fail
        refine (wakes_any _).mono ?_; rintro e w7 ⟨rfl, B7⟩
        have bz := bw.trans (B7.mono bw.size)
        go_wp2_with fail
        go_ret
        exact ⟨rfl, bz⟩
end Go.Proofs.Ytgpdggojajjppaa.Cli
