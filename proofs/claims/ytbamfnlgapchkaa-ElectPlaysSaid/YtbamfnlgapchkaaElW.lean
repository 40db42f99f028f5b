/- Package elect, walked: New, Ballot, Who, Floor, Last, May, Bound. Conditions: the round lies in memory of its own. -/
import Derived.Test.YtbamfnlgapchkaaElM
import Derived.Test.YtbamfnlgapchkaaMemWalk
import Derived.Test.YtbamfnlgapchkaaOwn1
import Derived.Test.YtbamfnlgapchkaaRow
import Derived.Test.YtbamfnlgapchkaaInvS
import Derived.Test.YtbamfnlgapchkaaBatRow
import Derived.Test.YtbamfnlgapchkaaKeep
import Derived.Deep.LoopGhost
import Derived.Deep.DeepCutAuto
import Derived.Deep.CutBlock
namespace Go.Proofs.Ytbamfnlgapchkaa.Ele
open Go.RowKit Bal Mem DrawInv

def roC (q : Ro) (mg : Nat) : Array Value := #[.int .u64 (q.n : Int), .int .u8 (q.r : Int), .int .u8 (q.who : Int), .int .u64 (q.floor : Int), .int .u8 (q.by_ : Int), .int .u64 (q.last : Int), .map (some mg)]
/-- A round in its block, with its map. -/
structure RoS (B g mg : Nat) (q : Ro) (w : World) : Prop where
  hg : Blk w g 127 (roC q mg)
  hm : MapAt w mg q.F
  hB : B ≤ g
  hM : B ≤ mg
  lw : q.who < 128
section
variable {B g mg : Nat} {q : Ro} {w w' : World}
theorem RoS.below (h : RoS B g mg q w) (hb : Below w.heap.size w w') : RoS B g mg q w' := ⟨h.hg.below hb h.hg.lt, h.hm.below hb h.hm.lt, h.hB, h.hM, h.lw⟩
theorem RoS.ne (h : RoS B g mg q w) : g ≠ mg := by
  intro e
  obtain ⟨es, c, L, h1, _⟩ := h.hm
  have h2 : w.heap[g]? = some (.cells (roC q mg) 127 (0, 0)) := h.hg
  rw [e, h1] at h2
  cases h2
end
def okB (b : B) : Bool := decide (0 < b.n) && Bal.mayB b
def NewRo (w : World) (b : B) (e : Ending) (w' : World) : Prop := ∃ g mg, e = .returned (.tuple #[.pointer (some ⟨g, 0, none⟩), .int .i64 0]) ∧ RoS w.heap.size g mg (Ro.new b.n b.r) w' ∧ Below w.heap.size w w'
set_option linter.unusedSimpArgs false in
theorem enew_bad (b : B) (h : okB b = false) (w : World) : Calls Try.prog 51 #[bV b] w fun e w' => e = .returned (.tuple #[.pointer none, .int .i64 2]) ∧ Below w.heap.size w w' := by
  have b0 := below_1 w (.cells (bC b) 71)
  have k0 := Blk.new w 71 (bC b)
  by_cases hm : Bal.mayB b = true
  · have hc := (chk_of b).1 hm
    have hn : b.n = 0 := by
      unfold okB at h
      rw [hm, Bool.and_true] at h
      have := of_decide_eq_false h
      omega
    have hr : b.r = 0 := by
      unfold Bal.mayB at hm
      simp [hn] at hm
      omega
    obtain ⟨n, r⟩ := b
    obtain rfl : n = 0 := hn
    obtain rfl : r = 0 := hr
    have HC := Lib.hid (fun W => check_any ⟨0, 0⟩ W)
    rw [hc] at HC
    unfold bV bC at HC
    unfold bC at b0 k0
    unfold bV bC
    clear h hm hc
    go_enter Try.func51, Try.ntmps51
    go_wp2_with fail
    refine (HC.out _).mono ?_; rintro e w2 ⟨rfl, hal⟩
    have B2 := hal.below
    have k2 := k0.below B2 k0.lt
    have c0 := k2.cell 0
    have c1 := k2.cell 1
    have bz := b0.trans (B2.mono b0.size)
    clear HC hal B2 k0 b0 k2
    go_wp2_with fail
    exact bodyPost_ret (v := .tuple #[.pointer none, .int .i64 2]) (by simp [results, Try.results51]) rfl ⟨rfl, bz⟩
  · have hc := (chk_of b).2 (by simpa using hm)
    have HC := Lib.hid (fun W => check_any b W)
    rw [hc] at HC
    obtain ⟨n, r⟩ := b
    unfold bV bC at HC
    unfold bC at b0 k0
    unfold bV bC
    dsimp only at *
    clear h hm hc
    go_enter Try.func51, Try.ntmps51
    go_wp2_with fail
    refine (HC.out _).mono ?_; rintro e w2 ⟨rfl, hal⟩
    have B2 := hal.below
    have bz := b0.trans (B2.mono b0.size)
    clear HC hal B2 k0 b0
    go_wp2_with fail
    exact bodyPost_ret (v := .tuple #[.pointer none, .int .i64 2]) (by simp [results, Try.results51]) rfl ⟨rfl, bz⟩
set_option linter.unusedSimpArgs false in
theorem enew_any (b : B) (h : okB b = true) (w : World) : Calls Try.prog 51 #[bV b] w fun e w' => NewRo w b e w' := by
  have b0 := below_1 w (.cells (bC b) 71)
  have k0 := Blk.new w 71 (bC b)
  unfold okB at h
  rw [Bool.and_eq_true] at h
  obtain ⟨h1, h2⟩ := h
  have h1 := of_decide_eq_true h1
  have hc := (chk_of b).1 h2
  have HC := Lib.hid (fun W => check_any b W)
  rw [hc] at HC
  obtain ⟨n, r⟩ := b
  unfold bV bC at HC
  unfold bC at b0 k0
  unfold bV bC
  dsimp only at *
  have g0 : ((n : Int) == 0) = false := beq_eq_false_iff_ne.2 (by omega)
  clear h1 h2 hc
  go_enter Try.func51, Try.ntmps51
  go_wp2_with fail
  refine (HC.out _).mono ?_; rintro e w2 ⟨rfl, hal⟩
  have B2 := hal.below
  have k2 := k0.below B2 k0.lt
  have c0 := k2.cell 0
  have c1 := k2.cell 1
  have bz := b0.trans (B2.mono b0.size)
  have b3 : Below w.heap.size w ((w2.alloc (.map #[] 0)).alloc (.cells #[.int .u64 (n : Int), .int .u8 (r : Int), .int .u8 0, .int .u64 0, .int .u8 0, .int .u64 0, .map (some w2.heap.size)] 127)) := (bz.alloc bz.size _).alloc (by have := bz.size; simp; omega) _
  have k3 : Blk ((w2.alloc (.map #[] 0)).alloc (.cells #[.int .u64 (n : Int), .int .u8 (r : Int), .int .u8 0, .int .u64 0, .int .u8 0, .int .u64 0, .map (some w2.heap.size)] 127)) (w2.heap.size + 1) 127 (roC (Ro.new n r) w2.heap.size) := by
    have := Blk.new (w2.alloc (.map #[] 0)) 127 #[.int .u64 (n : Int), .int .u8 (r : Int), .int .u8 0, .int .u64 0, .int .u8 0, .int .u64 0, .map (some w2.heap.size)]
    rw [World.size_alloc] at this
    exact this
  have m3 : MapAt ((w2.alloc (.map #[] 0)).alloc (.cells #[.int .u64 (n : Int), .int .u8 (r : Int), .int .u8 0, .int .u64 0, .int .u8 0, .int .u64 0, .map (some w2.heap.size)] 127)) w2.heap.size (Ro.new n r).F := (MapAt.new w2).below (below_1 _ _) (by simp)
  have HQ := Lib.hid (And.intro k3 (And.intro m3 b3))
  have HS := Lib.hid bz.size
  have hmk : (Instr.makeMap 125 none).run Try.prog w2 = .ok (.map (some w2.heap.size)) (w2.alloc (.map #[] 0)) := by simp [Instr.makeMap]
  clear HC hal B2 k0 b0 k2 bz k3 m3 b3
  go_wp2_with fail
  exact bodyPost_ret (v := .tuple #[.pointer (some ⟨w2.heap.size + 1, 0, none⟩), .int .i64 0]) (by simp [results, Try.results51]) rfl ⟨_, _, rfl, ⟨HQ.out.1, HQ.out.2.1, Nat.le_succ_of_le HS.out, HS.out, (by show 0 < 128; omega)⟩, HQ.out.2.2⟩
theorem ewho_nil (w : World) : Calls Try.prog 63 #[.pointer none] w fun e w' => e = .returned (.int .u8 0) ∧ w = w' := by
  go_enter Try.func63, Try.ntmps63
  go_wp2_with fail
  go_ret
  exact ⟨rfl, rfl⟩
theorem elast_nil (w : World) : Calls Try.prog 57 #[.pointer none] w fun e w' => e = .returned (.int .u64 0) ∧ w = w' := by
  go_enter Try.func57, Try.ntmps57
  go_wp2_with fail
  go_ret
  exact ⟨rfl, rfl⟩
theorem efloor_nil (w : World) : Calls Try.prog 56 #[.pointer none] w fun e w' => e = .returned (.tuple #[.int .u64 0, .int .u8 0]) ∧ w = w' := by
  go_enter Try.func56, Try.ntmps56
  go_wp2_with fail
  exact bodyPost_ret (v := .tuple #[.int .u64 0, .int .u8 0]) (by simp [results, Try.results56]) rfl ⟨rfl, rfl⟩
theorem eballot_nil (w : World) : Calls Try.prog 62 #[.pointer none] w fun e w' => e = .returned (bV ⟨0, 0⟩) ∧ Below w.heap.size w w' := by
  have b0 := below_1 w (.cells #[.int .u64 0, .int .u8 0] 71)
  have k0 := Blk.new w 71 #[.int .u64 0, .int .u8 0]
  obtain ⟨wA, hwA⟩ : ∃ wA, wA = w.alloc (.cells #[.int .u64 0, .int .u8 0] 71) := ⟨_, rfl⟩
  obtain ⟨ga, hga⟩ : ∃ g, g = w.heap.size := ⟨_, rfl⟩
  rw [← hwA] at b0 k0
  rw [← hga] at k0
  obtain ⟨w3, hst, k3, hg3⟩ : ∃ w3, (Instr.storeAt 71 (.pointer (some ⟨ga, 0, none⟩)) (.agg #[.int .u64 0, .int .u8 0])).run Try.prog wA = .ok () w3 ∧ Blk w3 ga 71 #[.int .u64 0, .int .u8 0] ∧ wA.grownBy w3 (some ga) := ⟨_, blk_store k0 rfl (by kernel_rfl) rfl, k0.setRow, grown_setRow (World.grownBy.refl _ _) (.inr rfl)⟩
  have b3 := b0.grown hg3 b0.size (fun k hk => by cases hk; rw [hga]; exact Nat.le_refl _)
  have HLD := Lib.hid (blk_loadVar (P := Try.prog) (ty := 71) k3 Try.underlying71 rfl (by kernel_rfl))
  clear k0 b0 k3 hg3
  go_enter Try.func62, Try.ntmps62
  go_upto_region 1 with fail
  rw [← hwA, ← hga]
  clear hwA hga
  go_wp2_with (refine wpList_store (by rfl) (.tmp 2) (.tmp 5) (by rfl) (by rfl) (by rfl) hst ?_)
  exact bodyPost_ret (v := .agg #[.int .u64 0, .int .u8 0]) (by simp [results, Try.results62, asAddr, HLD.out, Act.put]) rfl ⟨rfl, b3⟩
theorem ebound_nil (s : Nat) (w : World) : Calls Try.prog 55 #[.pointer none, .int .u64 (s : Int)] w fun e w' => e = .returned (.tuple #[.string ⟨#[]⟩, .bool false]) ∧ w = w' := by
  go_enter Try.func55, Try.ntmps55
  go_wp2_with fail
  exact bodyPost_ret (v := .tuple #[.string ⟨#[]⟩, .bool false]) (by simp [results, Try.results55]) rfl ⟨rfl, rfl⟩
theorem emay_nil (s c : Nat) (w : World) : Calls Try.prog 54 #[.pointer none, .int .u64 (s : Int), .int .u8 (c : Int)] w fun e w' => e = .returned (.bool false) ∧ w = w' := by
  go_enter Try.func54, Try.ntmps54
  go_wp2_with fail
  go_ret
  exact ⟨rfl, rfl⟩
section
variable {B0 g mg : Nat} {q : Ro} {w : World}
theorem ewho_any (h : RoS B0 g mg q w) : Calls Try.prog 63 #[.pointer (some ⟨g, 0, none⟩)] w fun e w' => e = .returned (.int .u8 (q.who : Int)) ∧ w = w' := by
  have c2 : w.cell? ⟨g, 2, none⟩ = some (.int .u8 (q.who : Int)) := h.hg.cell 2
  clear h
  go_enter Try.func63, Try.ntmps63
  go_wp2_with fail
  go_ret
  exact ⟨rfl, rfl⟩
theorem elast_any (h : RoS B0 g mg q w) : Calls Try.prog 57 #[.pointer (some ⟨g, 0, none⟩)] w fun e w' => e = .returned (.int .u64 (q.last : Int)) ∧ w = w' := by
  have c5 : w.cell? ⟨g, 5, none⟩ = some (.int .u64 (q.last : Int)) := h.hg.cell 5
  clear h
  go_enter Try.func57, Try.ntmps57
  go_wp2_with fail
  go_ret
  exact ⟨rfl, rfl⟩
set_option linter.unusedVariables false in
set_option linter.unusedSimpArgs false in
set_option maxHeartbeats 2000000 in
theorem efloor_any (h : RoS B0 g mg q w) : Calls Try.prog 56 #[.pointer (some ⟨g, 0, none⟩)] w fun e w' => e = .returned (.tuple #[.int .u64 (q.floor : Int), .int .u8 (q.by_ : Int)]) ∧ Below w.heap.size w w' := by
  obtain ⟨n, r, wh, fl, bb, la, F⟩ := q
  have kg : Blk w.drew g 127 #[.int .u64 (n : Int), .int .u8 (r : Int), .int .u8 (wh : Int), .int .u64 (fl : Int), .int .u8 (bb : Int), .int .u64 (la : Int), .map (some mg)] := h.hg
  clear h
  go_enter Try.func56, Try.ntmps56
  go_upto_region 3 with fail
  refine region_inv2 (by kernel_rfl) [] [(6, .pointer (some ⟨g, 0, none⟩)), (7, .pointer (some ⟨g, 0, none⟩)), (8, .pointer (some ⟨g, 3, none⟩)), (9, .int .u64 (fl : Int)), (10, .pointer (some ⟨g, 0, none⟩)), (11, .pointer (some ⟨g, 0, none⟩)), (12, .pointer (some ⟨g, 4, none⟩)), (13, .int .u8 (bb : Int)), (2, .int .u64 (fl : Int)), (3, .int .u8 (bb : Int))] (by kernel_rfl) (by kernel_rfl) rfl (by kernel_rfl) ?_ ?_ ?_
  · intro q hq; cases hq
  · refine And.intro ?_ ?_
    · intro d hd ρ W hcs bw hn hg
      cases hd
      have e0 : ρ (.tmp 0) = .pointer (some ⟨g, 0, none⟩) := hn 0 (by decide)
      clear hn hg
      refine .inl ⟨trivial, ?_⟩
      refine .inl ⟨_, W, rfl, e0, Below.refl _ _⟩
    refine And.intro ?_ ?_
    · intro d hd ρ W hcs bw hn hg
      cases hd
      have e6 : ρ (.tmp 6) = .pointer (some ⟨g, 0, none⟩) := hn 6 (by decide)
      clear hn hg
      refine .inl ⟨trivial, ?_⟩
      refine .inl ⟨.pointer (some ⟨g, 0, none⟩), W, ?_, rfl, Below.refl _ _⟩
      go_simp
    refine And.intro ?_ ?_
    · intro d hd ρ W hcs bw hn hg
      cases hd
      have e7 : ρ (.tmp 7) = .pointer (some ⟨g, 0, none⟩) := hn 7 (by decide)
      clear hn hg
      refine .inl ⟨trivial, ?_⟩
      refine .inl ⟨.pointer (some ⟨g, 3, none⟩), W, ?_, rfl, Below.refl _ _⟩
      go_simp
    refine And.intro ?_ ?_
    · intro d hd ρ W hcs bw hn hg
      cases hd
      have e8 : ρ (.tmp 8) = .pointer (some ⟨g, 3, none⟩) := hn 8 (by decide)
      clear hn hg
      refine .inl ⟨trivial, ?_⟩
      have z0 : W.cell? ⟨g, 3, none⟩ = some (.int .u64 (fl : Int)) := (Blk.below kg bw (Blk.lt kg)).cell 3
      refine .inl ⟨.int .u64 (fl : Int), W, ?_, rfl, Below.refl _ _⟩
      go_simp
    refine And.intro ?_ ?_
    · intro d hd ρ W hcs bw hn hg
      cases hd
      have e0 : ρ (.tmp 0) = .pointer (some ⟨g, 0, none⟩) := hn 0 (by decide)
      clear hn hg
      refine .inl ⟨trivial, ?_⟩
      refine .inl ⟨_, W, rfl, e0, Below.refl _ _⟩
    refine And.intro ?_ ?_
    · intro d hd ρ W hcs bw hn hg
      cases hd
      have e10 : ρ (.tmp 10) = .pointer (some ⟨g, 0, none⟩) := hn 10 (by decide)
      clear hn hg
      refine .inl ⟨trivial, ?_⟩
      refine .inl ⟨.pointer (some ⟨g, 0, none⟩), W, ?_, rfl, Below.refl _ _⟩
      go_simp
    refine And.intro ?_ ?_
    · intro d hd ρ W hcs bw hn hg
      cases hd
      have e11 : ρ (.tmp 11) = .pointer (some ⟨g, 0, none⟩) := hn 11 (by decide)
      clear hn hg
      refine .inl ⟨trivial, ?_⟩
      refine .inl ⟨.pointer (some ⟨g, 4, none⟩), W, ?_, rfl, Below.refl _ _⟩
      go_simp
    refine And.intro ?_ ?_
    · intro d hd ρ W hcs bw hn hg
      cases hd
      have e12 : ρ (.tmp 12) = .pointer (some ⟨g, 4, none⟩) := hn 12 (by decide)
      clear hn hg
      refine .inl ⟨trivial, ?_⟩
      have z0 : W.cell? ⟨g, 4, none⟩ = some (.int .u8 (bb : Int)) := (Blk.below kg bw (Blk.lt kg)).cell 4
      refine .inl ⟨.int .u8 (bb : Int), W, ?_, rfl, Below.refl _ _⟩
      go_simp
    refine And.intro ?_ ?_
    · intro d hd ρ W hcs bw hn hg
      cases hd
      have e9 : ρ (.tmp 9) = .int .u64 (fl : Int) := hn 9 (by decide)
      clear hn hg
      refine .inl ⟨trivial, ?_⟩
      refine .inl ⟨_, W, rfl, e9, Below.refl _ _⟩
    refine And.intro ?_ ?_
    · intro d hd ρ W hcs bw hn hg
      cases hd
      have e13 : ρ (.tmp 13) = .int .u8 (bb : Int) := hn 13 (by decide)
      clear hn hg
      refine .inl ⟨trivial, ?_⟩
      refine .inl ⟨_, W, rfl, e13, Below.refl _ _⟩
    trivial
  · intro a' w' hsz hdf hb hVs
    have q2 : a'.eval (.tmp 2) = .int .u64 (fl : Int) := hVs 2
    have q3 : a'.eval (.tmp 3) = .int .u8 (bb : Int) := hVs 3
    have ha := slot_over_seg 6 8 [2, 3] rfl (by kernel_rfl) (of_decide_eq_true (by kernel_rfl)) hsz hdf hVs
    clear hVs hsz hdf
    rw [show List.range' 6 8 = [6, 7, 8, 9, 10, 11, 12, 13] from rfl] at ha
    simp only [List.take_succ_cons, List.take_zero, List.drop_succ_cons, List.drop_zero, List.map_cons, List.map_nil, List.cons_append, List.nil_append, List.foldl_cons, List.foldl_nil, List.set_cons_zero, List.set_cons_succ, q2, q3] at ha
    clear q2 q3
    generalize a'.eval (.tmp 6) = x6 at ha
    generalize a'.eval (.tmp 7) = x7 at ha
    generalize a'.eval (.tmp 8) = x8 at ha
    generalize a'.eval (.tmp 9) = x9 at ha
    generalize a'.eval (.tmp 10) = x10 at ha
    generalize a'.eval (.tmp 11) = x11 at ha
    generalize a'.eval (.tmp 12) = x12 at ha
    generalize a'.eval (.tmp 13) = x13 at ha
    subst ha
    have bz : Below w.heap.size w w' := (below_drewN (Below.refl _ w) 1).trans (hb.mono (Nat.le_refl _))
    clear hb kg
    go_wp2_with fail
    exact bodyPost_ret (v := .tuple #[.int .u64 (fl : Int), .int .u8 (bb : Int)]) (by simp [results, Try.results56]) rfl ⟨rfl, bz⟩
theorem eballot_any (h : RoS B0 g mg q w) : Calls Try.prog 62 #[.pointer (some ⟨g, 0, none⟩)] w fun e w' => e = .returned (bV ⟨q.n, q.r⟩) ∧ Below w.heap.size w w' := by
  have b0 := below_1 w (.cells #[.int .u64 0, .int .u8 0] 71)
  have k0 := Blk.new w 71 #[.int .u64 0, .int .u8 0]
  have kg := h.hg.below b0 h.hg.lt
  obtain ⟨wA, hwA⟩ : ∃ wA, wA = w.alloc (.cells #[.int .u64 0, .int .u8 0] 71) := ⟨_, rfl⟩
  obtain ⟨ga, hga⟩ : ∃ g, g = w.heap.size := ⟨_, rfl⟩
  rw [← hwA] at b0 k0 kg
  rw [← hga] at k0
  obtain ⟨n, r, wh, fl, bb, la, F⟩ := q
  obtain ⟨w3, hst, k3, hg3⟩ : ∃ w3, (Instr.storeAt 71 (.pointer (some ⟨ga, 0, none⟩)) (.agg #[.int .u64 (n : Int), .int .u8 (r : Int)])).run Try.prog wA = .ok () w3 ∧ Blk w3 ga 71 #[.int .u64 (n : Int), .int .u8 (r : Int)] ∧ wA.grownBy w3 (some ga) := ⟨_, blk_store k0 rfl (by kernel_rfl) rfl, k0.setRow, grown_setRow (World.grownBy.refl _ _) (.inr rfl)⟩
  have b3 := b0.grown hg3 b0.size (fun k hk => by cases hk; rw [hga]; exact Nat.le_refl _)
  have HLD := Lib.hid (blk_loadVar (P := Try.prog) (ty := 71) k3 Try.underlying71 rfl (by kernel_rfl))
  have c0 : wA.cell? ⟨g, 0, none⟩ = some (.int .u64 (n : Int)) := kg.cell 0
  have c1 : wA.cell? ⟨g, 1, none⟩ = some (.int .u8 (r : Int)) := kg.cell 1
  clear k0 b0 k3 hg3 kg h
  go_enter Try.func62, Try.ntmps62
  go_upto_region 1 with fail
  rw [← hwA, ← hga]
  clear hwA hga
  go_wp2_with (refine wpList_store (by rfl) (.tmp 2) (.tmp 9) (by rfl) (by rfl) (by rfl) hst ?_)
  exact bodyPost_ret (v := .agg #[.int .u64 (n : Int), .int .u8 (r : Int)]) (by simp [results, Try.results62, asAddr, HLD.out, Act.put]) rfl ⟨rfl, b3⟩
theorem emay_any (h : RoS B0 g mg q w) (s c : Nat) (hc : c < 256) : Calls Try.prog 54 #[.pointer (some ⟨g, 0, none⟩), .int .u64 (s : Int), .int .u8 (c : Int)] w fun e w' => e = .returned (.bool (mayR q s c)) ∧ w = w' := by
  obtain ⟨n, r, wh, fl, bb, la, F⟩ := q
  have c2 : w.cell? ⟨g, 2, none⟩ = some (.int .u8 (wh : Int)) := h.hg.cell 2
  have c3 : w.cell? ⟨g, 3, none⟩ = some (.int .u64 (fl : Int)) := h.hg.cell 3
  have HM := Lib.hid (major_any c wh hc (by have := h.lw; show wh < 256; exact Nat.lt_of_lt_of_le this (by omega)) w)
  unfold mayR
  dsimp only
  clear h
  by_cases h1 : fl < s
  · have h1i : (fl : Int) < (s : Int) := by omega
    rw [decide_eq_true h1, Bool.true_and]
    generalize majorB c wh = mj at *
    clear h1
    go_enter Try.func54, Try.ntmps54
    go_wp2_with fail
    refine HM.out.mono ?_; rintro e w2 ⟨rfl, rfl⟩
    go_wp2_with fail
    go_ret
    exact ⟨rfl, rfl⟩
  · have h1i : ¬ (fl : Int) < (s : Int) := by omega
    rw [decide_eq_false h1, Bool.false_and]
    clear h1 HM
    go_enter Try.func54, Try.ntmps54
    go_wp2_with fail
    go_ret
    exact ⟨rfl, rfl⟩
set_option linter.unusedVariables false in
set_option linter.unusedSimpArgs false in
set_option maxRecDepth 100000 in
set_option maxHeartbeats 2000000 in
theorem ebound_any (h : RoS B0 g mg q w) (s : Nat) : Calls Try.prog 55 #[.pointer (some ⟨g, 0, none⟩), .int .u64 (s : Int)] w fun e w' => e = .returned (.tuple #[.string ⟨(boundV q s).toArray⟩, .bool (boundB q s)]) ∧ Below w.heap.size w w' := by
  obtain ⟨n, r, wh, fl, bb, la, F⟩ := q
  have hlk := map_look_ h.hm s
  have c6 : w.cell? ⟨g, 6, none⟩ = some (.map (some mg)) := h.hg.cell 6
  unfold boundV boundB
  dsimp only at hlk ⊢
  obtain ⟨x, hx⟩ : ∃ x, x = (F s).getD vt0 := ⟨_, rfl⟩
  obtain ⟨is, his⟩ : ∃ i, i = (F s).isSome := ⟨_, rfl⟩
  rw [← hx, ← his] at hlk ⊢
  clear hx his
  obtain ⟨xs, xn, xr, xv⟩ := x
  unfold vtV vtC at hlk
  dsimp only at hlk ⊢
  have b0 := below_1 w (.cells #[.int .u64 0, .int .u64 0, .int .u8 0, .string ⟨#[]⟩] 73)
  have k0 := Blk.new w 73 #[.int .u64 0, .int .u64 0, .int .u8 0, .string ⟨#[]⟩]
  have kg := h.hg.below b0 h.hg.lt
  obtain ⟨wA, hwA⟩ : ∃ wA, wA = w.alloc (.cells #[.int .u64 0, .int .u64 0, .int .u8 0, .string ⟨#[]⟩] 73) := ⟨_, rfl⟩
  obtain ⟨ga, hga⟩ : ∃ g, g = w.heap.size := ⟨_, rfl⟩
  have hne : g ≠ ga := by have := h.hg.lt; omega
  rw [← hwA] at b0 k0 kg
  rw [← hga] at k0
  obtain ⟨w3, hst, k3, hg3⟩ : ∃ w3, (Instr.storeAt 73 (.pointer (some ⟨ga, 0, none⟩)) (.agg #[.int .u64 (xs : Int), .int .u64 (xn : Int), .int .u8 (xr : Int), .string ⟨xv.toArray⟩])).run Try.prog wA = .ok () w3 ∧ Blk w3 ga 73 #[.int .u64 (xs : Int), .int .u64 (xn : Int), .int .u8 (xr : Int), .string ⟨xv.toArray⟩] ∧ wA.grownBy w3 (some ga) := ⟨_, blk_store k0 rfl (by kernel_rfl) rfl, k0.setRow, grown_setRow (World.grownBy.refl _ _) (.inr rfl)⟩
  have b3 := b0.grown hg3 b0.size (fun k hk => by cases hk; rw [hga]; exact Nat.le_refl _)
  have kg3w : Blk w3 g 127 #[.int .u64 (n : Int), .int .u8 (r : Int), .int .u8 (wh : Int), .int .u64 (fl : Int), .int .u8 (bb : Int), .int .u64 (la : Int), .map (some mg)] := kg.grown hg3 (fun e => hne (Option.some.inj e))
  have kg3 : Blk w3.drew g 127 #[.int .u64 (n : Int), .int .u8 (r : Int), .int .u8 (wh : Int), .int .u64 (fl : Int), .int .u8 (bb : Int), .int .u64 (la : Int), .map (some mg)] := kg3w
  have kl : Blk w3.drew ga 73 #[.int .u64 (xs : Int), .int .u64 (xn : Int), .int .u8 (xr : Int), .string ⟨xv.toArray⟩] := k3
  have c6A : wA.cell? ⟨g, 6, none⟩ = some (.map (some mg)) := kg.cell 6
  have hup : Hid (w.alloc (.cells #[.int .u64 0, .int .u64 0, .int .u8 0, .string ⟨#[]⟩] 73) = wA) := hwA.symm
  have hug : Hid (w.heap.size = ga) := hga.symm
  clear k0 b0 k3 hg3 kg3w kg h hwA hga hne
  generalize hsx : (⟨xv.toArray⟩ : ByteArray) = sx at *
  clear hsx
  cases is
  · by_cases h1 : s < la
    · have h1i : (s : Int) < (la : Int) := by omega
      rw [decide_eq_true h1]
      clear h1
      go_enter Try.func55, Try.ntmps55
      go_upto_region 3 with fail
      go_upto_region 4 with (first | refine wpList_store (by rfl) (.tmp 6) (.tmp 17) (by rfl) (by rfl) (by rfl) (by rw [hup.out, hug.out]; exact hst) ?_)
      rw [hug.out]
      refine region_inv2 (by kernel_rfl) [] [(19, .pointer (some ⟨ga, 3, none⟩)), (20, .string sx), (21, .bool false), (22, .bool false), (23, .int .u64 (s : Int)), (24, .pointer (some ⟨g, 0, none⟩)), (25, .pointer (some ⟨g, 0, none⟩)), (26, .pointer (some ⟨g, 5, none⟩)), (27, .int .u64 (la : Int)), (28, .bool true), (29, .bool true), (4, .string sx), (5, .bool true)] (by kernel_rfl) (by kernel_rfl) rfl (by kernel_rfl) ?_ ?_ ?_
      · intro q hq; cases hq
      · refine And.intro ?_ ?_
        · intro d hd ρ W hcs bw hn hg
          cases hd
          have e6 : ρ (.tmp 6) = .pointer (some ⟨ga, 0, none⟩) := hn 6 (by decide)
          clear hn hg
          refine .inl ⟨trivial, ?_⟩
          refine .inl ⟨.pointer (some ⟨ga, 3, none⟩), W, ?_, rfl, Below.refl _ _⟩
          go_simp
        refine And.intro ?_ ?_
        · intro d hd ρ W hcs bw hn hg
          cases hd
          have e19 : ρ (.tmp 19) = .pointer (some ⟨ga, 3, none⟩) := hn 19 (by decide)
          clear hn hg
          refine .inl ⟨trivial, ?_⟩
          have z0 : W.cell? ⟨ga, 3, none⟩ = some (.string sx) := (Blk.below kl bw (Blk.lt kl)).cell 3
          refine .inl ⟨.string sx, W, ?_, rfl, Below.refl _ _⟩
          go_simp
        refine And.intro ?_ ?_
        · intro d hd ρ W hcs bw hn hg
          cases hd
          have e7 : ρ (.tmp 7) = .bool false := hn 7 (by decide)
          clear hn hg
          refine .inl ⟨trivial, ?_⟩
          refine .inl ⟨_, W, rfl, e7, Below.refl _ _⟩
        refine And.intro ?_ ?_
        · intro d hd ρ W hcs bw hn hg
          cases hd
          have e21 : ρ (.tmp 21) = .bool false := hn 21 (by decide)
          clear hn hg
          refine .inl ⟨trivial, ?_⟩
          refine .inl ⟨_, W, rfl, e21, Below.refl _ _⟩
        refine And.intro ?_ ?_
        · intro d hd ρ W hcs bw hn hg
          cases hd
          have eg : ρ (.tmp 22) = .bool false := hg _ _ _ _ rfl rfl rfl
          have e1 : ρ (.tmp 1) = .int .u64 (s : Int) := hn 1 (by decide)
          clear hn hg
          refine .inl ⟨⟨_, _, rfl, rfl, eg⟩, ?_⟩
          refine .inl ⟨_, W, rfl, e1, Below.refl _ _⟩
        refine And.intro ?_ ?_
        · intro d hd ρ W hcs bw hn hg
          cases hd
          have eg : ρ (.tmp 22) = .bool false := hg _ _ _ _ rfl rfl rfl
          have e0 : ρ (.tmp 0) = .pointer (some ⟨g, 0, none⟩) := hn 0 (by decide)
          clear hn hg
          refine .inl ⟨⟨_, _, rfl, rfl, eg⟩, ?_⟩
          refine .inl ⟨_, W, rfl, e0, Below.refl _ _⟩
        refine And.intro ?_ ?_
        · intro d hd ρ W hcs bw hn hg
          cases hd
          have eg : ρ (.tmp 22) = .bool false := hg _ _ _ _ rfl rfl rfl
          have e24 : ρ (.tmp 24) = .pointer (some ⟨g, 0, none⟩) := hn 24 (by decide)
          clear hn hg
          refine .inl ⟨⟨_, _, rfl, rfl, eg⟩, ?_⟩
          refine .inl ⟨.pointer (some ⟨g, 0, none⟩), W, ?_, rfl, Below.refl _ _⟩
          go_simp
        refine And.intro ?_ ?_
        · intro d hd ρ W hcs bw hn hg
          cases hd
          have eg : ρ (.tmp 22) = .bool false := hg _ _ _ _ rfl rfl rfl
          have e25 : ρ (.tmp 25) = .pointer (some ⟨g, 0, none⟩) := hn 25 (by decide)
          clear hn hg
          refine .inl ⟨⟨_, _, rfl, rfl, eg⟩, ?_⟩
          refine .inl ⟨.pointer (some ⟨g, 5, none⟩), W, ?_, rfl, Below.refl _ _⟩
          go_simp
        refine And.intro ?_ ?_
        · intro d hd ρ W hcs bw hn hg
          cases hd
          have eg : ρ (.tmp 22) = .bool false := hg _ _ _ _ rfl rfl rfl
          have e26 : ρ (.tmp 26) = .pointer (some ⟨g, 5, none⟩) := hn 26 (by decide)
          clear hn hg
          refine .inl ⟨⟨_, _, rfl, rfl, eg⟩, ?_⟩
          have z0 : W.cell? ⟨g, 5, none⟩ = some (.int .u64 (la : Int)) := (Blk.below kg3 bw (Blk.lt kg3)).cell 5
          refine .inl ⟨.int .u64 (la : Int), W, ?_, rfl, Below.refl _ _⟩
          go_simp
        refine And.intro ?_ ?_
        · intro d hd ρ W hcs bw hn hg
          cases hd
          have eg : ρ (.tmp 22) = .bool false := hg _ _ _ _ rfl rfl rfl
          have e23 : ρ (.tmp 23) = .int .u64 (s : Int) := hn 23 (by decide)
          have e27 : ρ (.tmp 27) = .int .u64 (la : Int) := hn 27 (by decide)
          clear hn hg
          refine .inl ⟨⟨_, _, rfl, rfl, eg⟩, ?_⟩
          refine .inl ⟨.bool true, W, ?_, rfl, Below.refl _ _⟩
          go_simp
        refine And.intro ?_ ?_
        · intro d hd ρ W hcs bw hn hg
          cases hd
          have e22 : ρ (.tmp 22) = .bool false := hn 22 (by decide)
          have e28 : ρ (.tmp 28) = .bool true := hn 28 (by decide)
          clear hn hg
          refine .inl ⟨trivial, ?_⟩
          have hc1 := hcs.1
          refine .inl ⟨.bool true, W, ?_, rfl, Below.refl _ _⟩
          go_simp
        refine And.intro ?_ ?_
        · intro d hd ρ W hcs bw hn hg
          cases hd
          have e20 : ρ (.tmp 20) = .string sx := hn 20 (by decide)
          clear hn hg
          refine .inl ⟨trivial, ?_⟩
          refine .inl ⟨_, W, rfl, e20, Below.refl _ _⟩
        refine And.intro ?_ ?_
        · intro d hd ρ W hcs bw hn hg
          cases hd
          have e29 : ρ (.tmp 29) = .bool true := hn 29 (by decide)
          clear hn hg
          refine .inl ⟨trivial, ?_⟩
          refine .inl ⟨_, W, rfl, e29, Below.refl _ _⟩
        trivial
      · intro a' w' hsz hdf hb hVs
        have q4 : a'.eval (.tmp 4) = .string sx := hVs 4
        have q5 : a'.eval (.tmp 5) = .bool true := hVs 5
        have ha := slot_over_seg 19 11 [4, 5] rfl (by kernel_rfl) (of_decide_eq_true (by kernel_rfl)) hsz hdf hVs
        clear hVs hsz hdf
        rw [show List.range' 19 11 = [19, 20, 21, 22, 23, 24, 25, 26, 27, 28, 29] from rfl] at ha
        simp only [List.take_succ_cons, List.take_zero, List.drop_succ_cons, List.drop_zero, List.map_cons, List.map_nil, List.cons_append, List.nil_append, List.foldl_cons, List.foldl_nil, List.set_cons_zero, List.set_cons_succ, q4, q5] at ha
        clear q4 q5
        generalize a'.eval (.tmp 19) = x19 at ha
        generalize a'.eval (.tmp 20) = x20 at ha
        generalize a'.eval (.tmp 21) = x21 at ha
        generalize a'.eval (.tmp 22) = x22 at ha
        generalize a'.eval (.tmp 23) = x23 at ha
        generalize a'.eval (.tmp 24) = x24 at ha
        generalize a'.eval (.tmp 25) = x25 at ha
        generalize a'.eval (.tmp 26) = x26 at ha
        generalize a'.eval (.tmp 27) = x27 at ha
        generalize a'.eval (.tmp 28) = x28 at ha
        generalize a'.eval (.tmp 29) = x29 at ha
        subst ha
        have bz : Below w.heap.size w w' := b3.drew.trans (hb.mono b3.drew.size)
        clear hb kg3 kl hst c6 c6A hlk b3
        go_wp2_with fail
        exact bodyPost_ret (v := .tuple #[.string sx, .bool true]) (by simp [results, Try.results55]) rfl ⟨by simp, bz⟩
    · have h1i : ¬ (s : Int) < (la : Int) := by omega
      rw [decide_eq_false h1]
      clear h1
      go_enter Try.func55, Try.ntmps55
      go_upto_region 3 with fail
      go_upto_region 4 with (first | refine wpList_store (by rfl) (.tmp 6) (.tmp 17) (by rfl) (by rfl) (by rfl) (by rw [hup.out, hug.out]; exact hst) ?_)
      rw [hug.out]
      refine region_inv2 (by kernel_rfl) [] [(19, .pointer (some ⟨ga, 3, none⟩)), (20, .string sx), (21, .bool false), (22, .bool false), (23, .int .u64 (s : Int)), (24, .pointer (some ⟨g, 0, none⟩)), (25, .pointer (some ⟨g, 0, none⟩)), (26, .pointer (some ⟨g, 5, none⟩)), (27, .int .u64 (la : Int)), (28, .bool false), (29, .bool false), (4, .string sx), (5, .bool false)] (by kernel_rfl) (by kernel_rfl) rfl (by kernel_rfl) ?_ ?_ ?_
      · intro q hq; cases hq
      · refine And.intro ?_ ?_
        · intro d hd ρ W hcs bw hn hg
          cases hd
          have e6 : ρ (.tmp 6) = .pointer (some ⟨ga, 0, none⟩) := hn 6 (by decide)
          clear hn hg
          refine .inl ⟨trivial, ?_⟩
          refine .inl ⟨.pointer (some ⟨ga, 3, none⟩), W, ?_, rfl, Below.refl _ _⟩
          go_simp
        refine And.intro ?_ ?_
        · intro d hd ρ W hcs bw hn hg
          cases hd
          have e19 : ρ (.tmp 19) = .pointer (some ⟨ga, 3, none⟩) := hn 19 (by decide)
          clear hn hg
          refine .inl ⟨trivial, ?_⟩
          have z0 : W.cell? ⟨ga, 3, none⟩ = some (.string sx) := (Blk.below kl bw (Blk.lt kl)).cell 3
          refine .inl ⟨.string sx, W, ?_, rfl, Below.refl _ _⟩
          go_simp
        refine And.intro ?_ ?_
        · intro d hd ρ W hcs bw hn hg
          cases hd
          have e7 : ρ (.tmp 7) = .bool false := hn 7 (by decide)
          clear hn hg
          refine .inl ⟨trivial, ?_⟩
          refine .inl ⟨_, W, rfl, e7, Below.refl _ _⟩
        refine And.intro ?_ ?_
        · intro d hd ρ W hcs bw hn hg
          cases hd
          have e21 : ρ (.tmp 21) = .bool false := hn 21 (by decide)
          clear hn hg
          refine .inl ⟨trivial, ?_⟩
          refine .inl ⟨_, W, rfl, e21, Below.refl _ _⟩
        refine And.intro ?_ ?_
        · intro d hd ρ W hcs bw hn hg
          cases hd
          have eg : ρ (.tmp 22) = .bool false := hg _ _ _ _ rfl rfl rfl
          have e1 : ρ (.tmp 1) = .int .u64 (s : Int) := hn 1 (by decide)
          clear hn hg
          refine .inl ⟨⟨_, _, rfl, rfl, eg⟩, ?_⟩
          refine .inl ⟨_, W, rfl, e1, Below.refl _ _⟩
        refine And.intro ?_ ?_
        · intro d hd ρ W hcs bw hn hg
          cases hd
          have eg : ρ (.tmp 22) = .bool false := hg _ _ _ _ rfl rfl rfl
          have e0 : ρ (.tmp 0) = .pointer (some ⟨g, 0, none⟩) := hn 0 (by decide)
          clear hn hg
          refine .inl ⟨⟨_, _, rfl, rfl, eg⟩, ?_⟩
          refine .inl ⟨_, W, rfl, e0, Below.refl _ _⟩
        refine And.intro ?_ ?_
        · intro d hd ρ W hcs bw hn hg
          cases hd
          have eg : ρ (.tmp 22) = .bool false := hg _ _ _ _ rfl rfl rfl
          have e24 : ρ (.tmp 24) = .pointer (some ⟨g, 0, none⟩) := hn 24 (by decide)
          clear hn hg
          refine .inl ⟨⟨_, _, rfl, rfl, eg⟩, ?_⟩
          refine .inl ⟨.pointer (some ⟨g, 0, none⟩), W, ?_, rfl, Below.refl _ _⟩
          go_simp
        refine And.intro ?_ ?_
        · intro d hd ρ W hcs bw hn hg
          cases hd
          have eg : ρ (.tmp 22) = .bool false := hg _ _ _ _ rfl rfl rfl
          have e25 : ρ (.tmp 25) = .pointer (some ⟨g, 0, none⟩) := hn 25 (by decide)
          clear hn hg
          refine .inl ⟨⟨_, _, rfl, rfl, eg⟩, ?_⟩
          refine .inl ⟨.pointer (some ⟨g, 5, none⟩), W, ?_, rfl, Below.refl _ _⟩
          go_simp
        refine And.intro ?_ ?_
        · intro d hd ρ W hcs bw hn hg
          cases hd
          have eg : ρ (.tmp 22) = .bool false := hg _ _ _ _ rfl rfl rfl
          have e26 : ρ (.tmp 26) = .pointer (some ⟨g, 5, none⟩) := hn 26 (by decide)
          clear hn hg
          refine .inl ⟨⟨_, _, rfl, rfl, eg⟩, ?_⟩
          have z0 : W.cell? ⟨g, 5, none⟩ = some (.int .u64 (la : Int)) := (Blk.below kg3 bw (Blk.lt kg3)).cell 5
          refine .inl ⟨.int .u64 (la : Int), W, ?_, rfl, Below.refl _ _⟩
          go_simp
        refine And.intro ?_ ?_
        · intro d hd ρ W hcs bw hn hg
          cases hd
          have eg : ρ (.tmp 22) = .bool false := hg _ _ _ _ rfl rfl rfl
          have e23 : ρ (.tmp 23) = .int .u64 (s : Int) := hn 23 (by decide)
          have e27 : ρ (.tmp 27) = .int .u64 (la : Int) := hn 27 (by decide)
          clear hn hg
          refine .inl ⟨⟨_, _, rfl, rfl, eg⟩, ?_⟩
          refine .inl ⟨.bool false, W, ?_, rfl, Below.refl _ _⟩
          go_simp
        refine And.intro ?_ ?_
        · intro d hd ρ W hcs bw hn hg
          cases hd
          have e22 : ρ (.tmp 22) = .bool false := hn 22 (by decide)
          have e28 : ρ (.tmp 28) = .bool false := hn 28 (by decide)
          clear hn hg
          refine .inl ⟨trivial, ?_⟩
          have hc1 := hcs.1
          refine .inl ⟨.bool false, W, ?_, rfl, Below.refl _ _⟩
          go_simp
        refine And.intro ?_ ?_
        · intro d hd ρ W hcs bw hn hg
          cases hd
          have e20 : ρ (.tmp 20) = .string sx := hn 20 (by decide)
          clear hn hg
          refine .inl ⟨trivial, ?_⟩
          refine .inl ⟨_, W, rfl, e20, Below.refl _ _⟩
        refine And.intro ?_ ?_
        · intro d hd ρ W hcs bw hn hg
          cases hd
          have e29 : ρ (.tmp 29) = .bool false := hn 29 (by decide)
          clear hn hg
          refine .inl ⟨trivial, ?_⟩
          refine .inl ⟨_, W, rfl, e29, Below.refl _ _⟩
        trivial
      · intro a' w' hsz hdf hb hVs
        have q4 : a'.eval (.tmp 4) = .string sx := hVs 4
        have q5 : a'.eval (.tmp 5) = .bool false := hVs 5
        have ha := slot_over_seg 19 11 [4, 5] rfl (by kernel_rfl) (of_decide_eq_true (by kernel_rfl)) hsz hdf hVs
        clear hVs hsz hdf
        rw [show List.range' 19 11 = [19, 20, 21, 22, 23, 24, 25, 26, 27, 28, 29] from rfl] at ha
        simp only [List.take_succ_cons, List.take_zero, List.drop_succ_cons, List.drop_zero, List.map_cons, List.map_nil, List.cons_append, List.nil_append, List.foldl_cons, List.foldl_nil, List.set_cons_zero, List.set_cons_succ, q4, q5] at ha
        clear q4 q5
        generalize a'.eval (.tmp 19) = x19 at ha
        generalize a'.eval (.tmp 20) = x20 at ha
        generalize a'.eval (.tmp 21) = x21 at ha
        generalize a'.eval (.tmp 22) = x22 at ha
        generalize a'.eval (.tmp 23) = x23 at ha
        generalize a'.eval (.tmp 24) = x24 at ha
        generalize a'.eval (.tmp 25) = x25 at ha
        generalize a'.eval (.tmp 26) = x26 at ha
        generalize a'.eval (.tmp 27) = x27 at ha
        generalize a'.eval (.tmp 28) = x28 at ha
        generalize a'.eval (.tmp 29) = x29 at ha
        subst ha
        have bz : Below w.heap.size w w' := b3.drew.trans (hb.mono b3.drew.size)
        clear hb kg3 kl hst c6 c6A hlk b3
        go_wp2_with fail
        exact bodyPost_ret (v := .tuple #[.string sx, .bool false]) (by simp [results, Try.results55]) rfl ⟨by simp, bz⟩
  · go_enter Try.func55, Try.ntmps55
    go_upto_region 3 with fail
    go_upto_region 4 with (first | refine wpList_store (by rfl) (.tmp 6) (.tmp 17) (by rfl) (by rfl) (by rfl) (by rw [hup.out, hug.out]; exact hst) ?_)
    rw [hug.out]
    refine region_inv2 (by kernel_rfl) [] [(19, .pointer (some ⟨ga, 3, none⟩)), (20, .string sx), (21, .bool true), (22, .bool true), (23, undef), (24, undef), (25, undef), (26, undef), (27, undef), (28, undef), (29, .bool true), (4, .string sx), (5, .bool true)] (by kernel_rfl) (by kernel_rfl) rfl (by kernel_rfl) ?_ ?_ ?_
    · intro q hq; cases hq
    · refine And.intro ?_ ?_
      · intro d hd ρ W hcs bw hn hg
        cases hd
        have e6 : ρ (.tmp 6) = .pointer (some ⟨ga, 0, none⟩) := hn 6 (by decide)
        clear hn hg
        refine .inl ⟨trivial, ?_⟩
        refine .inl ⟨.pointer (some ⟨ga, 3, none⟩), W, ?_, rfl, Below.refl _ _⟩
        go_simp
      refine And.intro ?_ ?_
      · intro d hd ρ W hcs bw hn hg
        cases hd
        have e19 : ρ (.tmp 19) = .pointer (some ⟨ga, 3, none⟩) := hn 19 (by decide)
        clear hn hg
        refine .inl ⟨trivial, ?_⟩
        have z0 : W.cell? ⟨ga, 3, none⟩ = some (.string sx) := (Blk.below kl bw (Blk.lt kl)).cell 3
        refine .inl ⟨.string sx, W, ?_, rfl, Below.refl _ _⟩
        go_simp
      refine And.intro ?_ ?_
      · intro d hd ρ W hcs bw hn hg
        cases hd
        have e7 : ρ (.tmp 7) = .bool true := hn 7 (by decide)
        clear hn hg
        refine .inl ⟨trivial, ?_⟩
        refine .inl ⟨_, W, rfl, e7, Below.refl _ _⟩
      refine And.intro ?_ ?_
      · intro d hd ρ W hcs bw hn hg
        cases hd
        have e21 : ρ (.tmp 21) = .bool true := hn 21 (by decide)
        clear hn hg
        refine .inl ⟨trivial, ?_⟩
        refine .inl ⟨_, W, rfl, e21, Below.refl _ _⟩
      refine And.intro ?_ ?_
      · intro d hd ρ W hcs bw hn hg
        cases hd
        have eg : ρ (.tmp 22) = .bool true := hg _ _ _ _ rfl rfl rfl
        exact .inr ⟨⟨_, _, _, rfl, rfl, eg, nofun⟩, rfl⟩
      refine And.intro ?_ ?_
      · intro d hd ρ W hcs bw hn hg
        cases hd
        have eg : ρ (.tmp 22) = .bool true := hg _ _ _ _ rfl rfl rfl
        exact .inr ⟨⟨_, _, _, rfl, rfl, eg, nofun⟩, rfl⟩
      refine And.intro ?_ ?_
      · intro d hd ρ W hcs bw hn hg
        cases hd
        have eg : ρ (.tmp 22) = .bool true := hg _ _ _ _ rfl rfl rfl
        exact .inr ⟨⟨_, _, _, rfl, rfl, eg, nofun⟩, rfl⟩
      refine And.intro ?_ ?_
      · intro d hd ρ W hcs bw hn hg
        cases hd
        have eg : ρ (.tmp 22) = .bool true := hg _ _ _ _ rfl rfl rfl
        exact .inr ⟨⟨_, _, _, rfl, rfl, eg, nofun⟩, rfl⟩
      refine And.intro ?_ ?_
      · intro d hd ρ W hcs bw hn hg
        cases hd
        have eg : ρ (.tmp 22) = .bool true := hg _ _ _ _ rfl rfl rfl
        exact .inr ⟨⟨_, _, _, rfl, rfl, eg, nofun⟩, rfl⟩
      refine And.intro ?_ ?_
      · intro d hd ρ W hcs bw hn hg
        cases hd
        have eg : ρ (.tmp 22) = .bool true := hg _ _ _ _ rfl rfl rfl
        exact .inr ⟨⟨_, _, _, rfl, rfl, eg, nofun⟩, rfl⟩
      refine And.intro ?_ ?_
      · intro d hd ρ W hcs bw hn hg
        cases hd
        have e22 : ρ (.tmp 22) = .bool true := hn 22 (by decide)
        have e28 : ρ (.tmp 28) = undef := hn 28 (by decide)
        clear hn hg
        refine .inl ⟨trivial, ?_⟩
        have hc1 := hcs.1
        refine .inl ⟨.bool true, W, ?_, rfl, Below.refl _ _⟩
        go_simp
      refine And.intro ?_ ?_
      · intro d hd ρ W hcs bw hn hg
        cases hd
        have e20 : ρ (.tmp 20) = .string sx := hn 20 (by decide)
        clear hn hg
        refine .inl ⟨trivial, ?_⟩
        refine .inl ⟨_, W, rfl, e20, Below.refl _ _⟩
      refine And.intro ?_ ?_
      · intro d hd ρ W hcs bw hn hg
        cases hd
        have e29 : ρ (.tmp 29) = .bool true := hn 29 (by decide)
        clear hn hg
        refine .inl ⟨trivial, ?_⟩
        refine .inl ⟨_, W, rfl, e29, Below.refl _ _⟩
      trivial
    · intro a' w' hsz hdf hb hVs
      have q4 : a'.eval (.tmp 4) = .string sx := hVs 4
      have q5 : a'.eval (.tmp 5) = .bool true := hVs 5
      have ha := slot_over_seg 19 11 [4, 5] rfl (by kernel_rfl) (of_decide_eq_true (by kernel_rfl)) hsz hdf hVs
      clear hVs hsz hdf
      rw [show List.range' 19 11 = [19, 20, 21, 22, 23, 24, 25, 26, 27, 28, 29] from rfl] at ha
      simp only [List.take_succ_cons, List.take_zero, List.drop_succ_cons, List.drop_zero, List.map_cons, List.map_nil, List.cons_append, List.nil_append, List.foldl_cons, List.foldl_nil, List.set_cons_zero, List.set_cons_succ, q4, q5] at ha
      clear q4 q5
      generalize a'.eval (.tmp 19) = x19 at ha
      generalize a'.eval (.tmp 20) = x20 at ha
      generalize a'.eval (.tmp 21) = x21 at ha
      generalize a'.eval (.tmp 22) = x22 at ha
      generalize a'.eval (.tmp 23) = x23 at ha
      generalize a'.eval (.tmp 24) = x24 at ha
      generalize a'.eval (.tmp 25) = x25 at ha
      generalize a'.eval (.tmp 26) = x26 at ha
      generalize a'.eval (.tmp 27) = x27 at ha
      generalize a'.eval (.tmp 28) = x28 at ha
      generalize a'.eval (.tmp 29) = x29 at ha
      subst ha
      have bz : Below w.heap.size w w' := b3.drew.trans (hb.mono b3.drew.size)
      clear hb kg3 kl hst c6 c6A hlk b3
      go_wp2_with fail
      exact bodyPost_ret (v := .tuple #[.string sx, .bool true]) (by simp [results, Try.results55]) rfl ⟨by simp, bz⟩
end
end Go.Proofs.Ytbamfnlgapchkaa.Ele
