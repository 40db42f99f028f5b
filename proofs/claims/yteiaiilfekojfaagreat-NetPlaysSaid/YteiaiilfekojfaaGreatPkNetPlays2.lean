/- Texts that the proof of NetPlays leans on, put together (2 of 6). Conditions: each theorem states its own. -/
import Derived.Test.YteiaiilfekojfaaGreatPkNetPlays1
section
namespace Go.Proofs.YteiaiilfekojfaaGreat.Cmd
open Go.RowKit Wire

structure Cm where
 client : Nat
 seq : Nat
 kind : Nat
 key : List UInt8
 old : List UInt8
 new : List UInt8
 set : Nat
 deriving DecidableEq
def cmC (c : Cm) : Array Value := #[.int .u8 (c.client : Int), .int .u32 (c.seq : Int), .int .u8 (c.kind : Int), .string ⟨c.key.toArray⟩, .string ⟨c.old.toArray⟩, .string ⟨c.new.toArray⟩, .int .u8 (c.set : Int)]
def cmV (c : Cm) : Value := .agg (cmC c)
structure Cm.Fits (c : Cm) : Prop where
 h1 : c.client < 256
 h2 : c.seq < 4294967296
 h3 : c.kind < 256
 h4 : c.key.length ≤ 9223372036854775807
 h5 : c.old.length ≤ 9223372036854775807
 h6 : c.new.length ≤ 9223372036854775807
 h7 : c.set < 256
def kindsEs : Array MapEntry := #[{ key := .int .u8 1, val := .int .u8 1, born := 0 }, { key := .int .u8 2, val := .int .u8 5, born := 1 }, { key := .int .u8 3, val := .int .u8 1, born := 2 }, { key := .int .u8 4, val := .int .u8 7, born := 3 }, { key := .int .u8 5, val := .int .u8 8, born := 4 }]
def CC (k : Nat) : Nat := if k = 1 then 1 else if k = 2 then 5 else if k = 3 then 1 else if k = 4 then 7 else if k = 5 then 8 else 0
theorem R9 (k : Nat) (hk : k < 256) : ∃ r, Instr.findNow (.int .u8) (.int .u8 (k : Int)) kindsEs.toList 0 = some r ∧ (r.map (·.2)).getD (.int .u8 0) = .int .u8 (CC k : Int) ∧ r.isSome = decide (1 ≤ k ∧ k ≤ 5) := by
 rcases (show k = 1 ∨ k = 2 ∨ k = 3 ∨ k = 4 ∨ k = 5 ∨ k = 0 ∨ 5 < k by omega) with rfl | rfl | rfl | rfl | rfl | rfl | h
 ·exact ⟨_, rfl, rfl, rfl⟩
 ·exact ⟨_, rfl, rfl, rfl⟩
 ·exact ⟨_, rfl, rfl, rfl⟩
 ·exact ⟨_, rfl, rfl, rfl⟩
 ·exact ⟨_, rfl, rfl, rfl⟩
 ·exact ⟨_, rfl, rfl, rfl⟩
 ·have e : ∀ j : Int, j < 6 → ((k : Int) == j) = false := fun j hj => beq_eq_false_iff_ne.2 (by omega)
  refine ⟨none, ?_, ?_, ?_⟩
  ·simp [kindsEs, Instr.findNow, Instr.sameNow, e]
  ·unfold CC
   rw [if_neg (by omega), if_neg (by omega), if_neg (by omega), if_neg (by omega), if_neg (by omega)]
   rfl
  ·simp; omega
theorem H7 {B g : Nat} {a w : World} (h : Below B a w) (hg : B ≤ g) (o : Obj) : Below B a (w.putObj g o) :=
 ⟨h.os, h.tape, h.output, by rw [World.putObj_size]; exact h.size, fun k hk => (World.putObj_heap_other (by omega)).trans (h.block k hk)⟩
set_option maxRecDepth 100000 in
theorem U2 (w : World) : Calls Tryz.prog 178 #[] w fun e w' => e = .returned (.map (some w.heap.size)) ∧ Below w.heap.size w w' ∧ w'.heap[w.heap.size]? = some (.map kindsEs 5) := by
 have hmk : (Instr.makeMap 201 none).run Tryz.prog w = .ok (.map (some w.heap.size)) (w.alloc (.map #[] 0)) := by
  simp [Instr.makeMap]
 have h0 : (w.alloc (.map #[] 0)).heap[w.heap.size]? = some (.map #[] 0) := heap_alloc_new w _
 have hput : ∀ (W : World) (es es' : Array MapEntry) (c : Nat) (n v : Int), W.heap[w.heap.size]? = some (.map es c) → Instr.findNow (.int .u8) (.int .u8 n) es.toList 0 = some none → es.push { key := .int .u8 n, val := .int .u8 v, born := c } = es' → (Instr.mapUpdate 201 (.map (some w.heap.size)) (.int .u8 n) (.int .u8 v)).run Tryz.prog W = .ok () (W.putObj w.heap.size (.map es' (c + 1))) :=
  fun W es es' c n v hg hf e => e ▸ PZ Tryz.underlying201 Tryz.underlying5 hg n _ hf
 have p1 := hput _ _ (#[{ key := .int .u8 1, val := .int .u8 1, born := 0 }]) 0 1 1 h0 rfl rfl
 have h1 := World.putObj_heap_same (o := .map #[{ key := .int .u8 1, val := .int .u8 1, born := 0 }] 1) (Array.getElem?_eq_some_iff.1 h0).1
 have p2 := hput _ _ (#[{ key := .int .u8 1, val := .int .u8 1, born := 0 }, { key := .int .u8 2, val := .int .u8 5, born := 1 }]) 1 2 5 h1 rfl rfl
 have h2 := World.putObj_heap_same (o := .map #[{ key := .int .u8 1, val := .int .u8 1, born := 0 }, { key := .int .u8 2, val := .int .u8 5, born := 1 }] 2) (Array.getElem?_eq_some_iff.1 h1).1
 have p3 := hput _ _ (#[{ key := .int .u8 1, val := .int .u8 1, born := 0 }, { key := .int .u8 2, val := .int .u8 5, born := 1 }, { key := .int .u8 3, val := .int .u8 1, born := 2 }]) 2 3 1 h2 rfl rfl
 have h3 := World.putObj_heap_same (o := .map #[{ key := .int .u8 1, val := .int .u8 1, born := 0 }, { key := .int .u8 2, val := .int .u8 5, born := 1 }, { key := .int .u8 3, val := .int .u8 1, born := 2 }] 3) (Array.getElem?_eq_some_iff.1 h2).1
 have p4 := hput _ _ (#[{ key := .int .u8 1, val := .int .u8 1, born := 0 }, { key := .int .u8 2, val := .int .u8 5, born := 1 }, { key := .int .u8 3, val := .int .u8 1, born := 2 }, { key := .int .u8 4, val := .int .u8 7, born := 3 }]) 3 4 7 h3 rfl rfl
 have h4 := World.putObj_heap_same (o := .map #[{ key := .int .u8 1, val := .int .u8 1, born := 0 }, { key := .int .u8 2, val := .int .u8 5, born := 1 }, { key := .int .u8 3, val := .int .u8 1, born := 2 }, { key := .int .u8 4, val := .int .u8 7, born := 3 }] 4) (Array.getElem?_eq_some_iff.1 h3).1
 have p5 := hput _ _ (#[{ key := .int .u8 1, val := .int .u8 1, born := 0 }, { key := .int .u8 2, val := .int .u8 5, born := 1 }, { key := .int .u8 3, val := .int .u8 1, born := 2 }, { key := .int .u8 4, val := .int .u8 7, born := 3 }, { key := .int .u8 5, val := .int .u8 8, born := 4 }]) 4 5 8 h4 rfl rfl
 have h5 := World.putObj_heap_same (o := .map #[{ key := .int .u8 1, val := .int .u8 1, born := 0 }, { key := .int .u8 2, val := .int .u8 5, born := 1 }, { key := .int .u8 3, val := .int .u8 1, born := 2 }, { key := .int .u8 4, val := .int .u8 7, born := 3 }, { key := .int .u8 5, val := .int .u8 8, born := 4 }] 5) (Array.getElem?_eq_some_iff.1 h4).1
 have hb : Below w.heap.size w (((((( w.alloc (.map #[] 0)).putObj w.heap.size (.map #[{ key := .int .u8 1, val := .int .u8 1, born := 0 }] 1)).putObj w.heap.size (.map #[{ key := .int .u8 1, val := .int .u8 1, born := 0 }, { key := .int .u8 2, val := .int .u8 5, born := 1 }] 2)).putObj w.heap.size (.map #[{ key := .int .u8 1, val := .int .u8 1, born := 0 }, { key := .int .u8 2, val := .int .u8 5, born := 1 }, { key := .int .u8 3, val := .int .u8 1, born := 2 }] 3)).putObj w.heap.size (.map #[{ key := .int .u8 1, val := .int .u8 1, born := 0 }, { key := .int .u8 2, val := .int .u8 5, born := 1 }, { key := .int .u8 3, val := .int .u8 1, born := 2 }, { key := .int .u8 4, val := .int .u8 7, born := 3 }] 4)).putObj w.heap.size (.map #[{ key := .int .u8 1, val := .int .u8 1, born := 0 }, { key := .int .u8 2, val := .int .u8 5, born := 1 }, { key := .int .u8 3, val := .int .u8 1, born := 2 }, { key := .int .u8 4, val := .int .u8 7, born := 3 }, { key := .int .u8 5, val := .int .u8 8, born := 4 }] 5)) :=
  H7 (H7 (H7 (H7 (H7 ((Below.refl _ w).alloc (Nat.le_refl _) _) (Nat.le_refl _) _) (Nat.le_refl _) _) (Nat.le_refl _) _) (Nat.le_refl _) _) (Nat.le_refl _) _
 go_enter Tryz.func178, Tryz.ntmps178
 go_wp2
 go_ret
 exact ⟨rfl, hb, h5⟩
def Dp (h p n : Nat) : Nat := if h &&& p = 0 then 0 else n
theorem Lh (h p n : Nat) (hh : h = 0 ∨ h = 1 ∨ h = 5 ∨ h = 7 ∨ h = 8) (hp : p = 1 ∨ p = 2 ∨ p = 4 ∨ p = 8) (r : Nat) (w : World) (hc : w.cell? ⟨r, 0, none⟩ = some (.int .u8 (h : Int))) :
  Calls Tryz.prog 179 #[.int .u8 (p : Int), .int .i64 (n : Int), .pointer (some ⟨r, 0, none⟩)] w fun e w' => e = .returned (.int .i64 (Dp h p n : Int)) ∧ w' = w := by
 by_cases h0 : h &&& p = 0
 ·have e : Dp h p n = 0 := if_pos h0
  have hb : (bits BinOp.and IntKind.u8 (h : Int) (p : Int) == 0) = true := by
   rcases hh with rfl | rfl | rfl | rfl | rfl <;> rcases hp with rfl | rfl | rfl | rfl <;> first | (exact absurd h0 (by decide)) | kernel_rfl
  rw [e]
  clear h0 e hh hp
  go_enter Tryz.func179, Tryz.ntmps179
  go_wp2
  go_ret
  exact ⟨rfl, rfl⟩
 ·have e : Dp h p n = n := if_neg h0
  have hb : (bits BinOp.and IntKind.u8 (h : Int) (p : Int) == 0) = false := by
   rcases hh with rfl | rfl | rfl | rfl | rfl <;> rcases hp with rfl | rfl | rfl | rfl <;> first | (exact absurd rfl h0) | kernel_rfl
  rw [e]
  clear h0 e hh hp
  go_enter Tryz.func179, Tryz.ntmps179
  go_wp2
  go_ret
  exact ⟨rfl, rfl⟩
theorem VU (k : Nat) : CC k = 0 ∨ CC k = 1 ∨ CC k = 5 ∨ CC k = 7 ∨ CC k = 8 := by
 unfold CC; repeat' split
 all_goals simp
def mayB (c : Cm) : Bool := decide (c.client < 4 ∧ 1 ≤ c.seq ∧ c.key.length ≤ 16 ∧ c.old.length ≤ 64 ∧ c.new.length ≤ 64 ∧
 ((c.kind = 1 ∨ c.kind = 3) ∧ 1 ≤ c.key.length ∧ c.old.length = 0 ∧ c.new.length = 0 ∧ c.set = 0 ∨ c.kind = 2 ∧ 1 ≤ c.key.length ∧ c.old.length = 0 ∧ c.set = 0 ∨ c.kind = 4 ∧ 1 ≤ c.key.length ∧ c.set = 0 ∨ c.kind = 5 ∧ c.key.length = 0 ∧ c.old.length = 0 ∧ c.new.length = 0))
theorem VN (c : Cm) : mayB c = true ↔ (1 ≤ c.kind ∧ c.kind ≤ 5) ∧ c.client < 4 ∧ c.seq ≠ 0 ∧ Dp (CC c.kind) 1 1 ≤ c.key.length ∧ c.key.length ≤ Dp (CC c.kind) 1 16 ∧ c.old.length ≤ Dp (CC c.kind) 2 64 ∧ c.new.length ≤ Dp (CC c.kind) 4 64 ∧ (c.set ≠ 0 → CC c.kind &&& 8 ≠ 0) := by
 unfold mayB
 rw [decide_eq_true_iff]
 obtain ⟨cl, sq, k, ky, od, nw, st⟩ := c
 simp only
 generalize ky.length = a
 generalize od.length = b
 generalize nw.length = d
 rcases (show k = 1 ∨ k = 2 ∨ k = 3 ∨ k = 4 ∨ k = 5 ∨ k = 0 ∨ 5 < k by omega) with rfl | rfl | rfl | rfl | rfl | rfl | h
 ·have e1 : Dp (CC 1) 1 1 = 1 := rfl
  have e2 : Dp (CC 1) 1 16 = 16 := rfl
  have e3 : Dp (CC 1) 2 64 = 0 := rfl
  have e4 : Dp (CC 1) 4 64 = 0 := rfl
  have e5 : CC 1 &&& 8 = 0 := rfl
  rw [e1, e2, e3, e4, e5]; omega
 ·have e1 : Dp (CC 2) 1 1 = 1 := rfl
  have e2 : Dp (CC 2) 1 16 = 16 := rfl
  have e3 : Dp (CC 2) 2 64 = 0 := rfl
  have e4 : Dp (CC 2) 4 64 = 64 := rfl
  have e5 : CC 2 &&& 8 = 0 := rfl
  rw [e1, e2, e3, e4, e5]; omega
 ·have e1 : Dp (CC 3) 1 1 = 1 := rfl
  have e2 : Dp (CC 3) 1 16 = 16 := rfl
  have e3 : Dp (CC 3) 2 64 = 0 := rfl
  have e4 : Dp (CC 3) 4 64 = 0 := rfl
  have e5 : CC 3 &&& 8 = 0 := rfl
  rw [e1, e2, e3, e4, e5]; omega
 ·have e1 : Dp (CC 4) 1 1 = 1 := rfl
  have e2 : Dp (CC 4) 1 16 = 16 := rfl
  have e3 : Dp (CC 4) 2 64 = 64 := rfl
  have e4 : Dp (CC 4) 4 64 = 64 := rfl
  have e5 : CC 4 &&& 8 = 0 := rfl
  rw [e1, e2, e3, e4, e5]; omega
 ·have e1 : Dp (CC 5) 1 1 = 0 := rfl
  have e2 : Dp (CC 5) 1 16 = 0 := rfl
  have e3 : Dp (CC 5) 2 64 = 0 := rfl
  have e4 : Dp (CC 5) 4 64 = 0 := rfl
  have e5 : CC 5 &&& 8 = 8 := rfl
  rw [e1, e2, e3, e4, e5]; omega
 ·omega
 ·omega

theorem Q1 {w : World} {g i : Nat} {v : Value} (h : w.cell? ⟨g, i, none⟩ = some v) {p : Addr} (hp : g ≠ p.block) (u : Value) : (w.setCell p u).cell? ⟨g, i, none⟩ = some v :=
 (World.cell?_of_block (w := w) (Below.heap_setCell w p u g hp)).trans h
set_option maxRecDepth 100000 in
set_option maxHeartbeats 4000000 in
theorem check_any (c : Cm) (hc : c.Fits) (w : World) : Calls Tryz.prog 116 #[cmV c] w fun e w' => e = .returned (.int .i64 (if mayB c then 0 else 2)) ∧ Below w.heap.size w w' := by
 obtain ⟨r0, hl1, hl2, hl3⟩ := R9 c.kind hc.h3
 have HK := Lib.hid (fun W => U2 W)
 have hlook : ∀ (W : World) (g : Nat), W.heap[g]? = some (.map kindsEs 5) → (Instr.lookup 201 (.map (some g)) (.int .u8 (c.kind : Int)) true).run Tryz.prog W = .ok (.tuple #[.int .u8 (CC c.kind : Int), .bool (decide (1 ≤ c.kind ∧ c.kind ≤ 5))]) W := fun W g hg => by
  rw [VO Tryz.underlying201 Tryz.underlying5 hg _ (.int .u8 0) (by kernel_rfl) r0 hl1, hl2, hl3]
 obtain ⟨res, hres⟩ : ∃ res : Int, res = if mayB c then 0 else 2 := ⟨_, rfl⟩
 rw [← hres]
 generalize hok : decide (1 ≤ c.kind ∧ c.kind ≤ 5) = ok at *
 have hb := Blk.new w 29 (cmC c)
 unfold cmV
 unfold cmC at *
 have hB1 : Below w.heap.size w (w.alloc (.cells #[.int .u8 (c.client : Int), .int .u32 (c.seq : Int), .int .u8 (c.kind : Int), .string ⟨c.key.toArray⟩, .string ⟨c.old.toArray⟩, .string ⟨c.new.toArray⟩, .int .u8 (c.set : Int)] 29)) := (Below.refl _ w).alloc (Nat.le_refl _) _
 have hz0 : (w.alloc (.cells #[.int .u8 (c.client : Int), .int .u32 (c.seq : Int), .int .u8 (c.kind : Int), .string ⟨c.key.toArray⟩, .string ⟨c.old.toArray⟩, .string ⟨c.new.toArray⟩, .int .u8 (c.set : Int)] 29)).heap.size = w.heap.size + 1 := by simp
 go_enter Tryz.func116, Tryz.ntmps116
 go_upto_region 1 with fail
 generalize (w.alloc (.cells #[.int .u8 (c.client : Int), .int .u32 (c.seq : Int), .int .u8 (c.kind : Int), .string ⟨c.key.toArray⟩, .string ⟨c.old.toArray⟩, .string ⟨c.new.toArray⟩, .int .u8 (c.set : Int)] 29)) = w1 at *
 have hb2 : w1.cell? ⟨w.heap.size, 2, none⟩ = some (.int .u8 (c.kind : Int)) := hb.cell 2
 have hb2' : ∀ o, (w1.alloc o).cell? ⟨w.heap.size, 2, none⟩ = some (.int .u8 (c.kind : Int)) := fun o => (hb.alloc o).cell 2
 have hlt : w.heap.size < w1.heap.size := by omega
 clear hz0
 go_cut [3, 4] (fun a b wx => ∃ r, a = .pointer (some ⟨r, 0, none⟩) ∧ b = .bool ok ∧ w1.heap.size ≤ r ∧ r < wx.heap.size ∧ wx.cell? ⟨r, 0, none⟩ = some (.int .u8 (CC c.kind : Int)) ∧ Below w1.heap.size w1 wx)
 case first =>
  go_region_held3 (fun W : World => W.cell? ⟨w.heap.size, 2, none⟩ = some (.int .u8 (c.kind : Int))) (first | go_keep | exact k0 | exact Q1 k0 (Nat.ne_of_lt hlt) _ | exact Q1 ((Below.cell (Below.alloc (Below.refl _ w2) (Nat.le_refl _) _) hlt2).trans k0) (Nat.ne_of_lt hlt2) _) (first
   | (go_at_call 178; refine (HK.out _).mono ?_; rintro e w2 ⟨rfl, B2, hm2⟩; have hl := hlook w2 w1.heap.size hm2; have hlt2 := Nat.lt_of_lt_of_le hlt B2.size; have hl' := hlook (w2.alloc (.cells #[.int .u8 0] 5)) w1.heap.size ((Below.heap_alloc w2 _ _ (Array.getElem?_eq_some_iff.1 hm2).1).trans hm2); have k0 := (B2.cell (by simp <;> omega)).trans hb2)
   | (go_at_call 178; refine (HK.out _).mono ?_; rintro e w2 ⟨rfl, B2, hm2⟩; have hl := hlook w2 (w1.heap.size + 1) (by simpa using hm2); have k0 := (B2.cell (by simp <;> omega)).trans (hb2' (.cells #[.int .u8 0] 5)); have kb := (Blk.new w1 5 #[.int .u8 0]).drew.below B2 (by simp); have k1 := kb.c1; have k2 := kb.f1))
  all_goals go_wp2_with fail
  all_goals go_meet
  ·exact ⟨w2.heap.size, rfl, rfl, B2.size, (by simp), (Blk.new w2 5 #[.int .u8 (CC c.kind : Int)]).c1, ((Below.refl _ w1).drew.trans B2).alloc B2.size _⟩
  ·exact ⟨w2.heap.size, rfl, rfl, B2.size, (by simp), (Blk.new w2 5 #[.int .u8 (CC c.kind : Int)]).c1, ((Below.refl _ w1).drew.trans B2).alloc B2.size _⟩
  ·exact ⟨w1.heap.size, rfl, rfl, Nat.le_refl _, (by have := kb.lt; simpa using this), (kb.set_ 0 (.int .u8 (CC c.kind : Int))).cell 0, (((Below.refl _ w1).alloc (Nat.le_refl _) _).drew.trans (B2.mono (by simp))).setCell (Nat.le_refl _) _⟩
 case rest =>
  obtain ⟨r, rfl, rfl, hr1, hr2, hrc, hBc⟩ := hcut
  have hbc := hb.below hBc hlt
  have hm := VU c.kind
  have hMa := Lib.hid (show ∀ W : World, W.cell? ⟨r, 0, none⟩ = some (.int .u8 (CC c.kind : Int)) → Calls Tryz.prog 179 #[.int .u8 1, .int .i64 1, .pointer (some ⟨r, 0, none⟩)] W fun e w' => e = .returned (.int .i64 (Dp (CC c.kind) 1 1 : Int)) ∧ w' = W from fun W h => Lh (CC c.kind) 1 1 hm (by decide) r W h)
  have hMb := Lib.hid (show ∀ W : World, W.cell? ⟨r, 0, none⟩ = some (.int .u8 (CC c.kind : Int)) → Calls Tryz.prog 179 #[.int .u8 1, .int .i64 16, .pointer (some ⟨r, 0, none⟩)] W fun e w' => e = .returned (.int .i64 (Dp (CC c.kind) 1 16 : Int)) ∧ w' = W from fun W h => Lh (CC c.kind) 1 16 hm (by decide) r W h)
  have hMc := Lib.hid (show ∀ W : World, W.cell? ⟨r, 0, none⟩ = some (.int .u8 (CC c.kind : Int)) → Calls Tryz.prog 179 #[.int .u8 2, .int .i64 64, .pointer (some ⟨r, 0, none⟩)] W fun e w' => e = .returned (.int .i64 (Dp (CC c.kind) 2 64 : Int)) ∧ w' = W from fun W h => Lh (CC c.kind) 2 64 hm (by decide) r W h)
  have hMd := Lib.hid (show ∀ W : World, W.cell? ⟨r, 0, none⟩ = some (.int .u8 (CC c.kind : Int)) → Calls Tryz.prog 179 #[.int .u8 4, .int .i64 64, .pointer (some ⟨r, 0, none⟩)] W fun e w' => e = .returned (.int .i64 (Dp (CC c.kind) 4 64 : Int)) ∧ w' = W from fun W h => Lh (CC c.kind) 4 64 hm (by decide) r W h)
  have hbits : (bits BinOp.and IntKind.u8 (CC c.kind : Int) 8 == 0) = decide (CC c.kind &&& 8 = 0) := by
   rcases hm with e | e | e | e | e <;> rw [e] <;> decide
  have hBw := hB1.trans (hBc.mono hB1.size)
  have k0 : wc.cell? ⟨w.heap.size, 0, none⟩ = some (.int .u8 (c.client : Int)) := hbc.cell 0
  have k1 : wc.cell? ⟨w.heap.size, 1, none⟩ = some (.int .u32 (c.seq : Int)) := hbc.cell 1
  have k3 : wc.cell? ⟨w.heap.size, 3, none⟩ = some (.string ⟨c.key.toArray⟩) := hbc.cell 3
  have k4 : wc.cell? ⟨w.heap.size, 4, none⟩ = some (.string ⟨c.old.toArray⟩) := hbc.cell 4
  have k5 : wc.cell? ⟨w.heap.size, 5, none⟩ = some (.string ⟨c.new.toArray⟩) := hbc.cell 5
  have k6 : wc.cell? ⟨w.heap.size, 6, none⟩ = some (.int .u8 (c.set : Int)) := hbc.cell 6
  have hmay := VN c
  have hsk := size_str c.key
  have hso := size_str c.old
  have hsn := size_str c.new
  clear hb hbc hb2 hb2' hlook HK hl1 hl2 hm
  have hokk : mayB c = true → (!ok) = true → False := fun h h' => by
   rw [show ok = true from by rw [← hok]; exact decide_eq_true (hmay.1 h).1] at h'
   cases h'
  go_wp2_with fail
  ·rename_i _ h1 h2
   go_ret
   have hk : ¬ mayB c = true := fun h => hokk h h1
   exact ⟨by rw [hres, if_neg hk]; rfl, hBw⟩
  ·rename_i h1 h2 _ _ _ _
   rw [h1] at h2
   cases h2
  ·rename_i _ h1 h2
   go_ret
   have hk : ¬ mayB c = true := fun h => by have := (hmay.1 h).2.1; omega
   exact ⟨by rw [hres, if_neg hk]; rfl, hBw⟩
  ·rename_i _ h1 h2
   go_ret
   have hk : ¬ mayB c = true := fun h => by have := (hmay.1 h).2.2.1; have := eq_of_beq h2; omega
   exact ⟨by rw [hres, if_neg hk]; rfl, hBw⟩
  rename_i h0 h1 h2 _ _ _ _
  have hok1 : ok = true := by cases ok <;> simp_all
  have hrange : 1 ≤ c.kind ∧ c.kind ≤ 5 := of_decide_eq_true (hok.trans hok1)
  have hcl : c.client < 4 := by omega
  have hsq : c.seq ≠ 0 := fun e => by rw [e] at h2; cases h2
  clear h0 h1 h2 hokk hok hok1 hl3
  go_region_held3 (fun W : World => W.cell? ⟨w.heap.size, 3, none⟩ = some (.string ⟨c.key.toArray⟩)) (first | go_keep | exact k3) (first
   | (go_at_call 179; refine (hMa.out wc.drew hrc).mono ?_; rintro e w2 ⟨rfl, rfl⟩))
  have hrchMa : wc.drew.cell? ⟨r, 0, none⟩ = some (.int .u8 (CC c.kind : Int)) := hrc
  have k3hMa : wc.drew.cell? ⟨w.heap.size, 3, none⟩ = some (.string ⟨c.key.toArray⟩) := k3
  have k4hMa : wc.drew.cell? ⟨w.heap.size, 4, none⟩ = some (.string ⟨c.old.toArray⟩) := k4
  have k5hMa : wc.drew.cell? ⟨w.heap.size, 5, none⟩ = some (.string ⟨c.new.toArray⟩) := k5
  have k6hMa : wc.drew.cell? ⟨w.heap.size, 6, none⟩ = some (.int .u8 (c.set : Int)) := k6
  have hBhMa := hBw.drew
  clear hrc k3 k4 k5 k6 hBw
  have hrc := hrchMa
  have k3 := k3hMa
  have k4 := k4hMa
  have k5 := k5hMa
  have k6 := k6hMa
  have hBw := hBhMa
  clear hrchMa k3hMa k4hMa k5hMa k6hMa hBhMa
  generalize wc.drew = whMa at *
  by_cases hA : c.key.length < Dp (CC c.kind) 1 1
  ·go_wp2_with fail
   go_ret
   have hk : ¬ mayB c = true := fun h => by have := (hmay.1 h).2.2.2; omega
   exact ⟨by rw [hres, if_neg hk]; rfl, hBw⟩
  go_wp2_with fail
  go_region_held3 (fun W : World => W.cell? ⟨w.heap.size, 3, none⟩ = some (.string ⟨c.key.toArray⟩)) (first | go_keep | exact k3) (first
   | (go_at_call 179; refine (hMb.out whMa.drew hrc).mono ?_; rintro e w2 ⟨rfl, rfl⟩))
  have hrchMb : whMa.drew.cell? ⟨r, 0, none⟩ = some (.int .u8 (CC c.kind : Int)) := hrc
  have k3hMb : whMa.drew.cell? ⟨w.heap.size, 3, none⟩ = some (.string ⟨c.key.toArray⟩) := k3
  have k4hMb : whMa.drew.cell? ⟨w.heap.size, 4, none⟩ = some (.string ⟨c.old.toArray⟩) := k4
  have k5hMb : whMa.drew.cell? ⟨w.heap.size, 5, none⟩ = some (.string ⟨c.new.toArray⟩) := k5
  have k6hMb : whMa.drew.cell? ⟨w.heap.size, 6, none⟩ = some (.int .u8 (c.set : Int)) := k6
  have hBhMb := hBw.drew
  clear hrc k3 k4 k5 k6 hBw
  have hrc := hrchMb
  have k3 := k3hMb
  have k4 := k4hMb
  have k5 := k5hMb
  have k6 := k6hMb
  have hBw := hBhMb
  clear hrchMb k3hMb k4hMb k5hMb k6hMb hBhMb
  generalize whMa.drew = whMb at *
  by_cases hB : Dp (CC c.kind) 1 16 < c.key.length
  ·go_wp2_with fail
   go_ret
   have hk : ¬ mayB c = true := fun h => by have := (hmay.1 h).2.2.2; omega
   exact ⟨by rw [hres, if_neg hk]; rfl, hBw⟩
  go_wp2_with fail
  go_region_held3 (fun W : World => W.cell? ⟨w.heap.size, 4, none⟩ = some (.string ⟨c.old.toArray⟩)) (first | go_keep | exact k4) (first
   | (go_at_call 179; refine (hMc.out whMb.drew hrc).mono ?_; rintro e w2 ⟨rfl, rfl⟩))
  have hrchMc : whMb.drew.cell? ⟨r, 0, none⟩ = some (.int .u8 (CC c.kind : Int)) := hrc
  have k3hMc : whMb.drew.cell? ⟨w.heap.size, 3, none⟩ = some (.string ⟨c.key.toArray⟩) := k3
  have k4hMc : whMb.drew.cell? ⟨w.heap.size, 4, none⟩ = some (.string ⟨c.old.toArray⟩) := k4
  have k5hMc : whMb.drew.cell? ⟨w.heap.size, 5, none⟩ = some (.string ⟨c.new.toArray⟩) := k5
  have k6hMc : whMb.drew.cell? ⟨w.heap.size, 6, none⟩ = some (.int .u8 (c.set : Int)) := k6
  have hBhMc := hBw.drew
  clear hrc k3 k4 k5 k6 hBw
  have hrc := hrchMc
  have k3 := k3hMc
  have k4 := k4hMc
  have k5 := k5hMc
  have k6 := k6hMc
  have hBw := hBhMc
  clear hrchMc k3hMc k4hMc k5hMc k6hMc hBhMc
  generalize whMb.drew = whMc at *
  by_cases hC : Dp (CC c.kind) 2 64 < c.old.length
  ·go_wp2_with fail
   go_ret
   have hk : ¬ mayB c = true := fun h => by have := (hmay.1 h).2.2.2; omega
   exact ⟨by rw [hres, if_neg hk]; rfl, hBw⟩
  go_wp2_with fail
  go_region_held3 (fun W : World => W.cell? ⟨w.heap.size, 5, none⟩ = some (.string ⟨c.new.toArray⟩)) (first | go_keep | exact k5) (first
   | (go_at_call 179; refine (hMd.out whMc.drew hrc).mono ?_; rintro e w2 ⟨rfl, rfl⟩))
  have hrchMd : whMc.drew.cell? ⟨r, 0, none⟩ = some (.int .u8 (CC c.kind : Int)) := hrc
  have k3hMd : whMc.drew.cell? ⟨w.heap.size, 3, none⟩ = some (.string ⟨c.key.toArray⟩) := k3
  have k4hMd : whMc.drew.cell? ⟨w.heap.size, 4, none⟩ = some (.string ⟨c.old.toArray⟩) := k4
  have k5hMd : whMc.drew.cell? ⟨w.heap.size, 5, none⟩ = some (.string ⟨c.new.toArray⟩) := k5
  have k6hMd : whMc.drew.cell? ⟨w.heap.size, 6, none⟩ = some (.int .u8 (c.set : Int)) := k6
  have hBhMd := hBw.drew
  clear hrc k3 k4 k5 k6 hBw
  have hrc := hrchMd
  have k3 := k3hMd
  have k4 := k4hMd
  have k5 := k5hMd
  have k6 := k6hMd
  have hBw := hBhMd
  clear hrchMd k3hMd k4hMd k5hMd k6hMd hBhMd
  generalize whMc.drew = whMd at *
  by_cases hD : Dp (CC c.kind) 4 64 < c.new.length
  ·go_wp2_with fail
   go_ret
   have hk : ¬ mayB c = true := fun h => by have := (hmay.1 h).2.2.2; omega
   exact ⟨by rw [hres, if_neg hk]; rfl, hBw⟩
  go_wp2_with fail
  ·rename_i h1
   go_ret
   have hk : mayB c = true := hmay.2 ⟨hrange, hcl, hsq, Nat.le_of_not_lt hA, Nat.le_of_not_lt hB, Nat.le_of_not_lt hC, Nat.le_of_not_lt hD, fun h => absurd h1 h⟩
   exact ⟨by rw [hres, if_pos hk]; rfl, hBw⟩
  ·rename_i h1 h2
   go_ret
   have hk : ¬ mayB c = true := fun h => (hmay.1 h).2.2.2.2.2.2.2 h1 h2.2
   exact ⟨by rw [hres, if_neg hk]; rfl, hBw⟩
  ·rename_i h1 h2
   go_ret
   have hk : mayB c = true := hmay.2 ⟨hrange, hcl, hsq, Nat.le_of_not_lt hA, Nat.le_of_not_lt hB, Nat.le_of_not_lt hC, Nat.le_of_not_lt hD, fun _ => by
    rcases h2 with h2 | h2
    ·exact absurd h2 (by simp [h1])
    ·exact h2⟩
   exact ⟨by rw [hres, if_pos hk]; rfl, hBw⟩
end Go.Proofs.YteiaiilfekojfaaGreat.Cmd
end
section
namespace Go.Proofs.YteiaiilfekojfaaGreat.Cmd
open Go.RowKit Wire

def cm0 : Cm := ⟨0, 0, 0, [], [], [], 0⟩
def takeC (r : Rd) : Cm × Rd :=
 let a := r.byte
 let b := a.2.below 4294967296
 let k := b.2.byte
 let s := k.2.str 16
 let t := s.2.str 64
 let u := t.2.str 64
 let z := u.2.byte
 let c : Cm := ⟨a.1, b.1, k.1, s.1, t.1, u.1, z.1⟩
 let q := if mayB c then z.2 else z.2.bad
 (if q.err = 0 then c else cm0, q)
def XS (w : World) (g : Nat) (p : Cm × Rd) (e : Ending) (w' : World) : Prop := e = .returned (cmV p.1) ∧ RdGo w g p.2 w'
theorem Px {g : Nat} {r : Rd} {p : Nat × Rd} (e : r.byte = p) (hl : r.rest.length < 4611686018427387904) (w : World) (h : RdAt w g r) :
  Calls Tryz.prog 58 #[.pointer (some ⟨g, 0, none⟩)] w fun e w' => MX w g p e w' := e ▸ JE g r hl w h
theorem W6 {g : Nat} {r : Rd} {n : Nat} {p : Nat × Rd} (e : r.below n = p) (hl : r.rest.length < 4611686018427387904) (w : World) (h : RdAt w g r) :
  Calls Tryz.prog 92 #[.pointer (some ⟨g, 0, none⟩), .int .u64 (n : Int)] w fun e w' => Md w g p e w' := e ▸ Me g r n hl w h
theorem Yh {w w1 w2 : World} {g : Nat} {r : Rd} (h : RdGo w g r w1) (hb : Below w1.heap.size w1 w2) : RdGo w g r w2 :=
 ⟨Blk.below h.1 hb (Blk.lt h.1), GH h.2 (Gg hb (some g))⟩
theorem EK {w w1 : World} {g : Nat} {r : Rd} (h : RdGo w g r w1) (hg : g < w.heap.size) {p : Addr} (hp : w.heap.size ≤ p.block) (u : Value) : RdGo w g r (w1.setCell p u) :=
 ⟨Blk.far h.1 (by omega) u, FR h.2 (.inr hp) u⟩
theorem bad_err (r : Rd) : r.bad.err ≠ 0 := by
 unfold Rd.bad Rd.fail
 by_cases h : r.err = 0
 ·rw [if_pos h]; simp
 ·rw [if_neg h]; exact h
structure Tk (w : World) (g : Nat) (r : Rd) (w1 : World) (cs : Array Value) : Prop where
 go : RdGo w g r w1
 z : Blk w1 w.heap.size 29 #[.int .u8 0, .int .u32 0, .int .u8 0, .string ⟨#[]⟩, .string ⟨#[]⟩, .string ⟨#[]⟩, .int .u8 0]
 x : Blk w1 (w.heap.size + 1) 29 cs
 lt : g < w.heap.size
theorem Tk.read {w w1 w2 : World} {g : Nat} {r r' : Rd} {cs : Array Value} (h : Tk w g r w1 cs) (k : RdGo w1 g r' w2) : Tk w g r' w2 cs :=
 ⟨h.go.trans k, h.z.grown k.2 (by have := h.lt; simp; omega), h.x.grown k.2 (by have := h.lt; simp; omega), h.lt⟩
theorem Tk.put {w w1 : World} {g : Nat} {r : Rd} {cs : Array Value} (h : Tk w g r w1 cs) (j : Nat) (v : Value) {cs' : Array Value} (e : cs.setIfInBounds j v = cs') : Tk w g r (w1.setCell ⟨w.heap.size + 1, j, none⟩ v) cs' :=
 ⟨EK h.go h.lt (by simp) v, h.z.far (by simp) v, e ▸ h.x.set_ j v, h.lt⟩
theorem Tk.below {w w1 w2 : World} {g : Nat} {r : Rd} {cs : Array Value} (h : Tk w g r w1 cs) (hb : Below w1.heap.size w1 w2) : Tk w g r w2 cs :=
 ⟨Yh h.go hb, h.z.below hb h.z.lt, h.x.below hb h.x.lt, h.lt⟩
theorem Tk.start {w : World} {g : Nat} {r : Rd} (h : RdAt w g r) : Tk w g r ((w.alloc (.cells #[.int .u8 0, .int .u32 0, .int .u8 0, .string ⟨#[]⟩, .string ⟨#[]⟩, .string ⟨#[]⟩, .int .u8 0] 29)).alloc (.cells #[.int .u8 0, .int .u32 0, .int .u8 0, .string ⟨#[]⟩, .string ⟨#[]⟩, .string ⟨#[]⟩, .int .u8 0] 29)) #[.int .u8 0, .int .u32 0, .int .u8 0, .string ⟨#[]⟩, .string ⟨#[]⟩, .string ⟨#[]⟩, .int .u8 0] :=
 ⟨⟨Blk.alloc (Blk.alloc h _) _, KC (KC (World.grownBy.refl w _) _) _⟩, (Blk.new w _ _).alloc _, by have := Blk.new (w.alloc (.cells #[.int .u8 0, .int .u32 0, .int .u8 0, .string ⟨#[]⟩, .string ⟨#[]⟩, .string ⟨#[]⟩, .int .u8 0] 29)) 29 #[.int .u8 0, .int .u32 0, .int .u8 0, .string ⟨#[]⟩, .string ⟨#[]⟩, .string ⟨#[]⟩, .int .u8 0]; simpa using this, Blk.lt h⟩

set_option linter.unusedSimpArgs false in
set_option maxRecDepth 100000 in
set_option maxHeartbeats 8000000 in
theorem Nj (g : Nat) (r r1 r2 r3 r4 r5 r6 r7 : Rd) (a b k z : Nat) (s t u : List UInt8) (hf : Cm.Fits (⟨a, b, k, s, t, u, z⟩ : Cm)) (hl : r.rest.length < 4611686018427387904) (hl1 : r1.rest.length < 4611686018427387904) (hl2 : r2.rest.length < 4611686018427387904) (hl3 : r3.rest.length < 4611686018427387904) (hl4 : r4.rest.length < 4611686018427387904) (hl5 : r5.rest.length < 4611686018427387904) (hl6 : r6.rest.length < 4611686018427387904)
  (e1 : r.byte = (a, r1)) (e2 : r1.below 4294967296 = (b, r2)) (e3 : r2.byte = (k, r3)) (e4 : r3.str 16 = (s, r4)) (e5 : r4.str 64 = (t, r5)) (e6 : r5.str 64 = (u, r6)) (e7 : r6.byte = (z, r7)) (w : World) (h : RdAt w g r) :
  Calls Tryz.prog 113 #[.pointer (some ⟨g, 0, none⟩)] w fun e w' => XS w g (takeC r) e w' := by
 have et : takeC r = (if (if mayB (⟨a, b, k, s, t, u, z⟩ : Cm) then r7 else r7.bad).err = 0 then (⟨a, b, k, s, t, u, z⟩ : Cm) else cm0, if mayB (⟨a, b, k, s, t, u, z⟩ : Cm) then r7 else r7.bad) := by unfold takeC; rw [e1]; simp only; rw [e2]; simp only; rw [e3]; simp only; rw [e4]; simp only; rw [e5]; simp only; rw [e6]; simp only; rw [e7]
 rw [et]
 obtain ⟨p, hp⟩ : ∃ p : Cm × Rd, p = (if (if mayB (⟨a, b, k, s, t, u, z⟩ : Cm) then r7 else r7.bad).err = 0 then (⟨a, b, k, s, t, u, z⟩ : Cm) else cm0, if mayB (⟨a, b, k, s, t, u, z⟩ : Cm) then r7 else r7.bad) := ⟨_, rfl⟩
 rw [← hp]
 have P := Lib.hid hp
 have HE1 := Lib.hid e1
 have HE2 := Lib.hid e2
 have HE3 := Lib.hid e3
 have HE4 := Lib.hid e4
 have HE5 := Lib.hid e5
 have HE6 := Lib.hid e6
 have HE7 := Lib.hid e7
 have hb2 : b < 4294967296 := hf.h2
 have hck := fun W => check_any (⟨a, b, k, s, t, u, z⟩ : Cm) hf W
 have HK := Lib.hid hck
 clear hck
 have K := Tk.start h
 clear et e1 e2 e3 e4 e5 e6 e7 h hp
 go_enter Tryz.func113, Tryz.ntmps113
 go_upto_region 2 with fail
 generalize ((w.alloc (.cells #[.int .u8 0, .int .u32 0, .int .u8 0, .string ⟨#[]⟩, .string ⟨#[]⟩, .string ⟨#[]⟩, .int .u8 0] 29)).alloc (.cells #[.int .u8 0, .int .u32 0, .int .u8 0, .string ⟨#[]⟩, .string ⟨#[]⟩, .string ⟨#[]⟩, .int .u8 0] 29)) = w0 at *
 go_wp2_with fail
 refine (Px HE1.out hl _ K.go.1).mono ?_; rintro e v1 ⟨rfl, g1⟩
 have K' := K.read g1
 clear K g1
 have K := K'
 clear K'
 have c1 := K.x.cell 0
 have f1 := K.x.frozen 0
 simp at c1
 have K' := K.put 0 (.int .u8 (a : Int)) (cs' := #[.int .u8 (a : Int), .int .u32 0, .int .u8 0, .string ⟨#[]⟩, .string ⟨#[]⟩, .string ⟨#[]⟩, .int .u8 0]) rfl
 go_upto_region 3 with fail
 clear c1 f1 K
 have K := K'
 clear K'
 generalize v1.setCell ⟨w.heap.size + 1, 0, none⟩ (.int .u8 (a : Int)) = w1 at *
 go_wp2_with fail
 refine (W6 HE2.out hl1 _ K.go.1).mono ?_; rintro e v2 ⟨rfl, g1⟩
 have K' := K.read g1
 clear K g1
 have K := K'
 clear K'
 have c1 := K.x.cell 1
 have f1 := K.x.frozen 1
 simp at c1
 have K' := K.put 1 (.int .u32 (b : Int)) (cs' := #[.int .u8 (a : Int), .int .u32 (b : Int), .int .u8 0, .string ⟨#[]⟩, .string ⟨#[]⟩, .string ⟨#[]⟩, .int .u8 0]) rfl
 go_upto_region 4 with fail
 clear c1 f1 K
 have K := K'
 clear K'
 generalize v2.setCell ⟨w.heap.size + 1, 1, none⟩ (.int .u32 (b : Int)) = w2 at *
 go_wp2_with fail
 refine (Px HE3.out hl2 _ K.go.1).mono ?_; rintro e v3 ⟨rfl, g1⟩
 have K' := K.read g1
 clear K g1
 have K := K'
 clear K'
 have c1 := K.x.cell 2
 have f1 := K.x.frozen 2
 simp at c1
 have K' := K.put 2 (.int .u8 (k : Int)) (cs' := #[.int .u8 (a : Int), .int .u32 (b : Int), .int .u8 (k : Int), .string ⟨#[]⟩, .string ⟨#[]⟩, .string ⟨#[]⟩, .int .u8 0]) rfl
 go_upto_region 5 with fail
 clear c1 f1 K
 have K := K'
 clear K'
 generalize v3.setCell ⟨w.heap.size + 1, 2, none⟩ (.int .u8 (k : Int)) = w3 at *
 go_wp2_with fail
 refine (QS HE4.out (by decide) (by decide) hl3 _ K.go.1).mono ?_; rintro e v4 ⟨rfl, g1⟩
 have K' := K.read g1
 clear K g1
 have K := K'
 clear K'
 have c1 := K.x.cell 3
 have f1 := K.x.frozen 3
 simp at c1
 have K' := K.put 3 (.string ⟨s.toArray⟩) (cs' := #[.int .u8 (a : Int), .int .u32 (b : Int), .int .u8 (k : Int), .string ⟨s.toArray⟩, .string ⟨#[]⟩, .string ⟨#[]⟩, .int .u8 0]) rfl
 go_upto_region 6 with fail
 clear c1 f1 K
 have K := K'
 clear K'
 generalize v4.setCell ⟨w.heap.size + 1, 3, none⟩ (.string ⟨s.toArray⟩) = w4 at *
 go_wp2_with fail
 refine (QS HE5.out (by decide) (by decide) hl4 _ K.go.1).mono ?_; rintro e v5 ⟨rfl, g1⟩
 have K' := K.read g1
 clear K g1
 have K := K'
 clear K'
 have c1 := K.x.cell 4
 have f1 := K.x.frozen 4
 simp at c1
 have K' := K.put 4 (.string ⟨t.toArray⟩) (cs' := #[.int .u8 (a : Int), .int .u32 (b : Int), .int .u8 (k : Int), .string ⟨s.toArray⟩, .string ⟨t.toArray⟩, .string ⟨#[]⟩, .int .u8 0]) rfl
 go_upto_region 7 with fail
 clear c1 f1 K
 have K := K'
 clear K'
 generalize v5.setCell ⟨w.heap.size + 1, 4, none⟩ (.string ⟨t.toArray⟩) = w5 at *
 go_wp2_with fail
 refine (QS HE6.out (by decide) (by decide) hl5 _ K.go.1).mono ?_; rintro e v6 ⟨rfl, g1⟩
 have K' := K.read g1
 clear K g1
 have K := K'
 clear K'
 have c1 := K.x.cell 5
 have f1 := K.x.frozen 5
 simp at c1
 have K' := K.put 5 (.string ⟨u.toArray⟩) (cs' := #[.int .u8 (a : Int), .int .u32 (b : Int), .int .u8 (k : Int), .string ⟨s.toArray⟩, .string ⟨t.toArray⟩, .string ⟨u.toArray⟩, .int .u8 0]) rfl
 go_upto_region 8 with fail
 clear c1 f1 K
 have K := K'
 clear K'
 generalize v6.setCell ⟨w.heap.size + 1, 5, none⟩ (.string ⟨u.toArray⟩) = w6 at *
 go_wp2_with fail
 refine (Px HE7.out hl6 _ K.go.1).mono ?_; rintro e v7 ⟨rfl, g1⟩
 have K' := K.read g1
 clear K g1
 have K := K'
 clear K'
 have c1 := K.x.cell 6
 have f1 := K.x.frozen 6
 simp at c1
 have K' := K.put 6 (.int .u8 (z : Int)) (cs' := #[.int .u8 (a : Int), .int .u32 (b : Int), .int .u8 (k : Int), .string ⟨s.toArray⟩, .string ⟨t.toArray⟩, .string ⟨u.toArray⟩, .int .u8 (z : Int)]) rfl
 go_upto_region 9 with fail
 clear c1 f1 K
 have K := K'
 clear K'
 generalize v7.setCell ⟨w.heap.size + 1, 6, none⟩ (.int .u8 (z : Int)) = w7 at *
 have x0 := K.x.cell 0
 have x1 := K.x.cell 1
 have x2 := K.x.cell 2
 have x3 := K.x.cell 3
 have x4 := K.x.cell 4
 have x5 := K.x.cell 5
 have x6 := K.x.cell 6
 simp at x0 x1 x2 x3 x4 x5 x6
 unfold cmV cmC at HK
 dsimp only at HK
 generalize mayB (⟨a, b, k, s, t, u, z⟩ : Cm) = m at *
 go_wp2_with fail
 refine (HK.out _).mono ?_; rintro e w8 ⟨rfl, B8⟩
 have K' := K.below B8
 clear K B8 x0 x1 x2 x3 x4 x5 x6
 have K := K'
 clear K' HK HE1 HE2 HE3 HE4 HE5 HE6 HE7
 cases m
 ·go_wp2_with fail
  refine (Py g r7 _ K.go.1).mono ?_; rintro e w9 ⟨⟨v, rfl⟩, g9⟩
  have K' := K.read g9
  clear K g9
  go_wp2_with fail
  refine (Hu g r7.bad _ K'.go.1).mono ?_; rintro e w10 ⟨rfl, rfl⟩
  have ne : ((r7.bad.err : Int) != 0) = true := by have := bad_err r7; rw [bne_iff_ne]; omega
  have hp : p = (cm0, r7.bad) := by rw [P.out]; simp [bad_err r7]
  have HP := Lib.hid hp
  clear hp P
  have f0 := K'.z.frozen 0
  have f1 := K'.z.frozen 1
  have f2 := K'.z.frozen 2
  have f3 := K'.z.frozen 3
  have f4 := K'.z.frozen 4
  have f5 := K'.z.frozen 5
  have f6 := K'.z.frozen 6
  have c0 := K'.z.cell 0
  have c1 := K'.z.cell 1
  have c2 := K'.z.cell 2
  have c3 := K'.z.cell 3
  have c4 := K'.z.cell 4
  have c5 := K'.z.cell 5
  have c6 := K'.z.cell 6
  simp at c0 c1 c2 c3 c4 c5 c6
  have HZ := Lib.hid (((((((K'.z.set_ 0 (.int .u8 0)).set_ 1 (.int .u32 0)).set_ 2 (.int .u8 0)).set_ 3 (.string ⟨#[]⟩)).set_ 4 (.string ⟨#[]⟩)).set_ 5 (.string ⟨#[]⟩)).set_ 6 (.int .u8 0))
  have HG := Lib.hid (EK (EK (EK (EK (EK (EK (EK K'.go K'.lt (p := ⟨w.heap.size, 0, none⟩) (Nat.le_refl _) (.int .u8 0)) K'.lt (p := ⟨w.heap.size, 1, none⟩) (Nat.le_refl _) (.int .u32 0)) K'.lt (p := ⟨w.heap.size, 2, none⟩) (Nat.le_refl _) (.int .u8 0)) K'.lt (p := ⟨w.heap.size, 3, none⟩) (Nat.le_refl _) (.string ⟨#[]⟩)) K'.lt (p := ⟨w.heap.size, 4, none⟩) (Nat.le_refl _) (.string ⟨#[]⟩)) K'.lt (p := ⟨w.heap.size, 5, none⟩) (Nat.le_refl _) (.string ⟨#[]⟩)) K'.lt (p := ⟨w.heap.size, 6, none⟩) (Nat.le_refl _) (.int .u8 0))
  clear K'
  go_wp2_with fail
  have y0 := HZ.out.cell 0
  have y1 := HZ.out.cell 1
  have y2 := HZ.out.cell 2
  have y3 := HZ.out.cell 3
  have y4 := HZ.out.cell 4
  have y5 := HZ.out.cell 5
  have y6 := HZ.out.cell 6
  simp at y0 y1 y2 y3 y4 y5 y6
  refine bodyPost_ret (v := cmV cm0) (by simp [results, Tryz.results113, go_sem, cmV, cmC, cm0, y0, y1, y2, y3, y4, y5, y6]) rfl ?_
  rw [HP.out]
  exact ⟨rfl, HG.out⟩
 ·go_wp2_with fail
  refine (Hu g r7 _ K.go.1).mono ?_; rintro e w10 ⟨rfl, rfl⟩
  by_cases h0 : r7.err = 0
  ·have ne : ((r7.err : Int) != 0) = false := by rw [h0]; rfl
   have hp : p = ((⟨a, b, k, s, t, u, z⟩ : Cm), r7) := by rw [P.out]; simp [h0]
   have HP := Lib.hid hp
   clear hp P h0
   have x0 := K.x.cell 0
   have x1 := K.x.cell 1
   have x2 := K.x.cell 2
   have x3 := K.x.cell 3
   have x4 := K.x.cell 4
   have x5 := K.x.cell 5
   have x6 := K.x.cell 6
   simp at x0 x1 x2 x3 x4 x5 x6
   have f0 := K.z.frozen 0
   have f1 := K.z.frozen 1
   have f2 := K.z.frozen 2
   have f3 := K.z.frozen 3
   have f4 := K.z.frozen 4
   have f5 := K.z.frozen 5
   have f6 := K.z.frozen 6
   have c0 := K.z.cell 0
   have c1 := K.z.cell 1
   have c2 := K.z.cell 2
   have c3 := K.z.cell 3
   have c4 := K.z.cell 4
   have c5 := K.z.cell 5
   have c6 := K.z.cell 6
   simp at c0 c1 c2 c3 c4 c5 c6
   have HZ := Lib.hid (((((((K.z.set_ 0 (.int .u8 (a : Int))).set_ 1 (.int .u32 (b : Int))).set_ 2 (.int .u8 (k : Int))).set_ 3 (.string ⟨s.toArray⟩)).set_ 4 (.string ⟨t.toArray⟩)).set_ 5 (.string ⟨u.toArray⟩)).set_ 6 (.int .u8 (z : Int)))
   have HG := Lib.hid (EK (EK (EK (EK (EK (EK (EK K.go K.lt (p := ⟨w.heap.size, 0, none⟩) (Nat.le_refl _) (.int .u8 (a : Int))) K.lt (p := ⟨w.heap.size, 1, none⟩) (Nat.le_refl _) (.int .u32 (b : Int))) K.lt (p := ⟨w.heap.size, 2, none⟩) (Nat.le_refl _) (.int .u8 (k : Int))) K.lt (p := ⟨w.heap.size, 3, none⟩) (Nat.le_refl _) (.string ⟨s.toArray⟩)) K.lt (p := ⟨w.heap.size, 4, none⟩) (Nat.le_refl _) (.string ⟨t.toArray⟩)) K.lt (p := ⟨w.heap.size, 5, none⟩) (Nat.le_refl _) (.string ⟨u.toArray⟩)) K.lt (p := ⟨w.heap.size, 6, none⟩) (Nat.le_refl _) (.int .u8 (z : Int)))
   clear K
   go_wp2_with fail
   have y0 := HZ.out.cell 0
   have y1 := HZ.out.cell 1
   have y2 := HZ.out.cell 2
   have y3 := HZ.out.cell 3
   have y4 := HZ.out.cell 4
   have y5 := HZ.out.cell 5
   have y6 := HZ.out.cell 6
   simp at y0 y1 y2 y3 y4 y5 y6
   refine bodyPost_ret (v := cmV (⟨a, b, k, s, t, u, z⟩ : Cm)) (by simp [results, Tryz.results113, go_sem, cmV, cmC, cm0, y0, y1, y2, y3, y4, y5, y6]) rfl ?_
   rw [HP.out]
   exact ⟨rfl, HG.out⟩
  ·have ne : ((r7.err : Int) != 0) = true := by rw [bne_iff_ne]; omega
   have hp : p = (cm0, r7) := by rw [P.out]; simp [h0]
   have HP := Lib.hid hp
   clear hp P h0
   have f0 := K.z.frozen 0
   have f1 := K.z.frozen 1
   have f2 := K.z.frozen 2
   have f3 := K.z.frozen 3
   have f4 := K.z.frozen 4
   have f5 := K.z.frozen 5
   have f6 := K.z.frozen 6
   have c0 := K.z.cell 0
   have c1 := K.z.cell 1
   have c2 := K.z.cell 2
   have c3 := K.z.cell 3
   have c4 := K.z.cell 4
   have c5 := K.z.cell 5
   have c6 := K.z.cell 6
   simp at c0 c1 c2 c3 c4 c5 c6
   have HZ := Lib.hid (((((((K.z.set_ 0 (.int .u8 0)).set_ 1 (.int .u32 0)).set_ 2 (.int .u8 0)).set_ 3 (.string ⟨#[]⟩)).set_ 4 (.string ⟨#[]⟩)).set_ 5 (.string ⟨#[]⟩)).set_ 6 (.int .u8 0))
   have HG := Lib.hid (EK (EK (EK (EK (EK (EK (EK K.go K.lt (p := ⟨w.heap.size, 0, none⟩) (Nat.le_refl _) (.int .u8 0)) K.lt (p := ⟨w.heap.size, 1, none⟩) (Nat.le_refl _) (.int .u32 0)) K.lt (p := ⟨w.heap.size, 2, none⟩) (Nat.le_refl _) (.int .u8 0)) K.lt (p := ⟨w.heap.size, 3, none⟩) (Nat.le_refl _) (.string ⟨#[]⟩)) K.lt (p := ⟨w.heap.size, 4, none⟩) (Nat.le_refl _) (.string ⟨#[]⟩)) K.lt (p := ⟨w.heap.size, 5, none⟩) (Nat.le_refl _) (.string ⟨#[]⟩)) K.lt (p := ⟨w.heap.size, 6, none⟩) (Nat.le_refl _) (.int .u8 0))
   clear K
   go_wp2_with fail
   have y0 := HZ.out.cell 0
   have y1 := HZ.out.cell 1
   have y2 := HZ.out.cell 2
   have y3 := HZ.out.cell 3
   have y4 := HZ.out.cell 4
   have y5 := HZ.out.cell 5
   have y6 := HZ.out.cell 6
   simp at y0 y1 y2 y3 y4 y5 y6
   refine bodyPost_ret (v := cmV cm0) (by simp [results, Tryz.results113, go_sem, cmV, cmC, cm0, y0, y1, y2, y3, y4, y5, y6]) rfl ?_
   rw [HP.out]
   exact ⟨rfl, HG.out⟩
end Go.Proofs.YteiaiilfekojfaaGreat.Cmd
end
section
namespace Go.Proofs.YteiaiilfekojfaaGreat.Cmd
open Go.RowKit Wire

set_option maxRecDepth 100000 in
set_option maxHeartbeats 4000000 in
theorem refMay_any (c : Cm) (w : World) : Calls Tryz.prog 49 #[cmV c] w fun e w' => e = .returned (.bool (mayB c)) ∧ Below w.heap.size w w' := by
 obtain ⟨m, hm⟩ : ∃ m, m = mayB c := ⟨_, rfl⟩
 rw [← hm]
 unfold mayB at hm
 have hb := Blk.new w 29 (cmC c)
 unfold cmV
 unfold cmC at *
 obtain ⟨cl, sq, k, ky, od, nw, st⟩ := c
 dsimp only at *
 have hB1 : Below w.heap.size w (w.alloc (.cells #[.int .u8 (cl : Int), .int .u32 (sq : Int), .int .u8 (k : Int), .string ⟨ky.toArray⟩, .string ⟨od.toArray⟩, .string ⟨nw.toArray⟩, .int .u8 (st : Int)] 29)) := (Below.refl _ w).alloc (Nat.le_refl _) _
 have hsk := size_str ky
 have hso := size_str od
 have hsn := size_str nw
 have HM := Lib.hid hm
 clear hm
 go_enter Tryz.func49, Tryz.ntmps49
 go_upto_region 1 with fail
 generalize (w.alloc (.cells #[.int .u8 (cl : Int), .int .u32 (sq : Int), .int .u8 (k : Int), .string ⟨ky.toArray⟩, .string ⟨od.toArray⟩, .string ⟨nw.toArray⟩, .int .u8 (st : Int)] 29)) = w1 at *
 have k0 : w1.cell? ⟨w.heap.size, 0, none⟩ = some (.int .u8 (cl : Int)) := hb.cell 0
 have k1 : w1.cell? ⟨w.heap.size, 1, none⟩ = some (.int .u32 (sq : Int)) := hb.cell 1
 have k2 : w1.cell? ⟨w.heap.size, 2, none⟩ = some (.int .u8 (k : Int)) := hb.cell 2
 have k3 : w1.cell? ⟨w.heap.size, 3, none⟩ = some (.string ⟨ky.toArray⟩) := hb.cell 3
 have k4 : w1.cell? ⟨w.heap.size, 4, none⟩ = some (.string ⟨od.toArray⟩) := hb.cell 4
 have k5 : w1.cell? ⟨w.heap.size, 5, none⟩ = some (.string ⟨nw.toArray⟩) := hb.cell 5
 have k6 : w1.cell? ⟨w.heap.size, 6, none⟩ = some (.int .u8 (st : Int)) := hb.cell 6
 clear hb
 go_cut [28] (fun s wx => wx = w1 ∧ s = .bool (decide (3 < cl ∨ sq < 1 ∨ 16 < ky.length ∨ 64 < od.length ∨ 64 < nw.length)))
 case first =>
  have e : (decide (3 < (cl : Int)) || decide ((sq : Int) < 1) || decide (16 < (ky.length : Int)) || decide (64 < (od.length : Int)) || decide (64 < (nw.length : Int))) = decide (3 < cl ∨ sq < 1 ∨ 16 < ky.length ∨ 64 < od.length ∨ 64 < nw.length) := by
   rw [Bool.eq_iff_iff]; simp only [Bool.or_eq_true, decide_eq_true_iff]; omega
  by_cases h1 : 3 < (cl : Int)
  ·have e : decide (3 < cl ∨ sq < 1 ∨ 16 < ky.length ∨ 64 < od.length ∨ 64 < nw.length) = true := decide_eq_true (by omega)
   go_wp2
   go_meet
   exact ⟨rfl, by rw [e]⟩
  by_cases h2 : (sq : Int) < 1
  ·have e : decide (3 < cl ∨ sq < 1 ∨ 16 < ky.length ∨ 64 < od.length ∨ 64 < nw.length) = true := decide_eq_true (by omega)
   go_wp2
   go_meet
   exact ⟨rfl, by rw [e]⟩
  by_cases h3 : 16 < (ky.length : Int)
  ·have e : decide (3 < cl ∨ sq < 1 ∨ 16 < ky.length ∨ 64 < od.length ∨ 64 < nw.length) = true := decide_eq_true (by omega)
   go_wp2
   go_meet
   exact ⟨rfl, by rw [e]⟩
  by_cases h4 : 64 < (od.length : Int)
  ·have e : decide (3 < cl ∨ sq < 1 ∨ 16 < ky.length ∨ 64 < od.length ∨ 64 < nw.length) = true := decide_eq_true (by omega)
   go_wp2
   go_meet
   exact ⟨rfl, by rw [e]⟩
  by_cases h5 : 64 < (nw.length : Int)
  ·have e : decide (3 < cl ∨ sq < 1 ∨ 16 < ky.length ∨ 64 < od.length ∨ 64 < nw.length) = true := decide_eq_true (by omega)
   go_wp2
   go_meet
   exact ⟨rfl, by rw [e]⟩
  rw [decide_eq_false h1, decide_eq_false h2, decide_eq_false h3, decide_eq_false h4, decide_eq_false h5] at e
  go_wp2
  go_meet
  exact ⟨rfl, by rw [← e]; simp [*]⟩
 case rest =>
  obtain ⟨rfl, rfl⟩ := hcut
  by_cases hd : 3 < cl ∨ sq < 1 ∨ 16 < ky.length ∨ 64 < od.length ∨ 64 < nw.length
  ·have e : decide (3 < cl ∨ sq < 1 ∨ 16 < ky.length ∨ 64 < od.length ∨ 64 < nw.length) = true := decide_eq_true hd
   rw [e]
   have hmf : m = false := HM.out.trans (decide_eq_false (by omega))
   subst hmf
   clear hd
   go_wp2
   go_ret
   exact ⟨rfl, hB1⟩
  have e : decide (3 < cl ∨ sq < 1 ∨ 16 < ky.length ∨ 64 < od.length ∨ 64 < nw.length) = false := decide_eq_false hd
  rw [e]
  rcases (show k = 1 ∨ k = 2 ∨ k = 3 ∨ k = 4 ∨ k = 5 ∨ k = 0 ∨ 5 < k by omega) with rfl | rfl | rfl | rfl | rfl | rfl | h
  ·by_cases eky : ky = []
   ·have lky : ky.length = 0 := by rw [eky]; rfl
    have hv : m = false := HM.out.trans (decide_eq_false (by omega))
    subst hv
    clear HM
    go_wp2
    go_ret
    exact ⟨by first | rfl | simp [*], hB1⟩
   ·have lky : 1 ≤ ky.length := List.length_pos_iff.2 eky
    have iky : ky.isEmpty = false := List.isEmpty_eq_false_iff.2 eky
    by_cases eod : od = []
    ·have lod : od.length = 0 := by rw [eod]; rfl
     by_cases enw : nw = []
     ·have lnw : nw.length = 0 := by rw [enw]; rfl
      have hv : m = ((st : Int) == 0) := HM.out.trans (by rw [Bool.eq_iff_iff, decide_eq_true_iff, beq_iff_eq]; omega)
      subst hv
      clear HM
      go_wp2
      go_ret
      exact ⟨by first | rfl | simp [*], hB1⟩
     ·have lnw : 1 ≤ nw.length := List.length_pos_iff.2 enw
      have inw : nw.isEmpty = false := List.isEmpty_eq_false_iff.2 enw
      have hv : m = false := HM.out.trans (decide_eq_false (by omega))
      subst hv
      clear HM
      go_wp2
      go_ret
      exact ⟨by first | rfl | simp [*], hB1⟩
    ·have lod : 1 ≤ od.length := List.length_pos_iff.2 eod
     have iod : od.isEmpty = false := List.isEmpty_eq_false_iff.2 eod
     have hv : m = false := HM.out.trans (decide_eq_false (by omega))
     subst hv
     clear HM
     go_wp2
     go_ret
     exact ⟨by first | rfl | simp [*], hB1⟩
  ·by_cases eky : ky = []
   ·have lky : ky.length = 0 := by rw [eky]; rfl
    have hv : m = false := HM.out.trans (decide_eq_false (by omega))
    subst hv
    clear HM
    go_wp2
    go_ret
    exact ⟨by first | rfl | simp [*], hB1⟩
   ·have lky : 1 ≤ ky.length := List.length_pos_iff.2 eky
    have iky : ky.isEmpty = false := List.isEmpty_eq_false_iff.2 eky
    by_cases eod : od = []
    ·have lod : od.length = 0 := by rw [eod]; rfl
     have hv : m = ((st : Int) == 0) := HM.out.trans (by rw [Bool.eq_iff_iff, decide_eq_true_iff, beq_iff_eq]; omega)
     subst hv
     clear HM
     go_wp2
     go_ret
     exact ⟨by first | rfl | simp [*], hB1⟩
    ·have lod : 1 ≤ od.length := List.length_pos_iff.2 eod
     have iod : od.isEmpty = false := List.isEmpty_eq_false_iff.2 eod
     have hv : m = false := HM.out.trans (decide_eq_false (by omega))
     subst hv
     clear HM
     go_wp2
     go_ret
     exact ⟨by first | rfl | simp [*], hB1⟩
  ·by_cases eky : ky = []
   ·have lky : ky.length = 0 := by rw [eky]; rfl
    have hv : m = false := HM.out.trans (decide_eq_false (by omega))
    subst hv
    clear HM
    go_wp2
    go_ret
    exact ⟨by first | rfl | simp [*], hB1⟩
   ·have lky : 1 ≤ ky.length := List.length_pos_iff.2 eky
    have iky : ky.isEmpty = false := List.isEmpty_eq_false_iff.2 eky
    by_cases eod : od = []
    ·have lod : od.length = 0 := by rw [eod]; rfl
     by_cases enw : nw = []
     ·have lnw : nw.length = 0 := by rw [enw]; rfl
      have hv : m = ((st : Int) == 0) := HM.out.trans (by rw [Bool.eq_iff_iff, decide_eq_true_iff, beq_iff_eq]; omega)
      subst hv
      clear HM
      go_wp2
      go_ret
      exact ⟨by first | rfl | simp [*], hB1⟩
     ·have lnw : 1 ≤ nw.length := List.length_pos_iff.2 enw
      have inw : nw.isEmpty = false := List.isEmpty_eq_false_iff.2 enw
      have hv : m = false := HM.out.trans (decide_eq_false (by omega))
      subst hv
      clear HM
      go_wp2
      go_ret
      exact ⟨by first | rfl | simp [*], hB1⟩
    ·have lod : 1 ≤ od.length := List.length_pos_iff.2 eod
     have iod : od.isEmpty = false := List.isEmpty_eq_false_iff.2 eod
     have hv : m = false := HM.out.trans (decide_eq_false (by omega))
     subst hv
     clear HM
     go_wp2
     go_ret
     exact ⟨by first | rfl | simp [*], hB1⟩
  ·by_cases eky : ky = []
   ·have lky : ky.length = 0 := by rw [eky]; rfl
    have hv : m = false := HM.out.trans (decide_eq_false (by omega))
    subst hv
    clear HM
    go_wp2
    go_ret
    exact ⟨by first | rfl | simp [*], hB1⟩
   ·have lky : 1 ≤ ky.length := List.length_pos_iff.2 eky
    have iky : ky.isEmpty = false := List.isEmpty_eq_false_iff.2 eky
    have hv : m = ((st : Int) == 0) := HM.out.trans (by rw [Bool.eq_iff_iff, decide_eq_true_iff, beq_iff_eq]; omega)
    subst hv
    clear HM
    go_wp2
    go_ret
    exact ⟨by first | rfl | simp [*], hB1⟩
  ·by_cases eky : ky = []
   ·have lky : ky.length = 0 := by rw [eky]; rfl
    by_cases eod : od = []
    ·have lod : od.length = 0 := by rw [eod]; rfl
     by_cases enw : nw = []
     ·have lnw : nw.length = 0 := by rw [enw]; rfl
      have hv : m = true := HM.out.trans (decide_eq_true (by omega))
      subst hv
      clear HM
      go_wp2
      go_ret
      exact ⟨by first | rfl | simp [*], hB1⟩
     ·have lnw : 1 ≤ nw.length := List.length_pos_iff.2 enw
      have inw : nw.isEmpty = false := List.isEmpty_eq_false_iff.2 enw
      have hv : m = false := HM.out.trans (decide_eq_false (by omega))
      subst hv
      clear HM
      go_wp2
      go_ret
      exact ⟨by first | rfl | simp [*], hB1⟩
    ·have lod : 1 ≤ od.length := List.length_pos_iff.2 eod
     have iod : od.isEmpty = false := List.isEmpty_eq_false_iff.2 eod
     have hv : m = false := HM.out.trans (decide_eq_false (by omega))
     subst hv
     clear HM
     go_wp2
     go_ret
     exact ⟨by first | rfl | simp [*], hB1⟩
   ·have lky : 1 ≤ ky.length := List.length_pos_iff.2 eky
    have iky : ky.isEmpty = false := List.isEmpty_eq_false_iff.2 eky
    have hv : m = false := HM.out.trans (decide_eq_false (by omega))
    subst hv
    clear HM
    go_wp2
    go_ret
    exact ⟨by first | rfl | simp [*], hB1⟩
  ·have hv : m = false := HM.out.trans (decide_eq_false (by omega))
   subst hv
   clear HM
   go_wp2
   go_ret
   exact ⟨by first | rfl | simp [*], hB1⟩
  ·have n1 : ((k : Int) == 1) = false := beq_eq_false_iff_ne.2 (by omega)
   have n2 : ((k : Int) == 2) = false := beq_eq_false_iff_ne.2 (by omega)
   have n3 : ((k : Int) == 3) = false := beq_eq_false_iff_ne.2 (by omega)
   have n4 : ((k : Int) == 4) = false := beq_eq_false_iff_ne.2 (by omega)
   have n5 : ((k : Int) == 5) = false := beq_eq_false_iff_ne.2 (by omega)
   have hv : m = false := HM.out.trans (decide_eq_false (by omega))
   subst hv
   clear HM
   go_wp2
   go_ret
   exact ⟨by first | rfl | simp [*], hB1⟩
end Go.Proofs.YteiaiilfekojfaaGreat.Cmd
end
section
namespace Go.Proofs.YteiaiilfekojfaaGreat.Cmd
open Go.RowKit Wire

structure Tq (w : World) (q : Dr) (w1 : World) (cs zs ys : Array Value) : Prop where
 bw : Below w.heap.size w w1
 r : Blk w1 w.heap.size 121 (drC q)
 z : Blk w1 (w.heap.size + 1) 29 zs
 y : Blk w1 (w.heap.size + 2) 121 ys
 x : Blk w1 (w.heap.size + 3) 29 cs
theorem Tq.below {w w1 w2 : World} {q : Dr} {cs zs ys : Array Value} (h : Tq w q w1 cs zs ys) (hb : Below w1.heap.size w1 w2) : Tq w q w2 cs zs ys :=
 ⟨h.bw.trans (hb.mono h.bw.size), h.r.below hb h.r.lt, h.z.below hb h.z.lt, h.y.below hb h.y.lt, h.x.below hb h.x.lt⟩
theorem Tq.put {w w1 : World} {q : Dr} {cs zs ys : Array Value} (h : Tq w q w1 cs zs ys) (j : Nat) (v : Value) {cs' : Array Value} (e : cs.setIfInBounds j v = cs') : Tq w q (w1.setCell ⟨w.heap.size + 3, j, none⟩ v) cs' zs ys :=
 ⟨h.bw.setCell (by simp) v, h.r.far (by simp) v, h.z.far (by simp) v, h.y.far (by simp) v, e ▸ h.x.set_ j v⟩
theorem Tq.box {w w1 : World} {q : Dr} {cs zs ys : Array Value} (h : Tq w q w1 cs zs ys) (q' : Dr) : Tq w q' ((w1.setCell ⟨w.heap.size, 0, none⟩ (.string ⟨q'.s.toArray⟩)).setCell ⟨w.heap.size, 1, none⟩ (.int .i64 (q'.e : Int))) cs zs ys :=
 ⟨(h.bw.setCell (Nat.le_refl _) _).setCell (Nat.le_refl _) _, (h.r.set_ 0 _).set_ 1 _, (h.z.far (by simp) _).far (by simp) _, (h.y.far (by simp) _).far (by simp) _, (h.x.far (by simp) _).far (by simp) _⟩
theorem Tq.drew {w w1 : World} {q : Dr} {cs zs ys : Array Value} (h : Tq w q w1 cs zs ys) : Tq w q w1.drew cs zs ys := ⟨h.bw.drew, h.r, h.z, h.y, h.x⟩
theorem Tq.start (w : World) (q : Dr) : Tq w q ((((w.alloc (.cells (drC q) 121)).alloc (.cells #[.int .u8 0, .int .u32 0, .int .u8 0, .string ⟨#[]⟩, .string ⟨#[]⟩, .string ⟨#[]⟩, .int .u8 0] 29)).alloc (.cells #[.string ⟨#[]⟩, .int .i64 0] 121)).alloc (.cells #[.int .u8 0, .int .u32 0, .int .u8 0, .string ⟨#[]⟩, .string ⟨#[]⟩, .string ⟨#[]⟩, .int .u8 0] 29)) #[.int .u8 0, .int .u32 0, .int .u8 0, .string ⟨#[]⟩, .string ⟨#[]⟩, .string ⟨#[]⟩, .int .u8 0] #[.int .u8 0, .int .u32 0, .int .u8 0, .string ⟨#[]⟩, .string ⟨#[]⟩, .string ⟨#[]⟩, .int .u8 0] #[.string ⟨#[]⟩, .int .i64 0] :=
 ⟨(((((Below.refl _ w).alloc (Nat.le_refl _) _).alloc (by simp) _).alloc (by simp; omega) _).alloc (by simp; omega) _), (((Blk.new w _ _).alloc _).alloc _).alloc _,
 (by have := ((Blk.new (w.alloc (.cells (drC q) 121)) 29 #[.int .u8 0, .int .u32 0, .int .u8 0, .string ⟨#[]⟩, .string ⟨#[]⟩, .string ⟨#[]⟩, .int .u8 0]).alloc (.cells #[.string ⟨#[]⟩, .int .i64 0] 121)).alloc (.cells #[.int .u8 0, .int .u32 0, .int .u8 0, .string ⟨#[]⟩, .string ⟨#[]⟩, .string ⟨#[]⟩, .int .u8 0] 29); simpa using this),
 (by have := (Blk.new ((w.alloc (.cells (drC q) 121)).alloc (.cells #[.int .u8 0, .int .u32 0, .int .u8 0, .string ⟨#[]⟩, .string ⟨#[]⟩, .string ⟨#[]⟩, .int .u8 0] 29)) 121 #[.string ⟨#[]⟩, .int .i64 0]).alloc (.cells #[.int .u8 0, .int .u32 0, .int .u8 0, .string ⟨#[]⟩, .string ⟨#[]⟩, .string ⟨#[]⟩, .int .u8 0] 29); simpa [Nat.add_assoc] using this),
 (by have := Blk.new (((w.alloc (.cells (drC q) 121)).alloc (.cells #[.int .u8 0, .int .u32 0, .int .u8 0, .string ⟨#[]⟩, .string ⟨#[]⟩, .string ⟨#[]⟩, .int .u8 0] 29)).alloc (.cells #[.string ⟨#[]⟩, .int .i64 0] 121)) 29 #[.int .u8 0, .int .u32 0, .int .u8 0, .string ⟨#[]⟩, .string ⟨#[]⟩, .string ⟨#[]⟩, .int .u8 0]; simpa [Nat.add_assoc] using this)⟩

end Go.Proofs.YteiaiilfekojfaaGreat.Cmd
end
section
namespace Go.Proofs.YteiaiilfekojfaaGreat.Cmd
open Go.RowKit Wire

def cmL (c : Cm) : List Value := (cmC c).toList
end Go.Proofs.YteiaiilfekojfaaGreat.Cmd
end
section
namespace Go.Proofs.YteiaiilfekojfaaGreat.Cmd
open Go.RowKit Wire

theorem below_less {r r' : Rd} {c n : Nat} (hn : 0 < n) (h : r.below n = (c, r')) : c < n := by
 unfold Rd.below at h
 split at h
 split at h
 ·cases h; exact hn
 ·split at h
  ·cases h; exact hn
  ·cases h; omega
theorem str_rest {r r' : Rd} {s : List UInt8} {m : Int} (h : r.str m = (s, r')) : r'.rest.length ≤ r.rest.length := by
 unfold Rd.str at h
 split at h
 rename_i n r1 e1
 have a := Jk e1
 have b := JK (r := r1) (n := n) (s := (r1.take n).1) (ok := (r1.take n).2.1) (r' := (r1.take n).2.2) rfl
 cases h
 omega
theorem str_most {r r' : Rd} {s : List UInt8} {m : Nat} (h : r.str (m : Int) = (s, r')) : s.length ≤ m := by
 unfold Rd.str at h
 split at h
 rename_i n r1 e1
 have a := below_less (by omega) e1
 cases h
 unfold Rd.take
 split
 ·simp
 ·split
  ·simp
  ·simp only [List.length_take]; omega
theorem takeC_parts (r : Rd) : ∃ r1 r2 r3 r4 r5 r6 r7 a b k z s t u, r.byte = (a, r1) ∧ r1.below 4294967296 = (b, r2) ∧ r2.byte = (k, r3) ∧ r3.str 16 = (s, r4) ∧ r4.str 64 = (t, r5) ∧ r5.str 64 = (u, r6) ∧ r6.byte = (z, r7) ∧
  Cm.Fits ⟨a, b, k, s, t, u, z⟩ ∧ r1.rest.length ≤ r.rest.length ∧ r2.rest.length ≤ r.rest.length ∧ r3.rest.length ≤ r.rest.length ∧ r4.rest.length ≤ r.rest.length ∧ r5.rest.length ≤ r.rest.length ∧ r6.rest.length ≤ r.rest.length ∧ r7.rest.length ≤ r.rest.length ∧ s.length ≤ 16 ∧ t.length ≤ 64 ∧ u.length ≤ 64 := by
 obtain ⟨a, r1, e1⟩ : ∃ a r1, r.byte = (a, r1) := ⟨_, _, rfl⟩
 obtain ⟨b, r2, e2⟩ : ∃ b r2, r1.below 4294967296 = (b, r2) := ⟨_, _, rfl⟩
 obtain ⟨k, r3, e3⟩ : ∃ k r3, r2.byte = (k, r3) := ⟨_, _, rfl⟩
 obtain ⟨s, r4, e4⟩ : ∃ s r4, r3.str 16 = (s, r4) := ⟨_, _, rfl⟩
 obtain ⟨t, r5, e5⟩ : ∃ t r5, r4.str 64 = (t, r5) := ⟨_, _, rfl⟩
 obtain ⟨u, r6, e6⟩ : ∃ u r6, r5.str 64 = (u, r6) := ⟨_, _, rfl⟩
 obtain ⟨z, r7, e7⟩ : ∃ z r7, r6.byte = (z, r7) := ⟨_, _, rfl⟩
 have l1 := H4 e1
 have l2 := Jk e2
 have l3 := H4 e3
 have l4 := str_rest e4
 have l5 := str_rest e5
 have l6 := str_rest e6
 have l7 := H4 e7
 have m4 := str_most (m := 16) e4
 have m5 := str_most (m := 64) e5
 have m6 := str_most (m := 64) e6
 exact ⟨r1, r2, r3, r4, r5, r6, r7, a, b, k, z, s, t, u, e1, e2, e3, e4, e5, e6, e7, ⟨Kt e1, below_less (by omega) e2, Kt e3, by simp only; omega, by simp only; omega, by simp only; omega, Kt e7⟩,
  by omega, by omega, by omega, by omega, by omega, by omega, by omega, m4, m5, m6⟩
theorem takeC_eq {r r1 r2 r3 r4 r5 r6 r7 : Rd} {a b k z : Nat} {s t u : List UInt8} (e1 : r.byte = (a, r1)) (e2 : r1.below 4294967296 = (b, r2)) (e3 : r2.byte = (k, r3)) (e4 : r3.str 16 = (s, r4)) (e5 : r4.str 64 = (t, r5)) (e6 : r5.str 64 = (u, r6)) (e7 : r6.byte = (z, r7)) :
  takeC r = (if (if mayB ⟨a, b, k, s, t, u, z⟩ then r7 else r7.bad).err = 0 then ⟨a, b, k, s, t, u, z⟩ else cm0, if mayB ⟨a, b, k, s, t, u, z⟩ then r7 else r7.bad) := by
 unfold takeC; rw [e1]; simp only; rw [e2]; simp only; rw [e3]; simp only; rw [e4]; simp only; rw [e5]; simp only; rw [e6]; simp only; rw [e7]
theorem takeC_rest (r : Rd) : (takeC r).2.rest.length ≤ r.rest.length := by
 obtain ⟨r1, r2, r3, r4, r5, r6, r7, a, b, k, z, s, t, u, e1, e2, e3, e4, e5, e6, e7, _, _, _, _, _, _, _, l7, _⟩ := takeC_parts r
 rw [takeC_eq e1 e2 e3 e4 e5 e6 e7]
 simp only
 split
 ·exact l7
 ·unfold Rd.bad; rw [JY]; exact l7
theorem cm0_fits : cm0.Fits := ⟨by decide, by decide, by decide, by decide, by decide, by decide, by decide⟩
theorem takeC_fits (r : Rd) : (takeC r).1.Fits := by
 obtain ⟨r1, r2, r3, r4, r5, r6, r7, a, b, k, z, s, t, u, e1, e2, e3, e4, e5, e6, e7, hf, _⟩ := takeC_parts r
 rw [takeC_eq e1 e2 e3 e4 e5 e6 e7]
 have : ∀ (p : Prop) [Decidable p], (if p then (⟨a, b, k, s, t, u, z⟩ : Cm) else cm0).Fits := fun p _ => by
  by_cases h : p
  ·rw [if_pos h]; exact hf
  ·rw [if_neg h]; exact cm0_fits
 exact this _
theorem take_any (g : Nat) (r : Rd) (hl : r.rest.length ≤ 1000000) (w : World) (h : RdAt w g r) :
  Calls Tryz.prog 113 #[.pointer (some ⟨g, 0, none⟩)] w fun e w' => XS w g (takeC r) e w' := by
 obtain ⟨r1, r2, r3, r4, r5, r6, r7, a, b, k, z, s, t, u, e1, e2, e3, e4, e5, e6, e7, hf, l1, l2, l3, l4, l5, l6, l7, _⟩ := takeC_parts r
 exact Nj g r r1 r2 r3 r4 r5 r6 r7 a b k z s t u hf (by omega) (by omega) (by omega) (by omega) (by omega) (by omega) (by omega) e1 e2 e3 e4 e5 e6 e7 w h
end Go.Proofs.YteiaiilfekojfaaGreat.Cmd
end
section
namespace Go.Proofs.YteiaiilfekojfaaGreat.Cmd
open Go.RowKit Wire

def oneB (c : Cm) : List UInt8 := UInt8.ofNat c.client :: (BI c.seq ++ (UInt8.ofNat c.kind :: (CM c.key ++ (CM c.old ++ (CM c.new ++ [UInt8.ofNat c.set])))))
set_option maxRecDepth 100000 in
set_option maxHeartbeats 4000000 in
theorem UH (A : Option Addr) (c : Nat) (l : List UInt8) (hl : l.length ≤ 1000000000) (w : World) (hr : Reads w w.heap.size 1 A l.length (bv l)) :
  Calls Tryz.prog 177 #[.slice A l.length c] w fun e w' => RetB w w' e l := by
 obtain ⟨i0, hi, hz0, hz1, hz2⟩ := info_parts Hq
 have hbo := NJ l
 cases A with
 | none =>
  have h0 : l.length = 0 := by
   rcases Nat.eq_zero_or_pos l.length with h | h
   ·exact h
   ·obtain ⟨ad, e, _⟩ := hr.2 h
    cases e
  obtain rfl : l = [] := List.length_eq_zero_iff.1 h0
  have hf : ∀ W : World, (binOp .eql 103 (.slice none ([] : List UInt8).length c) (.slice none 0 0)).run Tryz.prog W = .ok (.bool true) W := fun W => by kernel_rfl
  have hf2 : ∀ W : World, (binOp .eql 103 (.slice none 0 c) (.slice none 0 0)).run Tryz.prog W = .ok (.bool true) W := fun W => by kernel_rfl
  go_enter Tryz.func177, Tryz.ntmps177
  go_wp2
  go_ret
  exact ⟨_, rfl, World.ownsRow_nil _ _ _ _, Below.refl _ _⟩
 | some ad =>
  have hf : ∀ W : World, (binOp .eql 103 (.slice (some ad) l.length c) (.slice none 0 0)).run Tryz.prog W = .ok (.bool false) W := fun W => by kernel_rfl
  have own0 : (w.alloc (.cells #[] 5)).ownsRow w.heap.size 5 1 (.slice (some ⟨w.heap.size, 0, none⟩) 0 0) 0 [] := ⟨rfl, .inr ⟨w.heap.size, 0, #[], rfl, Nat.le_refl _, heap_alloc_new w _, Nat.le_refl _, by decide, rfl, rfl⟩⟩
  have hr0 := hr.alloc (Nat.le_refl _) (.cells #[] 5)
  have hsz : w.heap.size ≤ (w.alloc (.cells #[] 5)).heap.size := by simp
  have hm1 : 0 + l.length ≤ maxLen := by unfold maxLen; omega
  have hm2 : (0 + l.length) * 1 ≤ 140737488355328 := by omega
  go_enter Tryz.func177, Tryz.ntmps177
  go_wp2_with (at_builtin; go_must (refine Ej _ rfl (.tmp 5) (.tmp 6) _ rfl w.heap.size 5 i0 (.int .u8 0) 1 1 Tryz.underlying103 hi hz0 hz1 hz2 rfl (by omega) (.slice (some ⟨w.heap.size, 0, none⟩) 0 0) 0 [] rfl own0 w.heap.size (some ad) l.length c (bv l) rfl hr0 hbo hm1 hm2 hsz ?_); intro v1 w1 own1 g1 at1)
  go_ret
  rw [Nat.zero_add, List.nil_append] at own1
  exact ⟨_, rfl, own1, ((Below.refl _ w).alloc (Nat.le_refl _) _).grown g1 (by simp) (fun k hk => by cases hk; exact Nat.le_refl _)⟩
end Go.Proofs.YteiaiilfekojfaaGreat.Cmd
end
section
namespace Go.Proofs.YteiaiilfekojfaaGreat.Cmd
open Go.RowKit Wire

theorem below_put_back (n m : Nat) (h : n < m) (hm : n < 18446744073709551616) (rest : List UInt8) : Rd.below ⟨0, BI n ++ rest⟩ m = (n, ⟨0, rest⟩) := by
 unfold Rd.below
 rw [DJ n hm]
 simp only
 rw [if_neg (by simp), if_neg (by omega)]
theorem IX (s : List UInt8) (m : Nat) (h : s.length ≤ m) (hm : m ≤ 1000) (rest : List UInt8) : Rd.str ⟨0, CM s ++ rest⟩ (m : Int) = (s, ⟨0, rest⟩) := by
 unfold Rd.str CM
 have e : (max (m : Int) 0).toNat + 1 = m + 1 := by omega
 rw [e, List.append_assoc, below_put_back _ _ (by omega) (by omega)]
 simp only
 rw [take_ok _ _ (by simp)]
 simp
theorem byte_nat (x : Nat) (h : x < 256) (l : List UInt8) : Rd.byte ⟨0, UInt8.ofNat x :: l⟩ = (x, ⟨0, l⟩) := by
 rw [H6, UInt8.toNat_ofNat', Nat.mod_eq_of_lt (by omega)]
theorem Uw {c : Cm} (h : mayB c = true) : c.client < 4 ∧ c.kind ≤ 5 ∧ c.key.length ≤ 16 ∧ c.old.length ≤ 64 ∧ c.new.length ≤ 64 := by
 unfold mayB at h
 have h := of_decide_eq_true h
 omega
theorem takeC_put (c : Cm) (h : mayB c = true) (hf : c.Fits) (rest : List UInt8) : takeC ⟨0, oneB c ++ rest⟩ = (c, ⟨0, rest⟩) := by
 obtain ⟨a, b, d, e, f⟩ := Uw h
 have q1 := hf.h2
 have q2 := hf.h7
 obtain ⟨cl, sq, k, ky, od, nw, st⟩ := c
 simp only at a b d e f q1 q2
 unfold oneB
 simp only [List.cons_append, List.append_assoc, List.nil_append]
 rw [takeC_eq (byte_nat cl (by omega) _) (below_put_back sq 4294967296 (by omega) (by omega) _) (byte_nat k (by omega) _) (IX ky 16 d (by omega) _) (IX od 64 e (by omega) _) (IX nw 64 f (by omega) _) (byte_nat st (by omega) rest)]
 rw [h]
 rfl
theorem byte_err {r : Rd} (h : r.byte.2.err = 0) : r.err = 0 := by
 by_cases e : r.err = 0
 ·exact e
 ·rw [MI r e] at h; exact absurd h e
theorem Ly (r : Rd) (n : Nat) (h : r.err ≠ 0) : r.below n = (0, r) := by
 unfold Rd.below; rw [Nw r h]; simp only; rw [if_pos h]
theorem below_err {r : Rd} {n : Nat} (h : (r.below n).2.err = 0) : r.err = 0 := by
 by_cases e : r.err = 0
 ·exact e
 ·rw [Ly r n e] at h; exact absurd h e
theorem QR (r : Rd) (m : Int) (h : r.err ≠ 0) : r.str m = ([], r) := by
 unfold Rd.str; rw [Ly r _ h]; simp only; rw [Jt r _ h]
theorem str_err {r : Rd} {m : Int} (h : (r.str m).2.err = 0) : r.err = 0 := by
 by_cases e : r.err = 0
 ·exact e
 ·rw [QR r m e] at h; exact absurd h e
theorem WA {r : Rd} (h : r.bad.err = 0) : False := bad_err r h
theorem byte_back {s : List UInt8} {x : Nat} {r : Rd} (h : Rd.byte ⟨0, s⟩ = (x, r)) (h0 : r.err = 0) : s = UInt8.ofNat x :: r.rest := by
 match s with
 | [] => rw [RX] at h; cases h; cases h0
 | b :: l => rw [H6] at h; cases h; simp
theorem below_back {s : List UInt8} {n x : Nat} {r : Rd} (h : Rd.below ⟨0, s⟩ n = (x, r)) (h0 : r.err = 0) : s = BI x ++ r.rest ∧ x < n := by
 unfold Rd.below at h
 obtain ⟨v, r1, hv⟩ : ∃ v r1, Rd.num ⟨0, s⟩ = (v, r1) := ⟨_, _, rfl⟩
 rw [hv] at h
 simp only at h
 by_cases e1 : r1.err ≠ 0
 ·rw [if_pos e1] at h; cases h; exact absurd h0 e1
 rw [if_neg e1] at h
 by_cases e2 : n ≤ v
 ·rw [if_pos e2] at h
  cases h
  unfold Rd.fail at h0
  split at h0
  ·cases h0
  ·exact absurd h0 (by assumption)
 ·rw [if_neg e2] at h
  cases h
  obtain ⟨er, rest⟩ := r
  have h0 : er = 0 := h0
  subst h0
  exact ⟨Ld s x rest hv, by omega⟩
theorem str_back {s t : List UInt8} {m : Int} {r : Rd} (h : Rd.str ⟨0, s⟩ m = (t, r)) (h0 : r.err = 0) : s = CM t ++ r.rest := by
 unfold Rd.str at h
 obtain ⟨n, r1, hv⟩ : ∃ n r1, Rd.below ⟨0, s⟩ ((max m 0).toNat + 1) = (n, r1) := ⟨_, _, rfl⟩
 rw [hv] at h
 simp only at h
 have hr : r1.err = 0 := by
  by_cases e : r1.err = 0
  ·exact e
  ·rw [Jt r1 n e] at h; cases h; exact absurd h0 e
 obtain ⟨hs, _⟩ := below_back hv hr
 obtain ⟨er, rest⟩ := r1
 have hr : er = 0 := hr
 subst hr
 by_cases e : n ≤ rest.length
 ·rw [take_ok rest n e] at h
  cases h
  have hl : (rest.take n).length = n := by rw [List.length_take]; omega
  unfold CM
  rw [hl, hs]
  simp
 ·rw [Nh rest n (by omega)] at h
  cases h
  cases h0
theorem rd_zero {r : Rd} (h : r.err = 0) : r = ⟨0, r.rest⟩ := by obtain ⟨e, l⟩ := r; have h : e = 0 := h; subst h; rfl
theorem K9 {α β : Type} {p : α × β} {a : α} {b : β} (h : p = (a, b)) : p.2 = b := by rw [h]
theorem takeC_back {r : Rd} (h : (takeC r).2.err = 0) : r.err = 0 ∧ r.rest = oneB (takeC r).1 ++ (takeC r).2.rest ∧ mayB (takeC r).1 = true := by
 obtain ⟨r1, r2, r3, r4, r5, r6, r7, a, b, k, z, s, t, u, e1, e2, e3, e4, e5, e6, e7, _⟩ := takeC_parts r
 rw [takeC_eq e1 e2 e3 e4 e5 e6 e7] at h ⊢
 simp only at h ⊢
 by_cases hm : mayB ⟨a, b, k, s, t, u, z⟩ = true
 ·rw [if_pos hm] at h ⊢
  rw [if_pos h]
  have h7 := h
  have h6 : r6.err = 0 := byte_err (by rw [K9 e7]; exact h7)
  have h5 : r5.err = 0 := str_err (by rw [K9 e6]; exact h6)
  have h4 : r4.err = 0 := str_err (by rw [K9 e5]; exact h5)
  have h3 : r3.err = 0 := str_err (by rw [K9 e4]; exact h4)
  have h2 : r2.err = 0 := byte_err (by rw [K9 e3]; exact h3)
  have h1 : r1.err = 0 := below_err (by rw [K9 e2]; exact h2)
  have h0 : r.err = 0 := byte_err (by rw [K9 e1]; exact h1)
  refine ⟨h0, ?_, hm⟩
  rw [rd_zero h0] at e1
  rw [rd_zero h1] at e2
  rw [rd_zero h2] at e3
  rw [rd_zero h3] at e4
  rw [rd_zero h4] at e5
  rw [rd_zero h5] at e6
  rw [rd_zero h6] at e7
  have b1 := byte_back e1 h1
  have b2 := (below_back e2 h2).1
  have b3 := byte_back e3 h3
  have b4 := str_back e4 h4
  have b5 := str_back e5 h5
  have b6 := str_back e6 h6
  have b7 := byte_back e7 h7
  unfold oneB
  simp only [List.cons_append, List.append_assoc, List.nil_append]
  rw [← b7, ← b6, ← b5, ← b4, ← b3, ← b2, ← b1]
 ·rw [if_neg hm] at h
  exact (WA h).elim
def Rd.Ok (r : Rd) : Prop := r.err = 0 ∨ r.err = 3 ∨ r.err = 4
theorem end_zero {r : Rd} (h : r.end_.err = 0) : r.err = 0 ∧ r.rest = [] := by
 unfold Rd.end_ at h
 by_cases e : 0 < r.rest.length
 ·rw [if_pos e] at h
  unfold Rd.fail at h
  split at h
  ·cases h
  ·exact absurd h (by assumption)
 ·rw [if_neg e] at h; exact ⟨h, List.eq_nil_of_length_eq_zero (by omega)⟩
end Go.Proofs.YteiaiilfekojfaaGreat.Cmd
end
section
namespace Go.Proofs.YteiaiilfekojfaaGreat.Bal
open Go.RowKit Wire

def balB (b : B) : List UInt8 := BI b.n ++ [UInt8.ofNat b.r]
theorem O7 (w : World) (b : B) : ((w.alloc (.cells (bC b) 24)).drew).cell? ⟨w.heap.size, 0, none⟩ = some (.int .u64 (b.n : Int)) ∧ ((w.alloc (.cells (bC b) 24)).drew).cell? ⟨w.heap.size, 1, none⟩ = some (.int .u8 (b.r : Int)) :=
 ⟨(Blk.new w _ (bC b)).drew.cell 0, (Blk.new w _ (bC b)).drew.cell 1⟩
theorem NK (w : World) (b : B) (o : Obj) : (((w.alloc (.cells (bC b) 24)).alloc o).drew).cell? ⟨w.heap.size, 0, none⟩ = some (.int .u64 (b.n : Int)) ∧ (((w.alloc (.cells (bC b) 24)).alloc o).drew).cell? ⟨w.heap.size, 1, none⟩ = some (.int .u8 (b.r : Int)) :=
 ⟨((Blk.new w _ (bC b)).alloc o).drew.cell 0, ((Blk.new w _ (bC b)).alloc o).drew.cell 1⟩

theorem OA (w : World) (b : B) : Reads ((w.alloc (.cells (bC b) 24)).alloc (.cells #[.int .u8 (b.r : Int)] 5)) ((w.alloc (.cells (bC b) 24)).alloc (.cells #[.int .u8 (b.r : Int)] 5)).heap.size 1 (some ⟨w.heap.size + 1, 0, none⟩) 1 [.int .u8 (b.r : Int)] := by
 have h := Reads.of_own (FQ (w := w.alloc (.cells (bC b) 24)) (base := 0) 5 (.int .u8 (b.r : Int)) (Nat.zero_le _))
 have e : (w.alloc (.cells (bC b) 24)).heap.size = w.heap.size + 1 := by simp
 rw [e] at h
 exact h
set_option maxRecDepth 100000 in
set_option maxHeartbeats 4000000 in
theorem put_any (A : Option Addr) (c : Nat) (l : List UInt8) (b : B) (hn : b.n < 18446744073709551616) (hb : b.r < 256) (hl : l.length ≤ 1000000000) (w : World) (hr : Reads w w.heap.size 1 A l.length (bv l)) :
  Calls Tryz.prog 132 #[.slice A l.length c, bV b] w fun e w' => Y3 w w' e (l ++ balB b) := by
 obtain ⟨i0, hi, hz0, hz1, hz2⟩ := info_parts Hq
 have HR := Lib.hid hr
 clear hr
 have hd1 := (Ku w (.cells (bC b) 24)).drew
 have hd2 := fun o => (L0 w (.cells (bC b) 24) o).drew
 have z1 := O7 w b
 have z2 := NK w b
 unfold bV
 unfold bC at *
 go_enter Tryz.func132, Tryz.ntmps132
 go_wp2_with fail
 have hm : (l ++ BI b.n).length ≤ 1000000009 := by rw [List.length_append]; have := (B0 b.n hn).1; omega
 have hm1 : (l ++ BI b.n).length + 1 ≤ maxLen := by unfold maxLen; omega
 have hm2 : ((l ++ BI b.n).length + 1) * 1 ≤ 140737488355328 := by omega
 have hv : Hid (bv (l ++ BI b.n) ++ [.int .u8 (b.r : Int)] = bv (l ++ balB b)) := by
  have e : NI (UInt8.ofNat b.r) = .int .u8 (b.r : Int) := by unfold NI; rw [show (UInt8.ofNat b.r).toNat = b.r from by simp; omega]
  show _ = _
  unfold balB bv
  simp [e]
 go_region_held3 (fun W : World => W.cell? ⟨w.heap.size, 0, none⟩ = some (.int .u64 (b.n : Int)) ∧ W.cell? ⟨w.heap.size, 1, none⟩ = some (.int .u8 (b.r : Int))) (first | go_keep | exact ⟨k0, k1⟩) (first
  | (go_at_call 88; refine (Ip A c l b.n hn (by omega) _ ((HR.out.below hd1).more hd1.size)).mono ?_; rintro e w2 ⟨v2, rfl, own2, B2⟩; have k0 := (B2.cell (by simp)).trans z1.1; have k1 := (B2.cell (by simp)).trans z1.2)
  | (go_at_call 88; refine (Ip A c l b.n hn (by omega) _ ((HR.out.below (hd2 (.cells #[.int .u8 (b.r : Int)] 5))).more (hd2 (.cells #[.int .u8 (b.r : Int)] 5)).size)).mono ?_; rintro e w2 ⟨v2, rfl, own2b, B2⟩; have k0 := (B2.cell (by simp <;> omega)).trans (z2 _).1; have k1 := (B2.cell (by simp <;> omega)).trans (z2 _).2)
  | (refine DX _ (by rfl) (.tmp 8) (.tmp 11) 103 (by rfl) _ 5 i0 (.int .u8 0) 1 1 Tryz.underlying103 hi hz0 hz1 hz2 rfl (by omega) v2 _ _ (by rfl) (own2.alloc _) _ _ 1 1 [.int .u8 (b.r : Int)] (by rfl) (Reads.of_own (FQ (base := 0) 5 _ (Nat.zero_le _))) (by simp [Value.oneCell']) hm1 hm2 (Nat.le_trans B2.size (by simp)) ?_; intro v3 w3 own3 g3 at3; have b3 := GO own2 B2 B2.size g3; have k0 := (b3.cell (by simp)).trans z1.1; have k1 := (b3.cell (by simp)).trans z1.2; have bb := hd1.trans (b3.mono hd1.size); obtain ⟨A3, c3, rfl, r3⟩ := DG own3)
  | (refine DX _ (by rfl) (.tmp 8) (.tmp 11) 103 (by rfl) _ 5 i0 (.int .u8 0) 1 1 Tryz.underlying103 hi hz0 hz1 hz2 rfl (by omega) v2 _ _ (by rfl) own2b _ _ 1 1 [.int .u8 (b.r : Int)] (by rfl) ((OA w b).drew.below B2) (by simp [Value.oneCell']) hm1 hm2 B2.size ?_; intro v3 w3 own3 g3 at3; have b3 := B2.grown g3 B2.size (fun k hk => (own2b.lt k hk).1); have k0 := (b3.cell (by simp <;> omega)).trans (z2 _).1; have k1 := (b3.cell (by simp <;> omega)).trans (z2 _).2; have bb := (hd2 _).trans (b3.mono (hd2 _).size); obtain ⟨A3, c3, rfl, r3⟩ := DG own3))
 all_goals
  have R3 := Lib.hid r3
  have BB := Lib.hid bb
  clear r3 bb own3 at3 g3 b3
  go_wp2
  go_ret
  have e2 : (l ++ BI b.n).length + 1 = (l ++ balB b).length := by unfold balB; simp; omega
  have e3 : l.length + (BI b.n).length + 1 = (l ++ balB b).length := by rw [← e2, List.length_append]
  have r3 := R3.out
  rw [hv.out, e2] at r3
  exact ⟨A3, c3, by rw [← e3]; rfl, r3, BB.out⟩
end Go.Proofs.YteiaiilfekojfaaGreat.Bal
end
section
namespace Go.Proofs.YteiaiilfekojfaaGreat.Bal
open Go.RowKit Wire

theorem SC (w : World) : Calls Tryz.prog 132 #[.slice none 0 0, .agg #[.int .u64 5, .int .u8 3]] w fun e w' => Y3 w w' e [5, 3] :=
 put_any none 0 [] ⟨5, 3⟩ (by decide) (by decide) (by decide) w Reads.none_

def Sx (g1 g3 g5 : Nat) (W : World) : Prop :=
 W.cell? ⟨g1, 0, none⟩ = some (.int .u64 1) ∧ W.cell? ⟨g1, 1, none⟩ = some (.int .u8 2) ∧ W.cell? ⟨g3, 0, none⟩ = some (.int .u64 3) ∧ W.cell? ⟨g3, 1, none⟩ = some (.int .u8 2) ∧
  W.cell? ⟨g5, 0, none⟩ = some (.int .u64 4) ∧ W.cell? ⟨g5, 1, none⟩ = some (.int .u8 1)
structure Kx (g1 g3 g5 : Nat) (w W : World) : Prop where
 bw : Below w.heap.size w W
 l1 : g1 < W.heap.size
 l3 : g3 < W.heap.size
 l5 : g5 < W.heap.size
 s : Sx g1 g3 g5 W
theorem Kx.below {g1 g3 g5 : Nat} {w W W' : World} (k : Kx g1 g3 g5 w W) (hb : Below W.heap.size W W') : Kx g1 g3 g5 w W' where
 bw := k.bw.trans (hb.mono k.bw.size)
 l1 := Nat.lt_of_lt_of_le k.l1 hb.size
 l3 := Nat.lt_of_lt_of_le k.l3 hb.size
 l5 := Nat.lt_of_lt_of_le k.l5 hb.size
 s := ⟨(hb.cell k.l1).trans k.s.1, (hb.cell k.l1).trans k.s.2.1, (hb.cell k.l3).trans k.s.2.2.1, (hb.cell k.l3).trans k.s.2.2.2.1, (hb.cell k.l5).trans k.s.2.2.2.2.1, (hb.cell k.l5).trans k.s.2.2.2.2.2⟩
theorem Kx.alloc {g1 g3 g5 : Nat} {w W : World} (k : Kx g1 g3 g5 w W) (o : Obj) : Kx g1 g3 g5 w (W.alloc o) := k.below (Ku W o)

end Go.Proofs.YteiaiilfekojfaaGreat.Bal
end
section
namespace Go.Proofs.YteiaiilfekojfaaGreat.Bal
open Go.RowKit

structure Kb (L : List (Nat × Array Value)) (w W : World) : Prop where
 bw : Below w.heap.size w W
 at_ : ∀ p ∈ L, Blk W p.1 24 p.2
theorem Kb.below {L : List (Nat × Array Value)} {w W W' : World} (k : Kb L w W) (hb : Below W.heap.size W W') : Kb L w W' where
 bw := k.bw.trans (hb.mono k.bw.size)
 at_ := fun p hp => (k.at_ p hp).below hb (k.at_ p hp).lt
theorem Kb.alloc {L : List (Nat × Array Value)} {w W : World} (k : Kb L w W) (o : Obj) : Kb L w (W.alloc o) := k.below (Ku W o)
theorem Kb.drew {L : List (Nat × Array Value)} {w W : World} (k : Kb L w W) : Kb L w W.drew := ⟨k.bw.drew, fun p hp => (k.at_ p hp).drew⟩
theorem Kb.new {L : List (Nat × Array Value)} {w W : World} (k : Kb L w W) (cs : Array Value) : Kb ((W.heap.size, cs) :: L) w (W.alloc (.cells cs 24)) where
 bw := (k.alloc _).bw
 at_ := by
  intro p hp
  rcases List.mem_cons.1 hp with rfl | hp
  ·exact Blk.new W _ cs
  ·exact (k.at_ p hp).alloc _
theorem Kb.refl (w : World) : Kb [] w w := ⟨Below.refl _ w, by simp⟩
theorem Kb.i1 {a : Nat × Array Value} {L : List (Nat × Array Value)} {w W : World} (k : Kb (a :: L) w W) : Blk W a.1 24 a.2 := k.at_ a (by simp)
theorem Kb.i3 {a b c : Nat × Array Value} {L : List (Nat × Array Value)} {w W : World} (k : Kb (c :: b :: a :: L) w W) : Blk W a.1 24 a.2 := k.at_ a (by simp)
end Go.Proofs.YteiaiilfekojfaaGreat.Bal
end
section
namespace Go.Proofs.YteiaiilfekojfaaGreat.Bal
open Go.RowKit Wire

def takeB (r : Rd) : B × Rd :=
 let p := r.num
 let q := p.2.byte
 let s := if mayB ⟨p.1, q.1⟩ then q.2 else q.2.bad
 (if s.err = 0 then ⟨p.1, q.1⟩ else ⟨0, 0⟩, s)
def BalRet (w : World) (g : Nat) (p : B × Rd) (e : Ending) (w' : World) : Prop := e = .returned (bV p.1) ∧ RdGo w g p.2 w'
theorem X9 {g : Nat} {r : Rd} {p : Nat × Rd} (e : r.byte = p) (hl : r.rest.length < 4611686018427387904) (w : World) (h : RdAt w g r) :
  Calls Tryz.prog 58 #[.pointer (some ⟨g, 0, none⟩)] w fun e w' => MX w g p e w' := e ▸ JE g r hl w h
theorem Qh {w w1 w2 : World} {g : Nat} {r : Rd} (h : RdGo w g r w1) (hb : Below w1.heap.size w1 w2) : RdGo w g r w2 :=
 ⟨Blk.below h.1 hb (Blk.lt h.1), GH h.2 (Gg hb (some g))⟩
theorem LQ {w w1 : World} {g : Nat} {r : Rd} (h : RdGo w g r w1) (hg : g < w.heap.size) {p : Addr} (hp : w.heap.size ≤ p.block) (u : Value) : RdGo w g r (w1.setCell p u) :=
 ⟨Blk.far h.1 (by omega) u, FR h.2 (.inr hp) u⟩
theorem bad_err (r : Rd) : r.bad.err ≠ 0 := by
 unfold Rd.bad Rd.fail
 by_cases h : r.err = 0
 ·rw [if_pos h]; simp
 ·rw [if_neg h]; exact h

set_option linter.unusedSimpArgs false in
set_option maxRecDepth 100000 in
set_option maxHeartbeats 4000000 in
theorem take_bal (g : Nat) (r r1 r2 : Rd) (n c : Nat) (hl : r.rest.length < 4611686018427387904) (e1 : r.num = (n, r1)) (hl1 : r1.rest.length < 4611686018427387904) (e2 : r1.byte = (c, r2)) (w : World) (h : RdAt w g r) :
  Calls Tryz.prog 134 #[.pointer (some ⟨g, 0, none⟩)] w fun e w' => BalRet w g (takeB r) e w' := by
 have et : takeB r = (if (if mayB ⟨n, c⟩ then r2 else r2.bad).err = 0 then ⟨n, c⟩ else ⟨0, 0⟩, if mayB ⟨n, c⟩ then r2 else r2.bad) := by unfold takeB; rw [e1]; simp only; rw [e2]
 rw [et]
 obtain ⟨p, hp⟩ : ∃ p : B × Rd, p = (if (if mayB ⟨n, c⟩ then r2 else r2.bad).err = 0 then ⟨n, c⟩ else ⟨0, 0⟩, if mayB ⟨n, c⟩ then r2 else r2.bad) := ⟨_, rfl⟩
 rw [← hp]
 have P := Lib.hid hp
 have hgl := Blk.lt h
 have HE1 := Lib.hid e1
 have HE2 := Lib.hid e2
 have HR := Lib.hid h
 clear et e1 e2 h hp
 have o0 : w.grownBy (w.alloc (.cells #[.int .u64 0, .int .u8 0] 24)) (some g) := KC (World.grownBy.refl w _) _
 go_enter Tryz.func134, Tryz.ntmps134
 go_wp2_with fail
 refine (Ya HE1.out hl _ (Blk.alloc HR.out _)).mono ?_; rintro e w1 ⟨rfl, g1⟩
 have hz1 := (Blk.new w 24 #[.int .u64 0, .int .u8 0]).grown g1.2 (by simp; omega)
 have G1 : RdGo w g r1 w1 := ⟨g1.1, GH o0 g1.2⟩
 clear g1
 go_wp2_with fail
 refine (X9 HE2.out hl1 _ G1.1).mono ?_; rintro e w2 ⟨rfl, g2⟩
 have hz2 := hz1.grown g2.2 (by simp; omega)
 have G2 := G1.trans g2
 have sz2 := hz2.lt
 have G3 := Qh G2 (Ku w2 (.cells #[.int .u64 (n : Int), .int .u8 (c : Int)] 24))
 have hz3 := hz2.alloc (.cells #[.int .u64 (n : Int), .int .u8 (c : Int)] 24)
 have hx3 := Blk.new w2 24 #[.int .u64 (n : Int), .int .u8 (c : Int)]
 clear g2 hz1 hz2 G1 G2
 have hc := Yy ⟨n, c⟩
 have hck := check_any ⟨n, c⟩
 generalize chkN ⟨n, c⟩ = ck at hc hck
 have HC := Lib.hid hc
 have HK := Lib.hid hck
 clear hc hck
 unfold bV bC at *
 go_wp2_with fail
 refine (HK.out _).mono ?_; rintro e w4 ⟨rfl, B4⟩
 have b4 := Al1.below B4
 have G4 := Qh G3 b4
 have hz4 := hz3.below b4 hz3.lt
 have hx4 := hx3.below b4 hx3.lt
 clear G3 hz3 hx3 B4 b4
 generalize mayB ⟨n, c⟩ = m at *
 cases m
 ·obtain rfl := HC.out.2 rfl
  go_wp2_with fail
  refine (Py g r2 _ G4.1).mono ?_; rintro e w5 ⟨⟨v, rfl⟩, g5⟩
  have G5 := G4.trans g5
  have hz5 := hz4.grown g5.2 (by simp; omega)
  clear g5 G4 hz4 hx4
  go_wp2_with fail
  refine (Hu g r2.bad _ G5.1).mono ?_; rintro e w6 ⟨rfl, rfl⟩
  have ne : ((r2.bad.err : Int) != 0) = true := by have := bad_err r2; rw [bne_iff_ne]; omega
  have hp : p = (⟨0, 0⟩, r2.bad) := by rw [P.out]; simp [bad_err r2]
  have HP := Lib.hid hp
  clear hp P
  have f0 := hz5.frozen 0
  have f1 := hz5.frozen 1
  have c0 := hz5.cell 0
  have c1 := hz5.cell 1
  simp at c0 c1
  have HZ := Lib.hid ((hz5.set_ 0 (.int .u64 0)).set_ 1 (.int .u8 0))
  have HG := Lib.hid (LQ (LQ G5 hgl (p := ⟨w.heap.size, 0, none⟩) (Nat.le_refl _) (.int .u64 0)) hgl (p := ⟨w.heap.size, 1, none⟩) (Nat.le_refl _) (.int .u8 0))
  clear G5 hz5
  go_wp2_with fail
  have y0 := HZ.out.cell 0
  have y1 := HZ.out.cell 1
  simp at y0 y1
  refine bodyPost_ret (v := bV ⟨0, 0⟩) (by simp [results, Tryz.results134, go_sem, bV, bC, y0, y1]) rfl ?_
  rw [HP.out]
  exact ⟨rfl, HG.out⟩
 ·obtain rfl := HC.out.1 rfl
  go_wp2_with fail
  refine (Hu g r2 _ G4.1).mono ?_; rintro e w6 ⟨rfl, rfl⟩
  by_cases h0 : r2.err = 0
  ·have ne : ((r2.err : Int) != 0) = false := by rw [h0]; rfl
   have hp : p = (⟨n, c⟩, r2) := by rw [P.out]; simp [h0]
   have HP := Lib.hid hp
   clear hp P h0
   have x0 := hx4.cell 0
   have x1 := hx4.cell 1
   simp at x0 x1
   clear hx4
   have f0 := hz4.frozen 0
   have f1 := hz4.frozen 1
   have c0 := hz4.cell 0
   have c1 := hz4.cell 1
   simp at c0 c1
   have HZ := Lib.hid ((hz4.set_ 0 (.int .u64 (n : Int))).set_ 1 (.int .u8 (c : Int)))
   have HG := Lib.hid (LQ (LQ G4 hgl (p := ⟨w.heap.size, 0, none⟩) (Nat.le_refl _) (.int .u64 (n : Int))) hgl (p := ⟨w.heap.size, 1, none⟩) (Nat.le_refl _) (.int .u8 (c : Int)))
   clear G4 hz4
   go_wp2_with fail
   have y0 := HZ.out.cell 0
   have y1 := HZ.out.cell 1
   simp at y0 y1
   refine bodyPost_ret (v := bV ⟨n, c⟩) (by simp [results, Tryz.results134, go_sem, bV, bC, y0, y1]) rfl ?_
   rw [HP.out]
   exact ⟨rfl, HG.out⟩
  ·have ne : ((r2.err : Int) != 0) = true := by rw [bne_iff_ne]; omega
   have hp : p = (⟨0, 0⟩, r2) := by rw [P.out]; simp [h0]
   have HP := Lib.hid hp
   clear hp P h0 hx4
   have f0 := hz4.frozen 0
   have f1 := hz4.frozen 1
   have c0 := hz4.cell 0
   have c1 := hz4.cell 1
   simp at c0 c1
   have HZ := Lib.hid ((hz4.set_ 0 (.int .u64 0)).set_ 1 (.int .u8 0))
   have HG := Lib.hid (LQ (LQ G4 hgl (p := ⟨w.heap.size, 0, none⟩) (Nat.le_refl _) (.int .u64 0)) hgl (p := ⟨w.heap.size, 1, none⟩) (Nat.le_refl _) (.int .u8 0))
   clear G4 hz4
   go_wp2_with fail
   have y0 := HZ.out.cell 0
   have y1 := HZ.out.cell 1
   simp at y0 y1
   refine bodyPost_ret (v := bV ⟨0, 0⟩) (by simp [results, Tryz.results134, go_sem, bV, bC, y0, y1]) rfl ?_
   rw [HP.out]
   exact ⟨rfl, HG.out⟩
end Go.Proofs.YteiaiilfekojfaaGreat.Bal
end
section
namespace Go.Proofs.YteiaiilfekojfaaGreat.Bal
open Go.RowKit Wire

theorem CY {w : World} {base base' : Nat} {e : TypeId} {size n : Nat} {v : Value} {xs : List Value} (h : w.ownsRow base e size v n xs) (hb : base' ≤ base) : w.ownsRow base' e size v n xs := by
 refine ⟨h.1, ?_⟩
 rcases h.2 with h0 | ⟨g, cap, cur, hv, hg, rest⟩
 ·exact .inl h0
 ·exact .inr ⟨g, cap, cur, hv, Nat.le_trans hb hg, rest⟩
set_option maxRecDepth 100000 in
set_option maxHeartbeats 4000000 in
theorem put_own (A : Option Addr) (c : Nat) (l : List UInt8) (b : B) (hn : b.n < 18446744073709551616) (hb : b.r < 256) (hl : l.length ≤ 1000000000) (w : World) (hr : Reads w w.heap.size 1 A l.length (bv l)) :
  Calls Tryz.prog 132 #[.slice A l.length c, bV b] w fun e w' => RetB w w' e (l ++ balB b) := by
 obtain ⟨i0, hi, hz0, hz1, hz2⟩ := info_parts Hq
 have HR := Lib.hid hr
 clear hr
 have hd1 := (Ku w (.cells (bC b) 24)).drew
 have hd2 := fun o => (L0 w (.cells (bC b) 24) o).drew
 have z1 := O7 w b
 have z2 := NK w b
 unfold bV
 unfold bC at *
 go_enter Tryz.func132, Tryz.ntmps132
 go_wp2_with fail
 have hm : (l ++ BI b.n).length ≤ 1000000009 := by rw [List.length_append]; have := (B0 b.n hn).1; omega
 have hm1 : (l ++ BI b.n).length + 1 ≤ maxLen := by unfold maxLen; omega
 have hm2 : ((l ++ BI b.n).length + 1) * 1 ≤ 140737488355328 := by omega
 have hv : Hid (bv (l ++ BI b.n) ++ [.int .u8 (b.r : Int)] = bv (l ++ balB b)) := by
  have e : NI (UInt8.ofNat b.r) = .int .u8 (b.r : Int) := by unfold NI; rw [show (UInt8.ofNat b.r).toNat = b.r from by simp; omega]
  show _ = _
  unfold balB bv
  simp [e]
 go_region_held3 (fun W : World => W.cell? ⟨w.heap.size, 0, none⟩ = some (.int .u64 (b.n : Int)) ∧ W.cell? ⟨w.heap.size, 1, none⟩ = some (.int .u8 (b.r : Int))) (first | go_keep | exact ⟨k0, k1⟩) (first
  | (go_at_call 88; refine (Ip A c l b.n hn (by omega) _ ((HR.out.below hd1).more hd1.size)).mono ?_; rintro e w2 ⟨v2, rfl, own2, B2⟩; have k0 := (B2.cell (by simp)).trans z1.1; have k1 := (B2.cell (by simp)).trans z1.2)
  | (go_at_call 88; refine (Ip A c l b.n hn (by omega) _ ((HR.out.below (hd2 (.cells #[.int .u8 (b.r : Int)] 5))).more (hd2 (.cells #[.int .u8 (b.r : Int)] 5)).size)).mono ?_; rintro e w2 ⟨v2, rfl, own2b, B2⟩; have k0 := (B2.cell (by simp <;> omega)).trans (z2 _).1; have k1 := (B2.cell (by simp <;> omega)).trans (z2 _).2)
  | (refine DX _ (by rfl) (.tmp 8) (.tmp 11) 103 (by rfl) _ 5 i0 (.int .u8 0) 1 1 Tryz.underlying103 hi hz0 hz1 hz2 rfl (by omega) v2 _ _ (by rfl) (own2.alloc _) _ _ 1 1 [.int .u8 (b.r : Int)] (by rfl) (Reads.of_own (FQ (base := 0) 5 _ (Nat.zero_le _))) (by simp [Value.oneCell']) hm1 hm2 (Nat.le_trans B2.size (by simp)) ?_; intro v3 w3 own3 g3 at3; have b3 := GO own2 B2 B2.size g3; have k0 := (b3.cell (by simp)).trans z1.1; have k1 := (b3.cell (by simp)).trans z1.2; have bb := hd1.trans (b3.mono hd1.size); obtain ⟨A3, c3, rfl, r3⟩ := DG own3)
  | (refine DX _ (by rfl) (.tmp 8) (.tmp 11) 103 (by rfl) _ 5 i0 (.int .u8 0) 1 1 Tryz.underlying103 hi hz0 hz1 hz2 rfl (by omega) v2 _ _ (by rfl) own2b _ _ 1 1 [.int .u8 (b.r : Int)] (by rfl) ((OA w b).drew.below B2) (by simp [Value.oneCell']) hm1 hm2 B2.size ?_; intro v3 w3 own3 g3 at3; have b3 := B2.grown g3 B2.size (fun k hk => (own2b.lt k hk).1); have k0 := (b3.cell (by simp <;> omega)).trans (z2 _).1; have k1 := (b3.cell (by simp <;> omega)).trans (z2 _).2; have bb := (hd2 _).trans (b3.mono (hd2 _).size); obtain ⟨A3, c3, rfl, r3⟩ := DG own3))
 all_goals
  have O3 := Lib.hid own3
  have BB := Lib.hid bb
  clear r3 bb own3 at3 g3 b3
  go_wp2
  go_ret
  have e2 : (l ++ BI b.n).length + 1 = (l ++ balB b).length := by unfold balB; simp; omega
  have e3 : l.length + (BI b.n).length + 1 = (l ++ balB b).length := by rw [← e2, List.length_append]
  have o3 := O3.out
  rw [hv.out, e2] at o3
  exact ⟨.slice A3 (l ++ balB b).length c3, by rw [← e3]; rfl, CY o3 (by first | exact hd1.size | exact (hd2 _).size), BB.out⟩
end Go.Proofs.YteiaiilfekojfaaGreat.Bal
end
section
namespace Go.Proofs.YteiaiilfekojfaaGreat.Frame
open Go.RowKit Wire

def poly : Nat := 14514072000185962306
def Gx (n : Nat) : Nat := if n % 2 = 1 then (n / 2) ^^^ poly else n / 2
def MK (n : Nat) : Nat → Nat
 | 0 => n
 | k + 1 => Gx (MK n k)
theorem RO (n : Nat) (h : n < 18446744073709551616) : Gx n < 18446744073709551616 := by
 unfold Gx
 split
 ·exact Nat.xor_lt_two_pow (n := 64) (by omega) (by decide)
 ·omega
theorem Iy (n k : Nat) (h : n < 18446744073709551616) : MK n k < 18446744073709551616 := by
 induction k with
 | zero => exact h
 | succ k ih => exact RO _ ih
theorem XE (n : Nat) (h : n < 18446744073709551616) : bits .and .u64 (n : Int) 1 = ((n % 2 : Nat) : Int) := by
 have e : n &&& 1 = n % 2 := Nat.and_one_is_mod n
 rw [← e]
 exact u64_and_nat n 1 h (by omega)
theorem UY (n : Nat) (h : n < 18446744073709551616) : bits .xor .u64 ((n : Int) / 2) 14514072000185962306 = (((n / 2) ^^^ poly : Nat) : Int) := by
 have e : (n : Int) / 2 = ((n / 2 : Nat) : Int) := by omega
 rw [e]
 exact u64_xor_nat (n / 2) poly (by omega) (by decide)
def XK (n : Nat) (w : World) (gk : Nat) (v i : Value) (wr : World) : Prop := ∃ k : Nat, k + gk = 8 ∧ i = .int .i64 (k : Int) ∧ v = .int .u64 (MK n k : Int) ∧ wr = w
set_option linter.unusedSimpArgs false in
set_option maxRecDepth 100000 in
set_option maxHeartbeats 2000000 in
theorem U7 (n : Nat) (hn : n < 18446744073709551616) (w : World) :
  Calls Tryz.prog 181 #[.int .u64 (n : Int)] w fun e w' => e = .returned (.int .u64 (MK n 8 : Int)) ∧ w' = w := by
 go_enter Tryz.func181, Tryz.ntmps181
 go_wp2_with fail
 go_loopg [0, 4] 8 (fun gk v i wr => XK n w gk v i wr)
 case atStart => exact ⟨0, by omega, rfl, rfl, rfl⟩
 case round =>
  obtain ⟨k, hk, rfl, rfl, rfl⟩ := hrel
  have hlt := Iy n k hn
  have hs : MK n (k + 1) = Gx (MK n k) := rfl
  generalize hm : MK n k = m at *
  have HM := Lib.hid hm
  clear hm
  have HS := Lib.hid hs
  clear hs
  by_cases h8 : k < 8
  ·have hk8 : (k : Int) < 8 := by omega
   have h1 := XE m hlt
   have m0 : (0 : Int) ≤ (m : Int) := by omega
   have m1 : (m : Int) < 18446744073709551616 := by omega
   by_cases h2 : m % 2 = 1
   ·rw [h2] at h1
    have h4 := Lib.hid (UY m hlt)
    have h5 : Gx m = (m / 2) ^^^ poly := by unfold Gx; rw [if_pos h2]
    have H5 := Lib.hid h5
    clear h5
    go_wp2_with fail
    go_roundg (8 - (k + 1))
    case measure => omega
    case rel => exact ⟨k + 1, by omega, by go_num, by rw [HS.out, H5.out, h4.out], rfl⟩
   ·have h3 : m % 2 = 0 := by omega
    rw [h3] at h1
    have h5 : Gx m = m / 2 := by unfold Gx; rw [if_neg h2]
    have H5 := Lib.hid h5
    clear h5
    go_wp2_with fail
    go_roundg (8 - (k + 1))
    case measure => omega
    case rel => exact ⟨k + 1, by omega, by go_num, by rw [HS.out, H5.out]; simp, rfl⟩
  ·obtain rfl : k = 8 := by omega
   go_wp2_with fail
   go_ret
   exact ⟨by rw [HM.out]; rfl, rfl⟩
def ED (n : Nat) (l : List UInt8) : Nat := l.foldl (fun n b => MK (n ^^^ b.toNat) 8) n
theorem Pm (n : Nat) (l : List UInt8) (k : Nat) (b : UInt8) (h : l[k]? = some b) : ED n (l.take (k + 1)) = MK (ED n (l.take k) ^^^ b.toNat) 8 := by
 unfold ED
 rw [List.take_add_one, h]
 simp
theorem E3 (n : Nat) (b : UInt8) (h : n < 18446744073709551616) : n ^^^ b.toNat < 18446744073709551616 := Nat.xor_lt_two_pow (n := 64) h (Nat.lt_trans b.toNat_lt (by decide))
theorem Jj (n : Nat) (l : List UInt8) (h : n < 18446744073709551616) : ED n l < 18446744073709551616 := by
 unfold ED
 induction l generalizing n with
 | nil => exact h
 | cons b l ih => exact ih _ (Iy _ 8 (E3 n b h))
def Y4 (n : Nat) (l : List UInt8) (w : World) (gk : Nat) (v i : Value) (wr : World) : Prop := ∃ k : Nat, k + gk = l.length ∧ i = .int .i64 (k : Int) ∧ v = .int .u64 (ED n (l.take k) : Int) ∧ wr = w
@[irreducible] def cpl (n : Nat) : Nat := 18446744073709551615 - n
theorem RP (n : Nat) : cpl n < 18446744073709551616 := by unfold cpl; omega
theorem Ss (n : Nat) (h : n < 18446744073709551616) : bits .xor .u64 IntKind.u64.max (n : Int) = ((cpl n : Nat) : Int) := by
 have e : IntKind.u64.max = ((18446744073709551615 : Nat) : Int) := by rfl
 rw [e, u64_xor_nat 18446744073709551615 n (by omega) h]
 have e2 := Lib.xor_ones64 n (by omega)
 unfold cpl
 exact congrArg _ e2
theorem UZ (n : Nat) (b : UInt8) (h : n < 18446744073709551616) : bits .xor .u64 (n : Int) (IntKind.u64.wrap (b.toNat : Int)) = ((n ^^^ b.toNat : Nat) : Int) := by
 have hb := b.toNat_lt
 rw [IntKind.wrap_u64, show ((b.toNat : Int) % 18446744073709551616) = (b.toNat : Int) by omega]
 exact u64_xor_nat n b.toNat h (by omega)
set_option linter.unusedSimpArgs false in
set_option maxRecDepth 100000 in
set_option maxHeartbeats 2000000 in
theorem PV (n : Nat) (hn : n < 18446744073709551616) (l : List UInt8) (hl : l.length < 4611686018427387904) (w : World) :
  Calls Tryz.prog 162 #[.int .u64 (n : Int), .string ⟨l.toArray⟩] w fun e w' => e = .returned (.int .u64 (cpl (ED (cpl n) l) : Int)) ∧ w' = w := by
 have hsz := size_str l
 have HX := Lib.hid (Ss n hn)
 have hM := RP n
 clear hn
 generalize cpl n = N at *
 have HML := Lib.hid (fun k => Jj N (l.take k) hM)
 clear hM
 go_enter Tryz.func162, Tryz.ntmps162
 go_wp2_with fail
 go_loopg [5, 11] l.length (fun gk v i wr => Y4 N l w gk v i wr)
 case atStart => exact ⟨0, by omega, rfl, by rw [HX.out]; rfl, rfl⟩
 case round =>
  obtain ⟨k, hk, rfl, rfl, rfl⟩ := hrel
  have hlt := HML.out k
  by_cases h8 : k < l.length
  ·have hk8 : (k : Int) < (l.length : Int) := by omega
   have hk0 : (0 : Int) ≤ (k : Int) := by omega
   obtain ⟨b, hb⟩ : ∃ b, l[k]? = some b := ⟨_, List.getElem?_eq_getElem h8⟩
   have hs := Pm N l k b hb
   have hzz : k < (ByteArray.mk l.toArray).size := by rw [size_str]; exact h8
   have hix : (ByteArray.mk l.toArray)[k] = b := by
    have q := index_str l k b hb
    rw [getElem?_pos (ByteArray.mk l.toArray) k hzz] at q
    exact Option.some.inj q
   generalize ED N (l.take k) = m at *
   have hx := UZ m b hlt
   have hxl := E3 m b hlt
   have HS := Lib.hid hs
   have HC := Lib.hid (fun W => U7 (m ^^^ b.toNat) hxl W)
   clear hs hxl hlt hb
   generalize m ^^^ b.toNat = y at *
   generalize MK y 8 = z at *
   go_wp2_with fail
   refine (HC.out _).mono ?_; rintro e w1 ⟨rfl, rfl⟩
   go_wp2_with fail
   go_roundg (l.length - (k + 1))
   case measure => omega
   case rel => exact ⟨k + 1, by omega, by go_num, by rw [HS.out], rfl⟩
  ·obtain rfl : k = l.length := by omega
   have hx := Ss _ hlt
   have ht : l.take l.length = l := List.take_length
   rw [ht] at hx hlt
   have HT := Lib.hid ht
   clear hlt ht
   go_wp2_with fail
   go_ret
   exact ⟨by rw [HT.out]; first | rfl | (simp only [Array.getD]; rw [← hx]; rfl), rfl⟩
end Go.Proofs.YteiaiilfekojfaaGreat.Frame
end
section
namespace Go.Proofs.YteiaiilfekojfaaGreat.Frame
open Wire

def leB : Nat → Nat → List UInt8
 | 0, _ => []
 | k + 1, x => UInt8.ofNat x :: leB k (x / 256)
def leV : List UInt8 → Nat
 | [] => 0
 | b :: l => b.toNat + 256 * leV l
theorem leB_length (k x : Nat) : (leB k x).length = k := by
 induction k generalizing x with
 | zero => rfl
 | succ k ih => rw [leB, List.length_cons, ih]
theorem Ye (l : List UInt8) : leV l < 256 ^ l.length := by
 induction l with
 | nil => decide
 | cons b l ih =>
  have hb := b.toNat_lt
  rw [leV, List.length_cons, Nat.pow_succ]
  have h2 : 256 * leV l + 256 ≤ 256 ^ l.length * 256 := by omega
  omega
theorem VR (l : List UInt8) (b : UInt8) : leV (l ++ [b]) = leV l + b.toNat * 256 ^ l.length := by
 induction l with
 | nil => simp [leV]
 | cons c l ih =>
  rw [List.cons_append, leV, leV, ih, List.length_cons, Nat.pow_succ, Nat.mul_add, ← Nat.add_assoc]
  congr 1
  rw [Nat.mul_comm 256, Nat.mul_assoc]
theorem VQ (l : List UInt8) (k : Nat) (b : UInt8) (h : l[k]? = some b) : leV (l.take (k + 1)) = leV (l.take k) + b.toNat * 256 ^ k := by
 have hk : k < l.length := (List.getElem?_eq_some_iff.1 h).1
 rw [List.take_add_one, h]
 show leV (l.take k ++ [b]) = _
 rw [VR, List.length_take, Nat.min_eq_left (by omega)]
theorem SK (k x : Nat) (h : x < 256 ^ k) : leV (leB k x) = x := by
 induction k generalizing x with
 | zero => simp at h; subst h; rfl
 | succ k ih =>
  rw [Nat.pow_succ] at h
  rw [leB, leV, ih _ (Nat.div_lt_of_lt_mul (by omega)), UInt8.toNat_ofNat']
  omega
theorem Xj (l : List UInt8) : leB l.length (leV l) = l := by
 induction l with
 | nil => rfl
 | cons b l ih =>
  have hb := b.toNat_lt
  rw [List.length_cons, leB, leV]
  have e1 : (b.toNat + 256 * leV l) / 256 = leV l := by omega
  have e2 : UInt8.ofNat (b.toNat + 256 * leV l) = b := by
   apply UInt8.toNat_inj.1
   rw [UInt8.toNat_ofNat']
   omega
  rw [e1, e2, ih]

def crcSum (l : List UInt8) : Nat := cpl (ED (cpl 0) l)
theorem LX (l : List UInt8) : crcSum l < 18446744073709551616 := RP _
def frameB (l : List UInt8) : List UInt8 := BI l.length ++ (leB 8 (crcSum l) ++ l)
def takeF (s : List UInt8) : List UInt8 × Nat × Nat :=
 let p := Rd.num ⟨0, s⟩
 if p.2.err ≠ 0 then ([], 0, p.2.err)
 else if p.1 = 0 ∨ 65536 < p.1 then ([], 0, 4)
 else if p.2.rest.length < 8 + p.1 then ([], 0, 3)
 else if leV (p.2.rest.take 8) ≠ crcSum ((p.2.rest.drop 8).take p.1) then ([], 0, 5)
 else ((p.2.rest.drop 8).take p.1, s.length - p.2.rest.length + (8 + p.1), 0)

theorem Ou (l : List UInt8) (_h : l.length ≤ 65536) : (frameB l).length = (BI l.length).length + (8 + l.length) := by
 unfold frameB
 rw [List.length_append, List.length_append, leB_length]
theorem frame_len9 (l : List UInt8) (h : l.length ≤ 65536) : 9 + l.length ≤ (frameB l).length ∧ (frameB l).length ≤ 17 + l.length := by
 have := Ou l h
 have := B0 l.length (by omega)
 omega
theorem take_put (l rest : List UInt8) (h0 : 0 < l.length) (h : l.length ≤ 65536) : takeF (frameB l ++ rest) = (l, (frameB l).length, 0) := by
 have e : frameB l ++ rest = BI l.length ++ (leB 8 (crcSum l) ++ (l ++ rest)) := by unfold frameB; simp
 have hn := DJ l.length (by omega) (leB 8 (crcSum l) ++ (l ++ rest))
 have h8 := leB_length 8 (crcSum l)
 have hlt := LX l
 unfold takeF
 rw [e, hn]
 have t1 : (leB 8 (crcSum l) ++ (l ++ rest)).take 8 = leB 8 (crcSum l) := List.take_left' h8
 have t2 : (leB 8 (crcSum l) ++ (l ++ rest)).drop 8 = l ++ rest := List.drop_left' h8
 have t3 : (l ++ rest).take l.length = l := List.take_left' rfl
 have t4 := SK 8 (crcSum l) (by simpa using hlt)
 have t5 := Ou l h
 simp only [t1, t2, t3, t4, List.length_append, h8]
 rw [if_neg (by simp), if_neg (by omega), if_neg (by omega), if_neg (by simp)]
 congr 2
 rw [t5]
 omega
end Go.Proofs.YteiaiilfekojfaaGreat.Frame
end
section
namespace Go.Proofs.YteiaiilfekojfaaGreat.Frame
open Go.RowKit Wire

theorem S3 (l : List UInt8) (hl : l.length < 4611686018427387904) (w : World) :
  Calls Tryz.prog 89 #[.string ⟨l.toArray⟩] w fun e w' => e = .returned (.int .u64 (crcSum l : Int)) ∧ w' = w := by
 have HC := Lib.hid (fun W => PV 0 (by omega) l hl W)
 have hc : crcSum l = cpl (ED (cpl 0) l) := rfl
 rw [hc]
 generalize cpl (ED (cpl 0) l) = z at *
 go_enter Tryz.func89, Tryz.ntmps89
 go_wp2_with fail
 refine (HC.out _).mono ?_; rintro e w1 ⟨rfl, rfl⟩
 go_wp2_with fail
 go_ret
 exact ⟨rfl, rfl⟩
def YH (w w' : World) (e : Ending) (l : List UInt8) (err : Nat) : Prop :=
 ∃ v, e = .returned (.tuple #[v, .int .i64 (err : Int)]) ∧ w'.ownsRow w.heap.size 5 1 v l.length (bv l) ∧ Below w.heap.size w w'
theorem fput_bad (A : Option Addr) (c : Nat) (l s : List UInt8) (hl : l.length ≤ 1000000000) (hs : s.length = 0 ∨ 65536 < s.length) (w : World) (hr : Reads w w.heap.size 1 A l.length (bv l)) :
  Calls Tryz.prog 44 #[.slice A l.length c, .string ⟨s.toArray⟩] w fun e w' => YH w w' e l 6 := by
 obtain ⟨i0, hi, hz0, hz1, hz2⟩ := info_parts Hq
 have hsz := size_str s
 have hbo := NJ l
 by_cases h0 : s.length = 0
 ·have hb : ((s.length : Int) == 0) = true := by rw [h0]; rfl
  clear h0 hs
  go_enter Tryz.func44, Tryz.ntmps44
  go_wp2_with (at_builtin; go_must (refine Ej _ rfl (.const (.slice none 0 0)) (.tmp 17) _ rfl w.heap.size 5 i0 (.int .u8 0) 1 1 Tryz.underlying103 hi hz0 hz1 hz2 rfl (by omega) (.slice none 0 0) 0 [] rfl (World.ownsRow_nil _ _ _ _) w.heap.size A l.length c (bv l) rfl hr hbo (by simp only [maxLen]; omega) (by omega) (Nat.le_refl _) ?_); intro v1 w1 hown1 hg1 hat1)
  go_ret2
  rw [Nat.zero_add, List.nil_append] at hown1
  exact ⟨_, rfl, hown1, (Below.refl _ w).grown hg1 (Nat.le_refl _) (fun k hk => by cases hk)⟩
 ·have hb : ((s.length : Int) == 0) = false := beq_eq_false_iff_ne.2 (by omega)
  have h1 : (65536 : Int) < (s.length : Int) := by omega
  clear h0 hs
  go_enter Tryz.func44, Tryz.ntmps44
  go_wp2_with (at_builtin; go_must (refine Ej _ rfl (.const (.slice none 0 0)) (.tmp 17) _ rfl w.heap.size 5 i0 (.int .u8 0) 1 1 Tryz.underlying103 hi hz0 hz1 hz2 rfl (by omega) (.slice none 0 0) 0 [] rfl (World.ownsRow_nil _ _ _ _) w.heap.size A l.length c (bv l) rfl hr hbo (by simp only [maxLen]; omega) (by omega) (Nat.le_refl _) ?_); intro v1 w1 hown1 hg1 hat1)
  go_ret2
  rw [Nat.zero_add, List.nil_append] at hown1
  exact ⟨_, rfl, hown1, (Below.refl _ w).grown hg1 (Nat.le_refl _) (fun k hk => by cases hk)⟩

def YG (w : World) (l : List UInt8) (x : Nat) (gk : Nat) (v i : Value) (wr : World) : Prop :=
 ∃ (k : Nat) (pre : List UInt8), k + gk = 8 ∧ i = .int .i64 (k : Int) ∧ Hid (pre ++ leB gk (x / 256 ^ k) = l ++ leB 8 x) ∧ pre.length = l.length + k ∧ wr.ownsRow w.heap.size 5 1 v pre.length (bv pre) ∧ Below w.heap.size w wr
set_option maxRecDepth 100000 in
set_option maxHeartbeats 4000000 in
theorem fput_ok (A : Option Addr) (c : Nat) (l s : List UInt8) (hl : l.length ≤ 1000000000) (h1 : 0 < s.length) (h2 : s.length ≤ 65536) (w : World) (hr : Reads w w.heap.size 1 A l.length (bv l)) :
  Calls Tryz.prog 44 #[.slice A l.length c, .string ⟨s.toArray⟩] w fun e w' => YH w w' e (l ++ frameB s) 0 := by
 obtain ⟨i0, hi, hz0, hz1, hz2⟩ := info_parts Hq
 have hsz := size_str s
 have hb : ((s.length : Int) == 0) = false := beq_eq_false_iff_ne.2 (by omega)
 have h3 : ¬ (65536 : Int) < (s.length : Int) := by omega
 have HN := Lib.hid (Ip A c l s.length (by omega) (by omega) w hr)
 have hn9 := (B0 s.length (by omega)).1
 have HS := Lib.hid (fun W => S3 s (by omega) W)
 have hx := LX s
 have HF : Hid (l ++ frameB s = (l ++ BI s.length) ++ leB 8 (crcSum s) ++ s) := by show _ = _; unfold frameB; simp
 generalize crcSum s = x at *
 have hml : (l ++ BI s.length).length ≤ l.length + 9 := by rw [List.length_append]; omega
 generalize l ++ BI s.length = m at *
 clear hr hn9
 go_enter Tryz.func44, Tryz.ntmps44
 go_wp2_with fail
 refine HN.out.mono ?_; rintro e w1 ⟨v, rfl, hown, hB⟩
 go_wp2_with fail
 refine (HS.out _).mono ?_; rintro e w2 ⟨rfl, rfl⟩
 go_wp2_with fail
 go_loopg [6, 26] 8 (fun gk v i wr => YG w m x gk v i wr)
 case atStart => exact ⟨0, m, by omega, rfl, by show _ = _; simp, by omega, hown, hB⟩
 case round =>
  clear hown hB
  obtain ⟨k, pre, hk, rfl, hpre, hpl, hown, hB⟩ := hrel
  by_cases h8 : k < 8
  ·obtain ⟨j, rfl⟩ : ∃ j, gk = j + 1 := ⟨gk - 1, by omega⟩
   have hk8 : (k : Int) < 8 := by omega
   go_wp2_with (at_builtin; go_must (refine wpList_append_own _ rfl (.tmp 29) (.tmp 35) 103 rfl w.heap.size 5 i0 (.int .u8 0) 1 1 Tryz.underlying103 hi hz0 hz1 hz2 rfl (by decide) _ _ _ rfl (hown.alloc _) ⟨wr.heap.size, 0, none⟩ 1 1 [.int .u8 ((x : Int) / 2 ^ (8 * k) % 256)] rfl rfl (cell_one_new _ _ _) (by simp [Value.oneCell']) (by unfold maxLen; omega) (by omega) (by have := hB.size; simp; omega) ?_); intro v3 w3 hown3 hgrow3 _)
   have hB3 := GO hown hB hB.size hgrow3
   go_roundg j
   case measure => omega
   case rel =>
    refine ⟨k + 1, pre ++ [UInt8.ofNat (x / 256 ^ k)], by omega, by go_num, ?_, by rw [List.length_append, List.length_singleton]; omega, ?_, hB3⟩
    ·show _ = _
     rw [← hpre.out, leB, Nat.pow_succ, ← Nat.div_div_eq_div_mul]; simp
    ·rw [List.length_append, F4]
     show w3.ownsRow _ _ _ _ _ (bv pre ++ [Value.int .u8 ((UInt8.ofNat (x / 256 ^ k)).toNat : Int)])
     rw [← NH]
     exact hown3
  ·obtain rfl : k = 8 := by omega
   obtain rfl : gk = 0 := by omega
   have hp2 : Hid (pre = m ++ leB 8 x) := by
    have := hpre.out
    rw [leB, List.append_nil] at this
    exact this
   go_wp2_with (at_builtin; go_must (refine Lib.wpList_append_own_string _ rfl (.tmp 38) (.tmp 39) 103 9 rfl w.heap.size 5 i0 Tryz.underlying103 Tryz.underlying9 hi hz0 hz1 hz2 _ pre.length (bv pre) rfl hown ⟨s.toArray⟩ rfl (by rw [hsz]; unfold maxLen; omega) (by rw [hsz]; omega) hB.size ?_); intro v2 w2 hown2 hgrow2 _)
   go_ret2
   refine ⟨v2, rfl, ?_, hB.grown hgrow2 hB.size (fun k hk => (hown.lt k hk).1)⟩
   rw [Wy, hsz] at hown2
   rw [HF.out, ← hp2.out, List.length_append, F4]
   exact hown2

end Go.Proofs.YteiaiilfekojfaaGreat.Frame
end
section
namespace Go.Proofs.YteiaiilfekojfaaGreat
open Go.RowKit Wire

structure Kr (g : Nat) (L : List (Nat × TypeId × Array Value)) (w W : World) : Prop where
 gw : w.grownBy W (some g)
 at_ : ∀ p ∈ L, Blk W p.1 p.2.1 p.2.2
section
variable {a b c d e f : Nat × TypeId × Array Value} {L L' : List (Nat × TypeId × Array Value)} {w W W' : World} {g : Nat}
theorem Kr.refl (g : Nat) (w : World) : Kr g [] w w := ⟨World.grownBy.refl w _, by simp⟩
theorem Kr.below (k : Kr g L w W) (hb : Below W.heap.size W W') : Kr g L w W' where
 gw := GH k.gw (Gg hb (some g))
 at_ := fun p hp => (k.at_ p hp).below hb (k.at_ p hp).lt
theorem Kr.alloc (k : Kr g L w W) (o : Obj) : Kr g L w (W.alloc o) := k.below (LZ W o)
theorem Kr.drew (k : Kr g L w W) : Kr g L w W.drew := ⟨Uj k.gw, fun p hp => (k.at_ p hp).drew⟩
theorem Kr.new (k : Kr g L w W) (t : TypeId) (cs : Array Value) : Kr g ((W.heap.size, t, cs) :: L) w (W.alloc (.cells cs t)) where
 gw := (k.alloc _).gw
 at_ := by
  intro p hp
  rcases List.mem_cons.1 hp with rfl | hp
  ·exact Blk.new W _ cs
  ·exact (k.at_ p hp).alloc _
theorem Kr.sub (k : Kr g L w W) (h : ∀ p ∈ L', p ∈ L) : Kr g L' w W := ⟨k.gw, fun p hp => k.at_ p (h p hp)⟩
theorem Kr.tail (k : Kr g (a :: L) w W) : Kr g L w W := ⟨k.gw, fun p hp => k.at_ p (List.mem_cons_of_mem _ hp)⟩
theorem Kr.cons (k : Kr g L w W) (h : Blk W a.1 a.2.1 a.2.2) : Kr g (a :: L) w W := ⟨k.gw, fun p hp => by
 rcases List.mem_cons.1 hp with rfl | hp
 ·exact h
 ·exact k.at_ p hp⟩
theorem Kr.i1 (k : Kr g (a :: L) w W) : Blk W a.1 a.2.1 a.2.2 := k.at_ a (by simp)
theorem Kr.i3 (k : Kr g (c :: b :: a :: L) w W) : Blk W a.1 a.2.1 a.2.2 := k.at_ a (by simp)
theorem Kr.set_ {h i : Nat} {t : TypeId} {cs : Array Value} (k : Kr g ((h, t, cs) :: L) w W) (hne : ∀ p ∈ L, p.1 ≠ h) (hw : h = g ∨ w.heap.size ≤ h) (u : Value) : Kr g ((h, t, cs.setIfInBounds i u) :: L) w (W.setCell ⟨h, i, none⟩ u) where
 gw := FR k.gw (p := ⟨h, i, none⟩) hw u
 at_ := by
  intro p hp
  rcases List.mem_cons.1 hp with rfl | hp
  ·exact k.i1.set_ i u
  ·exact (k.at_ p (List.mem_cons_of_mem _ hp)).far (p := ⟨h, i, none⟩) (hne p hp) u
theorem Kr.rd {t : TypeId} {cs : Array Value} {r : Rd} (k : Kr g ((g, t, cs) :: L) w W) (h : RdGo W g r W') (hne : ∀ p ∈ L, p.1 ≠ g) : Kr g ((g, 157, rdC r) :: L) w W' where
 gw := GH k.gw h.2
 at_ := by
  intro p hp
  rcases List.mem_cons.1 hp with rfl | hp
  ·exact h.1
  ·exact (k.at_ p (List.mem_cons_of_mem _ hp)).grown h.2 (fun e => hne p hp (Option.some.inj e))
theorem Kg.rd {t : TypeId} {cs : Array Value} {r : Rd} (k : Kg ((g, t, cs) :: L) w W) (h : RdGo W g r W') (hne : ∀ p ∈ L, p.1 ≠ g) (hg : w.heap.size ≤ g) : Kg ((g, 157, rdC r) :: L) w W' :=
 ((k.tail).grown h.2 (fun o ho => by cases ho; exact ⟨hg, hne⟩)).cons h.1
theorem Kg.sub (k : Kg L w W) (h : ∀ p ∈ L', p ∈ L) : Kg L' w W := ⟨k.bw, fun p hp => k.at_ p (h p hp)⟩
end
end Go.Proofs.YteiaiilfekojfaaGreat
end
section
namespace Go.Proofs.YteiaiilfekojfaaGreat.Frame
open Go.RowKit Wire

theorem Q6 (s : List UInt8) :
  (∃ r', Rd.below ⟨0, s⟩ 65537 = (0, r') ∧ r'.bad.err ≠ 0 ∧ takeF s = ([], 0, r'.bad.err)) ∨
  (∃ x rest, Rd.below ⟨0, s⟩ 65537 = (x, ⟨0, rest⟩) ∧ 0 < x ∧ x ≤ 65536 ∧ s = BI x ++ rest ∧
   takeF s = if rest.length < 8 + x then ([], 0, 3) else if leV (rest.take 8) ≠ crcSum ((rest.drop 8).take x) then ([], 0, 5) else ((rest.drop 8).take x, s.length - rest.length + (8 + x), 0)) := by
 obtain ⟨x, r, hr⟩ : ∃ x r, Rd.num ⟨0, s⟩ = (x, r) := ⟨_, _, rfl⟩
 obtain ⟨e, rest⟩ := r
 have hb : Rd.below ⟨0, s⟩ 65537 = if e ≠ 0 then (0, ⟨e, rest⟩) else if 65537 ≤ x then (0, Rd.fail ⟨e, rest⟩ 4) else (x, ⟨e, rest⟩) := by
  unfold Rd.below; rw [hr]
 have ht : takeF s = if e ≠ 0 then ([], 0, e) else if x = 0 ∨ 65536 < x then ([], 0, 4) else if rest.length < 8 + x then ([], 0, 3) else if leV (rest.take 8) ≠ crcSum ((rest.drop 8).take x) then ([], 0, 5) else ((rest.drop 8).take x, s.length - rest.length + (8 + x), 0) := by
  unfold takeF; rw [hr]
 by_cases he : e ≠ 0
 ·rw [if_pos he] at hb ht
  have hbad : (Rd.bad ⟨e, rest⟩) = ⟨e, rest⟩ := by unfold Rd.bad Rd.fail; rw [if_neg he]
  exact .inl ⟨_, hb, by rw [hbad]; exact he, by rw [hbad]; exact ht⟩
 ·rw [if_neg he] at hb ht
  obtain rfl : e = 0 := by omega
  by_cases hx : x = 0 ∨ 65536 < x
  ·rw [if_pos hx] at ht
   rcases hx with hx | hx
   ·subst hx
    rw [if_neg (by omega)] at hb
    exact .inl ⟨_, hb, by unfold Rd.bad; rw [SX]; simp, by unfold Rd.bad; rw [SX]; exact ht⟩
   ·rw [if_pos (by omega), SX] at hb
    have hbad : (Rd.bad ⟨4, rest⟩) = ⟨4, rest⟩ := rfl
    exact .inl ⟨_, hb, by rw [hbad]; simp, by rw [hbad]; exact ht⟩
  ·rw [if_neg hx] at ht
   rw [if_neg (by omega)] at hb
   exact .inr ⟨x, rest, hb, by omega, by omega, Ld s x rest hr, ht⟩

theorem WZ (y k b : Nat) (hy : y < 256 ^ k) (hb : b < 256) (hk : k < 8) : bits .or .u64 (y : Int) (IntKind.u64.wrap ((b : Int) * 2 ^ (8 * k))) = ((y + b * 256 ^ k : Nat) : Int) := by
 have hp : (256 : Nat) ^ k = 2 ^ (8 * k) := by rw [show (256 : Nat) = 2 ^ 8 from rfl, ← Nat.pow_mul]
 have h8 : 2 ^ (8 * k) * 256 ≤ 2 ^ 64 := by
  rw [show 2 ^ (8 * k) * 256 = 2 ^ (8 * k + 8) from by rw [Nat.pow_add]]
  exact Nat.pow_le_pow_right (by omega) (by omega)
 have e0 : (2 : Int) ^ (8 * k) = ((2 ^ (8 * k) : Nat) : Int) := by simp
 rw [hp] at hy ⊢
 rw [e0]
 have hs := Nat.shiftLeft_add_eq_or_of_lt (i := 8 * k) (b := y) hy b
 rw [Nat.shiftLeft_eq] at hs
 generalize 2 ^ (8 * k) = q at *
 have hbq : b * q < 18446744073709551616 := by
  have : b * q ≤ 255 * q := Nat.mul_le_mul_right _ (by omega)
  omega
 have e1 : ((b : Int) * (q : Int)) = ((b * q : Nat) : Int) := by simp
 rw [e1, IntKind.wrap_u64, show ((b * q : Nat) : Int) % 18446744073709551616 = ((b * q : Nat) : Int) by omega, u64_or_nat y (b * q) (by omega) hbq, Nat.or_comm, ← hs, Nat.add_comm]
theorem Xf (l : List UInt8) (a x : Nat) : (ByteArray.mk l.toArray).extract a (a + x) = ByteArray.mk ((l.drop a).take x).toArray := by
 rw [ByteArray.extract_mk]
 simp
def YR (w : World) (p : List UInt8 × Nat × Nat) (e : Ending) (w' : World) : Prop :=
 e = .returned (.tuple #[.string ⟨p.1.toArray⟩, .int .i64 (p.2.1 : Int), .int .i64 (p.2.2 : Int)]) ∧ Below w.heap.size w w'
def Y1 (w1 : World) (g : Nat) (rest : List UInt8) (gk : Nat) (v i : Value) (wr : World) : Prop :=
 ∃ (k y : Nat), k + gk = 8 ∧ i = .int .i64 (k : Int) ∧ v = .int .u64 (y : Int) ∧ Hid (y = leV (rest.take k)) ∧ RdGo w1 g ⟨0, rest.drop k⟩ wr
theorem W8 {g : Nat} {r : Rd} {n : Nat} {p : Nat × Rd} (e : r.below n = p) (hl : r.rest.length < 4611686018427387904) (w : World) (h : RdAt w g r) :
  Calls Tryz.prog 92 #[.pointer (some ⟨g, 0, none⟩), .int .u64 (n : Int)] w fun e w' => Md w g p e w' := e ▸ Me g r n hl w h
set_option linter.unusedSimpArgs false in
set_option maxRecDepth 100000 in
set_option maxHeartbeats 4000000 in
theorem ftake_any (s : List UInt8) (hs : s.length ≤ 1000000000) (w : World) :
  Calls Tryz.prog 56 #[.string ⟨s.toArray⟩] w fun e w' => YR w (takeF s) e w' := by
 have hsz := size_str s
 have h1 := WB w ⟨0, s⟩
 have b1 := LZ w (.cells (rdC ⟨0, s⟩) 157)
 rcases Q6 s with ⟨r', hb, he, ht⟩ | ⟨x, rest, hb, hx0, hx1, hns, ht⟩
 ·rw [ht]
  have HB := Lib.hid (W8 hb (by simp only; omega) _ h1)
  clear hb ht h1
  have hne : (((r'.bad).err : Int) != 0) = true := by rw [bne_iff_ne]; omega
  go_enter Tryz.func56, Tryz.ntmps56
  go_wp2_with fail
  refine (KD s _).mono ?_; rintro e w' ⟨rfl, rfl⟩
  go_wp2_with fail
  refine HB.out.mono ?_; rintro e w2 ⟨rfl, hgo2⟩
  go_wp2_with fail
  refine (Py _ r' w2 hgo2.1).mono ?_; rintro e w3 ⟨⟨v, rfl⟩, hgo3⟩
  go_wp2_with fail
  refine (Hu _ _ w3 hgo3.1).mono ?_; rintro e w4 ⟨rfl, rfl⟩
  go_wp2_with fail
  go_ret3
  exact ⟨rfl, b1.trans (Jc (hgo2.trans hgo3).2 (Nat.le_refl _) (by simp))⟩
 ·rw [ht]
  have HB := Lib.hid (W8 hb (by simp only; omega) _ h1)
  have HNS := Lib.hid hns
  have hsl : s.length = (BI x).length + rest.length := by rw [hns, List.length_append]
  clear hb ht h1 hns
  have hx2 : ((x : Int) == 0) = false := beq_eq_false_iff_ne.2 (by omega)
  by_cases hl : rest.length < 8 + x
  ·rw [if_pos hl]
   have hl2 : (rest.length : Int) < 8 + (x : Int) := by omega
   have hleft : Rd.left ⟨0, rest⟩ = rest.length := rfl
   have HE : Hid (∀ W, RdAt W w.heap.size ⟨0, rest⟩ → Calls Tryz.prog 94 #[.pointer (some ⟨w.heap.size, 0, none⟩)] W fun e w' => e = .returned (.int .i64 0) ∧ W = w') := fun W h => Hu _ ⟨0, rest⟩ W h
   go_enter Tryz.func56, Tryz.ntmps56
   go_wp2_with fail
   refine (KD s _).mono ?_; rintro e w' ⟨rfl, rfl⟩
   go_wp2_with fail
   refine HB.out.mono ?_; rintro e w2 ⟨rfl, hgo2⟩
   go_wp2_with fail
   refine (HE.out w2 hgo2.1).mono ?_; rintro e w4 ⟨rfl, rfl⟩
   go_wp2_with fail
   refine (N2 _ _ w2 hgo2.1).mono ?_; rintro e w4 ⟨rfl, rfl⟩
   go_wp2_with fail
   go_ret3
   exact ⟨rfl, b1.trans (Jc hgo2.2 (Nat.le_refl _) (by simp))⟩
  ·rw [if_neg hl]
   generalize hp : (if leV (rest.take 8) ≠ crcSum ((rest.drop 8).take x) then ([], 0, 5) else ((rest.drop 8).take x, s.length - rest.length + (8 + x), 0)) = p
   have HP := Lib.hid hp
   clear hp
   have hl2 : ¬ (rest.length : Int) < 8 + (x : Int) := by omega
   have hleft : Rd.left ⟨0, rest⟩ = rest.length := rfl
   have HE : Hid (∀ W, RdAt W w.heap.size ⟨0, rest⟩ → Calls Tryz.prog 94 #[.pointer (some ⟨w.heap.size, 0, none⟩)] W fun e w' => e = .returned (.int .i64 0) ∧ W = w') := fun W h => Hu _ ⟨0, rest⟩ W h
   go_enter Tryz.func56, Tryz.ntmps56
   go_wp2_with fail
   refine (KD s _).mono ?_; rintro e w' ⟨rfl, rfl⟩
   go_wp2_with fail
   refine HB.out.mono ?_; rintro e w2 ⟨rfl, hgo2⟩
   go_wp2_with fail
   refine (HE.out w2 hgo2.1).mono ?_; rintro e w4 ⟨rfl, rfl⟩
   go_wp2_with fail
   refine (N2 _ _ w2 hgo2.1).mono ?_; rintro e w4 ⟨rfl, rfl⟩
   go_wp2_with fail
   go_loopg [8, 31] 8 (fun gk v i wr => Y1 w2 w.heap.size rest gk v i wr)
   case atStart => exact ⟨0, 0, by omega, rfl, rfl, by show _ = _; simp [leV], by rw [List.drop_zero]; exact hgo2.1.go⟩
   case round =>
    obtain ⟨k, y, hk, rfl, rfl, hy, hgo⟩ := hrel
    by_cases h8 : k < 8
    ·obtain ⟨j, rfl⟩ : ∃ j, gk = j + 1 := ⟨gk - 1, by omega⟩
     have hk8 : (k : Int) < 8 := by omega
     obtain ⟨b, hbk⟩ : ∃ b, rest[k]? = some b := ⟨_, List.getElem?_eq_getElem (by omega)⟩
     have hdk : rest.drop k = b :: rest.drop (k + 1) := by
      have hkl : k < rest.length := by omega
      rw [List.drop_eq_getElem_cons hkl]
      rw [List.getElem?_eq_getElem hkl] at hbk
      rw [Option.some.inj hbk]
     have HY : Hid (∀ W, RdAt W w.heap.size ⟨0, rest.drop k⟩ → Calls Tryz.prog 58 #[.pointer (some ⟨w.heap.size, 0, none⟩)] W fun e w' => MX W w.heap.size (b.toNat, ⟨0, rest.drop (k + 1)⟩) e w') := fun W h => by
      have hh := JE w.heap.size ⟨0, rest.drop k⟩ (by simp only [List.length_drop]; omega) W h
      rw [hdk, H6] at hh
      exact hh
     have hbl := b.toNat_lt
     have hlv := VQ rest k b hbk
     have hlt := Ye (rest.take k)
     rw [show (rest.take k).length = k from by rw [List.length_take]; omega] at hlt
     clear hdk hbk hsl
     go_wp2_with fail
     refine (HY.out wr hgo.1).mono ?_; rintro e w5 ⟨rfl, hgo5⟩
     go_wp2_with fail
     go_roundg j
     case measure => omega
     case rel =>
      refine ⟨k + 1, leV (rest.take (k + 1)), by omega, by go_num, ?_, rfl, hgo.trans hgo5⟩
      rw [hlv, hy.out, WZ _ k b.toNat hlt (by omega) h8]
    ·obtain rfl : k = 8 := by omega
     obtain ⟨m, hm⟩ : ∃ m, rest.length = m + 8 := ⟨rest.length - 8, by omega⟩
     have hl8 : Rd.left ⟨0, rest.drop 8⟩ = m := by show (rest.drop 8).length = m; rw [List.length_drop]; omega
     obtain ⟨a, ha⟩ : ∃ a, s.length = a + m := ⟨s.length - m, by omega⟩
     have h9 : a = (BI x).length + 8 := by omega
     have hd : s.drop a = rest.drop 8 := by
      rw [h9, HNS.out, ← List.drop_drop, List.drop_left]
     have ha2 : (s.length : Int) - (m : Int) = (a : Int) := by omega
     have hms := Xf s a x
     rw [hd] at hms
     have hSL : ∀ W, (Instr.slice 9 (.string ⟨s.toArray⟩) (some (.int .i64 (a : Int))) (some (.int .i64 ((a : Int) + (x : Int)))) none).run Tryz.prog W = .ok (.string ⟨((rest.drop 8).take x).toArray⟩) W := fun W => by
      have h := run_slice_string (P := Tryz.prog) W 9 ⟨s.toArray⟩ .i64 .i64 (a : Int) ((a : Int) + (x : Int)) Tryz.underlying9 (by omega) (by omega) (by rw [hsz]; omega)
      rw [show ((a : Int) + (x : Int)).toNat = a + x by omega, Int.toNat_natCast, hms] at h
      exact h
     clear hms
     clear hsl hd
     have hcl : ((rest.drop 8).take x).length < 4611686018427387904 := by rw [List.length_take]; omega
     have HS := Lib.hid (fun W => S3 ((rest.drop 8).take x) hcl W)
     have HL : Hid (∀ W, RdAt W w.heap.size ⟨0, rest.drop 8⟩ → Calls Tryz.prog 95 #[.pointer (some ⟨w.heap.size, 0, none⟩)] W fun e w' => e = .returned (.int .i64 (m : Int)) ∧ W = w') := fun W h => by
      have := N2 _ _ W h
      rw [hl8] at this
      exact this
     have hxm : (x : Int) ≤ (m : Int) := by omega
     have HM : Hid (s.length - rest.length + (8 + x) = a + x) := by show _ = _; omega
     clear h9
     clear hm hl8
     go_wp2_with fail
     refine (HL.out wr hgo.1).mono ?_; rintro e w4 ⟨rfl, rfl⟩
     generalize crcSum ((rest.drop 8).take x) = z at *
     by_cases hq : y = z
     ·have hq2 : ((z : Int) != (y : Int)) = false := by rw [hq]; simp
      have HQ := Lib.hid hq
      clear hq
      go_wp2_with fail
      refine (HS.out wr).mono ?_; rintro e w4 ⟨rfl, rfl⟩
      go_wp2_with fail
      go_ret3
      rw [← HP.out, if_neg (by rw [← hy.out]; exact fun h => h HQ.out)]
      exact ⟨by simp only [HM.out]; rfl, b1.trans (Jc (hgo2.trans hgo).2 (Nat.le_refl _) (by simp))⟩
     ·have hq2 : ((z : Int) != (y : Int)) = true := by rw [bne_iff_ne]; omega
      have HQ := Lib.hid hq
      clear hq
      go_wp2_with fail
      refine (HS.out wr).mono ?_; rintro e w4 ⟨rfl, rfl⟩
      go_wp2_with fail
      go_ret3
      rw [← HP.out, if_pos (by rw [← hy.out]; exact HQ.out)]
      exact ⟨rfl, b1.trans (Jc (hgo2.trans hgo).2 (Nat.le_refl _) (by simp))⟩

end Go.Proofs.YteiaiilfekojfaaGreat.Frame
end
section
namespace Go.Proofs.YteiaiilfekojfaaGreat.Msg
open Go.RowKit Wire

structure Vo where
 slot : Nat
 n : Nat
 r : Nat
 value : List UInt8
 deriving DecidableEq
structure Im where
 slot : Nat
 value : List UInt8
 deriving DecidableEq
structure Ms where
 kind : Nat
 bn : Nat
 br : Nat
 base : Nat
 slot : Nat
 node : Nat
 value : List UInt8
 votes : List Vo
 items : List Im
 cmd : Cmd.Cm
 code : Nat
 text : List UInt8
 deriving DecidableEq
def voL (v : Vo) : List Value := [.int .u64 (v.slot : Int), .int .u64 (v.n : Int), .int .u8 (v.r : Int), .string ⟨v.value.toArray⟩]
def imL (x : Im) : List Value := [.int .u64 (x.slot : Int), .string ⟨x.value.toArray⟩]
def msL (m : Ms) (V I : Value) : List Value := [.int .u8 (m.kind : Int), .int .u64 (m.bn : Int), .int .u8 (m.br : Int), .int .u64 (m.base : Int), .int .u64 (m.slot : Int), .int .u8 (m.node : Int), .string ⟨m.value.toArray⟩, V, I,
 .int .u8 (m.cmd.client : Int), .int .u32 (m.cmd.seq : Int), .int .u8 (m.cmd.kind : Int), .string ⟨m.cmd.key.toArray⟩, .string ⟨m.cmd.old.toArray⟩, .string ⟨m.cmd.new.toArray⟩, .int .u8 (m.cmd.set : Int), .int .u8 (m.code : Int), .string ⟨m.text.toArray⟩]
theorem JJ (v : Vo) : (voL v).length = 4 := rfl
theorem JX (x : Im) : (imL x).length = 2 := rfl
theorem WL (v : Vo) : ∀ u ∈ voL v, u.oneCell' = true := by
 intro u hu
 simp only [voL, List.mem_cons, List.not_mem_nil, or_false] at hu
 rcases hu with rfl | rfl | rfl | rfl <;> rfl
theorem Xk (v : Im) : ∀ u ∈ imL v, u.oneCell' = true := by
 intro u hu
 simp only [imL, List.mem_cons, List.not_mem_nil, or_false] at hu
 rcases hu with rfl | rfl <;> rfl
structure Vo.Fits (v : Vo) : Prop where
 h1 : v.slot < 18446744073709551616
 h2 : v.n < 18446744073709551616
 h3 : v.r < 256
structure Ms.Fits (m : Ms) : Prop where
 h1 : m.kind < 256
 h2 : m.bn < 18446744073709551616
 h3 : m.br < 256
 h4 : m.base < 18446744073709551616
 h5 : m.slot < 18446744073709551616
 h6 : m.node < 256
 h7 : ∀ v ∈ m.votes, v.Fits
 h8 : ∀ x ∈ m.items, x.slot < 18446744073709551616
 h9 : m.cmd.Fits
 h10 : m.code < 256
inductive Pt where
 | cmd | name | reply | node | turn | floor | slot (least : Nat) | value | votes | items
 deriving DecidableEq
def AK (k : Nat) : List Pt :=
 if k = 1 then [.cmd] else if k = 2 then [.name, .reply] else if k = 3 then [.name, .node] else if k = 4 then [.turn, .slot 1] else if k = 8 then [.turn, .slot 1] else if k = 5 then [.turn, .floor, .slot 0, .votes]
 else if k = 6 then [.turn] else if k = 7 then [.turn, .slot 1, .value] else if k = 9 then [.items] else if k = 10 then [.slot 0] else if k = 11 then [.turn, .slot 0] else if k = 12 then [.slot 1, .value]
 else if k = 13 then [.floor, .slot 1, .value] else []
def FD (n r : Nat) : Bool := Bal.mayB ⟨n, r⟩ && decide (0 < n)
def ES : Nat → List Vo → Bool
 | _, [] => true
 | last, v :: l => decide (last < v.slot) && (decide (v.slot ≤ 4611686018427387904) && (FD v.n v.r && ES v.slot l))
def F8 : Nat → List Im → Bool
 | _, [] => true
 | last, v :: l => decide (last < v.slot) && (decide (v.slot ≤ 4611686018427387904) && F8 v.slot l)
def Pt.may : Pt → Ms → Bool
 | .cmd, m => Cmd.mayB m.cmd
 | .name, m => decide (m.cmd.client < 4) && decide (0 < m.cmd.seq)
 | .reply, m => decide (m.code ≤ 3) && decide (m.text.length ≤ 64)
 | .node, m => decide (m.node < 7)
 | .turn, m => FD m.bn m.br
 | .floor, m => decide (m.base ≤ 4611686018427387904)
 | .slot l, m => decide (l ≤ m.slot) && decide (m.slot ≤ 4611686018427387904)
 | .value, _ => true
 | .votes, m => ES 0 m.votes
 | .items, m => F8 0 m.items && decide (0 < m.items.length)
def Pt.move : Pt → Ms → Ms → Ms
 | .cmd, a, m => { a with cmd := m.cmd }
 | .name, a, m => { a with cmd := { a.cmd with client := m.cmd.client, seq := m.cmd.seq } }
 | .reply, a, m => { a with code := m.code, text := m.text }
 | .node, a, m => { a with node := m.node }
 | .turn, a, m => { a with bn := m.bn, br := m.br }
 | .floor, a, m => { a with base := m.base }
 | .slot _, a, m => { a with slot := m.slot }
 | .value, a, m => { a with value := m.value }
 | .votes, a, m => { a with votes := m.votes }
 | .items, a, m => { a with items := m.items }
def voB (v : Vo) : List UInt8 := BI v.slot ++ (Bal.balB ⟨v.n, v.r⟩ ++ CM v.value)
def imB (x : Im) : List UInt8 := BI x.slot ++ CM x.value
structure Ms.Small (m : Ms) : Prop where
 h1 : m.value.length ≤ 100000
 h2 : m.votes.length ≤ 100000
 h3 : m.items.length ≤ 100000
 h4 : ∀ v ∈ m.votes, v.value.length ≤ 100000
 h5 : ∀ x ∈ m.items, x.value.length ≤ 100000
 h6 : m.cmd.key.length ≤ 1000
 h7 : m.cmd.old.length ≤ 1000
 h8 : m.cmd.new.length ≤ 1000
 h9 : m.text.length ≤ 1000
 h10 : (m.votes.flatMap voB).length ≤ 400000
 h11 : (m.items.flatMap imB).length ≤ 400000
def Pt.put : Pt → Ms → List UInt8
 | .cmd, m => Cmd.oneB m.cmd
 | .name, m => UInt8.ofNat m.cmd.client :: BI m.cmd.seq
 | .reply, m => UInt8.ofNat m.code :: CM m.text
 | .node, m => [UInt8.ofNat m.node]
 | .turn, m => Bal.balB ⟨m.bn, m.br⟩
 | .floor, m => BI m.base
 | .slot _, m => BI m.slot
 | .value, m => CM m.value
 | .votes, m => BI m.votes.length ++ m.votes.flatMap voB
 | .items, m => BI m.items.length ++ m.items.flatMap imB
def ms0 (k : Nat) : Ms := ⟨k, 0, 0, 0, 0, 0, [], [], [], Cmd.cm0, 0, []⟩
def M9 (l : List Pt) (m : Ms) : Ms := l.foldl (fun a p => p.move a m) (ms0 m.kind)
def C9 (m : Ms) : Bool := !(AK m.kind).isEmpty && ((AK m.kind).all (·.may m) && decide (m = M9 (AK m.kind) m))
def BP (m : Ms) : List UInt8 := UInt8.ofNat m.kind :: (AK m.kind).flatMap (·.put m)
def putM (m : Ms) : List UInt8 × Nat := if C9 m then (if (BP m).length ≤ 65536 then (Frame.frameB (BP m), 0) else ([], 6)) else ([], 2)
def tkV : Nat → Rd → List Vo → Rd × List Vo
 | 0, r, l => (r, l)
 | n + 1, r, l => if r.err = 0 then tkV n ((Bal.takeB r.num.2).2.str 65536).2 (l ++ [⟨r.num.1, (Bal.takeB r.num.2).1.n, (Bal.takeB r.num.2).1.r, ((Bal.takeB r.num.2).2.str 65536).1⟩]) else (r, l)
def tkI : Nat → Rd → List Im → Rd × List Im
 | 0, r, l => (r, l)
 | n + 1, r, l => if r.err = 0 then tkI n (r.num.2.str 65536).2 (l ++ [⟨r.num.1, (r.num.2.str 65536).1⟩]) else (r, l)
def Pt.take : Pt → Ms × Rd → Ms × Rd
 | .cmd, (a, r) => ({ a with cmd := (Cmd.takeC r).1 }, (Cmd.takeC r).2)
 | .name, (a, r) => ({ a with cmd := { a.cmd with client := r.byte.1, seq := (r.byte.2.below 4294967296).1 } }, (r.byte.2.below 4294967296).2)
 | .reply, (a, r) => ({ a with code := r.byte.1, text := (r.byte.2.str 64).1 }, (r.byte.2.str 64).2)
 | .node, (a, r) => ({ a with node := r.byte.1 }, r.byte.2)
 | .turn, (a, r) => ({ a with bn := (Bal.takeB r).1.n, br := (Bal.takeB r).1.r }, (Bal.takeB r).2)
 | .floor, (a, r) => ({ a with base := r.num.1 }, r.num.2)
 | .slot _, (a, r) => ({ a with slot := r.num.1 }, r.num.2)
 | .value, (a, r) => ({ a with value := (r.str 65536).1 }, (r.str 65536).2)
 | .votes, (a, r) => ({ a with votes := (tkV r.num.1 r.num.2 a.votes).2 }, (tkV r.num.1 r.num.2 a.votes).1)
 | .items, (a, r) => ({ a with items := (tkI r.num.1 r.num.2 a.items).2 }, (tkI r.num.1 r.num.2 a.items).1)
def F7 (l : List Pt) (k : Nat) (r : Rd) : Ms × Rd := l.foldl (fun a p => p.take a) (ms0 k, r)
def EX (s : List UInt8) : Ms × Nat :=
 let f := Frame.takeF s
 if f.2.2 ≠ 0 then (ms0 0, f.2.2)
 else if f.2.1 ≠ s.length then (ms0 0, 4)
 else
  let k := Rd.byte ⟨0, f.1⟩
  let p := F7 (AK k.1) k.1 k.2
  if p.2.end_.err = 0 ∧ C9 p.1 = true then (p.1, 0) else (ms0 0, 4)
def Pt.putF : Pt → Nat
 | .cmd => 110
 | .name => 117
 | .reply => 121
 | .node => 127
 | .turn => 131
 | .floor => 143
 | .slot _ => 138
 | .value => 152
 | .votes => 147
 | .items => 156
def Pt.takeF : Pt → Nat
 | .cmd => 112
 | .name => 118
 | .reply => 123
 | .node => 128
 | .turn => 133
 | .floor => 144
 | .slot _ => 139
 | .value => 153
 | .votes => 148
 | .items => 157
def Pt.moveF : Pt → Nat
 | .cmd => 114
 | .name => 119
 | .reply => 125
 | .node => 129
 | .turn => 135
 | .floor => 145
 | .slot _ => 141
 | .value => 154
 | .votes => 149
 | .items => 158
def Pt.mayF : Pt → Nat
 | .cmd => 115
 | .name => 120
 | .reply => 126
 | .node => 130
 | .turn => 136
 | .floor => 146
 | .slot _ => 142
 | .value => 155
 | .votes => 151
 | .items => 160
end Go.Proofs.YteiaiilfekojfaaGreat.Msg
end
section
set_option linter.unusedVariables false
set_option linter.unusedSimpArgs false
namespace Go.Proofs.YteiaiilfekojfaaGreat.Msg
open Go.RowKit Sx Wire DrawInv
theorem Qo (k : Nat) (n r n' r' : Nat) (w : World) : (Op.equalIn (k + 2) 24 (.agg #[.int .u64 (n : Int), .int .u8 (r : Int)]) (.agg #[.int .u64 (n' : Int), .int .u8 (r' : Int)])).run Tryz.prog w = .ok (((n : Int) == (n' : Int)) && (((r : Int) == (r' : Int)) && true)) w := by
 have e1 := run_equalIn_int (P := Tryz.prog) w k 22 .u64 .u64 (n : Int) (n' : Int) Tryz.underlying22
 have e2 := run_equalIn_int (P := Tryz.prog) w k 5 .u8 .u8 (r : Int) (r' : Int) Tryz.underlying5
 obtain ⟨h1, h2⟩ := Hz Tryz.underlying24
 rw [run_equalIn_agg w (k + 1) _ _ _ h1 (by kernel_rfl), h2]
 exact Cj (by decide) (by kernel_rfl) (by kernel_rfl) e1 (Cj (by decide) (by kernel_rfl) (by kernel_rfl) e2 (FW _ _ _ _ _))
theorem NE (n r n' r' : Nat) (w : World) : (Op.equal 24 (.agg #[.int .u64 (n : Int), .int .u8 (r : Int)]) (.agg #[.int .u64 (n' : Int), .int .u8 (r' : Int)])).run Tryz.prog w = .ok (decide (n = n') && decide (r = r')) w := by
 have h4 : (((n : Int) == (n' : Int)) && (((r : Int) == (r' : Int)) && true)) = (decide (n = n') && decide (r = r')) := by
  rw [Bool.and_true]
  congr 1 <;> (apply Bool.eq_iff_iff.2; simp; omega)
 rw [← h4]
 exact Qo 9998 n r n' r' w

set_option maxRecDepth 100000 in
set_option maxHeartbeats 4000000 in
theorem Ot (mn mr : Nat)  (w : World) : Calls Tryz.prog 137 #[.agg #[.int .u64 (mn : Int), .int .u8 (mr : Int)]] w fun e w' => e = .returned (.bool (FD mn mr)) ∧ Below w.heap.size w w' := by
 refine A0 (n := 11) _ Tryz.func137 rfl rfl rfl (Hp.start w) (Ae (Ac ?_))
 refine zB rfl fun g1 hg1 => ?_
 refine za rfl (Ad (Aa (Ae (Ac (zw 0 Tryz.underlying24 Bi rfl (Ao (v := .int .i64 (Bal.chkN ⟨mn, mr⟩)) trivial rfl rfl (zk IP rfl) (fun w H => (Bal.check_any ⟨mn, mr⟩ w).mono fun _ _ h => ⟨h.1, h.2.below⟩) ?_))))))
 refine zb rfl fun c5 hc5 => ?_
 refine zm rfl ?_
 cases c5
 ·refine zo rfl (zo rfl (zo rfl (zp rfl (za rfl (Ad (Aa (Am ?_)))))))
  refine Ai (.bool false) (fun a w K H => BC K rfl rfl) (fun w H => ?_)
  have hq : false = FD mn mr := by clear H; first | rfl | grind [AB, FD, Bal.mayB, Bal.chkN]
  exact ⟨by rw [hq], H.toBelow ⟨(zq hg1), trivial⟩⟩
 ·refine zw 0 Tryz.underlying24 Bi rfl (Ag (gK rfl) rfl rfl (fun ρ w E H => Bh (cs := [.int .u64 0, .int .u8 0]) E rfl rfl (by kernel_rfl)) ?_)
  refine DT (gK rfl) rfl rfl (fun ρ w E H => FV E rfl (by kernel_rfl) rfl rfl (fun w => by rw [Bool.not_not]; exact NE mn mr 0 0 w)) fun c9 hc9 => ?_
  refine zp rfl (za rfl (Ad (Aa (Am ?_))))
  refine Ai (.bool c9) (fun a w K H => BC K rfl rfl) (fun w H => ?_)
  have hq : c9 = FD mn mr := by clear H; first | rfl | grind [AB, FD, Bal.mayB, Bal.chkN]
  exact ⟨by rw [hq], H.toBelow ⟨(zq hg1), trivial⟩⟩

set_option maxRecDepth 100000 in
set_option maxHeartbeats 4000000 in
theorem Xg (mk mn mr mb ms mo ca cb ck cz mc : Nat) (mv cs ct cu mt : List UInt8) (vl : List Vo) (il : List Im) (A B : Option Addr) (ka kb : Nat) (w : World) (hf : Cmd.Cm.Fits ⟨ca, cb, ck, cs, ct, cu, cz⟩) : Calls Tryz.prog 115 #[.agg #[.int .u8 (mk : Int), .int .u64 (mn : Int), .int .u8 (mr : Int), .int .u64 (mb : Int), .int .u64 (ms : Int), .int .u8 (mo : Int), .string ⟨mv.toArray⟩, .slice A vl.length ka, .slice B il.length kb, .int .u8 (ca : Int), .int .u32 (cb : Int), .int .u8 (ck : Int), .string ⟨cs.toArray⟩, .string ⟨ct.toArray⟩, .string ⟨cu.toArray⟩, .int .u8 (cz : Int), .int .u8 (mc : Int), .string ⟨mt.toArray⟩]] w fun e w' => e = .returned (.bool (Pt.may .cmd ⟨mk, mn, mr, mb, ms, mo, mv, vl, il, ⟨ca, cb, ck, cs, ct, cu, cz⟩, mc, mt⟩)) ∧ Below w.heap.size w w' := by
 refine A0 (n := 7) _ Tryz.func115 rfl rfl rfl (Hp.start w) (Ae (Ac ?_))
 refine zB rfl fun g1 hg1 => ?_
 refine za rfl (Ad (Aa (Ae (Ac (zf 9 Bd rfl (zv 0 [.int .u8 (ca : Int), .int .u32 (cb : Int), .int .u8 (ck : Int), .string ⟨cs.toArray⟩, .string ⟨ct.toArray⟩, .string ⟨cu.toArray⟩, .int .u8 (cz : Int)] Tryz.underlying29 BG rfl (Ao (v := .int .i64 (if Cmd.mayB ⟨ca, cb, ck, cs, ct, cu, cz⟩ then 0 else 2)) trivial rfl rfl (zk JB rfl) (fun w H => Cmd.check_any ⟨ca, cb, ck, cs, ct, cu, cz⟩ hf w) ?_)))))))
 refine zb rfl fun c6 hc6 => ?_
 refine za rfl (Ad (Aa (Am ?_)))
 refine Ai (.bool c6) (fun a w K H => BC K rfl rfl) (fun w H => ?_)
 have hq : c6 = Pt.may .cmd ⟨mk, mn, mr, mb, ms, mo, mv, vl, il, ⟨ca, cb, ck, cs, ct, cu, cz⟩, mc, mt⟩ := by clear H; first | rfl | grind [AB, Pt.may, Cmd.mayB]
 exact ⟨by rw [hq], H.toBelow ⟨(zq hg1), trivial⟩⟩

set_option maxRecDepth 100000 in
set_option maxHeartbeats 4000000 in
theorem VM (mk mn mr mb ms mo ca cb ck cz mc : Nat) (mv cs ct cu mt : List UInt8) (vl : List Vo) (il : List Im) (A B : Option Addr) (ka kb : Nat) (w : World) : Calls Tryz.prog 120 #[.agg #[.int .u8 (mk : Int), .int .u64 (mn : Int), .int .u8 (mr : Int), .int .u64 (mb : Int), .int .u64 (ms : Int), .int .u8 (mo : Int), .string ⟨mv.toArray⟩, .slice A vl.length ka, .slice B il.length kb, .int .u8 (ca : Int), .int .u32 (cb : Int), .int .u8 (ck : Int), .string ⟨cs.toArray⟩, .string ⟨ct.toArray⟩, .string ⟨cu.toArray⟩, .int .u8 (cz : Int), .int .u8 (mc : Int), .string ⟨mt.toArray⟩]] w fun e w' => e = .returned (.bool (Pt.may .name ⟨mk, mn, mr, mb, ms, mo, mv, vl, il, ⟨ca, cb, ck, cs, ct, cu, cz⟩, mc, mt⟩)) ∧ Below w.heap.size w w' := by
 refine A0 (n := 13) _ Tryz.func120 rfl rfl rfl (Hp.start w) (Ae (Ac ?_))
 refine zB rfl fun g1 hg1 => ?_
 refine za rfl (Ad (Aa (Ae (Ac (zf 9 Bd rfl (zf 9 CG rfl (zl 0 Tryz.underlying5 rfl ?_)))))))
 refine zb rfl fun c6 hc6 => ?_
 refine zm rfl ?_
 cases c6
 ·refine zo rfl (zo rfl (zo rfl (zo rfl (zp rfl (za rfl (Ad (Aa (Am ?_))))))))
  refine Ai (.bool false) (fun a w K H => BC K rfl rfl) (fun w H => ?_)
  have hq : false = Pt.may .name ⟨mk, mn, mr, mb, ms, mo, mv, vl, il, ⟨ca, cb, ck, cs, ct, cu, cz⟩, mc, mt⟩ := by clear H; first | rfl | grind [AB, Pt.may]
  exact ⟨by rw [hq], H.toBelow ⟨(zq hg1), trivial⟩⟩
 ·refine zf 9 Bd rfl (zf 10 CE rfl (zl 0 Tryz.underlying27 rfl ?_))
  refine zb rfl fun c11 hc11 => ?_
  refine zp rfl (za rfl (Ad (Aa (Am ?_))))
  refine Ai (.bool c11) (fun a w K H => BC K rfl rfl) (fun w H => ?_)
  have hq : c11 = Pt.may .name ⟨mk, mn, mr, mb, ms, mo, mv, vl, il, ⟨ca, cb, ck, cs, ct, cu, cz⟩, mc, mt⟩ := by clear H; first | rfl | grind [AB, Pt.may]
  exact ⟨by rw [hq], H.toBelow ⟨(zq hg1), trivial⟩⟩

set_option maxRecDepth 100000 in
set_option maxHeartbeats 4000000 in
theorem Uu (mk mn mr mb ms mo ca cb ck cz mc : Nat) (mv cs ct cu mt : List UInt8) (vl : List Vo) (il : List Im) (A B : Option Addr) (ka kb : Nat) (w : World) : Calls Tryz.prog 126 #[.agg #[.int .u8 (mk : Int), .int .u64 (mn : Int), .int .u8 (mr : Int), .int .u64 (mb : Int), .int .u64 (ms : Int), .int .u8 (mo : Int), .string ⟨mv.toArray⟩, .slice A vl.length ka, .slice B il.length kb, .int .u8 (ca : Int), .int .u32 (cb : Int), .int .u8 (ck : Int), .string ⟨cs.toArray⟩, .string ⟨ct.toArray⟩, .string ⟨cu.toArray⟩, .int .u8 (cz : Int), .int .u8 (mc : Int), .string ⟨mt.toArray⟩]] w fun e w' => e = .returned (.bool (Pt.may .reply ⟨mk, mn, mr, mb, ms, mo, mv, vl, il, ⟨ca, cb, ck, cs, ct, cu, cz⟩, mc, mt⟩)) ∧ Below w.heap.size w w' := by
 refine A0 (n := 14) _ Tryz.func126 rfl rfl rfl (Hp.start w) (Ae (Ac ?_))
 refine zB rfl fun g1 hg1 => ?_
 refine za rfl (Ad (Aa (Ae (Ac (zf 16 B9 rfl (zf 16 DL rfl (zl 0 Tryz.underlying5 rfl ?_)))))))
 refine zb rfl fun c6 hc6 => ?_
 refine zm rfl ?_
 cases c6
 ·refine zo rfl (zo rfl (zo rfl (zo rfl (zo rfl (zp rfl (za rfl (Ad (Aa (Am ?_)))))))))
  refine Ai (.bool false) (fun a w K H => BC K rfl rfl) (fun w H => ?_)
  have hq : false = Pt.may .reply ⟨mk, mn, mr, mb, ms, mo, mv, vl, il, ⟨ca, cb, ck, cs, ct, cu, cz⟩, mc, mt⟩ := by clear H; first | rfl | grind [AB, Pt.may]
  exact ⟨by rw [hq], H.toBelow ⟨(zq hg1), trivial⟩⟩
 ·refine zf 16 B9 rfl (zf 17 Dv rfl (zl 0 Tryz.underlying9 rfl (Ag (v := .int .i64 (mt.length : Int)) (gK rfl) rfl rfl (fun ρ w E H => FT E rfl Tryz.underlying9 rfl) ?_)))
  refine zb rfl fun c12 hc12 => ?_
  refine zp rfl (za rfl (Ad (Aa (Am ?_))))
  refine Ai (.bool c12) (fun a w K H => BC K rfl rfl) (fun w H => ?_)
  have hq : c12 = Pt.may .reply ⟨mk, mn, mr, mb, ms, mo, mv, vl, il, ⟨ca, cb, ck, cs, ct, cu, cz⟩, mc, mt⟩ := by clear H; first | rfl | grind [AB, Pt.may]
  exact ⟨by rw [hq], H.toBelow ⟨(zq hg1), trivial⟩⟩

set_option maxRecDepth 100000 in
set_option maxHeartbeats 4000000 in
theorem VL (mk mn mr mb ms mo ca cb ck cz mc : Nat) (mv cs ct cu mt : List UInt8) (vl : List Vo) (il : List Im) (A B : Option Addr) (ka kb : Nat) (w : World) : Calls Tryz.prog 130 #[.agg #[.int .u8 (mk : Int), .int .u64 (mn : Int), .int .u8 (mr : Int), .int .u64 (mb : Int), .int .u64 (ms : Int), .int .u8 (mo : Int), .string ⟨mv.toArray⟩, .slice A vl.length ka, .slice B il.length kb, .int .u8 (ca : Int), .int .u32 (cb : Int), .int .u8 (ck : Int), .string ⟨cs.toArray⟩, .string ⟨ct.toArray⟩, .string ⟨cu.toArray⟩, .int .u8 (cz : Int), .int .u8 (mc : Int), .string ⟨mt.toArray⟩]] w fun e w' => e = .returned (.bool (Pt.may .node ⟨mk, mn, mr, mb, ms, mo, mv, vl, il, ⟨ca, cb, ck, cs, ct, cu, cz⟩, mc, mt⟩)) ∧ Below w.heap.size w w' := by
 refine A0 (n := 6) _ Tryz.func130 rfl rfl rfl (Hp.start w) (Ae (Ac ?_))
 refine zB rfl fun g1 hg1 => ?_
 refine za rfl (Ad (Aa (Ae (Ac (zf 5 BW rfl (zl 0 Tryz.underlying5 rfl ?_))))))
 refine zb rfl fun c5 hc5 => ?_
 refine za rfl (Ad (Aa (Am ?_)))
 refine Ai (.bool c5) (fun a w K H => BC K rfl rfl) (fun w H => ?_)
 have hq : c5 = Pt.may .node ⟨mk, mn, mr, mb, ms, mo, mv, vl, il, ⟨ca, cb, ck, cs, ct, cu, cz⟩, mc, mt⟩ := by clear H; first | rfl | grind [AB, Pt.may]
 exact ⟨by rw [hq], H.toBelow ⟨(zq hg1), trivial⟩⟩

set_option maxRecDepth 100000 in
set_option maxHeartbeats 4000000 in
theorem VJ (mk mn mr mb ms mo ca cb ck cz mc : Nat) (mv cs ct cu mt : List UInt8) (vl : List Vo) (il : List Im) (A B : Option Addr) (ka kb : Nat) (w : World) : Calls Tryz.prog 136 #[.agg #[.int .u8 (mk : Int), .int .u64 (mn : Int), .int .u8 (mr : Int), .int .u64 (mb : Int), .int .u64 (ms : Int), .int .u8 (mo : Int), .string ⟨mv.toArray⟩, .slice A vl.length ka, .slice B il.length kb, .int .u8 (ca : Int), .int .u32 (cb : Int), .int .u8 (ck : Int), .string ⟨cs.toArray⟩, .string ⟨ct.toArray⟩, .string ⟨cu.toArray⟩, .int .u8 (cz : Int), .int .u8 (mc : Int), .string ⟨mt.toArray⟩]] w fun e w' => e = .returned (.bool (Pt.may .turn ⟨mk, mn, mr, mb, ms, mo, mv, vl, il, ⟨ca, cb, ck, cs, ct, cu, cz⟩, mc, mt⟩)) ∧ Below w.heap.size w w' := by
 refine A0 (n := 6) _ Tryz.func136 rfl rfl rfl (Hp.start w) (Ae (Ac ?_))
 refine zB rfl fun g1 hg1 => ?_
 refine za rfl (Ad (Aa (Ae (Ac (zf 1 BM rfl (zv 0 [.int .u64 (mn : Int), .int .u8 (mr : Int)] Tryz.underlying24 Bi rfl ?_))))))
 refine CN (b := (FD mn mr)) trivial rfl rfl (zk GV rfl) (fun w H => Ot mn mr w) fun c5 hc5 => ?_
 refine za rfl (Ad (Aa (Am ?_)))
 refine Ai (.bool c5) (fun a w K H => BC K rfl rfl) (fun w H => ?_)
 have hq : c5 = Pt.may .turn ⟨mk, mn, mr, mb, ms, mo, mv, vl, il, ⟨ca, cb, ck, cs, ct, cu, cz⟩, mc, mt⟩ := by clear H; first | rfl | grind [AB, Pt.may]
 exact ⟨by rw [hq], H.toBelow ⟨(zq hg1), trivial⟩⟩

set_option maxRecDepth 100000 in
set_option maxHeartbeats 4000000 in
theorem Uy (mk mn mr mb ms mo ca cb ck cz mc : Nat) (mv cs ct cu mt : List UInt8) (vl : List Vo) (il : List Im) (A B : Option Addr) (ka kb : Nat) (w : World) : Calls Tryz.prog 146 #[.agg #[.int .u8 (mk : Int), .int .u64 (mn : Int), .int .u8 (mr : Int), .int .u64 (mb : Int), .int .u64 (ms : Int), .int .u8 (mo : Int), .string ⟨mv.toArray⟩, .slice A vl.length ka, .slice B il.length kb, .int .u8 (ca : Int), .int .u32 (cb : Int), .int .u8 (ck : Int), .string ⟨cs.toArray⟩, .string ⟨ct.toArray⟩, .string ⟨cu.toArray⟩, .int .u8 (cz : Int), .int .u8 (mc : Int), .string ⟨mt.toArray⟩]] w fun e w' => e = .returned (.bool (Pt.may .floor ⟨mk, mn, mr, mb, ms, mo, mv, vl, il, ⟨ca, cb, ck, cs, ct, cu, cz⟩, mc, mt⟩)) ∧ Below w.heap.size w w' := by
 refine A0 (n := 6) _ Tryz.func146 rfl rfl rfl (Hp.start w) (Ae (Ac ?_))
 refine zB rfl fun g1 hg1 => ?_
 refine za rfl (Ad (Aa (Ae (Ac (zf 3 BX rfl (zl 0 Tryz.underlying22 rfl ?_))))))
 refine zb rfl fun c5 hc5 => ?_
 refine za rfl (Ad (Aa (Am ?_)))
 refine Ai (.bool c5) (fun a w K H => BC K rfl rfl) (fun w H => ?_)
 have hq : c5 = Pt.may .floor ⟨mk, mn, mr, mb, ms, mo, mv, vl, il, ⟨ca, cb, ck, cs, ct, cu, cz⟩, mc, mt⟩ := by clear H; first | rfl | grind [AB, Pt.may]
 exact ⟨by rw [hq], H.toBelow ⟨(zq hg1), trivial⟩⟩

set_option maxRecDepth 100000 in
set_option maxHeartbeats 4000000 in
theorem VK (mk mn mr mb ms mo ca cb ck cz mc : Nat) (mv cs ct cu mt : List UInt8) (vl : List Vo) (il : List Im) (least gl : Nat) (A B : Option Addr) (ka kb : Nat) (w : World) (hl : Blk w gl 22 #[.int .u64 (least : Int)]) : Calls Tryz.prog 142 #[.agg #[.int .u8 (mk : Int), .int .u64 (mn : Int), .int .u8 (mr : Int), .int .u64 (mb : Int), .int .u64 (ms : Int), .int .u8 (mo : Int), .string ⟨mv.toArray⟩, .slice A vl.length ka, .slice B il.length kb, .int .u8 (ca : Int), .int .u32 (cb : Int), .int .u8 (ck : Int), .string ⟨cs.toArray⟩, .string ⟨ct.toArray⟩, .string ⟨cu.toArray⟩, .int .u8 (cz : Int), .int .u8 (mc : Int), .string ⟨mt.toArray⟩], .pointer (some ⟨gl, 0, none⟩)] w fun e w' => e = .returned (.bool (Pt.may (.slot least) ⟨mk, mn, mr, mb, ms, mo, mv, vl, il, ⟨ca, cb, ck, cs, ct, cu, cz⟩, mc, mt⟩)) ∧ Below w.heap.size w w' := by
 refine A0 (n := 13) _ Tryz.func142 rfl rfl rfl (Hp.start w) (Ae (Ac ?_))
 refine zB rfl fun g1 hg1 => ?_
 refine za rfl (Ad (Aa (Ae (Ac (zf 4 Bq rfl (zl 0 Tryz.underlying22 rfl (Ag trivial rfl rfl (fun ρ w E H => Dl (cs := [.int .u64 (least : Int)]) E (Blk.below hl (H.toBelow ⟨(zq hg1), trivial⟩) (Blk.lt hl)) rfl rfl Tryz.underlying22 rfl rfl) ?_)))))))
 refine zb rfl fun c7 hc7 => ?_
 refine zm rfl ?_
 cases c7
 ·refine zo rfl (zo rfl (zo rfl (zp rfl (za rfl (Ad (Aa (Am ?_)))))))
  refine Ai (.bool false) (fun a w K H => BC K rfl rfl) (fun w H => ?_)
  have hq : false = Pt.may (.slot least) ⟨mk, mn, mr, mb, ms, mo, mv, vl, il, ⟨ca, cb, ck, cs, ct, cu, cz⟩, mc, mt⟩ := by clear H; first | rfl | grind [AB, Pt.may]
  exact ⟨by rw [hq], H.toBelow ⟨(zq hg1), trivial⟩⟩
 ·refine zf 4 Bq rfl (zl 0 Tryz.underlying22 rfl ?_)
  refine zb rfl fun c11 hc11 => ?_
  refine zp rfl (za rfl (Ad (Aa (Am ?_))))
  refine Ai (.bool c11) (fun a w K H => BC K rfl rfl) (fun w H => ?_)
  have hq : c11 = Pt.may (.slot least) ⟨mk, mn, mr, mb, ms, mo, mv, vl, il, ⟨ca, cb, ck, cs, ct, cu, cz⟩, mc, mt⟩ := by clear H; first | rfl | grind [AB, Pt.may]
  exact ⟨by rw [hq], H.toBelow ⟨(zq hg1), trivial⟩⟩

set_option maxRecDepth 100000 in
set_option maxHeartbeats 4000000 in
theorem Ut (mk mn mr mb ms mo ca cb ck cz mc : Nat) (mv cs ct cu mt : List UInt8) (vl : List Vo) (il : List Im) (A B : Option Addr) (ka kb : Nat) (w : World) : Calls Tryz.prog 155 #[.agg #[.int .u8 (mk : Int), .int .u64 (mn : Int), .int .u8 (mr : Int), .int .u64 (mb : Int), .int .u64 (ms : Int), .int .u8 (mo : Int), .string ⟨mv.toArray⟩, .slice A vl.length ka, .slice B il.length kb, .int .u8 (ca : Int), .int .u32 (cb : Int), .int .u8 (ck : Int), .string ⟨cs.toArray⟩, .string ⟨ct.toArray⟩, .string ⟨cu.toArray⟩, .int .u8 (cz : Int), .int .u8 (mc : Int), .string ⟨mt.toArray⟩]] w fun e w' => e = .returned (.bool (Pt.may .value ⟨mk, mn, mr, mb, ms, mo, mv, vl, il, ⟨ca, cb, ck, cs, ct, cu, cz⟩, mc, mt⟩)) ∧ Below w.heap.size w w' := by
 refine A0 (n := 3) _ Tryz.func155 rfl rfl rfl (Hp.start w) (Ae (Ac ?_))
 refine zB rfl fun g1 hg1 => ?_
 refine za rfl (Ad (Aa (Ae (Ac (za rfl (Ad (Aa (Am ?_))))))))
 refine Ai (.bool true) (fun a w K H => BC K rfl rfl) (fun w H => ?_)
 have hq : true = Pt.may .value ⟨mk, mn, mr, mb, ms, mo, mv, vl, il, ⟨ca, cb, ck, cs, ct, cu, cz⟩, mc, mt⟩ := by clear H; first | rfl | grind [AB, Pt.may]
 exact ⟨by rw [hq], H.toBelow ⟨(zq hg1), trivial⟩⟩

set_option maxRecDepth 100000 in
set_option maxHeartbeats 4000000 in
theorem Us (mk mn mr mb ms mo ca cb ck cz mc : Nat) (mv cs ct cu mt : List UInt8) (vl : List Vo) (il : List Im) (A B : Option Addr) (ka kb : Nat) (w : World) (hv : Rows w A 4 voL vl) (hlen : vl.length ≤ 1000000) : Calls Tryz.prog 151 #[.agg #[.int .u8 (mk : Int), .int .u64 (mn : Int), .int .u8 (mr : Int), .int .u64 (mb : Int), .int .u64 (ms : Int), .int .u8 (mo : Int), .string ⟨mv.toArray⟩, .slice A vl.length ka, .slice B il.length kb, .int .u8 (ca : Int), .int .u32 (cb : Int), .int .u8 (ck : Int), .string ⟨cs.toArray⟩, .string ⟨ct.toArray⟩, .string ⟨cu.toArray⟩, .int .u8 (cz : Int), .int .u8 (mc : Int), .string ⟨mt.toArray⟩]] w fun e w' => e = .returned (.bool (Pt.may .votes ⟨mk, mn, mr, mb, ms, mo, mv, vl, il, ⟨ca, cb, ck, cs, ct, cu, cz⟩, mc, mt⟩)) ∧ Below w.heap.size w w' := by
 refine A0 (n := 31) _ Tryz.func151 rfl rfl rfl (Hp.start w) (Ae (Ac ?_))
 refine zB rfl fun g1 hg1 => ?_
 refine za rfl (Ad (Aa (Ae (Ac (za rfl (Ad (Aa (Ae (Ae ?_)))))))))
 refine Ac (zf 7 AH rfl (zl 0 Tryz.underlying25 rfl (zL Tryz.underlying25 rfl (zm rfl (Ad (Aa (AG ?_)))))))
 refine Ec (fun (k : Nat) (last : Nat) => [(1, .pointer (some ⟨g1, 0, none⟩)), (3, .int .u64 (last : Int)), (7, .slice A vl.length ka), (8, .int .i64 (vl.length : Int)), (9, .int .i64 (k : Int))]) (fun (k : Nat) (last : Nat) => [cell g1 33 [.int .u8 (mk : Int), .int .u64 (mn : Int), .int .u8 (mr : Int), .int .u64 (mb : Int), .int .u64 (ms : Int), .int .u8 (mo : Int), .string ⟨mv.toArray⟩, .slice A vl.length ka, .slice B il.length kb, .int .u8 (ca : Int), .int .u32 (cb : Int), .int .u8 (ck : Int), .string ⟨cs.toArray⟩, .string ⟨ct.toArray⟩, .string ⟨cu.toArray⟩, .int .u8 (cz : Int), .int .u8 (mc : Int), .string ⟨mt.toArray⟩]]) (fun (gk : Nat) (k : Nat) (last : Nat) => k + gk = vl.length ∧ ES 0 vl = ES last (vl.drop k)) vl.length 0 0 ⟨by omega, rfl⟩ ⟨rfl, rfl, rfl, rfl, rfl, trivial⟩ [0] rfl (by decide) ⟨.inl rfl, trivial⟩ fun gk k last hF => ?_
 obtain ⟨hkg, hrel⟩ := hF
 refine Ae (Ac ?_)
 refine zb rfl fun c10 hc10 => ?_
 refine Ad (Aa (Ae ?_))
 cases c10
 ·refine Ah rfl (Cd (AW (AW (BH (Aa (Ae (Ac (za rfl (Ad ?_)))))))))
  refine Aa (Am ?_)
  refine Ai (.bool true) (fun a w K H => BC K rfl rfl) (fun w H => ?_)
  have hq : true = Pt.may .votes ⟨mk, mn, mr, mb, ms, mo, mv, vl, il, ⟨ca, cb, ck, cs, ct, cu, cz⟩, mc, mt⟩ := by
   clear H; show _ = ES 0 vl; rw [hrel, List.drop_eq_nil_of_le (by simpa [AB] using hc10)]; rfl
  exact ⟨by rw [hq], H.toBelow ⟨(zq hg1), trivial⟩⟩
 ·refine Ap rfl (Ax (Aa (Ae (AG (Ae ?_)))))
  have hkl : k < vl.length := by simpa [AB] using hc10
  obtain ⟨⟨xs, xn, xr, xv⟩, hx⟩ : ∃ x, vl[k]? = some x := ⟨_, List.getElem?_eq_getElem hkl⟩
  have hd : vl.drop k = ⟨xs, xn, xr, xv⟩ :: vl.drop (k + 1) := by rw [List.drop_eq_getElem_cons hkl]; congr 1; rw [List.getElem?_eq_getElem hkl] at hx; exact Option.some.inj hx
  obtain ⟨ad, rfl, -, -⟩ := hv.row hx
  refine Ac (Ag (v := .pointer (some (ad.add (k * 4)))) trivial rfl rfl (fun ρ w E H => BA (i := k) E rfl Tryz.underlying25 AZ rfl rfl hkl) (Ag (v := .agg #[.int .u64 (xs : Int), .int .u64 (xn : Int), .int .u8 (xr : Int), .string ⟨xv.toArray⟩]) trivial rfl rfl (fun ρ w E H => C7 (cs := [.int .u64 (xs : Int), .int .u64 (xn : Int), .int .u8 (xr : Int), .string ⟨xv.toArray⟩]) E ((hv.below (H.toBelow ⟨(zq hg1), trivial⟩)).rowA hx) rfl rfl Tryz.underlying92 rfl AZ) ?_))
  refine zA Es rfl fun g2 hg2 => ?_
  refine Bz (i := 0) trivial rfl rfl rfl rfl rfl AZ rfl rfl rfl (Ad (Aa (Ae (Ae (Ac (zf 0 CV rfl (zl 0 Tryz.underlying22 rfl (zm rfl ?_))))))))
  refine zb rfl fun c16 hc16 => ?_
  refine zm rfl ?_
  cases c16
  ·refine zf 0 CV rfl (zl 0 Tryz.underlying22 rfl ?_)
   refine zb rfl fun c20 hc20 => ?_
   refine zp rfl (zm rfl ?_)
   cases c20
   ·refine zf 1 EB rfl (zv 0 [.int .u64 (xn : Int), .int .u8 (xr : Int)] Tryz.underlying24 Bi rfl ?_)
    refine CN (b := (FD xn xr)) (gK rfl) rfl rfl (zk GV rfl) (fun w H => Ot xn xr w) fun c25 hc25 => ?_
    cases c25
    ·refine zn true rfl (zp rfl (Ad (Aa (Ap rfl (Ae (Ac (za rfl (Ad (Aa ?_)))))))))
     refine Am (Ak (AU (Ak (Ak (AU (Ak ?_))))))
     refine Ai (.bool false) (fun a w K H => BC K rfl rfl) (fun w H => ?_)
     have hq : false = Pt.may .votes ⟨mk, mn, mr, mb, ms, mo, mv, vl, il, ⟨ca, cb, ck, cs, ct, cu, cz⟩, mc, mt⟩ := by
      clear H; show false = ES 0 vl; rw [hrel, hd]; grind [ES, AB]
     exact ⟨by rw [hq], H.toBelow ⟨(zq hg2), (zq hg1), trivial⟩⟩
    ·refine zn false rfl (zp rfl (Ad (Aa (Ah rfl (Ax (Aa (Ac (zf 0 CV rfl (zl 0 Tryz.underlying22 rfl ?_)))))))))
     refine za rfl (Ad (AA (Aa (Ac (Ag (v := .int .i64 ((k + 1 : Nat) : Int)) trivial rfl rfl (fun ρ w E H => BQ E rfl rfl rfl (by rw [IntKind.wrap_i64]; omega)) (zm rfl (Ad ?_)))))))
     refine B7 (gk - 1) (k + 1, xs) (by omega) ⟨by omega, by rw [hrel, hd]; grind [ES, AB]⟩ ⟨rfl, rfl, rfl, rfl, rfl, trivial⟩ [1] rfl (by decide) ⟨.inr (zq hg2), .inl rfl, trivial⟩
   ·refine zo rfl (zo rfl (zo rfl (zo rfl (zp rfl (Ad (Aa (Ap rfl (Ae (Ac ?_)))))))))
    refine za rfl (Ad (Aa (Am (Ak (AU (Ak (Ak (AU (Ak ?_)))))))))
    refine Ai (.bool false) (fun a w K H => BC K rfl rfl) (fun w H => ?_)
    have hq : false = Pt.may .votes ⟨mk, mn, mr, mb, ms, mo, mv, vl, il, ⟨ca, cb, ck, cs, ct, cu, cz⟩, mc, mt⟩ := by
     clear H; show false = ES 0 vl; rw [hrel, hd]; grind [ES, AB]
    exact ⟨by rw [hq], H.toBelow ⟨(zq hg2), (zq hg1), trivial⟩⟩
  ·refine zo rfl (zo rfl (zo rfl (zp rfl (zm rfl (zo rfl (zo rfl (zo rfl (zo rfl (zp rfl ?_)))))))))
   refine Ad (Aa (Ap rfl (Ae (Ac (za rfl (Ad (Aa (Am (Ak ?_)))))))))
   refine AU (Ak (Ak (AU (Ak ?_))))
   refine Ai (.bool false) (fun a w K H => BC K rfl rfl) (fun w H => ?_)
   have hq : false = Pt.may .votes ⟨mk, mn, mr, mb, ms, mo, mv, vl, il, ⟨ca, cb, ck, cs, ct, cu, cz⟩, mc, mt⟩ := by
    clear H; show false = ES 0 vl; rw [hrel, hd]; grind [ES, AB]
   exact ⟨by rw [hq], H.toBelow ⟨(zq hg2), (zq hg1), trivial⟩⟩

set_option maxRecDepth 100000 in
set_option maxHeartbeats 4000000 in
theorem Ux (mk mn mr mb ms mo ca cb ck cz mc : Nat) (mv cs ct cu mt : List UInt8) (vl : List Vo) (il : List Im) (A B : Option Addr) (ka kb : Nat) (w : World) (hi : Rows w B 2 imL il) (hlen : il.length ≤ 1000000) : Calls Tryz.prog 160 #[.agg #[.int .u8 (mk : Int), .int .u64 (mn : Int), .int .u8 (mr : Int), .int .u64 (mb : Int), .int .u64 (ms : Int), .int .u8 (mo : Int), .string ⟨mv.toArray⟩, .slice A vl.length ka, .slice B il.length kb, .int .u8 (ca : Int), .int .u32 (cb : Int), .int .u8 (ck : Int), .string ⟨cs.toArray⟩, .string ⟨ct.toArray⟩, .string ⟨cu.toArray⟩, .int .u8 (cz : Int), .int .u8 (mc : Int), .string ⟨mt.toArray⟩]] w fun e w' => e = .returned (.bool (Pt.may .items ⟨mk, mn, mr, mb, ms, mo, mv, vl, il, ⟨ca, cb, ck, cs, ct, cu, cz⟩, mc, mt⟩)) ∧ Below w.heap.size w w' := by
 refine A0 (n := 29) _ Tryz.func160 rfl rfl rfl (Hp.start w) (Ae (Ac ?_))
 refine zB rfl fun g1 hg1 => ?_
 refine za rfl (Ad (Aa (Ae (Ac (za rfl (Ad (Aa (Ae (Ae ?_)))))))))
 refine Ac (zf 8 AE rfl (zl 0 Tryz.underlying26 rfl (zL Tryz.underlying26 rfl (zm rfl (Ad (Aa (AG ?_)))))))
 refine Ec (fun (k : Nat) (last : Nat) => [(1, .pointer (some ⟨g1, 0, none⟩)), (3, .int .u64 (last : Int)), (7, .slice B il.length kb), (8, .int .i64 (il.length : Int)), (9, .int .i64 (k : Int))]) (fun (k : Nat) (last : Nat) => [cell g1 33 [.int .u8 (mk : Int), .int .u64 (mn : Int), .int .u8 (mr : Int), .int .u64 (mb : Int), .int .u64 (ms : Int), .int .u8 (mo : Int), .string ⟨mv.toArray⟩, .slice A vl.length ka, .slice B il.length kb, .int .u8 (ca : Int), .int .u32 (cb : Int), .int .u8 (ck : Int), .string ⟨cs.toArray⟩, .string ⟨ct.toArray⟩, .string ⟨cu.toArray⟩, .int .u8 (cz : Int), .int .u8 (mc : Int), .string ⟨mt.toArray⟩]]) (fun (gk : Nat) (k : Nat) (last : Nat) => k + gk = il.length ∧ F8 0 il = F8 last (il.drop k)) il.length 0 0 ⟨by omega, rfl⟩ ⟨rfl, rfl, rfl, rfl, rfl, trivial⟩ [0] rfl (by decide) ⟨.inl rfl, trivial⟩ fun gk k last hF => ?_
 obtain ⟨hkg, hrel⟩ := hF
 refine Ae (Ac ?_)
 refine zb rfl fun c10 hc10 => ?_
 refine Ad (Aa (Ae ?_))
 cases c10
 ·refine Ah rfl (Cd (AW (AW (BH (Aa (Ae (Ac (zf 8 AE rfl (zl 0 Tryz.underlying26 rfl ?_)))))))))
  refine zL Tryz.underlying26 rfl ?_
  refine zb rfl fun c28 hc28 => ?_
  refine za rfl (Ad (Aa (Am ?_)))
  refine Ai (.bool c28) (fun a w K H => BC K rfl rfl) (fun w H => ?_)
  have hq : c28 = Pt.may .items ⟨mk, mn, mr, mb, ms, mo, mv, vl, il, ⟨ca, cb, ck, cs, ct, cu, cz⟩, mc, mt⟩ := by
   clear H; show _ = (F8 0 il && decide (0 < il.length)); rw [hrel, List.drop_eq_nil_of_le (by simpa [AB] using hc10)]; grind [F8, AB]
  exact ⟨by rw [hq], H.toBelow ⟨(zq hg1), trivial⟩⟩
 ·refine Ap rfl (Ax (Aa (Ae (AG (Ae ?_)))))
  have hkl : k < il.length := by simpa [AB] using hc10
  obtain ⟨⟨xs, xv⟩, hx⟩ : ∃ x, il[k]? = some x := ⟨_, List.getElem?_eq_getElem hkl⟩
  have hd : il.drop k = ⟨xs, xv⟩ :: il.drop (k + 1) := by rw [List.drop_eq_getElem_cons hkl]; congr 1; rw [List.getElem?_eq_getElem hkl] at hx; exact Option.some.inj hx
  obtain ⟨ad, rfl, -, -⟩ := hi.row hx
  refine Ac (Ag (v := .pointer (some (ad.add (k * 2)))) trivial rfl rfl (fun ρ w E H => BA (i := k) E rfl Tryz.underlying26 Bg rfl rfl hkl) (Ag (v := .agg #[.int .u64 (xs : Int), .string ⟨xv.toArray⟩]) trivial rfl rfl (fun ρ w E H => C7 (cs := [.int .u64 (xs : Int), .string ⟨xv.toArray⟩]) E ((hi.below (H.toBelow ⟨(zq hg1), trivial⟩)).rowA hx) rfl rfl Tryz.underlying94 rfl Bg) ?_))
  refine zA Et rfl fun g2 hg2 => ?_
  refine Bz (i := 0) trivial rfl rfl rfl rfl rfl Bg rfl rfl rfl (Ad (Aa (Ae (Ae (Ac (zf 0 CW rfl (zl 0 Tryz.underlying22 rfl (zm rfl ?_))))))))
  refine zb rfl fun c16 hc16 => ?_
  refine zm rfl ?_
  cases c16
  ·refine zf 0 CW rfl (zl 0 Tryz.underlying22 rfl ?_)
   refine zb rfl fun c20 hc20 => ?_
   refine zp rfl (Ad (Aa ?_))
   cases c20
   ·refine Ah rfl (Ax (Aa (Ac (zf 0 CW rfl (zl 0 Tryz.underlying22 rfl (za rfl (Ad (AA (Aa ?_)))))))))
    refine Ac (Ag (v := .int .i64 ((k + 1 : Nat) : Int)) trivial rfl rfl (fun ρ w E H => BQ E rfl rfl rfl (by rw [IntKind.wrap_i64]; omega)) (zm rfl (Ad ?_)))
    refine B7 (gk - 1) (k + 1, xs) (by omega) ⟨by omega, by rw [hrel, hd]; grind [F8, AB]⟩ ⟨rfl, rfl, rfl, rfl, rfl, trivial⟩ [1] rfl (by decide) ⟨.inr (zq hg2), .inl rfl, trivial⟩
   ·refine Ap rfl (Ae (Ac (za rfl (Ad (Aa (Am (Ak (AU (Ak ?_)))))))))
    refine Ak (AU (Ak ?_))
    refine Ai (.bool false) (fun a w K H => BC K rfl rfl) (fun w H => ?_)
    have hq : false = Pt.may .items ⟨mk, mn, mr, mb, ms, mo, mv, vl, il, ⟨ca, cb, ck, cs, ct, cu, cz⟩, mc, mt⟩ := by
     clear H; show false = (F8 0 il && decide (0 < il.length)); rw [hrel, hd]; grind [F8, AB]
    exact ⟨by rw [hq], H.toBelow ⟨(zq hg2), (zq hg1), trivial⟩⟩
  ·refine zo rfl (zo rfl (zo rfl (zp rfl (Ad (Aa (Ap rfl (Ae (Ac (za rfl ?_)))))))))
   refine Ad (Aa (Am (Ak (AU (Ak (Ak (AU (Ak ?_))))))))
   refine Ai (.bool false) (fun a w K H => BC K rfl rfl) (fun w H => ?_)
   have hq : false = Pt.may .items ⟨mk, mn, mr, mb, ms, mo, mv, vl, il, ⟨ca, cb, ck, cs, ct, cu, cz⟩, mc, mt⟩ := by
    clear H; show false = (F8 0 il && decide (0 < il.length)); rw [hrel, hd]; grind [F8, AB]
   exact ⟨by rw [hq], H.toBelow ⟨(zq hg2), (zq hg1), trivial⟩⟩
end Go.Proofs.YteiaiilfekojfaaGreat.Msg
end
section
namespace Go.Proofs.YteiaiilfekojfaaGreat.Cmd
open Go.RowKit Wire
theorem Lc {W : World} {b b' : Nat} {e : TypeId} {size n : Nat} {v : Value} {xs : List Value} (h : W.ownsRow b e size v n xs) (hb : b' ≤ b) : W.ownsRow b' e size v n xs :=
 ⟨h.1, h.2.imp id (fun ⟨g, cap, cur, e, hg, r⟩ => ⟨g, cap, cur, e, Nat.le_trans hb hg, r⟩)⟩
theorem Jb {w : World} {base : Nat} {e : TypeId} {v : Value} {n : Nat} {xs : List Value} (h : w.ownsRow base e 1 v n xs) : ∃ A c, v = .slice A n c ∧ Reads w w.heap.size 1 A n xs ∧ w.ownsRow base e 1 (.slice A n c) n xs := by
 obtain ⟨A, c, rfl, hr⟩ := DG h
 exact ⟨A, c, rfl, hr, h⟩
theorem QQ {L s M : List UInt8} (hL : L.length ≤ 1000000000) (hs : s.length ≤ 1000000000) (hM : M = L ++ CM s) (A : Option Addr) (c : Nat) (w : World) (hr : Reads w w.heap.size 1 A L.length (bv L)) :
  Calls Tryz.prog 122 #[.slice A L.length c, .string ⟨s.toArray⟩] w fun e w' => ∃ A' c', e = .returned (.slice A' M.length c') ∧ Reads w' w'.heap.size 1 A' M.length (bv M) ∧ w'.ownsRow w.heap.size 5 1 (.slice A' M.length c') M.length (bv M) ∧ Below w.heap.size w w' := by
 subst hM
 refine (S4 A c L s hL hs w hr).mono ?_
 rintro e w' ⟨v, rfl, own, B⟩
 obtain ⟨A', c', rfl, r, own⟩ := Jb own
 exact ⟨A', c', rfl, r, own, B⟩
set_option linter.unusedSimpArgs false in
set_option maxRecDepth 100000 in
set_option maxHeartbeats 8000000 in
theorem put_any (c : Cm) (hc : c.Fits) (l : List UInt8) (hl : l.length ≤ 1000000) (hk : c.key.length ≤ 1000) (ho : c.old.length ≤ 1000) (hn : c.new.length ≤ 1000) (A : Option Addr) (cap : Nat) (w : World) (hr : Reads w w.heap.size 1 A l.length (bv l)) :
  Calls Tryz.prog 111 #[.slice A l.length cap, cmV c] w fun e w' => RetB w w' e (l ++ oneB c) := by
 obtain ⟨i0, hi, hz0, hz1, hz2⟩ := info_parts Hq
 obtain ⟨L1, hL1⟩ : ∃ L1, L1 = l ++ [UInt8.ofNat c.client] := ⟨_, rfl⟩
 have h1 := hc.h1
 have h2 := hc.h2
 have h3 := hc.h3
 have h7 := hc.h7
 have bte : ∀ x : Nat, x < 256 → [Value.int .u8 (x : Int)] = bv [UInt8.ofNat x] := fun x hx => by
  show _ = [Value.int .u8 ((UInt8.ofNat x).toNat : Int)]
  rw [UInt8.toNat_ofNat', Nat.mod_eq_of_lt (by omega)]
 have HE1 : Hid (bv l ++ [.int .u8 (c.client : Int)] = bv L1) := by show _ = _; rw [hL1, F4, bte _ h1]
 have hn1 : l.length + 1 = L1.length := by rw [hL1]; simp
 have HN1 := Lib.hid hn1
 have hl1 : L1.length ≤ 1000001 := by omega
 have hns := (B0 c.seq (by omega)).1
 have hn2 : (L1 ++ BI c.seq).length ≤ 1000010 := by rw [List.length_append]; omega
 obtain ⟨L2, hL2⟩ : ∃ L2, L2 = L1 ++ BI c.seq ++ [UInt8.ofNat c.kind] := ⟨_, rfl⟩
 have HE2 : Hid (bv (L1 ++ BI c.seq) ++ [.int .u8 (c.kind : Int)] = bv L2) := by show _ = _; rw [hL2, F4 _ [UInt8.ofNat c.kind], bte _ h3]
 have hn3 : (L1 ++ BI c.seq).length + 1 = L2.length := by rw [hL2]; simp only [List.length_append, List.length_cons, List.length_nil]
 have HN2 := Lib.hid hn3
 have hl2 : L2.length ≤ 1000011 := by omega
 have hsk : (CM c.key).length ≤ 1009 := by unfold CM; rw [List.length_append]; have := (B0 c.key.length (by omega)).1; omega
 have hso : (CM c.old).length ≤ 1009 := by unfold CM; rw [List.length_append]; have := (B0 c.old.length (by omega)).1; omega
 have hsn : (CM c.new).length ≤ 1009 := by unfold CM; rw [List.length_append]; have := (B0 c.new.length (by omega)).1; omega
 obtain ⟨L3, hL3⟩ : ∃ L3, L3 = L2 ++ CM c.key := ⟨_, rfl⟩
 obtain ⟨L4, hL4⟩ : ∃ L4, L4 = L3 ++ CM c.old := ⟨_, rfl⟩
 obtain ⟨L5, hL5⟩ : ∃ L5, L5 = L4 ++ CM c.new := ⟨_, rfl⟩
 have hl3 : L3.length ≤ 1001020 := by rw [hL3, List.length_append]; omega
 have hl4 : L4.length ≤ 1002029 := by rw [hL4, List.length_append]; omega
 have hl5 : L5.length ≤ 1003038 := by rw [hL5, List.length_append]; omega
 have HS3 := Lib.hid (fun (A : Option Addr) (cc : Nat) (W : World) hr => QQ (show L2.length ≤ 1000000000 by omega) (show c.key.length ≤ 1000000000 by omega) hL3 A cc W hr)
 have HS4 := Lib.hid (fun (A : Option Addr) (cc : Nat) (W : World) hr => QQ (show L3.length ≤ 1000000000 by omega) (show c.old.length ≤ 1000000000 by omega) hL4 A cc W hr)
 have HS5 := Lib.hid (fun (A : Option Addr) (cc : Nat) (W : World) hr => QQ (show L4.length ≤ 1000000000 by omega) (show c.new.length ≤ 1000000000 by omega) hL5 A cc W hr)
 have hm5 : L5.length + 1 ≤ maxLen := by unfold maxLen; omega
 have hm6 : (L5.length + 1) * 1 ≤ 140737488355328 := by omega
 have HL5 : Hid (L5 ++ [UInt8.ofNat c.set] = l ++ oneB c) := by show _ = _; rw [hL5, hL4, hL3, hL2, hL1]; unfold oneB; simp
 have HM5 := Lib.hid (And.intro hm5 hm6)
 clear hL2 hL3 hL4 hL5 hn3 hsk hso hsn hl3 hl4 hl5 hm5 hm6
 have BTE := Lib.hid bte
 clear hL1 hn1 bte
 have hB1 : Below w.heap.size w (w.alloc (.cells (cmC c) 29)) := (Below.refl _ w).alloc (Nat.le_refl _) _
 have kb := Blk.new w 29 (cmC c)
 have HB0 := Lib.hid hB1
 have hw1s := Lib.hid hB1.size
 have hr1 := (hr.below hB1).more hB1.size
 unfold cmV
 unfold cmC at *
 go_enter Tryz.func111, Tryz.ntmps111
 go_upto_region 1 with fail
 generalize hw1 : w.alloc (.cells #[.int .u8 (c.client : Int), .int .u32 (c.seq : Int), .int .u8 (c.kind : Int), .string ⟨c.key.toArray⟩, .string ⟨c.old.toArray⟩, .string ⟨c.new.toArray⟩, .int .u8 (c.set : Int)] 29) = w1 at *
 have k0 : w1.cell? ⟨w.heap.size, 0, none⟩ = some (.int .u8 (c.client : Int)) := kb.cell 0
 have hlt := kb.lt
 have kc0 := k0
 have HCL := Lib.hid (fun W hW => UH A cap l (by omega) W hW)
 have hm1 : l.length + 1 ≤ maxLen := by unfold maxLen; omega
 have hm2 : (l.length + 1) * 1 ≤ 140737488355328 := by omega
 have kz0 : ∀ o, (w1.alloc o).cell? ⟨w.heap.size, 0, none⟩ = some (.int .u8 (c.client : Int)) := fun o => (kb.alloc o).cell 0
 have bX : Below w1.heap.size w1 (w1.alloc (.cells #[.int .u8 (c.client : Int)] 5)).drew := ((Below.refl _ w1).alloc (Nat.le_refl _) _).drew
 have hrX := (hr1.below bX).more bX.size
 have rX : Reads (w1.alloc (.cells #[.int .u8 (c.client : Int)] 5)) (w1.alloc (.cells #[.int .u8 (c.client : Int)] 5)).heap.size 1 (some ⟨w1.heap.size, 0, none⟩) 1 [.int .u8 (c.client : Int)] := Reads.of_own (FQ (w := w1) (base := 0) 5 (.int .u8 (c.client : Int)) (Nat.zero_le _))
 have hltX : w.heap.size < (w1.alloc (.cells #[.int .u8 (c.client : Int)] 5)).drew.heap.size := Nat.lt_of_lt_of_le hlt bX.size
 have kcX : (w1.alloc (.cells #[.int .u8 (c.client : Int)] 5)).drew.cell? ⟨w.heap.size, 0, none⟩ = some (.int .u8 (c.client : Int)) := kz0 _
 clear hw1 hB1
 go_cut [5] (fun s wx => wx.ownsRow w1.heap.size 5 1 s (l.length + 1) (bv l ++ [.int .u8 (c.client : Int)]) ∧ Below w1.heap.size w1 wx)
 case first =>
  -- [[
  go_region_held_law (fun W : World => W.cell? ⟨w.heap.size, 0, none⟩ = some (.int .u8 (c.client : Int))) (first | go_keep | exact k0) (first
   | (go_simp; go_at_call 177; refine (HCL.out w1.drew hr1).mono ?_; rintro e w2 ⟨v2, rfl, own2, B2⟩; have k0 := (B2.cell hlt).trans k0)
   | (refine DX _ (by rfl) (.tmp 9) (.tmp 12) 103 (by rfl) _ 5 i0 (.int .u8 0) 1 1 Tryz.underlying103 hi hz0 hz1 hz2 rfl (by omega) v2 _ _ (by rfl) (own2.alloc _) _ _ 1 1 [.int .u8 (c.client : Int)] (by rfl) (Reads.of_own (FQ (base := 0) 5 _ (Nat.zero_le _))) (by simp [Value.oneCell']) hm1 hm2 (Nat.le_trans B2.size (by simp)) ?_; intro v3 w3 own3 g3 at3; have b3 := GO own2 B2 B2.size g3; have k0 := (b3.cell hlt).trans kc0)
   | (go_simp; go_at_call 177; refine (HCL.out (w1.alloc (.cells #[.int .u8 (c.client : Int)] 5)).drew hrX).mono ?_; rintro e w2 ⟨v2, rfl, own2, B2⟩; have k0 := (B2.cell hltX).trans kcX)
   | (refine DX _ (by rfl) (.tmp 9) (.tmp 12) 103 (by rfl) _ 5 i0 (.int .u8 0) 1 1 Tryz.underlying103 hi hz0 hz1 hz2 rfl (by omega) v2 _ _ (by rfl) own2 _ _ 1 1 [.int .u8 (c.client : Int)] (by rfl) (rX.drew.below B2) (by simp [Value.oneCell']) hm1 hm2 B2.size ?_; intro v3 w3 own3 g3 at3; have b3 := B2.grown g3 B2.size (fun k hk => (own2.lt k hk).1); have k0 := (b3.cell hltX).trans kcX))
  all_goals
   simp only [List.getElem_toArray, List.getElem_cons_succ, List.getElem_cons_zero, List.set_cons_zero, List.set_cons_succ]
   go_wp2_with fail
   go_meet
   first | exact ⟨own3, (Below.refl _ w1).drew.trans b3⟩ | exact ⟨Lc own3 bX.size, bX.trans (b3.mono bX.size)⟩
  -- ]]
 case rest =>
  obtain ⟨own, bw⟩ := hcut
  rw [HE1.out, HN1.out] at own
  obtain ⟨A1, c1, rfl, r1, own⟩ := Jb own
  have kc := kb.below bw hlt
  have kk1 : wc.cell? ⟨w.heap.size, 1, none⟩ = some (.int .u32 (c.seq : Int)) := kc.cell 1
  have kk2 : wc.cell? ⟨w.heap.size, 2, none⟩ = some (.int .u8 (c.kind : Int)) := kc.cell 2
  have hltc := kc.lt
  have hb1 : w1.heap.size ≤ wc.heap.size := bw.size
  have hwr : IntKind.u64.wrap (c.seq : Int) = (c.seq : Int) := by rw [IntKind.wrap_u64]; omega
  have HCL2 := Lib.hid (fun W hW => Ip A1 c1 L1 c.seq (by omega) (by omega) W hW)
  have hm3 : (L1 ++ BI c.seq).length + 1 ≤ maxLen := by unfold maxLen; omega
  have hm4 : ((L1 ++ BI c.seq).length + 1) * 1 ≤ 140737488355328 := by omega
  have kz : ∀ o, (wc.alloc o).cell? ⟨w.heap.size, 1, none⟩ = some (.int .u32 (c.seq : Int)) ∧ (wc.alloc o).cell? ⟨w.heap.size, 2, none⟩ = some (.int .u8 (c.kind : Int)) := fun o => ⟨(kc.alloc o).cell 1, (kc.alloc o).cell 2⟩
  have bX2 : Below wc.heap.size wc (wc.alloc (.cells #[.int .u8 (c.kind : Int)] 5)).drew := ((Below.refl _ wc).alloc (Nat.le_refl _) _).drew
  have hrX2 := (r1.below bX2).more bX2.size
  have rX2 : Reads (wc.alloc (.cells #[.int .u8 (c.kind : Int)] 5)) (wc.alloc (.cells #[.int .u8 (c.kind : Int)] 5)).heap.size 1 (some ⟨wc.heap.size, 0, none⟩) 1 [.int .u8 (c.kind : Int)] := Reads.of_own (FQ (w := wc) (base := 0) 5 (.int .u8 (c.kind : Int)) (Nat.zero_le _))
  have hltX2 : w.heap.size < (wc.alloc (.cells #[.int .u8 (c.kind : Int)] 5)).drew.heap.size := Nat.lt_of_lt_of_le hltc bX2.size
  have kcX2 : (wc.alloc (.cells #[.int .u8 (c.kind : Int)] 5)).drew.cell? ⟨w.heap.size, 1, none⟩ = some (.int .u32 (c.seq : Int)) ∧ (wc.alloc (.cells #[.int .u8 (c.kind : Int)] 5)).drew.cell? ⟨w.heap.size, 2, none⟩ = some (.int .u8 (c.kind : Int)) := kz _
  clear own hlt k0 kc0 HCL kz0 bX hrX rX hltX kcX hr hr1 hm1 hm2
  go_upto_region 2 with fail
  go_cut [5] (fun s wx => wx.ownsRow w1.heap.size 5 1 s ((L1 ++ BI c.seq).length + 1) (bv (L1 ++ BI c.seq) ++ [.int .u8 (c.kind : Int)]) ∧ Below w1.heap.size w1 wx)
  case first =>
   -- [[
   go_region_held_law (fun W : World => W.cell? ⟨w.heap.size, 1, none⟩ = some (.int .u32 (c.seq : Int)) ∧ W.cell? ⟨w.heap.size, 2, none⟩ = some (.int .u8 (c.kind : Int))) (first | go_keep | exact ⟨kk1, kk2⟩ | exact kk0) (first
    | (go_simp; go_at_call 88; refine (HCL2.out wc.drew r1).mono ?_; rintro e w2 ⟨v2, rfl, own2, B2⟩; have kk0 := And.intro ((B2.cell hltc).trans kk1) ((B2.cell hltc).trans kk2))
    | (refine DX _ (by rfl) (.tmp 18) (.tmp 21) 103 (by rfl) _ 5 i0 (.int .u8 0) 1 1 Tryz.underlying103 hi hz0 hz1 hz2 rfl (by omega) v2 _ _ (by rfl) (own2.alloc _) _ _ 1 1 [.int .u8 (c.kind : Int)] (by rfl) (Reads.of_own (FQ (base := 0) 5 _ (Nat.zero_le _))) (by simp [Value.oneCell']) hm3 hm4 (Nat.le_trans B2.size (by simp)) ?_; intro v3 w3 own3 g3 at3; have b3 := GO own2 B2 B2.size g3; have kk0 := And.intro ((b3.cell hltc).trans kk1) ((b3.cell hltc).trans kk2))
    | (go_simp; go_at_call 88; refine (HCL2.out (wc.alloc (.cells #[.int .u8 (c.kind : Int)] 5)).drew hrX2).mono ?_; rintro e w2 ⟨v2, rfl, own2, B2⟩; have kk0 := And.intro ((B2.cell hltX2).trans kcX2.1) ((B2.cell hltX2).trans kcX2.2))
    | (refine DX _ (by rfl) (.tmp 18) (.tmp 21) 103 (by rfl) _ 5 i0 (.int .u8 0) 1 1 Tryz.underlying103 hi hz0 hz1 hz2 rfl (by omega) v2 _ _ (by rfl) own2 _ _ 1 1 [.int .u8 (c.kind : Int)] (by rfl) (rX2.drew.below B2) (by simp [Value.oneCell']) hm3 hm4 B2.size ?_; intro v3 w3 own3 g3 at3; have b3 := B2.grown g3 B2.size (fun k hk => (own2.lt k hk).1); have kk0 := And.intro ((b3.cell hltX2).trans kcX2.1) ((b3.cell hltX2).trans kcX2.2)))
   all_goals
    simp only [List.getElem_toArray, List.getElem_cons_succ, List.getElem_cons_zero, List.set_cons_zero, List.set_cons_succ]
    go_wp2_with fail
    go_meet
    first | exact ⟨Lc own3 hb1, bw.trans ((Below.refl _ wc).drew.trans b3 |>.mono hb1)⟩ | exact ⟨Lc own3 (Nat.le_trans hb1 bX2.size), bw.trans ((bX2.trans (b3.mono bX2.size)).mono hb1)⟩
   -- ]]
  case rest =>
   obtain ⟨own, bw2⟩ := hcut
   rw [HE2.out, HN2.out] at own
   obtain ⟨A2, c2, rfl, r2, own⟩ := Jb own
   have kc2 := kb.below bw2 kb.lt
   clear kk1 kk2 hltc hb1 HCL2 kz bX2 hrX2 rX2 hltX2 kcX2 r1 own hm3 hm4
   have k3 : wc.cell? ⟨w.heap.size, 3, none⟩ = some (.string ⟨c.key.toArray⟩) := kc2.cell 3
   have k4 : wc.cell? ⟨w.heap.size, 4, none⟩ = some (.string ⟨c.old.toArray⟩) := kc2.cell 4
   have k5 : wc.cell? ⟨w.heap.size, 5, none⟩ = some (.string ⟨c.new.toArray⟩) := kc2.cell 5
   have kd := Blk.new wc 9 #[.string ⟨c.key.toArray⟩, .string ⟨c.old.toArray⟩, .string ⟨c.new.toArray⟩]
   have kcd := kc2.alloc (.cells #[.string ⟨c.key.toArray⟩, .string ⟨c.old.toArray⟩, .string ⟨c.new.toArray⟩] 9)
   have bwd := bw2.alloc bw2.size (.cells #[.string ⟨c.key.toArray⟩, .string ⟨c.old.toArray⟩, .string ⟨c.new.toArray⟩] 9)
   have bb1 : Below wc.heap.size wc (wc.alloc (.cells #[.string ⟨c.key.toArray⟩, .string ⟨c.old.toArray⟩, .string ⟨c.new.toArray⟩] 9)) := (Below.refl _ wc).alloc (Nat.le_refl _) _
   have rd := (r2.below bb1).more bb1.size
   clear bb1 bw2 r2
   go_wp2_with fail
   obtain ⟨gd, hgd⟩ : ∃ gd, gd = wc.heap.size := ⟨_, rfl⟩
   generalize wc.alloc (.cells #[.string ⟨c.key.toArray⟩, .string ⟨c.old.toArray⟩, .string ⟨c.new.toArray⟩] 9) = wd at *
   rw [← hgd] at kd ⊢
   clear k3 k4 k5 hgd kc2
   obtain ⟨d0, d1, d2⟩ := kd.c3
   refine wp_loop_rounds 4 ?_
   rw [rounds_succ]
   go_wp2_with fail
   refine (HS3.out A2 c2 _ rd).mono ?_; rintro e w4 ⟨A4, c4, rfl, r4, own4, B4⟩
   have kd4 := kd.below B4 kd.lt
   have kc4 := kcd.below B4 kcd.lt
   have bw4 := bwd.trans (B4.mono bwd.size)
   clear kd kcd bwd rd own4 B4 d0 d1 d2
   obtain ⟨d0, d1, d2⟩ := kd4.c3
   go_wp2_with fail
   rw [rounds_succ]
   go_wp2_with fail
   refine (HS4.out A4 c4 _ r4).mono ?_; rintro e w5 ⟨A5, c5, rfl, r5, own5, B5⟩
   have kd5 := kd4.below B5 kd4.lt
   have kc5 := kc4.below B5 kc4.lt
   have bw5 := bw4.trans (B5.mono bw4.size)
   clear kd4 kc4 bw4 r4 own5 B5 d0 d1 d2
   obtain ⟨d0, d1, d2⟩ := kd5.c3
   go_wp2_with fail
   rw [rounds_succ]
   go_wp2_with fail
   refine (HS5.out A5 c5 _ r5).mono ?_; rintro e w6 ⟨A6, c6, rfl, r6, own6, B6⟩
   have kc6 := kc5.below B6 kc5.lt
   have bw6 := bw5.trans (B6.mono bw5.size)
   have own6 := Lc own6 bw5.size
   clear kd5 kc5 bw5 r5 B6 d0 d1 d2
   have k6 : w6.cell? ⟨w.heap.size, 6, none⟩ = some (.int .u8 (c.set : Int)) := kc6.cell 6
   have b6 := bw6.alloc bw6.size (.cells #[.int .u8 (c.set : Int)] 5)
   go_wp2_with fail
   rw [rounds_succ]
   go_wp2_with (at_builtin; go_must (refine Ej _ rfl (.tmp 39) (.tmp 42) _ rfl w1.heap.size 5 i0 (.int .u8 0) 1 1 Tryz.underlying103 hi hz0 hz1 hz2 rfl (by omega) (.slice A6 L5.length c6) _ _ rfl (own6.alloc _) _ _ 1 1 [.int .u8 (c.set : Int)] rfl (Reads.of_own (FQ (base := 0) 5 _ (Nat.zero_le _))) (by simp [Value.oneCell']) HM5.out.1 HM5.out.2 (Nat.le_trans bw6.size (by simp)) ?_); intro v7 w7 own7 g7 at7)
   have b7 := b6.grown g7 b6.size (fun k hk => (own6.lt k hk).1)
   go_ret
   rw [BTE.out _ h7, ← F4, HL5.out] at own7
   have e8 : L5.length + 1 = (l ++ oneB c).length := by rw [← HL5.out, List.length_append]; rfl
   rw [e8] at own7
   exact ⟨v7, rfl, Lc own7 hw1s.out, HB0.out.trans (b7.mono hw1s.out)⟩
end Go.Proofs.YteiaiilfekojfaaGreat.Cmd
end
section
set_option linter.unusedVariables false
namespace Go.Proofs.YteiaiilfekojfaaGreat.Msg
open Go.RowKit Wire Sx DrawInv

section
variable {base n : Nat} {v : Value} {xs : List Value} {w : World}
theorem EO {l l' : List UInt8} (h : w.ownsRow base 5 1 v l.length (bv l)) (he : l = l') : w.ownsRow base 5 1 v l'.length (bv l') := he ▸ h
theorem Jd (l : List UInt8) (x : Nat) (hx : x < 18446744073709551616) (hl : l.length ≤ 1000000000) (h : w.ownsRow base 5 1 v n xs) (hn : n = l.length) (hxs : xs = bv l) :
  Calls Tryz.prog 88 #[v, .int .u64 (x : Int)] w fun E w' => ∃ v', E = .returned v' ∧ w'.ownsRow w.heap.size 5 1 v' (l ++ BI x).length (bv (l ++ BI x)) ∧ Below w.heap.size w w' := by
 subst hn hxs
 obtain ⟨A, c, rfl, hr⟩ := DG h
 exact Ip A c l x hx (by omega) w hr
theorem MN (l s : List UInt8) (hl : l.length ≤ 1000000000) (hs : s.length ≤ 1000000000) (h : w.ownsRow base 5 1 v n xs) (hn : n = l.length) (hxs : xs = bv l) :
  Calls Tryz.prog 122 #[v, .string ⟨s.toArray⟩] w fun E w' => ∃ v', E = .returned v' ∧ w'.ownsRow w.heap.size 5 1 v' (l ++ CM s).length (bv (l ++ CM s)) ∧ Below w.heap.size w w' := by
 subst hn hxs
 obtain ⟨A, c, rfl, hr⟩ := DG h
 exact S4 A c l s hl hs w hr
theorem Tm (l : List UInt8) (b r : Nat) (h1 : b < 18446744073709551616) (h2 : r < 256) (hl : l.length ≤ 1000000000) (h : w.ownsRow base 5 1 v n xs) (hn : n = l.length) (hxs : xs = bv l) :
  Calls Tryz.prog 132 #[v, .agg #[.int .u64 (b : Int), .int .u8 (r : Int)]] w fun E w' => ∃ v', E = .returned v' ∧ w'.ownsRow w.heap.size 5 1 v' (l ++ Bal.balB ⟨b, r⟩).length (bv (l ++ Bal.balB ⟨b, r⟩)) ∧ Below w.heap.size w w' := by
 subst hn hxs
 obtain ⟨A, c, rfl, hr⟩ := DG h
 exact Bal.put_own A c l ⟨b, r⟩ h1 h2 hl w hr
theorem X5 (l : List UInt8) (c : Cmd.Cm) (hc : c.Fits) (hl : l.length ≤ 1000000) (hk : c.key.length ≤ 1000) (ho : c.old.length ≤ 1000) (hw : c.new.length ≤ 1000) (h : w.ownsRow base 5 1 v n xs) (hn : n = l.length) (hxs : xs = bv l) :
  Calls Tryz.prog 111 #[v, Cmd.cmV c] w fun E w' => ∃ v', E = .returned v' ∧ w'.ownsRow w.heap.size 5 1 v' (l ++ Cmd.oneB c).length (bv (l ++ Cmd.oneB c)) ∧ Below w.heap.size w w' := by
 subst hn hxs
 obtain ⟨A, cp, rfl, hr⟩ := DG h
 exact Cmd.put_any c hc l hl hk ho hw A cp w hr
end
theorem MU (l : List UInt8) (x : Nat) (hx : x < 256) : bv l ++ [Value.int .u8 (x : Int)] = bv (l ++ [UInt8.ofNat x]) := by
 rw [F4]
 congr 1
 show _ = [Value.int .u8 ((UInt8.ofNat x).toNat : Int)]
 rw [show (UInt8.ofNat x).toNat = x from by simp; omega]
def Il (base : Nat) (v : Value) (w : World) (l : List UInt8) (e : Ending) (w' : World) : Prop := ∃ v', e = .returned v' ∧ w'.ownsRow base 5 1 v' l.length (bv l) ∧ OwnIn w v.ownBlock.toList v' ∧ Outs v.ownBlock.toList w w'
def HJ (l : List Vo) (k : Nat) : List UInt8 := BI l.length ++ (l.take k).flatMap voB
def Io (l : List Im) (k : Nat) : List UInt8 := BI l.length ++ (l.take k).flatMap imB
theorem D1 {α : Type} {l : List α} {k : Nat} {x : α} (h : l[k]? = some x) : l.take (k + 1) = l.take k ++ [x] := by
 rw [List.take_add_one, h]; rfl
theorem LJ {l : List Vo} {k : Nat} {x : Vo} (h : l[k]? = some x) : HJ l (k + 1) = HJ l k ++ voB x := by
 unfold HJ; rw [D1 h, List.flatMap_append]; simp
theorem LL {l : List Im} {k : Nat} {x : Im} (h : l[k]? = some x) : Io l (k + 1) = Io l k ++ imB x := by
 unfold Io; rw [D1 h, List.flatMap_append]; simp
theorem Eu {l : List Vo} {k : Nat} (h : l.length ≤ k) : HJ l k = BI l.length ++ l.flatMap voB := by unfold HJ; rw [List.take_of_length_le h]
theorem Ew {l : List Im} {k : Nat} (h : l.length ≤ k) : Io l k = BI l.length ++ l.flatMap imB := by unfold Io; rw [List.take_of_length_le h]
theorem Pg {α : Type} (f : α → List UInt8) (m : Nat) : ∀ (l : List α), (∀ x ∈ l, (f x).length ≤ m) → (l.flatMap f).length ≤ l.length * m
 | [], _ => by simp
 | x :: l, h => by
  have h1 := h x (List.mem_cons_self ..)
  have h2 := Pg f m l fun y hy => h y (List.mem_cons_of_mem _ hy)
  rw [List.flatMap_cons, List.length_append, List.length_cons, Nat.succ_mul]; omega
theorem Gt (s : List UInt8) (h : s.length < 18446744073709551616) : (CM s).length ≤ 9 + s.length := by
 unfold CM; rw [List.length_append]; have := (B0 s.length h).1; omega
theorem MV (n r : Nat) (h : n < 18446744073709551616) : (Bal.balB ⟨n, r⟩).length ≤ 10 := by
 unfold Bal.balB; rw [List.length_append]; have := (B0 n h).1; simp; omega
theorem WM (v : Vo) (h : v.Fits) (hs : v.value.length ≤ 1000) : (voB v).length ≤ 1028 := by
 unfold voB
 have h1 := (B0 v.slot h.h1).1
 have h2 := MV v.n v.r h.h2
 have h3 := Gt v.value (by omega)
 rw [List.length_append, List.length_append]; omega
theorem Xl (v : Im) (h : v.slot < 18446744073709551616) (hs : v.value.length ≤ 1000) : (imB v).length ≤ 1028 := by
 unfold imB
 have h1 := (B0 v.slot h).1
 have h3 := Gt v.value (by omega)
 rw [List.length_append]; omega
theorem LR {α : Type} (f : α → List UInt8) (l : List α) (k : Nat) : ((l.take k).flatMap f).length ≤ (l.flatMap f).length := by
 conv => rhs; rw [← List.take_append_drop k l, List.flatMap_append, List.length_append]
 omega
theorem Nr (l : List Vo) (k : Nat) (hl : l.length ≤ 100000) (hw : (l.flatMap voB).length ≤ 400000) : (HJ l k).length ≤ 2000000 := by
 unfold HJ
 have h1 := (B0 l.length (by omega)).1
 have h2 := LR voB l k
 rw [List.length_append]; omega
theorem Ns (l : List Im) (k : Nat) (hl : l.length ≤ 100000) (hw : (l.flatMap imB).length ≤ 400000) : (Io l k).length ≤ 2000000 := by
 unfold Io
 have h1 := (B0 l.length (by omega)).1
 have h2 := LR imB l k
 rw [List.length_append]; omega
end Go.Proofs.YteiaiilfekojfaaGreat.Msg
end
section
set_option linter.unusedVariables false
set_option linter.unusedSimpArgs false
namespace Go.Proofs.YteiaiilfekojfaaGreat.Msg
open Go.RowKit Sx Wire DrawInv
theorem XY {w : World} {base n : Nat} {v : Value} {xs : List Value} {l : List UInt8} (h : w.ownsRow base 5 1 v n xs) (hn : n = l.length) (hx : xs = bv l) : w.ownsRow base 5 1 v l.length (bv l) := by subst hn hx; exact h

set_option maxRecDepth 100000 in
set_option maxHeartbeats 4000000 in
theorem WQ (base : Nat) (v : Value) (l : List UInt8) (mk mn mr mb ms mo ca cb ck cz mc : Nat) (mv cs ct cu mt : List UInt8) (vl : List Vo) (il : List Im) (A B : Option Addr) (ka kb : Nat) (w : World) (hf : Ms.Fits ⟨mk, mn, mr, mb, ms, mo, mv, vl, il, ⟨ca, cb, ck, cs, ct, cu, cz⟩, mc, mt⟩) (hs : Ms.Small ⟨mk, mn, mr, mb, ms, mo, mv, vl, il, ⟨ca, cb, ck, cs, ct, cu, cz⟩, mc, mt⟩) (hl : l.length ≤ 1000000) (hbase : base ≤ w.heap.size) (hown : w.ownsRow base 5 1 v l.length (bv l)) : Calls Tryz.prog 110 #[v, .agg #[.int .u8 (mk : Int), .int .u64 (mn : Int), .int .u8 (mr : Int), .int .u64 (mb : Int), .int .u64 (ms : Int), .int .u8 (mo : Int), .string ⟨mv.toArray⟩, .slice A vl.length ka, .slice B il.length kb, .int .u8 (ca : Int), .int .u32 (cb : Int), .int .u8 (ck : Int), .string ⟨cs.toArray⟩, .string ⟨ct.toArray⟩, .string ⟨cu.toArray⟩, .int .u8 (cz : Int), .int .u8 (mc : Int), .string ⟨mt.toArray⟩]] w fun e w' => Il base v w (l ++ Pt.put .cmd ⟨mk, mn, mr, mb, ms, mo, mv, vl, il, ⟨ca, cb, ck, cs, ct, cu, cz⟩, mc, mt⟩) e w' := by
 have hv0 : OwnIn w v.ownBlock.toList v := OwnIn.refl w v
 obtain ⟨f1, f2, f3, f4, f5, f6, f7, f8, f9, f10⟩ := hf
 obtain ⟨s1, s2, s3, s4, s5, s6, s7, s8, s9, s10, s11⟩ := hs
 have hf := f9
 dsimp only at f1 f2 f3 f4 f5 f6 f7 f8 f10 s1 s2 s3 s4 s5 s6 s7 s8 s9 s10 s11
 have hfc := f9.h1
 have hfs := f9.h2
 dsimp only at hfc hfs
 refine A0 (n := 9) _ Tryz.func110 rfl rfl rfl (Hp.row hown) (Ae (Ac ?_))
 refine zB rfl fun g1 hg1 => ?_
 refine za rfl (Ad (Aa (Ae (Ac (zm rfl (zf 9 Bd rfl (zv 0 [.int .u8 (ca : Int), .int .u32 (cb : Int), .int .u8 (ck : Int), .string ⟨cs.toArray⟩, .string ⟨ct.toArray⟩, .string ⟨cu.toArray⟩, .int .u8 (cz : Int)] Tryz.underlying29 BG rfl ?_)))))))
 refine AP (σ := Value) (fun s => s) (fun s => OwnIn w [] s) (fun s => _) trivial rfl rfl (zk KH rfl) (EW (fun w H => X5 l ⟨ca, cb, ck, cs, ct, cu, cz⟩ f9 (by omega) s6 s7 s8 (H.get (i := 1) rfl) rfl rfl)) fun v8 hv8 => ?_
 refine za rfl (Ad (Aa (Am ?_)))
 refine Ai (v8) (fun a w K H => BC K rfl rfl) (fun w H => ?_)
 exact ⟨_, rfl, EO (CY (H.get (i := 0) rfl) hbase) (by simp [Pt.put, voB, imB]), hv8.wid, H.toOuts _ ⟨(zj hv8.fresh), (zh hg1), (fun g hg => (hv0.in_ g hg).imp (fun h => by simp [h]) id), trivial⟩⟩

set_option maxRecDepth 100000 in
set_option maxHeartbeats 4000000 in
theorem V0 (base : Nat) (v : Value) (l : List UInt8) (mk mn mr mb ms mo ca cb ck cz mc : Nat) (mv cs ct cu mt : List UInt8) (vl : List Vo) (il : List Im) (A B : Option Addr) (ka kb : Nat) (w : World) (hf : Ms.Fits ⟨mk, mn, mr, mb, ms, mo, mv, vl, il, ⟨ca, cb, ck, cs, ct, cu, cz⟩, mc, mt⟩) (hs : Ms.Small ⟨mk, mn, mr, mb, ms, mo, mv, vl, il, ⟨ca, cb, ck, cs, ct, cu, cz⟩, mc, mt⟩) (hl : l.length ≤ 1000000) (hbase : base ≤ w.heap.size) (hown : w.ownsRow base 5 1 v l.length (bv l)) : Calls Tryz.prog 117 #[v, .agg #[.int .u8 (mk : Int), .int .u64 (mn : Int), .int .u8 (mr : Int), .int .u64 (mb : Int), .int .u64 (ms : Int), .int .u8 (mo : Int), .string ⟨mv.toArray⟩, .slice A vl.length ka, .slice B il.length kb, .int .u8 (ca : Int), .int .u32 (cb : Int), .int .u8 (ck : Int), .string ⟨cs.toArray⟩, .string ⟨ct.toArray⟩, .string ⟨cu.toArray⟩, .int .u8 (cz : Int), .int .u8 (mc : Int), .string ⟨mt.toArray⟩]] w fun e w' => Il base v w (l ++ Pt.put .name ⟨mk, mn, mr, mb, ms, mo, mv, vl, il, ⟨ca, cb, ck, cs, ct, cu, cz⟩, mc, mt⟩) e w' := by
 have hv0 : OwnIn w v.ownBlock.toList v := OwnIn.refl w v
 obtain ⟨f1, f2, f3, f4, f5, f6, f7, f8, f9, f10⟩ := hf
 obtain ⟨s1, s2, s3, s4, s5, s6, s7, s8, s9, s10, s11⟩ := hs
 have hf := f9
 dsimp only at f1 f2 f3 f4 f5 f6 f7 f8 f10 s1 s2 s3 s4 s5 s6 s7 s8 s9 s10 s11
 have hfc := f9.h1
 have hfs := f9.h2
 dsimp only at hfc hfs
 refine A0 (n := 16) _ Tryz.func117 rfl rfl rfl (Hp.row hown) (Ae (Ac ?_))
 refine zB rfl fun g1 hg1 => ?_
 refine za rfl (Ad (Aa (Ae (BN (v.ownBlock.toList ++ []) [0] (by kernel_rfl) rfl ⟨(zh hg1), (fun g hg => (hv0.in_ g hg).imp (fun h => by simp only [List.mem_append]; simp [h]) id), trivial⟩ (ym 0 rfl (by kernel_rfl) zI (yf 1 9 Bd rfl (by kernel_rfl) zI (yf 2 9 CG rfl (by kernel_rfl) zI (yl 3 0 Tryz.underlying5 rfl (by kernel_rfl) zI (yf 6 9 Bd rfl (by kernel_rfl) zI ?_)))))))))
 refine yf 7 10 CE rfl (by kernel_rfl) zI (yl 8 0 Tryz.underlying27 rfl (by kernel_rfl) zI (yt (i := 9) (v := .int .u64 (cb : Int)) (by kernel_rfl) zI rfl rfl rfl rfl (fun ρ w E H => DN E rfl Tryz.underlying27 Tryz.underlying22 rfl (by rw [IntKind.wrap_u64]; omega)) (yr 4 (by kernel_rfl) ?_)))
 refine Dc (cs := [.int .u8 (ca : Int)]) rfl trivial rfl rfl (fun ρ w E H => AV E rfl rfl Tryz.underlying103 DC Fz rfl rfl (by kernel_rfl)) (fun g2 w hg2 H => H.ks (v.ownBlock.toList ++ []) [1] rfl ⟨(zh hg2), (zh hg1), (fun g hg => (hv0.in_ g hg).imp (fun h => by simp only [List.mem_append]; simp [h]) id), trivial⟩) fun g2 hg2 => ?_
 refine yr 5 (by kernel_rfl) ?_
 refine BZ (i := 2) (news := [.int .u8 (ca : Int)]) rfl trivial rfl rfl rfl Tryz.underlying103 Nx rfl rfl rfl rfl hv0 rfl (fun w H => CS H (i := 0) rfl rfl) (D4 rfl) (by unfold maxLen; omega) (by omega) hbase (fun A10 k10 w hv10 H => H.ks (v.ownBlock.toList ++ []) [1] rfl ⟨(zh hg2), (zh hg1), (fun g hg => (hv10.in_ g hg).imp (fun h => by simp only [List.mem_append]; simp [h]) id), trivial⟩) fun A10 k10 hv10 => ?_
 refine yr 10 (by kernel_rfl) ?_
 refine G0 (σ := Value) (fun s => s) (fun s => OwnIn w [] s) (fun s => _) rfl trivial rfl rfl (zk Dy rfl) (EW (fun w H => Jd (l ++ [UInt8.ofNat ca]) cb (by omega) (by (try simp only [List.length_append, List.length_cons, List.length_nil]); omega) (H.get (i := 2) rfl) (by simp) (MU l ca (by omega)))) (fun v15 w hv15 H => H.ks (v.ownBlock.toList ++ []) [2] rfl ⟨(zj hv15.fresh), (zh hg2), (zh hg1), (fun g hg => (hv10.in_ g hg).imp (fun h => by simp only [List.mem_append]; simp [h]) id), trivial⟩) fun v15 hv15 => ?_
 refine yA 11 rfl (by kernel_rfl) zI (BE (by kernel_rfl) (Aa (Am ?_)))
 refine Ai (v15) (fun a w K H => BC K rfl rfl) (fun w H => ?_)
 exact ⟨_, rfl, EO (CY (H.get (i := 0) rfl) hbase) (by simp [Pt.put, voB, imB]), hv15.wid, H.toOuts _ ⟨(zj hv15.fresh), (zh hg2), (zh hg1), (fun g hg => (hv10.in_ g hg).imp (fun h => by simp [h]) id), trivial⟩⟩

set_option maxRecDepth 100000 in
set_option maxHeartbeats 4000000 in
theorem TW (base : Nat) (v : Value) (l : List UInt8) (mk mn mr mb ms mo ca cb ck cz mc : Nat) (mv cs ct cu mt : List UInt8) (vl : List Vo) (il : List Im) (A B : Option Addr) (ka kb : Nat) (w : World) (hf : Ms.Fits ⟨mk, mn, mr, mb, ms, mo, mv, vl, il, ⟨ca, cb, ck, cs, ct, cu, cz⟩, mc, mt⟩) (hs : Ms.Small ⟨mk, mn, mr, mb, ms, mo, mv, vl, il, ⟨ca, cb, ck, cs, ct, cu, cz⟩, mc, mt⟩) (hl : l.length ≤ 1000000) (hbase : base ≤ w.heap.size) (hown : w.ownsRow base 5 1 v l.length (bv l)) : Calls Tryz.prog 121 #[v, .agg #[.int .u8 (mk : Int), .int .u64 (mn : Int), .int .u8 (mr : Int), .int .u64 (mb : Int), .int .u64 (ms : Int), .int .u8 (mo : Int), .string ⟨mv.toArray⟩, .slice A vl.length ka, .slice B il.length kb, .int .u8 (ca : Int), .int .u32 (cb : Int), .int .u8 (ck : Int), .string ⟨cs.toArray⟩, .string ⟨ct.toArray⟩, .string ⟨cu.toArray⟩, .int .u8 (cz : Int), .int .u8 (mc : Int), .string ⟨mt.toArray⟩]] w fun e w' => Il base v w (l ++ Pt.put .reply ⟨mk, mn, mr, mb, ms, mo, mv, vl, il, ⟨ca, cb, ck, cs, ct, cu, cz⟩, mc, mt⟩) e w' := by
 have hv0 : OwnIn w v.ownBlock.toList v := OwnIn.refl w v
 obtain ⟨f1, f2, f3, f4, f5, f6, f7, f8, f9, f10⟩ := hf
 obtain ⟨s1, s2, s3, s4, s5, s6, s7, s8, s9, s10, s11⟩ := hs
 have hf := f9
 dsimp only at f1 f2 f3 f4 f5 f6 f7 f8 f10 s1 s2 s3 s4 s5 s6 s7 s8 s9 s10 s11
 have hfc := f9.h1
 have hfs := f9.h2
 dsimp only at hfc hfs
 refine A0 (n := 15) _ Tryz.func121 rfl rfl rfl (Hp.row hown) (Ae (Ac ?_))
 refine zB rfl fun g1 hg1 => ?_
 refine za rfl (Ad (Aa (Ae (BN (v.ownBlock.toList ++ []) [0] (by kernel_rfl) rfl ⟨(zh hg1), (fun g hg => (hv0.in_ g hg).imp (fun h => by simp only [List.mem_append]; simp [h]) id), trivial⟩ (ym 0 rfl (by kernel_rfl) zI (yf 1 16 B9 rfl (by kernel_rfl) zI (yf 2 16 DL rfl (by kernel_rfl) zI (yl 3 0 Tryz.underlying5 rfl (by kernel_rfl) zI (yf 6 16 B9 rfl (by kernel_rfl) zI ?_)))))))))
 refine yf 7 17 Dv rfl (by kernel_rfl) zI (yl 8 0 Tryz.underlying9 rfl (by kernel_rfl) zI (yr 4 (by kernel_rfl) ?_))
 refine Dc (cs := [.int .u8 (mc : Int)]) rfl trivial rfl rfl (fun ρ w E H => AV E rfl rfl Tryz.underlying103 DC Fz rfl rfl (by kernel_rfl)) (fun g2 w hg2 H => H.ks (v.ownBlock.toList ++ []) [1] rfl ⟨(zh hg2), (zh hg1), (fun g hg => (hv0.in_ g hg).imp (fun h => by simp only [List.mem_append]; simp [h]) id), trivial⟩) fun g2 hg2 => ?_
 refine yr 5 (by kernel_rfl) ?_
 refine BZ (i := 2) (news := [.int .u8 (mc : Int)]) rfl trivial rfl rfl rfl Tryz.underlying103 Nx rfl rfl rfl rfl hv0 rfl (fun w H => CS H (i := 0) rfl rfl) (D4 rfl) (by unfold maxLen; omega) (by omega) hbase (fun A10 k10 w hv10 H => H.ks (v.ownBlock.toList ++ []) [1] rfl ⟨(zh hg2), (zh hg1), (fun g hg => (hv10.in_ g hg).imp (fun h => by simp only [List.mem_append]; simp [h]) id), trivial⟩) fun A10 k10 hv10 => ?_
 refine yr 9 (by kernel_rfl) ?_
 refine G0 (σ := Value) (fun s => s) (fun s => OwnIn w [] s) (fun s => _) rfl trivial rfl rfl (zk EV rfl) (EW (fun w H => MN (l ++ [UInt8.ofNat mc]) mt (by (try simp only [List.length_append, List.length_cons, List.length_nil]); omega) (by omega) (H.get (i := 2) rfl) (by simp) (MU l mc (by omega)))) (fun v14 w hv14 H => H.ks (v.ownBlock.toList ++ []) [2] rfl ⟨(zj hv14.fresh), (zh hg2), (zh hg1), (fun g hg => (hv10.in_ g hg).imp (fun h => by simp only [List.mem_append]; simp [h]) id), trivial⟩) fun v14 hv14 => ?_
 refine yA 10 rfl (by kernel_rfl) zI (BE (by kernel_rfl) (Aa (Am ?_)))
 refine Ai (v14) (fun a w K H => BC K rfl rfl) (fun w H => ?_)
 exact ⟨_, rfl, EO (CY (H.get (i := 0) rfl) hbase) (by simp [Pt.put, voB, imB]), hv14.wid, H.toOuts _ ⟨(zj hv14.fresh), (zh hg2), (zh hg1), (fun g hg => (hv10.in_ g hg).imp (fun h => by simp [h]) id), trivial⟩⟩

set_option maxRecDepth 100000 in
set_option maxHeartbeats 4000000 in
theorem Vz (base : Nat) (v : Value) (l : List UInt8) (mk mn mr mb ms mo ca cb ck cz mc : Nat) (mv cs ct cu mt : List UInt8) (vl : List Vo) (il : List Im) (A B : Option Addr) (ka kb : Nat) (w : World) (hf : Ms.Fits ⟨mk, mn, mr, mb, ms, mo, mv, vl, il, ⟨ca, cb, ck, cs, ct, cu, cz⟩, mc, mt⟩) (hs : Ms.Small ⟨mk, mn, mr, mb, ms, mo, mv, vl, il, ⟨ca, cb, ck, cs, ct, cu, cz⟩, mc, mt⟩) (hl : l.length ≤ 1000000) (hbase : base ≤ w.heap.size) (hown : w.ownsRow base 5 1 v l.length (bv l)) : Calls Tryz.prog 127 #[v, .agg #[.int .u8 (mk : Int), .int .u64 (mn : Int), .int .u8 (mr : Int), .int .u64 (mb : Int), .int .u64 (ms : Int), .int .u8 (mo : Int), .string ⟨mv.toArray⟩, .slice A vl.length ka, .slice B il.length kb, .int .u8 (ca : Int), .int .u32 (cb : Int), .int .u8 (ck : Int), .string ⟨cs.toArray⟩, .string ⟨ct.toArray⟩, .string ⟨cu.toArray⟩, .int .u8 (cz : Int), .int .u8 (mc : Int), .string ⟨mt.toArray⟩]] w fun e w' => Il base v w (l ++ Pt.put .node ⟨mk, mn, mr, mb, ms, mo, mv, vl, il, ⟨ca, cb, ck, cs, ct, cu, cz⟩, mc, mt⟩) e w' := by
 have hv0 : OwnIn w v.ownBlock.toList v := OwnIn.refl w v
 obtain ⟨f1, f2, f3, f4, f5, f6, f7, f8, f9, f10⟩ := hf
 obtain ⟨s1, s2, s3, s4, s5, s6, s7, s8, s9, s10, s11⟩ := hs
 have hf := f9
 dsimp only at f1 f2 f3 f4 f5 f6 f7 f8 f10 s1 s2 s3 s4 s5 s6 s7 s8 s9 s10 s11
 have hfc := f9.h1
 have hfs := f9.h2
 dsimp only at hfc hfs
 refine A0 (n := 10) _ Tryz.func127 rfl rfl rfl (Hp.row hown) (Ae (Ac ?_))
 refine zB rfl fun g1 hg1 => ?_
 refine za rfl (Ad (Aa (Ae (Ac (zm rfl (zf 5 BW rfl (zl 0 Tryz.underlying5 rfl ?_)))))))
 refine Dx (cs := [.int .u8 (mo : Int)]) trivial rfl rfl (fun ρ w E H => AV E rfl rfl Tryz.underlying103 DC Fz rfl rfl (by kernel_rfl)) fun g2 hg2 => ?_
 refine Ik (i := 2) (news := [.int .u8 (mo : Int)]) trivial rfl rfl rfl Tryz.underlying103 Nx rfl rfl rfl rfl hv0 rfl (fun w H => CS H (i := 0) rfl rfl) (D4 rfl) (by unfold maxLen; omega) (by omega) hbase fun A9 k9 hv9 => ?_
 refine za rfl (Ad (Aa (Am ?_)))
 refine Ai (.slice A9 (l.length + 1) k9) (fun a w K H => BC K rfl rfl) (fun w H => ?_)
 exact ⟨_, rfl, EO (CY (XY (H.get (i := 2) rfl) (by simp) (MU l mo (by omega))) (Nat.le_refl _)) (by simp [Pt.put, voB, imB]), hv9, H.toOuts _ ⟨(zh hg2), (zh hg1), (fun g hg => (hv9.in_ g hg).imp (fun h => by simp [h]) id), trivial⟩⟩

set_option maxRecDepth 100000 in
set_option maxHeartbeats 4000000 in
theorem Vw (base : Nat) (v : Value) (l : List UInt8) (mk mn mr mb ms mo ca cb ck cz mc : Nat) (mv cs ct cu mt : List UInt8) (vl : List Vo) (il : List Im) (A B : Option Addr) (ka kb : Nat) (w : World) (hf : Ms.Fits ⟨mk, mn, mr, mb, ms, mo, mv, vl, il, ⟨ca, cb, ck, cs, ct, cu, cz⟩, mc, mt⟩) (hs : Ms.Small ⟨mk, mn, mr, mb, ms, mo, mv, vl, il, ⟨ca, cb, ck, cs, ct, cu, cz⟩, mc, mt⟩) (hl : l.length ≤ 1000000) (hbase : base ≤ w.heap.size) (hown : w.ownsRow base 5 1 v l.length (bv l)) : Calls Tryz.prog 131 #[v, .agg #[.int .u8 (mk : Int), .int .u64 (mn : Int), .int .u8 (mr : Int), .int .u64 (mb : Int), .int .u64 (ms : Int), .int .u8 (mo : Int), .string ⟨mv.toArray⟩, .slice A vl.length ka, .slice B il.length kb, .int .u8 (ca : Int), .int .u32 (cb : Int), .int .u8 (ck : Int), .string ⟨cs.toArray⟩, .string ⟨ct.toArray⟩, .string ⟨cu.toArray⟩, .int .u8 (cz : Int), .int .u8 (mc : Int), .string ⟨mt.toArray⟩]] w fun e w' => Il base v w (l ++ Pt.put .turn ⟨mk, mn, mr, mb, ms, mo, mv, vl, il, ⟨ca, cb, ck, cs, ct, cu, cz⟩, mc, mt⟩) e w' := by
 have hv0 : OwnIn w v.ownBlock.toList v := OwnIn.refl w v
 obtain ⟨f1, f2, f3, f4, f5, f6, f7, f8, f9, f10⟩ := hf
 obtain ⟨s1, s2, s3, s4, s5, s6, s7, s8, s9, s10, s11⟩ := hs
 have hf := f9
 dsimp only at f1 f2 f3 f4 f5 f6 f7 f8 f10 s1 s2 s3 s4 s5 s6 s7 s8 s9 s10 s11
 have hfc := f9.h1
 have hfs := f9.h2
 dsimp only at hfc hfs
 refine A0 (n := 9) _ Tryz.func131 rfl rfl rfl (Hp.row hown) (Ae (Ac ?_))
 refine zB rfl fun g1 hg1 => ?_
 refine za rfl (Ad (Aa (Ae (Ac (zm rfl (zf 1 BM rfl (zv 0 [.int .u64 (mn : Int), .int .u8 (mr : Int)] Tryz.underlying24 Bi rfl ?_)))))))
 refine AP (σ := Value) (fun s => s) (fun s => OwnIn w [] s) (fun s => _) trivial rfl rfl (zk G7 rfl) (EW (fun w H => Tm l mn mr (by omega) (by omega) (by (try simp only [List.length_append, List.length_cons, List.length_nil]); omega) (H.get (i := 1) rfl) rfl rfl)) fun v8 hv8 => ?_
 refine za rfl (Ad (Aa (Am ?_)))
 refine Ai (v8) (fun a w K H => BC K rfl rfl) (fun w H => ?_)
 exact ⟨_, rfl, EO (CY (H.get (i := 0) rfl) hbase) (by simp [Pt.put, voB, imB]), hv8.wid, H.toOuts _ ⟨(zj hv8.fresh), (zh hg1), (fun g hg => (hv0.in_ g hg).imp (fun h => by simp [h]) id), trivial⟩⟩

set_option maxRecDepth 100000 in
set_option maxHeartbeats 4000000 in
theorem TZ (base : Nat) (v : Value) (l : List UInt8) (mk mn mr mb ms mo ca cb ck cz mc : Nat) (mv cs ct cu mt : List UInt8) (vl : List Vo) (il : List Im) (A B : Option Addr) (ka kb : Nat) (w : World) (hf : Ms.Fits ⟨mk, mn, mr, mb, ms, mo, mv, vl, il, ⟨ca, cb, ck, cs, ct, cu, cz⟩, mc, mt⟩) (hs : Ms.Small ⟨mk, mn, mr, mb, ms, mo, mv, vl, il, ⟨ca, cb, ck, cs, ct, cu, cz⟩, mc, mt⟩) (hl : l.length ≤ 1000000) (hbase : base ≤ w.heap.size) (hown : w.ownsRow base 5 1 v l.length (bv l)) : Calls Tryz.prog 143 #[v, .agg #[.int .u8 (mk : Int), .int .u64 (mn : Int), .int .u8 (mr : Int), .int .u64 (mb : Int), .int .u64 (ms : Int), .int .u8 (mo : Int), .string ⟨mv.toArray⟩, .slice A vl.length ka, .slice B il.length kb, .int .u8 (ca : Int), .int .u32 (cb : Int), .int .u8 (ck : Int), .string ⟨cs.toArray⟩, .string ⟨ct.toArray⟩, .string ⟨cu.toArray⟩, .int .u8 (cz : Int), .int .u8 (mc : Int), .string ⟨mt.toArray⟩]] w fun e w' => Il base v w (l ++ Pt.put .floor ⟨mk, mn, mr, mb, ms, mo, mv, vl, il, ⟨ca, cb, ck, cs, ct, cu, cz⟩, mc, mt⟩) e w' := by
 have hv0 : OwnIn w v.ownBlock.toList v := OwnIn.refl w v
 obtain ⟨f1, f2, f3, f4, f5, f6, f7, f8, f9, f10⟩ := hf
 obtain ⟨s1, s2, s3, s4, s5, s6, s7, s8, s9, s10, s11⟩ := hs
 have hf := f9
 dsimp only at f1 f2 f3 f4 f5 f6 f7 f8 f10 s1 s2 s3 s4 s5 s6 s7 s8 s9 s10 s11
 have hfc := f9.h1
 have hfs := f9.h2
 dsimp only at hfc hfs
 refine A0 (n := 9) _ Tryz.func143 rfl rfl rfl (Hp.row hown) (Ae (Ac ?_))
 refine zB rfl fun g1 hg1 => ?_
 refine za rfl (Ad (Aa (Ae (Ac (zm rfl (zf 3 BX rfl (zl 0 Tryz.underlying22 rfl ?_)))))))
 refine AP (σ := Value) (fun s => s) (fun s => OwnIn w [] s) (fun s => _) trivial rfl rfl (zk Dy rfl) (EW (fun w H => Jd l mb (by omega) (by (try simp only [List.length_append, List.length_cons, List.length_nil]); omega) (H.get (i := 1) rfl) rfl rfl)) fun v8 hv8 => ?_
 refine za rfl (Ad (Aa (Am ?_)))
 refine Ai (v8) (fun a w K H => BC K rfl rfl) (fun w H => ?_)
 exact ⟨_, rfl, EO (CY (H.get (i := 0) rfl) hbase) (by simp [Pt.put, voB, imB]), hv8.wid, H.toOuts _ ⟨(zj hv8.fresh), (zh hg1), (fun g hg => (hv0.in_ g hg).imp (fun h => by simp [h]) id), trivial⟩⟩

set_option maxRecDepth 100000 in
set_option maxHeartbeats 4000000 in
theorem Vy (base : Nat) (v : Value) (l : List UInt8) (mk mn mr mb ms mo ca cb ck cz mc : Nat) (mv cs ct cu mt : List UInt8) (vl : List Vo) (il : List Im) (least : Nat) (A B : Option Addr) (ka kb : Nat) (w : World) (hf : Ms.Fits ⟨mk, mn, mr, mb, ms, mo, mv, vl, il, ⟨ca, cb, ck, cs, ct, cu, cz⟩, mc, mt⟩) (hs : Ms.Small ⟨mk, mn, mr, mb, ms, mo, mv, vl, il, ⟨ca, cb, ck, cs, ct, cu, cz⟩, mc, mt⟩) (hl : l.length ≤ 1000000) (hbase : base ≤ w.heap.size) (hown : w.ownsRow base 5 1 v l.length (bv l)) : Calls Tryz.prog 138 #[v, .agg #[.int .u8 (mk : Int), .int .u64 (mn : Int), .int .u8 (mr : Int), .int .u64 (mb : Int), .int .u64 (ms : Int), .int .u8 (mo : Int), .string ⟨mv.toArray⟩, .slice A vl.length ka, .slice B il.length kb, .int .u8 (ca : Int), .int .u32 (cb : Int), .int .u8 (ck : Int), .string ⟨cs.toArray⟩, .string ⟨ct.toArray⟩, .string ⟨cu.toArray⟩, .int .u8 (cz : Int), .int .u8 (mc : Int), .string ⟨mt.toArray⟩]] w fun e w' => Il base v w (l ++ Pt.put (.slot least) ⟨mk, mn, mr, mb, ms, mo, mv, vl, il, ⟨ca, cb, ck, cs, ct, cu, cz⟩, mc, mt⟩) e w' := by
 have hv0 : OwnIn w v.ownBlock.toList v := OwnIn.refl w v
 obtain ⟨f1, f2, f3, f4, f5, f6, f7, f8, f9, f10⟩ := hf
 obtain ⟨s1, s2, s3, s4, s5, s6, s7, s8, s9, s10, s11⟩ := hs
 have hf := f9
 dsimp only at f1 f2 f3 f4 f5 f6 f7 f8 f10 s1 s2 s3 s4 s5 s6 s7 s8 s9 s10 s11
 have hfc := f9.h1
 have hfs := f9.h2
 dsimp only at hfc hfs
 refine A0 (n := 9) _ Tryz.func138 rfl rfl rfl (Hp.row hown) (Ae (Ac ?_))
 refine zB rfl fun g1 hg1 => ?_
 refine za rfl (Ad (Aa (Ae (Ac (zm rfl (zf 4 Bq rfl (zl 0 Tryz.underlying22 rfl ?_)))))))
 refine AP (σ := Value) (fun s => s) (fun s => OwnIn w [] s) (fun s => _) trivial rfl rfl (zk Dy rfl) (EW (fun w H => Jd l ms (by omega) (by (try simp only [List.length_append, List.length_cons, List.length_nil]); omega) (H.get (i := 1) rfl) rfl rfl)) fun v8 hv8 => ?_
 refine za rfl (Ad (Aa (Am ?_)))
 refine Ai (v8) (fun a w K H => BC K rfl rfl) (fun w H => ?_)
 exact ⟨_, rfl, EO (CY (H.get (i := 0) rfl) hbase) (by simp [Pt.put, voB, imB]), hv8.wid, H.toOuts _ ⟨(zj hv8.fresh), (zh hg1), (fun g hg => (hv0.in_ g hg).imp (fun h => by simp [h]) id), trivial⟩⟩

set_option maxRecDepth 100000 in
set_option maxHeartbeats 4000000 in
theorem TV (base : Nat) (v : Value) (l : List UInt8) (mk mn mr mb ms mo ca cb ck cz mc : Nat) (mv cs ct cu mt : List UInt8) (vl : List Vo) (il : List Im) (A B : Option Addr) (ka kb : Nat) (w : World) (hf : Ms.Fits ⟨mk, mn, mr, mb, ms, mo, mv, vl, il, ⟨ca, cb, ck, cs, ct, cu, cz⟩, mc, mt⟩) (hs : Ms.Small ⟨mk, mn, mr, mb, ms, mo, mv, vl, il, ⟨ca, cb, ck, cs, ct, cu, cz⟩, mc, mt⟩) (hl : l.length ≤ 1000000) (hbase : base ≤ w.heap.size) (hown : w.ownsRow base 5 1 v l.length (bv l)) : Calls Tryz.prog 152 #[v, .agg #[.int .u8 (mk : Int), .int .u64 (mn : Int), .int .u8 (mr : Int), .int .u64 (mb : Int), .int .u64 (ms : Int), .int .u8 (mo : Int), .string ⟨mv.toArray⟩, .slice A vl.length ka, .slice B il.length kb, .int .u8 (ca : Int), .int .u32 (cb : Int), .int .u8 (ck : Int), .string ⟨cs.toArray⟩, .string ⟨ct.toArray⟩, .string ⟨cu.toArray⟩, .int .u8 (cz : Int), .int .u8 (mc : Int), .string ⟨mt.toArray⟩]] w fun e w' => Il base v w (l ++ Pt.put .value ⟨mk, mn, mr, mb, ms, mo, mv, vl, il, ⟨ca, cb, ck, cs, ct, cu, cz⟩, mc, mt⟩) e w' := by
 have hv0 : OwnIn w v.ownBlock.toList v := OwnIn.refl w v
 obtain ⟨f1, f2, f3, f4, f5, f6, f7, f8, f9, f10⟩ := hf
 obtain ⟨s1, s2, s3, s4, s5, s6, s7, s8, s9, s10, s11⟩ := hs
 have hf := f9
 dsimp only at f1 f2 f3 f4 f5 f6 f7 f8 f10 s1 s2 s3 s4 s5 s6 s7 s8 s9 s10 s11
 have hfc := f9.h1
 have hfs := f9.h2
 dsimp only at hfc hfs
 refine A0 (n := 9) _ Tryz.func152 rfl rfl rfl (Hp.row hown) (Ae (Ac ?_))
 refine zB rfl fun g1 hg1 => ?_
 refine za rfl (Ad (Aa (Ae (Ac (zm rfl (zf 6 Cf rfl (zl 0 Tryz.underlying9 rfl ?_)))))))
 refine AP (σ := Value) (fun s => s) (fun s => OwnIn w [] s) (fun s => _) trivial rfl rfl (zk EV rfl) (EW (fun w H => MN l mv (by (try simp only [List.length_append, List.length_cons, List.length_nil]); omega) (by omega) (H.get (i := 1) rfl) rfl rfl)) fun v8 hv8 => ?_
 refine za rfl (Ad (Aa (Am ?_)))
 refine Ai (v8) (fun a w K H => BC K rfl rfl) (fun w H => ?_)
 exact ⟨_, rfl, EO (CY (H.get (i := 0) rfl) hbase) (by simp [Pt.put, voB, imB]), hv8.wid, H.toOuts _ ⟨(zj hv8.fresh), (zh hg1), (fun g hg => (hv0.in_ g hg).imp (fun h => by simp [h]) id), trivial⟩⟩

set_option maxRecDepth 100000 in
set_option maxHeartbeats 4000000 in
theorem TU (base : Nat) (v : Value) (l : List UInt8) (mk mn mr mb ms mo ca cb ck cz mc : Nat) (mv cs ct cu mt : List UInt8) (vl : List Vo) (il : List Im) (A B : Option Addr) (ka kb : Nat) (w : World) (hf : Ms.Fits ⟨mk, mn, mr, mb, ms, mo, mv, vl, il, ⟨ca, cb, ck, cs, ct, cu, cz⟩, mc, mt⟩) (hs : Ms.Small ⟨mk, mn, mr, mb, ms, mo, mv, vl, il, ⟨ca, cb, ck, cs, ct, cu, cz⟩, mc, mt⟩) (hl : l.length ≤ 1000000) (hbase : base ≤ w.heap.size) (hown : w.ownsRow base 5 1 v l.length (bv l)) (hv : Rows w A 4 voL vl) (hlo : vl ≠ [] → ∀ ad, A = some ad → ad.block < base) : Calls Tryz.prog 147 #[v, .agg #[.int .u8 (mk : Int), .int .u64 (mn : Int), .int .u8 (mr : Int), .int .u64 (mb : Int), .int .u64 (ms : Int), .int .u8 (mo : Int), .string ⟨mv.toArray⟩, .slice A vl.length ka, .slice B il.length kb, .int .u8 (ca : Int), .int .u32 (cb : Int), .int .u8 (ck : Int), .string ⟨cs.toArray⟩, .string ⟨ct.toArray⟩, .string ⟨cu.toArray⟩, .int .u8 (cz : Int), .int .u8 (mc : Int), .string ⟨mt.toArray⟩]] w fun e w' => Il base v w (l ++ Pt.put .votes ⟨mk, mn, mr, mb, ms, mo, mv, vl, il, ⟨ca, cb, ck, cs, ct, cu, cz⟩, mc, mt⟩) e w' := by
 have hv0 : OwnIn w v.ownBlock.toList v := OwnIn.refl w v
 obtain ⟨f1, f2, f3, f4, f5, f6, f7, f8, f9, f10⟩ := hf
 obtain ⟨s1, s2, s3, s4, s5, s6, s7, s8, s9, s10, s11⟩ := hs
 have hf := f9
 dsimp only at f1 f2 f3 f4 f5 f6 f7 f8 f10 s1 s2 s3 s4 s5 s6 s7 s8 s9 s10 s11
 have hfc := f9.h1
 have hfs := f9.h2
 dsimp only at hfc hfs
 have hdhv : vl ≠ [] → ∀ ad, A = some ad → ad.block ∉ v.ownBlock.toList := fun hn ad h hm => by have h1 := (BS hown _ hm).1; have h2 := hlo hn ad h; omega
 refine A0 (n := 32) _ Tryz.func147 rfl rfl rfl (Hp.row hown) (Ae (Ac ?_))
 refine zB rfl fun g1 hg1 => ?_
 refine za rfl (Ad (Aa (Ae (Ac (zm rfl (zf 7 AH rfl (zl 0 Tryz.underlying25 rfl (zL Tryz.underlying25 rfl (Ag (v := .int .u64 (vl.length : Int)) trivial rfl rfl (fun ρ w E H => DN E rfl Tryz.underlying3 Tryz.underlying22 rfl (by rw [IntKind.wrap_u64]; omega)) ?_)))))))))
 refine AP (σ := Value) (fun s => s) (fun s => OwnIn w [] s) (fun s => _) trivial rfl rfl (zk Dy rfl) (EW (fun w H => Jd l vl.length (by omega) (by (try simp only [List.length_append, List.length_cons, List.length_nil]); omega) (H.get (i := 1) rfl) rfl rfl)) fun v12 hv12 => ?_
 refine za rfl (Ad (Aa (Ae (Ae (Ac (zf 7 AH rfl (zl 1 Tryz.underlying25 rfl (zL Tryz.underlying25 rfl (zm rfl ?_)))))))))
 refine Ad (Aa (AG (Ep (fun W H => H.re (i := 0) rfl (BU [] w.heap.size 5 1 v12 ((l ++ HJ vl 0).length) (bv (l ++ HJ vl 0))) (BF _ _ _ _ _ _ _) rfl (fun h => EO (l := (l ++ BI vl.length)) (l' := (l ++ HJ vl 0)) h (by simp [HJ]))) ?_)))
 refine Ec (fun (k : Nat) (v1 : Value) => [(0, v1), (3, .pointer (some ⟨g1, 0, none⟩)), (14, .slice A vl.length ka), (15, .int .i64 (vl.length : Int)), (16, .int .i64 (k : Int))]) (fun (k : Nat) (v1 : Value) => [BU [] w.heap.size 5 1 v1 ((l ++ HJ vl k).length) (bv (l ++ HJ vl k)), cell g1 33 [.int .u8 (mk : Int), .int .u64 (mn : Int), .int .u8 (mr : Int), .int .u64 (mb : Int), .int .u64 (ms : Int), .int .u8 (mo : Int), .string ⟨mv.toArray⟩, .slice A vl.length ka, .slice B il.length kb, .int .u8 (ca : Int), .int .u32 (cb : Int), .int .u8 (ck : Int), .string ⟨cs.toArray⟩, .string ⟨ct.toArray⟩, .string ⟨cu.toArray⟩, .int .u8 (cz : Int), .int .u8 (mc : Int), .string ⟨mt.toArray⟩], BU v.ownBlock.toList base 5 1 v l.length (bv l)]) (fun (gk : Nat) (k : Nat) (v1 : Value) => k + gk = vl.length ∧ OwnIn w [] v1) vl.length 0 v12 ⟨by omega, hv12⟩ ⟨rfl, rfl, rfl, rfl, rfl, trivial⟩ [0, 1, 2] rfl (by decide) ⟨.inl rfl, .inl rfl, .inl rfl, trivial⟩ fun gk k v1 hF => ?_
 obtain ⟨hkg, hv1⟩ := hF
 refine Ae (Ac ?_)
 refine zb rfl fun c17 hc17 => ?_
 refine Ad (Aa (Ae ?_))
 cases c17
 ·refine Ah rfl (Cd (AW (AW (BH (Aa (Ae (Ac (zm rfl (za rfl ?_)))))))))
  refine Ad (Aa (Am ?_))
  refine Ai (v1) (fun a w K H => BC K rfl rfl) (fun w H => ?_)
  exact ⟨_, rfl, EO (CY (H.get (i := 0) rfl) hbase) (by rw [Eu (by simpa [AB] using hc17)]; rfl), hv1.wid, H.toOuts _ ⟨(zj hv1.fresh), (zh hg1), (fun g hg => (hv0.in_ g hg).imp (fun h => by simp [h]) id), trivial⟩⟩
 ·refine Ap rfl (Ax (Aa (Ae (AG (Ae ?_)))))
  have hkl : k < vl.length := by simpa [AB] using hc17
  obtain ⟨⟨xs, xn, xr, xv⟩, hx⟩ : ∃ x, vl[k]? = some x := ⟨_, List.getElem?_eq_getElem hkl⟩
  obtain ⟨ad, rfl, -, -⟩ := hv.row hx
  have hxm := List.mem_of_getElem? hx
  have hxf := f7 _ hxm
  have hxs := s4 _ hxm
  have q1 := hxf.h1
  have q2 := hxf.h2
  have q3 := hxf.h3
  dsimp only at hxs q1 q2 q3
  have hb1 := Nr vl k s2 s10
  have hb2 := (B0 xs q1).1
  have hb3 := MV xn xr q2
  refine Ac (Ag (v := .pointer (some (ad.add (k * 4)))) trivial rfl rfl (fun ρ w E H => BA (i := k) E rfl Tryz.underlying25 AZ rfl rfl hkl) (Ag (v := .agg #[.int .u64 (xs : Int), .int .u64 (xn : Int), .int .u8 (xr : Int), .string ⟨xv.toArray⟩]) trivial rfl rfl (fun ρ w E H => C7 (cs := [.int .u64 (xs : Int), .int .u64 (xn : Int), .int .u8 (xr : Int), .string ⟨xv.toArray⟩]) E ((hv.outs (H.toOuts _ ⟨(zj hv1.fresh), (zh hg1), (fun g hg => (hv0.in_ g hg).imp (fun h => by simp [h]) id), trivial⟩) hdhv).rowA hx) rfl rfl Tryz.underlying92 rfl AZ) ?_))
  refine zA Es rfl fun g2 hg2 => ?_
  refine Bz (i := 0) trivial rfl rfl rfl rfl rfl AZ rfl rfl rfl (Ad (Aa (BN (v.ownBlock.toList ++ []) [0, 1, 2, 3] (by kernel_rfl) rfl ⟨(zh hg2), (zj hv1.fresh), (zh hg1), (fun g hg => (hv0.in_ g hg).imp (fun h => by simp only [List.mem_append]; simp [h]) id), trivial⟩ (ym 0 rfl (by kernel_rfl) zI (yf 1 0 CV rfl (by kernel_rfl) zI (yl 2 0 Tryz.underlying22 rfl (by kernel_rfl) zI (yf 4 1 EB rfl (by kernel_rfl) zI (yv 5 0 [.int .u64 (xn : Int), .int .u8 (xr : Int)] Tryz.underlying24 Bi rfl (by kernel_rfl) zI (yf 7 3 EA rfl (by kernel_rfl) zI ?_)))))))))
  refine yl 8 0 Tryz.underlying9 rfl (by kernel_rfl) zI (yr 3 (by kernel_rfl) ?_)
  refine G0 (σ := Value) (fun s => s) (fun s => OwnIn w [] s) (fun s => _) rfl trivial rfl rfl (zk Dy rfl) (EW (fun w H => Jd (l ++ HJ vl k) xs (by omega) (by (try simp only [List.length_append, List.length_cons, List.length_nil]); omega) (H.get (i := 1) rfl) rfl rfl)) (fun v23 w hv23 H => H.ks (v.ownBlock.toList ++ []) [1, 2, 3, 4] rfl ⟨(zj hv23.fresh), (zh hg2), (zj hv1.fresh), (zh hg1), (fun g hg => (hv0.in_ g hg).imp (fun h => by simp only [List.mem_append]; simp [h]) id), trivial⟩) fun v23 hv23 => ?_
  refine yr 6 (by kernel_rfl) ?_
  refine G0 (σ := Value) (fun s => s) (fun s => OwnIn w [] s) (fun s => _) rfl trivial rfl rfl (zk G7 rfl) (EW (fun w H => Tm ((l ++ HJ vl k) ++ BI xs) xn xr (by omega) (by omega) (by (try simp only [List.length_append, List.length_cons, List.length_nil]); omega) (H.get (i := 0) rfl) rfl rfl)) (fun v26 w hv26 H => H.ks (v.ownBlock.toList ++ []) [2, 3, 4, 5] rfl ⟨(zj hv26.fresh), (zj hv23.fresh), (zh hg2), (zj hv1.fresh), (zh hg1), (fun g hg => (hv0.in_ g hg).imp (fun h => by simp only [List.mem_append]; simp [h]) id), trivial⟩) fun v26 hv26 => ?_
  refine yr 9 (by kernel_rfl) ?_
  refine G0 (σ := Value) (fun s => s) (fun s => OwnIn w [] s) (fun s => _) rfl trivial rfl rfl (zk EV rfl) (EW (fun w H => MN (((l ++ HJ vl k) ++ BI xs) ++ Bal.balB ⟨xn, xr⟩) xv (by (try simp only [List.length_append, List.length_cons, List.length_nil]); omega) (by omega) (H.get (i := 0) rfl) rfl rfl)) (fun v29 w hv29 H => H.ks (v.ownBlock.toList ++ []) [3, 4, 5, 6] rfl ⟨(zj hv29.fresh), (zj hv26.fresh), (zj hv23.fresh), (zh hg2), (zj hv1.fresh), (zh hg1), (fun g hg => (hv0.in_ g hg).imp (fun h => by simp only [List.mem_append]; simp [h]) id), trivial⟩) fun v29 hv29 => ?_
  refine yA 10 rfl (by kernel_rfl) zI (BE (by kernel_rfl) (AA (Aa (Ac (Ag (v := .int .i64 ((k + 1 : Nat) : Int)) trivial rfl rfl (fun ρ w E H => BQ E rfl rfl rfl (by rw [IntKind.wrap_i64]; omega)) (zm rfl (Ad (KP (fun W H => H.re (i := 0) rfl (BU [] w.heap.size 5 1 v29 ((l ++ HJ vl (k + 1)).length) (bv (l ++ HJ vl (k + 1)))) (BF _ _ _ _ _ _ _) rfl (fun h => EO (l := ((((l ++ HJ vl k) ++ BI xs) ++ Bal.balB ⟨xn, xr⟩) ++ CM xv)) (l' := (l ++ HJ vl (k + 1))) h (by rw [LJ hx]; simp [voB, imB]))) ?_))))))))
  refine B7 (gk - 1) (k + 1, v29) (by omega) ⟨by omega, hv29⟩ ⟨rfl, rfl, rfl, rfl, rfl, trivial⟩ [0, 5, 6] rfl (by decide) ⟨.inl rfl, .inr (hv26.fresh), .inr (hv23.fresh), .inr (zq hg2), .inr (hv1.fresh), .inl rfl, .inl rfl, trivial⟩

set_option maxRecDepth 100000 in
set_option maxHeartbeats 4000000 in
theorem TX (base : Nat) (v : Value) (l : List UInt8) (mk mn mr mb ms mo ca cb ck cz mc : Nat) (mv cs ct cu mt : List UInt8) (vl : List Vo) (il : List Im) (A B : Option Addr) (ka kb : Nat) (w : World) (hf : Ms.Fits ⟨mk, mn, mr, mb, ms, mo, mv, vl, il, ⟨ca, cb, ck, cs, ct, cu, cz⟩, mc, mt⟩) (hs : Ms.Small ⟨mk, mn, mr, mb, ms, mo, mv, vl, il, ⟨ca, cb, ck, cs, ct, cu, cz⟩, mc, mt⟩) (hl : l.length ≤ 1000000) (hbase : base ≤ w.heap.size) (hown : w.ownsRow base 5 1 v l.length (bv l)) (hi : Rows w B 2 imL il) (hlo : il ≠ [] → ∀ ad, B = some ad → ad.block < base) : Calls Tryz.prog 156 #[v, .agg #[.int .u8 (mk : Int), .int .u64 (mn : Int), .int .u8 (mr : Int), .int .u64 (mb : Int), .int .u64 (ms : Int), .int .u8 (mo : Int), .string ⟨mv.toArray⟩, .slice A vl.length ka, .slice B il.length kb, .int .u8 (ca : Int), .int .u32 (cb : Int), .int .u8 (ck : Int), .string ⟨cs.toArray⟩, .string ⟨ct.toArray⟩, .string ⟨cu.toArray⟩, .int .u8 (cz : Int), .int .u8 (mc : Int), .string ⟨mt.toArray⟩]] w fun e w' => Il base v w (l ++ Pt.put .items ⟨mk, mn, mr, mb, ms, mo, mv, vl, il, ⟨ca, cb, ck, cs, ct, cu, cz⟩, mc, mt⟩) e w' := by
 have hv0 : OwnIn w v.ownBlock.toList v := OwnIn.refl w v
 obtain ⟨f1, f2, f3, f4, f5, f6, f7, f8, f9, f10⟩ := hf
 obtain ⟨s1, s2, s3, s4, s5, s6, s7, s8, s9, s10, s11⟩ := hs
 have hf := f9
 dsimp only at f1 f2 f3 f4 f5 f6 f7 f8 f10 s1 s2 s3 s4 s5 s6 s7 s8 s9 s10 s11
 have hfc := f9.h1
 have hfs := f9.h2
 dsimp only at hfc hfs
 have hdhi : il ≠ [] → ∀ ad, B = some ad → ad.block ∉ v.ownBlock.toList := fun hn ad h hm => by have h1 := (BS hown _ hm).1; have h2 := hlo hn ad h; omega
 refine A0 (n := 29) _ Tryz.func156 rfl rfl rfl (Hp.row hown) (Ae (Ac ?_))
 refine zB rfl fun g1 hg1 => ?_
 refine za rfl (Ad (Aa (Ae (Ac (zm rfl (zf 8 AE rfl (zl 0 Tryz.underlying26 rfl (zL Tryz.underlying26 rfl (Ag (v := .int .u64 (il.length : Int)) trivial rfl rfl (fun ρ w E H => DN E rfl Tryz.underlying3 Tryz.underlying22 rfl (by rw [IntKind.wrap_u64]; omega)) ?_)))))))))
 refine AP (σ := Value) (fun s => s) (fun s => OwnIn w [] s) (fun s => _) trivial rfl rfl (zk Dy rfl) (EW (fun w H => Jd l il.length (by omega) (by (try simp only [List.length_append, List.length_cons, List.length_nil]); omega) (H.get (i := 1) rfl) rfl rfl)) fun v12 hv12 => ?_
 refine za rfl (Ad (Aa (Ae (Ae (Ac (zf 8 AE rfl (zl 1 Tryz.underlying26 rfl (zL Tryz.underlying26 rfl (zm rfl ?_)))))))))
 refine Ad (Aa (AG (Ep (fun W H => H.re (i := 0) rfl (BU [] w.heap.size 5 1 v12 ((l ++ Io il 0).length) (bv (l ++ Io il 0))) (BF _ _ _ _ _ _ _) rfl (fun h => EO (l := (l ++ BI il.length)) (l' := (l ++ Io il 0)) h (by simp [Io]))) ?_)))
 refine Ec (fun (k : Nat) (v1 : Value) => [(0, v1), (3, .pointer (some ⟨g1, 0, none⟩)), (14, .slice B il.length kb), (15, .int .i64 (il.length : Int)), (16, .int .i64 (k : Int))]) (fun (k : Nat) (v1 : Value) => [BU [] w.heap.size 5 1 v1 ((l ++ Io il k).length) (bv (l ++ Io il k)), cell g1 33 [.int .u8 (mk : Int), .int .u64 (mn : Int), .int .u8 (mr : Int), .int .u64 (mb : Int), .int .u64 (ms : Int), .int .u8 (mo : Int), .string ⟨mv.toArray⟩, .slice A vl.length ka, .slice B il.length kb, .int .u8 (ca : Int), .int .u32 (cb : Int), .int .u8 (ck : Int), .string ⟨cs.toArray⟩, .string ⟨ct.toArray⟩, .string ⟨cu.toArray⟩, .int .u8 (cz : Int), .int .u8 (mc : Int), .string ⟨mt.toArray⟩], BU v.ownBlock.toList base 5 1 v l.length (bv l)]) (fun (gk : Nat) (k : Nat) (v1 : Value) => k + gk = il.length ∧ OwnIn w [] v1) il.length 0 v12 ⟨by omega, hv12⟩ ⟨rfl, rfl, rfl, rfl, rfl, trivial⟩ [0, 1, 2] rfl (by decide) ⟨.inl rfl, .inl rfl, .inl rfl, trivial⟩ fun gk k v1 hF => ?_
 obtain ⟨hkg, hv1⟩ := hF
 refine Ae (Ac ?_)
 refine zb rfl fun c17 hc17 => ?_
 refine Ad (Aa (Ae ?_))
 cases c17
 ·refine Ah rfl (Cd (AW (AW (BH (Aa (Ae (Ac (zm rfl (za rfl ?_)))))))))
  refine Ad (Aa (Am ?_))
  refine Ai (v1) (fun a w K H => BC K rfl rfl) (fun w H => ?_)
  exact ⟨_, rfl, EO (CY (H.get (i := 0) rfl) hbase) (by rw [Ew (by simpa [AB] using hc17)]; rfl), hv1.wid, H.toOuts _ ⟨(zj hv1.fresh), (zh hg1), (fun g hg => (hv0.in_ g hg).imp (fun h => by simp [h]) id), trivial⟩⟩
 ·refine Ap rfl (Ax (Aa (Ae (AG (Ae ?_)))))
  have hkl : k < il.length := by simpa [AB] using hc17
  obtain ⟨⟨xs, xv⟩, hx⟩ : ∃ x, il[k]? = some x := ⟨_, List.getElem?_eq_getElem hkl⟩
  obtain ⟨ad, rfl, -, -⟩ := hi.row hx
  have hxm := List.mem_of_getElem? hx
  have q1 := f8 _ hxm
  have hxs := s5 _ hxm
  dsimp only at hxs q1
  have hb1 := Ns il k s3 s11
  have hb2 := (B0 xs q1).1
  refine Ac (Ag (v := .pointer (some (ad.add (k * 2)))) trivial rfl rfl (fun ρ w E H => BA (i := k) E rfl Tryz.underlying26 Bg rfl rfl hkl) (Ag (v := .agg #[.int .u64 (xs : Int), .string ⟨xv.toArray⟩]) trivial rfl rfl (fun ρ w E H => C7 (cs := [.int .u64 (xs : Int), .string ⟨xv.toArray⟩]) E ((hi.outs (H.toOuts _ ⟨(zj hv1.fresh), (zh hg1), (fun g hg => (hv0.in_ g hg).imp (fun h => by simp [h]) id), trivial⟩) hdhi).rowA hx) rfl rfl Tryz.underlying94 rfl Bg) ?_))
  refine zA Et rfl fun g2 hg2 => ?_
  refine Bz (i := 0) trivial rfl rfl rfl rfl rfl Bg rfl rfl rfl (Ad (Aa (BN (v.ownBlock.toList ++ []) [0, 1, 2, 3] (by kernel_rfl) rfl ⟨(zh hg2), (zj hv1.fresh), (zh hg1), (fun g hg => (hv0.in_ g hg).imp (fun h => by simp only [List.mem_append]; simp [h]) id), trivial⟩ (ym 0 rfl (by kernel_rfl) zI (yf 1 0 CW rfl (by kernel_rfl) zI (yl 2 0 Tryz.underlying22 rfl (by kernel_rfl) zI (yf 4 1 EC rfl (by kernel_rfl) zI (yl 5 0 Tryz.underlying9 rfl (by kernel_rfl) zI (yr 3 (by kernel_rfl) ?_)))))))))
  refine G0 (σ := Value) (fun s => s) (fun s => OwnIn w [] s) (fun s => _) rfl trivial rfl rfl (zk Dy rfl) (EW (fun w H => Jd (l ++ Io il k) xs (by omega) (by (try simp only [List.length_append, List.length_cons, List.length_nil]); omega) (H.get (i := 1) rfl) rfl rfl)) (fun v23 w hv23 H => H.ks (v.ownBlock.toList ++ []) [1, 2, 3, 4] rfl ⟨(zj hv23.fresh), (zh hg2), (zj hv1.fresh), (zh hg1), (fun g hg => (hv0.in_ g hg).imp (fun h => by simp only [List.mem_append]; simp [h]) id), trivial⟩) fun v23 hv23 => ?_
  refine yr 6 (by kernel_rfl) ?_
  refine G0 (σ := Value) (fun s => s) (fun s => OwnIn w [] s) (fun s => _) rfl trivial rfl rfl (zk EV rfl) (EW (fun w H => MN ((l ++ Io il k) ++ BI xs) xv (by (try simp only [List.length_append, List.length_cons, List.length_nil]); omega) (by omega) (H.get (i := 0) rfl) rfl rfl)) (fun v26 w hv26 H => H.ks (v.ownBlock.toList ++ []) [2, 3, 4, 5] rfl ⟨(zj hv26.fresh), (zj hv23.fresh), (zh hg2), (zj hv1.fresh), (zh hg1), (fun g hg => (hv0.in_ g hg).imp (fun h => by simp only [List.mem_append]; simp [h]) id), trivial⟩) fun v26 hv26 => ?_
  refine yA 7 rfl (by kernel_rfl) zI (BE (by kernel_rfl) (AA (Aa (Ac (Ag (v := .int .i64 ((k + 1 : Nat) : Int)) trivial rfl rfl (fun ρ w E H => BQ E rfl rfl rfl (by rw [IntKind.wrap_i64]; omega)) (zm rfl (Ad (KP (fun W H => H.re (i := 0) rfl (BU [] w.heap.size 5 1 v26 ((l ++ Io il (k + 1)).length) (bv (l ++ Io il (k + 1)))) (BF _ _ _ _ _ _ _) rfl (fun h => EO (l := (((l ++ Io il k) ++ BI xs) ++ CM xv)) (l' := (l ++ Io il (k + 1))) h (by rw [LL hx]; simp [voB, imB]))) ?_))))))))
  refine B7 (gk - 1) (k + 1, v26) (by omega) ⟨by omega, hv26⟩ ⟨rfl, rfl, rfl, rfl, rfl, trivial⟩ [0, 4, 5] rfl (by decide) ⟨.inl rfl, .inr (hv23.fresh), .inr (zq hg2), .inr (hv1.fresh), .inl rfl, .inl rfl, trivial⟩
end Go.Proofs.YteiaiilfekojfaaGreat.Msg
end
section
set_option linter.unusedVariables false
set_option linter.unusedSimpArgs false
namespace Go.Proofs.YteiaiilfekojfaaGreat.Msg
open Go.RowKit Sx Wire DrawInv
set_option maxRecDepth 100000 in
set_option maxHeartbeats 4000000 in
theorem Yw (vl : List Vo) (A : Option Addr) (ka : Nat) (w : World) (hv : Rows w A 4 voL vl) (hlen : vl.length ≤ 1000000) : Calls Tryz.prog 150 #[.slice A vl.length ka] w fun e w' => ∃ v', e = .returned v' ∧ w'.ownsRow w.heap.size 92 4 v' vl.length (vl.flatMap voL) ∧ Below w.heap.size w w' := by
 have hbz : ∀ W : World, (Instr.buildSlice 25 0 #[]).run Tryz.prog W = .ok (.slice (some ⟨W.heap.size, 0, none⟩) 0 0) (W.alloc (.cells #[] 92)) := fun W => by go_simp
 refine A0 (n := 8) _ Tryz.func150 rfl rfl rfl (Hp.start w) (Ae (Ac (za rfl (Ad (Aa (Ae (Ae (Ac (zm rfl ?_)))))))))
 refine DT trivial rfl rfl (fun ρ w E H => SY E rfl Tryz.underlying25 (by kernel_rfl) rfl rfl rfl) fun c4 hc4 => ?_
 refine Ad (Aa ?_)
 cases c4
 ·refine Ah rfl (Ax (Aa (Ae (Ac ?_))))
  refine Dx (cs := []) trivial rfl rfl (fun ρ w E H => J5 rfl hbz) fun g1 hg1 => ?_
  have hvg1 : OwnIn w [] (.slice (some ⟨g1, 0, none⟩) 0 0) := fun b hb => .inr (by simp [Value.ownBlock] at hb; omega)
  refine Si (fun W H => H.re (i := 0) rfl (BU [] w.heap.size 92 4 (.slice (some ⟨g1, 0, none⟩) 0 0) 0 []) (BF _ _ _ _ _ _ _) rfl (fun h => PL h hg1)) (zm rfl ?_)
  refine Ik (i := 0) (news := vl.flatMap voL) trivial rfl rfl rfl Tryz.underlying25 Ge rfl rfl rfl rfl hvg1 rfl (fun W H => ⟨_, En JJ (by decide) (hv.below (H.toBelow ⟨hvg1.fresh, trivial⟩))⟩) (flat_one WL _) (by unfold maxLen; omega) (by omega) (Nat.le_refl _) fun A7 k7 hv7 => ?_
  refine za rfl (Ad (Aa (Am ?_)))
  refine Ai (.slice A7 (0 + vl.length) k7) (fun a w K H => BC K rfl rfl) (fun w H => ?_)
  refine ⟨_, rfl, ?_, H.toBelow ⟨hv7.fresh, trivial⟩⟩
  exact DI (H.get (i := 0) rfl) (Nat.zero_add _) (List.nil_append _)
 ·refine Ap rfl (Ae (Ac (za rfl (Ad (Aa (Am (Ak ?_)))))))
  refine Ai (.slice none 0 0) (fun a w K H => BC K rfl rfl) (fun w H => ?_)
  obtain rfl := Ob hv hc4
  exact ⟨_, rfl, World.ownsRow_nil _ _ _ _, H.toBelow trivial⟩

set_option maxRecDepth 100000 in
set_option maxHeartbeats 4000000 in
theorem Yx (il : List Im) (B : Option Addr) (ka : Nat) (w : World) (hi : Rows w B 2 imL il) (hlen : il.length ≤ 1000000) : Calls Tryz.prog 159 #[.slice B il.length ka] w fun e w' => ∃ v', e = .returned v' ∧ w'.ownsRow w.heap.size 94 2 v' il.length (il.flatMap imL) ∧ Below w.heap.size w w' := by
 have hbz : ∀ W : World, (Instr.buildSlice 26 0 #[]).run Tryz.prog W = .ok (.slice (some ⟨W.heap.size, 0, none⟩) 0 0) (W.alloc (.cells #[] 94)) := fun W => by go_simp
 refine A0 (n := 8) _ Tryz.func159 rfl rfl rfl (Hp.start w) (Ae (Ac (za rfl (Ad (Aa (Ae (Ae (Ac (zm rfl ?_)))))))))
 refine DT trivial rfl rfl (fun ρ w E H => SY E rfl Tryz.underlying26 (by kernel_rfl) rfl rfl rfl) fun c4 hc4 => ?_
 refine Ad (Aa ?_)
 cases c4
 ·refine Ah rfl (Ax (Aa (Ae (Ac ?_))))
  refine Dx (cs := []) trivial rfl rfl (fun ρ w E H => J5 rfl hbz) fun g1 hg1 => ?_
  have hvg1 : OwnIn w [] (.slice (some ⟨g1, 0, none⟩) 0 0) := fun b hb => .inr (by simp [Value.ownBlock] at hb; omega)
  refine Si (fun W H => H.re (i := 0) rfl (BU [] w.heap.size 94 2 (.slice (some ⟨g1, 0, none⟩) 0 0) 0 []) (BF _ _ _ _ _ _ _) rfl (fun h => PL h hg1)) (zm rfl ?_)
  refine Ik (i := 0) (news := il.flatMap imL) trivial rfl rfl rfl Tryz.underlying26 Gf rfl rfl rfl rfl hvg1 rfl (fun W H => ⟨_, En JX (by decide) (hi.below (H.toBelow ⟨hvg1.fresh, trivial⟩))⟩) (flat_one Xk _) (by unfold maxLen; omega) (by omega) (Nat.le_refl _) fun A7 k7 hv7 => ?_
  refine za rfl (Ad (Aa (Am ?_)))
  refine Ai (.slice A7 (0 + il.length) k7) (fun a w K H => BC K rfl rfl) (fun w H => ?_)
  refine ⟨_, rfl, ?_, H.toBelow ⟨hv7.fresh, trivial⟩⟩
  exact DI (H.get (i := 0) rfl) (Nat.zero_add _) (List.nil_append _)
 ·refine Ap rfl (Ae (Ac (za rfl (Ad (Aa (Am (Ak ?_)))))))
  refine Ai (.slice none 0 0) (fun a w K H => BC K rfl rfl) (fun w H => ?_)
  obtain rfl := Ob hi hc4
  exact ⟨_, rfl, World.ownsRow_nil _ _ _ _, H.toBelow trivial⟩

set_option maxRecDepth 100000 in
set_option maxHeartbeats 4000000 in
theorem VE (g xk xn xr xb xs xo da db dk dz xc : Nat) (xv ds dt du xt : List UInt8) (wl : List Vo) (jl : List Im) (V I : Value)(mk mn mr mb ms mo ca cb ck cz mc : Nat) (mv cs ct cu mt : List UInt8) (vl : List Vo) (il : List Im) (A B : Option Addr) (ka kb : Nat) (w : World) (hg : Blk w g 33 (msL ⟨xk, xn, xr, xb, xs, xo, xv, wl, jl, ⟨da, db, dk, ds, dt, du, dz⟩, xc, xt⟩ V I).toArray) : Calls Tryz.prog 114 #[.pointer (some ⟨g, 0, none⟩), .agg #[.int .u8 (mk : Int), .int .u64 (mn : Int), .int .u8 (mr : Int), .int .u64 (mb : Int), .int .u64 (ms : Int), .int .u8 (mo : Int), .string ⟨mv.toArray⟩, .slice A vl.length ka, .slice B il.length kb, .int .u8 (ca : Int), .int .u32 (cb : Int), .int .u8 (ck : Int), .string ⟨cs.toArray⟩, .string ⟨ct.toArray⟩, .string ⟨cu.toArray⟩, .int .u8 (cz : Int), .int .u8 (mc : Int), .string ⟨mt.toArray⟩]] w fun e w' => e = .returned (.tuple #[]) ∧ Blk w' g 33 (msL (Pt.move .cmd ⟨xk, xn, xr, xb, xs, xo, xv, wl, jl, ⟨da, db, dk, ds, dt, du, dz⟩, xc, xt⟩ ⟨mk, mn, mr, mb, ms, mo, mv, vl, il, ⟨ca, cb, ck, cs, ct, cu, cz⟩, mc, mt⟩) V I).toArray ∧ Outs [g] w w' := by
 refine A0 (n := 9) _ Tryz.func114 rfl rfl rfl (Hp.one hg) (Ae (Ac ?_))
 refine zB rfl fun g1 hg1 => ?_
 refine Ad (Aa (Ac (zm rfl (zf 9 Bd rfl (zv 0 [.int .u8 (ca : Int), .int .u32 (cb : Int), .int .u8 (ck : Int), .string ⟨cs.toArray⟩, .string ⟨ct.toArray⟩, .string ⟨cu.toArray⟩, .int .u8 (cz : Int)] Tryz.underlying29 BG rfl (Ag (v := .pointer (some ⟨g, 0, none⟩)) trivial rfl rfl (fun ρ w E H => Be E rfl rfl) (zf 9 Bd rfl (Bz (i := 1) trivial rfl rfl rfl rfl rfl BG rfl rfl rfl (Ad ?_)))))))))
 refine Dt (.tuple #[]) (fun a w K H => Hl rfl) (fun w H => ?_)
 exact ⟨rfl, H.get (i := 1) rfl, H.toOuts _ ⟨(zh hg1), (zi (by simp)), trivial⟩⟩

set_option maxRecDepth 100000 in
set_option maxHeartbeats 4000000 in
theorem Up (g xk xn xr xb xs xo da db dk dz xc : Nat) (xv ds dt du xt : List UInt8) (wl : List Vo) (jl : List Im) (V I : Value)(mk mn mr mb ms mo ca cb ck cz mc : Nat) (mv cs ct cu mt : List UInt8) (vl : List Vo) (il : List Im) (A B : Option Addr) (ka kb : Nat) (w : World) (hg : Blk w g 33 (msL ⟨xk, xn, xr, xb, xs, xo, xv, wl, jl, ⟨da, db, dk, ds, dt, du, dz⟩, xc, xt⟩ V I).toArray) : Calls Tryz.prog 119 #[.pointer (some ⟨g, 0, none⟩), .agg #[.int .u8 (mk : Int), .int .u64 (mn : Int), .int .u8 (mr : Int), .int .u64 (mb : Int), .int .u64 (ms : Int), .int .u8 (mo : Int), .string ⟨mv.toArray⟩, .slice A vl.length ka, .slice B il.length kb, .int .u8 (ca : Int), .int .u32 (cb : Int), .int .u8 (ck : Int), .string ⟨cs.toArray⟩, .string ⟨ct.toArray⟩, .string ⟨cu.toArray⟩, .int .u8 (cz : Int), .int .u8 (mc : Int), .string ⟨mt.toArray⟩]] w fun e w' => e = .returned (.tuple #[]) ∧ Blk w' g 33 (msL (Pt.move .name ⟨xk, xn, xr, xb, xs, xo, xv, wl, jl, ⟨da, db, dk, ds, dt, du, dz⟩, xc, xt⟩ ⟨mk, mn, mr, mb, ms, mo, mv, vl, il, ⟨ca, cb, ck, cs, ct, cu, cz⟩, mc, mt⟩) V I).toArray ∧ Outs [g] w w' := by
 refine A0 (n := 18) _ Tryz.func119 rfl rfl rfl (Hp.one hg) (Ae (Ac ?_))
 refine zB rfl fun g1 hg1 => ?_
 refine Ad (Aa (BN [g] [0] (by kernel_rfl) rfl ⟨(zh hg1), (zi (by simp)), trivial⟩ (ym 0 rfl (by kernel_rfl) zI (ym 1 rfl (by kernel_rfl) zI (yf 2 9 Bd rfl (by kernel_rfl) zI (yf 3 9 CG rfl (by kernel_rfl) zI (yl 4 0 Tryz.underlying5 rfl (by kernel_rfl) zI (yf 5 9 Bd rfl (by kernel_rfl) zI (yf 6 10 CE rfl (by kernel_rfl) zI ?_)))))))))
 refine yl 7 0 Tryz.underlying27 rfl (by kernel_rfl) zI (yt (i := 8) (v := .pointer (some ⟨g, 0, none⟩)) (by kernel_rfl) zI rfl rfl rfl rfl (fun ρ w E H => Be E rfl rfl) (yf 9 9 Bd rfl (by kernel_rfl) zI (yf 10 9 CG rfl (by kernel_rfl) zI (yr 11 (by kernel_rfl) (GK (j := 1) rfl trivial rfl rfl rfl rfl rfl DC rfl rfl rfl (fun w H => H.ks [g] [0] rfl ⟨(zh hg1), (zi (by simp)), trivial⟩) (yt (i := 12) (v := .pointer (some ⟨g, 0, none⟩)) (by kernel_rfl) zI rfl rfl rfl rfl (fun ρ w E H => Be E rfl rfl) (yf 13 9 Bd rfl (by kernel_rfl) zI (yf 14 10 CE rfl (by kernel_rfl) zI (yr 15 (by kernel_rfl) ?_)))))))))
 refine GK (j := 1) rfl trivial rfl rfl rfl rfl rfl NX rfl rfl rfl (fun w H => H.ks [g] [0] rfl ⟨(zh hg1), (zi (by simp)), trivial⟩) (BE (by kernel_rfl) ?_)
 refine Dt (.tuple #[]) (fun a w K H => Hl rfl) (fun w H => ?_)
 exact ⟨rfl, H.get (i := 1) rfl, H.toOuts _ ⟨(zh hg1), (zi (by simp)), trivial⟩⟩

set_option maxRecDepth 100000 in
set_option maxHeartbeats 4000000 in
theorem Rr (g xk xn xr xb xs xo da db dk dz xc : Nat) (xv ds dt du xt : List UInt8) (wl : List Vo) (jl : List Im) (V I : Value)(mk mn mr mb ms mo ca cb ck cz mc : Nat) (mv cs ct cu mt : List UInt8) (vl : List Vo) (il : List Im) (A B : Option Addr) (ka kb : Nat) (w : World) (hg : Blk w g 33 (msL ⟨xk, xn, xr, xb, xs, xo, xv, wl, jl, ⟨da, db, dk, ds, dt, du, dz⟩, xc, xt⟩ V I).toArray) : Calls Tryz.prog 125 #[.pointer (some ⟨g, 0, none⟩), .agg #[.int .u8 (mk : Int), .int .u64 (mn : Int), .int .u8 (mr : Int), .int .u64 (mb : Int), .int .u64 (ms : Int), .int .u8 (mo : Int), .string ⟨mv.toArray⟩, .slice A vl.length ka, .slice B il.length kb, .int .u8 (ca : Int), .int .u32 (cb : Int), .int .u8 (ck : Int), .string ⟨cs.toArray⟩, .string ⟨ct.toArray⟩, .string ⟨cu.toArray⟩, .int .u8 (cz : Int), .int .u8 (mc : Int), .string ⟨mt.toArray⟩]] w fun e w' => e = .returned (.tuple #[]) ∧ Blk w' g 33 (msL (Pt.move .reply ⟨xk, xn, xr, xb, xs, xo, xv, wl, jl, ⟨da, db, dk, ds, dt, du, dz⟩, xc, xt⟩ ⟨mk, mn, mr, mb, ms, mo, mv, vl, il, ⟨ca, cb, ck, cs, ct, cu, cz⟩, mc, mt⟩) V I).toArray ∧ Outs [g] w w' := by
 refine A0 (n := 9) _ Tryz.func125 rfl rfl rfl (Hp.one hg) (Ae (Ac ?_))
 refine zB rfl fun g1 hg1 => ?_
 refine Ad (Aa (Ac (zm rfl (zf 16 B9 rfl (zv 0 [.int .u8 (mc : Int), .string ⟨mt.toArray⟩] Tryz.underlying31 Do rfl (Ag (v := .pointer (some ⟨g, 0, none⟩)) trivial rfl rfl (fun ρ w E H => Be E rfl rfl) (zf 16 B9 rfl (Bz (i := 1) trivial rfl rfl rfl rfl rfl Do rfl rfl rfl (Ad ?_)))))))))
 refine Dt (.tuple #[]) (fun a w K H => Hl rfl) (fun w H => ?_)
 exact ⟨rfl, H.get (i := 1) rfl, H.toOuts _ ⟨(zh hg1), (zi (by simp)), trivial⟩⟩

set_option maxRecDepth 100000 in
set_option maxHeartbeats 4000000 in
theorem Uo (g xk xn xr xb xs xo da db dk dz xc : Nat) (xv ds dt du xt : List UInt8) (wl : List Vo) (jl : List Im) (V I : Value)(mk mn mr mb ms mo ca cb ck cz mc : Nat) (mv cs ct cu mt : List UInt8) (vl : List Vo) (il : List Im) (A B : Option Addr) (ka kb : Nat) (w : World) (hg : Blk w g 33 (msL ⟨xk, xn, xr, xb, xs, xo, xv, wl, jl, ⟨da, db, dk, ds, dt, du, dz⟩, xc, xt⟩ V I).toArray) : Calls Tryz.prog 129 #[.pointer (some ⟨g, 0, none⟩), .agg #[.int .u8 (mk : Int), .int .u64 (mn : Int), .int .u8 (mr : Int), .int .u64 (mb : Int), .int .u64 (ms : Int), .int .u8 (mo : Int), .string ⟨mv.toArray⟩, .slice A vl.length ka, .slice B il.length kb, .int .u8 (ca : Int), .int .u32 (cb : Int), .int .u8 (ck : Int), .string ⟨cs.toArray⟩, .string ⟨ct.toArray⟩, .string ⟨cu.toArray⟩, .int .u8 (cz : Int), .int .u8 (mc : Int), .string ⟨mt.toArray⟩]] w fun e w' => e = .returned (.tuple #[]) ∧ Blk w' g 33 (msL (Pt.move .node ⟨xk, xn, xr, xb, xs, xo, xv, wl, jl, ⟨da, db, dk, ds, dt, du, dz⟩, xc, xt⟩ ⟨mk, mn, mr, mb, ms, mo, mv, vl, il, ⟨ca, cb, ck, cs, ct, cu, cz⟩, mc, mt⟩) V I).toArray ∧ Outs [g] w w' := by
 refine A0 (n := 9) _ Tryz.func129 rfl rfl rfl (Hp.one hg) (Ae (Ac ?_))
 refine zB rfl fun g1 hg1 => ?_
 refine Ad (Aa (Ac (zm rfl (zf 5 BW rfl (zl 0 Tryz.underlying5 rfl (Ag (v := .pointer (some ⟨g, 0, none⟩)) trivial rfl rfl (fun ρ w E H => Be E rfl rfl) (zf 5 BW rfl (Bz (i := 1) trivial rfl rfl rfl rfl rfl DC rfl rfl rfl (Ad ?_)))))))))
 refine Dt (.tuple #[]) (fun a w K H => Hl rfl) (fun w H => ?_)
 exact ⟨rfl, H.get (i := 1) rfl, H.toOuts _ ⟨(zh hg1), (zi (by simp)), trivial⟩⟩

set_option maxRecDepth 100000 in
set_option maxHeartbeats 4000000 in
theorem Um (g xk xn xr xb xs xo da db dk dz xc : Nat) (xv ds dt du xt : List UInt8) (wl : List Vo) (jl : List Im) (V I : Value)(mk mn mr mb ms mo ca cb ck cz mc : Nat) (mv cs ct cu mt : List UInt8) (vl : List Vo) (il : List Im) (A B : Option Addr) (ka kb : Nat) (w : World) (hg : Blk w g 33 (msL ⟨xk, xn, xr, xb, xs, xo, xv, wl, jl, ⟨da, db, dk, ds, dt, du, dz⟩, xc, xt⟩ V I).toArray) : Calls Tryz.prog 135 #[.pointer (some ⟨g, 0, none⟩), .agg #[.int .u8 (mk : Int), .int .u64 (mn : Int), .int .u8 (mr : Int), .int .u64 (mb : Int), .int .u64 (ms : Int), .int .u8 (mo : Int), .string ⟨mv.toArray⟩, .slice A vl.length ka, .slice B il.length kb, .int .u8 (ca : Int), .int .u32 (cb : Int), .int .u8 (ck : Int), .string ⟨cs.toArray⟩, .string ⟨ct.toArray⟩, .string ⟨cu.toArray⟩, .int .u8 (cz : Int), .int .u8 (mc : Int), .string ⟨mt.toArray⟩]] w fun e w' => e = .returned (.tuple #[]) ∧ Blk w' g 33 (msL (Pt.move .turn ⟨xk, xn, xr, xb, xs, xo, xv, wl, jl, ⟨da, db, dk, ds, dt, du, dz⟩, xc, xt⟩ ⟨mk, mn, mr, mb, ms, mo, mv, vl, il, ⟨ca, cb, ck, cs, ct, cu, cz⟩, mc, mt⟩) V I).toArray ∧ Outs [g] w w' := by
 refine A0 (n := 9) _ Tryz.func135 rfl rfl rfl (Hp.one hg) (Ae (Ac ?_))
 refine zB rfl fun g1 hg1 => ?_
 refine Ad (Aa (Ac (zm rfl (zf 1 BM rfl (zv 0 [.int .u64 (mn : Int), .int .u8 (mr : Int)] Tryz.underlying24 Bi rfl (Ag (v := .pointer (some ⟨g, 0, none⟩)) trivial rfl rfl (fun ρ w E H => Be E rfl rfl) (zf 1 BM rfl (Bz (i := 1) trivial rfl rfl rfl rfl rfl Bi rfl rfl rfl (Ad ?_)))))))))
 refine Dt (.tuple #[]) (fun a w K H => Hl rfl) (fun w H => ?_)
 exact ⟨rfl, H.get (i := 1) rfl, H.toOuts _ ⟨(zh hg1), (zi (by simp)), trivial⟩⟩

set_option maxRecDepth 100000 in
set_option maxHeartbeats 4000000 in
theorem Rw (g xk xn xr xb xs xo da db dk dz xc : Nat) (xv ds dt du xt : List UInt8) (wl : List Vo) (jl : List Im) (V I : Value)(mk mn mr mb ms mo ca cb ck cz mc : Nat) (mv cs ct cu mt : List UInt8) (vl : List Vo) (il : List Im) (A B : Option Addr) (ka kb : Nat) (w : World) (hg : Blk w g 33 (msL ⟨xk, xn, xr, xb, xs, xo, xv, wl, jl, ⟨da, db, dk, ds, dt, du, dz⟩, xc, xt⟩ V I).toArray) : Calls Tryz.prog 145 #[.pointer (some ⟨g, 0, none⟩), .agg #[.int .u8 (mk : Int), .int .u64 (mn : Int), .int .u8 (mr : Int), .int .u64 (mb : Int), .int .u64 (ms : Int), .int .u8 (mo : Int), .string ⟨mv.toArray⟩, .slice A vl.length ka, .slice B il.length kb, .int .u8 (ca : Int), .int .u32 (cb : Int), .int .u8 (ck : Int), .string ⟨cs.toArray⟩, .string ⟨ct.toArray⟩, .string ⟨cu.toArray⟩, .int .u8 (cz : Int), .int .u8 (mc : Int), .string ⟨mt.toArray⟩]] w fun e w' => e = .returned (.tuple #[]) ∧ Blk w' g 33 (msL (Pt.move .floor ⟨xk, xn, xr, xb, xs, xo, xv, wl, jl, ⟨da, db, dk, ds, dt, du, dz⟩, xc, xt⟩ ⟨mk, mn, mr, mb, ms, mo, mv, vl, il, ⟨ca, cb, ck, cs, ct, cu, cz⟩, mc, mt⟩) V I).toArray ∧ Outs [g] w w' := by
 refine A0 (n := 9) _ Tryz.func145 rfl rfl rfl (Hp.one hg) (Ae (Ac ?_))
 refine zB rfl fun g1 hg1 => ?_
 refine Ad (Aa (Ac (zm rfl (zf 3 BX rfl (zl 0 Tryz.underlying22 rfl (Ag (v := .pointer (some ⟨g, 0, none⟩)) trivial rfl rfl (fun ρ w E H => Be E rfl rfl) (zf 3 BX rfl (Bz (i := 1) trivial rfl rfl rfl rfl rfl JL rfl rfl rfl (Ad ?_)))))))))
 refine Dt (.tuple #[]) (fun a w K H => Hl rfl) (fun w H => ?_)
 exact ⟨rfl, H.get (i := 1) rfl, H.toOuts _ ⟨(zh hg1), (zi (by simp)), trivial⟩⟩

set_option maxRecDepth 100000 in
set_option maxHeartbeats 4000000 in
theorem Un (g xk xn xr xb xs xo da db dk dz xc : Nat) (xv ds dt du xt : List UInt8) (wl : List Vo) (jl : List Im) (V I : Value)(mk mn mr mb ms mo ca cb ck cz mc : Nat) (mv cs ct cu mt : List UInt8) (vl : List Vo) (il : List Im) (least : Nat) (A B : Option Addr) (ka kb : Nat) (w : World) (hg : Blk w g 33 (msL ⟨xk, xn, xr, xb, xs, xo, xv, wl, jl, ⟨da, db, dk, ds, dt, du, dz⟩, xc, xt⟩ V I).toArray) : Calls Tryz.prog 141 #[.pointer (some ⟨g, 0, none⟩), .agg #[.int .u8 (mk : Int), .int .u64 (mn : Int), .int .u8 (mr : Int), .int .u64 (mb : Int), .int .u64 (ms : Int), .int .u8 (mo : Int), .string ⟨mv.toArray⟩, .slice A vl.length ka, .slice B il.length kb, .int .u8 (ca : Int), .int .u32 (cb : Int), .int .u8 (ck : Int), .string ⟨cs.toArray⟩, .string ⟨ct.toArray⟩, .string ⟨cu.toArray⟩, .int .u8 (cz : Int), .int .u8 (mc : Int), .string ⟨mt.toArray⟩]] w fun e w' => e = .returned (.tuple #[]) ∧ Blk w' g 33 (msL (Pt.move (.slot least) ⟨xk, xn, xr, xb, xs, xo, xv, wl, jl, ⟨da, db, dk, ds, dt, du, dz⟩, xc, xt⟩ ⟨mk, mn, mr, mb, ms, mo, mv, vl, il, ⟨ca, cb, ck, cs, ct, cu, cz⟩, mc, mt⟩) V I).toArray ∧ Outs [g] w w' := by
 refine A0 (n := 9) _ Tryz.func141 rfl rfl rfl (Hp.one hg) (Ae (Ac ?_))
 refine zB rfl fun g1 hg1 => ?_
 refine Ad (Aa (Ac (zm rfl (zf 4 Bq rfl (zl 0 Tryz.underlying22 rfl (Ag (v := .pointer (some ⟨g, 0, none⟩)) trivial rfl rfl (fun ρ w E H => Be E rfl rfl) (zf 4 Bq rfl (Bz (i := 1) trivial rfl rfl rfl rfl rfl JL rfl rfl rfl (Ad ?_)))))))))
 refine Dt (.tuple #[]) (fun a w K H => Hl rfl) (fun w H => ?_)
 exact ⟨rfl, H.get (i := 1) rfl, H.toOuts _ ⟨(zh hg1), (zi (by simp)), trivial⟩⟩

set_option maxRecDepth 100000 in
set_option maxHeartbeats 4000000 in
theorem Rq (g xk xn xr xb xs xo da db dk dz xc : Nat) (xv ds dt du xt : List UInt8) (wl : List Vo) (jl : List Im) (V I : Value)(mk mn mr mb ms mo ca cb ck cz mc : Nat) (mv cs ct cu mt : List UInt8) (vl : List Vo) (il : List Im) (A B : Option Addr) (ka kb : Nat) (w : World) (hg : Blk w g 33 (msL ⟨xk, xn, xr, xb, xs, xo, xv, wl, jl, ⟨da, db, dk, ds, dt, du, dz⟩, xc, xt⟩ V I).toArray) : Calls Tryz.prog 154 #[.pointer (some ⟨g, 0, none⟩), .agg #[.int .u8 (mk : Int), .int .u64 (mn : Int), .int .u8 (mr : Int), .int .u64 (mb : Int), .int .u64 (ms : Int), .int .u8 (mo : Int), .string ⟨mv.toArray⟩, .slice A vl.length ka, .slice B il.length kb, .int .u8 (ca : Int), .int .u32 (cb : Int), .int .u8 (ck : Int), .string ⟨cs.toArray⟩, .string ⟨ct.toArray⟩, .string ⟨cu.toArray⟩, .int .u8 (cz : Int), .int .u8 (mc : Int), .string ⟨mt.toArray⟩]] w fun e w' => e = .returned (.tuple #[]) ∧ Blk w' g 33 (msL (Pt.move .value ⟨xk, xn, xr, xb, xs, xo, xv, wl, jl, ⟨da, db, dk, ds, dt, du, dz⟩, xc, xt⟩ ⟨mk, mn, mr, mb, ms, mo, mv, vl, il, ⟨ca, cb, ck, cs, ct, cu, cz⟩, mc, mt⟩) V I).toArray ∧ Outs [g] w w' := by
 refine A0 (n := 9) _ Tryz.func154 rfl rfl rfl (Hp.one hg) (Ae (Ac ?_))
 refine zB rfl fun g1 hg1 => ?_
 refine Ad (Aa (Ac (zm rfl (zf 6 Cf rfl (zl 0 Tryz.underlying9 rfl (Ag (v := .pointer (some ⟨g, 0, none⟩)) trivial rfl rfl (fun ρ w E H => Be E rfl rfl) (zf 6 Cf rfl (Bz (i := 1) trivial rfl rfl rfl rfl rfl G8 rfl rfl rfl (Ad ?_)))))))))
 refine Dt (.tuple #[]) (fun a w K H => Hl rfl) (fun w H => ?_)
 exact ⟨rfl, H.get (i := 1) rfl, H.toOuts _ ⟨(zh hg1), (zi (by simp)), trivial⟩⟩

set_option maxRecDepth 100000 in
set_option maxHeartbeats 4000000 in
theorem Ro (g xk xn xr xb xs xo da db dk dz xc : Nat) (xv ds dt du xt : List UInt8) (wl : List Vo) (jl : List Im) (V I : Value)(mk mn mr mb ms mo ca cb ck cz mc : Nat) (mv cs ct cu mt : List UInt8) (vl : List Vo) (il : List Im) (A B : Option Addr) (ka kb : Nat) (w : World) (hg : Blk w g 33 (msL ⟨xk, xn, xr, xb, xs, xo, xv, wl, jl, ⟨da, db, dk, ds, dt, du, dz⟩, xc, xt⟩ V I).toArray) (hv : Rows w A 4 voL vl) (hne : vl ≠ [] → ∀ ad, A = some ad → ad.block ≠ g) (hlen : vl.length ≤ 1000000) : Calls Tryz.prog 149 #[.pointer (some ⟨g, 0, none⟩), .agg #[.int .u8 (mk : Int), .int .u64 (mn : Int), .int .u8 (mr : Int), .int .u64 (mb : Int), .int .u64 (ms : Int), .int .u8 (mo : Int), .string ⟨mv.toArray⟩, .slice A vl.length ka, .slice B il.length kb, .int .u8 (ca : Int), .int .u32 (cb : Int), .int .u8 (ck : Int), .string ⟨cs.toArray⟩, .string ⟨ct.toArray⟩, .string ⟨cu.toArray⟩, .int .u8 (cz : Int), .int .u8 (mc : Int), .string ⟨mt.toArray⟩]] w fun e w' => ∃ V', e = .returned (.tuple #[]) ∧ Blk w' g 33 (msL (Pt.move .votes ⟨xk, xn, xr, xb, xs, xo, xv, wl, jl, ⟨da, db, dk, ds, dt, du, dz⟩, xc, xt⟩ ⟨mk, mn, mr, mb, ms, mo, mv, vl, il, ⟨ca, cb, ck, cs, ct, cu, cz⟩, mc, mt⟩) V' I).toArray ∧ w'.ownsRow w.heap.size 92 4 V' vl.length (vl.flatMap voL) ∧ Outs [g] w w' := by
 refine A0 (n := 10) _ Tryz.func149 rfl rfl rfl (Hp.one hg) (Ae (Ac ?_))
 refine zB rfl fun g1 hg1 => ?_
 refine Ad (Aa (Ac (zm rfl (zf 7 AH rfl (zl 0 Tryz.underlying25 rfl ?_)))))
 refine AP (σ := Value) (fun s => s) (fun s => OwnIn w [] s) (fun s => _) trivial rfl rfl (zk EH rfl) (EW (fun w H => Yw vl A ka w (hv.outs (H.toOuts [g] ⟨(zh hg1), (zi (by simp)), trivial⟩) (fun hn ad h hm => hne hn ad h (List.mem_singleton.1 hm))) hlen)) fun v7 hv7 => ?_
 refine CZ (fun W H => Bf (H.get (i := 0) rfl)) ?_
 rintro ⟨A7, k7, rfl⟩
 refine Ag (v := .pointer (some ⟨g, 0, none⟩)) trivial rfl rfl (fun ρ w E H => Be E rfl rfl) (zf 7 AH rfl (Bz (i := 2) trivial rfl rfl rfl rfl rfl Jv rfl rfl rfl (Ad ?_)))
 refine Dt (.tuple #[]) (fun a w K H => Hl rfl) (fun w H => ?_)
 exact ⟨_, rfl, H.get (i := 2) rfl, H.get (i := 0) rfl, H.toOuts _ ⟨(zj hv7.fresh), (zh hg1), (zi (by simp)), trivial⟩⟩

set_option maxRecDepth 100000 in
set_option maxHeartbeats 4000000 in
theorem Ru (g xk xn xr xb xs xo da db dk dz xc : Nat) (xv ds dt du xt : List UInt8) (wl : List Vo) (jl : List Im) (V I : Value)(mk mn mr mb ms mo ca cb ck cz mc : Nat) (mv cs ct cu mt : List UInt8) (vl : List Vo) (il : List Im) (A B : Option Addr) (ka kb : Nat) (w : World) (hg : Blk w g 33 (msL ⟨xk, xn, xr, xb, xs, xo, xv, wl, jl, ⟨da, db, dk, ds, dt, du, dz⟩, xc, xt⟩ V I).toArray) (hi : Rows w B 2 imL il) (hne : il ≠ [] → ∀ ad, B = some ad → ad.block ≠ g) (hlen : il.length ≤ 1000000) : Calls Tryz.prog 158 #[.pointer (some ⟨g, 0, none⟩), .agg #[.int .u8 (mk : Int), .int .u64 (mn : Int), .int .u8 (mr : Int), .int .u64 (mb : Int), .int .u64 (ms : Int), .int .u8 (mo : Int), .string ⟨mv.toArray⟩, .slice A vl.length ka, .slice B il.length kb, .int .u8 (ca : Int), .int .u32 (cb : Int), .int .u8 (ck : Int), .string ⟨cs.toArray⟩, .string ⟨ct.toArray⟩, .string ⟨cu.toArray⟩, .int .u8 (cz : Int), .int .u8 (mc : Int), .string ⟨mt.toArray⟩]] w fun e w' => ∃ V', e = .returned (.tuple #[]) ∧ Blk w' g 33 (msL (Pt.move .items ⟨xk, xn, xr, xb, xs, xo, xv, wl, jl, ⟨da, db, dk, ds, dt, du, dz⟩, xc, xt⟩ ⟨mk, mn, mr, mb, ms, mo, mv, vl, il, ⟨ca, cb, ck, cs, ct, cu, cz⟩, mc, mt⟩) V V').toArray ∧ w'.ownsRow w.heap.size 94 2 V' il.length (il.flatMap imL) ∧ Outs [g] w w' := by
 refine A0 (n := 10) _ Tryz.func158 rfl rfl rfl (Hp.one hg) (Ae (Ac ?_))
 refine zB rfl fun g1 hg1 => ?_
 refine Ad (Aa (Ac (zm rfl (zf 8 AE rfl (zl 0 Tryz.underlying26 rfl ?_)))))
 refine AP (σ := Value) (fun s => s) (fun s => OwnIn w [] s) (fun s => _) trivial rfl rfl (zk EI rfl) (EW (fun w H => Yx il B kb w (hi.outs (H.toOuts [g] ⟨(zh hg1), (zi (by simp)), trivial⟩) (fun hn ad h hm => hne hn ad h (List.mem_singleton.1 hm))) hlen)) fun v7 hv7 => ?_
 refine CZ (fun W H => Bf (H.get (i := 0) rfl)) ?_
 rintro ⟨A7, k7, rfl⟩
 refine Ag (v := .pointer (some ⟨g, 0, none⟩)) trivial rfl rfl (fun ρ w E H => Be E rfl rfl) (zf 8 AE rfl (Bz (i := 2) trivial rfl rfl rfl rfl rfl Jw rfl rfl rfl (Ad ?_)))
 refine Dt (.tuple #[]) (fun a w K H => Hl rfl) (fun w H => ?_)
 exact ⟨_, rfl, H.get (i := 2) rfl, H.get (i := 0) rfl, H.toOuts _ ⟨(zj hv7.fresh), (zh hg1), (zi (by simp)), trivial⟩⟩
end Go.Proofs.YteiaiilfekojfaaGreat.Msg
end
section
namespace Go.Proofs.YteiaiilfekojfaaGreat.Msg
open Go.RowKit Wire Sx DrawInv

theorem IB (r : Rd) : r.byte.2.rest.length ≤ r.rest.length := H4 (c := r.byte.1) rfl
theorem F2 (r : Rd) : r.num.2.rest.length ≤ r.rest.length := PO (c := r.num.1) rfl
theorem QZ (r : Rd) (n : Nat) : (r.below n).2.rest.length ≤ r.rest.length := Jk (c := (r.below n).1) rfl
theorem I9 (r : Rd) (m : Int) : (r.str m).2.rest.length ≤ r.rest.length := Cmd.str_rest (s := (r.str m).1) rfl
theorem Vq (r : Rd) : r.bad.rest.length ≤ r.rest.length := by unfold Rd.bad; rw [JY]; exact Nat.le_refl _
theorem IZ (r : Rd) : (Bal.takeB r).2.rest.length ≤ r.rest.length := by
 unfold Bal.takeB
 dsimp only
 have h1 := F2 r
 have h2 := IB r.num.2
 have h3 := Vq r.num.2.byte.2
 split <;> omega
theorem QY (r : Rd) : (Cmd.takeC r).2.rest.length ≤ r.rest.length := Cmd.takeC_rest r
theorem J4 (r : Rd) : r.num.1 < 18446744073709551616 := XZ (r' := r.num.2) rfl
theorem Lj (r : Rd) : r.byte.1 < 256 := Kt (r' := r.byte.2) rfl
theorem Qb (r : Rd) (n : Nat) (hn : 0 < n) : (r.below n).1 < n := Cmd.below_less hn (r' := (r.below n).2) rfl
theorem Iq {r : Rd} (h : r.num.2.err = 0) : r.err = 0 := by
 by_cases hr : r.err = 0
 ·exact hr
 ·rw [Nw r hr] at h; exact h
theorem LG {r : Rd} (h : (Bal.takeB r).2.err = 0) : r.err = 0 ∧ r.num.2.err = 0 := by
 unfold Bal.takeB at h
 dsimp only at h
 split at h
 ·have h1 := Cmd.byte_err h
  exact ⟨Iq h1, h1⟩
 ·exact absurd h (Bal.bad_err _)
theorem PQ {r : Rd} (h : r.num.2.err = 0) : r.num.2.rest.length < r.rest.length := by
 have h0 := Iq h
 obtain ⟨e, l⟩ := r
 obtain rfl : e = 0 := h0
 have h1 : (Rd.num ⟨0, l⟩).2 = ⟨0, (Rd.num ⟨0, l⟩).2.rest⟩ := Cmd.rd_zero h
 have h2 := Ld l (Rd.num ⟨0, l⟩).1 (Rd.num ⟨0, l⟩).2.rest (by rw [← h1])
 have h3 := (B0 (Rd.num ⟨0, l⟩).1 (J4 _)).2
 have h4 := congrArg List.length h2
 rw [List.length_append] at h4
 show _ < l.length
 omega
structure Grows (r : Rd) (n : Nat) : Prop where
 h1 : r.rest.length ≤ 100000
 h2 : n ≤ 100001
 h3 : r.err = 0 → n + r.rest.length ≤ 100000
theorem Grows.vote {r : Rd} {n : Nat} (h : Grows r n) (h0 : r.err = 0) : Grows ((Bal.takeB r.num.2).2.str 65536).2 (n + 1) := by
 have a := F2 r
 have b := IZ r.num.2
 have c := I9 (Bal.takeB r.num.2).2 65536
 have hh := h.h3 h0
 have hh1 := h.h1
 refine ⟨by omega, by omega, fun he => ?_⟩
 have e1 := Cmd.str_err he
 have e2 := (LG e1).1
 have d := PQ e2
 omega
theorem Grows.item {r : Rd} {n : Nat} (h : Grows r n) (h0 : r.err = 0) : Grows (r.num.2.str 65536).2 (n + 1) := by
 have a := F2 r
 have c := I9 r.num.2 65536
 have hh := h.h3 h0
 have hh1 := h.h1
 refine ⟨by omega, by omega, fun he => ?_⟩
 have e2 := Cmd.str_err he
 have d := PQ e2
 omega
theorem Grows.num {r : Rd} {n : Nat} (h : Grows r n) : Grows r.num.2 n := by
 have a := F2 r
 have hh1 := h.h1
 exact ⟨by omega, h.h2, fun he => by have := h.h3 (Iq he); omega⟩
theorem KR (n : Nat) (r : Rd) (l : List Vo) (hn : 0 < n) (h : r.err = 0) : tkV n r l = tkV (n - 1) ((Bal.takeB r.num.2).2.str 65536).2 (l ++ [⟨r.num.1, (Bal.takeB r.num.2).1.n, (Bal.takeB r.num.2).1.r, ((Bal.takeB r.num.2).2.str 65536).1⟩]) := by
 obtain ⟨m, rfl⟩ : ∃ m, n = m + 1 := ⟨n - 1, by omega⟩
 show (if r.err = 0 then _ else _) = _
 rw [if_pos h]
 rfl
theorem Nb (n : Nat) (r : Rd) (l : List Vo) (h : n = 0 ∨ r.err ≠ 0) : tkV n r l = (r, l) := by
 cases n with
 | zero => rfl
 | succ m =>
  have h : r.err ≠ 0 := h.resolve_left (by omega)
  show (if r.err = 0 then _ else _) = _
  rw [if_neg h]
theorem KU (n : Nat) (r : Rd) (l : List Im) (hn : 0 < n) (h : r.err = 0) : tkI n r l = tkI (n - 1) (r.num.2.str 65536).2 (l ++ [⟨r.num.1, (r.num.2.str 65536).1⟩]) := by
 obtain ⟨m, rfl⟩ : ∃ m, n = m + 1 := ⟨n - 1, by omega⟩
 show (if r.err = 0 then _ else _) = _
 rw [if_pos h]
 rfl
theorem Nc (n : Nat) (r : Rd) (l : List Im) (h : n = 0 ∨ r.err ≠ 0) : tkI n r l = (r, l) := by
 cases n with
 | zero => rfl
 | succ m =>
  have h : r.err ≠ 0 := h.resolve_left (by omega)
  show (if r.err = 0 then _ else _) = _
  rw [if_neg h]
theorem UN (g : Nat) (r : Rd) (hl : r.rest.length < 4611686018427387904) (w : World) (h : RdAt w g r) : Calls Tryz.prog 134 #[.pointer (some ⟨g, 0, none⟩)] w fun e w' => Bal.BalRet w g (Bal.takeB r) e w' :=
 Bal.take_bal g r r.num.2 r.num.2.byte.2 r.num.1 r.num.2.byte.1 hl rfl (by have := F2 r; omega) rfl w h
def RdP (w : World) (g : Nat) (v : Value) (r : Rd) (e : Ending) (w' : World) : Prop := e = .returned v ∧ Blk w' g 157 (rdC r) ∧ w.grownBy w' (some g)
theorem Pv {g : Nat} {r : Rd} {p : Nat × Rd} (hp : Rd.byte r = p) (hl : r.rest.length ≤ 1000000) (w : World) (h : RdAt w g r) : Calls Tryz.prog 58 #[.pointer (some ⟨g, 0, none⟩)] w fun e w' => RdP w g (.int .u8 (p.1 : Int)) p.2 e w' := by
 subst hp; exact JE g r (by omega) w h
theorem Ol {g : Nat} {r : Rd} {p : Nat × Rd} (hp : Rd.num r = p) (hl : r.rest.length ≤ 1000000) (w : World) (h : RdAt w g r) : Calls Tryz.prog 140 #[.pointer (some ⟨g, 0, none⟩)] w fun e w' => RdP w g (.int .u64 (p.1 : Int)) p.2 e w' := by
 subst hp; exact OX g r (by omega) w h
theorem XB {g : Nat} {r : Rd} {n : Nat} {p : Nat × Rd} (hp : Rd.below r n = p) (hl : r.rest.length ≤ 1000000) (w : World) (h : RdAt w g r) : Calls Tryz.prog 92 #[.pointer (some ⟨g, 0, none⟩), .int .u64 (n : Int)] w fun e w' => RdP w g (.int .u64 (p.1 : Int)) p.2 e w' := by
 subst hp; exact Me g r n (by omega) w h
theorem S5 {g : Nat} {r : Rd} {m : Int} {p : List UInt8 × Rd} (hp : Rd.str r m = p) (h1 : -9223372036854775808 ≤ m) (h2 : m ≤ 9223372036854775807) (hl : r.rest.length ≤ 1000000) (w : World) (h : RdAt w g r) : Calls Tryz.prog 124 #[.pointer (some ⟨g, 0, none⟩), .int .i64 m] w fun e w' => RdP w g (.string ⟨p.1.toArray⟩) p.2 e w' := by
 subst hp; exact S8 g r m h1 h2 (by omega) w h
theorem XO {g : Nat} {r : Rd} {p : Bal.B × Rd} (hp : Bal.takeB r = p) (hl : r.rest.length ≤ 1000000) (w : World) (h : RdAt w g r) : Calls Tryz.prog 134 #[.pointer (some ⟨g, 0, none⟩)] w fun e w' => RdP w g (.agg #[.int .u64 (p.1.n : Int), .int .u8 (p.1.r : Int)]) p.2 e w' := by
 subst hp; exact UN g r (by omega) w h
theorem YC {g : Nat} {r : Rd} {p : Cmd.Cm × Rd} (hp : Cmd.takeC r = p) (hl : r.rest.length ≤ 1000000) (w : World) (h : RdAt w g r) : Calls Tryz.prog 113 #[.pointer (some ⟨g, 0, none⟩)] w fun e w' => RdP w g (.agg #[.int .u8 (p.1.client : Int), .int .u32 (p.1.seq : Int), .int .u8 (p.1.kind : Int), .string ⟨p.1.key.toArray⟩, .string ⟨p.1.old.toArray⟩, .string ⟨p.1.new.toArray⟩, .int .u8 (p.1.set : Int)]) p.2 e w' := by
 subst hp; exact Cmd.take_any g r hl w h
theorem MP {r : Rd} {p : Nat × Rd} (hp : Rd.byte r = p) : p.2.rest.length ≤ r.rest.length := hp ▸ IB r
theorem QX {r : Rd} {p : Nat × Rd} (hp : Rd.num r = p) : p.2.rest.length ≤ r.rest.length := hp ▸ F2 r
theorem XW {r : Rd} {p : Bal.B × Rd} (hp : Bal.takeB r = p) : p.2.rest.length ≤ r.rest.length := hp ▸ IZ r
theorem Hp.trio {w : World} {g g' : Nat} {t t' : TypeId} {cs cs' : List Value} {base e sz m : Nat} {v : Value} {xs : List Value} (h : Blk w g t cs.toArray) (h' : Blk w g' t' cs'.toArray) (hne : g ≠ g') (hown : w.ownsRow base e sz v m xs) (hd : g ∉ v.ownBlock.toList) (hd' : g' ∉ v.ownBlock.toList) :
  Hp w [BU v.ownBlock.toList base e sz v m xs, cell g t cs, cell g' t' cs'] w :=
 (Hp.duo h h' hne).know _ (BF _ _ _ _ _ _ _) (fun b hb => ⟨(BS hown b (by simpa [BU] using hb)).2, fun q hq hbq => by
  have hb : b ∈ v.ownBlock.toList := by simpa [BU] using hb
  simp only [List.mem_cons, List.not_mem_nil, or_false] at hq
  rcases hq with rfl | rfl
  ·rw [List.mem_singleton.1 hbq] at hb; exact hd hb
  ·rw [List.mem_singleton.1 hbq] at hb; exact hd' hb⟩) hown
end Go.Proofs.YteiaiilfekojfaaGreat.Msg
end
section
namespace Go.Proofs.YteiaiilfekojfaaGreat.Sx
open Go.RowKit

theorem GT : Enters Tryz.prog 9 := enters_of Tryz.func9 (by kernel_rfl) rfl
theorem BL : Enters Tryz.prog 52 := enters_of Tryz.func52 (by kernel_rfl) rfl
theorem CU : Enters Tryz.prog 54 := enters_of Tryz.func54 (by kernel_rfl) rfl
theorem Fg : Enters Tryz.prog 55 := enters_of Tryz.func55 (by kernel_rfl) rfl
theorem Hy : Enters Tryz.prog 90 := enters_of Tryz.func90 (by kernel_rfl) rfl
theorem Hw : Enters Tryz.prog 49 := enters_of Tryz.func49 (by kernel_rfl) rfl
theorem Hv : Enters Tryz.prog 53 := enters_of Tryz.func53 (by kernel_rfl) rfl
theorem Ea : Enters Tryz.prog 18 := enters_of Tryz.func18 (by kernel_rfl) rfl
theorem D8 : Enters Tryz.prog 16 := enters_of Tryz.func16 (by kernel_rfl) rfl
theorem Eh : Enters Tryz.prog 47 := enters_of Tryz.func47 (by kernel_rfl) rfl
theorem Db : Enters Tryz.prog 14 := enters_of Tryz.func14 (by kernel_rfl) rfl
theorem Eo : Enters Tryz.prog 50 := enters_of Tryz.func50 (by kernel_rfl) rfl
theorem Au : Enters Tryz.prog 48 := enters_of Tryz.func48 (by kernel_rfl) rfl
end Go.Proofs.YteiaiilfekojfaaGreat.Sx
end
section
set_option linter.unusedVariables false
set_option linter.unusedSimpArgs false
namespace Go.Proofs.YteiaiilfekojfaaGreat.Sx
open Go.RowKit DrawInv
section
variable {P : Program} {ops : Array Oper} {Q : Exit → Act → World → Prop} {n m : Nat} {vs : Vs} {w0 : World} {L : List Ft} {o : Oper} {rest : List Oper}
def SxI (m : Nat) (P : Program) (ops : Array Oper) (Q : Exit → Act → World → Prop) (rest : List Oper) (n : Nat) (vs : Vs) (w0 : World) (L : List Ft) : Prop := ∀ a w, Kn n vs a → Hp w0 L w → wpListIn Fence.wide m P ops Q rest a w
theorem QB {id : Nat} {l : List Oper} (m : Nat) (h : SxI m P l.toArray Q l n vs w0 L) : SxC P (.region id l.toArray false) Q n vs w0 L := fun a w K H => wpIn_wide.1 (wpIn_region_lit (n := m) (h a w K H))
theorem SxI.nil (h : SxN Q n vs w0 L) : SxI m P ops Q [] n vs w0 L := h
theorem SxI.val {d : Nat} {v : Value} (hon : GOn ops vs o.guard) (hd : o.dst = some d) (hdn : Nat.blt d n = true) (hr : ∀ ρ w, Env vs ρ → Hp w0 L w → (execOp ρ o).run P w = .ok (.value v) w)
  (h : SxI m P ops Q rest n ((d, v) :: vs) w0 L) : SxI m P ops Q (o :: rest) n vs w0 L := fun a w K H => by
 unfold wpListIn
 rw [if_pos (hon.on K.env).wanted]
 refine ⟨fun _ _ => trivial, ?_⟩
 rw [Fence.wide_round, Oper.semAt_none, hr a.eval w K.env H, Oper.uponIn_value, hd]
 exact h _ _ (K.put hdn v) H
theorem SxI.valB {d : Nat} {b : Bool} (hon : GOn ops vs o.guard) (hd : o.dst = some d) (hdn : Nat.blt d n = true) (hr : ∀ ρ w, Env vs ρ → Hp w0 L w → (execOp ρ o).run P w = .ok (.value (.bool b)) w)
  (h : ∀ t, b = t → SxI m P ops Q rest n ((d, .bool t) :: vs) w0 L) : SxI m P ops Q (o :: rest) n vs w0 L := SxI.val hon hd hdn hr (h b rfl)
theorem SxI.off {d : Nat} (hoff : GOff ops vs o.guard) (hd : o.dst = some d) (hdn : Nat.blt d n = true) (h : SxI m P ops Q rest n ((d, undef) :: vs) w0 L) : SxI m P ops Q (o :: rest) n vs w0 L := fun a w K H => by
 unfold wpListIn
 rw [if_neg (by rw [(hoff.off K.env).wanted]; decide), hd]
 exact ⟨fun _ _ => trivial, h _ _ (K.put hdn undef) H⟩
theorem Wa {ρ : Operand → Value} {c : Operand} {args : List Operand} {T : Array TypeId} {xs : List Value} {l : Nat} {w w' : World} {f : FuncId} {tmps : Array Value} {assign body : Code} (E : Env vs ρ) (ho : o.op = .call { callee := .value c, args := args.toArray, argTypes := T }) (hc : opv vs c = some (.func (.yield l) #[] #[])) (hx : Nv vs args = some xs)
  (hy : (Instr.yield l xs.toArray).run P w = .ok (.round l f tmps assign body) w') : (execOp ρ o).run P w = .ok (.round l f tmps assign body) w' := by
 unfold execOp; rw [ho]
 have ha : args.toArray.map ρ = xs.toArray := by rw [List.map_toArray]; exact congrArg List.toArray (E.evs hx)
 simp only [resolve, ha, E.ev hc, Deferred.ofValue, Sem.run_bind, Sem.run_pure, Result.andThen_ok, invoke, Array.empty_append, Array.append_empty]
 exact hy
theorem SxI.yield {d l : Nat} {xs : List Value} {c : Operand} {args : List Operand} {T : Array TypeId} {R : Bool → World → Prop} (hon : GOn ops vs o.guard) (hd : o.dst = some d) (hdn : Nat.blt d n = true) (ho : o.op = .call { callee := .value c, args := args.toArray, argTypes := T }) (hc : opv vs c = some (.func (.yield l) #[] #[])) (hx : Nv vs args = some xs)
  (hy : ∀ w, Hp w0 L w → YieldAt Fence.wide (m - 1) P l xs.toArray w fun e w' => ∃ b, e = .returned (.bool b) ∧ R b w')
  (h : ∀ b w', R b w' → SxI m P ops Q rest n ((d, .bool b) :: vs) w' []) : SxI m P ops Q (o :: rest) n vs w0 L := fun a w K H => by
 obtain ⟨fn, tmps, assign, body, hy1, hy2⟩ := hy w H
 unfold wpListIn
 rw [if_pos (hon.on K.env).wanted]
 refine ⟨fun _ _ => trivial, ?_⟩
 rw [Fence.wide_round, Oper.semAt_none, Wa K.env ho hc hx hy1, Oper.uponIn_round]
 refine ⟨(fun h => by cases h), hy2.mono ?_⟩
 rintro e w' ⟨b, rfl, hR⟩
 show wpListIn Fence.wide m P ops Q rest (a.put o.dst _) w'
 rw [hd]
 exact h b w' hR _ _ (K.put hdn _) (Hp.start w')
def XT {σ : Type} (n : Nat) (vF : σ → Vs) (F : Nat → σ → World → Prop) (k : Nat) (a : Act) (w : World) : Prop := ∃ k' s, k' < k ∧ F k' s w ∧ Kn n (vF s) a
theorem UU {σ : Type} {c : Code} (vF : σ → Vs) (F : Nat → σ → World → Prop) (k0 : Nat) (s0 : σ) (h0 : ∀ w, Hp w0 L w → F k0 s0 w) (hs : Sub (vF s0) vs)
  (round : ∀ k s w1, F k s w1 → SxC P c (Exit.then (XT n vF F k) Q) n (vF s) w1 []) : SxC P (.loop c) Q n vs w0 L := fun a w K H => by
 refine wp_loop_ghost (fun k a w => ∃ s, F k s w ∧ Kn n (vF s) a) k0 ⟨s0, h0 w H, K.sub hs⟩ ?_
 rintro k a w ⟨s, hF, K⟩
 refine wp_mono (round k s w hF a w K (Hp.start w)) fun e a w h => ?_
 cases e with
 | normal => obtain ⟨k', s', h1, h2, h3⟩ := h; exact ⟨k', h1, s', h2, h3⟩
 | _ => exact h
theorem OD {σ : Type} {vF : σ → Vs} {F : Nat → σ → World → Prop} {k : Nat} (k' : Nat) (s : σ) (hk : k' < k) (h0 : ∀ w, Hp w0 L w → F k' s w) (hs : Sub (vF s) vs) :
  SxN (Exit.then (XT n vF F k) Q) n vs w0 L := fun a w K H => ⟨k', s, hk, h0 w H, K.sub hs⟩
end
end Go.Proofs.YteiaiilfekojfaaGreat.Sx
end
section
set_option linter.unusedVariables false
set_option linter.unusedSimpArgs false
namespace Go.Proofs.YteiaiilfekojfaaGreat.Msg
open Go.RowKit Wire Sx DrawInv

theorem toL (l : List UInt8) : (⟨l.toArray⟩ : ByteArray).toList = l := by simp
theorem Ho (a b : Nat) : ((a : Int) == (b : Int)) = decide (a = b) := by apply Bool.eq_iff_iff.2; simp; omega
theorem JM (a b : List UInt8) : ((⟨a.toArray⟩ : ByteArray).toList == (⟨b.toArray⟩ : ByteArray).toList) = decide (a = b) := by rw [toL, toL]; apply Bool.eq_iff_iff.2; simp
set_option maxRecDepth 100000 in
theorem Xu (k : Nat) (x y : Vo) (w : World) : (Op.equalIn (k + 3) 92 (.agg (voL x).toArray) (.agg (voL y).toArray)).run Tryz.prog w = .ok (((x.slot : Int) == (y.slot : Int)) && ((((x.n : Int) == (y.n : Int)) && (((x.r : Int) == (y.r : Int)) && true)) && (((⟨x.value.toArray⟩ : ByteArray).toList == (⟨y.value.toArray⟩ : ByteArray).toList) && true))) w := by
 have e1 := run_equalIn_int (P := Tryz.prog) w (k + 1) 22 .u64 .u64 (x.slot : Int) (y.slot : Int) Tryz.underlying22
 have e2 := Qo k x.n x.r y.n y.r w
 have e3 := run_equalIn_string (P := Tryz.prog) w (k + 1) 9 ⟨x.value.toArray⟩ ⟨y.value.toArray⟩ Tryz.underlying9
 obtain ⟨h1, h2⟩ := Hz Tryz.underlying92
 rw [run_equalIn_agg w (k + 2) _ _ _ h1 (by kernel_rfl), h2]
 exact Cj (by decide) (by kernel_rfl) (by kernel_rfl) e1 (Cj (by decide) (by kernel_rfl) (by kernel_rfl) e2 (Cj (by decide) (by kernel_rfl) (by kernel_rfl) e3 (FW _ _ _ _ _)))
theorem XM (x y : Vo) (w : World) : (Op.equal 92 (.agg (voL x).toArray) (.agg (voL y).toArray)).run Tryz.prog w = .ok (decide (x = y)) w := by
 have h := Xu 9997 x y w
 rw [Ho, Ho, Ho, JM] at h
 have e : (decide (x.slot = y.slot) && ((decide (x.n = y.n) && (decide (x.r = y.r) && true)) && (decide (x.value = y.value) && true))) = decide (x = y) := by
  obtain ⟨a, b, c, d⟩ := x
  obtain ⟨a', b', c', d'⟩ := y
  apply Bool.eq_iff_iff.2
  simp [and_assoc]
 rw [e] at h
 exact h
set_option maxRecDepth 100000 in
theorem Xw (k : Nat) (x y : Im) (w : World) : (Op.equalIn (k + 2) 94 (.agg (imL x).toArray) (.agg (imL y).toArray)).run Tryz.prog w = .ok (((x.slot : Int) == (y.slot : Int)) && (((⟨x.value.toArray⟩ : ByteArray).toList == (⟨y.value.toArray⟩ : ByteArray).toList) && true)) w := by
 have e1 := run_equalIn_int (P := Tryz.prog) w k 22 .u64 .u64 (x.slot : Int) (y.slot : Int) Tryz.underlying22
 have e3 := run_equalIn_string (P := Tryz.prog) w k 9 ⟨x.value.toArray⟩ ⟨y.value.toArray⟩ Tryz.underlying9
 obtain ⟨h1, h2⟩ := Hz Tryz.underlying94
 rw [run_equalIn_agg w (k + 1) _ _ _ h1 (by kernel_rfl), h2]
 exact Cj (by decide) (by kernel_rfl) (by kernel_rfl) e1 (Cj (by decide) (by kernel_rfl) (by kernel_rfl) e3 (FW _ _ _ _ _))
theorem XN (x y : Im) (w : World) : (Op.equal 94 (.agg (imL x).toArray) (.agg (imL y).toArray)).run Tryz.prog w = .ok (decide (x = y)) w := by
 have h := Xw 9998 x y w
 rw [Ho, JM] at h
 have e : (decide (x.slot = y.slot) && (decide (x.value = y.value) && true)) = decide (x = y) := by
  obtain ⟨a, d⟩ := x
  obtain ⟨a', d'⟩ := y
  apply Bool.eq_iff_iff.2
  simp [and_assoc]
 rw [e] at h
 exact h
set_option maxRecDepth 100000 in
theorem Xx (n : Nat) (w : World) (x y : Cmd.Cm) : (Op.equalIn (n + 2) 29 (Cmd.cmV x) (Cmd.cmV y)).run Tryz.prog w = .ok (((x.client : Int) == (y.client : Int)) && (((x.seq : Int) == (y.seq : Int)) && (((x.kind : Int) == (y.kind : Int)) && (((⟨x.key.toArray⟩ : ByteArray).toList == (⟨y.key.toArray⟩ : ByteArray).toList) && (((⟨x.old.toArray⟩ : ByteArray).toList == (⟨y.old.toArray⟩ : ByteArray).toList) && (((⟨x.new.toArray⟩ : ByteArray).toList == (⟨y.new.toArray⟩ : ByteArray).toList) && (((x.set : Int) == (y.set : Int)) && true))))))) w := by
 have e1 := run_equalIn_int (P := Tryz.prog) w n 5 .u8 .u8 (x.client : Int) (y.client : Int) Tryz.underlying5
 have e2 := run_equalIn_int (P := Tryz.prog) w n 27 .u32 .u32 (x.seq : Int) (y.seq : Int) Tryz.underlying27
 have e3 := run_equalIn_int (P := Tryz.prog) w n 5 .u8 .u8 (x.kind : Int) (y.kind : Int) Tryz.underlying5
 have e4 := run_equalIn_string (P := Tryz.prog) w n 9 ⟨x.key.toArray⟩ ⟨y.key.toArray⟩ Tryz.underlying9
 have e5 := run_equalIn_string (P := Tryz.prog) w n 9 ⟨x.old.toArray⟩ ⟨y.old.toArray⟩ Tryz.underlying9
 have e6 := run_equalIn_string (P := Tryz.prog) w n 9 ⟨x.new.toArray⟩ ⟨y.new.toArray⟩ Tryz.underlying9
 have e7 := run_equalIn_int (P := Tryz.prog) w n 5 .u8 .u8 (x.set : Int) (y.set : Int) Tryz.underlying5
 obtain ⟨h1, h2⟩ := Hz Tryz.underlying29
 unfold Cmd.cmV Cmd.cmC
 rw [run_equalIn_agg w (n + 1) _ _ _ h1 (by kernel_rfl), h2]
 exact Cj (by decide) (by kernel_rfl) (by kernel_rfl) e1 (Cj (by decide) (by kernel_rfl) (by kernel_rfl) e2 (Cj (by decide) (by kernel_rfl) (by kernel_rfl) e3 (Cj (by decide) (by kernel_rfl) (by kernel_rfl) e4 (Cj (by decide) (by kernel_rfl) (by kernel_rfl) e5 (Cj (by decide) (by kernel_rfl) (by kernel_rfl) e6 (Cj (by decide) (by kernel_rfl) (by kernel_rfl) e7 (FW _ _ _ _ _)))))))
theorem Qn (x y : Cmd.Cm) (w : World) : (Op.equal 29 (Cmd.cmV x) (Cmd.cmV y)).run Tryz.prog w = .ok (decide (x = y)) w := by
 have h := Xx 9998 w x y
 rw [Ho, Ho, Ho, Ho, JM, JM, JM] at h
 have e : (decide (x.client = y.client) && (decide (x.seq = y.seq) && (decide (x.kind = y.kind) && (decide (x.key = y.key) && (decide (x.old = y.old) && (decide (x.new = y.new) && (decide (x.set = y.set) && true))))))) = decide (x = y) := by
  obtain ⟨a, b, c, d, e, f, g⟩ := x
  obtain ⟨a', b', c', d', e', f', g'⟩ := y
  apply Bool.eq_iff_iff.2
  simp
 rw [e] at h
 exact h
set_option maxRecDepth 100000 in
theorem Xv (n : Nat) (w : World) (a b : Nat) (s t : List UInt8) : (Op.equalIn (n + 2) 31 (.agg #[.int .u8 (a : Int), .string ⟨s.toArray⟩]) (.agg #[.int .u8 (b : Int), .string ⟨t.toArray⟩])).run Tryz.prog w = .ok (((a : Int) == (b : Int)) && (((⟨s.toArray⟩ : ByteArray).toList == (⟨t.toArray⟩ : ByteArray).toList) && true)) w := by
 have e1 := run_equalIn_int (P := Tryz.prog) w n 5 .u8 .u8 (a : Int) (b : Int) Tryz.underlying5
 have e2 := run_equalIn_string (P := Tryz.prog) w n 9 ⟨s.toArray⟩ ⟨t.toArray⟩ Tryz.underlying9
 obtain ⟨h1, h2⟩ := Hz Tryz.underlying31
 rw [run_equalIn_agg w (n + 1) _ _ _ h1 (by kernel_rfl), h2]
 exact Cj (by decide) (by kernel_rfl) (by kernel_rfl) e1 (Cj (by decide) (by kernel_rfl) (by kernel_rfl) e2 (FW _ _ _ _ _))
theorem Wh (a b : Nat) (s t : List UInt8) (w : World) : (Op.equal 31 (.agg #[.int .u8 (a : Int), .string ⟨s.toArray⟩]) (.agg #[.int .u8 (b : Int), .string ⟨t.toArray⟩])).run Tryz.prog w = .ok (decide (a = b) && decide (s = t)) w := by
 have h := Xv 9998 w a b s t
 rw [Ho, JM, Bool.and_true] at h
 exact h
end Go.Proofs.YteiaiilfekojfaaGreat.Msg
end
section
namespace Go.Proofs.YteiaiilfekojfaaGreat.Frame
open Wire

theorem IV (n m b : Nat) (h : n ^^^ b = m ^^^ b) : n = m := by
 have h2 := congrArg (· ^^^ b) h
 simpa [Nat.xor_assoc] using h2
theorem MY (n m b : Nat) (h : b ^^^ n = b ^^^ m) : n = m := IV n m b (by rw [Nat.xor_comm n, Nat.xor_comm m]; exact h)
theorem V4 : poly.testBit 63 = true := by decide
theorem Qv (n m : Nat) (hn : n < 18446744073709551616) (hm : m < 18446744073709551616) (h : Gx n = Gx m) : n = m := by
 have hb : ∀ x, x < 18446744073709551616 → (x / 2).testBit 63 = false := fun x hx => Nat.testBit_lt_two_pow (by show x / 2 < 9223372036854775808; omega)
 have hx : ∀ x, x < 18446744073709551616 → ((x / 2) ^^^ poly).testBit 63 = true := fun x hx => by rw [Nat.testBit_xor, hb x hx, V4]; rfl
 unfold Gx at h
 by_cases h1 : n % 2 = 1 <;> by_cases h2 : m % 2 = 1
 ·rw [if_pos h1, if_pos h2] at h
  have := IV _ _ _ h
  omega
 ·rw [if_pos h1, if_neg h2] at h
  have := hx n hn
  rw [h, hb m hm] at this
  cases this
 ·rw [if_neg h1, if_pos h2] at h
  have := hx m hm
  rw [← h, hb n hn] at this
  cases this
 ·rw [if_neg h1, if_neg h2] at h
  omega
theorem Qw (n m k : Nat) (hn : n < 18446744073709551616) (hm : m < 18446744073709551616) (h : MK n k = MK m k) : n = m := by
 induction k with
 | zero => exact h
 | succ k ih => exact ih (Qv _ _ (Iy n k hn) (Iy m k hm) h)
theorem Qx (l : List UInt8) : ∀ (n m : Nat), n < 18446744073709551616 → m < 18446744073709551616 → ED n l = ED m l → n = m := by
 induction l with
 | nil => intro n m _ _ h; exact h
 | cons b l ih =>
  intro n m hn hm h
  have h2 := ih _ _ (Iy _ 8 (E3 n b hn)) (Iy _ 8 (E3 m b hm)) h
  exact IV _ _ _ (Qw _ _ 8 (E3 n b hn) (E3 m b hm) h2)
theorem MG (n : Nat) (a b : List UInt8) : ED n (a ++ b) = ED (ED n a) b := by unfold ED; rw [List.foldl_append]
theorem X4 (n m : Nat) (hn : n < 18446744073709551616) (hm : m < 18446744073709551616) (h : cpl n = cpl m) : n = m := by unfold cpl at h; omega
theorem Ws (p t : List UInt8) (b c : UInt8) (h : crcSum (p ++ b :: t) = crcSum (p ++ c :: t)) : b = c := by
 unfold crcSum at h
 have h0 := RP 0
 generalize cpl 0 = n at *
 have h1 := X4 _ _ (Jj _ _ h0) (Jj _ _ h0) h
 rw [MG, MG] at h1
 have hp := Jj n p h0
 generalize ED n p = m at *
 have h2 := Qx t _ _ (Iy _ 8 (E3 m b hp)) (Iy _ 8 (E3 m c hp)) h1
 have h3 := Qw _ _ 8 (E3 m b hp) (E3 m c hp) h2
 exact UInt8.toNat_inj.1 (MY _ _ _ h3)
theorem X3 (a : List UInt8) (j : Nat) (v : UInt8) (hj : j < a.length) (hv : v ≠ a[j]) : crcSum (a.set j v) ≠ crcSum a := by
 intro h
 rw [List.set_eq_take_append_cons_drop, if_pos hj] at h
 conv at h => rhs; rw [← List.take_append_drop j a, List.drop_eq_getElem_cons hj]
 exact hv (Ws _ _ _ _ h)


theorem NW (x : List UInt8) (h1 : 0 < x.length) (h2 : x.length ≤ 65536) (j : Nat) (hj : j < 8 + x.length) (v : UInt8) (hv : (leB 8 (crcSum x) ++ x)[j]? ≠ some v) :
  takeF (BI x.length ++ ((leB 8 (crcSum x) ++ x).set j v)) = ([], 0, 5) := by
 have h8 := leB_length 8 (crcSum x)
 have hcl := SK 8 (crcSum x) (by have := LX x; omega)
 unfold takeF
 rw [DJ x.length (by omega)]
 simp only
 have hl : ((leB 8 (crcSum x) ++ x).set j v).length = 8 + x.length := by rw [List.length_set, List.length_append, h8]
 rw [if_neg (by simp), if_neg (by omega), if_neg (by rw [hl]; omega)]
 by_cases h9 : j < 8
 ·rw [List.getElem?_append_left (by omega)] at hv
  rw [List.set_append_left _ _ (by omega)]
  have t1 : ((leB 8 (crcSum x)).set j v ++ x).take 8 = (leB 8 (crcSum x)).set j v := List.take_left' (by rw [List.length_set, h8])
  have t2 : ((leB 8 (crcSum x)).set j v ++ x).drop 8 = x := List.drop_left' (by rw [List.length_set, h8])
  rw [t1, t2, List.take_length, if_pos ?_]
  intro he
  have hb := Xj ((leB 8 (crcSum x)).set j v)
  rw [List.length_set, h8, he] at hb
  apply hv
  rw [hb, List.getElem?_set_self (by omega)]
 ·rw [List.getElem?_append_right (by omega), h8] at hv
  rw [List.set_append_right _ _ (by omega), h8]
  have t1 : (leB 8 (crcSum x) ++ x.set (j - 8) v).take 8 = leB 8 (crcSum x) := List.take_left' h8
  have t2 : (leB 8 (crcSum x) ++ x.set (j - 8) v).drop 8 = x.set (j - 8) v := List.drop_left' h8
  rw [t1, t2, List.take_of_length_le (by rw [List.length_set]; omega), if_pos ?_]
  rw [hcl]
  have hjx : j - 8 < x.length := by omega
  exact (X3 x (j - 8) v hjx (fun e => hv (by rw [List.getElem?_eq_getElem hjx, e]))).symm
end Go.Proofs.YteiaiilfekojfaaGreat.Frame
end
section
set_option linter.unusedVariables false
set_option linter.unusedSimpArgs false
set_option linter.unusedSectionVars false
namespace Go.Proofs.YteiaiilfekojfaaGreat.Sx
open Go.RowKit DrawInv

theorem Hp.nilRow {w0 w : World} {L : List Ft} (H : Hp w0 L w) (e : TypeId) (sz : Nat) : Hp w0 (BU [] w0.heap.size e sz (.slice none 0 0) 0 [] :: L) w :=
 H.know _ (BF _ _ _ _ _ _ _) (fun g hg => by simp [BU, Value.ownBlock] at hg) (World.ownsRow_nil _ _ _ _)
theorem F3 (w : World) (n c : Nat) : OwnIn w [] (.slice none n c) := fun g hg => by cases hg
theorem EY {α : Type} {cells : α → List Value} {w : World} {base e n c sz : Nat} {A : Option Addr} {l : List α} (hc : ∀ x, (cells x).length = sz) (hs : 0 < sz) (h : w.ownsRow base e sz (.slice A n c) l.length (l.flatMap cells)) : Rows w A sz cells l := by
 obtain ⟨A', c', e', _, hr⟩ := ID hc hs h
 injection e' with e1 e2 e3
 subst e1
 exact hr
def iL (v : Nat) : List Value := [.int .i64 (v : Int)]
theorem Pe (v : Nat) : (iL v).length = 1 := rfl
theorem Yg (v : Nat) : ∀ u ∈ iL v, u.oneCell' = true := fun u hu => by rw [List.mem_singleton.1 hu]; rfl
theorem LK : ∀ (l pre rest suf : List Value), rest.length = l.length → FP (pre ++ (rest ++ suf)) pre.length l = pre ++ (l ++ suf)
 | [], pre, rest, suf, h => by
  cases rest with
  | nil => rfl
  | cons a r => simp at h
 | v :: l, pre, rest, suf, h => by
  cases rest with
  | nil => simp at h
  | cons a r =>
   unfold FP
   rw [show (pre ++ (a :: r ++ suf)).set pre.length v = (pre ++ [v]) ++ (r ++ suf) by simp]
   have ih := LK l (pre ++ [v]) r suf (by simpa using h)
   rw [List.length_append, List.length_singleton] at ih
   rw [ih]
   simp
theorem NZ {α : Type} (l : List α) (k : Nat) (x : α) (hk : k < l.length) : l.set k x = l.take k ++ (x :: l.drop (k + 1)) := by
 rw [List.set_eq_take_append_cons_drop, if_pos hk]
theorem flat_len {α : Type} {cells : α → List Value} {sz : Nat} (hc : ∀ x, (cells x).length = sz) (l : List α) : (l.flatMap cells).length = l.length * sz := by
 induction l with
 | nil => simp
 | cons a l ih => rw [List.flatMap_cons, List.length_append, ih, hc, List.length_cons, Nat.succ_mul, Nat.add_comm]
section
variable {P : Program} {ops : Array Oper} {Q Q' : Exit → Act → World → Prop} {n : Nat} {vs : Vs} {w0 : World} {L : List Ft} {o : Oper} {rest : List Oper} {S : World → Prop} {fuel : Nat} {listed : Array Bool}
theorem Vh {α : Type} {cells : α → List Value} {l : List α} {y : α} {w : World} {ρ : Operand → Value} {base e sz m c k g : Nat} {u : TypeId} {p x : Operand} {v : Value} {vs : Vs} (hcl : ∀ x, (cells x).length = sz) (E : Env vs ρ) (hown : w.ownsRow base e sz (.slice (some ⟨g, 0, none⟩) m c) l.length (l.flatMap cells)) (ho : o.op = .store u p x) (hp : opv vs p = some (.pointer (some ((⟨g, 0, none⟩ : Addr).add (k * sz))))) (hx : opv vs x = some v) (hk : k < l.length) (hz : (P.info? u).map (·.size) = some sz) (hm : v.cells.toList = cells y) (h1 : v.cells.toList.all (·.oneCell') = true) :
  ∃ w', (execOp ρ o).run P w = .ok .skip w' ∧ w'.ownsRow base e sz (.slice (some ⟨g, 0, none⟩) m c) l.length ((l.set k y).flatMap cells) ∧ w.grownBy w' (some g) := by
 rcases hown.2 with ⟨h0, _⟩ | ⟨g', cap, cur, ev, hb, hh, hc1, hc2, hc3, hc4⟩
 ·cases h0
 ·injection ev with e1 e2 e3
  cases e1
  subst e3
  subst e2
  have hB : Blk w g e cur.toList.toArray := by rw [Array.toArray_toList]; exact hh
  have hle : (k + 1) * sz ≤ c * sz := Nat.mul_le_mul_right _ (by omega)
  have hlen : cur.toList.length = c * sz := by simpa using hc3
  rw [Nat.succ_mul] at hle
  have hvl : v.cells.toList.length = sz := by rw [hm, hcl]
  obtain ⟨w', hr, hb', hg⟩ := NC (P := P) (off := k * sz) (m := sz) (cs := cur.toList) E hB ho (by rw [hp, Gj, Nat.zero_add]) hx hz hvl (by rw [Nat.ble_eq, hlen]; omega) h1
  have hlen2 : (FP cur.toList (k * sz) v.cells.toList).length = c * sz := by rw [J0, hlen]
  have hset : (l.set k y).length = l.length := List.length_set
  have hcur : cur.toList = l.flatMap cells ++ cur.toList.drop (l.length * sz) := by
   have := List.take_append_drop (l.length * sz) cur.toList
   rw [hc4] at this
   exact this.symm
  have hput : FP cur.toList (k * sz) v.cells.toList = (l.set k y).flatMap cells ++ cur.toList.drop (l.length * sz) := by
   rw [NZ l k y hk, hm]
   conv => lhs; rw [hcur]
   obtain ⟨z, hz⟩ : ∃ z, l[k]? = some z := ⟨_, List.getElem?_eq_getElem hk⟩
   have hl : l = l.take k ++ (z :: l.drop (k + 1)) := by
    rw [← NZ l k z hk]
    refine List.ext_getElem? fun i => ?_
    by_cases hi : k = i
    ·subst hi; rw [List.getElem?_set_self hk, hz]
    ·rw [List.getElem?_set_ne hi]
   have h5 := LK (cells y) ((l.take k).flatMap cells) (cells z) ((l.drop (k + 1)).flatMap cells ++ cur.toList.drop (l.length * sz)) (by rw [hcl, hcl])
   rw [flat_len hcl, List.length_take, Nat.min_eq_left (Nat.le_of_lt hk)] at h5
   have e1 : l.flatMap cells = (l.take k).flatMap cells ++ (cells z ++ (l.drop (k + 1)).flatMap cells) := by
    conv => lhs; rw [hl]
    rw [List.flatMap_append, List.flatMap_cons]
   rw [List.flatMap_append, List.flatMap_cons]
   simp only [List.append_assoc]
   rw [← h5]
   congr 1
   rw [e1]
   simp only [List.append_assoc]
  have hfl : ((l.set k y).flatMap cells).length = l.length * sz := by rw [flat_len hcl, hset]
  refine ⟨w', hr, ⟨by rw [hfl], .inr ⟨g, c, (FP cur.toList (k * sz) v.cells.toList).toArray, rfl, hb, hb', hc1, hc2, by simpa using hlen2, ?_⟩⟩, hg⟩
  show (FP cur.toList (k * sz) v.cells.toList).take _ = _
  rw [hput, List.take_left' (by rw [hfl])]
theorem Hp.storeEl {α : Type} {cells : α → List Value} {l : List α} {y : α} {w : World} {ρ : Operand → Value} {i base e sz m c k g : Nat} {u : TypeId} {p x : Operand} {v : Value} {ex : List Nat} (hcl : ∀ x, (cells x).length = sz) (E : Env vs ρ) (H : Hp w0 L w) (ho : o.op = .store u p x) (hp : opv vs p = some (.pointer (some ((⟨g, 0, none⟩ : Addr).add (k * sz))))) (hx : opv vs x = some v)
  (hL : nth L i = some (BU ex base e sz (.slice (some ⟨g, 0, none⟩) m c) l.length (l.flatMap cells))) (hk : k < l.length) (hz : (P.info? u).map (·.size) = some sz) (hm : v.cells.toList = cells y) (h1 : v.cells.toList.all (·.oneCell') = true) :
  ∃ w', (execOp ρ o).run P w = .ok .skip w' ∧ Hp w0 (putF L i (BU ex base e sz (.slice (some ⟨g, 0, none⟩) m c) (l.set k y).length ((l.set k y).flatMap cells))) w' := by
 obtain ⟨w', hr, hown', hg⟩ := Vh (P := P) (y := y) hcl E (H.get hL) ho hp hx hk hz hm h1
 have hin : g ∈ (BU ex base e sz (.slice (some ⟨g, 0, none⟩) m c) l.length (l.flatMap cells)).fp := by simp [BU, Value.ownBlock]
 refine ⟨w', hr, H.chg hL _ (Outs.of_grown hg hin) (BF _ _ _ _ _ _ _) (fun b hb => ⟨Nat.lt_of_lt_of_le ((H.ok _ (EU hL)).2.1 b hb) hg.size, .inl hb⟩) (fun b hb => .inl hb) ?_⟩
 rw [List.length_set]
 exact hown'
theorem Sj {α0 α1 α2 α3 α4 α5 α6 α7 α8 α9 α10 : Type} {c : Code} (vF : α0 → α1 → α2 → α3 → α4 → α5 → α6 → α7 → α8 → α9 → α10 → Vs) (LF : α0 → α1 → α2 → α3 → α4 → α5 → α6 → α7 → α8 → α9 → α10 → List Ft) (F : Nat → α0 → α1 → α2 → α3 → α4 → α5 → α6 → α7 → α8 → α9 → α10 → Prop) (k0 : Nat) (a0 : α0) (a1 : α1) (a2 : α2) (a3 : α3) (a4 : α4) (a5 : α5) (a6 : α6) (a7 : α7) (a8 : α8) (a9 : α9) (a10 : α10) (h0 : F k0 a0 a1 a2 a3 a4 a5 a6 a7 a8 a9 a10) (hs : Sub (vF a0 a1 a2 a3 a4 a5 a6 a7 a8 a9 a10) vs) (is : List Nat) (hp : F9 L is = some (LF a0 a1 a2 a3 a4 a5 a6 a7 a8 a9 a10)) (hn : is.Nodup) (hf : Frs w0 is 0 L)
  (round : ∀ k x0 x1 x2 x3 x4 x5 x6 x7 x8 x9 x10, F k x0 x1 x2 x3 x4 x5 x6 x7 x8 x9 x10 → SxC P c (Exit.then (Sr (σ := α0 × α1 × α2 × α3 × α4 × α5 × α6 × α7 × α8 × α9 × α10) n w0 (fun s => vF s.1 s.2.1 s.2.2.1 s.2.2.2.1 s.2.2.2.2.1 s.2.2.2.2.2.1 s.2.2.2.2.2.2.1 s.2.2.2.2.2.2.2.1 s.2.2.2.2.2.2.2.2.1 s.2.2.2.2.2.2.2.2.2.1 s.2.2.2.2.2.2.2.2.2.2) (fun s => LF s.1 s.2.1 s.2.2.1 s.2.2.2.1 s.2.2.2.2.1 s.2.2.2.2.2.1 s.2.2.2.2.2.2.1 s.2.2.2.2.2.2.2.1 s.2.2.2.2.2.2.2.2.1 s.2.2.2.2.2.2.2.2.2.1 s.2.2.2.2.2.2.2.2.2.2) (fun k s => F k s.1 s.2.1 s.2.2.1 s.2.2.2.1 s.2.2.2.2.1 s.2.2.2.2.2.1 s.2.2.2.2.2.2.1 s.2.2.2.2.2.2.2.1 s.2.2.2.2.2.2.2.2.1 s.2.2.2.2.2.2.2.2.2.1 s.2.2.2.2.2.2.2.2.2.2) k) Q) n (vF x0 x1 x2 x3 x4 x5 x6 x7 x8 x9 x10) w0 (LF x0 x1 x2 x3 x4 x5 x6 x7 x8 x9 x10)) : SxC P (.loop c) Q n vs w0 L := JH (fun s : α0 × α1 × α2 × α3 × α4 × α5 × α6 × α7 × α8 × α9 × α10 => vF s.1 s.2.1 s.2.2.1 s.2.2.2.1 s.2.2.2.2.1 s.2.2.2.2.2.1 s.2.2.2.2.2.2.1 s.2.2.2.2.2.2.2.1 s.2.2.2.2.2.2.2.2.1 s.2.2.2.2.2.2.2.2.2.1 s.2.2.2.2.2.2.2.2.2.2) (fun s => LF s.1 s.2.1 s.2.2.1 s.2.2.2.1 s.2.2.2.2.1 s.2.2.2.2.2.1 s.2.2.2.2.2.2.1 s.2.2.2.2.2.2.2.1 s.2.2.2.2.2.2.2.2.1 s.2.2.2.2.2.2.2.2.2.1 s.2.2.2.2.2.2.2.2.2.2) (fun k s => F k s.1 s.2.1 s.2.2.1 s.2.2.2.1 s.2.2.2.2.1 s.2.2.2.2.2.1 s.2.2.2.2.2.2.1 s.2.2.2.2.2.2.2.1 s.2.2.2.2.2.2.2.2.1 s.2.2.2.2.2.2.2.2.2.1 s.2.2.2.2.2.2.2.2.2.2) k0 (a0, a1, a2, a3, a4, a5, a6, a7, a8, a9, a10) h0 hs is hp hn hf fun k s h => round k s.1 s.2.1 s.2.2.1 s.2.2.2.1 s.2.2.2.2.1 s.2.2.2.2.2.1 s.2.2.2.2.2.2.1 s.2.2.2.2.2.2.2.1 s.2.2.2.2.2.2.2.2.1 s.2.2.2.2.2.2.2.2.2.1 s.2.2.2.2.2.2.2.2.2.2 h
theorem UX {α0 α1 α2 α3 α4 α5 α6 α7 α8 α9 α10 : Type} {c : Code} (V : α0 → α1 → α2 → α3 → α4 → α5 → α6 → α7 → α8 → α9 → α10 → Vs) (LF : α0 → α1 → α2 → α3 → α4 → α5 → α6 → α7 → α8 → α9 → α10 → List Ft) (F : α0 → α1 → α2 → α3 → α4 → α5 → α6 → α7 → α8 → α9 → α10 → Prop) (first : SxC P c (XI Q (At0 (σ := α0 × α1 × α2 × α3 × α4 × α5 × α6 × α7 × α8 × α9 × α10) n w0 (fun s => V s.1 s.2.1 s.2.2.1 s.2.2.2.1 s.2.2.2.2.1 s.2.2.2.2.2.1 s.2.2.2.2.2.2.1 s.2.2.2.2.2.2.2.1 s.2.2.2.2.2.2.2.2.1 s.2.2.2.2.2.2.2.2.2.1 s.2.2.2.2.2.2.2.2.2.2) (fun s => LF s.1 s.2.1 s.2.2.1 s.2.2.2.1 s.2.2.2.2.1 s.2.2.2.2.2.1 s.2.2.2.2.2.2.1 s.2.2.2.2.2.2.2.1 s.2.2.2.2.2.2.2.2.1 s.2.2.2.2.2.2.2.2.2.1 s.2.2.2.2.2.2.2.2.2.2) (fun s => F s.1 s.2.1 s.2.2.1 s.2.2.2.1 s.2.2.2.2.1 s.2.2.2.2.2.1 s.2.2.2.2.2.2.1 s.2.2.2.2.2.2.2.1 s.2.2.2.2.2.2.2.2.1 s.2.2.2.2.2.2.2.2.2.1 s.2.2.2.2.2.2.2.2.2.2))) n vs w0 L) (rest : ∀ x0 x1 x2 x3 x4 x5 x6 x7 x8 x9 x10, F x0 x1 x2 x3 x4 x5 x6 x7 x8 x9 x10 → SxN Q n (V x0 x1 x2 x3 x4 x5 x6 x7 x8 x9 x10) w0 (LF x0 x1 x2 x3 x4 x5 x6 x7 x8 x9 x10)) : SxC P c Q n vs w0 L := QC _ _ _ first fun s h => rest s.1 s.2.1 s.2.2.1 s.2.2.2.1 s.2.2.2.2.1 s.2.2.2.2.2.1 s.2.2.2.2.2.2.1 s.2.2.2.2.2.2.2.1 s.2.2.2.2.2.2.2.2.1 s.2.2.2.2.2.2.2.2.2.1 s.2.2.2.2.2.2.2.2.2.2 h
end
end Go.Proofs.YteiaiilfekojfaaGreat.Sx
end
section
namespace Go.Proofs.YteiaiilfekojfaaGreat.Bal
open Go.RowKit Wire

set_option maxRecDepth 100000 in
set_option maxHeartbeats 4000000 in
theorem refBytes_any (b : B) (hn : b.n < 18446744073709551616) (hb : b.r < 256) (w : World) : Calls Tryz.prog 55 #[bV b] w fun e w' => Mc w (balB b) e w' := by
 have k := (Kg.refl w).new 24 (bC b)
 have ad := I0 (BI b.n) [UInt8.ofNat b.r]
 have ln1 := (B0 b.n hn).1
 have lt1 : ¬ (9223372036854775807 < (BI b.n).length + 1) := by omega
 have ra := Rm w (.cells (bC b) 24) hb
 clear ln1
 have hw2 := fun o => (L0 w (.cells (bC b) 24) o).drew
 unfold bV
 unfold balB
 unfold bC at *
 go_enter Tryz.func55, Tryz.ntmps55
 go_wp2_with fail
 go_region_held_law (fun W : World => W.cell? ⟨w.heap.size, 0, none⟩ = some (.int .u64 (b.n : Int)) ∧ W.cell? ⟨w.heap.size, 1, none⟩ = some (.int .u8 (b.r : Int))) (first | exact ⟨k.drew.i1.cell 0, k.drew.i1.cell 1⟩ | exact ⟨k.i1.cell 0, k.i1.cell 1⟩ | exact ⟨(k.alloc _).i1.cell 0, (k.alloc _).i1.cell 1⟩ | exact ⟨(k.alloc _).drew.i1.cell 0, (k.alloc _).drew.i1.cell 1⟩)
  (first
   | (go_simp; go_at_call 52; refine (DD b.n hn _).mono ?_; rintro e w2 ⟨rfl, B2⟩; have k2 := k.drew.below B2; have k := k2)
   | (go_simp; go_at_call 52; refine (DD b.n hn _).mono ?_; rintro e w2 ⟨rfl, B2⟩; have k2 := (k.alloc _).drew.below B2; have k := k2)
   | (refine LD (l := [UInt8.ofNat b.r]) Tryz.underlying103 Tryz.underlying5 Tryz.underlying9 (IG _ hb) ?_)
   | (refine LD (l := [UInt8.ofNat b.r]) Tryz.underlying103 Tryz.underlying5 Tryz.underlying9 ra.drew ?_)
   | (refine LD (l := [UInt8.ofNat b.r]) Tryz.underlying103 Tryz.underlying5 Tryz.underlying9 (ra.drew.below B2) ?_))
 all_goals
  go_wp2
  go_ret
  first | exact ⟨rfl, k.bw⟩ | exact ⟨rfl, (k.alloc _).bw⟩ | exact ⟨rfl, (k.alloc _).drew.bw⟩

end Go.Proofs.YteiaiilfekojfaaGreat.Bal
end
