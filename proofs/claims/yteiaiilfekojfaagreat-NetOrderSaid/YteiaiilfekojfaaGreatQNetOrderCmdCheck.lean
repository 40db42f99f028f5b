/- Whether a command may be: the program's Check and the document's May, walked. Conditions: the command is of its type. -/
import Derived.Deep.RegionHeld3
import Derived.Deep.RegionHeldLaw
import Derived.Deep.DeepCutAuto
import Derived.Test.YteiaiilfekojfaaGreatQNetOrderKeepN
import Derived.Test.YteiaiilfekojfaaGreatQNetOrderWire
import Derived.Test.YteiaiilfekojfaaGreatQNetOrderMapInt
namespace Go.Proofs.YteiaiilfekojfaaGreat.Cmd
open Go.RowKit Wire

structure Cm where
  client : Nat
  seq : Nat
  kind : Nat
  key : List UInt8
  old : List UInt8
  new : List UInt8
  set : Nat
  deriving DecidableEq
def cmC (c : Cm) : Array Value := #[.int .u8 (c.client : Int), .int .u32 (c.seq : Int), .int .u8 (c.kind : Int), .string ⟨c.key.toArray⟩, .string ⟨c.old.toArray⟩, .string ⟨c.new.toArray⟩, .int .u8 (c.set : Int)]
def cmV (c : Cm) : Value := .agg (cmC c)
structure Cm.Fits (c : Cm) : Prop where
  h1 : c.client < 256
  h2 : c.seq < 4294967296
  h3 : c.kind < 256
  h4 : c.key.length ≤ 9223372036854775807
  h5 : c.old.length ≤ 9223372036854775807
  h6 : c.new.length ≤ 9223372036854775807
  h7 : c.set < 256
/-- What the map of kinds holds. -/
def kindsEs : Array MapEntry := #[{ key := .int .u8 1, val := .int .u8 1, born := 0 }, { key := .int .u8 2, val := .int .u8 5, born := 1 }, { key := .int .u8 3, val := .int .u8 1, born := 2 }, { key := .int .u8 4, val := .int .u8 7, born := 3 }, { key := .int .u8 5, val := .int .u8 8, born := 4 }]
def hasOf (k : Nat) : Nat := if k = 1 then 1 else if k = 2 then 5 else if k = 3 then 1 else if k = 4 then 7 else if k = 5 then 8 else 0
theorem kinds_look (k : Nat) (hk : k < 256) : ∃ r, Instr.findNow (.int .u8) (.int .u8 (k : Int)) kindsEs.toList 0 = some r ∧ (r.map (·.2)).getD (.int .u8 0) = .int .u8 (hasOf k : Int) ∧ r.isSome = decide (1 ≤ k ∧ k ≤ 5) := by
  rcases (show k = 1 ∨ k = 2 ∨ k = 3 ∨ k = 4 ∨ k = 5 ∨ k = 0 ∨ 5 < k by omega) with rfl | rfl | rfl | rfl | rfl | rfl | h
  · exact ⟨_, rfl, rfl, rfl⟩
  · exact ⟨_, rfl, rfl, rfl⟩
  · exact ⟨_, rfl, rfl, rfl⟩
  · exact ⟨_, rfl, rfl, rfl⟩
  · exact ⟨_, rfl, rfl, rfl⟩
  · exact ⟨_, rfl, rfl, rfl⟩
  · have e : ∀ j : Int, j < 6 → ((k : Int) == j) = false := fun j hj => beq_eq_false_iff_ne.2 (by omega)
    refine ⟨none, ?_, ?_, ?_⟩
    · simp [kindsEs, Instr.findNow, Instr.sameNow, e]
    · unfold hasOf
      rw [if_neg (by omega), if_neg (by omega), if_neg (by omega), if_neg (by omega), if_neg (by omega)]
      rfl
    · simp; omega
theorem below_put {B g : Nat} {a w : World} (h : Below B a w) (hg : B ≤ g) (o : Obj) : Below B a (w.putObj g o) :=
  ⟨h.os, h.tape, h.output, by rw [World.putObj_size]; exact h.size, fun k hk => (World.putObj_heap_other (by omega)).trans (h.block k hk)⟩
set_option maxRecDepth 100000 in
theorem kinds_any (w : World) : Calls Tryz.prog 178 #[] w fun e w' => e = .returned (.map (some w.heap.size)) ∧ Below w.heap.size w w' ∧ w'.heap[w.heap.size]? = some (.map kindsEs 5) := by
  have hmk : (Instr.makeMap 201 none).run Tryz.prog w = .ok (.map (some w.heap.size)) (w.alloc (.map #[] 0)) := by
    simp [Instr.makeMap]
  have h0 : (w.alloc (.map #[] 0)).heap[w.heap.size]? = some (.map #[] 0) := heap_alloc_new w _
  have hput : ∀ (W : World) (es es' : Array MapEntry) (c : Nat) (n v : Int), W.heap[w.heap.size]? = some (.map es c) → Instr.findNow (.int .u8) (.int .u8 n) es.toList 0 = some none → es.push { key := .int .u8 n, val := .int .u8 v, born := c } = es' → (Instr.mapUpdate 201 (.map (some w.heap.size)) (.int .u8 n) (.int .u8 v)).run Tryz.prog W = .ok () (W.putObj w.heap.size (.map es' (c + 1))) :=
    fun W es es' c n v hg hf e => e ▸ map_put_new Tryz.underlying201 Tryz.underlying5 hg n _ hf
  have p1 := hput _ _ (#[{ key := .int .u8 1, val := .int .u8 1, born := 0 }]) 0 1 1 h0 rfl rfl
  have h1 := World.putObj_heap_same (o := .map #[{ key := .int .u8 1, val := .int .u8 1, born := 0 }] 1) (Array.getElem?_eq_some_iff.1 h0).1
  have p2 := hput _ _ (#[{ key := .int .u8 1, val := .int .u8 1, born := 0 }, { key := .int .u8 2, val := .int .u8 5, born := 1 }]) 1 2 5 h1 rfl rfl
  have h2 := World.putObj_heap_same (o := .map #[{ key := .int .u8 1, val := .int .u8 1, born := 0 }, { key := .int .u8 2, val := .int .u8 5, born := 1 }] 2) (Array.getElem?_eq_some_iff.1 h1).1
  have p3 := hput _ _ (#[{ key := .int .u8 1, val := .int .u8 1, born := 0 }, { key := .int .u8 2, val := .int .u8 5, born := 1 }, { key := .int .u8 3, val := .int .u8 1, born := 2 }]) 2 3 1 h2 rfl rfl
  have h3 := World.putObj_heap_same (o := .map #[{ key := .int .u8 1, val := .int .u8 1, born := 0 }, { key := .int .u8 2, val := .int .u8 5, born := 1 }, { key := .int .u8 3, val := .int .u8 1, born := 2 }] 3) (Array.getElem?_eq_some_iff.1 h2).1
  have p4 := hput _ _ (#[{ key := .int .u8 1, val := .int .u8 1, born := 0 }, { key := .int .u8 2, val := .int .u8 5, born := 1 }, { key := .int .u8 3, val := .int .u8 1, born := 2 }, { key := .int .u8 4, val := .int .u8 7, born := 3 }]) 3 4 7 h3 rfl rfl
  have h4 := World.putObj_heap_same (o := .map #[{ key := .int .u8 1, val := .int .u8 1, born := 0 }, { key := .int .u8 2, val := .int .u8 5, born := 1 }, { key := .int .u8 3, val := .int .u8 1, born := 2 }, { key := .int .u8 4, val := .int .u8 7, born := 3 }] 4) (Array.getElem?_eq_some_iff.1 h3).1
  have p5 := hput _ _ (#[{ key := .int .u8 1, val := .int .u8 1, born := 0 }, { key := .int .u8 2, val := .int .u8 5, born := 1 }, { key := .int .u8 3, val := .int .u8 1, born := 2 }, { key := .int .u8 4, val := .int .u8 7, born := 3 }, { key := .int .u8 5, val := .int .u8 8, born := 4 }]) 4 5 8 h4 rfl rfl
  have h5 := World.putObj_heap_same (o := .map #[{ key := .int .u8 1, val := .int .u8 1, born := 0 }, { key := .int .u8 2, val := .int .u8 5, born := 1 }, { key := .int .u8 3, val := .int .u8 1, born := 2 }, { key := .int .u8 4, val := .int .u8 7, born := 3 }, { key := .int .u8 5, val := .int .u8 8, born := 4 }] 5) (Array.getElem?_eq_some_iff.1 h4).1
  have hb : Below w.heap.size w (((((( w.alloc (.map #[] 0)).putObj w.heap.size (.map #[{ key := .int .u8 1, val := .int .u8 1, born := 0 }] 1)).putObj w.heap.size (.map #[{ key := .int .u8 1, val := .int .u8 1, born := 0 }, { key := .int .u8 2, val := .int .u8 5, born := 1 }] 2)).putObj w.heap.size (.map #[{ key := .int .u8 1, val := .int .u8 1, born := 0 }, { key := .int .u8 2, val := .int .u8 5, born := 1 }, { key := .int .u8 3, val := .int .u8 1, born := 2 }] 3)).putObj w.heap.size (.map #[{ key := .int .u8 1, val := .int .u8 1, born := 0 }, { key := .int .u8 2, val := .int .u8 5, born := 1 }, { key := .int .u8 3, val := .int .u8 1, born := 2 }, { key := .int .u8 4, val := .int .u8 7, born := 3 }] 4)).putObj w.heap.size (.map #[{ key := .int .u8 1, val := .int .u8 1, born := 0 }, { key := .int .u8 2, val := .int .u8 5, born := 1 }, { key := .int .u8 3, val := .int .u8 1, born := 2 }, { key := .int .u8 4, val := .int .u8 7, born := 3 }, { key := .int .u8 5, val := .int .u8 8, born := 4 }] 5)) :=
    below_put (below_put (below_put (below_put (below_put ((Below.refl _ w).alloc (Nat.le_refl _) _) (Nat.le_refl _) _) (Nat.le_refl _) _) (Nat.le_refl _) _) (Nat.le_refl _) _) (Nat.le_refl _) _
  go_enter Tryz.func178, Tryz.ntmps178
  go_wp2
  go_ret
  exact ⟨rfl, hb, h5⟩
/-- What a part may be long. -/
def mostOf (h p n : Nat) : Nat := if h &&& p = 0 then 0 else n
theorem most_any (h p n : Nat) (hh : h = 0 ∨ h = 1 ∨ h = 5 ∨ h = 7 ∨ h = 8) (hp : p = 1 ∨ p = 2 ∨ p = 4 ∨ p = 8) (r : Nat) (w : World) (hc : w.cell? ⟨r, 0, none⟩ = some (.int .u8 (h : Int))) :
    Calls Tryz.prog 179 #[.int .u8 (p : Int), .int .i64 (n : Int), .pointer (some ⟨r, 0, none⟩)] w fun e w' => e = .returned (.int .i64 (mostOf h p n : Int)) ∧ w' = w := by
  by_cases h0 : h &&& p = 0
  · have e : mostOf h p n = 0 := if_pos h0
    have hb : (bits BinOp.and IntKind.u8 (h : Int) (p : Int) == 0) = true := by
      rcases hh with rfl | rfl | rfl | rfl | rfl <;> rcases hp with rfl | rfl | rfl | rfl <;> first | (exact absurd h0 (by decide)) | kernel_rfl
    rw [e]
    clear h0 e hh hp
    go_enter Tryz.func179, Tryz.ntmps179
    go_wp2
    go_ret
    exact ⟨rfl, rfl⟩
  · have e : mostOf h p n = n := if_neg h0
    have hb : (bits BinOp.and IntKind.u8 (h : Int) (p : Int) == 0) = false := by
      rcases hh with rfl | rfl | rfl | rfl | rfl <;> rcases hp with rfl | rfl | rfl | rfl <;> first | (exact absurd rfl h0) | kernel_rfl
    rw [e]
    clear h0 e hh hp
    go_enter Tryz.func179, Tryz.ntmps179
    go_wp2
    go_ret
    exact ⟨rfl, rfl⟩
theorem hasOf_is (k : Nat) : hasOf k = 0 ∨ hasOf k = 1 ∨ hasOf k = 5 ∨ hasOf k = 7 ∨ hasOf k = 8 := by
  unfold hasOf; repeat' split
  all_goals simp
/-- A command that may be, as the document says it. -/
def mayB (c : Cm) : Bool := decide (c.client < 4 ∧ 1 ≤ c.seq ∧ c.key.length ≤ 16 ∧ c.old.length ≤ 64 ∧ c.new.length ≤ 64 ∧
  ((c.kind = 1 ∨ c.kind = 3) ∧ 1 ≤ c.key.length ∧ c.old.length = 0 ∧ c.new.length = 0 ∧ c.set = 0 ∨ c.kind = 2 ∧ 1 ≤ c.key.length ∧ c.old.length = 0 ∧ c.set = 0 ∨ c.kind = 4 ∧ 1 ≤ c.key.length ∧ c.set = 0 ∨ c.kind = 5 ∧ c.key.length = 0 ∧ c.old.length = 0 ∧ c.new.length = 0))
theorem mayB_iff (c : Cm) : mayB c = true ↔ (1 ≤ c.kind ∧ c.kind ≤ 5) ∧ c.client < 4 ∧ c.seq ≠ 0 ∧ mostOf (hasOf c.kind) 1 1 ≤ c.key.length ∧ c.key.length ≤ mostOf (hasOf c.kind) 1 16 ∧ c.old.length ≤ mostOf (hasOf c.kind) 2 64 ∧ c.new.length ≤ mostOf (hasOf c.kind) 4 64 ∧ (c.set ≠ 0 → hasOf c.kind &&& 8 ≠ 0) := by
  unfold mayB
  rw [decide_eq_true_iff]
  obtain ⟨cl, sq, k, ky, od, nw, st⟩ := c
  simp only
  generalize ky.length = a
  generalize od.length = b
  generalize nw.length = d
  rcases (show k = 1 ∨ k = 2 ∨ k = 3 ∨ k = 4 ∨ k = 5 ∨ k = 0 ∨ 5 < k by omega) with rfl | rfl | rfl | rfl | rfl | rfl | h
  · have e1 : mostOf (hasOf 1) 1 1 = 1 := rfl
    have e2 : mostOf (hasOf 1) 1 16 = 16 := rfl
    have e3 : mostOf (hasOf 1) 2 64 = 0 := rfl
    have e4 : mostOf (hasOf 1) 4 64 = 0 := rfl
    have e5 : hasOf 1 &&& 8 = 0 := rfl
    rw [e1, e2, e3, e4, e5]; omega
  · have e1 : mostOf (hasOf 2) 1 1 = 1 := rfl
    have e2 : mostOf (hasOf 2) 1 16 = 16 := rfl
    have e3 : mostOf (hasOf 2) 2 64 = 0 := rfl
    have e4 : mostOf (hasOf 2) 4 64 = 64 := rfl
    have e5 : hasOf 2 &&& 8 = 0 := rfl
    rw [e1, e2, e3, e4, e5]; omega
  · have e1 : mostOf (hasOf 3) 1 1 = 1 := rfl
    have e2 : mostOf (hasOf 3) 1 16 = 16 := rfl
    have e3 : mostOf (hasOf 3) 2 64 = 0 := rfl
    have e4 : mostOf (hasOf 3) 4 64 = 0 := rfl
    have e5 : hasOf 3 &&& 8 = 0 := rfl
    rw [e1, e2, e3, e4, e5]; omega
  · have e1 : mostOf (hasOf 4) 1 1 = 1 := rfl
    have e2 : mostOf (hasOf 4) 1 16 = 16 := rfl
    have e3 : mostOf (hasOf 4) 2 64 = 64 := rfl
    have e4 : mostOf (hasOf 4) 4 64 = 64 := rfl
    have e5 : hasOf 4 &&& 8 = 0 := rfl
    rw [e1, e2, e3, e4, e5]; omega
  · have e1 : mostOf (hasOf 5) 1 1 = 0 := rfl
    have e2 : mostOf (hasOf 5) 1 16 = 0 := rfl
    have e3 : mostOf (hasOf 5) 2 64 = 0 := rfl
    have e4 : mostOf (hasOf 5) 4 64 = 0 := rfl
    have e5 : hasOf 5 &&& 8 = 8 := rfl
    rw [e1, e2, e3, e4, e5]; omega
  · omega
  · omega

theorem cell_far {w : World} {g i : Nat} {v : Value} (h : w.cell? ⟨g, i, none⟩ = some v) {p : Addr} (hp : g ≠ p.block) (u : Value) : (w.setCell p u).cell? ⟨g, i, none⟩ = some v :=
  (World.cell?_of_block (w := w) (Below.heap_setCell w p u g hp)).trans h
set_option maxRecDepth 100000 in
set_option maxHeartbeats 4000000 in
theorem check_any (c : Cm) (hc : c.Fits) (w : World) : Calls Tryz.prog 116 #[cmV c] w fun e w' => e = .returned (.int .i64 (if mayB c then 0 else 2)) ∧ Below w.heap.size w w' := by
  obtain ⟨r0, hl1, hl2, hl3⟩ := kinds_look c.kind hc.h3
  have HK := Lib.hid (fun W => kinds_any W)
  have hlook : ∀ (W : World) (g : Nat), W.heap[g]? = some (.map kindsEs 5) → (Instr.lookup 201 (.map (some g)) (.int .u8 (c.kind : Int)) true).run Tryz.prog W = .ok (.tuple #[.int .u8 (hasOf c.kind : Int), .bool (decide (1 ≤ c.kind ∧ c.kind ≤ 5))]) W := fun W g hg => by
    rw [map_look Tryz.underlying201 Tryz.underlying5 hg _ (.int .u8 0) (by kernel_rfl) r0 hl1, hl2, hl3]
  obtain ⟨res, hres⟩ : ∃ res : Int, res = if mayB c then 0 else 2 := ⟨_, rfl⟩
  rw [← hres]
  generalize hok : decide (1 ≤ c.kind ∧ c.kind ≤ 5) = ok at *
  have hb := Blk.new w 29 (cmC c)
  unfold cmV
  unfold cmC at *
  have hB1 : Below w.heap.size w (w.alloc (.cells #[.int .u8 (c.client : Int), .int .u32 (c.seq : Int), .int .u8 (c.kind : Int), .string ⟨c.key.toArray⟩, .string ⟨c.old.toArray⟩, .string ⟨c.new.toArray⟩, .int .u8 (c.set : Int)] 29)) := (Below.refl _ w).alloc (Nat.le_refl _) _
  have hz0 : (w.alloc (.cells #[.int .u8 (c.client : Int), .int .u32 (c.seq : Int), .int .u8 (c.kind : Int), .string ⟨c.key.toArray⟩, .string ⟨c.old.toArray⟩, .string ⟨c.new.toArray⟩, .int .u8 (c.set : Int)] 29)).heap.size = w.heap.size + 1 := by simp
  go_enter Tryz.func116, Tryz.ntmps116
  go_upto_region 1 with fail
  generalize (w.alloc (.cells #[.int .u8 (c.client : Int), .int .u32 (c.seq : Int), .int .u8 (c.kind : Int), .string ⟨c.key.toArray⟩, .string ⟨c.old.toArray⟩, .string ⟨c.new.toArray⟩, .int .u8 (c.set : Int)] 29)) = w1 at *
  have hb2 : w1.cell? ⟨w.heap.size, 2, none⟩ = some (.int .u8 (c.kind : Int)) := hb.cell 2
  have hb2' : ∀ o, (w1.alloc o).cell? ⟨w.heap.size, 2, none⟩ = some (.int .u8 (c.kind : Int)) := fun o => (hb.alloc o).cell 2
  have hlt : w.heap.size < w1.heap.size := by omega
  clear hz0
  go_cut [3, 4] (fun a b wx => ∃ r, a = .pointer (some ⟨r, 0, none⟩) ∧ b = .bool ok ∧ w1.heap.size ≤ r ∧ r < wx.heap.size ∧ wx.cell? ⟨r, 0, none⟩ = some (.int .u8 (hasOf c.kind : Int)) ∧ Below w1.heap.size w1 wx)
  case first =>
    go_region_held3 (fun W : World => W.cell? ⟨w.heap.size, 2, none⟩ = some (.int .u8 (c.kind : Int))) (first | go_keep | exact k0 | exact cell_far k0 (Nat.ne_of_lt hlt) _ | exact cell_far ((Below.cell (Below.alloc (Below.refl _ w2) (Nat.le_refl _) _) hlt2).trans k0) (Nat.ne_of_lt hlt2) _) (first
      | (go_at_call 178; refine (HK.out _).mono ?_; rintro e w2 ⟨rfl, B2, hm2⟩; have hl := hlook w2 w1.heap.size hm2; have hlt2 := Nat.lt_of_lt_of_le hlt B2.size; have hl' := hlook (w2.alloc (.cells #[.int .u8 0] 5)) w1.heap.size ((Below.heap_alloc w2 _ _ (Array.getElem?_eq_some_iff.1 hm2).1).trans hm2); have k0 := (B2.cell (by simp <;> omega)).trans hb2)
      | (go_at_call 178; refine (HK.out _).mono ?_; rintro e w2 ⟨rfl, B2, hm2⟩; have hl := hlook w2 (w1.heap.size + 1) (by simpa using hm2); have k0 := (B2.cell (by simp <;> omega)).trans (hb2' (.cells #[.int .u8 0] 5)); have kb := (Blk.new w1 5 #[.int .u8 0]).drew.below B2 (by simp); have k1 := kb.c1; have k2 := kb.f1))
    all_goals go_wp2_with fail
    all_goals go_meet
    · exact ⟨w2.heap.size, rfl, rfl, B2.size, (by simp), (Blk.new w2 5 #[.int .u8 (hasOf c.kind : Int)]).c1, ((Below.refl _ w1).drew.trans B2).alloc B2.size _⟩
    · exact ⟨w2.heap.size, rfl, rfl, B2.size, (by simp), (Blk.new w2 5 #[.int .u8 (hasOf c.kind : Int)]).c1, ((Below.refl _ w1).drew.trans B2).alloc B2.size _⟩
    · exact ⟨w1.heap.size, rfl, rfl, Nat.le_refl _, (by have := kb.lt; simpa using this), (kb.set_ 0 (.int .u8 (hasOf c.kind : Int))).cell 0, (((Below.refl _ w1).alloc (Nat.le_refl _) _).drew.trans (B2.mono (by simp))).setCell (Nat.le_refl _) _⟩
  case rest =>
    obtain ⟨r, rfl, rfl, hr1, hr2, hrc, hBc⟩ := hcut
    have hbc := hb.below hBc hlt
    have hm := hasOf_is c.kind
    have hMa := Lib.hid (show ∀ W : World, W.cell? ⟨r, 0, none⟩ = some (.int .u8 (hasOf c.kind : Int)) → Calls Tryz.prog 179 #[.int .u8 1, .int .i64 1, .pointer (some ⟨r, 0, none⟩)] W fun e w' => e = .returned (.int .i64 (mostOf (hasOf c.kind) 1 1 : Int)) ∧ w' = W from fun W h => most_any (hasOf c.kind) 1 1 hm (by decide) r W h)
    have hMb := Lib.hid (show ∀ W : World, W.cell? ⟨r, 0, none⟩ = some (.int .u8 (hasOf c.kind : Int)) → Calls Tryz.prog 179 #[.int .u8 1, .int .i64 16, .pointer (some ⟨r, 0, none⟩)] W fun e w' => e = .returned (.int .i64 (mostOf (hasOf c.kind) 1 16 : Int)) ∧ w' = W from fun W h => most_any (hasOf c.kind) 1 16 hm (by decide) r W h)
    have hMc := Lib.hid (show ∀ W : World, W.cell? ⟨r, 0, none⟩ = some (.int .u8 (hasOf c.kind : Int)) → Calls Tryz.prog 179 #[.int .u8 2, .int .i64 64, .pointer (some ⟨r, 0, none⟩)] W fun e w' => e = .returned (.int .i64 (mostOf (hasOf c.kind) 2 64 : Int)) ∧ w' = W from fun W h => most_any (hasOf c.kind) 2 64 hm (by decide) r W h)
    have hMd := Lib.hid (show ∀ W : World, W.cell? ⟨r, 0, none⟩ = some (.int .u8 (hasOf c.kind : Int)) → Calls Tryz.prog 179 #[.int .u8 4, .int .i64 64, .pointer (some ⟨r, 0, none⟩)] W fun e w' => e = .returned (.int .i64 (mostOf (hasOf c.kind) 4 64 : Int)) ∧ w' = W from fun W h => most_any (hasOf c.kind) 4 64 hm (by decide) r W h)
    have hbits : (bits BinOp.and IntKind.u8 (hasOf c.kind : Int) 8 == 0) = decide (hasOf c.kind &&& 8 = 0) := by
      rcases hm with e | e | e | e | e <;> rw [e] <;> decide
    have hBw := hB1.trans (hBc.mono hB1.size)
    have k0 : wc.cell? ⟨w.heap.size, 0, none⟩ = some (.int .u8 (c.client : Int)) := hbc.cell 0
    have k1 : wc.cell? ⟨w.heap.size, 1, none⟩ = some (.int .u32 (c.seq : Int)) := hbc.cell 1
    have k3 : wc.cell? ⟨w.heap.size, 3, none⟩ = some (.string ⟨c.key.toArray⟩) := hbc.cell 3
    have k4 : wc.cell? ⟨w.heap.size, 4, none⟩ = some (.string ⟨c.old.toArray⟩) := hbc.cell 4
    have k5 : wc.cell? ⟨w.heap.size, 5, none⟩ = some (.string ⟨c.new.toArray⟩) := hbc.cell 5
    have k6 : wc.cell? ⟨w.heap.size, 6, none⟩ = some (.int .u8 (c.set : Int)) := hbc.cell 6
    have hmay := mayB_iff c
    have hsk := size_str c.key
    have hso := size_str c.old
    have hsn := size_str c.new
    clear hb hbc hb2 hb2' hlook HK hl1 hl2 hm
    have hokk : mayB c = true → (!ok) = true → False := fun h h' => by
      rw [show ok = true from by rw [← hok]; exact decide_eq_true (hmay.1 h).1] at h'
      cases h'
    go_wp2_with fail
    · rename_i _ h1 h2
      go_ret
      have hk : ¬ mayB c = true := fun h => hokk h h1
      exact ⟨by rw [hres, if_neg hk]; rfl, hBw⟩
    · rename_i h1 h2 _ _ _ _
      rw [h1] at h2
      cases h2
    · rename_i _ h1 h2
      go_ret
      have hk : ¬ mayB c = true := fun h => by have := (hmay.1 h).2.1; omega
      exact ⟨by rw [hres, if_neg hk]; rfl, hBw⟩
    · rename_i _ h1 h2
      go_ret
      have hk : ¬ mayB c = true := fun h => by have := (hmay.1 h).2.2.1; have := eq_of_beq h2; omega
      exact ⟨by rw [hres, if_neg hk]; rfl, hBw⟩
    rename_i h0 h1 h2 _ _ _ _
    have hok1 : ok = true := by cases ok <;> simp_all
    have hrange : 1 ≤ c.kind ∧ c.kind ≤ 5 := of_decide_eq_true (hok.trans hok1)
    have hcl : c.client < 4 := by omega
    have hsq : c.seq ≠ 0 := fun e => by rw [e] at h2; cases h2
    clear h0 h1 h2 hokk hok hok1 hl3
    go_region_held3 (fun W : World => W.cell? ⟨w.heap.size, 3, none⟩ = some (.string ⟨c.key.toArray⟩)) (first | go_keep | exact k3) (first
      | (go_at_call 179; refine (hMa.out wc.drew hrc).mono ?_; rintro e w2 ⟨rfl, rfl⟩))
    have hrchMa : wc.drew.cell? ⟨r, 0, none⟩ = some (.int .u8 (hasOf c.kind : Int)) := hrc
    have k3hMa : wc.drew.cell? ⟨w.heap.size, 3, none⟩ = some (.string ⟨c.key.toArray⟩) := k3
    have k4hMa : wc.drew.cell? ⟨w.heap.size, 4, none⟩ = some (.string ⟨c.old.toArray⟩) := k4
    have k5hMa : wc.drew.cell? ⟨w.heap.size, 5, none⟩ = some (.string ⟨c.new.toArray⟩) := k5
    have k6hMa : wc.drew.cell? ⟨w.heap.size, 6, none⟩ = some (.int .u8 (c.set : Int)) := k6
    have hBhMa := hBw.drew
    clear hrc k3 k4 k5 k6 hBw
    have hrc := hrchMa
    have k3 := k3hMa
    have k4 := k4hMa
    have k5 := k5hMa
    have k6 := k6hMa
    have hBw := hBhMa
    clear hrchMa k3hMa k4hMa k5hMa k6hMa hBhMa
    generalize wc.drew = whMa at *
    by_cases hA : c.key.length < mostOf (hasOf c.kind) 1 1
    · go_wp2_with fail
      go_ret
      have hk : ¬ mayB c = true := fun h => by have := (hmay.1 h).2.2.2; omega
      exact ⟨by rw [hres, if_neg hk]; rfl, hBw⟩
    go_wp2_with fail
    go_region_held3 (fun W : World => W.cell? ⟨w.heap.size, 3, none⟩ = some (.string ⟨c.key.toArray⟩)) (first | go_keep | exact k3) (first
      | (go_at_call 179; refine (hMb.out whMa.drew hrc).mono ?_; rintro e w2 ⟨rfl, rfl⟩))
    have hrchMb : whMa.drew.cell? ⟨r, 0, none⟩ = some (.int .u8 (hasOf c.kind : Int)) := hrc
    have k3hMb : whMa.drew.cell? ⟨w.heap.size, 3, none⟩ = some (.string ⟨c.key.toArray⟩) := k3
    have k4hMb : whMa.drew.cell? ⟨w.heap.size, 4, none⟩ = some (.string ⟨c.old.toArray⟩) := k4
    have k5hMb : whMa.drew.cell? ⟨w.heap.size, 5, none⟩ = some (.string ⟨c.new.toArray⟩) := k5
    have k6hMb : whMa.drew.cell? ⟨w.heap.size, 6, none⟩ = some (.int .u8 (c.set : Int)) := k6
    have hBhMb := hBw.drew
    clear hrc k3 k4 k5 k6 hBw
    have hrc := hrchMb
    have k3 := k3hMb
    have k4 := k4hMb
    have k5 := k5hMb
    have k6 := k6hMb
    have hBw := hBhMb
    clear hrchMb k3hMb k4hMb k5hMb k6hMb hBhMb
    generalize whMa.drew = whMb at *
    by_cases hB : mostOf (hasOf c.kind) 1 16 < c.key.length
    · go_wp2_with fail
      go_ret
      have hk : ¬ mayB c = true := fun h => by have := (hmay.1 h).2.2.2; omega
      exact ⟨by rw [hres, if_neg hk]; rfl, hBw⟩
    go_wp2_with fail
    go_region_held3 (fun W : World => W.cell? ⟨w.heap.size, 4, none⟩ = some (.string ⟨c.old.toArray⟩)) (first | go_keep | exact k4) (first
      | (go_at_call 179; refine (hMc.out whMb.drew hrc).mono ?_; rintro e w2 ⟨rfl, rfl⟩))
    have hrchMc : whMb.drew.cell? ⟨r, 0, none⟩ = some (.int .u8 (hasOf c.kind : Int)) := hrc
    have k3hMc : whMb.drew.cell? ⟨w.heap.size, 3, none⟩ = some (.string ⟨c.key.toArray⟩) := k3
    have k4hMc : whMb.drew.cell? ⟨w.heap.size, 4, none⟩ = some (.string ⟨c.old.toArray⟩) := k4
    have k5hMc : whMb.drew.cell? ⟨w.heap.size, 5, none⟩ = some (.string ⟨c.new.toArray⟩) := k5
    have k6hMc : whMb.drew.cell? ⟨w.heap.size, 6, none⟩ = some (.int .u8 (c.set : Int)) := k6
    have hBhMc := hBw.drew
    clear hrc k3 k4 k5 k6 hBw
    have hrc := hrchMc
    have k3 := k3hMc
    have k4 := k4hMc
    have k5 := k5hMc
    have k6 := k6hMc
    have hBw := hBhMc
    clear hrchMc k3hMc k4hMc k5hMc k6hMc hBhMc
    generalize whMb.drew = whMc at *
    by_cases hC : mostOf (hasOf c.kind) 2 64 < c.old.length
    · go_wp2_with fail
      go_ret
      have hk : ¬ mayB c = true := fun h => by have := (hmay.1 h).2.2.2; omega
      exact ⟨by rw [hres, if_neg hk]; rfl, hBw⟩
    go_wp2_with fail
    go_region_held3 (fun W : World => W.cell? ⟨w.heap.size, 5, none⟩ = some (.string ⟨c.new.toArray⟩)) (first | go_keep | exact k5) (first
      | (go_at_call 179; refine (hMd.out whMc.drew hrc).mono ?_; rintro e w2 ⟨rfl, rfl⟩))
    have hrchMd : whMc.drew.cell? ⟨r, 0, none⟩ = some (.int .u8 (hasOf c.kind : Int)) := hrc
    have k3hMd : whMc.drew.cell? ⟨w.heap.size, 3, none⟩ = some (.string ⟨c.key.toArray⟩) := k3
    have k4hMd : whMc.drew.cell? ⟨w.heap.size, 4, none⟩ = some (.string ⟨c.old.toArray⟩) := k4
    have k5hMd : whMc.drew.cell? ⟨w.heap.size, 5, none⟩ = some (.string ⟨c.new.toArray⟩) := k5
    have k6hMd : whMc.drew.cell? ⟨w.heap.size, 6, none⟩ = some (.int .u8 (c.set : Int)) := k6
    have hBhMd := hBw.drew
    clear hrc k3 k4 k5 k6 hBw
    have hrc := hrchMd
    have k3 := k3hMd
    have k4 := k4hMd
    have k5 := k5hMd
    have k6 := k6hMd
    have hBw := hBhMd
    clear hrchMd k3hMd k4hMd k5hMd k6hMd hBhMd
    generalize whMc.drew = whMd at *
    by_cases hD : mostOf (hasOf c.kind) 4 64 < c.new.length
    · go_wp2_with fail
      go_ret
      have hk : ¬ mayB c = true := fun h => by have := (hmay.1 h).2.2.2; omega
      exact ⟨by rw [hres, if_neg hk]; rfl, hBw⟩
    go_wp2_with fail
    · rename_i h1
      go_ret
      have hk : mayB c = true := hmay.2 ⟨hrange, hcl, hsq, Nat.le_of_not_lt hA, Nat.le_of_not_lt hB, Nat.le_of_not_lt hC, Nat.le_of_not_lt hD, fun h => absurd h1 h⟩
      exact ⟨by rw [hres, if_pos hk]; rfl, hBw⟩
    · rename_i h1 h2
      go_ret
      have hk : ¬ mayB c = true := fun h => (hmay.1 h).2.2.2.2.2.2.2 h1 h2.2
      exact ⟨by rw [hres, if_neg hk]; rfl, hBw⟩
    · rename_i h1 h2
      go_ret
      have hk : mayB c = true := hmay.2 ⟨hrange, hcl, hsq, Nat.le_of_not_lt hA, Nat.le_of_not_lt hB, Nat.le_of_not_lt hC, Nat.le_of_not_lt hD, fun _ => by
        rcases h2 with h2 | h2
        · exact absurd h2 (by simp [h1])
        · exact h2⟩
      exact ⟨by rw [hres, if_pos hk]; rfl, hBw⟩
end Go.Proofs.YteiaiilfekojfaaGreat.Cmd
