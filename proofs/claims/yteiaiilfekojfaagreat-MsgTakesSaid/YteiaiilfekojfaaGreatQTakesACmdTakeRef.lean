/- The document's Take, walked. Conditions: the bytes are at most 1,000,000. -/
import Derived.Test.YteiaiilfekojfaaGreatQTakesACmdTake
import Derived.Test.YteiaiilfekojfaaGreatQTakesACmdMay
import Derived.Test.YteiaiilfekojfaaGreatQTakesAWireDocStrW
namespace Go.Proofs.YteiaiilfekojfaaGreat.Cmd
open Go.RowKit Wire

/-- Where a walk of the document's Take stands: the reader's box, the two results, the command's cells. -/
structure Tq (w : World) (q : Dr) (w1 : World) (cs zs ys : Array Value) : Prop where
  bw : Below w.heap.size w w1
  r : Blk w1 w.heap.size 121 (drC q)
  z : Blk w1 (w.heap.size + 1) 29 zs
  y : Blk w1 (w.heap.size + 2) 121 ys
  x : Blk w1 (w.heap.size + 3) 29 cs
theorem Tq.below {w w1 w2 : World} {q : Dr} {cs zs ys : Array Value} (h : Tq w q w1 cs zs ys) (hb : Below w1.heap.size w1 w2) : Tq w q w2 cs zs ys :=
  ⟨h.bw.trans (hb.mono h.bw.size), h.r.below hb h.r.lt, h.z.below hb h.z.lt, h.y.below hb h.y.lt, h.x.below hb h.x.lt⟩
theorem Tq.put {w w1 : World} {q : Dr} {cs zs ys : Array Value} (h : Tq w q w1 cs zs ys) (j : Nat) (v : Value) {cs' : Array Value} (e : cs.setIfInBounds j v = cs') : Tq w q (w1.setCell ⟨w.heap.size + 3, j, none⟩ v) cs' zs ys :=
  ⟨h.bw.setCell (by simp) v, h.r.far (by simp) v, h.z.far (by simp) v, h.y.far (by simp) v, e ▸ h.x.set_ j v⟩
theorem Tq.box {w w1 : World} {q : Dr} {cs zs ys : Array Value} (h : Tq w q w1 cs zs ys) (q' : Dr) : Tq w q' ((w1.setCell ⟨w.heap.size, 0, none⟩ (.string ⟨q'.s.toArray⟩)).setCell ⟨w.heap.size, 1, none⟩ (.int .i64 (q'.e : Int))) cs zs ys :=
  ⟨(h.bw.setCell (Nat.le_refl _) _).setCell (Nat.le_refl _) _, (h.r.set_ 0 _).set_ 1 _, (h.z.far (by simp) _).far (by simp) _, (h.y.far (by simp) _).far (by simp) _, (h.x.far (by simp) _).far (by simp) _⟩
theorem Tq.drew {w w1 : World} {q : Dr} {cs zs ys : Array Value} (h : Tq w q w1 cs zs ys) : Tq w q w1.drew cs zs ys := ⟨h.bw.drew, h.r, h.z, h.y, h.x⟩
theorem Tq.setz {w w1 : World} {q : Dr} {cs ys : Array Value} (h : Tq w q w1 cs #[.int .u8 0, .int .u32 0, .int .u8 0, .string ⟨#[]⟩, .string ⟨#[]⟩, .string ⟨#[]⟩, .int .u8 0] ys) (v0 v1 v2 v3 v4 v5 v6 : Value) : Tq w q (((((((w1.setCell ⟨w.heap.size + 1, 0, none⟩ v0).setCell ⟨w.heap.size + 1, 1, none⟩ v1).setCell ⟨w.heap.size + 1, 2, none⟩ v2).setCell ⟨w.heap.size + 1, 3, none⟩ v3).setCell ⟨w.heap.size + 1, 4, none⟩ v4).setCell ⟨w.heap.size + 1, 5, none⟩ v5).setCell ⟨w.heap.size + 1, 6, none⟩ v6) cs #[v0, v1, v2, v3, v4, v5, v6] ys :=
  ⟨(((((((h.bw.setCell (by simp) _).setCell (by simp) _).setCell (by simp) _).setCell (by simp) _).setCell (by simp) _).setCell (by simp) _).setCell (by simp) _), (((((((h.r.far (by simp) _).far (by simp) _).far (by simp) _).far (by simp) _).far (by simp) _).far (by simp) _).far (by simp) _), (((((((h.z.set_ 0 _).set_ 1 _).set_ 2 _).set_ 3 _).set_ 4 _).set_ 5 _).set_ 6 _), (((((((h.y.far (by simp) _).far (by simp) _).far (by simp) _).far (by simp) _).far (by simp) _).far (by simp) _).far (by simp) _), (((((((h.x.far (by simp) _).far (by simp) _).far (by simp) _).far (by simp) _).far (by simp) _).far (by simp) _).far (by simp) _)⟩
theorem Tq.sety {w w1 : World} {q : Dr} {cs zs : Array Value} (h : Tq w q w1 cs zs #[.string ⟨#[]⟩, .int .i64 0]) (a b : Value) : Tq w q ((w1.setCell ⟨w.heap.size + 2, 0, none⟩ a).setCell ⟨w.heap.size + 2, 1, none⟩ b) cs zs #[a, b] :=
  ⟨(h.bw.setCell (by simp) _).setCell (by simp) _, (h.r.far (by simp) _).far (by simp) _, (h.z.far (by simp) _).far (by simp) _, (h.y.set_ 0 _).set_ 1 _, (h.x.far (by simp) _).far (by simp) _⟩
theorem Tq.start (w : World) (q : Dr) : Tq w q ((((w.alloc (.cells (drC q) 121)).alloc (.cells #[.int .u8 0, .int .u32 0, .int .u8 0, .string ⟨#[]⟩, .string ⟨#[]⟩, .string ⟨#[]⟩, .int .u8 0] 29)).alloc (.cells #[.string ⟨#[]⟩, .int .i64 0] 121)).alloc (.cells #[.int .u8 0, .int .u32 0, .int .u8 0, .string ⟨#[]⟩, .string ⟨#[]⟩, .string ⟨#[]⟩, .int .u8 0] 29)) #[.int .u8 0, .int .u32 0, .int .u8 0, .string ⟨#[]⟩, .string ⟨#[]⟩, .string ⟨#[]⟩, .int .u8 0] #[.int .u8 0, .int .u32 0, .int .u8 0, .string ⟨#[]⟩, .string ⟨#[]⟩, .string ⟨#[]⟩, .int .u8 0] #[.string ⟨#[]⟩, .int .i64 0] :=
  ⟨(((((Below.refl _ w).alloc (Nat.le_refl _) _).alloc (by simp) _).alloc (by simp; omega) _).alloc (by simp; omega) _), (((Blk.new w _ _).alloc _).alloc _).alloc _,
   (by have := ((Blk.new (w.alloc (.cells (drC q) 121)) 29 #[.int .u8 0, .int .u32 0, .int .u8 0, .string ⟨#[]⟩, .string ⟨#[]⟩, .string ⟨#[]⟩, .int .u8 0]).alloc (.cells #[.string ⟨#[]⟩, .int .i64 0] 121)).alloc (.cells #[.int .u8 0, .int .u32 0, .int .u8 0, .string ⟨#[]⟩, .string ⟨#[]⟩, .string ⟨#[]⟩, .int .u8 0] 29); simpa using this),
   (by have := (Blk.new ((w.alloc (.cells (drC q) 121)).alloc (.cells #[.int .u8 0, .int .u32 0, .int .u8 0, .string ⟨#[]⟩, .string ⟨#[]⟩, .string ⟨#[]⟩, .int .u8 0] 29)) 121 #[.string ⟨#[]⟩, .int .i64 0]).alloc (.cells #[.int .u8 0, .int .u32 0, .int .u8 0, .string ⟨#[]⟩, .string ⟨#[]⟩, .string ⟨#[]⟩, .int .u8 0] 29); simpa [Nat.add_assoc] using this),
   (by have := Blk.new (((w.alloc (.cells (drC q) 121)).alloc (.cells #[.int .u8 0, .int .u32 0, .int .u8 0, .string ⟨#[]⟩, .string ⟨#[]⟩, .string ⟨#[]⟩, .int .u8 0] 29)).alloc (.cells #[.string ⟨#[]⟩, .int .i64 0] 121)) 29 #[.int .u8 0, .int .u32 0, .int .u8 0, .string ⟨#[]⟩, .string ⟨#[]⟩, .string ⟨#[]⟩, .int .u8 0]; simpa [Nat.add_assoc] using this)⟩

set_option linter.unusedSimpArgs false in
set_option maxRecDepth 100000 in
set_option maxHeartbeats 8000000 in
theorem refTake_walk (q0 q1 q2 q3 q4 q5 q6 q7 qb : Dr) (a b k z : Nat) (s t u : List UInt8) (hf : Cm.Fits (⟨a, b, k, s, t, u, z⟩ : Cm))
    (C0 : ∀ W : World, Calls Tryz.prog 61 #[.agg #[.string ⟨q0.s.toArray⟩, .int .i64 (q0.e : Int)]] W fun e w' => e = .returned (.tuple #[.int .u8 (a : Int), .agg #[.string ⟨q1.s.toArray⟩, .int .i64 (q1.e : Int)]]) ∧ Below W.heap.size W w')
    (C1 : ∀ W : World, Calls Tryz.prog 101 #[.agg #[.string ⟨q1.s.toArray⟩, .int .i64 (q1.e : Int)], .int .u64 4294967296] W fun e w' => e = .returned (.tuple #[.int .u64 (b : Int), .agg #[.string ⟨q2.s.toArray⟩, .int .i64 (q2.e : Int)]]) ∧ Below W.heap.size W w')
    (C2 : ∀ W : World, Calls Tryz.prog 61 #[.agg #[.string ⟨q2.s.toArray⟩, .int .i64 (q2.e : Int)]] W fun e w' => e = .returned (.tuple #[.int .u8 (k : Int), .agg #[.string ⟨q3.s.toArray⟩, .int .i64 (q3.e : Int)]]) ∧ Below W.heap.size W w')
    (C3 : ∀ W : World, Calls Tryz.prog 102 #[.agg #[.string ⟨q3.s.toArray⟩, .int .i64 (q3.e : Int)], .int .i64 16] W fun e w' => e = .returned (.tuple #[.string ⟨s.toArray⟩, .agg #[.string ⟨q4.s.toArray⟩, .int .i64 (q4.e : Int)]]) ∧ Below W.heap.size W w')
    (C4 : ∀ W : World, Calls Tryz.prog 102 #[.agg #[.string ⟨q4.s.toArray⟩, .int .i64 (q4.e : Int)], .int .i64 64] W fun e w' => e = .returned (.tuple #[.string ⟨t.toArray⟩, .agg #[.string ⟨q5.s.toArray⟩, .int .i64 (q5.e : Int)]]) ∧ Below W.heap.size W w')
    (C5 : ∀ W : World, Calls Tryz.prog 102 #[.agg #[.string ⟨q5.s.toArray⟩, .int .i64 (q5.e : Int)], .int .i64 64] W fun e w' => e = .returned (.tuple #[.string ⟨u.toArray⟩, .agg #[.string ⟨q6.s.toArray⟩, .int .i64 (q6.e : Int)]]) ∧ Below W.heap.size W w')
    (C6 : ∀ W : World, Calls Tryz.prog 61 #[.agg #[.string ⟨q6.s.toArray⟩, .int .i64 (q6.e : Int)]] W fun e w' => e = .returned (.tuple #[.int .u8 (z : Int), .agg #[.string ⟨q7.s.toArray⟩, .int .i64 (q7.e : Int)]]) ∧ Below W.heap.size W w')
    (CB : ∀ W : World, Calls Tryz.prog 166 #[.agg #[.string ⟨q7.s.toArray⟩, .int .i64 (q7.e : Int)]] W fun e w' => e = .returned (.agg #[.string ⟨qb.s.toArray⟩, .int .i64 (qb.e : Int)]) ∧ Below W.heap.size W w') (hbe : qb.e ≠ 0)
    (w : World) (p : Cm × Dr) (hp : p = (if (if mayB (⟨a, b, k, s, t, u, z⟩ : Cm) then q7 else qb).e = 0 then (⟨a, b, k, s, t, u, z⟩ : Cm) else cm0, if mayB (⟨a, b, k, s, t, u, z⟩ : Cm) then q7 else qb)) :
    Calls Tryz.prog 100 #[.agg #[.string ⟨q0.s.toArray⟩, .int .i64 (q0.e : Int)]] w fun e w' => e = .returned (.tuple #[cmV p.1, drV p.2]) ∧ Below w.heap.size w w' := by
  have P := Lib.hid hp
  have HC0 := Lib.hid C0
  have HC1 := Lib.hid C1
  have HC2 := Lib.hid C2
  have HC3 := Lib.hid C3
  have HC4 := Lib.hid C4
  have HC5 := Lib.hid C5
  have HC6 := Lib.hid C6
  have HCB := Lib.hid CB
  have hb2 : b < 4294967296 := hf.h2
  have hck := fun W => refMay_any (⟨a, b, k, s, t, u, z⟩ : Cm) W
  have HK := Lib.hid hck
  have K := Tq.start w q0
  clear hck hp C0 C1 C2 C3 C4 C5 C6 CB hf
  unfold drC at K
  go_enter Tryz.func100, Tryz.ntmps100
  go_upto_region 2 with fail
  generalize ((((w.alloc (.cells #[.string ⟨q0.s.toArray⟩, .int .i64 (q0.e : Int)] 121)).alloc (.cells #[.int .u8 0, .int .u32 0, .int .u8 0, .string ⟨#[]⟩, .string ⟨#[]⟩, .string ⟨#[]⟩, .int .u8 0] 29)).alloc (.cells #[.string ⟨#[]⟩, .int .i64 0] 121)).alloc (.cells #[.int .u8 0, .int .u32 0, .int .u8 0, .string ⟨#[]⟩, .string ⟨#[]⟩, .string ⟨#[]⟩, .int .u8 0] 29)) = w0 at *
  have r0 : w0.cell? ⟨w.heap.size, 0, none⟩ = some (.string ⟨q0.s.toArray⟩) := K.r.cell 0
  have r1 : w0.cell? ⟨w.heap.size, 1, none⟩ = some (.int .i64 (q0.e : Int)) := K.r.cell 1
  go_wp2_with fail
  refine (HC0.out _).mono ?_; rintro e v1 ⟨rfl, B⟩
  have K' := K.below B
  clear K B r0 r1
  have K := K'
  clear K'
  have d0 : v1.cell? ⟨w.heap.size, 0, none⟩ = some (.string ⟨q0.s.toArray⟩) := K.r.cell 0
  have d1 : v1.cell? ⟨w.heap.size, 1, none⟩ = some (.int .i64 (q0.e : Int)) := K.r.cell 1
  have df0 := K.r.frozen 0
  have df1 := K.r.frozen 1
  have c1 := K.x.cell 0
  have f1 := K.x.frozen 0
  simp at c1
  have K' := (K.put 0 (.int .u8 (a : Int)) (cs' := #[.int .u8 (a : Int), .int .u32 0, .int .u8 0, .string ⟨#[]⟩, .string ⟨#[]⟩, .string ⟨#[]⟩, .int .u8 0]) rfl).box q1
  go_upto_region 3 with fail
  clear c1 f1 d0 d1 df0 df1 K
  have K := K'
  clear K'
  generalize ((v1.setCell ⟨w.heap.size + 3, 0, none⟩ (.int .u8 (a : Int))).setCell ⟨w.heap.size, 0, none⟩ (.string ⟨q1.s.toArray⟩)).setCell ⟨w.heap.size, 1, none⟩ (.int .i64 (q1.e : Int)) = w1 at *
  have r0 : w1.cell? ⟨w.heap.size, 0, none⟩ = some (.string ⟨q1.s.toArray⟩) := K.r.cell 0
  have r1 : w1.cell? ⟨w.heap.size, 1, none⟩ = some (.int .i64 (q1.e : Int)) := K.r.cell 1
  go_wp2_with fail
  refine (HC1.out _).mono ?_; rintro e v2 ⟨rfl, B⟩
  have K' := K.below B
  clear K B r0 r1
  have K := K'
  clear K'
  have d0 : v2.cell? ⟨w.heap.size, 0, none⟩ = some (.string ⟨q1.s.toArray⟩) := K.r.cell 0
  have d1 : v2.cell? ⟨w.heap.size, 1, none⟩ = some (.int .i64 (q1.e : Int)) := K.r.cell 1
  have df0 := K.r.frozen 0
  have df1 := K.r.frozen 1
  have K' := K.box q2
  go_upto_region 4 with fail
  clear d0 d1 df0 df1 K
  have K := K'
  clear K'
  generalize (v2.setCell ⟨w.heap.size, 0, none⟩ (.string ⟨q2.s.toArray⟩)).setCell ⟨w.heap.size, 1, none⟩ (.int .i64 (q2.e : Int)) = wb at *
  have c1 := K.x.cell 1
  have f1 := K.x.frozen 1
  simp at c1
  have K' := K.put 1 (.int .u32 (b : Int)) (cs' := #[.int .u8 (a : Int), .int .u32 (b : Int), .int .u8 0, .string ⟨#[]⟩, .string ⟨#[]⟩, .string ⟨#[]⟩, .int .u8 0]) rfl
  go_upto_region 5 with fail
  clear c1 f1 K
  have K := K'
  clear K'
  generalize wb.setCell ⟨w.heap.size + 3, 1, none⟩ (.int .u32 (b : Int)) = w2 at *
  have r0 : w2.cell? ⟨w.heap.size, 0, none⟩ = some (.string ⟨q2.s.toArray⟩) := K.r.cell 0
  have r1 : w2.cell? ⟨w.heap.size, 1, none⟩ = some (.int .i64 (q2.e : Int)) := K.r.cell 1
  go_wp2_with fail
  refine (HC2.out _).mono ?_; rintro e v3 ⟨rfl, B⟩
  have K' := K.below B
  clear K B r0 r1
  have K := K'
  clear K'
  have d0 : v3.cell? ⟨w.heap.size, 0, none⟩ = some (.string ⟨q2.s.toArray⟩) := K.r.cell 0
  have d1 : v3.cell? ⟨w.heap.size, 1, none⟩ = some (.int .i64 (q2.e : Int)) := K.r.cell 1
  have df0 := K.r.frozen 0
  have df1 := K.r.frozen 1
  have c1 := K.x.cell 2
  have f1 := K.x.frozen 2
  simp at c1
  have K' := (K.put 2 (.int .u8 (k : Int)) (cs' := #[.int .u8 (a : Int), .int .u32 (b : Int), .int .u8 (k : Int), .string ⟨#[]⟩, .string ⟨#[]⟩, .string ⟨#[]⟩, .int .u8 0]) rfl).box q3
  go_upto_region 6 with fail
  clear c1 f1 d0 d1 df0 df1 K
  have K := K'
  clear K'
  generalize ((v3.setCell ⟨w.heap.size + 3, 2, none⟩ (.int .u8 (k : Int))).setCell ⟨w.heap.size, 0, none⟩ (.string ⟨q3.s.toArray⟩)).setCell ⟨w.heap.size, 1, none⟩ (.int .i64 (q3.e : Int)) = w3 at *
  have r0 : w3.cell? ⟨w.heap.size, 0, none⟩ = some (.string ⟨q3.s.toArray⟩) := K.r.cell 0
  have r1 : w3.cell? ⟨w.heap.size, 1, none⟩ = some (.int .i64 (q3.e : Int)) := K.r.cell 1
  go_wp2_with fail
  refine (HC3.out _).mono ?_; rintro e v4 ⟨rfl, B⟩
  have K' := K.below B
  clear K B r0 r1
  have K := K'
  clear K'
  have d0 : v4.cell? ⟨w.heap.size, 0, none⟩ = some (.string ⟨q3.s.toArray⟩) := K.r.cell 0
  have d1 : v4.cell? ⟨w.heap.size, 1, none⟩ = some (.int .i64 (q3.e : Int)) := K.r.cell 1
  have df0 := K.r.frozen 0
  have df1 := K.r.frozen 1
  have c1 := K.x.cell 3
  have f1 := K.x.frozen 3
  simp at c1
  have K' := (K.put 3 (.string ⟨s.toArray⟩) (cs' := #[.int .u8 (a : Int), .int .u32 (b : Int), .int .u8 (k : Int), .string ⟨s.toArray⟩, .string ⟨#[]⟩, .string ⟨#[]⟩, .int .u8 0]) rfl).box q4
  go_upto_region 7 with fail
  clear c1 f1 d0 d1 df0 df1 K
  have K := K'
  clear K'
  generalize ((v4.setCell ⟨w.heap.size + 3, 3, none⟩ (.string ⟨s.toArray⟩)).setCell ⟨w.heap.size, 0, none⟩ (.string ⟨q4.s.toArray⟩)).setCell ⟨w.heap.size, 1, none⟩ (.int .i64 (q4.e : Int)) = w4 at *
  have r0 : w4.cell? ⟨w.heap.size, 0, none⟩ = some (.string ⟨q4.s.toArray⟩) := K.r.cell 0
  have r1 : w4.cell? ⟨w.heap.size, 1, none⟩ = some (.int .i64 (q4.e : Int)) := K.r.cell 1
  go_wp2_with fail
  refine (HC4.out _).mono ?_; rintro e v5 ⟨rfl, B⟩
  have K' := K.below B
  clear K B r0 r1
  have K := K'
  clear K'
  have d0 : v5.cell? ⟨w.heap.size, 0, none⟩ = some (.string ⟨q4.s.toArray⟩) := K.r.cell 0
  have d1 : v5.cell? ⟨w.heap.size, 1, none⟩ = some (.int .i64 (q4.e : Int)) := K.r.cell 1
  have df0 := K.r.frozen 0
  have df1 := K.r.frozen 1
  have c1 := K.x.cell 4
  have f1 := K.x.frozen 4
  simp at c1
  have K' := (K.put 4 (.string ⟨t.toArray⟩) (cs' := #[.int .u8 (a : Int), .int .u32 (b : Int), .int .u8 (k : Int), .string ⟨s.toArray⟩, .string ⟨t.toArray⟩, .string ⟨#[]⟩, .int .u8 0]) rfl).box q5
  go_upto_region 8 with fail
  clear c1 f1 d0 d1 df0 df1 K
  have K := K'
  clear K'
  generalize ((v5.setCell ⟨w.heap.size + 3, 4, none⟩ (.string ⟨t.toArray⟩)).setCell ⟨w.heap.size, 0, none⟩ (.string ⟨q5.s.toArray⟩)).setCell ⟨w.heap.size, 1, none⟩ (.int .i64 (q5.e : Int)) = w5 at *
  have r0 : w5.cell? ⟨w.heap.size, 0, none⟩ = some (.string ⟨q5.s.toArray⟩) := K.r.cell 0
  have r1 : w5.cell? ⟨w.heap.size, 1, none⟩ = some (.int .i64 (q5.e : Int)) := K.r.cell 1
  go_wp2_with fail
  refine (HC5.out _).mono ?_; rintro e v6 ⟨rfl, B⟩
  have K' := K.below B
  clear K B r0 r1
  have K := K'
  clear K'
  have d0 : v6.cell? ⟨w.heap.size, 0, none⟩ = some (.string ⟨q5.s.toArray⟩) := K.r.cell 0
  have d1 : v6.cell? ⟨w.heap.size, 1, none⟩ = some (.int .i64 (q5.e : Int)) := K.r.cell 1
  have df0 := K.r.frozen 0
  have df1 := K.r.frozen 1
  have c1 := K.x.cell 5
  have f1 := K.x.frozen 5
  simp at c1
  have K' := (K.put 5 (.string ⟨u.toArray⟩) (cs' := #[.int .u8 (a : Int), .int .u32 (b : Int), .int .u8 (k : Int), .string ⟨s.toArray⟩, .string ⟨t.toArray⟩, .string ⟨u.toArray⟩, .int .u8 0]) rfl).box q6
  go_upto_region 9 with fail
  clear c1 f1 d0 d1 df0 df1 K
  have K := K'
  clear K'
  generalize ((v6.setCell ⟨w.heap.size + 3, 5, none⟩ (.string ⟨u.toArray⟩)).setCell ⟨w.heap.size, 0, none⟩ (.string ⟨q6.s.toArray⟩)).setCell ⟨w.heap.size, 1, none⟩ (.int .i64 (q6.e : Int)) = w6 at *
  have r0 : w6.cell? ⟨w.heap.size, 0, none⟩ = some (.string ⟨q6.s.toArray⟩) := K.r.cell 0
  have r1 : w6.cell? ⟨w.heap.size, 1, none⟩ = some (.int .i64 (q6.e : Int)) := K.r.cell 1
  go_wp2_with fail
  refine (HC6.out _).mono ?_; rintro e v7 ⟨rfl, B⟩
  have K' := K.below B
  clear K B r0 r1
  have K := K'
  clear K'
  have d0 : v7.cell? ⟨w.heap.size, 0, none⟩ = some (.string ⟨q6.s.toArray⟩) := K.r.cell 0
  have d1 : v7.cell? ⟨w.heap.size, 1, none⟩ = some (.int .i64 (q6.e : Int)) := K.r.cell 1
  have df0 := K.r.frozen 0
  have df1 := K.r.frozen 1
  have c1 := K.x.cell 6
  have f1 := K.x.frozen 6
  simp at c1
  have K' := (K.put 6 (.int .u8 (z : Int)) (cs' := #[.int .u8 (a : Int), .int .u32 (b : Int), .int .u8 (k : Int), .string ⟨s.toArray⟩, .string ⟨t.toArray⟩, .string ⟨u.toArray⟩, .int .u8 (z : Int)]) rfl).box q7
  go_upto_region 10 with fail
  clear c1 f1 d0 d1 df0 df1 K
  have K := K'
  clear K'
  generalize ((v7.setCell ⟨w.heap.size + 3, 6, none⟩ (.int .u8 (z : Int))).setCell ⟨w.heap.size, 0, none⟩ (.string ⟨q7.s.toArray⟩)).setCell ⟨w.heap.size, 1, none⟩ (.int .i64 (q7.e : Int)) = w7 at *
  have x0 := K.x.cell 0
  have x1 := K.x.cell 1
  have x2 := K.x.cell 2
  have x3 := K.x.cell 3
  have x4 := K.x.cell 4
  have x5 := K.x.cell 5
  have x6 := K.x.cell 6
  simp at x0 x1 x2 x3 x4 x5 x6
  unfold cmV cmC at HK
  dsimp only at HK
  generalize mayB (⟨a, b, k, s, t, u, z⟩ : Cm) = m at *
  go_wp2_with fail
  refine (HK.out _).mono ?_; rintro e w8 ⟨rfl, B8⟩
  have K' := K.below B8
  clear K B8 x0 x1 x2 x3 x4 x5 x6
  have K := K'
  clear K' HK HC0 HC1 HC2 HC3 HC4 HC5 HC6
  cases m
  · have r0 : w8.cell? ⟨w.heap.size, 0, none⟩ = some (.string ⟨q7.s.toArray⟩) := K.r.cell 0
    have r1 : w8.cell? ⟨w.heap.size, 1, none⟩ = some (.int .i64 (q7.e : Int)) := K.r.cell 1
    go_wp2_with fail
    refine (HCB.out _).mono ?_; rintro e w9 ⟨rfl, B⟩
    have K' := K.below B
    clear K B r0 r1
    have d0 : w9.cell? ⟨w.heap.size, 0, none⟩ = some (.string ⟨q7.s.toArray⟩) := K'.r.cell 0
    have d1 : w9.cell? ⟨w.heap.size, 1, none⟩ = some (.int .i64 (q7.e : Int)) := K'.r.cell 1
    have df0 := K'.r.frozen 0
    have df1 := K'.r.frozen 1
    have K := K'.box qb
    go_upto_region 12 with fail
    clear d0 d1 df0 df1 K'
    generalize (w9.setCell ⟨w.heap.size, 0, none⟩ (.string ⟨qb.s.toArray⟩)).setCell ⟨w.heap.size, 1, none⟩ (.int .i64 (qb.e : Int)) = wz at *
    have d0 : wz.cell? ⟨w.heap.size, 0, none⟩ = some (.string ⟨qb.s.toArray⟩) := K.r.cell 0
    have d1 : wz.cell? ⟨w.heap.size, 1, none⟩ = some (.int .i64 (qb.e : Int)) := K.r.cell 1
    have ne : ((qb.e : Int) != 0) = true := by rw [bne_iff_ne]; omega
    have hp : p = (cm0, qb) := by rw [P.out]; simp [hbe]
    have HP := Lib.hid hp
    clear hp P
    go_upto_region 13 with fail
    have K3 := K.drew
    have Ka := K3.setz (.int .u8 0) (.int .u32 0) (.int .u8 0) (.string ⟨#[]⟩) (.string ⟨#[]⟩) (.string ⟨#[]⟩) (.int .u8 0)
    have Kc := K.setz (.int .u8 0) (.int .u32 0) (.int .u8 0) (.string ⟨#[]⟩) (.string ⟨#[]⟩) (.string ⟨#[]⟩) (.int .u8 0)
    have Kd := Kc.sety (.string ⟨qb.s.toArray⟩) (.int .i64 (qb.e : Int))
    have Kb := Ka.sety (.string ⟨qb.s.toArray⟩) (.int .i64 (qb.e : Int))
    have zf0 := K.z.frozen 0
    have zf1 := K.z.frozen 1
    have zf2 := K.z.frozen 2
    have zf3 := K.z.frozen 3
    have zf4 := K.z.frozen 4
    have zf5 := K.z.frozen 5
    have zf6 := K.z.frozen 6
    have zc0 := K.z.cell 0
    have zc1 := K.z.cell 1
    have zc2 := K.z.cell 2
    have zc3 := K.z.cell 3
    have zc4 := K.z.cell 4
    have zc5 := K.z.cell 5
    have zc6 := K.z.cell 6
    have yf0 := K.y.frozen 0
    have yc0 := K.y.cell 0
    have yf1 := K.y.frozen 1
    have yc1 := K.y.cell 1
    simp at zc0 zc1 zc2 zc3 zc4 zc5 zc6 yc0 yc1
    have t0 : (wz.drew).cell? ⟨w.heap.size, 0, none⟩ = some (.string ⟨qb.s.toArray⟩) := K3.r.cell 0
    have t1 : (wz.drew).cell? ⟨w.heap.size, 1, none⟩ = some (.int .i64 (qb.e : Int)) := K3.r.cell 1
    have t2 : ((((((((wz.setCell ⟨w.heap.size + 1, 0, none⟩ (.int .u8 0)).setCell ⟨w.heap.size + 1, 1, none⟩ (.int .u32 0)).setCell ⟨w.heap.size + 1, 2, none⟩ (.int .u8 0)).setCell ⟨w.heap.size + 1, 3, none⟩ (.string ⟨#[]⟩)).setCell ⟨w.heap.size + 1, 4, none⟩ (.string ⟨#[]⟩)).setCell ⟨w.heap.size + 1, 5, none⟩ (.string ⟨#[]⟩)).setCell ⟨w.heap.size + 1, 6, none⟩ (.int .u8 0)).drew).cell? ⟨w.heap.size, 0, none⟩ = some (.string ⟨qb.s.toArray⟩) := Kc.drew.r.cell 0
    have t3 : ((((((((wz.setCell ⟨w.heap.size + 1, 0, none⟩ (.int .u8 0)).setCell ⟨w.heap.size + 1, 1, none⟩ (.int .u32 0)).setCell ⟨w.heap.size + 1, 2, none⟩ (.int .u8 0)).setCell ⟨w.heap.size + 1, 3, none⟩ (.string ⟨#[]⟩)).setCell ⟨w.heap.size + 1, 4, none⟩ (.string ⟨#[]⟩)).setCell ⟨w.heap.size + 1, 5, none⟩ (.string ⟨#[]⟩)).setCell ⟨w.heap.size + 1, 6, none⟩ (.int .u8 0)).drew).cell? ⟨w.heap.size, 1, none⟩ = some (.int .i64 (qb.e : Int)) := Kc.drew.r.cell 1
    have t4 : ((((((((wz.drew.setCell ⟨w.heap.size + 1, 0, none⟩ (.int .u8 0)).setCell ⟨w.heap.size + 1, 1, none⟩ (.int .u32 0)).setCell ⟨w.heap.size + 1, 2, none⟩ (.int .u8 0)).setCell ⟨w.heap.size + 1, 3, none⟩ (.string ⟨#[]⟩)).setCell ⟨w.heap.size + 1, 4, none⟩ (.string ⟨#[]⟩)).setCell ⟨w.heap.size + 1, 5, none⟩ (.string ⟨#[]⟩)).setCell ⟨w.heap.size + 1, 6, none⟩ (.int .u8 0))).cell? ⟨w.heap.size, 0, none⟩ = some (.string ⟨qb.s.toArray⟩) := Ka.r.cell 0
    have t5 : ((((((((wz.drew.setCell ⟨w.heap.size + 1, 0, none⟩ (.int .u8 0)).setCell ⟨w.heap.size + 1, 1, none⟩ (.int .u32 0)).setCell ⟨w.heap.size + 1, 2, none⟩ (.int .u8 0)).setCell ⟨w.heap.size + 1, 3, none⟩ (.string ⟨#[]⟩)).setCell ⟨w.heap.size + 1, 4, none⟩ (.string ⟨#[]⟩)).setCell ⟨w.heap.size + 1, 5, none⟩ (.string ⟨#[]⟩)).setCell ⟨w.heap.size + 1, 6, none⟩ (.int .u8 0))).cell? ⟨w.heap.size, 1, none⟩ = some (.int .i64 (qb.e : Int)) := Ka.r.cell 1
    have t6 : ((((((((((wz.setCell ⟨w.heap.size + 1, 0, none⟩ (.int .u8 0)).setCell ⟨w.heap.size + 1, 1, none⟩ (.int .u32 0)).setCell ⟨w.heap.size + 1, 2, none⟩ (.int .u8 0)).setCell ⟨w.heap.size + 1, 3, none⟩ (.string ⟨#[]⟩)).setCell ⟨w.heap.size + 1, 4, none⟩ (.string ⟨#[]⟩)).setCell ⟨w.heap.size + 1, 5, none⟩ (.string ⟨#[]⟩)).setCell ⟨w.heap.size + 1, 6, none⟩ (.int .u8 0)).setCell ⟨w.heap.size + 1 + 1, 0, none⟩ (.string ⟨qb.s.toArray⟩)).setCell ⟨w.heap.size + 1 + 1, 1, none⟩ (.int .i64 (qb.e : Int))).drew).cell? ⟨w.heap.size, 0, none⟩ = some (.string ⟨qb.s.toArray⟩) := Kd.drew.r.cell 0
    have t7 : ((((((((((wz.setCell ⟨w.heap.size + 1, 0, none⟩ (.int .u8 0)).setCell ⟨w.heap.size + 1, 1, none⟩ (.int .u32 0)).setCell ⟨w.heap.size + 1, 2, none⟩ (.int .u8 0)).setCell ⟨w.heap.size + 1, 3, none⟩ (.string ⟨#[]⟩)).setCell ⟨w.heap.size + 1, 4, none⟩ (.string ⟨#[]⟩)).setCell ⟨w.heap.size + 1, 5, none⟩ (.string ⟨#[]⟩)).setCell ⟨w.heap.size + 1, 6, none⟩ (.int .u8 0)).setCell ⟨w.heap.size + 1 + 1, 0, none⟩ (.string ⟨qb.s.toArray⟩)).setCell ⟨w.heap.size + 1 + 1, 1, none⟩ (.int .i64 (qb.e : Int))).drew).cell? ⟨w.heap.size, 1, none⟩ = some (.int .i64 (qb.e : Int)) := Kd.drew.r.cell 1
    have t8 : ((((((((((wz.drew.setCell ⟨w.heap.size + 1, 0, none⟩ (.int .u8 0)).setCell ⟨w.heap.size + 1, 1, none⟩ (.int .u32 0)).setCell ⟨w.heap.size + 1, 2, none⟩ (.int .u8 0)).setCell ⟨w.heap.size + 1, 3, none⟩ (.string ⟨#[]⟩)).setCell ⟨w.heap.size + 1, 4, none⟩ (.string ⟨#[]⟩)).setCell ⟨w.heap.size + 1, 5, none⟩ (.string ⟨#[]⟩)).setCell ⟨w.heap.size + 1, 6, none⟩ (.int .u8 0)).setCell ⟨w.heap.size + 1 + 1, 0, none⟩ (.string ⟨qb.s.toArray⟩)).setCell ⟨w.heap.size + 1 + 1, 1, none⟩ (.int .i64 (qb.e : Int)))).cell? ⟨w.heap.size, 0, none⟩ = some (.string ⟨qb.s.toArray⟩) := Kb.r.cell 0
    have t9 : ((((((((((wz.drew.setCell ⟨w.heap.size + 1, 0, none⟩ (.int .u8 0)).setCell ⟨w.heap.size + 1, 1, none⟩ (.int .u32 0)).setCell ⟨w.heap.size + 1, 2, none⟩ (.int .u8 0)).setCell ⟨w.heap.size + 1, 3, none⟩ (.string ⟨#[]⟩)).setCell ⟨w.heap.size + 1, 4, none⟩ (.string ⟨#[]⟩)).setCell ⟨w.heap.size + 1, 5, none⟩ (.string ⟨#[]⟩)).setCell ⟨w.heap.size + 1, 6, none⟩ (.int .u8 0)).setCell ⟨w.heap.size + 1 + 1, 0, none⟩ (.string ⟨qb.s.toArray⟩)).setCell ⟨w.heap.size + 1 + 1, 1, none⟩ (.int .i64 (qb.e : Int)))).cell? ⟨w.heap.size, 1, none⟩ = some (.int .i64 (qb.e : Int)) := Kb.r.cell 1
    go_region_held3 (fun W : World => W.cell? ⟨w.heap.size, 0, none⟩ = some (.string ⟨qb.s.toArray⟩) ∧ W.cell? ⟨w.heap.size, 1, none⟩ = some (.int .i64 (qb.e : Int))) (first | go_keep | exact ⟨t0, t1⟩ | exact ⟨t2, t3⟩ | exact ⟨t4, t5⟩ | exact ⟨t6, t7⟩ | exact ⟨t8, t9⟩ | exact ⟨K.r.cell 0, K.r.cell 1⟩ | exact ⟨K3.r.cell 0, K3.r.cell 1⟩ | exact ⟨Ka.r.cell 0, Ka.r.cell 1⟩ | exact ⟨Kb.r.cell 0, Kb.r.cell 1⟩ | exact ⟨Kc.r.cell 0, Kc.r.cell 1⟩ | exact ⟨Kc.drew.r.cell 0, Kc.drew.r.cell 1⟩ | exact ⟨Kd.r.cell 0, Kd.r.cell 1⟩ | exact ⟨Kd.drew.r.cell 0, Kd.drew.r.cell 1⟩) (fail)
    have z0 : (((((((((((wz.setCell ⟨w.heap.size + 1, 0, none⟩ (.int .u8 0)).setCell ⟨w.heap.size + 1, 1, none⟩ (.int .u32 0)).setCell ⟨w.heap.size + 1, 2, none⟩ (.int .u8 0)).setCell ⟨w.heap.size + 1, 3, none⟩ (.string ⟨#[]⟩)).setCell ⟨w.heap.size + 1, 4, none⟩ (.string ⟨#[]⟩)).setCell ⟨w.heap.size + 1, 5, none⟩ (.string ⟨#[]⟩)).setCell ⟨w.heap.size + 1, 6, none⟩ (.int .u8 0)).setCell ⟨w.heap.size + 1 + 1, 0, none⟩ (.string ⟨qb.s.toArray⟩)).setCell ⟨w.heap.size + 1 + 1, 1, none⟩ (.int .i64 (qb.e : Int)))).drew).cell? ⟨w.heap.size + 1, 0, none⟩ = some (.int .u8 0) := Kd.drew.z.cell 0
    have z1 : (((((((((((wz.setCell ⟨w.heap.size + 1, 0, none⟩ (.int .u8 0)).setCell ⟨w.heap.size + 1, 1, none⟩ (.int .u32 0)).setCell ⟨w.heap.size + 1, 2, none⟩ (.int .u8 0)).setCell ⟨w.heap.size + 1, 3, none⟩ (.string ⟨#[]⟩)).setCell ⟨w.heap.size + 1, 4, none⟩ (.string ⟨#[]⟩)).setCell ⟨w.heap.size + 1, 5, none⟩ (.string ⟨#[]⟩)).setCell ⟨w.heap.size + 1, 6, none⟩ (.int .u8 0)).setCell ⟨w.heap.size + 1 + 1, 0, none⟩ (.string ⟨qb.s.toArray⟩)).setCell ⟨w.heap.size + 1 + 1, 1, none⟩ (.int .i64 (qb.e : Int)))).drew).cell? ⟨w.heap.size + 1, 1, none⟩ = some (.int .u32 0) := Kd.drew.z.cell 1
    have z2 : (((((((((((wz.setCell ⟨w.heap.size + 1, 0, none⟩ (.int .u8 0)).setCell ⟨w.heap.size + 1, 1, none⟩ (.int .u32 0)).setCell ⟨w.heap.size + 1, 2, none⟩ (.int .u8 0)).setCell ⟨w.heap.size + 1, 3, none⟩ (.string ⟨#[]⟩)).setCell ⟨w.heap.size + 1, 4, none⟩ (.string ⟨#[]⟩)).setCell ⟨w.heap.size + 1, 5, none⟩ (.string ⟨#[]⟩)).setCell ⟨w.heap.size + 1, 6, none⟩ (.int .u8 0)).setCell ⟨w.heap.size + 1 + 1, 0, none⟩ (.string ⟨qb.s.toArray⟩)).setCell ⟨w.heap.size + 1 + 1, 1, none⟩ (.int .i64 (qb.e : Int)))).drew).cell? ⟨w.heap.size + 1, 2, none⟩ = some (.int .u8 0) := Kd.drew.z.cell 2
    have z3 : (((((((((((wz.setCell ⟨w.heap.size + 1, 0, none⟩ (.int .u8 0)).setCell ⟨w.heap.size + 1, 1, none⟩ (.int .u32 0)).setCell ⟨w.heap.size + 1, 2, none⟩ (.int .u8 0)).setCell ⟨w.heap.size + 1, 3, none⟩ (.string ⟨#[]⟩)).setCell ⟨w.heap.size + 1, 4, none⟩ (.string ⟨#[]⟩)).setCell ⟨w.heap.size + 1, 5, none⟩ (.string ⟨#[]⟩)).setCell ⟨w.heap.size + 1, 6, none⟩ (.int .u8 0)).setCell ⟨w.heap.size + 1 + 1, 0, none⟩ (.string ⟨qb.s.toArray⟩)).setCell ⟨w.heap.size + 1 + 1, 1, none⟩ (.int .i64 (qb.e : Int)))).drew).cell? ⟨w.heap.size + 1, 3, none⟩ = some (.string ⟨#[]⟩) := Kd.drew.z.cell 3
    have z4 : (((((((((((wz.setCell ⟨w.heap.size + 1, 0, none⟩ (.int .u8 0)).setCell ⟨w.heap.size + 1, 1, none⟩ (.int .u32 0)).setCell ⟨w.heap.size + 1, 2, none⟩ (.int .u8 0)).setCell ⟨w.heap.size + 1, 3, none⟩ (.string ⟨#[]⟩)).setCell ⟨w.heap.size + 1, 4, none⟩ (.string ⟨#[]⟩)).setCell ⟨w.heap.size + 1, 5, none⟩ (.string ⟨#[]⟩)).setCell ⟨w.heap.size + 1, 6, none⟩ (.int .u8 0)).setCell ⟨w.heap.size + 1 + 1, 0, none⟩ (.string ⟨qb.s.toArray⟩)).setCell ⟨w.heap.size + 1 + 1, 1, none⟩ (.int .i64 (qb.e : Int)))).drew).cell? ⟨w.heap.size + 1, 4, none⟩ = some (.string ⟨#[]⟩) := Kd.drew.z.cell 4
    have z5 : (((((((((((wz.setCell ⟨w.heap.size + 1, 0, none⟩ (.int .u8 0)).setCell ⟨w.heap.size + 1, 1, none⟩ (.int .u32 0)).setCell ⟨w.heap.size + 1, 2, none⟩ (.int .u8 0)).setCell ⟨w.heap.size + 1, 3, none⟩ (.string ⟨#[]⟩)).setCell ⟨w.heap.size + 1, 4, none⟩ (.string ⟨#[]⟩)).setCell ⟨w.heap.size + 1, 5, none⟩ (.string ⟨#[]⟩)).setCell ⟨w.heap.size + 1, 6, none⟩ (.int .u8 0)).setCell ⟨w.heap.size + 1 + 1, 0, none⟩ (.string ⟨qb.s.toArray⟩)).setCell ⟨w.heap.size + 1 + 1, 1, none⟩ (.int .i64 (qb.e : Int)))).drew).cell? ⟨w.heap.size + 1, 5, none⟩ = some (.string ⟨#[]⟩) := Kd.drew.z.cell 5
    have z6 : (((((((((((wz.setCell ⟨w.heap.size + 1, 0, none⟩ (.int .u8 0)).setCell ⟨w.heap.size + 1, 1, none⟩ (.int .u32 0)).setCell ⟨w.heap.size + 1, 2, none⟩ (.int .u8 0)).setCell ⟨w.heap.size + 1, 3, none⟩ (.string ⟨#[]⟩)).setCell ⟨w.heap.size + 1, 4, none⟩ (.string ⟨#[]⟩)).setCell ⟨w.heap.size + 1, 5, none⟩ (.string ⟨#[]⟩)).setCell ⟨w.heap.size + 1, 6, none⟩ (.int .u8 0)).setCell ⟨w.heap.size + 1 + 1, 0, none⟩ (.string ⟨qb.s.toArray⟩)).setCell ⟨w.heap.size + 1 + 1, 1, none⟩ (.int .i64 (qb.e : Int)))).drew).cell? ⟨w.heap.size + 1, 6, none⟩ = some (.int .u8 0) := Kd.drew.z.cell 6
    have y0 : (((((((((((wz.setCell ⟨w.heap.size + 1, 0, none⟩ (.int .u8 0)).setCell ⟨w.heap.size + 1, 1, none⟩ (.int .u32 0)).setCell ⟨w.heap.size + 1, 2, none⟩ (.int .u8 0)).setCell ⟨w.heap.size + 1, 3, none⟩ (.string ⟨#[]⟩)).setCell ⟨w.heap.size + 1, 4, none⟩ (.string ⟨#[]⟩)).setCell ⟨w.heap.size + 1, 5, none⟩ (.string ⟨#[]⟩)).setCell ⟨w.heap.size + 1, 6, none⟩ (.int .u8 0)).setCell ⟨w.heap.size + 1 + 1, 0, none⟩ (.string ⟨qb.s.toArray⟩)).setCell ⟨w.heap.size + 1 + 1, 1, none⟩ (.int .i64 (qb.e : Int)))).drew).cell? ⟨w.heap.size + 1 + 1, 0, none⟩ = some (.string ⟨qb.s.toArray⟩) := Kd.drew.y.cell 0
    have y1 : (((((((((((wz.setCell ⟨w.heap.size + 1, 0, none⟩ (.int .u8 0)).setCell ⟨w.heap.size + 1, 1, none⟩ (.int .u32 0)).setCell ⟨w.heap.size + 1, 2, none⟩ (.int .u8 0)).setCell ⟨w.heap.size + 1, 3, none⟩ (.string ⟨#[]⟩)).setCell ⟨w.heap.size + 1, 4, none⟩ (.string ⟨#[]⟩)).setCell ⟨w.heap.size + 1, 5, none⟩ (.string ⟨#[]⟩)).setCell ⟨w.heap.size + 1, 6, none⟩ (.int .u8 0)).setCell ⟨w.heap.size + 1 + 1, 0, none⟩ (.string ⟨qb.s.toArray⟩)).setCell ⟨w.heap.size + 1 + 1, 1, none⟩ (.int .i64 (qb.e : Int)))).drew).cell? ⟨w.heap.size + 1 + 1, 1, none⟩ = some (.int .i64 (qb.e : Int)) := Kd.drew.y.cell 1
    have hbw := Kd.drew.bw
    generalize ((((((((((wz.setCell ⟨w.heap.size + 1, 0, none⟩ (.int .u8 0)).setCell ⟨w.heap.size + 1, 1, none⟩ (.int .u32 0)).setCell ⟨w.heap.size + 1, 2, none⟩ (.int .u8 0)).setCell ⟨w.heap.size + 1, 3, none⟩ (.string ⟨#[]⟩)).setCell ⟨w.heap.size + 1, 4, none⟩ (.string ⟨#[]⟩)).setCell ⟨w.heap.size + 1, 5, none⟩ (.string ⟨#[]⟩)).setCell ⟨w.heap.size + 1, 6, none⟩ (.int .u8 0)).setCell ⟨w.heap.size + 1 + 1, 0, none⟩ (.string ⟨qb.s.toArray⟩)).setCell ⟨w.heap.size + 1 + 1, 1, none⟩ (.int .i64 (qb.e : Int)))).drew = wf at *
    go_wp2_with fail
    rw [HP.out]
    refine bodyPost_ret (v := .tuple #[.agg #[.int .u8 0, .int .u32 0, .int .u8 0, .string ⟨#[]⟩, .string ⟨#[]⟩, .string ⟨#[]⟩, .int .u8 0], .agg #[.string ⟨qb.s.toArray⟩, .int .i64 (qb.e : Int)]]) (by simp [results, Tryz.results100, go_sem, z0, z1, z2, z3, z4, z5, z6, y0, y1]) rfl ⟨rfl, hbw⟩
  · have r0 : w8.cell? ⟨w.heap.size, 0, none⟩ = some (.string ⟨q7.s.toArray⟩) := K.r.cell 0
    have r1 : w8.cell? ⟨w.heap.size, 1, none⟩ = some (.int .i64 (q7.e : Int)) := K.r.cell 1
    by_cases he : q7.e = 0
    · have ne : ((q7.e : Int) != 0) = false := by rw [he]; rfl
      have hp : p = ((⟨a, b, k, s, t, u, z⟩ : Cm), q7) := by rw [P.out]; simp [he]
      have HP := Lib.hid hp
      clear hp P he
      go_upto_region 14 with fail
      have K3 := K.drew
      have Ka := K3.setz (.int .u8 (a : Int)) (.int .u32 (b : Int)) (.int .u8 (k : Int)) (.string ⟨s.toArray⟩) (.string ⟨t.toArray⟩) (.string ⟨u.toArray⟩) (.int .u8 (z : Int))
      have Kc := K.setz (.int .u8 (a : Int)) (.int .u32 (b : Int)) (.int .u8 (k : Int)) (.string ⟨s.toArray⟩) (.string ⟨t.toArray⟩) (.string ⟨u.toArray⟩) (.int .u8 (z : Int))
      have Kd := Kc.sety (.string ⟨q7.s.toArray⟩) (.int .i64 (q7.e : Int))
      have Kb := Ka.sety (.string ⟨q7.s.toArray⟩) (.int .i64 (q7.e : Int))
      have zf0 := K.z.frozen 0
      have zf1 := K.z.frozen 1
      have zf2 := K.z.frozen 2
      have zf3 := K.z.frozen 3
      have zf4 := K.z.frozen 4
      have zf5 := K.z.frozen 5
      have zf6 := K.z.frozen 6
      have zc0 := K.z.cell 0
      have zc1 := K.z.cell 1
      have zc2 := K.z.cell 2
      have zc3 := K.z.cell 3
      have zc4 := K.z.cell 4
      have zc5 := K.z.cell 5
      have zc6 := K.z.cell 6
      have yf0 := K.y.frozen 0
      have yc0 := K.y.cell 0
      have yf1 := K.y.frozen 1
      have yc1 := K.y.cell 1
      simp at zc0 zc1 zc2 zc3 zc4 zc5 zc6 yc0 yc1
      have t0 : (w8.drew).cell? ⟨w.heap.size + 3, 0, none⟩ = some (.int .u8 (a : Int)) := K3.x.cell 0
      have t1 : (w8.drew).cell? ⟨w.heap.size + 3, 1, none⟩ = some (.int .u32 (b : Int)) := K3.x.cell 1
      have t2 : (w8.drew).cell? ⟨w.heap.size + 3, 2, none⟩ = some (.int .u8 (k : Int)) := K3.x.cell 2
      have t3 : (w8.drew).cell? ⟨w.heap.size + 3, 3, none⟩ = some (.string ⟨s.toArray⟩) := K3.x.cell 3
      have t4 : (w8.drew).cell? ⟨w.heap.size + 3, 4, none⟩ = some (.string ⟨t.toArray⟩) := K3.x.cell 4
      have t5 : (w8.drew).cell? ⟨w.heap.size + 3, 5, none⟩ = some (.string ⟨u.toArray⟩) := K3.x.cell 5
      have t6 : (w8.drew).cell? ⟨w.heap.size + 3, 6, none⟩ = some (.int .u8 (z : Int)) := K3.x.cell 6
      have t7 : (w8.drew).cell? ⟨w.heap.size, 0, none⟩ = some (.string ⟨q7.s.toArray⟩) := K3.r.cell 0
      have t8 : (w8.drew).cell? ⟨w.heap.size, 1, none⟩ = some (.int .i64 (q7.e : Int)) := K3.r.cell 1
      have t9 : ((((((((w8.setCell ⟨w.heap.size + 1, 0, none⟩ (.int .u8 (a : Int))).setCell ⟨w.heap.size + 1, 1, none⟩ (.int .u32 (b : Int))).setCell ⟨w.heap.size + 1, 2, none⟩ (.int .u8 (k : Int))).setCell ⟨w.heap.size + 1, 3, none⟩ (.string ⟨s.toArray⟩)).setCell ⟨w.heap.size + 1, 4, none⟩ (.string ⟨t.toArray⟩)).setCell ⟨w.heap.size + 1, 5, none⟩ (.string ⟨u.toArray⟩)).setCell ⟨w.heap.size + 1, 6, none⟩ (.int .u8 (z : Int))).drew).cell? ⟨w.heap.size + 3, 0, none⟩ = some (.int .u8 (a : Int)) := Kc.drew.x.cell 0
      have t10 : ((((((((w8.setCell ⟨w.heap.size + 1, 0, none⟩ (.int .u8 (a : Int))).setCell ⟨w.heap.size + 1, 1, none⟩ (.int .u32 (b : Int))).setCell ⟨w.heap.size + 1, 2, none⟩ (.int .u8 (k : Int))).setCell ⟨w.heap.size + 1, 3, none⟩ (.string ⟨s.toArray⟩)).setCell ⟨w.heap.size + 1, 4, none⟩ (.string ⟨t.toArray⟩)).setCell ⟨w.heap.size + 1, 5, none⟩ (.string ⟨u.toArray⟩)).setCell ⟨w.heap.size + 1, 6, none⟩ (.int .u8 (z : Int))).drew).cell? ⟨w.heap.size + 3, 1, none⟩ = some (.int .u32 (b : Int)) := Kc.drew.x.cell 1
      have t11 : ((((((((w8.setCell ⟨w.heap.size + 1, 0, none⟩ (.int .u8 (a : Int))).setCell ⟨w.heap.size + 1, 1, none⟩ (.int .u32 (b : Int))).setCell ⟨w.heap.size + 1, 2, none⟩ (.int .u8 (k : Int))).setCell ⟨w.heap.size + 1, 3, none⟩ (.string ⟨s.toArray⟩)).setCell ⟨w.heap.size + 1, 4, none⟩ (.string ⟨t.toArray⟩)).setCell ⟨w.heap.size + 1, 5, none⟩ (.string ⟨u.toArray⟩)).setCell ⟨w.heap.size + 1, 6, none⟩ (.int .u8 (z : Int))).drew).cell? ⟨w.heap.size + 3, 2, none⟩ = some (.int .u8 (k : Int)) := Kc.drew.x.cell 2
      have t12 : ((((((((w8.setCell ⟨w.heap.size + 1, 0, none⟩ (.int .u8 (a : Int))).setCell ⟨w.heap.size + 1, 1, none⟩ (.int .u32 (b : Int))).setCell ⟨w.heap.size + 1, 2, none⟩ (.int .u8 (k : Int))).setCell ⟨w.heap.size + 1, 3, none⟩ (.string ⟨s.toArray⟩)).setCell ⟨w.heap.size + 1, 4, none⟩ (.string ⟨t.toArray⟩)).setCell ⟨w.heap.size + 1, 5, none⟩ (.string ⟨u.toArray⟩)).setCell ⟨w.heap.size + 1, 6, none⟩ (.int .u8 (z : Int))).drew).cell? ⟨w.heap.size + 3, 3, none⟩ = some (.string ⟨s.toArray⟩) := Kc.drew.x.cell 3
      have t13 : ((((((((w8.setCell ⟨w.heap.size + 1, 0, none⟩ (.int .u8 (a : Int))).setCell ⟨w.heap.size + 1, 1, none⟩ (.int .u32 (b : Int))).setCell ⟨w.heap.size + 1, 2, none⟩ (.int .u8 (k : Int))).setCell ⟨w.heap.size + 1, 3, none⟩ (.string ⟨s.toArray⟩)).setCell ⟨w.heap.size + 1, 4, none⟩ (.string ⟨t.toArray⟩)).setCell ⟨w.heap.size + 1, 5, none⟩ (.string ⟨u.toArray⟩)).setCell ⟨w.heap.size + 1, 6, none⟩ (.int .u8 (z : Int))).drew).cell? ⟨w.heap.size + 3, 4, none⟩ = some (.string ⟨t.toArray⟩) := Kc.drew.x.cell 4
      have t14 : ((((((((w8.setCell ⟨w.heap.size + 1, 0, none⟩ (.int .u8 (a : Int))).setCell ⟨w.heap.size + 1, 1, none⟩ (.int .u32 (b : Int))).setCell ⟨w.heap.size + 1, 2, none⟩ (.int .u8 (k : Int))).setCell ⟨w.heap.size + 1, 3, none⟩ (.string ⟨s.toArray⟩)).setCell ⟨w.heap.size + 1, 4, none⟩ (.string ⟨t.toArray⟩)).setCell ⟨w.heap.size + 1, 5, none⟩ (.string ⟨u.toArray⟩)).setCell ⟨w.heap.size + 1, 6, none⟩ (.int .u8 (z : Int))).drew).cell? ⟨w.heap.size + 3, 5, none⟩ = some (.string ⟨u.toArray⟩) := Kc.drew.x.cell 5
      have t15 : ((((((((w8.setCell ⟨w.heap.size + 1, 0, none⟩ (.int .u8 (a : Int))).setCell ⟨w.heap.size + 1, 1, none⟩ (.int .u32 (b : Int))).setCell ⟨w.heap.size + 1, 2, none⟩ (.int .u8 (k : Int))).setCell ⟨w.heap.size + 1, 3, none⟩ (.string ⟨s.toArray⟩)).setCell ⟨w.heap.size + 1, 4, none⟩ (.string ⟨t.toArray⟩)).setCell ⟨w.heap.size + 1, 5, none⟩ (.string ⟨u.toArray⟩)).setCell ⟨w.heap.size + 1, 6, none⟩ (.int .u8 (z : Int))).drew).cell? ⟨w.heap.size + 3, 6, none⟩ = some (.int .u8 (z : Int)) := Kc.drew.x.cell 6
      have t16 : ((((((((w8.setCell ⟨w.heap.size + 1, 0, none⟩ (.int .u8 (a : Int))).setCell ⟨w.heap.size + 1, 1, none⟩ (.int .u32 (b : Int))).setCell ⟨w.heap.size + 1, 2, none⟩ (.int .u8 (k : Int))).setCell ⟨w.heap.size + 1, 3, none⟩ (.string ⟨s.toArray⟩)).setCell ⟨w.heap.size + 1, 4, none⟩ (.string ⟨t.toArray⟩)).setCell ⟨w.heap.size + 1, 5, none⟩ (.string ⟨u.toArray⟩)).setCell ⟨w.heap.size + 1, 6, none⟩ (.int .u8 (z : Int))).drew).cell? ⟨w.heap.size, 0, none⟩ = some (.string ⟨q7.s.toArray⟩) := Kc.drew.r.cell 0
      have t17 : ((((((((w8.setCell ⟨w.heap.size + 1, 0, none⟩ (.int .u8 (a : Int))).setCell ⟨w.heap.size + 1, 1, none⟩ (.int .u32 (b : Int))).setCell ⟨w.heap.size + 1, 2, none⟩ (.int .u8 (k : Int))).setCell ⟨w.heap.size + 1, 3, none⟩ (.string ⟨s.toArray⟩)).setCell ⟨w.heap.size + 1, 4, none⟩ (.string ⟨t.toArray⟩)).setCell ⟨w.heap.size + 1, 5, none⟩ (.string ⟨u.toArray⟩)).setCell ⟨w.heap.size + 1, 6, none⟩ (.int .u8 (z : Int))).drew).cell? ⟨w.heap.size, 1, none⟩ = some (.int .i64 (q7.e : Int)) := Kc.drew.r.cell 1
      have t18 : ((((((((w8.drew.setCell ⟨w.heap.size + 1, 0, none⟩ (.int .u8 (a : Int))).setCell ⟨w.heap.size + 1, 1, none⟩ (.int .u32 (b : Int))).setCell ⟨w.heap.size + 1, 2, none⟩ (.int .u8 (k : Int))).setCell ⟨w.heap.size + 1, 3, none⟩ (.string ⟨s.toArray⟩)).setCell ⟨w.heap.size + 1, 4, none⟩ (.string ⟨t.toArray⟩)).setCell ⟨w.heap.size + 1, 5, none⟩ (.string ⟨u.toArray⟩)).setCell ⟨w.heap.size + 1, 6, none⟩ (.int .u8 (z : Int)))).cell? ⟨w.heap.size + 3, 0, none⟩ = some (.int .u8 (a : Int)) := Ka.x.cell 0
      have t19 : ((((((((w8.drew.setCell ⟨w.heap.size + 1, 0, none⟩ (.int .u8 (a : Int))).setCell ⟨w.heap.size + 1, 1, none⟩ (.int .u32 (b : Int))).setCell ⟨w.heap.size + 1, 2, none⟩ (.int .u8 (k : Int))).setCell ⟨w.heap.size + 1, 3, none⟩ (.string ⟨s.toArray⟩)).setCell ⟨w.heap.size + 1, 4, none⟩ (.string ⟨t.toArray⟩)).setCell ⟨w.heap.size + 1, 5, none⟩ (.string ⟨u.toArray⟩)).setCell ⟨w.heap.size + 1, 6, none⟩ (.int .u8 (z : Int)))).cell? ⟨w.heap.size + 3, 1, none⟩ = some (.int .u32 (b : Int)) := Ka.x.cell 1
      have t20 : ((((((((w8.drew.setCell ⟨w.heap.size + 1, 0, none⟩ (.int .u8 (a : Int))).setCell ⟨w.heap.size + 1, 1, none⟩ (.int .u32 (b : Int))).setCell ⟨w.heap.size + 1, 2, none⟩ (.int .u8 (k : Int))).setCell ⟨w.heap.size + 1, 3, none⟩ (.string ⟨s.toArray⟩)).setCell ⟨w.heap.size + 1, 4, none⟩ (.string ⟨t.toArray⟩)).setCell ⟨w.heap.size + 1, 5, none⟩ (.string ⟨u.toArray⟩)).setCell ⟨w.heap.size + 1, 6, none⟩ (.int .u8 (z : Int)))).cell? ⟨w.heap.size + 3, 2, none⟩ = some (.int .u8 (k : Int)) := Ka.x.cell 2
      have t21 : ((((((((w8.drew.setCell ⟨w.heap.size + 1, 0, none⟩ (.int .u8 (a : Int))).setCell ⟨w.heap.size + 1, 1, none⟩ (.int .u32 (b : Int))).setCell ⟨w.heap.size + 1, 2, none⟩ (.int .u8 (k : Int))).setCell ⟨w.heap.size + 1, 3, none⟩ (.string ⟨s.toArray⟩)).setCell ⟨w.heap.size + 1, 4, none⟩ (.string ⟨t.toArray⟩)).setCell ⟨w.heap.size + 1, 5, none⟩ (.string ⟨u.toArray⟩)).setCell ⟨w.heap.size + 1, 6, none⟩ (.int .u8 (z : Int)))).cell? ⟨w.heap.size + 3, 3, none⟩ = some (.string ⟨s.toArray⟩) := Ka.x.cell 3
      have t22 : ((((((((w8.drew.setCell ⟨w.heap.size + 1, 0, none⟩ (.int .u8 (a : Int))).setCell ⟨w.heap.size + 1, 1, none⟩ (.int .u32 (b : Int))).setCell ⟨w.heap.size + 1, 2, none⟩ (.int .u8 (k : Int))).setCell ⟨w.heap.size + 1, 3, none⟩ (.string ⟨s.toArray⟩)).setCell ⟨w.heap.size + 1, 4, none⟩ (.string ⟨t.toArray⟩)).setCell ⟨w.heap.size + 1, 5, none⟩ (.string ⟨u.toArray⟩)).setCell ⟨w.heap.size + 1, 6, none⟩ (.int .u8 (z : Int)))).cell? ⟨w.heap.size + 3, 4, none⟩ = some (.string ⟨t.toArray⟩) := Ka.x.cell 4
      have t23 : ((((((((w8.drew.setCell ⟨w.heap.size + 1, 0, none⟩ (.int .u8 (a : Int))).setCell ⟨w.heap.size + 1, 1, none⟩ (.int .u32 (b : Int))).setCell ⟨w.heap.size + 1, 2, none⟩ (.int .u8 (k : Int))).setCell ⟨w.heap.size + 1, 3, none⟩ (.string ⟨s.toArray⟩)).setCell ⟨w.heap.size + 1, 4, none⟩ (.string ⟨t.toArray⟩)).setCell ⟨w.heap.size + 1, 5, none⟩ (.string ⟨u.toArray⟩)).setCell ⟨w.heap.size + 1, 6, none⟩ (.int .u8 (z : Int)))).cell? ⟨w.heap.size + 3, 5, none⟩ = some (.string ⟨u.toArray⟩) := Ka.x.cell 5
      have t24 : ((((((((w8.drew.setCell ⟨w.heap.size + 1, 0, none⟩ (.int .u8 (a : Int))).setCell ⟨w.heap.size + 1, 1, none⟩ (.int .u32 (b : Int))).setCell ⟨w.heap.size + 1, 2, none⟩ (.int .u8 (k : Int))).setCell ⟨w.heap.size + 1, 3, none⟩ (.string ⟨s.toArray⟩)).setCell ⟨w.heap.size + 1, 4, none⟩ (.string ⟨t.toArray⟩)).setCell ⟨w.heap.size + 1, 5, none⟩ (.string ⟨u.toArray⟩)).setCell ⟨w.heap.size + 1, 6, none⟩ (.int .u8 (z : Int)))).cell? ⟨w.heap.size + 3, 6, none⟩ = some (.int .u8 (z : Int)) := Ka.x.cell 6
      have t25 : ((((((((w8.drew.setCell ⟨w.heap.size + 1, 0, none⟩ (.int .u8 (a : Int))).setCell ⟨w.heap.size + 1, 1, none⟩ (.int .u32 (b : Int))).setCell ⟨w.heap.size + 1, 2, none⟩ (.int .u8 (k : Int))).setCell ⟨w.heap.size + 1, 3, none⟩ (.string ⟨s.toArray⟩)).setCell ⟨w.heap.size + 1, 4, none⟩ (.string ⟨t.toArray⟩)).setCell ⟨w.heap.size + 1, 5, none⟩ (.string ⟨u.toArray⟩)).setCell ⟨w.heap.size + 1, 6, none⟩ (.int .u8 (z : Int)))).cell? ⟨w.heap.size, 0, none⟩ = some (.string ⟨q7.s.toArray⟩) := Ka.r.cell 0
      have t26 : ((((((((w8.drew.setCell ⟨w.heap.size + 1, 0, none⟩ (.int .u8 (a : Int))).setCell ⟨w.heap.size + 1, 1, none⟩ (.int .u32 (b : Int))).setCell ⟨w.heap.size + 1, 2, none⟩ (.int .u8 (k : Int))).setCell ⟨w.heap.size + 1, 3, none⟩ (.string ⟨s.toArray⟩)).setCell ⟨w.heap.size + 1, 4, none⟩ (.string ⟨t.toArray⟩)).setCell ⟨w.heap.size + 1, 5, none⟩ (.string ⟨u.toArray⟩)).setCell ⟨w.heap.size + 1, 6, none⟩ (.int .u8 (z : Int)))).cell? ⟨w.heap.size, 1, none⟩ = some (.int .i64 (q7.e : Int)) := Ka.r.cell 1
      have t27 : ((((((((((w8.setCell ⟨w.heap.size + 1, 0, none⟩ (.int .u8 (a : Int))).setCell ⟨w.heap.size + 1, 1, none⟩ (.int .u32 (b : Int))).setCell ⟨w.heap.size + 1, 2, none⟩ (.int .u8 (k : Int))).setCell ⟨w.heap.size + 1, 3, none⟩ (.string ⟨s.toArray⟩)).setCell ⟨w.heap.size + 1, 4, none⟩ (.string ⟨t.toArray⟩)).setCell ⟨w.heap.size + 1, 5, none⟩ (.string ⟨u.toArray⟩)).setCell ⟨w.heap.size + 1, 6, none⟩ (.int .u8 (z : Int))).setCell ⟨w.heap.size + 1 + 1, 0, none⟩ (.string ⟨q7.s.toArray⟩)).setCell ⟨w.heap.size + 1 + 1, 1, none⟩ (.int .i64 (q7.e : Int))).drew).cell? ⟨w.heap.size + 3, 0, none⟩ = some (.int .u8 (a : Int)) := Kd.drew.x.cell 0
      have t28 : ((((((((((w8.setCell ⟨w.heap.size + 1, 0, none⟩ (.int .u8 (a : Int))).setCell ⟨w.heap.size + 1, 1, none⟩ (.int .u32 (b : Int))).setCell ⟨w.heap.size + 1, 2, none⟩ (.int .u8 (k : Int))).setCell ⟨w.heap.size + 1, 3, none⟩ (.string ⟨s.toArray⟩)).setCell ⟨w.heap.size + 1, 4, none⟩ (.string ⟨t.toArray⟩)).setCell ⟨w.heap.size + 1, 5, none⟩ (.string ⟨u.toArray⟩)).setCell ⟨w.heap.size + 1, 6, none⟩ (.int .u8 (z : Int))).setCell ⟨w.heap.size + 1 + 1, 0, none⟩ (.string ⟨q7.s.toArray⟩)).setCell ⟨w.heap.size + 1 + 1, 1, none⟩ (.int .i64 (q7.e : Int))).drew).cell? ⟨w.heap.size + 3, 1, none⟩ = some (.int .u32 (b : Int)) := Kd.drew.x.cell 1
      have t29 : ((((((((((w8.setCell ⟨w.heap.size + 1, 0, none⟩ (.int .u8 (a : Int))).setCell ⟨w.heap.size + 1, 1, none⟩ (.int .u32 (b : Int))).setCell ⟨w.heap.size + 1, 2, none⟩ (.int .u8 (k : Int))).setCell ⟨w.heap.size + 1, 3, none⟩ (.string ⟨s.toArray⟩)).setCell ⟨w.heap.size + 1, 4, none⟩ (.string ⟨t.toArray⟩)).setCell ⟨w.heap.size + 1, 5, none⟩ (.string ⟨u.toArray⟩)).setCell ⟨w.heap.size + 1, 6, none⟩ (.int .u8 (z : Int))).setCell ⟨w.heap.size + 1 + 1, 0, none⟩ (.string ⟨q7.s.toArray⟩)).setCell ⟨w.heap.size + 1 + 1, 1, none⟩ (.int .i64 (q7.e : Int))).drew).cell? ⟨w.heap.size + 3, 2, none⟩ = some (.int .u8 (k : Int)) := Kd.drew.x.cell 2
      have t30 : ((((((((((w8.setCell ⟨w.heap.size + 1, 0, none⟩ (.int .u8 (a : Int))).setCell ⟨w.heap.size + 1, 1, none⟩ (.int .u32 (b : Int))).setCell ⟨w.heap.size + 1, 2, none⟩ (.int .u8 (k : Int))).setCell ⟨w.heap.size + 1, 3, none⟩ (.string ⟨s.toArray⟩)).setCell ⟨w.heap.size + 1, 4, none⟩ (.string ⟨t.toArray⟩)).setCell ⟨w.heap.size + 1, 5, none⟩ (.string ⟨u.toArray⟩)).setCell ⟨w.heap.size + 1, 6, none⟩ (.int .u8 (z : Int))).setCell ⟨w.heap.size + 1 + 1, 0, none⟩ (.string ⟨q7.s.toArray⟩)).setCell ⟨w.heap.size + 1 + 1, 1, none⟩ (.int .i64 (q7.e : Int))).drew).cell? ⟨w.heap.size + 3, 3, none⟩ = some (.string ⟨s.toArray⟩) := Kd.drew.x.cell 3
      have t31 : ((((((((((w8.setCell ⟨w.heap.size + 1, 0, none⟩ (.int .u8 (a : Int))).setCell ⟨w.heap.size + 1, 1, none⟩ (.int .u32 (b : Int))).setCell ⟨w.heap.size + 1, 2, none⟩ (.int .u8 (k : Int))).setCell ⟨w.heap.size + 1, 3, none⟩ (.string ⟨s.toArray⟩)).setCell ⟨w.heap.size + 1, 4, none⟩ (.string ⟨t.toArray⟩)).setCell ⟨w.heap.size + 1, 5, none⟩ (.string ⟨u.toArray⟩)).setCell ⟨w.heap.size + 1, 6, none⟩ (.int .u8 (z : Int))).setCell ⟨w.heap.size + 1 + 1, 0, none⟩ (.string ⟨q7.s.toArray⟩)).setCell ⟨w.heap.size + 1 + 1, 1, none⟩ (.int .i64 (q7.e : Int))).drew).cell? ⟨w.heap.size + 3, 4, none⟩ = some (.string ⟨t.toArray⟩) := Kd.drew.x.cell 4
      have t32 : ((((((((((w8.setCell ⟨w.heap.size + 1, 0, none⟩ (.int .u8 (a : Int))).setCell ⟨w.heap.size + 1, 1, none⟩ (.int .u32 (b : Int))).setCell ⟨w.heap.size + 1, 2, none⟩ (.int .u8 (k : Int))).setCell ⟨w.heap.size + 1, 3, none⟩ (.string ⟨s.toArray⟩)).setCell ⟨w.heap.size + 1, 4, none⟩ (.string ⟨t.toArray⟩)).setCell ⟨w.heap.size + 1, 5, none⟩ (.string ⟨u.toArray⟩)).setCell ⟨w.heap.size + 1, 6, none⟩ (.int .u8 (z : Int))).setCell ⟨w.heap.size + 1 + 1, 0, none⟩ (.string ⟨q7.s.toArray⟩)).setCell ⟨w.heap.size + 1 + 1, 1, none⟩ (.int .i64 (q7.e : Int))).drew).cell? ⟨w.heap.size + 3, 5, none⟩ = some (.string ⟨u.toArray⟩) := Kd.drew.x.cell 5
      have t33 : ((((((((((w8.setCell ⟨w.heap.size + 1, 0, none⟩ (.int .u8 (a : Int))).setCell ⟨w.heap.size + 1, 1, none⟩ (.int .u32 (b : Int))).setCell ⟨w.heap.size + 1, 2, none⟩ (.int .u8 (k : Int))).setCell ⟨w.heap.size + 1, 3, none⟩ (.string ⟨s.toArray⟩)).setCell ⟨w.heap.size + 1, 4, none⟩ (.string ⟨t.toArray⟩)).setCell ⟨w.heap.size + 1, 5, none⟩ (.string ⟨u.toArray⟩)).setCell ⟨w.heap.size + 1, 6, none⟩ (.int .u8 (z : Int))).setCell ⟨w.heap.size + 1 + 1, 0, none⟩ (.string ⟨q7.s.toArray⟩)).setCell ⟨w.heap.size + 1 + 1, 1, none⟩ (.int .i64 (q7.e : Int))).drew).cell? ⟨w.heap.size + 3, 6, none⟩ = some (.int .u8 (z : Int)) := Kd.drew.x.cell 6
      have t34 : ((((((((((w8.setCell ⟨w.heap.size + 1, 0, none⟩ (.int .u8 (a : Int))).setCell ⟨w.heap.size + 1, 1, none⟩ (.int .u32 (b : Int))).setCell ⟨w.heap.size + 1, 2, none⟩ (.int .u8 (k : Int))).setCell ⟨w.heap.size + 1, 3, none⟩ (.string ⟨s.toArray⟩)).setCell ⟨w.heap.size + 1, 4, none⟩ (.string ⟨t.toArray⟩)).setCell ⟨w.heap.size + 1, 5, none⟩ (.string ⟨u.toArray⟩)).setCell ⟨w.heap.size + 1, 6, none⟩ (.int .u8 (z : Int))).setCell ⟨w.heap.size + 1 + 1, 0, none⟩ (.string ⟨q7.s.toArray⟩)).setCell ⟨w.heap.size + 1 + 1, 1, none⟩ (.int .i64 (q7.e : Int))).drew).cell? ⟨w.heap.size, 0, none⟩ = some (.string ⟨q7.s.toArray⟩) := Kd.drew.r.cell 0
      have t35 : ((((((((((w8.setCell ⟨w.heap.size + 1, 0, none⟩ (.int .u8 (a : Int))).setCell ⟨w.heap.size + 1, 1, none⟩ (.int .u32 (b : Int))).setCell ⟨w.heap.size + 1, 2, none⟩ (.int .u8 (k : Int))).setCell ⟨w.heap.size + 1, 3, none⟩ (.string ⟨s.toArray⟩)).setCell ⟨w.heap.size + 1, 4, none⟩ (.string ⟨t.toArray⟩)).setCell ⟨w.heap.size + 1, 5, none⟩ (.string ⟨u.toArray⟩)).setCell ⟨w.heap.size + 1, 6, none⟩ (.int .u8 (z : Int))).setCell ⟨w.heap.size + 1 + 1, 0, none⟩ (.string ⟨q7.s.toArray⟩)).setCell ⟨w.heap.size + 1 + 1, 1, none⟩ (.int .i64 (q7.e : Int))).drew).cell? ⟨w.heap.size, 1, none⟩ = some (.int .i64 (q7.e : Int)) := Kd.drew.r.cell 1
      have t36 : ((((((((((w8.drew.setCell ⟨w.heap.size + 1, 0, none⟩ (.int .u8 (a : Int))).setCell ⟨w.heap.size + 1, 1, none⟩ (.int .u32 (b : Int))).setCell ⟨w.heap.size + 1, 2, none⟩ (.int .u8 (k : Int))).setCell ⟨w.heap.size + 1, 3, none⟩ (.string ⟨s.toArray⟩)).setCell ⟨w.heap.size + 1, 4, none⟩ (.string ⟨t.toArray⟩)).setCell ⟨w.heap.size + 1, 5, none⟩ (.string ⟨u.toArray⟩)).setCell ⟨w.heap.size + 1, 6, none⟩ (.int .u8 (z : Int))).setCell ⟨w.heap.size + 1 + 1, 0, none⟩ (.string ⟨q7.s.toArray⟩)).setCell ⟨w.heap.size + 1 + 1, 1, none⟩ (.int .i64 (q7.e : Int)))).cell? ⟨w.heap.size + 3, 0, none⟩ = some (.int .u8 (a : Int)) := Kb.x.cell 0
      have t37 : ((((((((((w8.drew.setCell ⟨w.heap.size + 1, 0, none⟩ (.int .u8 (a : Int))).setCell ⟨w.heap.size + 1, 1, none⟩ (.int .u32 (b : Int))).setCell ⟨w.heap.size + 1, 2, none⟩ (.int .u8 (k : Int))).setCell ⟨w.heap.size + 1, 3, none⟩ (.string ⟨s.toArray⟩)).setCell ⟨w.heap.size + 1, 4, none⟩ (.string ⟨t.toArray⟩)).setCell ⟨w.heap.size + 1, 5, none⟩ (.string ⟨u.toArray⟩)).setCell ⟨w.heap.size + 1, 6, none⟩ (.int .u8 (z : Int))).setCell ⟨w.heap.size + 1 + 1, 0, none⟩ (.string ⟨q7.s.toArray⟩)).setCell ⟨w.heap.size + 1 + 1, 1, none⟩ (.int .i64 (q7.e : Int)))).cell? ⟨w.heap.size + 3, 1, none⟩ = some (.int .u32 (b : Int)) := Kb.x.cell 1
      have t38 : ((((((((((w8.drew.setCell ⟨w.heap.size + 1, 0, none⟩ (.int .u8 (a : Int))).setCell ⟨w.heap.size + 1, 1, none⟩ (.int .u32 (b : Int))).setCell ⟨w.heap.size + 1, 2, none⟩ (.int .u8 (k : Int))).setCell ⟨w.heap.size + 1, 3, none⟩ (.string ⟨s.toArray⟩)).setCell ⟨w.heap.size + 1, 4, none⟩ (.string ⟨t.toArray⟩)).setCell ⟨w.heap.size + 1, 5, none⟩ (.string ⟨u.toArray⟩)).setCell ⟨w.heap.size + 1, 6, none⟩ (.int .u8 (z : Int))).setCell ⟨w.heap.size + 1 + 1, 0, none⟩ (.string ⟨q7.s.toArray⟩)).setCell ⟨w.heap.size + 1 + 1, 1, none⟩ (.int .i64 (q7.e : Int)))).cell? ⟨w.heap.size + 3, 2, none⟩ = some (.int .u8 (k : Int)) := Kb.x.cell 2
      have t39 : ((((((((((w8.drew.setCell ⟨w.heap.size + 1, 0, none⟩ (.int .u8 (a : Int))).setCell ⟨w.heap.size + 1, 1, none⟩ (.int .u32 (b : Int))).setCell ⟨w.heap.size + 1, 2, none⟩ (.int .u8 (k : Int))).setCell ⟨w.heap.size + 1, 3, none⟩ (.string ⟨s.toArray⟩)).setCell ⟨w.heap.size + 1, 4, none⟩ (.string ⟨t.toArray⟩)).setCell ⟨w.heap.size + 1, 5, none⟩ (.string ⟨u.toArray⟩)).setCell ⟨w.heap.size + 1, 6, none⟩ (.int .u8 (z : Int))).setCell ⟨w.heap.size + 1 + 1, 0, none⟩ (.string ⟨q7.s.toArray⟩)).setCell ⟨w.heap.size + 1 + 1, 1, none⟩ (.int .i64 (q7.e : Int)))).cell? ⟨w.heap.size + 3, 3, none⟩ = some (.string ⟨s.toArray⟩) := Kb.x.cell 3
      have t40 : ((((((((((w8.drew.setCell ⟨w.heap.size + 1, 0, none⟩ (.int .u8 (a : Int))).setCell ⟨w.heap.size + 1, 1, none⟩ (.int .u32 (b : Int))).setCell ⟨w.heap.size + 1, 2, none⟩ (.int .u8 (k : Int))).setCell ⟨w.heap.size + 1, 3, none⟩ (.string ⟨s.toArray⟩)).setCell ⟨w.heap.size + 1, 4, none⟩ (.string ⟨t.toArray⟩)).setCell ⟨w.heap.size + 1, 5, none⟩ (.string ⟨u.toArray⟩)).setCell ⟨w.heap.size + 1, 6, none⟩ (.int .u8 (z : Int))).setCell ⟨w.heap.size + 1 + 1, 0, none⟩ (.string ⟨q7.s.toArray⟩)).setCell ⟨w.heap.size + 1 + 1, 1, none⟩ (.int .i64 (q7.e : Int)))).cell? ⟨w.heap.size + 3, 4, none⟩ = some (.string ⟨t.toArray⟩) := Kb.x.cell 4
      have t41 : ((((((((((w8.drew.setCell ⟨w.heap.size + 1, 0, none⟩ (.int .u8 (a : Int))).setCell ⟨w.heap.size + 1, 1, none⟩ (.int .u32 (b : Int))).setCell ⟨w.heap.size + 1, 2, none⟩ (.int .u8 (k : Int))).setCell ⟨w.heap.size + 1, 3, none⟩ (.string ⟨s.toArray⟩)).setCell ⟨w.heap.size + 1, 4, none⟩ (.string ⟨t.toArray⟩)).setCell ⟨w.heap.size + 1, 5, none⟩ (.string ⟨u.toArray⟩)).setCell ⟨w.heap.size + 1, 6, none⟩ (.int .u8 (z : Int))).setCell ⟨w.heap.size + 1 + 1, 0, none⟩ (.string ⟨q7.s.toArray⟩)).setCell ⟨w.heap.size + 1 + 1, 1, none⟩ (.int .i64 (q7.e : Int)))).cell? ⟨w.heap.size + 3, 5, none⟩ = some (.string ⟨u.toArray⟩) := Kb.x.cell 5
      have t42 : ((((((((((w8.drew.setCell ⟨w.heap.size + 1, 0, none⟩ (.int .u8 (a : Int))).setCell ⟨w.heap.size + 1, 1, none⟩ (.int .u32 (b : Int))).setCell ⟨w.heap.size + 1, 2, none⟩ (.int .u8 (k : Int))).setCell ⟨w.heap.size + 1, 3, none⟩ (.string ⟨s.toArray⟩)).setCell ⟨w.heap.size + 1, 4, none⟩ (.string ⟨t.toArray⟩)).setCell ⟨w.heap.size + 1, 5, none⟩ (.string ⟨u.toArray⟩)).setCell ⟨w.heap.size + 1, 6, none⟩ (.int .u8 (z : Int))).setCell ⟨w.heap.size + 1 + 1, 0, none⟩ (.string ⟨q7.s.toArray⟩)).setCell ⟨w.heap.size + 1 + 1, 1, none⟩ (.int .i64 (q7.e : Int)))).cell? ⟨w.heap.size + 3, 6, none⟩ = some (.int .u8 (z : Int)) := Kb.x.cell 6
      have t43 : ((((((((((w8.drew.setCell ⟨w.heap.size + 1, 0, none⟩ (.int .u8 (a : Int))).setCell ⟨w.heap.size + 1, 1, none⟩ (.int .u32 (b : Int))).setCell ⟨w.heap.size + 1, 2, none⟩ (.int .u8 (k : Int))).setCell ⟨w.heap.size + 1, 3, none⟩ (.string ⟨s.toArray⟩)).setCell ⟨w.heap.size + 1, 4, none⟩ (.string ⟨t.toArray⟩)).setCell ⟨w.heap.size + 1, 5, none⟩ (.string ⟨u.toArray⟩)).setCell ⟨w.heap.size + 1, 6, none⟩ (.int .u8 (z : Int))).setCell ⟨w.heap.size + 1 + 1, 0, none⟩ (.string ⟨q7.s.toArray⟩)).setCell ⟨w.heap.size + 1 + 1, 1, none⟩ (.int .i64 (q7.e : Int)))).cell? ⟨w.heap.size, 0, none⟩ = some (.string ⟨q7.s.toArray⟩) := Kb.r.cell 0
      have t44 : ((((((((((w8.drew.setCell ⟨w.heap.size + 1, 0, none⟩ (.int .u8 (a : Int))).setCell ⟨w.heap.size + 1, 1, none⟩ (.int .u32 (b : Int))).setCell ⟨w.heap.size + 1, 2, none⟩ (.int .u8 (k : Int))).setCell ⟨w.heap.size + 1, 3, none⟩ (.string ⟨s.toArray⟩)).setCell ⟨w.heap.size + 1, 4, none⟩ (.string ⟨t.toArray⟩)).setCell ⟨w.heap.size + 1, 5, none⟩ (.string ⟨u.toArray⟩)).setCell ⟨w.heap.size + 1, 6, none⟩ (.int .u8 (z : Int))).setCell ⟨w.heap.size + 1 + 1, 0, none⟩ (.string ⟨q7.s.toArray⟩)).setCell ⟨w.heap.size + 1 + 1, 1, none⟩ (.int .i64 (q7.e : Int)))).cell? ⟨w.heap.size, 1, none⟩ = some (.int .i64 (q7.e : Int)) := Kb.r.cell 1
      go_region_held3 (fun W : World => W.cell? ⟨w.heap.size + 3, 0, none⟩ = some (.int .u8 (a : Int)) ∧ W.cell? ⟨w.heap.size + 3, 1, none⟩ = some (.int .u32 (b : Int)) ∧ W.cell? ⟨w.heap.size + 3, 2, none⟩ = some (.int .u8 (k : Int)) ∧ W.cell? ⟨w.heap.size + 3, 3, none⟩ = some (.string ⟨s.toArray⟩) ∧ W.cell? ⟨w.heap.size + 3, 4, none⟩ = some (.string ⟨t.toArray⟩) ∧ W.cell? ⟨w.heap.size + 3, 5, none⟩ = some (.string ⟨u.toArray⟩) ∧ W.cell? ⟨w.heap.size + 3, 6, none⟩ = some (.int .u8 (z : Int)) ∧ W.cell? ⟨w.heap.size, 0, none⟩ = some (.string ⟨q7.s.toArray⟩) ∧ W.cell? ⟨w.heap.size, 1, none⟩ = some (.int .i64 (q7.e : Int))) (first | go_keep | exact ⟨t0, t1, t2, t3, t4, t5, t6, t7, t8⟩ | exact ⟨t9, t10, t11, t12, t13, t14, t15, t16, t17⟩ | exact ⟨t18, t19, t20, t21, t22, t23, t24, t25, t26⟩ | exact ⟨t27, t28, t29, t30, t31, t32, t33, t34, t35⟩ | exact ⟨t36, t37, t38, t39, t40, t41, t42, t43, t44⟩ | exact ⟨K.x.cell 0, K.x.cell 1, K.x.cell 2, K.x.cell 3, K.x.cell 4, K.x.cell 5, K.x.cell 6, K.r.cell 0, K.r.cell 1⟩ | exact ⟨K3.x.cell 0, K3.x.cell 1, K3.x.cell 2, K3.x.cell 3, K3.x.cell 4, K3.x.cell 5, K3.x.cell 6, K3.r.cell 0, K3.r.cell 1⟩ | exact ⟨Ka.x.cell 0, Ka.x.cell 1, Ka.x.cell 2, Ka.x.cell 3, Ka.x.cell 4, Ka.x.cell 5, Ka.x.cell 6, Ka.r.cell 0, Ka.r.cell 1⟩ | exact ⟨Kb.x.cell 0, Kb.x.cell 1, Kb.x.cell 2, Kb.x.cell 3, Kb.x.cell 4, Kb.x.cell 5, Kb.x.cell 6, Kb.r.cell 0, Kb.r.cell 1⟩ | exact ⟨Kc.x.cell 0, Kc.x.cell 1, Kc.x.cell 2, Kc.x.cell 3, Kc.x.cell 4, Kc.x.cell 5, Kc.x.cell 6, Kc.r.cell 0, Kc.r.cell 1⟩ | exact ⟨Kc.drew.x.cell 0, Kc.drew.x.cell 1, Kc.drew.x.cell 2, Kc.drew.x.cell 3, Kc.drew.x.cell 4, Kc.drew.x.cell 5, Kc.drew.x.cell 6, Kc.drew.r.cell 0, Kc.drew.r.cell 1⟩ | exact ⟨Kd.x.cell 0, Kd.x.cell 1, Kd.x.cell 2, Kd.x.cell 3, Kd.x.cell 4, Kd.x.cell 5, Kd.x.cell 6, Kd.r.cell 0, Kd.r.cell 1⟩ | exact ⟨Kd.drew.x.cell 0, Kd.drew.x.cell 1, Kd.drew.x.cell 2, Kd.drew.x.cell 3, Kd.drew.x.cell 4, Kd.drew.x.cell 5, Kd.drew.x.cell 6, Kd.drew.r.cell 0, Kd.drew.r.cell 1⟩) (fail)
      have z0 : (((((((((((w8.setCell ⟨w.heap.size + 1, 0, none⟩ (.int .u8 (a : Int))).setCell ⟨w.heap.size + 1, 1, none⟩ (.int .u32 (b : Int))).setCell ⟨w.heap.size + 1, 2, none⟩ (.int .u8 (k : Int))).setCell ⟨w.heap.size + 1, 3, none⟩ (.string ⟨s.toArray⟩)).setCell ⟨w.heap.size + 1, 4, none⟩ (.string ⟨t.toArray⟩)).setCell ⟨w.heap.size + 1, 5, none⟩ (.string ⟨u.toArray⟩)).setCell ⟨w.heap.size + 1, 6, none⟩ (.int .u8 (z : Int))).setCell ⟨w.heap.size + 1 + 1, 0, none⟩ (.string ⟨q7.s.toArray⟩)).setCell ⟨w.heap.size + 1 + 1, 1, none⟩ (.int .i64 (q7.e : Int)))).drew).cell? ⟨w.heap.size + 1, 0, none⟩ = some (.int .u8 (a : Int)) := Kd.drew.z.cell 0
      have z1 : (((((((((((w8.setCell ⟨w.heap.size + 1, 0, none⟩ (.int .u8 (a : Int))).setCell ⟨w.heap.size + 1, 1, none⟩ (.int .u32 (b : Int))).setCell ⟨w.heap.size + 1, 2, none⟩ (.int .u8 (k : Int))).setCell ⟨w.heap.size + 1, 3, none⟩ (.string ⟨s.toArray⟩)).setCell ⟨w.heap.size + 1, 4, none⟩ (.string ⟨t.toArray⟩)).setCell ⟨w.heap.size + 1, 5, none⟩ (.string ⟨u.toArray⟩)).setCell ⟨w.heap.size + 1, 6, none⟩ (.int .u8 (z : Int))).setCell ⟨w.heap.size + 1 + 1, 0, none⟩ (.string ⟨q7.s.toArray⟩)).setCell ⟨w.heap.size + 1 + 1, 1, none⟩ (.int .i64 (q7.e : Int)))).drew).cell? ⟨w.heap.size + 1, 1, none⟩ = some (.int .u32 (b : Int)) := Kd.drew.z.cell 1
      have z2 : (((((((((((w8.setCell ⟨w.heap.size + 1, 0, none⟩ (.int .u8 (a : Int))).setCell ⟨w.heap.size + 1, 1, none⟩ (.int .u32 (b : Int))).setCell ⟨w.heap.size + 1, 2, none⟩ (.int .u8 (k : Int))).setCell ⟨w.heap.size + 1, 3, none⟩ (.string ⟨s.toArray⟩)).setCell ⟨w.heap.size + 1, 4, none⟩ (.string ⟨t.toArray⟩)).setCell ⟨w.heap.size + 1, 5, none⟩ (.string ⟨u.toArray⟩)).setCell ⟨w.heap.size + 1, 6, none⟩ (.int .u8 (z : Int))).setCell ⟨w.heap.size + 1 + 1, 0, none⟩ (.string ⟨q7.s.toArray⟩)).setCell ⟨w.heap.size + 1 + 1, 1, none⟩ (.int .i64 (q7.e : Int)))).drew).cell? ⟨w.heap.size + 1, 2, none⟩ = some (.int .u8 (k : Int)) := Kd.drew.z.cell 2
      have z3 : (((((((((((w8.setCell ⟨w.heap.size + 1, 0, none⟩ (.int .u8 (a : Int))).setCell ⟨w.heap.size + 1, 1, none⟩ (.int .u32 (b : Int))).setCell ⟨w.heap.size + 1, 2, none⟩ (.int .u8 (k : Int))).setCell ⟨w.heap.size + 1, 3, none⟩ (.string ⟨s.toArray⟩)).setCell ⟨w.heap.size + 1, 4, none⟩ (.string ⟨t.toArray⟩)).setCell ⟨w.heap.size + 1, 5, none⟩ (.string ⟨u.toArray⟩)).setCell ⟨w.heap.size + 1, 6, none⟩ (.int .u8 (z : Int))).setCell ⟨w.heap.size + 1 + 1, 0, none⟩ (.string ⟨q7.s.toArray⟩)).setCell ⟨w.heap.size + 1 + 1, 1, none⟩ (.int .i64 (q7.e : Int)))).drew).cell? ⟨w.heap.size + 1, 3, none⟩ = some (.string ⟨s.toArray⟩) := Kd.drew.z.cell 3
      have z4 : (((((((((((w8.setCell ⟨w.heap.size + 1, 0, none⟩ (.int .u8 (a : Int))).setCell ⟨w.heap.size + 1, 1, none⟩ (.int .u32 (b : Int))).setCell ⟨w.heap.size + 1, 2, none⟩ (.int .u8 (k : Int))).setCell ⟨w.heap.size + 1, 3, none⟩ (.string ⟨s.toArray⟩)).setCell ⟨w.heap.size + 1, 4, none⟩ (.string ⟨t.toArray⟩)).setCell ⟨w.heap.size + 1, 5, none⟩ (.string ⟨u.toArray⟩)).setCell ⟨w.heap.size + 1, 6, none⟩ (.int .u8 (z : Int))).setCell ⟨w.heap.size + 1 + 1, 0, none⟩ (.string ⟨q7.s.toArray⟩)).setCell ⟨w.heap.size + 1 + 1, 1, none⟩ (.int .i64 (q7.e : Int)))).drew).cell? ⟨w.heap.size + 1, 4, none⟩ = some (.string ⟨t.toArray⟩) := Kd.drew.z.cell 4
      have z5 : (((((((((((w8.setCell ⟨w.heap.size + 1, 0, none⟩ (.int .u8 (a : Int))).setCell ⟨w.heap.size + 1, 1, none⟩ (.int .u32 (b : Int))).setCell ⟨w.heap.size + 1, 2, none⟩ (.int .u8 (k : Int))).setCell ⟨w.heap.size + 1, 3, none⟩ (.string ⟨s.toArray⟩)).setCell ⟨w.heap.size + 1, 4, none⟩ (.string ⟨t.toArray⟩)).setCell ⟨w.heap.size + 1, 5, none⟩ (.string ⟨u.toArray⟩)).setCell ⟨w.heap.size + 1, 6, none⟩ (.int .u8 (z : Int))).setCell ⟨w.heap.size + 1 + 1, 0, none⟩ (.string ⟨q7.s.toArray⟩)).setCell ⟨w.heap.size + 1 + 1, 1, none⟩ (.int .i64 (q7.e : Int)))).drew).cell? ⟨w.heap.size + 1, 5, none⟩ = some (.string ⟨u.toArray⟩) := Kd.drew.z.cell 5
      have z6 : (((((((((((w8.setCell ⟨w.heap.size + 1, 0, none⟩ (.int .u8 (a : Int))).setCell ⟨w.heap.size + 1, 1, none⟩ (.int .u32 (b : Int))).setCell ⟨w.heap.size + 1, 2, none⟩ (.int .u8 (k : Int))).setCell ⟨w.heap.size + 1, 3, none⟩ (.string ⟨s.toArray⟩)).setCell ⟨w.heap.size + 1, 4, none⟩ (.string ⟨t.toArray⟩)).setCell ⟨w.heap.size + 1, 5, none⟩ (.string ⟨u.toArray⟩)).setCell ⟨w.heap.size + 1, 6, none⟩ (.int .u8 (z : Int))).setCell ⟨w.heap.size + 1 + 1, 0, none⟩ (.string ⟨q7.s.toArray⟩)).setCell ⟨w.heap.size + 1 + 1, 1, none⟩ (.int .i64 (q7.e : Int)))).drew).cell? ⟨w.heap.size + 1, 6, none⟩ = some (.int .u8 (z : Int)) := Kd.drew.z.cell 6
      have y0 : (((((((((((w8.setCell ⟨w.heap.size + 1, 0, none⟩ (.int .u8 (a : Int))).setCell ⟨w.heap.size + 1, 1, none⟩ (.int .u32 (b : Int))).setCell ⟨w.heap.size + 1, 2, none⟩ (.int .u8 (k : Int))).setCell ⟨w.heap.size + 1, 3, none⟩ (.string ⟨s.toArray⟩)).setCell ⟨w.heap.size + 1, 4, none⟩ (.string ⟨t.toArray⟩)).setCell ⟨w.heap.size + 1, 5, none⟩ (.string ⟨u.toArray⟩)).setCell ⟨w.heap.size + 1, 6, none⟩ (.int .u8 (z : Int))).setCell ⟨w.heap.size + 1 + 1, 0, none⟩ (.string ⟨q7.s.toArray⟩)).setCell ⟨w.heap.size + 1 + 1, 1, none⟩ (.int .i64 (q7.e : Int)))).drew).cell? ⟨w.heap.size + 1 + 1, 0, none⟩ = some (.string ⟨q7.s.toArray⟩) := Kd.drew.y.cell 0
      have y1 : (((((((((((w8.setCell ⟨w.heap.size + 1, 0, none⟩ (.int .u8 (a : Int))).setCell ⟨w.heap.size + 1, 1, none⟩ (.int .u32 (b : Int))).setCell ⟨w.heap.size + 1, 2, none⟩ (.int .u8 (k : Int))).setCell ⟨w.heap.size + 1, 3, none⟩ (.string ⟨s.toArray⟩)).setCell ⟨w.heap.size + 1, 4, none⟩ (.string ⟨t.toArray⟩)).setCell ⟨w.heap.size + 1, 5, none⟩ (.string ⟨u.toArray⟩)).setCell ⟨w.heap.size + 1, 6, none⟩ (.int .u8 (z : Int))).setCell ⟨w.heap.size + 1 + 1, 0, none⟩ (.string ⟨q7.s.toArray⟩)).setCell ⟨w.heap.size + 1 + 1, 1, none⟩ (.int .i64 (q7.e : Int)))).drew).cell? ⟨w.heap.size + 1 + 1, 1, none⟩ = some (.int .i64 (q7.e : Int)) := Kd.drew.y.cell 1
      have hbw := Kd.drew.bw
      generalize ((((((((((w8.setCell ⟨w.heap.size + 1, 0, none⟩ (.int .u8 (a : Int))).setCell ⟨w.heap.size + 1, 1, none⟩ (.int .u32 (b : Int))).setCell ⟨w.heap.size + 1, 2, none⟩ (.int .u8 (k : Int))).setCell ⟨w.heap.size + 1, 3, none⟩ (.string ⟨s.toArray⟩)).setCell ⟨w.heap.size + 1, 4, none⟩ (.string ⟨t.toArray⟩)).setCell ⟨w.heap.size + 1, 5, none⟩ (.string ⟨u.toArray⟩)).setCell ⟨w.heap.size + 1, 6, none⟩ (.int .u8 (z : Int))).setCell ⟨w.heap.size + 1 + 1, 0, none⟩ (.string ⟨q7.s.toArray⟩)).setCell ⟨w.heap.size + 1 + 1, 1, none⟩ (.int .i64 (q7.e : Int)))).drew = wf at *
      go_wp2_with fail
      rw [HP.out]
      refine bodyPost_ret (v := .tuple #[.agg #[.int .u8 (a : Int), .int .u32 (b : Int), .int .u8 (k : Int), .string ⟨s.toArray⟩, .string ⟨t.toArray⟩, .string ⟨u.toArray⟩, .int .u8 (z : Int)], .agg #[.string ⟨q7.s.toArray⟩, .int .i64 (q7.e : Int)]]) (by simp [results, Tryz.results100, go_sem, z0, z1, z2, z3, z4, z5, z6, y0, y1]) rfl ⟨rfl, hbw⟩
    · have ne : ((q7.e : Int) != 0) = true := by rw [bne_iff_ne]; omega
      have hp : p = (cm0, q7) := by rw [P.out]; simp [he]
      have HP := Lib.hid hp
      clear hp P he
      go_upto_region 13 with fail
      have K3 := K.drew
      have Ka := K3.setz (.int .u8 0) (.int .u32 0) (.int .u8 0) (.string ⟨#[]⟩) (.string ⟨#[]⟩) (.string ⟨#[]⟩) (.int .u8 0)
      have Kc := K.setz (.int .u8 0) (.int .u32 0) (.int .u8 0) (.string ⟨#[]⟩) (.string ⟨#[]⟩) (.string ⟨#[]⟩) (.int .u8 0)
      have Kd := Kc.sety (.string ⟨q7.s.toArray⟩) (.int .i64 (q7.e : Int))
      have Kb := Ka.sety (.string ⟨q7.s.toArray⟩) (.int .i64 (q7.e : Int))
      have zf0 := K.z.frozen 0
      have zf1 := K.z.frozen 1
      have zf2 := K.z.frozen 2
      have zf3 := K.z.frozen 3
      have zf4 := K.z.frozen 4
      have zf5 := K.z.frozen 5
      have zf6 := K.z.frozen 6
      have zc0 := K.z.cell 0
      have zc1 := K.z.cell 1
      have zc2 := K.z.cell 2
      have zc3 := K.z.cell 3
      have zc4 := K.z.cell 4
      have zc5 := K.z.cell 5
      have zc6 := K.z.cell 6
      have yf0 := K.y.frozen 0
      have yc0 := K.y.cell 0
      have yf1 := K.y.frozen 1
      have yc1 := K.y.cell 1
      simp at zc0 zc1 zc2 zc3 zc4 zc5 zc6 yc0 yc1
      have t0 : (w8.drew).cell? ⟨w.heap.size, 0, none⟩ = some (.string ⟨q7.s.toArray⟩) := K3.r.cell 0
      have t1 : (w8.drew).cell? ⟨w.heap.size, 1, none⟩ = some (.int .i64 (q7.e : Int)) := K3.r.cell 1
      have t2 : ((((((((w8.setCell ⟨w.heap.size + 1, 0, none⟩ (.int .u8 0)).setCell ⟨w.heap.size + 1, 1, none⟩ (.int .u32 0)).setCell ⟨w.heap.size + 1, 2, none⟩ (.int .u8 0)).setCell ⟨w.heap.size + 1, 3, none⟩ (.string ⟨#[]⟩)).setCell ⟨w.heap.size + 1, 4, none⟩ (.string ⟨#[]⟩)).setCell ⟨w.heap.size + 1, 5, none⟩ (.string ⟨#[]⟩)).setCell ⟨w.heap.size + 1, 6, none⟩ (.int .u8 0)).drew).cell? ⟨w.heap.size, 0, none⟩ = some (.string ⟨q7.s.toArray⟩) := Kc.drew.r.cell 0
      have t3 : ((((((((w8.setCell ⟨w.heap.size + 1, 0, none⟩ (.int .u8 0)).setCell ⟨w.heap.size + 1, 1, none⟩ (.int .u32 0)).setCell ⟨w.heap.size + 1, 2, none⟩ (.int .u8 0)).setCell ⟨w.heap.size + 1, 3, none⟩ (.string ⟨#[]⟩)).setCell ⟨w.heap.size + 1, 4, none⟩ (.string ⟨#[]⟩)).setCell ⟨w.heap.size + 1, 5, none⟩ (.string ⟨#[]⟩)).setCell ⟨w.heap.size + 1, 6, none⟩ (.int .u8 0)).drew).cell? ⟨w.heap.size, 1, none⟩ = some (.int .i64 (q7.e : Int)) := Kc.drew.r.cell 1
      have t4 : ((((((((w8.drew.setCell ⟨w.heap.size + 1, 0, none⟩ (.int .u8 0)).setCell ⟨w.heap.size + 1, 1, none⟩ (.int .u32 0)).setCell ⟨w.heap.size + 1, 2, none⟩ (.int .u8 0)).setCell ⟨w.heap.size + 1, 3, none⟩ (.string ⟨#[]⟩)).setCell ⟨w.heap.size + 1, 4, none⟩ (.string ⟨#[]⟩)).setCell ⟨w.heap.size + 1, 5, none⟩ (.string ⟨#[]⟩)).setCell ⟨w.heap.size + 1, 6, none⟩ (.int .u8 0))).cell? ⟨w.heap.size, 0, none⟩ = some (.string ⟨q7.s.toArray⟩) := Ka.r.cell 0
      have t5 : ((((((((w8.drew.setCell ⟨w.heap.size + 1, 0, none⟩ (.int .u8 0)).setCell ⟨w.heap.size + 1, 1, none⟩ (.int .u32 0)).setCell ⟨w.heap.size + 1, 2, none⟩ (.int .u8 0)).setCell ⟨w.heap.size + 1, 3, none⟩ (.string ⟨#[]⟩)).setCell ⟨w.heap.size + 1, 4, none⟩ (.string ⟨#[]⟩)).setCell ⟨w.heap.size + 1, 5, none⟩ (.string ⟨#[]⟩)).setCell ⟨w.heap.size + 1, 6, none⟩ (.int .u8 0))).cell? ⟨w.heap.size, 1, none⟩ = some (.int .i64 (q7.e : Int)) := Ka.r.cell 1
      have t6 : ((((((((((w8.setCell ⟨w.heap.size + 1, 0, none⟩ (.int .u8 0)).setCell ⟨w.heap.size + 1, 1, none⟩ (.int .u32 0)).setCell ⟨w.heap.size + 1, 2, none⟩ (.int .u8 0)).setCell ⟨w.heap.size + 1, 3, none⟩ (.string ⟨#[]⟩)).setCell ⟨w.heap.size + 1, 4, none⟩ (.string ⟨#[]⟩)).setCell ⟨w.heap.size + 1, 5, none⟩ (.string ⟨#[]⟩)).setCell ⟨w.heap.size + 1, 6, none⟩ (.int .u8 0)).setCell ⟨w.heap.size + 1 + 1, 0, none⟩ (.string ⟨q7.s.toArray⟩)).setCell ⟨w.heap.size + 1 + 1, 1, none⟩ (.int .i64 (q7.e : Int))).drew).cell? ⟨w.heap.size, 0, none⟩ = some (.string ⟨q7.s.toArray⟩) := Kd.drew.r.cell 0
      have t7 : ((((((((((w8.setCell ⟨w.heap.size + 1, 0, none⟩ (.int .u8 0)).setCell ⟨w.heap.size + 1, 1, none⟩ (.int .u32 0)).setCell ⟨w.heap.size + 1, 2, none⟩ (.int .u8 0)).setCell ⟨w.heap.size + 1, 3, none⟩ (.string ⟨#[]⟩)).setCell ⟨w.heap.size + 1, 4, none⟩ (.string ⟨#[]⟩)).setCell ⟨w.heap.size + 1, 5, none⟩ (.string ⟨#[]⟩)).setCell ⟨w.heap.size + 1, 6, none⟩ (.int .u8 0)).setCell ⟨w.heap.size + 1 + 1, 0, none⟩ (.string ⟨q7.s.toArray⟩)).setCell ⟨w.heap.size + 1 + 1, 1, none⟩ (.int .i64 (q7.e : Int))).drew).cell? ⟨w.heap.size, 1, none⟩ = some (.int .i64 (q7.e : Int)) := Kd.drew.r.cell 1
      have t8 : ((((((((((w8.drew.setCell ⟨w.heap.size + 1, 0, none⟩ (.int .u8 0)).setCell ⟨w.heap.size + 1, 1, none⟩ (.int .u32 0)).setCell ⟨w.heap.size + 1, 2, none⟩ (.int .u8 0)).setCell ⟨w.heap.size + 1, 3, none⟩ (.string ⟨#[]⟩)).setCell ⟨w.heap.size + 1, 4, none⟩ (.string ⟨#[]⟩)).setCell ⟨w.heap.size + 1, 5, none⟩ (.string ⟨#[]⟩)).setCell ⟨w.heap.size + 1, 6, none⟩ (.int .u8 0)).setCell ⟨w.heap.size + 1 + 1, 0, none⟩ (.string ⟨q7.s.toArray⟩)).setCell ⟨w.heap.size + 1 + 1, 1, none⟩ (.int .i64 (q7.e : Int)))).cell? ⟨w.heap.size, 0, none⟩ = some (.string ⟨q7.s.toArray⟩) := Kb.r.cell 0
      have t9 : ((((((((((w8.drew.setCell ⟨w.heap.size + 1, 0, none⟩ (.int .u8 0)).setCell ⟨w.heap.size + 1, 1, none⟩ (.int .u32 0)).setCell ⟨w.heap.size + 1, 2, none⟩ (.int .u8 0)).setCell ⟨w.heap.size + 1, 3, none⟩ (.string ⟨#[]⟩)).setCell ⟨w.heap.size + 1, 4, none⟩ (.string ⟨#[]⟩)).setCell ⟨w.heap.size + 1, 5, none⟩ (.string ⟨#[]⟩)).setCell ⟨w.heap.size + 1, 6, none⟩ (.int .u8 0)).setCell ⟨w.heap.size + 1 + 1, 0, none⟩ (.string ⟨q7.s.toArray⟩)).setCell ⟨w.heap.size + 1 + 1, 1, none⟩ (.int .i64 (q7.e : Int)))).cell? ⟨w.heap.size, 1, none⟩ = some (.int .i64 (q7.e : Int)) := Kb.r.cell 1
      go_region_held3 (fun W : World => W.cell? ⟨w.heap.size, 0, none⟩ = some (.string ⟨q7.s.toArray⟩) ∧ W.cell? ⟨w.heap.size, 1, none⟩ = some (.int .i64 (q7.e : Int))) (first | go_keep | exact ⟨t0, t1⟩ | exact ⟨t2, t3⟩ | exact ⟨t4, t5⟩ | exact ⟨t6, t7⟩ | exact ⟨t8, t9⟩ | exact ⟨K.r.cell 0, K.r.cell 1⟩ | exact ⟨K3.r.cell 0, K3.r.cell 1⟩ | exact ⟨Ka.r.cell 0, Ka.r.cell 1⟩ | exact ⟨Kb.r.cell 0, Kb.r.cell 1⟩ | exact ⟨Kc.r.cell 0, Kc.r.cell 1⟩ | exact ⟨Kc.drew.r.cell 0, Kc.drew.r.cell 1⟩ | exact ⟨Kd.r.cell 0, Kd.r.cell 1⟩ | exact ⟨Kd.drew.r.cell 0, Kd.drew.r.cell 1⟩) (fail)
      have z0 : (((((((((((w8.setCell ⟨w.heap.size + 1, 0, none⟩ (.int .u8 0)).setCell ⟨w.heap.size + 1, 1, none⟩ (.int .u32 0)).setCell ⟨w.heap.size + 1, 2, none⟩ (.int .u8 0)).setCell ⟨w.heap.size + 1, 3, none⟩ (.string ⟨#[]⟩)).setCell ⟨w.heap.size + 1, 4, none⟩ (.string ⟨#[]⟩)).setCell ⟨w.heap.size + 1, 5, none⟩ (.string ⟨#[]⟩)).setCell ⟨w.heap.size + 1, 6, none⟩ (.int .u8 0)).setCell ⟨w.heap.size + 1 + 1, 0, none⟩ (.string ⟨q7.s.toArray⟩)).setCell ⟨w.heap.size + 1 + 1, 1, none⟩ (.int .i64 (q7.e : Int)))).drew).cell? ⟨w.heap.size + 1, 0, none⟩ = some (.int .u8 0) := Kd.drew.z.cell 0
      have z1 : (((((((((((w8.setCell ⟨w.heap.size + 1, 0, none⟩ (.int .u8 0)).setCell ⟨w.heap.size + 1, 1, none⟩ (.int .u32 0)).setCell ⟨w.heap.size + 1, 2, none⟩ (.int .u8 0)).setCell ⟨w.heap.size + 1, 3, none⟩ (.string ⟨#[]⟩)).setCell ⟨w.heap.size + 1, 4, none⟩ (.string ⟨#[]⟩)).setCell ⟨w.heap.size + 1, 5, none⟩ (.string ⟨#[]⟩)).setCell ⟨w.heap.size + 1, 6, none⟩ (.int .u8 0)).setCell ⟨w.heap.size + 1 + 1, 0, none⟩ (.string ⟨q7.s.toArray⟩)).setCell ⟨w.heap.size + 1 + 1, 1, none⟩ (.int .i64 (q7.e : Int)))).drew).cell? ⟨w.heap.size + 1, 1, none⟩ = some (.int .u32 0) := Kd.drew.z.cell 1
      have z2 : (((((((((((w8.setCell ⟨w.heap.size + 1, 0, none⟩ (.int .u8 0)).setCell ⟨w.heap.size + 1, 1, none⟩ (.int .u32 0)).setCell ⟨w.heap.size + 1, 2, none⟩ (.int .u8 0)).setCell ⟨w.heap.size + 1, 3, none⟩ (.string ⟨#[]⟩)).setCell ⟨w.heap.size + 1, 4, none⟩ (.string ⟨#[]⟩)).setCell ⟨w.heap.size + 1, 5, none⟩ (.string ⟨#[]⟩)).setCell ⟨w.heap.size + 1, 6, none⟩ (.int .u8 0)).setCell ⟨w.heap.size + 1 + 1, 0, none⟩ (.string ⟨q7.s.toArray⟩)).setCell ⟨w.heap.size + 1 + 1, 1, none⟩ (.int .i64 (q7.e : Int)))).drew).cell? ⟨w.heap.size + 1, 2, none⟩ = some (.int .u8 0) := Kd.drew.z.cell 2
      have z3 : (((((((((((w8.setCell ⟨w.heap.size + 1, 0, none⟩ (.int .u8 0)).setCell ⟨w.heap.size + 1, 1, none⟩ (.int .u32 0)).setCell ⟨w.heap.size + 1, 2, none⟩ (.int .u8 0)).setCell ⟨w.heap.size + 1, 3, none⟩ (.string ⟨#[]⟩)).setCell ⟨w.heap.size + 1, 4, none⟩ (.string ⟨#[]⟩)).setCell ⟨w.heap.size + 1, 5, none⟩ (.string ⟨#[]⟩)).setCell ⟨w.heap.size + 1, 6, none⟩ (.int .u8 0)).setCell ⟨w.heap.size + 1 + 1, 0, none⟩ (.string ⟨q7.s.toArray⟩)).setCell ⟨w.heap.size + 1 + 1, 1, none⟩ (.int .i64 (q7.e : Int)))).drew).cell? ⟨w.heap.size + 1, 3, none⟩ = some (.string ⟨#[]⟩) := Kd.drew.z.cell 3
      have z4 : (((((((((((w8.setCell ⟨w.heap.size + 1, 0, none⟩ (.int .u8 0)).setCell ⟨w.heap.size + 1, 1, none⟩ (.int .u32 0)).setCell ⟨w.heap.size + 1, 2, none⟩ (.int .u8 0)).setCell ⟨w.heap.size + 1, 3, none⟩ (.string ⟨#[]⟩)).setCell ⟨w.heap.size + 1, 4, none⟩ (.string ⟨#[]⟩)).setCell ⟨w.heap.size + 1, 5, none⟩ (.string ⟨#[]⟩)).setCell ⟨w.heap.size + 1, 6, none⟩ (.int .u8 0)).setCell ⟨w.heap.size + 1 + 1, 0, none⟩ (.string ⟨q7.s.toArray⟩)).setCell ⟨w.heap.size + 1 + 1, 1, none⟩ (.int .i64 (q7.e : Int)))).drew).cell? ⟨w.heap.size + 1, 4, none⟩ = some (.string ⟨#[]⟩) := Kd.drew.z.cell 4
      have z5 : (((((((((((w8.setCell ⟨w.heap.size + 1, 0, none⟩ (.int .u8 0)).setCell ⟨w.heap.size + 1, 1, none⟩ (.int .u32 0)).setCell ⟨w.heap.size + 1, 2, none⟩ (.int .u8 0)).setCell ⟨w.heap.size + 1, 3, none⟩ (.string ⟨#[]⟩)).setCell ⟨w.heap.size + 1, 4, none⟩ (.string ⟨#[]⟩)).setCell ⟨w.heap.size + 1, 5, none⟩ (.string ⟨#[]⟩)).setCell ⟨w.heap.size + 1, 6, none⟩ (.int .u8 0)).setCell ⟨w.heap.size + 1 + 1, 0, none⟩ (.string ⟨q7.s.toArray⟩)).setCell ⟨w.heap.size + 1 + 1, 1, none⟩ (.int .i64 (q7.e : Int)))).drew).cell? ⟨w.heap.size + 1, 5, none⟩ = some (.string ⟨#[]⟩) := Kd.drew.z.cell 5
      have z6 : (((((((((((w8.setCell ⟨w.heap.size + 1, 0, none⟩ (.int .u8 0)).setCell ⟨w.heap.size + 1, 1, none⟩ (.int .u32 0)).setCell ⟨w.heap.size + 1, 2, none⟩ (.int .u8 0)).setCell ⟨w.heap.size + 1, 3, none⟩ (.string ⟨#[]⟩)).setCell ⟨w.heap.size + 1, 4, none⟩ (.string ⟨#[]⟩)).setCell ⟨w.heap.size + 1, 5, none⟩ (.string ⟨#[]⟩)).setCell ⟨w.heap.size + 1, 6, none⟩ (.int .u8 0)).setCell ⟨w.heap.size + 1 + 1, 0, none⟩ (.string ⟨q7.s.toArray⟩)).setCell ⟨w.heap.size + 1 + 1, 1, none⟩ (.int .i64 (q7.e : Int)))).drew).cell? ⟨w.heap.size + 1, 6, none⟩ = some (.int .u8 0) := Kd.drew.z.cell 6
      have y0 : (((((((((((w8.setCell ⟨w.heap.size + 1, 0, none⟩ (.int .u8 0)).setCell ⟨w.heap.size + 1, 1, none⟩ (.int .u32 0)).setCell ⟨w.heap.size + 1, 2, none⟩ (.int .u8 0)).setCell ⟨w.heap.size + 1, 3, none⟩ (.string ⟨#[]⟩)).setCell ⟨w.heap.size + 1, 4, none⟩ (.string ⟨#[]⟩)).setCell ⟨w.heap.size + 1, 5, none⟩ (.string ⟨#[]⟩)).setCell ⟨w.heap.size + 1, 6, none⟩ (.int .u8 0)).setCell ⟨w.heap.size + 1 + 1, 0, none⟩ (.string ⟨q7.s.toArray⟩)).setCell ⟨w.heap.size + 1 + 1, 1, none⟩ (.int .i64 (q7.e : Int)))).drew).cell? ⟨w.heap.size + 1 + 1, 0, none⟩ = some (.string ⟨q7.s.toArray⟩) := Kd.drew.y.cell 0
      have y1 : (((((((((((w8.setCell ⟨w.heap.size + 1, 0, none⟩ (.int .u8 0)).setCell ⟨w.heap.size + 1, 1, none⟩ (.int .u32 0)).setCell ⟨w.heap.size + 1, 2, none⟩ (.int .u8 0)).setCell ⟨w.heap.size + 1, 3, none⟩ (.string ⟨#[]⟩)).setCell ⟨w.heap.size + 1, 4, none⟩ (.string ⟨#[]⟩)).setCell ⟨w.heap.size + 1, 5, none⟩ (.string ⟨#[]⟩)).setCell ⟨w.heap.size + 1, 6, none⟩ (.int .u8 0)).setCell ⟨w.heap.size + 1 + 1, 0, none⟩ (.string ⟨q7.s.toArray⟩)).setCell ⟨w.heap.size + 1 + 1, 1, none⟩ (.int .i64 (q7.e : Int)))).drew).cell? ⟨w.heap.size + 1 + 1, 1, none⟩ = some (.int .i64 (q7.e : Int)) := Kd.drew.y.cell 1
      have hbw := Kd.drew.bw
      generalize ((((((((((w8.setCell ⟨w.heap.size + 1, 0, none⟩ (.int .u8 0)).setCell ⟨w.heap.size + 1, 1, none⟩ (.int .u32 0)).setCell ⟨w.heap.size + 1, 2, none⟩ (.int .u8 0)).setCell ⟨w.heap.size + 1, 3, none⟩ (.string ⟨#[]⟩)).setCell ⟨w.heap.size + 1, 4, none⟩ (.string ⟨#[]⟩)).setCell ⟨w.heap.size + 1, 5, none⟩ (.string ⟨#[]⟩)).setCell ⟨w.heap.size + 1, 6, none⟩ (.int .u8 0)).setCell ⟨w.heap.size + 1 + 1, 0, none⟩ (.string ⟨q7.s.toArray⟩)).setCell ⟨w.heap.size + 1 + 1, 1, none⟩ (.int .i64 (q7.e : Int)))).drew = wf at *
      go_wp2_with fail
      rw [HP.out]
      refine bodyPost_ret (v := .tuple #[.agg #[.int .u8 0, .int .u32 0, .int .u8 0, .string ⟨#[]⟩, .string ⟨#[]⟩, .string ⟨#[]⟩, .int .u8 0], .agg #[.string ⟨q7.s.toArray⟩, .int .i64 (q7.e : Int)]]) (by simp [results, Tryz.results100, go_sem, z0, z1, z2, z3, z4, z5, z6, y0, y1]) rfl ⟨rfl, hbw⟩
end Go.Proofs.YteiaiilfekojfaaGreat.Cmd
