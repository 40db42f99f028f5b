/- The document's Take, walked. Conditions: the bytes are at most 1,000,000. -/
import Derived.Test.YteiaiilfekojfaaGreatQNetOrderCmdTake
import Derived.Test.YteiaiilfekojfaaGreatQNetOrderCmdCheck
import Derived.Test.YteiaiilfekojfaaGreatQNetOrderWireDocStr
namespace Go.Proofs.YteiaiilfekojfaaGreat.Cmd
open Go.RowKit Wire

/-- Where a walk of the document's Take stands: the reader's box, the two results, the command's cells. -/
structure Tq (w : World) (q : Dr) (w1 : World) (cs zs ys : Array Value) : Prop where
  bw : Below w.heap.size w w1
  r : Blk w1 w.heap.size 121 (drC q)
  z : Blk w1 (w.heap.size + 1) 29 zs
  y : Blk w1 (w.heap.size + 2) 121 ys
  x : Blk w1 (w.heap.size + 3) 29 cs
theorem Tq.below {w w1 w2 : World} {q : Dr} {cs zs ys : Array Value} (h : Tq w q w1 cs zs ys) (hb : Below w1.heap.size w1 w2) : Tq w q w2 cs zs ys :=
  ⟨h.bw.trans (hb.mono h.bw.size), h.r.below hb h.r.lt, h.z.below hb h.z.lt, h.y.below hb h.y.lt, h.x.below hb h.x.lt⟩
theorem Tq.put {w w1 : World} {q : Dr} {cs zs ys : Array Value} (h : Tq w q w1 cs zs ys) (j : Nat) (v : Value) {cs' : Array Value} (e : cs.setIfInBounds j v = cs') : Tq w q (w1.setCell ⟨w.heap.size + 3, j, none⟩ v) cs' zs ys :=
  ⟨h.bw.setCell (by simp) v, h.r.far (by simp) v, h.z.far (by simp) v, h.y.far (by simp) v, e ▸ h.x.set_ j v⟩
theorem Tq.box {w w1 : World} {q : Dr} {cs zs ys : Array Value} (h : Tq w q w1 cs zs ys) (q' : Dr) : Tq w q' ((w1.setCell ⟨w.heap.size, 0, none⟩ (.string ⟨q'.s.toArray⟩)).setCell ⟨w.heap.size, 1, none⟩ (.int .i64 (q'.e : Int))) cs zs ys :=
  ⟨(h.bw.setCell (Nat.le_refl _) _).setCell (Nat.le_refl _) _, (h.r.set_ 0 _).set_ 1 _, (h.z.far (by simp) _).far (by simp) _, (h.y.far (by simp) _).far (by simp) _, (h.x.far (by simp) _).far (by simp) _⟩
theorem Tq.drew {w w1 : World} {q : Dr} {cs zs ys : Array Value} (h : Tq w q w1 cs zs ys) : Tq w q w1.drew cs zs ys := ⟨h.bw.drew, h.r, h.z, h.y, h.x⟩
theorem Tq.start (w : World) (q : Dr) : Tq w q ((((w.alloc (.cells (drC q) 121)).alloc (.cells #[.int .u8 0, .int .u32 0, .int .u8 0, .string ⟨#[]⟩, .string ⟨#[]⟩, .string ⟨#[]⟩, .int .u8 0] 29)).alloc (.cells #[.string ⟨#[]⟩, .int .i64 0] 121)).alloc (.cells #[.int .u8 0, .int .u32 0, .int .u8 0, .string ⟨#[]⟩, .string ⟨#[]⟩, .string ⟨#[]⟩, .int .u8 0] 29)) #[.int .u8 0, .int .u32 0, .int .u8 0, .string ⟨#[]⟩, .string ⟨#[]⟩, .string ⟨#[]⟩, .int .u8 0] #[.int .u8 0, .int .u32 0, .int .u8 0, .string ⟨#[]⟩, .string ⟨#[]⟩, .string ⟨#[]⟩, .int .u8 0] #[.string ⟨#[]⟩, .int .i64 0] :=
  ⟨(((((Below.refl _ w).alloc (Nat.le_refl _) _).alloc (by simp) _).alloc (by simp; omega) _).alloc (by simp; omega) _), (((Blk.new w _ _).alloc _).alloc _).alloc _,
   (by have := ((Blk.new (w.alloc (.cells (drC q) 121)) 29 #[.int .u8 0, .int .u32 0, .int .u8 0, .string ⟨#[]⟩, .string ⟨#[]⟩, .string ⟨#[]⟩, .int .u8 0]).alloc (.cells #[.string ⟨#[]⟩, .int .i64 0] 121)).alloc (.cells #[.int .u8 0, .int .u32 0, .int .u8 0, .string ⟨#[]⟩, .string ⟨#[]⟩, .string ⟨#[]⟩, .int .u8 0] 29); simpa using this),
   (by have := (Blk.new ((w.alloc (.cells (drC q) 121)).alloc (.cells #[.int .u8 0, .int .u32 0, .int .u8 0, .string ⟨#[]⟩, .string ⟨#[]⟩, .string ⟨#[]⟩, .int .u8 0] 29)) 121 #[.string ⟨#[]⟩, .int .i64 0]).alloc (.cells #[.int .u8 0, .int .u32 0, .int .u8 0, .string ⟨#[]⟩, .string ⟨#[]⟩, .string ⟨#[]⟩, .int .u8 0] 29); simpa [Nat.add_assoc] using this),
   (by have := Blk.new (((w.alloc (.cells (drC q) 121)).alloc (.cells #[.int .u8 0, .int .u32 0, .int .u8 0, .string ⟨#[]⟩, .string ⟨#[]⟩, .string ⟨#[]⟩, .int .u8 0] 29)).alloc (.cells #[.string ⟨#[]⟩, .int .i64 0] 121)) 29 #[.int .u8 0, .int .u32 0, .int .u8 0, .string ⟨#[]⟩, .string ⟨#[]⟩, .string ⟨#[]⟩, .int .u8 0]; simpa [Nat.add_assoc] using this)⟩

end Go.Proofs.YteiaiilfekojfaaGreat.Cmd
