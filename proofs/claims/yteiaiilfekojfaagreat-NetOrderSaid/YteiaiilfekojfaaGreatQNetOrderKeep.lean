/- What stays of blocks of memory, behind calls and stores. Conditions: none. -/
import Derived.Deep.RegionHeld
import Derived.Test.YteiaiilfekojfaaGreatQNetOrderBase
namespace Go.Proofs.YteiaiilfekojfaaGreat
open Go.RowKit

theorem below_one (w : World) (a : Obj) : Below w.heap.size w (w.alloc a) := (Below.refl _ w).alloc (Nat.le_refl _) a
/-- Blocks whose cells are known, in a world behind another one. -/
structure Kg (L : List (Nat × TypeId × Array Value)) (w W : World) : Prop where
  bw : Below w.heap.size w W
  at_ : ∀ p ∈ L, Blk W p.1 p.2.1 p.2.2
section
variable {a b c d e : Nat × TypeId × Array Value} {L : List (Nat × TypeId × Array Value)} {w W W' : World}
theorem Kg.refl (w : World) : Kg [] w w := ⟨Below.refl _ w, by simp⟩
theorem Kg.below (k : Kg L w W) (hb : Below W.heap.size W W') : Kg L w W' where
  bw := k.bw.trans (hb.mono k.bw.size)
  at_ := fun p hp => (k.at_ p hp).below hb (k.at_ p hp).lt
theorem Kg.alloc (k : Kg L w W) (o : Obj) : Kg L w (W.alloc o) := k.below (below_one W o)
theorem Kg.drew (k : Kg L w W) : Kg L w W.drew := ⟨k.bw.drew, fun p hp => (k.at_ p hp).drew⟩
theorem Kg.new (k : Kg L w W) (t : TypeId) (cs : Array Value) : Kg ((W.heap.size, t, cs) :: L) w (W.alloc (.cells cs t)) where
  bw := (k.alloc _).bw
  at_ := by
    intro p hp
    rcases List.mem_cons.1 hp with rfl | hp
    · exact Blk.new W _ cs
    · exact (k.at_ p hp).alloc _
theorem Kg.tail (k : Kg (a :: L) w W) : Kg L w W := ⟨k.bw, fun p hp => k.at_ p (List.mem_cons_of_mem _ hp)⟩
theorem Kg.i1 (k : Kg (a :: L) w W) : Blk W a.1 a.2.1 a.2.2 := k.at_ a (by simp)
theorem Kg.i3 (k : Kg (c :: b :: a :: L) w W) : Blk W a.1 a.2.1 a.2.2 := k.at_ a (by simp)
theorem Kg.cons (k : Kg L w W) (h : Blk W a.1 a.2.1 a.2.2) : Kg (a :: L) w W := ⟨k.bw, fun p hp => by
  rcases List.mem_cons.1 hp with rfl | hp
  · exact h
  · exact k.at_ p hp⟩
theorem Kg.grown {row : Option Nat} (k : Kg L w W) (hg : W.grownBy W' row) (hr : ∀ o, row = some o → w.heap.size ≤ o ∧ ∀ p ∈ L, p.1 ≠ o) : Kg L w W' where
  bw := k.bw.grown hg k.bw.size (fun o ho => (hr o ho).1)
  at_ := fun p hp => (k.at_ p hp).grown hg (fun e => (hr p.1 e.symm).2 p hp rfl)
theorem Kg.set_ {g i : Nat} {t : TypeId} {cs : Array Value} (k : Kg ((g, t, cs) :: L) w W) (hne : ∀ p ∈ L, p.1 ≠ g) (hw : w.heap.size ≤ g) (u : Value) : Kg ((g, t, cs.setIfInBounds i u) :: L) w (W.setCell ⟨g, i, none⟩ u) where
  bw := k.bw.setCell (p := ⟨g, i, none⟩) hw u
  at_ := by
    intro p hp
    rcases List.mem_cons.1 hp with rfl | hp
    · exact k.i1.set_ i u
    · exact (k.at_ p (List.mem_cons_of_mem _ hp)).far (p := ⟨g, i, none⟩) (hne p hp) u
end
theorem Blk.c2 {w : World} {g : Nat} {t : TypeId} {c0 c1 : Value} (h : Blk w g t #[c0, c1]) : w.cell? ⟨g, 0, none⟩ = some c0 ∧ w.cell? ⟨g, 1, none⟩ = some c1 := ⟨h.cell 0, h.cell 1⟩
theorem Blk.f2 {w : World} {g : Nat} {t : TypeId} {cs : Array Value} (h : Blk w g t cs) : w.frozen? ⟨g, 0, none⟩ = false ∧ w.frozen? ⟨g, 1, none⟩ = false := ⟨h.frozen 0, h.frozen 1⟩
theorem Blk.c12 {w : World} {g : Nat} {t : TypeId} {c0 c1 c2 c3 c4 c5 c6 c7 c8 c9 c10 c11 : Value} (h : Blk w g t #[c0, c1, c2, c3, c4, c5, c6, c7, c8, c9, c10, c11]) :
    w.cell? ⟨g, 0, none⟩ = some c0 ∧ w.cell? ⟨g, 1, none⟩ = some c1 ∧ w.cell? ⟨g, 2, none⟩ = some c2 ∧ w.cell? ⟨g, 3, none⟩ = some c3 ∧ w.cell? ⟨g, 4, none⟩ = some c4 ∧ w.cell? ⟨g, 5, none⟩ = some c5 ∧ w.cell? ⟨g, 6, none⟩ = some c6 ∧ w.cell? ⟨g, 7, none⟩ = some c7 ∧ w.cell? ⟨g, 8, none⟩ = some c8 ∧ w.cell? ⟨g, 9, none⟩ = some c9 ∧ w.cell? ⟨g, 10, none⟩ = some c10 ∧ w.cell? ⟨g, 11, none⟩ = some c11 :=
  ⟨h.cell 0, h.cell 1, h.cell 2, h.cell 3, h.cell 4, h.cell 5, h.cell 6, h.cell 7, h.cell 8, h.cell 9, h.cell 10, h.cell 11⟩
end Go.Proofs.YteiaiilfekojfaaGreat
