/- What stays of blocks of memory, behind calls and stores, where one elder block may turn. Conditions: none. -/
import Derived.Test.YteiaiilfekojfaaGreatQNetOrderKeep
import Derived.Test.YteiaiilfekojfaaGreatQNetOrderWire
namespace Go.Proofs.YteiaiilfekojfaaGreat
open Go.RowKit Wire

/-- Blocks whose cells are known, in a world behind another one of which block g alone may have turned. -/
structure Kr (g : Nat) (L : List (Nat × TypeId × Array Value)) (w W : World) : Prop where
  gw : w.grownBy W (some g)
  at_ : ∀ p ∈ L, Blk W p.1 p.2.1 p.2.2
section
variable {a b c d e f : Nat × TypeId × Array Value} {L L' : List (Nat × TypeId × Array Value)} {w W W' : World} {g : Nat}
theorem Kr.refl (g : Nat) (w : World) : Kr g [] w w := ⟨World.grownBy.refl w _, by simp⟩
theorem Kr.below (k : Kr g L w W) (hb : Below W.heap.size W W') : Kr g L w W' where
  gw := grown_step k.gw (only_of_below hb (some g))
  at_ := fun p hp => (k.at_ p hp).below hb (k.at_ p hp).lt
theorem Kr.alloc (k : Kr g L w W) (o : Obj) : Kr g L w (W.alloc o) := k.below (below_one W o)
theorem Kr.drew (k : Kr g L w W) : Kr g L w W.drew := ⟨only_drew k.gw, fun p hp => (k.at_ p hp).drew⟩
theorem Kr.new (k : Kr g L w W) (t : TypeId) (cs : Array Value) : Kr g ((W.heap.size, t, cs) :: L) w (W.alloc (.cells cs t)) where
  gw := (k.alloc _).gw
  at_ := by
    intro p hp
    rcases List.mem_cons.1 hp with rfl | hp
    · exact Blk.new W _ cs
    · exact (k.at_ p hp).alloc _
theorem Kr.sub (k : Kr g L w W) (h : ∀ p ∈ L', p ∈ L) : Kr g L' w W := ⟨k.gw, fun p hp => k.at_ p (h p hp)⟩
theorem Kr.tail (k : Kr g (a :: L) w W) : Kr g L w W := ⟨k.gw, fun p hp => k.at_ p (List.mem_cons_of_mem _ hp)⟩
theorem Kr.cons (k : Kr g L w W) (h : Blk W a.1 a.2.1 a.2.2) : Kr g (a :: L) w W := ⟨k.gw, fun p hp => by
  rcases List.mem_cons.1 hp with rfl | hp
  · exact h
  · exact k.at_ p hp⟩
theorem Kr.i1 (k : Kr g (a :: L) w W) : Blk W a.1 a.2.1 a.2.2 := k.at_ a (by simp)
theorem Kr.i3 (k : Kr g (c :: b :: a :: L) w W) : Blk W a.1 a.2.1 a.2.2 := k.at_ a (by simp)
theorem Kr.set_ {h i : Nat} {t : TypeId} {cs : Array Value} (k : Kr g ((h, t, cs) :: L) w W) (hne : ∀ p ∈ L, p.1 ≠ h) (hw : h = g ∨ w.heap.size ≤ h) (u : Value) : Kr g ((h, t, cs.setIfInBounds i u) :: L) w (W.setCell ⟨h, i, none⟩ u) where
  gw := only_setCell k.gw (p := ⟨h, i, none⟩) hw u
  at_ := by
    intro p hp
    rcases List.mem_cons.1 hp with rfl | hp
    · exact k.i1.set_ i u
    · exact (k.at_ p (List.mem_cons_of_mem _ hp)).far (p := ⟨h, i, none⟩) (hne p hp) u
/-- The reader's block has turned. -/
theorem Kr.rd {t : TypeId} {cs : Array Value} {r : Rd} (k : Kr g ((g, t, cs) :: L) w W) (h : RdGo W g r W') (hne : ∀ p ∈ L, p.1 ≠ g) : Kr g ((g, 157, rdC r) :: L) w W' where
  gw := grown_step k.gw h.2
  at_ := by
    intro p hp
    rcases List.mem_cons.1 hp with rfl | hp
    · exact h.1
    · exact (k.at_ p (List.mem_cons_of_mem _ hp)).grown h.2 (fun e => hne p hp (Option.some.inj e))
theorem Kg.rd {t : TypeId} {cs : Array Value} {r : Rd} (k : Kg ((g, t, cs) :: L) w W) (h : RdGo W g r W') (hne : ∀ p ∈ L, p.1 ≠ g) (hg : w.heap.size ≤ g) : Kg ((g, 157, rdC r) :: L) w W' :=
  ((k.tail).grown h.2 (fun o ho => by cases ho; exact ⟨hg, hne⟩)).cons h.1
theorem Kg.sub (k : Kg L w W) (h : ∀ p ∈ L', p ∈ L) : Kg L' w W := ⟨k.bw, fun p hp => k.at_ p (h p hp)⟩
end
end Go.Proofs.YteiaiilfekojfaaGreat
