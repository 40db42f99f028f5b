/- What stays of blocks of memory, behind calls and stores. Conditions: none. -/
import Derived.Test.YteiaiilfekojfaaBase
import Derived.Deep.RegionHeld
namespace Go.Proofs.Yteiaiilfekojfaa
open Go.RowKit

theorem below_one (w : World) (a : Obj) : Below w.heap.size w (w.alloc a) := (Below.refl _ w).alloc (Nat.le_refl _) a
/-- Blocks whose cells are known, in a world behind another one. -/
structure Kg (L : List (Nat × TypeId × Array Value)) (w W : World) : Prop where
  bw : Below w.heap.size w W
  at_ : ∀ p ∈ L, Blk W p.1 p.2.1 p.2.2
section
variable {a b c d e : Nat × TypeId × Array Value} {L : List (Nat × TypeId × Array Value)} {w W W' : World}
theorem Kg.refl (w : World) : Kg [] w w := ⟨Below.refl _ w, by simp⟩
theorem Kg.below (k : Kg L w W) (hb : Below W.heap.size W W') : Kg L w W' where
  bw := k.bw.trans (hb.mono k.bw.size)
  at_ := fun p hp => (k.at_ p hp).below hb (k.at_ p hp).lt
theorem Kg.alloc (k : Kg L w W) (o : Obj) : Kg L w (W.alloc o) := k.below (below_one W o)
theorem Kg.drew (k : Kg L w W) : Kg L w W.drew := ⟨k.bw.drew, fun p hp => (k.at_ p hp).drew⟩
theorem Kg.drewN (k : Kg L w W) (n : Nat) : Kg L w (W.drewN n) := ⟨below_drewN k.bw n, fun p hp => (k.at_ p hp).drewN n⟩
theorem Kg.new (k : Kg L w W) (t : TypeId) (cs : Array Value) : Kg ((W.heap.size, t, cs) :: L) w (W.alloc (.cells cs t)) where
  bw := (k.alloc _).bw
  at_ := by
    intro p hp
    rcases List.mem_cons.1 hp with rfl | hp
    · exact Blk.new W _ cs
    · exact (k.at_ p hp).alloc _
theorem Kg.tail (k : Kg (a :: L) w W) : Kg L w W := ⟨k.bw, fun p hp => k.at_ p (List.mem_cons_of_mem _ hp)⟩
theorem Kg.i1 (k : Kg (a :: L) w W) : Blk W a.1 a.2.1 a.2.2 := k.at_ a (by simp)
theorem Kg.i2 (k : Kg (b :: a :: L) w W) : Blk W a.1 a.2.1 a.2.2 := k.at_ a (by simp)
theorem Kg.i3 (k : Kg (c :: b :: a :: L) w W) : Blk W a.1 a.2.1 a.2.2 := k.at_ a (by simp)
theorem Kg.i4 (k : Kg (d :: c :: b :: a :: L) w W) : Blk W a.1 a.2.1 a.2.2 := k.at_ a (by simp)
theorem Kg.i5 (k : Kg (e :: d :: c :: b :: a :: L) w W) : Blk W a.1 a.2.1 a.2.2 := k.at_ a (by simp)
theorem Kg.cons (k : Kg L w W) (h : Blk W a.1 a.2.1 a.2.2) : Kg (a :: L) w W := ⟨k.bw, fun p hp => by
  rcases List.mem_cons.1 hp with rfl | hp
  · exact h
  · exact k.at_ p hp⟩
theorem Kg.grown {row : Option Nat} (k : Kg L w W) (hg : W.grownBy W' row) (hr : ∀ o, row = some o → w.heap.size ≤ o ∧ ∀ p ∈ L, p.1 ≠ o) : Kg L w W' where
  bw := k.bw.grown hg k.bw.size (fun o ho => (hr o ho).1)
  at_ := fun p hp => (k.at_ p hp).grown hg (fun e => (hr p.1 e.symm).2 p hp rfl)
theorem Kg.set_ {g i : Nat} {t : TypeId} {cs : Array Value} (k : Kg ((g, t, cs) :: L) w W) (hne : ∀ p ∈ L, p.1 ≠ g) (hw : w.heap.size ≤ g) (u : Value) : Kg ((g, t, cs.setIfInBounds i u) :: L) w (W.setCell ⟨g, i, none⟩ u) where
  bw := k.bw.setCell (p := ⟨g, i, none⟩) hw u
  at_ := by
    intro p hp
    rcases List.mem_cons.1 hp with rfl | hp
    · exact k.i1.set_ i u
    · exact (k.at_ p (List.mem_cons_of_mem _ hp)).far (p := ⟨g, i, none⟩) (hne p hp) u
end
theorem Blk.c2 {w : World} {g : Nat} {t : TypeId} {c0 c1 : Value} (h : Blk w g t #[c0, c1]) : w.cell? ⟨g, 0, none⟩ = some c0 ∧ w.cell? ⟨g, 1, none⟩ = some c1 := ⟨h.cell 0, h.cell 1⟩
theorem Blk.f12 {w : World} {g : Nat} {t : TypeId} {cs : Array Value} (h : Blk w g t cs) :
    w.frozen? ⟨g, 0, none⟩ = false ∧ w.frozen? ⟨g, 1, none⟩ = false ∧ w.frozen? ⟨g, 2, none⟩ = false ∧ w.frozen? ⟨g, 3, none⟩ = false ∧ w.frozen? ⟨g, 4, none⟩ = false ∧ w.frozen? ⟨g, 5, none⟩ = false ∧ w.frozen? ⟨g, 6, none⟩ = false ∧ w.frozen? ⟨g, 7, none⟩ = false ∧ w.frozen? ⟨g, 8, none⟩ = false ∧ w.frozen? ⟨g, 9, none⟩ = false ∧ w.frozen? ⟨g, 10, none⟩ = false ∧ w.frozen? ⟨g, 11, none⟩ = false :=
  ⟨h.frozen 0, h.frozen 1, h.frozen 2, h.frozen 3, h.frozen 4, h.frozen 5, h.frozen 6, h.frozen 7, h.frozen 8, h.frozen 9, h.frozen 10, h.frozen 11⟩
theorem Blk.f2 {w : World} {g : Nat} {t : TypeId} {cs : Array Value} (h : Blk w g t cs) : w.frozen? ⟨g, 0, none⟩ = false ∧ w.frozen? ⟨g, 1, none⟩ = false := ⟨h.frozen 0, h.frozen 1⟩
theorem Blk.c12 {w : World} {g : Nat} {t : TypeId} {c0 c1 c2 c3 c4 c5 c6 c7 c8 c9 c10 c11 : Value} (h : Blk w g t #[c0, c1, c2, c3, c4, c5, c6, c7, c8, c9, c10, c11]) :
    w.cell? ⟨g, 0, none⟩ = some c0 ∧ w.cell? ⟨g, 1, none⟩ = some c1 ∧ w.cell? ⟨g, 2, none⟩ = some c2 ∧ w.cell? ⟨g, 3, none⟩ = some c3 ∧ w.cell? ⟨g, 4, none⟩ = some c4 ∧ w.cell? ⟨g, 5, none⟩ = some c5 ∧ w.cell? ⟨g, 6, none⟩ = some c6 ∧ w.cell? ⟨g, 7, none⟩ = some c7 ∧ w.cell? ⟨g, 8, none⟩ = some c8 ∧ w.cell? ⟨g, 9, none⟩ = some c9 ∧ w.cell? ⟨g, 10, none⟩ = some c10 ∧ w.cell? ⟨g, 11, none⟩ = some c11 :=
  ⟨h.cell 0, h.cell 1, h.cell 2, h.cell 3, h.cell 4, h.cell 5, h.cell 6, h.cell 7, h.cell 8, h.cell 9, h.cell 10, h.cell 11⟩
theorem Kg.set12 {g : Nat} {t : TypeId} {c0 c1 c2 c3 c4 c5 c6 c7 c8 c9 c10 c11 v0 v1 v2 v3 v4 v5 v6 v7 v8 v9 v10 v11 : Value} {L : List (Nat × TypeId × Array Value)} {w W : World} (k : Kg ((g, t, #[c0, c1, c2, c3, c4, c5, c6, c7, c8, c9, c10, c11]) :: L) w W) (hne : ∀ p ∈ L, p.1 ≠ g) (hw : w.heap.size ≤ g) :
    Kg ((g, t, #[v0, v1, v2, v3, v4, v5, v6, v7, v8, v9, v10, v11]) :: L) w ((((((((((((W.setCell ⟨g, 0, none⟩ v0).setCell ⟨g, 1, none⟩ v1).setCell ⟨g, 2, none⟩ v2).setCell ⟨g, 3, none⟩ v3).setCell ⟨g, 4, none⟩ v4).setCell ⟨g, 5, none⟩ v5).setCell ⟨g, 6, none⟩ v6).setCell ⟨g, 7, none⟩ v7).setCell ⟨g, 8, none⟩ v8).setCell ⟨g, 9, none⟩ v9).setCell ⟨g, 10, none⟩ v10).setCell ⟨g, 11, none⟩ v11) := by
  have h0 := k.set_ (i := 0) hne hw v0
  simp only [List.setIfInBounds_toArray, List.set_cons_zero] at h0
  have h1 := h0.set_ (i := 1) hne hw v1
  simp only [List.setIfInBounds_toArray, List.set_cons_zero, List.set_cons_succ] at h1
  have h2 := h1.set_ (i := 2) hne hw v2
  simp only [List.setIfInBounds_toArray, List.set_cons_zero, List.set_cons_succ] at h2
  have h3 := h2.set_ (i := 3) hne hw v3
  simp only [List.setIfInBounds_toArray, List.set_cons_zero, List.set_cons_succ] at h3
  have h4 := h3.set_ (i := 4) hne hw v4
  simp only [List.setIfInBounds_toArray, List.set_cons_zero, List.set_cons_succ] at h4
  have h5 := h4.set_ (i := 5) hne hw v5
  simp only [List.setIfInBounds_toArray, List.set_cons_zero, List.set_cons_succ] at h5
  have h6 := h5.set_ (i := 6) hne hw v6
  simp only [List.setIfInBounds_toArray, List.set_cons_zero, List.set_cons_succ] at h6
  have h7 := h6.set_ (i := 7) hne hw v7
  simp only [List.setIfInBounds_toArray, List.set_cons_zero, List.set_cons_succ] at h7
  have h8 := h7.set_ (i := 8) hne hw v8
  simp only [List.setIfInBounds_toArray, List.set_cons_zero, List.set_cons_succ] at h8
  have h9 := h8.set_ (i := 9) hne hw v9
  simp only [List.setIfInBounds_toArray, List.set_cons_zero, List.set_cons_succ] at h9
  have h10 := h9.set_ (i := 10) hne hw v10
  simp only [List.setIfInBounds_toArray, List.set_cons_zero, List.set_cons_succ] at h10
  have h11 := h10.set_ (i := 11) hne hw v11
  simp only [List.setIfInBounds_toArray, List.set_cons_zero, List.set_cons_succ] at h11
  exact h11
theorem Kg.set2 {g : Nat} {t : TypeId} {c0 c1 v0 v1 : Value} {L : List (Nat × TypeId × Array Value)} {w W : World} (k : Kg ((g, t, #[c0, c1]) :: L) w W) (hne : ∀ p ∈ L, p.1 ≠ g) (hw : w.heap.size ≤ g) :
    Kg ((g, t, #[v0, v1]) :: L) w ((W.setCell ⟨g, 0, none⟩ v0).setCell ⟨g, 1, none⟩ v1) := (k.set_ (i := 0) hne hw v0).set_ (i := 1) hne hw v1
theorem Kg.swap {a b : Nat × TypeId × Array Value} {L : List (Nat × TypeId × Array Value)} {w W : World} (k : Kg (a :: b :: L) w W) : Kg (b :: a :: L) w W := ⟨k.bw, fun p hp => k.at_ p (by
  simp only [List.mem_cons] at hp ⊢
  rcases hp with h | h | h
  · exact .inr (.inl h)
  · exact .inl h
  · exact .inr (.inr h))⟩
/-- An operation of a drawn region taken first, its slot named. -/
theorem take1 {P : Program} {ops : Array Oper} {Q : Exit → Act → World → Prop} {md : Region.Mode} {S : World → Prop} {i d : Nat} {oi : Oper} {v : Value} {fuel : Nat} {listed : Array Bool} {tm : List Value} {ds : List Deferred} {w : World} (hi : ops[i]? = some oi)
    (hs : Region.noSelect ops = true) (hf : Region.free md ops listed i = true) (hr : (Region.ready md ops listed).contains i = true) (hd : oi.dst = some d)
    (hQ : ∀ c a w, Q (.panic c) (a.put oi.dst v) w → Q (.panic c) a w) (hy : YieldsIf P ops S oi v ⟨tm.toArray, ds⟩) (hS : S w)
    (h : wpAnyH P md ops Q S fuel (listed.setIfInBounds i true) ⟨(tm.set d v).toArray, ds⟩ w) : wpAnyH P md ops Q S (fuel + 1) listed ⟨tm.toArray, ds⟩ w := by
  refine wpAnyH_take hi hs hf hr hQ hy hS ?_
  have e : (Act.mk tm.toArray ds).put oi.dst v = ⟨(tm.set d v).toArray, ds⟩ := by rw [hd]; simp [Act.put]
  rw [e]
  exact h
end Go.Proofs.Yteiaiilfekojfaa
