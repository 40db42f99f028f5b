/- What stays of blocks of several cells, and blocks whose cells are stored one by one. Conditions: none. -/
import Derived.Test.YteiaiilfekojfaaKeep
namespace Go.Proofs.Yteiaiilfekojfaa
open Go.RowKit

theorem kgn2 (w : World) (t u : TypeId) (a b : Array Value) : Kg [(w.heap.size + 1, u, b), (w.heap.size, t, a)] w ((w.alloc (.cells a t)).alloc (.cells b u)) := by
  have k := ((Kg.refl w).new t a).new u b
  have e1 : (w.alloc (.cells a t)).heap.size = w.heap.size + 1 := by simp
  rw [e1] at k
  exact k
theorem kgn3 (w : World) (t u v : TypeId) (a b c : Array Value) : Kg [(w.heap.size + 2, v, c), (w.heap.size + 1, u, b), (w.heap.size, t, a)] w (((w.alloc (.cells a t)).alloc (.cells b u)).alloc (.cells c v)) := by
  have k := (kgn2 w t u a b).new v c
  have e1 : ((w.alloc (.cells a t)).alloc (.cells b u)).heap.size = w.heap.size + 2 := by simp
  rw [e1] at k
  exact k
theorem Blk.c1 {w : World} {g : Nat} {t : TypeId} {c0 : Value} (h : Blk w g t #[c0]) : w.cell? ⟨g, 0, none⟩ = some c0 := h.cell 0
theorem Blk.f1 {w : World} {g : Nat} {t : TypeId} {cs : Array Value} (h : Blk w g t cs) : w.frozen? ⟨g, 0, none⟩ = false := h.frozen 0
theorem Kg.set1x {g : Nat} {t : TypeId} {c0 v0 : Value} {L : List (Nat × TypeId × Array Value)} {w W : World} (k : Kg ((g, t, #[c0]) :: L) w W) (hne : ∀ p ∈ L, p.1 ≠ g) (hw : w.heap.size ≤ g) :
    Kg ((g, t, #[v0]) :: L) w (W.setCell ⟨g, 0, none⟩ v0) := (k.set_ (i := 0) hne hw v0)
theorem Blk.c3 {w : World} {g : Nat} {t : TypeId} {c0 c1 c2 : Value} (h : Blk w g t #[c0, c1, c2]) : w.cell? ⟨g, 0, none⟩ = some c0 ∧ w.cell? ⟨g, 1, none⟩ = some c1 ∧ w.cell? ⟨g, 2, none⟩ = some c2 := ⟨h.cell 0, h.cell 1, h.cell 2⟩
theorem Blk.f3 {w : World} {g : Nat} {t : TypeId} {cs : Array Value} (h : Blk w g t cs) : w.frozen? ⟨g, 0, none⟩ = false ∧ w.frozen? ⟨g, 1, none⟩ = false ∧ w.frozen? ⟨g, 2, none⟩ = false := ⟨h.frozen 0, h.frozen 1, h.frozen 2⟩
theorem Kg.set3x {g : Nat} {t : TypeId} {c0 c1 c2 v0 v1 v2 : Value} {L : List (Nat × TypeId × Array Value)} {w W : World} (k : Kg ((g, t, #[c0, c1, c2]) :: L) w W) (hne : ∀ p ∈ L, p.1 ≠ g) (hw : w.heap.size ≤ g) :
    Kg ((g, t, #[v0, v1, v2]) :: L) w (((W.setCell ⟨g, 0, none⟩ v0).setCell ⟨g, 1, none⟩ v1).setCell ⟨g, 2, none⟩ v2) := (((k.set_ (i := 0) hne hw v0).set_ (i := 1) hne hw v1).set_ (i := 2) hne hw v2)
theorem Blk.c4 {w : World} {g : Nat} {t : TypeId} {c0 c1 c2 c3 : Value} (h : Blk w g t #[c0, c1, c2, c3]) : w.cell? ⟨g, 0, none⟩ = some c0 ∧ w.cell? ⟨g, 1, none⟩ = some c1 ∧ w.cell? ⟨g, 2, none⟩ = some c2 ∧ w.cell? ⟨g, 3, none⟩ = some c3 := ⟨h.cell 0, h.cell 1, h.cell 2, h.cell 3⟩
theorem Blk.f4 {w : World} {g : Nat} {t : TypeId} {cs : Array Value} (h : Blk w g t cs) : w.frozen? ⟨g, 0, none⟩ = false ∧ w.frozen? ⟨g, 1, none⟩ = false ∧ w.frozen? ⟨g, 2, none⟩ = false ∧ w.frozen? ⟨g, 3, none⟩ = false := ⟨h.frozen 0, h.frozen 1, h.frozen 2, h.frozen 3⟩
theorem Kg.set4x {g : Nat} {t : TypeId} {c0 c1 c2 c3 v0 v1 v2 v3 : Value} {L : List (Nat × TypeId × Array Value)} {w W : World} (k : Kg ((g, t, #[c0, c1, c2, c3]) :: L) w W) (hne : ∀ p ∈ L, p.1 ≠ g) (hw : w.heap.size ≤ g) :
    Kg ((g, t, #[v0, v1, v2, v3]) :: L) w ((((W.setCell ⟨g, 0, none⟩ v0).setCell ⟨g, 1, none⟩ v1).setCell ⟨g, 2, none⟩ v2).setCell ⟨g, 3, none⟩ v3) := ((((k.set_ (i := 0) hne hw v0).set_ (i := 1) hne hw v1).set_ (i := 2) hne hw v2).set_ (i := 3) hne hw v3)
theorem Blk.c5 {w : World} {g : Nat} {t : TypeId} {c0 c1 c2 c3 c4 : Value} (h : Blk w g t #[c0, c1, c2, c3, c4]) : w.cell? ⟨g, 0, none⟩ = some c0 ∧ w.cell? ⟨g, 1, none⟩ = some c1 ∧ w.cell? ⟨g, 2, none⟩ = some c2 ∧ w.cell? ⟨g, 3, none⟩ = some c3 ∧ w.cell? ⟨g, 4, none⟩ = some c4 := ⟨h.cell 0, h.cell 1, h.cell 2, h.cell 3, h.cell 4⟩
theorem Blk.f5 {w : World} {g : Nat} {t : TypeId} {cs : Array Value} (h : Blk w g t cs) : w.frozen? ⟨g, 0, none⟩ = false ∧ w.frozen? ⟨g, 1, none⟩ = false ∧ w.frozen? ⟨g, 2, none⟩ = false ∧ w.frozen? ⟨g, 3, none⟩ = false ∧ w.frozen? ⟨g, 4, none⟩ = false := ⟨h.frozen 0, h.frozen 1, h.frozen 2, h.frozen 3, h.frozen 4⟩
theorem Kg.set5x {g : Nat} {t : TypeId} {c0 c1 c2 c3 c4 v0 v1 v2 v3 v4 : Value} {L : List (Nat × TypeId × Array Value)} {w W : World} (k : Kg ((g, t, #[c0, c1, c2, c3, c4]) :: L) w W) (hne : ∀ p ∈ L, p.1 ≠ g) (hw : w.heap.size ≤ g) :
    Kg ((g, t, #[v0, v1, v2, v3, v4]) :: L) w (((((W.setCell ⟨g, 0, none⟩ v0).setCell ⟨g, 1, none⟩ v1).setCell ⟨g, 2, none⟩ v2).setCell ⟨g, 3, none⟩ v3).setCell ⟨g, 4, none⟩ v4) := (((((k.set_ (i := 0) hne hw v0).set_ (i := 1) hne hw v1).set_ (i := 2) hne hw v2).set_ (i := 3) hne hw v3).set_ (i := 4) hne hw v4)
theorem Blk.c6 {w : World} {g : Nat} {t : TypeId} {c0 c1 c2 c3 c4 c5 : Value} (h : Blk w g t #[c0, c1, c2, c3, c4, c5]) : w.cell? ⟨g, 0, none⟩ = some c0 ∧ w.cell? ⟨g, 1, none⟩ = some c1 ∧ w.cell? ⟨g, 2, none⟩ = some c2 ∧ w.cell? ⟨g, 3, none⟩ = some c3 ∧ w.cell? ⟨g, 4, none⟩ = some c4 ∧ w.cell? ⟨g, 5, none⟩ = some c5 := ⟨h.cell 0, h.cell 1, h.cell 2, h.cell 3, h.cell 4, h.cell 5⟩
theorem Blk.f6 {w : World} {g : Nat} {t : TypeId} {cs : Array Value} (h : Blk w g t cs) : w.frozen? ⟨g, 0, none⟩ = false ∧ w.frozen? ⟨g, 1, none⟩ = false ∧ w.frozen? ⟨g, 2, none⟩ = false ∧ w.frozen? ⟨g, 3, none⟩ = false ∧ w.frozen? ⟨g, 4, none⟩ = false ∧ w.frozen? ⟨g, 5, none⟩ = false := ⟨h.frozen 0, h.frozen 1, h.frozen 2, h.frozen 3, h.frozen 4, h.frozen 5⟩
theorem Kg.set6x {g : Nat} {t : TypeId} {c0 c1 c2 c3 c4 c5 v0 v1 v2 v3 v4 v5 : Value} {L : List (Nat × TypeId × Array Value)} {w W : World} (k : Kg ((g, t, #[c0, c1, c2, c3, c4, c5]) :: L) w W) (hne : ∀ p ∈ L, p.1 ≠ g) (hw : w.heap.size ≤ g) :
    Kg ((g, t, #[v0, v1, v2, v3, v4, v5]) :: L) w ((((((W.setCell ⟨g, 0, none⟩ v0).setCell ⟨g, 1, none⟩ v1).setCell ⟨g, 2, none⟩ v2).setCell ⟨g, 3, none⟩ v3).setCell ⟨g, 4, none⟩ v4).setCell ⟨g, 5, none⟩ v5) := ((((((k.set_ (i := 0) hne hw v0).set_ (i := 1) hne hw v1).set_ (i := 2) hne hw v2).set_ (i := 3) hne hw v3).set_ (i := 4) hne hw v4).set_ (i := 5) hne hw v5)
end Go.Proofs.Yteiaiilfekojfaa
