/- Chains of which the head is forgotten tell the same of what lies ahead; chains that lie apart. Conditions: those each law names. -/
import Derived.Test.YtbamfnlgapchkaaChWakes
namespace Go.Proofs.Ytbamfnlgapchkaa.Chn
open Go.RowKit Mem DrawInv

def dropC (k : Nat) (c : Ch) : Ch := ⟨c.low + k, c.dirs.drop k⟩
theorem drop_top {k : Nat} {c : Ch} (hk : k < c.dirs.length) : (dropC k c).top = c.top := by unfold Ch.top dropC; simp; omega
theorem drop_push {k : Nat} {c : Ch} (hk : k < c.dirs.length) (s : Nat) : (dropC k c).push s = (dropC k (c.push s).1, (c.push s).2) := by
  unfold Ch.push
  rw [drop_top hk]
  split
  · rfl
  · split
    · rfl
    · unfold dropC
      simp only
      rw [List.drop_append_of_le_length (by omega)]
theorem drop_at {k : Nat} {c : Ch} (hk : k < c.dirs.length) {slot : Nat} (h : c.low + k ≤ slot - 3) : (dropC k c).at_ slot = c.at_ slot := by
  unfold Ch.at_
  rw [drop_top hk]
  have e1 : ¬ slot - 3 < (dropC k c).low := by show ¬ slot - 3 < c.low + k; omega
  have e2 : ¬ slot - 3 < c.low := by omega
  by_cases h0 : slot = 0 ∨ c.top < slot - 3
  · rw [if_pos (by omega), if_pos (by omega)]
  · rw [if_neg (by omega), if_neg (by omega)]
    unfold dropC
    simp only
    rw [List.getD_eq_getElem?_getD, List.getD_eq_getElem?_getD, List.getElem?_drop]
    congr 3
    omega
theorem drop_tail {k : Nat} {c : Ch} (hk : k ≤ c.dirs.length - 3) : (dropC k c).tail = c.tail := by
  unfold Ch.tail dropC
  simp only
  rw [List.drop_drop, List.length_drop]
  congr 1
  omega
theorem span_ext {c c' : Ch} {a b : Nat} (h : ∀ slot, a ≤ slot → slot ≤ b → c.at_ slot = c'.at_ slot) : c.span a b = c'.span a b := by
  refine eq_of_bits _ _ (fold_with_lt _ _ (by omega)) (fold_with_lt _ _ (by omega)) fun i hi => ?_
  unfold Ch.span
  rw [fold_with_test _ _ i hi, fold_with_test _ _ i hi, Bool.eq_iff_iff]
  simp only [Nat.zero_testBit, Bool.false_or, List.any_eq_true]
  constructor
  · rintro ⟨s, hs, ht⟩
    obtain ⟨slot, h1, h2, h3⟩ := (mem_knownL a b s).1 hs
    exact ⟨s, (mem_knownL a b s).2 ⟨slot, h1, h2, by rw [← h slot h1 h2]; exact h3⟩, ht⟩
  · rintro ⟨s, hs, ht⟩
    obtain ⟨slot, h1, h2, h3⟩ := (mem_knownL a b s).1 hs
    exact ⟨s, (mem_knownL a b s).2 ⟨slot, h1, h2, by rw [h slot h1 h2]; exact h3⟩, ht⟩
theorem at_snd {c : Ch} (hc : c.low = 0) {slot : Nat} (h0 : slot ≠ 0) : (c.at_ slot).2 = decide (slot ≤ c.top + 3) := by
  rw [Bool.eq_iff_iff, at_iff, decide_eq_true_iff]
  omega
/-- Two things in memory that have no block in common. -/
structure Apart (g : Nat) (v : Value) (g2 : Nat) (v2 : Value) : Prop where
  gg : g ≠ g2
  vg : v.ownBlock ≠ some g2
  gv : v2.ownBlock ≠ some g
  vv : ∀ r, v.ownBlock = some r → v2.ownBlock ≠ some r
section
variable {B B2 g g2 : Nat} {c c2 : Ch} {v v2 v' : Value} {w w' : World}
theorem Apart.symm (h : Apart g v g2 v2) : Apart g2 v2 g v := ⟨fun e => h.gg e.symm, h.gv, h.vg, fun r hr he => h.vv r he hr⟩
theorem ChS.apart (q : ChS B g c v w) (q2 : ChS B2 g2 c2 v2 w') (hB : w.heap.size ≤ B2) : Apart g v g2 v2 := by
  have h1 := q.hg.lt
  have h2 := q2.hB
  refine ⟨by omega, fun e => by have := (q.ho.lt _ e).2; omega, fun e => by have := (q2.ho.lt _ e).1; omega, fun r hr he => ?_⟩
  have := (q.ho.lt _ hr).2
  have := (q2.ho.lt _ he).1
  omega
theorem ChS.keep_apart (q2 : ChS B2 g2 c2 v2 w) (h : Apart g v g2 v2) (s : QStep g v w v' w') : ChS B2 g2 c2 v2 w' ∧ Apart g v' g2 v2 := by
  refine ⟨q2.keep s ⟨q2.hg.lt, fun e => h.gg e.symm, h.vg⟩ (fun r hr => ⟨(q2.ho.lt r hr).2, fun e => h.gv (by rw [hr, e]), fun e => h.vv r e hr⟩), ⟨h.gg, fun e => ?_, h.gv, fun r hr he => ?_⟩⟩
  · rcases s.new _ e with h' | h'
    · exact h.vg h'
    · have := q2.hg.lt; omega
  · rcases s.new _ hr with h' | h'
    · exact h.vv r h' he
    · have := (q2.ho.lt _ he).2; omega
/-- Three chains apart from one another. -/
structure Tri (w0 : World) (Bx gx By gy Bz gz : Nat) (cx cy cz : Ch) (vx vy vz : Value) (w : World) : Prop where
  x : ChS Bx gx cx vx w
  y : ChS By gy cy vy w
  z : ChS Bz gz cz vz w
  xy : Apart gx vx gy vy
  xz : Apart gx vx gz vz
  yz : Apart gy vy gz vz
  bw : Below w0.heap.size w0 w
  bx : w0.heap.size ≤ Bx ∧ Bx ≤ w.heap.size
  by_ : w0.heap.size ≤ By ∧ By ≤ w.heap.size
  bz : w0.heap.size ≤ Bz ∧ Bz ≤ w.heap.size
variable {w0 : World} {Bx gx By gy Bz gz : Nat} {cx cy cz : Ch} {vx vy vz : Value}
theorem Tri.below (F : Tri w0 Bx gx By gy Bz gz cx cy cz vx vy vz w) (hb : Below w.heap.size w w') : Tri w0 Bx gx By gy Bz gz cx cy cz vx vy vz w' :=
  ⟨F.x.below hb, F.y.below hb, F.z.below hb, F.xy, F.xz, F.yz, F.bw.trans (hb.mono F.bw.size), ⟨F.bx.1, Nat.le_trans F.bx.2 hb.size⟩, ⟨F.by_.1, Nat.le_trans F.by_.2 hb.size⟩, ⟨F.bz.1, Nat.le_trans F.bz.2 hb.size⟩⟩
theorem Tri.stepx {cx' : Ch} {vx' : Value} (F : Tri w0 Bx gx By gy Bz gz cx cy cz vx vy vz w) (q : ChS Bx gx cx' vx' w') (s : QStep gx vx w vx' w') : Tri w0 Bx gx By gy Bz gz cx' cy cz vx' vy vz w' :=
  ⟨q, (F.y.keep_apart F.xy s).1, (F.z.keep_apart F.xz s).1, (F.y.keep_apart F.xy s).2, (F.z.keep_apart F.xz s).2, F.yz, F.x.bw s F.bw F.bx.1 F.bx.2, ⟨F.bx.1, Nat.le_trans F.bx.2 s.out.size⟩, ⟨F.by_.1, Nat.le_trans F.by_.2 s.out.size⟩, ⟨F.bz.1, Nat.le_trans F.bz.2 s.out.size⟩⟩
theorem Tri.stepy {cy' : Ch} {vy' : Value} (F : Tri w0 Bx gx By gy Bz gz cx cy cz vx vy vz w) (q : ChS By gy cy' vy' w') (s : QStep gy vy w vy' w') : Tri w0 Bx gx By gy Bz gz cx cy' cz vx vy' vz w' :=
  ⟨(F.x.keep_apart F.xy.symm s).1, q, (F.z.keep_apart F.yz s).1, (F.x.keep_apart F.xy.symm s).2.symm, F.xz, (F.z.keep_apart F.yz s).2, F.y.bw s F.bw F.by_.1 F.by_.2, ⟨F.bx.1, Nat.le_trans F.bx.2 s.out.size⟩, ⟨F.by_.1, Nat.le_trans F.by_.2 s.out.size⟩, ⟨F.bz.1, Nat.le_trans F.bz.2 s.out.size⟩⟩
theorem Tri.stepz {cz' : Ch} {vz' : Value} (F : Tri w0 Bx gx By gy Bz gz cx cy cz vx vy vz w) (q : ChS Bz gz cz' vz' w') (s : QStep gz vz w vz' w') : Tri w0 Bx gx By gy Bz gz cx cy cz' vx vy vz' w' :=
  ⟨(F.x.keep_apart F.xz.symm s).1, (F.y.keep_apart F.yz.symm s).1, q, F.xy, (F.x.keep_apart F.xz.symm s).2.symm, (F.y.keep_apart F.yz.symm s).2.symm, F.z.bw s F.bw F.bz.1 F.bz.2, ⟨F.bx.1, Nat.le_trans F.bx.2 s.out.size⟩, ⟨F.by_.1, Nat.le_trans F.by_.2 s.out.size⟩, ⟨F.bz.1, Nat.le_trans F.bz.2 s.out.size⟩⟩
end
end Go.Proofs.Ytbamfnlgapchkaa.Chn
