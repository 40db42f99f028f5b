/- A chain and the document's, side by side in memory. Conditions: those each law names. -/
import Derived.Test.YtbamfnlgapchkaaChAlike
namespace Go.Proofs.Ytbamfnlgapchkaa.Chn
open Go.RowKit Mem DrawInv

theorem RefC.keep {w w' : World} {c : Ch} {A : Option Addr} {u : Value} (h : RefC w c A u) (hs : w.heap.size ≤ w'.heap.size) (hk : ∀ ad, A = some ad → w'.heap[ad.block]? = w.heap[ad.block]?) : RefC w' c A u := by
  obtain ⟨cp, e, h1, h2⟩ := h
  refine ⟨cp, e, h1, h2.1, fun hn => ?_⟩
  obtain ⟨ad, ha, hb, hc⟩ := h2.2 hn
  exact ⟨ad, ha, Nat.lt_of_lt_of_le hb hs, fun j u hu => (World.cell?_of_block (by rw [block_of_add]; exact hk ad ha)).trans (hc j u hu)⟩
theorem RefC.lt {w : World} {c : Ch} {A : Option Addr} {u : Value} (h : RefC w c A u) (hn : 0 < c.dirs.length) {ad : Addr} (ha : A = some ad) : ad.block < w.heap.size := by
  obtain ⟨cp, e, h1, h2⟩ := h
  obtain ⟨ad', ha', hb, _⟩ := h2.2 hn
  rw [ha] at ha'
  obtain rfl := Option.some.inj ha'
  exact hb
/-- A program's chain c, and the document's d. -/
structure Duo (w0 : World) (B g : Nat) (c : Ch) (v : Value) (d : Ch) (A : Option Addr) (u : Value) (w : World) : Prop where
  q : ChS B g c v w
  r : RefC w d A u
  far : ∀ ad, A = some ad → Far w g v ad.block
  bw : Below w0.heap.size w0 w
  hB : w0.heap.size ≤ B ∧ B ≤ w.heap.size
section
variable {w0 w w' : World} {B g : Nat} {c c' d d' : Ch} {v v' : Value} {A A' : Option Addr} {u u' : Value}
theorem Duo.below (F : Duo w0 B g c v d A u w) (hb : Below w.heap.size w w') : Duo w0 B g c v d A u w' :=
  ⟨F.q.below hb, F.r.below hb, fun ad h => (F.far ad h).below hb, F.bw.trans (hb.mono F.bw.size), F.hB.1, Nat.le_trans F.hB.2 hb.size⟩
theorem Duo.refstep (F : Duo w0 B g c v d A u w) (hr : RefC w' d' A' u') (hf : FromA w A A') (hb : Below w.heap.size w w') (hn : 0 < d'.dirs.length) : Duo w0 B g c v d' A' u' w' := by
  refine ⟨F.q.below hb, hr, fun ad' h => ?_, F.bw.trans (hb.mono F.bw.size), F.hB.1, Nat.le_trans F.hB.2 hb.size⟩
  rcases hf ad' h with ⟨ad, hA, he⟩ | hge
  · rw [← he]; exact (F.far ad hA).below hb
  · exact F.q.far hge (hr.lt hn h)
theorem Duo.grown (F : Duo w0 B g c v d A u w) {k : Nat} (hgr : w.grownBy w' (some k)) (hk : Far w g v k) (hA : ∀ ad, A = some ad → ad.block ≠ k) (h0 : w0.heap.size ≤ k) : Duo w0 B g c v d A u w' := by
  refine ⟨⟨F.q.hg.grown hgr (fun e => hk.ne (Option.some.inj e).symm), own1_grown F.q.ho hgr (fun r hr e => hk.nv (by rw [hr]; exact e.symm)), F.q.hB, F.q.ok⟩, F.r.keep hgr.size (fun ad h => ?_), fun ad h => ?_, F.bw.grown hgr F.bw.size (fun r hr => by cases hr; exact h0), F.hB.1, Nat.le_trans F.hB.2 hgr.size⟩
  · exact hgr.block ad.block (F.far ad h).lt (fun e => hA ad h (Option.some.inj e))
  · exact ⟨Nat.lt_of_lt_of_le (F.far ad h).lt hgr.size, (F.far ad h).ne, (F.far ad h).nv⟩
theorem Duo.step (F : Duo w0 B g c v d A u w) (q : ChS B g c' v' w') (s : QStep g v w v' w') : Duo w0 B g c' v' d A u w' :=
  ⟨q, F.r.keep s.out.size (fun ad h => s.heap (F.far ad h)), fun ad h => (F.far ad h).step s, F.q.bw s F.bw F.hB.1 F.hB.2, F.hB.1, Nat.le_trans F.hB.2 s.out.size⟩
end
/-- A new chain's place. -/
theorem alloc_rc (w : World) : ∃ g wZ, (∀ (ρ : Operand → Value) (o : Oper), o.op = .alloc 36 → (execOp ρ o).run Try.prog w = .ok (.value (.pointer (some ⟨g, 0, none⟩))) wZ) ∧ Blk wZ g 36 #[.int .u64 0, .slice none 0 0] ∧ Below w.heap.size w wZ ∧ w.heap.size ≤ g :=
  ⟨w.heap.size, w.alloc (.cells #[.int .u64 0, .slice none 0 0] 36), fun ρ o ho => by unfold execOp; simp only [ho]; go_simp, Blk.new w 36 _, (Below.refl _ w).alloc (Nat.le_refl _) _, Nat.le_refl _⟩
theorem push_len (c : Ch) (s : Nat) : (c.push s).1.dirs.length ≤ c.dirs.length + 1 := by
  unfold Ch.push
  split
  · simp
  · split <;> simp
end Go.Proofs.Ytbamfnlgapchkaa.Chn
