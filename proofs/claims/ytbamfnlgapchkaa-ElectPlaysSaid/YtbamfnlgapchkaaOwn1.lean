/- A thing in its own block with a row of its own, and what a method of it does to the world: a step; what lies apart. Conditions: those each law names. -/
import Derived.Test.YtbamfnlgapchkaaInvS
import Derived.Deep.DeepAppendRoom
namespace Go.Proofs.Ytbamfnlgapchkaa
open Go.RowKit DrawInv

structure QStep (g : Nat) (v : Value) (w : World) (v' : Value) (w' : World) : Prop where
  out : Outs (g :: v.ownBlock.toList) w w'
  new : ∀ r, v'.ownBlock = some r → v.ownBlock = some r ∨ w.heap.size ≤ r
/-- A block apart from the thing's. -/
structure Far (w : World) (g : Nat) (v : Value) (r : Nat) : Prop where
  lt : r < w.heap.size
  ne : r ≠ g
  nv : v.ownBlock ≠ some r
section
variable {g : Nat} {v v' v'' : Value} {w w' w'' : World}
theorem QStep.of_below (hb : Below w.heap.size w w') : QStep g v w v w' := ⟨Outs.of_below hb, fun _ h => .inl h⟩
theorem Far.step {r : Nat} (h : Far w g v r) (s : QStep g v w v' w') : Far w' g v' r := ⟨Nat.lt_of_lt_of_le h.lt s.out.size, h.ne, fun e => by
  rcases s.new r e with h' | h'
  · exact h.nv h'
  · have := h.lt; omega⟩
theorem Far.out {r : Nat} (h : Far w g v r) : r ∉ (g :: v.ownBlock.toList) := fun hm => by
  rcases List.mem_cons.1 hm with h' | h'
  · exact h.ne h'
  · exact h.nv (by simpa using h')
theorem Far.below {r : Nat} (h : Far w g v r) (hb : Below w.heap.size w w') : Far w' g v r := ⟨Nat.lt_of_lt_of_le h.lt hb.size, h.ne, h.nv⟩
theorem QStep.heap {r : Nat} (s : QStep g v w v' w') (h : Far w g v r) : w'.heap[r]? = w.heap[r]? := s.out.block r h.lt h.out
theorem QStep.blk {r : Nat} {t : TypeId} {cs : Array Value} (s : QStep g v w v' w') (h : Far w g v r) (hb : Blk w r t cs) : Blk w' r t cs := (s.heap h).trans hb
theorem QStep.cell {p : Addr} (s : QStep g v w v' w') (h : Far w g v p.block) : w'.cell? p = w.cell? p := World.cell?_of_block (s.heap h)
/-- What comes behind a call that changes nothing of before. -/
theorem QStep.after_below (hb : Below w.heap.size w w') (s : QStep g v w' v' w'') : QStep g v w v' w'' :=
  ⟨(Outs.of_below hb).trans s.out, fun r h => (s.new r h).imp id (fun h' => Nat.le_trans hb.size h')⟩
theorem QStep.trans_ (s : QStep g v w v' w') (t : QStep g v' w' v'' w'') : QStep g v w v'' w'' := by
  refine ⟨⟨t.out.os.trans s.out.os, t.out.tape.trans s.out.tape, t.out.output.trans s.out.output, Nat.le_trans s.out.size t.out.size, fun k hk hn => ?_⟩, fun r h => ?_⟩
  · have h1 := s.out.block k hk hn
    refine (t.out.block k (Nat.lt_of_lt_of_le hk s.out.size) (fun hm => ?_)).trans h1
    rcases List.mem_cons.1 hm with rfl | h'
    · exact hn (by simp)
    · rcases s.new k (by simpa using h') with h2 | h2
      · exact hn (by simp [h2])
      · omega
  · rcases t.new r h with h' | h'
    · exact s.new r h'
    · exact .inr (Nat.le_trans s.out.size h')
variable {B n size : Nat} {e : TypeId} {u : Value} {xs : List Value}
theorem own1_below {h0 : Nat} (h : w.ownsRow B e size u n xs) (hb : Below h0 w w') (hs : ∀ g, u.ownBlock = some g → g < h0) : w'.ownsRow B e size u n xs := by
  refine ⟨h.1, ?_⟩
  rcases h.2 with h' | ⟨g, cap, cur, rfl, hg, hh, rest⟩
  · exact .inl h'
  · exact .inr ⟨g, cap, cur, rfl, hg, (hb.block g (hs g rfl)).trans hh, rest⟩
theorem own1_keep (h : w.ownsRow B e size u n xs) (hk : ∀ r, u.ownBlock = some r → w'.heap[r]? = w.heap[r]?) : w'.ownsRow B e size u n xs := by
  refine ⟨h.1, ?_⟩
  rcases h.2 with h' | ⟨g', cap, cur, rfl, hb, hh, rest⟩
  · exact .inl h'
  · exact .inr ⟨g', cap, cur, rfl, hb, (hk g' rfl).trans hh, rest⟩
theorem own1_grown (h : w.ownsRow B e size u n xs) {row : Option Nat} (hb : w.grownBy w' row) (hne : ∀ g, u.ownBlock = some g → row ≠ some g) : w'.ownsRow B e size u n xs :=
  own1_keep h fun r hr => hb.block r (h.lt r hr).2 (fun he => hne r hr he.symm)
theorem own1_of_blk {r : Nat} {cs : Array Value} (h : Blk w r e cs) (hB : B ≤ r) (hx : cs.toList = xs) (hn : cs.size = n * size) (hm : n ≤ maxLen) : w.ownsRow B e size (.slice (some ⟨r, 0, none⟩) n n) n xs :=
  ⟨by rw [← hx, Array.length_toList]; exact hn, .inr ⟨r, n, cs, rfl, hB, h, Nat.le_refl _, hm, hn, by rw [hx]; exact List.take_of_length_le (by rw [← hx, Array.length_toList, hn]; exact Nat.le_refl _)⟩⟩
end
end Go.Proofs.Ytbamfnlgapchkaa
