/- The reference's numbers and texts as bytes, walked: the same bytes. Conditions: the arguments are of their types. -/
import Derived.Deep.DeepMust
import Derived.Test.YteiaiilfekojfaaGreatQNetOrderWireWakes
namespace Go.Proofs.YteiaiilfekojfaaGreat.Wire
open Go.RowKit

theorem own_new {w : World} {base : Nat} (t : TypeId) (v : Value) (hb : base ≤ w.heap.size) : (w.alloc (.cells #[v] t)).ownsRow base t 1 (.slice (some ⟨w.heap.size, 0, none⟩) 1 1) 1 [v] :=
  ⟨rfl, .inr ⟨w.heap.size, 1, #[v], rfl, hb, heap_alloc_new w _, Nat.le_refl _, by decide, rfl, rfl⟩⟩
end Go.Proofs.YteiaiilfekojfaaGreat.Wire
