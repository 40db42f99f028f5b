/- A result that lies in a box. Conditions: none. -/
import Derived.Test.YtgbnaifjdfoahaaKeep
import Derived.Test.YtgbnaifjdfoahaaProg
import Derived.RangeFuncBox
namespace Go.Proofs.Ytgbnaifjdfoahaa
open Go.RowKit

theorem results_cell_bool {fn : Func} {p : Tmp} (h : fn.results = #[.cell p 4]) (tmps : Array Value) (w : World) (g : Nat) (b : Bool) (hp : tmps.getD p undef = .pointer (some ⟨g, 0, none⟩)) (hg : Boxed w g 4 (.bool b)) :
    (results fn tmps).run Try.prog w = .ok (.bool b) w := by
  have hp' : tmps[p]?.getD undef = .pointer (some ⟨g, 0, none⟩) := by simpa using hp
  have hc := hg.cell
  have ha : ∀ w : World, (isAgg 4).run Try.prog w = .ok false w := fun _ => by kernel_rfl
  simp [results, h, hp', asAddr, loadVar, go_sem, hc, ha]
end Go.Proofs.Ytgbnaifjdfoahaa
