/- Commands as rows of cells. Conditions: none but those each names. -/
import Derived.Test.YteiaiilfekojfaaCmdCheck
import Derived.Test.YteiaiilfekojfaaRowsReads
namespace Go.Proofs.Yteiaiilfekojfaa.Cmd
open Go.RowKit Wire

def cmL (c : Cm) : List Value := (cmC c).toList
theorem cmL_len (c : Cm) : (cmL c).length = 7 := rfl
theorem cmL_one (c : Cm) : ∀ u ∈ cmL c, u.oneCell' = true := by
  intro u hu
  simp [cmL, cmC] at hu
  rcases hu with rfl | rfl | rfl | rfl | rfl | rfl | rfl <;> rfl
theorem own_grown {w w' : World} {base : Nat} {e : TypeId} {size n : Nat} {v : Value} {xs : List Value} {row : Option Nat} (h : w.ownsRow base e size v n xs) (hb : w.grownBy w' row) (hr : ∀ g, row = some g → g < base) : w'.ownsRow base e size v n xs := by
  have hlt := h.lt
  refine ⟨h.1, ?_⟩
  rcases h.2 with h0 | ⟨g, cap, cur, rfl, hg, hh, rest⟩
  · exact .inl h0
  · exact .inr ⟨g, cap, cur, rfl, hg, (hb.block g (hlt g rfl).2 (fun he => by have := hr g he.symm; omega)).trans hh, rest⟩
theorem cm_row {w : World} {g : Nat} {t : TypeId} {x : Cm} (h : Blk w g t (cmC x)) : Rows w (some ⟨g, 0, none⟩) 7 cmL [x] := by
  have hr : Reads w w.heap.size 7 (some ⟨g, 0, none⟩) 1 (cmL x) := blk_reads (cells := cmL) (x := x) rfl h
  exact reads_rows (l := [x]) cmL_len (by simpa using hr)
end Go.Proofs.Yteiaiilfekojfaa.Cmd
