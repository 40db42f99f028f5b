/- Structs in blocks of their own: loaded and stored whole, a part loaded; results that lie in a cell. Conditions: the block has the struct's cells. -/
import Derived.Deep.MidRow
import Derived.Deep.WholeRow
import Derived.Test.YteiaiilfekojfaaGreatQNetOrderBase
namespace Go.Proofs.YteiaiilfekojfaaGreat
open Go.RowKit

section
variable {P : Program} {w w' : World} {g : Nat} {t ty : TypeId} {cs old cells : Array Value} {d : TypeDesc}
theorem blk_loadVar (h : Blk w g t cs) (hu : P.underlying ty = some d) (hd : d.isRow = true) (hi : (P.info? ty).map (·.size) = some cs.size) : (loadVar ty ⟨g, 0, none⟩).run P w = .ok (.agg cs) w :=
  run_loadVar_row w g t ty cs (0, 0) d h hu (by cases d <;> first | rfl | cases hd) hi
/-- A part of a struct, from cell o on. -/
theorem blk_part (h : Blk w g t cs) (o : Nat) (part : Array Value) (hp : (cs.extract o (o + part.size)).toList = part.toList) (hu : P.underlying ty = some d) (hd : d.isRow = true) (hi : (P.info? ty).map (·.size) = some part.size) : (Instr.loadAt ty (.pointer (some ⟨g, o, none⟩))).run P w = .ok (.agg part) w := by
  have hr := World.rangeAt_of_block (w := w) (b := g) (C := cs) (t := t) (fr := (0, 0)) h o part.size
  rw [hp] at hr
  have := run_loadAt_mid (P := P) w g o ty part.toList d hr hu hd (by rw [hi]; simp)
  simpa using this
theorem blk_there (h : Blk w g t cs) {o n : Nat} (ho : o + n ≤ cs.size) : w.there g o n := fun j hj => by
  have hlt : o + j < cs.size := by omega
  exact ⟨by rw [h.cell (o + j), Array.getElem?_eq_getElem hlt]; rfl, h.frozen _⟩
/-- A part of a struct stored, from cell o on. -/
theorem blk_put (h : Blk w g t cs) (o : Nat) (part : Array Value) (ho : o + part.size ≤ cs.size) (hi : (P.info? ty).map (·.size) = some part.size) (h1 : part.toList.all (·.oneCell') = true) : (Instr.storeAt ty (.pointer (some ⟨g, o, none⟩)) (.agg part)).run P w = .ok () (w.setCells g o part.toList) :=
  run_storeAt_mid w g o ty part (blk_there h ho) hi (by rw [← Array.all_toList]; exact h1)
def putA : Array Value → Nat → List Value → Array Value
  | cs, _, [] => cs
  | cs, o, v :: vs => putA (cs.setIfInBounds o v) (o + 1) vs
theorem Blk.setCells : ∀ (vs : List Value) {w : World} {cs : Array Value} (o : Nat), Blk w g t cs → Blk (w.setCells g o vs) g t (putA cs o vs)
  | [], _, _, _, h => h
  | v :: vs, _, _, o, h => Blk.setCells vs (o + 1) (h.set_ o v)
theorem grown_setCells : ∀ (vs : List Value) {a w : World} (o : Nat), a.grownBy w (some g) → a.grownBy (w.setCells g o vs) (some g)
  | [], _, _, _, h => h
  | v :: vs, _, _, o, h => grown_setCells vs (o + 1) (only_setCell h (p := ⟨g, o, none⟩) (.inl rfl) v)
end
end Go.Proofs.YteiaiilfekojfaaGreat
