/- Structs in blocks of their own: loaded and stored whole, a part loaded; results that lie in a cell. Conditions: the block has the struct's cells. -/
import Derived.Test.YteiaiilfekojfaaBase
import Derived.Deep.MidRow
import Derived.Deep.WholeRow
namespace Go.Proofs.Yteiaiilfekojfaa
open Go.RowKit

section
variable {P : Program} {w w' : World} {g : Nat} {t ty : TypeId} {cs old cells : Array Value} {d : TypeDesc}
theorem blk_loadVar (h : Blk w g t cs) (hu : P.underlying ty = some d) (hd : d.isRow = true) (hi : (P.info? ty).map (·.size) = some cs.size) : (loadVar ty ⟨g, 0, none⟩).run P w = .ok (.agg cs) w :=
  run_loadVar_row w g t ty cs (0, 0) d h hu (by cases d <;> first | rfl | cases hd) hi
theorem blk_load (h : Blk w g t cs) (hu : P.underlying ty = some d) (hd : d.isRow = true) (hi : (P.info? ty).map (·.size) = some cs.size) : (Instr.loadAt ty (.pointer (some ⟨g, 0, none⟩))).run P w = .ok (.agg cs) w := by
  simp only [Instr.loadAt, Instr.sureAddr, Sem.run_bind, Sem.run_pure, Result.andThen_ok, blk_loadVar h hu hd hi]
/-- A part of a struct, from cell o on. -/
theorem blk_part (h : Blk w g t cs) (o : Nat) (part : Array Value) (hp : (cs.extract o (o + part.size)).toList = part.toList) (hu : P.underlying ty = some d) (hd : d.isRow = true) (hi : (P.info? ty).map (·.size) = some part.size) : (Instr.loadAt ty (.pointer (some ⟨g, o, none⟩))).run P w = .ok (.agg part) w := by
  have hr := World.rangeAt_of_block (w := w) (b := g) (C := cs) (t := t) (fr := (0, 0)) h o part.size
  rw [hp] at hr
  have := run_loadAt_mid (P := P) w g o ty part.toList d hr hu hd (by rw [hi]; simp)
  simpa using this
theorem blk_store (h : Blk w g t old) (ho : old.size = cells.size) (hi : (P.info? ty).map (·.size) = some cells.size) (h1 : cells.toList.all (·.oneCell') = true) : (Instr.storeAt ty (.pointer (some ⟨g, 0, none⟩)) (.agg cells)).run P w = .ok () (w.setRow g cells) := by
  simp only [Instr.storeAt, Instr.sureAddr, Sem.run_bind, Sem.run_pure, Result.andThen_ok, run_storeVar_row w g t ty old cells h hi ho (by rw [← Array.all_toList]; exact h1)]
theorem setRow_other {k : Nat} (hk : k ≠ g) : (w.setRow g cells).heap[k]? = w.heap[k]? := by
  unfold World.setRow
  simp [Array.getElem?_modify, Ne.symm hk]
theorem Blk.setRow (h : Blk w g t old) : Blk (w.setRow g cells) g t cells := by
  have hs : w.heap[g]? = some (.cells old t (0, 0)) := h
  show (w.setRow g cells).heap[g]? = _
  unfold World.setRow
  simp [Array.getElem?_modify, hs]
theorem Blk.setRowFar {g' : Nat} (h : Blk w g t cs) (hne : g ≠ g') : Blk (w.setRow g' cells) g t cs := (setRow_other hne).trans h
theorem below_setRow {B : Nat} {a : World} (h : Below B a w) (hg : B ≤ g) : Below B a (w.setRow g cells) :=
  ⟨h.os, h.tape, h.output, by show a.heap.size ≤ (w.setRow g cells).heap.size; unfold World.setRow; simpa using h.size, fun k hk => (setRow_other (by omega)).trans (h.block k hk)⟩
theorem grown_setRow {a : World} {row : Option Nat} (h : a.grownBy w row) (hg : a.heap.size ≤ g ∨ row = some g) : a.grownBy (w.setRow g cells) row :=
  ⟨h.os, h.tape, h.output, by show a.heap.size ≤ (w.setRow g cells).heap.size; unfold World.setRow; simpa using h.size, fun k hk hne => (setRow_other (by
    rintro rfl
    rcases hg with hg | hg
    · omega
    · exact hne hg.symm)).trans (h.block k hk hne)⟩
theorem blk_there (h : Blk w g t cs) {o n : Nat} (ho : o + n ≤ cs.size) : w.there g o n := fun j hj => by
  have hlt : o + j < cs.size := by omega
  exact ⟨by rw [h.cell (o + j), Array.getElem?_eq_getElem hlt]; rfl, h.frozen _⟩
/-- A part of a struct stored, from cell o on. -/
theorem blk_put (h : Blk w g t cs) (o : Nat) (part : Array Value) (ho : o + part.size ≤ cs.size) (hi : (P.info? ty).map (·.size) = some part.size) (h1 : part.toList.all (·.oneCell') = true) : (Instr.storeAt ty (.pointer (some ⟨g, o, none⟩)) (.agg part)).run P w = .ok () (w.setCells g o part.toList) :=
  run_storeAt_mid w g o ty part (blk_there h ho) hi (by rw [← Array.all_toList]; exact h1)
def putA : Array Value → Nat → List Value → Array Value
  | cs, _, [] => cs
  | cs, o, v :: vs => putA (cs.setIfInBounds o v) (o + 1) vs
theorem Blk.setCells : ∀ (vs : List Value) {w : World} {cs : Array Value} (o : Nat), Blk w g t cs → Blk (w.setCells g o vs) g t (putA cs o vs)
  | [], _, _, _, h => h
  | v :: vs, _, _, o, h => Blk.setCells vs (o + 1) (h.set_ o v)
theorem Blk.setCellsFar : ∀ (vs : List Value) {w : World} {g' : Nat} (o : Nat), Blk w g t cs → g ≠ g' → Blk (w.setCells g' o vs) g t cs
  | [], _, _, _, h, _ => h
  | v :: vs, _, g', o, h, hne => Blk.setCellsFar vs (o + 1) (h.far (p := ⟨g', o, none⟩) hne v) hne
theorem grown_setCells : ∀ (vs : List Value) {a w : World} (o : Nat), a.grownBy w (some g) → a.grownBy (w.setCells g o vs) (some g)
  | [], _, _, _, h => h
  | v :: vs, _, _, o, h => grown_setCells vs (o + 1) (only_setCell h (p := ⟨g, o, none⟩) (.inl rfl) v)
theorem wp_store {o : Oper} {a : Act} {K : Act → World → Prop} {Q : Exit → Act → World → Prop} (p x : Operand) (ho : o.op = .store ty p x) {pv xv : Value} (hp : a.eval p = pv) (hx : a.eval x = xv)
    (hrun : (Instr.storeAt ty pv xv).run P w = .ok () w') (h : K (a.put o.dst undef) w') : o.wp P a w K Q := by
  unfold Oper.wp execOp
  simp only [ho, hp, hx, Sem.run_bind, Sem.run_pure, Result.andThen_ok, hrun]
  exact h
/-- A store, where a drawn region carries it out; where a plain region does. -/
theorem step_store {ops : Array Oper} {o : Oper} {a : Act} {K : Act → World → Prop} {Q : Exit → Act → World → Prop} {E : Prop} (hgd : o.guard = none) (p x : Operand) (ho : o.op = .store ty p x) {pv xv : Value} (hp : a.eval p = pv) (hx : a.eval x = xv)
    (hrun : (Instr.storeAt ty pv xv).run P w = .ok () w') (h : K (a.put o.dst undef) w') : if Region.wanted o (yielded ops a.tmps) = true then Oper.wp P o a w K Q else E := by
  have hw : Region.wanted o (yielded ops a.tmps) = true := by simp [Region.wanted, hgd]
  rw [if_pos hw]
  exact wp_store p x ho hp hx hrun h
theorem wpList_store {ops : Array Oper} {rest : List Oper} {o : Oper} {a : Act} {Q : Exit → Act → World → Prop} (hgd : o.guard = none) (p x : Operand) (ho : o.op = .store ty p x) {pv xv : Value} (hp : a.eval p = pv) (hx : a.eval x = xv)
    (hrun : (Instr.storeAt ty pv xv).run P w = .ok () w') (h : wpList P ops Q rest (a.put o.dst undef) w') : wpList P ops Q (o :: rest) a w :=
  wpList_plain hgd fun _ hK => wp_store p x ho hp hx hrun (hK _ _ h)
end
end Go.Proofs.Yteiaiilfekojfaa
