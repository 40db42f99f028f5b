/- A map with keys of an integer kind, its entries laid open. Conditions: none. -/
import Derived.MapKept
import Derived.RangeFuncRecord
import Derived.Test.YteiaiilfekojfaaGreatQNetOrderBase
namespace Go.Proofs.YteiaiilfekojfaaGreat
open Go.RowKit Go.MapKept

section
variable {P : Program} {w : World} {t kt et : TypeId} {k : IntKind} {g clock : Nat} {es : Array MapEntry}
theorem map_getObj (hg : w.heap[g]? = some (.map es clock)) : (getObj g).run P w = .ok (.map es clock) w := by simp [getObj, Sem.run, hg]
theorem map_setObj {o : Obj} (hg : w.heap[g]? = some (.map es clock)) : (setObj g o).run P w = .ok () (w.putObj g o) := by simp [setObj, Sem.run, hg, World.putObj]
set_option linter.unusedSimpArgs false in
theorem map_put_new (ht : P.underlying t = some (.map kt et)) (hk : P.underlying kt = some (.int k)) (hg : w.heap[g]? = some (.map es clock)) (n : Int) (v : Value)
    (hf : Instr.findNow (.int k) (.int k n) es.toList 0 = some none) :
    (Instr.mapUpdate t (.map (some g)) (.int k n) v).run P w = .ok () (w.putObj g (.map (es.push { key := .int k n, val := v, born := clock }) (clock + 1))) := by
  unfold Instr.mapUpdate
  simp only [Sem.run_bind, run_underlying ht, Result.andThen, map_getObj hg]
  rw [run_checkKey hk (by trivial) false 9999]
  simp only [Result.andThen]
  have hfk : (Instr.findKey kt (.int k n) es.toList).run P w = .ok none w := by
    unfold Instr.findKey
    simp only [Sem.run_bind, run_underlying hk, Result.andThen, hf, Sem.run_pure]
  rw [hfk]
  simp only [Result.andThen, map_setObj hg]
set_option linter.unusedSimpArgs false in
theorem map_look (ht : P.underlying t = some (.map kt et)) (hk : P.underlying kt = some (.int k)) (hg : w.heap[g]? = some (.map es clock)) (n : Int) (z : Value) (hz : (zeroValue et).run P w = .ok z w) (r : Option (Nat × Value))
    (hf : Instr.findNow (.int k) (.int k n) es.toList 0 = some r) :
    (Instr.lookup t (.map (some g)) (.int k n) true).run P w = .ok (.tuple #[(r.map (·.2)).getD z, .bool r.isSome]) w := by
  unfold Instr.lookup
  simp only [Sem.run_bind, run_underlying ht, Result.andThen, map_getObj hg, Sem.run_pure]
  rw [run_checkKey hk (by trivial) es.isEmpty 9999]
  simp only [Result.andThen]
  have hfk : (Instr.findKey kt (.int k n) es.toList).run P w = .ok r w := by
    unfold Instr.findKey
    simp only [Sem.run_bind, run_underlying hk, Result.andThen, hf, Sem.run_pure]
  rw [hfk]
  cases r with
  | none => simp [Result.andThen, hz]
  | some p => simp [Result.andThen]
end
end Go.Proofs.YteiaiilfekojfaaGreat
