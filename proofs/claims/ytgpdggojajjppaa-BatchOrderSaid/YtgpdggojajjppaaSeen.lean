/- A map from small numbers to bool, as a set that grows: a key that is not in it is looked up and put; numbers that go round are all different. Conditions: those each law names. -/
import Derived.Test.YtgpdggojajjppaaMapInt
namespace Go.Proofs.Ytgpdggojajjppaa
open Go.RowKit Go.MapKept

theorem findNow_none {k : IntKind} {y : Int} : ∀ (es : List MapEntry) (i : Nat), (∀ e ∈ es, ∃ x : Int, e.key = .int k x ∧ x ≠ y) → Instr.findNow (.int k) (.int k y) es i = some none
  | [], _, _ => rfl
  | e :: es, i, h => by
    obtain ⟨x, hx, hne⟩ := h e (by simp)
    unfold Instr.findNow
    rw [hx]
    have hs : Instr.sameNow (.int k) (.int k y) (.int k x) = some false := by
      show (if k = k then some (y == x) else none) = some false
      rw [if_pos rfl, beq_eq_false_iff_ne.2 (Ne.symm hne)]
    rw [hs]
    exact findNow_none es (i + 1) fun e' he => h e' (by simp [he])
section
variable {P : Program} {w : World} {t kt et : TypeId} {k : IntKind} {g clock : Nat} {es : Array MapEntry}
set_option linter.unusedSimpArgs false in
/-- What is not there, asked for without the second result. -/
theorem map_miss (ht : P.underlying t = some (.map kt et)) (hk : P.underlying kt = some (.int k)) (hg : w.heap[g]? = some (.map es clock)) (n : Int) (z : Value) (hz : (zeroValue et).run P w = .ok z w)
    (hf : Instr.findNow (.int k) (.int k n) es.toList 0 = some none) :
    (Instr.lookup t (.map (some g)) (.int k n) false).run P w = .ok z w := by
  unfold Instr.lookup
  simp only [Sem.run_bind, run_underlying ht, Result.andThen, map_getObj hg, Sem.run_pure]
  rw [run_checkKey hk (by trivial) es.isEmpty 9999]
  simp only [Result.andThen]
  have hfk : (Instr.findKey kt (.int k n) es.toList).run P w = .ok none w := by
    unfold Instr.findKey
    simp only [Sem.run_bind, run_underlying hk, Result.andThen, hf, Sem.run_pure]
  rw [hfk]
  simp [Result.andThen, hz]
end
/-- The map at g holds these keys. -/
def SeenAt (w : World) (g : Nat) (k : IntKind) (K : List Nat) : Prop := ∃ es clock, w.heap[g]? = some (.map es clock) ∧ es.toList.map (·.key) = K.map fun x => .int k (x : Int)
theorem SeenAt.below {B : Nat} {w w' : World} {g : Nat} {k : IntKind} {K : List Nat} (h : SeenAt w g k K) (hb : Below B w w') (hg : g < B) : SeenAt w' g k K := by
  obtain ⟨es, c, h1, h2⟩ := h
  exact ⟨es, c, (hb.block g hg).trans h1, h2⟩
theorem SeenAt.lt {w : World} {g : Nat} {k : IntKind} {K : List Nat} (h : SeenAt w g k K) : g < w.heap.size := by
  obtain ⟨es, c, h1, _⟩ := h
  exact (Array.getElem?_eq_some_iff.1 h1).1
theorem SeenAt.grown {w w' : World} {g : Nat} {k : IntKind} {K : List Nat} {row : Option Nat} (h : SeenAt w g k K) (hb : w.grownBy w' row) (hg : some g ≠ row) : SeenAt w' g k K := by
  have hlt := h.lt
  obtain ⟨es, c, h1, h2⟩ := h
  exact ⟨es, c, (hb.block g hlt hg).trans h1, h2⟩
theorem seen_keys {es : Array MapEntry} {k : IntKind} {K : List Nat} (h : es.toList.map (·.key) = K.map fun x => .int k (x : Int)) (y : Nat) (hy : y ∉ K) : ∀ e ∈ es.toList, ∃ x : Int, e.key = .int k x ∧ x ≠ (y : Int) := by
  intro e he
  have hm : e.key ∈ es.toList.map (·.key) := List.mem_map.2 ⟨e, he, rfl⟩
  rw [h] at hm
  obtain ⟨x, hx, hk⟩ := List.mem_map.1 hm
  exact ⟨x, hk.symm, fun hxy => hy (by have : x = y := by omega
                                       rw [← this]; exact hx)⟩
/-- A key that is not in the set: looked up, it is not there; put, it is. -/
theorem seen_look {P : Program} {w : World} {t kt et : TypeId} {k : IntKind} {g : Nat} {K : List Nat} (h : SeenAt w g k K) (ht : P.underlying t = some (.map kt et)) (hk : P.underlying kt = some (.int k)) (z : Value) (hz : (zeroValue et).run P w = .ok z w) (y : Nat) (hy : y ∉ K) :
    (Instr.lookup t (.map (some g)) (.int k (y : Int)) false).run P w = .ok z w := by
  obtain ⟨es, c, h1, h2⟩ := h
  exact map_miss ht hk h1 _ z hz (findNow_none _ _ (seen_keys h2 y hy))
theorem seen_put {P : Program} {w : World} {t kt et : TypeId} {k : IntKind} {g : Nat} {K : List Nat} (h : SeenAt w g k K) (ht : P.underlying t = some (.map kt et)) (hk : P.underlying kt = some (.int k)) (v : Value) (y : Nat) (hy : y ∉ K) :
    ∃ w', (Instr.mapUpdate t (.map (some g)) (.int k (y : Int)) v).run P w = .ok () w' ∧ SeenAt w' g k (K ++ [y]) ∧ (∀ B a, Below B a w → B ≤ g → Below B a w') ∧ ∀ g' t' cs, Blk w g' t' cs → g' ≠ g → Blk w' g' t' cs := by
  have hlt := h.lt
  obtain ⟨es, c, h1, h2⟩ := h
  refine ⟨_, map_put_new ht hk h1 _ v (findNow_none _ _ (seen_keys h2 y hy)), ⟨_, _, World.putObj_heap_same hlt, by simp [h2]⟩, fun B a hb hB => ?_, fun g' t' cs hb hne => (World.putObj_heap_other hne).trans hb⟩
  exact ⟨hb.os, hb.tape, hb.output, by rw [World.putObj_size]; exact hb.size, fun i hi => (World.putObj_heap_other (by omega)).trans (hb.block i hi)⟩
/-- The places that come up when one goes round from s. -/
def roundK (s n k : Nat) : List Nat := (List.range k).map fun j => (s + j + 1) % n
theorem roundK_succ (s n k : Nat) : roundK s n (k + 1) = roundK s n k ++ [(s + k + 1) % n] := by unfold roundK; rw [List.range_succ, List.map_append]; rfl
theorem round_new (s n k : Nat) (hk : k < n) : (s + k + 1) % n ∉ roundK s n k := by
  intro h
  obtain ⟨j, hj, he⟩ := List.mem_map.1 h
  have hj := List.mem_range.1 hj
  have := Nat.sub_mod_eq_zero_of_mod_eq (m := s + k + 1) (n := s + j + 1) (k := n) he.symm
  rw [show s + k + 1 - (s + j + 1) = k - j from by omega, Nat.mod_eq_of_lt (by omega)] at this
  omega
end Go.Proofs.Ytgpdggojajjppaa
