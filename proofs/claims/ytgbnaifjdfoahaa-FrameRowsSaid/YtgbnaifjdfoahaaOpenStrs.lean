/- A slice of texts as an argument, opened. Conditions: the argument can be read. -/
import Derived.Test.YtgbnaifjdfoahaaFrameSplit
import Derived.Test.YtgbnaifjdfoahaaOpen
import Derived.Deep.Strs
namespace Go.Proofs.Ytgbnaifjdfoahaa.Frame
open Go.RowKit Go.WideShapes Go.ChangeShapes

theorem open_texts {H : Type} {enc : TypeId × Value → H} {P : Program} {w : World} {base : Nat} {t e : TypeId} {v : Value} {d : DataW H} {p : List MemPlace} {r : Reach} (ht : P.underlying t = some (.slice e)) (he : P.underlying e = some .string) (hc : P.cellsOf e = 1)
    (h : DataW.Trod enc P w 0 (fun _ => true) true t v d p) (hk : Value.okWide P w r base t v) :
    ∃ (A : Option Addr) (c : Nat) (l : List (List UInt8)), v = .slice A l.length c ∧ Reads w w.heap.size 1 A l.length (sv l) ∧ l.length ≤ c ∧ c ≤ maxLen := by
  obtain ⟨a0, len, cap, rfl⟩ := okWide_slice ht hk
  obtain ⟨fuel, hf⟩ := h
  rcases Deep.open_strs ht he hc hf with ⟨hcs, _⟩ | ⟨a, len', cap', m, Sx, hcs, _, hl, hm, hmm, _, hcell⟩
  · simp only [Value.cells, List.cons.injEq, Value.slice.injEq, and_true] at hcs
    obtain ⟨rfl, rfl, rfl⟩ := hcs
    exact ⟨none, 0, [], rfl, Reads.none_, by simp, by simp⟩
  · simp only [Value.cells, List.cons.injEq, Value.slice.injEq, and_true] at hcs
    obtain ⟨rfl, rfl, rfl⟩ := hcs
    simp only [if_true] at hmm
    refine ⟨some a, cap, (List.range len).map fun i => (Sx i).data.toList, by simp, ⟨by simp [sv], fun hn => ⟨a, rfl, ?_, ?_⟩⟩, by simpa using hl, hm⟩
    · rw [List.length_map, List.length_range] at hn
      have := cell_lt (hcell 0 (by omega)).1
      rwa [block_of_add] at this
    · intro j u hu
      unfold sv at hu
      rw [List.getElem?_map, List.getElem?_map] at hu
      rcases Nat.lt_or_ge j len with hj | hj
      · rw [List.getElem?_range hj] at hu
        simp only [Option.map_some, Option.some.injEq] at hu
        rw [(hcell j (by omega)).1, ← hu]
        simp [strV]
      · rw [List.getElem?_eq_none (by simpa using hj)] at hu
        simp at hu
end Go.Proofs.Ytgbnaifjdfoahaa.Frame
