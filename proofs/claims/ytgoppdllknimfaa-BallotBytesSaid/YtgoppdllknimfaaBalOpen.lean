/- Ballots as arguments, opened: one by value, and a slice of them. Conditions: the arguments can be read. -/
import Derived.Test.YtgoppdllknimfaaBalTop
import Derived.Test.YtgoppdllknimfaaOpen
import Derived.Deep.Slices
import Derived.Deep.Fields
import Derived.ChangeSame
import Derived.Lib.SmallJoins
import Derived.WalkKit
namespace Go.Proofs.Ytgoppdllknimfaa
open Go.Joins Go.RowKit Go.WideShapes Go.ChangeShapes Go.Deep
section
variable {H : Type} {enc : TypeId × Value → H} {P : Program} {w : World} {base : Nat} {spare : Nat → Bool} {held : Bool}
theorem open_slice_fields {t e : TypeId} {fs : Array Field} {fuel : Nat} {cs : List Value} {x : DataW H × List MemPlace} (ht : P.underlying t = some (.slice e)) (he : P.underlying e = some (.struct fs))
    (hone : oneCellFields P fs = true) (hC : P.cellsOf e = fs.size) (h : DataW.trod enc P w base spare held fuel t cs = some x) :
    (cs = [.slice none 0 0] ∧ x = (.nil, [])) ∨
    ∃ (a : Addr) (len cap m : Nat) (D : Nat → DataW H) (Pl : Nat → List MemPlace), cs = [.slice (some a) len cap] ∧ base ≤ a.block ∧ len ≤ cap ∧ cap ≤ maxLen ∧ m = (if spare a.block then cap else len) ∧
      x = (.slice ((List.range len).map D) ((List.range (m - len)).map fun j => D (len + j)), MemPlace.row a (m * fs.size) ++ (List.range m).flatMap Pl) ∧
      ∀ i, i < m → ∃ (ys : List (DataW H × List MemPlace)) (n : Nat), D i = .agg (ys.map (·.1)) ∧ Pl i = ys.flatMap (·.2) ∧ ys.length = fs.size ∧
        ∀ (j : Nat) (f : Field), fs[j]? = some f → ∃ (v : Value) (y : DataW H × List MemPlace), w.cell? (a.add (i * fs.size + j)) = some v ∧ ys[j]? = some y ∧ DataW.trod enc P w base spare held n f.type [v] = some y := by
  rcases open_slice ht h with h0 | ⟨a, len, cap, m, n, D, Pl, hcs, hb, hl, hm, hmm, hx, hi⟩
  · exact .inl h0
  · refine .inr ⟨a, len, cap, m, D, Pl, hcs, hb, hl, hm, hmm, by rw [hC] at hx; exact hx, fun i him => ?_⟩
    obtain ⟨cs', hc, ht'⟩ := hi i him
    rw [hC] at hc
    obtain ⟨ys, n', hn', hy, hlen, hyl, hf⟩ := DataW.trod_struct he ht'
    obtain ⟨_, hcl, hat⟩ := World.cells?_some hc
    simp only [Prod.mk.injEq] at hy
    refine ⟨ys, n', hy.1, hy.2, hyl, fun j f hj => ?_⟩
    obtain ⟨ho, hk⟩ := hone_of hone j f hj
    have hjl : j < fs.size := (Array.getElem?_eq_some_iff.1 hj).1
    have hcell := hat j hjl
    have hv : cs'[j]? = some (cs'[j]'(by omega)) := List.getElem?_eq_getElem (by omega)
    have h1 := hf j f hj
    rw [ho, hk] at h1
    have hone' : (cs'.drop j).take 1 = [cs'[j]'(by omega)] := by
      rw [List.drop_eq_getElem_cons (by omega)]
      rfl
    rw [hone'] at h1
    have hys : ys[j]? = some (ys[j]'(by omega)) := List.getElem?_eq_getElem (by omega)
    refine ⟨_, _, ?_, hys, h1.trans hys⟩
    rw [← Go.Deep.add_add, hcell, hv]
end
namespace Bal
variable {H : Type} {enc : TypeId × Value → H} {w : World} {base : Nat}
def Fits (b : B) : Prop := b.n < 18446744073709551616 ∧ b.r < 256
theorem open_bal {v : Value} {d : DataW H} {p : List MemPlace} {r : Reach} (h : DataW.Trod enc Try.prog w 0 (fun _ => true) true 25 v d p) (hk : Value.okWide Try.prog w r base 25 v) : ∃ b : B, v = bV b ∧ Fits b := by
  obtain ⟨v0, v1, y0, y1, n, rfl, _, _, t0, t1⟩ := open_agg2 Try.underlying25 (by kernel_rfl) (by kernel_rfl) hk h
  obtain ⟨z0, e0, _, w0⟩ := DataW.trod_int Try.underlying23 t0
  obtain ⟨z1, e1, _, w1⟩ := DataW.trod_int Try.underlying5 t1
  obtain rfl : v0 = _ := List.head_eq_of_cons_eq e0
  obtain rfl : v1 = _ := List.head_eq_of_cons_eq e1
  have b0 := bounds_u64 w0
  have b1 := bounds_u8 w1
  obtain ⟨x, rfl⟩ := Int.eq_ofNat_of_zero_le b0.1
  obtain ⟨y, rfl⟩ := Int.eq_ofNat_of_zero_le b1.1
  exact ⟨⟨x, y⟩, rfl, by simp only [Fits]; omega⟩
theorem open_balls {v : Value} {d : DataW H} {p : List MemPlace} {r : Reach} (h : DataW.Trod enc Try.prog w 0 (fun _ => true) true 22 v d p) (hk : Value.okWide Try.prog w r base 22 v) :
    ∃ (A : Option Addr) (c : Nat) (l : List B), v = .slice A l.length c ∧ Balls w A l ∧ (∀ b ∈ l, Fits b) ∧ l.length ≤ maxLen := by
  obtain ⟨a0, len, cap, rfl⟩ := okWide_slice Try.underlying22 hk
  obtain ⟨fuel, hf⟩ := h
  rcases open_slice_fields Try.underlying22 Try.underlying25 (by kernel_rfl) (by kernel_rfl) hf with ⟨hcs, _⟩ | ⟨a, len', cap', m, D, Pl, hcs, _, hl, hm, hmm, _, hi⟩
  · simp only [Value.cells, List.cons.injEq, Value.slice.injEq, and_true] at hcs
    obtain ⟨rfl, rfl, rfl⟩ := hcs
    exact ⟨none, 0, [], rfl, (by intro k b hb; simp at hb), by simp, by simp⟩
  · simp only [Value.cells, List.cons.injEq, Value.slice.injEq, and_true] at hcs
    obtain ⟨rfl, rfl, rfl⟩ := hcs
    simp only [if_true] at hmm
    subst hmm
    have key : ∀ k, k ≤ len → ∃ l : List B, l.length = k ∧ (∀ b ∈ l, Fits b) ∧ Balls w (some a) l := by
      intro k
      induction k with
      | zero => intro _; exact ⟨[], rfl, by simp, (by intro k b hb; simp at hb)⟩
      | succ k ih =>
        intro hk
        obtain ⟨l, hlen, hfit, hb⟩ := ih (by omega)
        obtain ⟨ys, n, _, _, _, hj⟩ := hi k (by omega)
        obtain ⟨v0, y0, c0, _, t0⟩ := hj 0 _ rfl
        obtain ⟨v1, y1, c1, _, t1⟩ := hj 1 _ rfl
        obtain ⟨z0, e0, _, w0⟩ := DataW.trod_int Try.underlying23 t0
        obtain ⟨z1, e1, _, w1⟩ := DataW.trod_int Try.underlying5 t1
        obtain rfl : v0 = _ := List.head_eq_of_cons_eq e0
        obtain rfl : v1 = _ := List.head_eq_of_cons_eq e1
        have b0 := bounds_u64 w0
        have b1 := bounds_u8 w1
        obtain ⟨x, rfl⟩ := Int.eq_ofNat_of_zero_le b0.1
        obtain ⟨y, rfl⟩ := Int.eq_ofNat_of_zero_le b1.1
        refine ⟨l ++ [⟨x, y⟩], by simp [hlen], ?_, ?_⟩
        · intro b hb
          rcases List.mem_append.1 hb with hb | hb
          · exact hfit b hb
          · obtain rfl := List.mem_singleton.1 hb
            simp only [Fits]; omega
        · intro j b hjb
          by_cases hjk : j < l.length
          · rw [List.getElem?_append_left hjk] at hjb
            exact hb j b hjb
          · rw [List.getElem?_append_right (by omega)] at hjb
            have hj0 : j - l.length = 0 := by
              rcases Nat.eq_zero_or_pos (j - l.length) with h0 | h0
              · exact h0
              · rw [List.getElem?_eq_none (by simp; omega)] at hjb; cases hjb
            rw [hj0] at hjb
            obtain rfl := Option.some.inj hjb
            obtain rfl : j = k := by omega
            refine ⟨a, rfl, ?_, c0, c1⟩
            have := cell_lt c0
            rwa [block_of_add] at this
    obtain ⟨l, hlen, hfit, hb⟩ := key len (Nat.le_refl _)
    exact ⟨some a, _, l, by rw [hlen], hb, hfit, by omega⟩
end Bal
end Go.Proofs.Ytgoppdllknimfaa
