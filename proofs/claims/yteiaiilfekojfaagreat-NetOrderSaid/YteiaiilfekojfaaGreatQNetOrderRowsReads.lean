/- Lists of things in memory, one behind the other, and their cells as one row. Conditions: each thing has the same number of cells. -/
import Derived.Test.YteiaiilfekojfaaGreatQNetOrderOpenRows
namespace Go.Proofs.YteiaiilfekojfaaGreat
open Go.RowKit

section
variable {α : Type} {w w' : World} {A : Option Addr} {sz : Nat} {cells : α → List Value} {l : List α}
theorem flat_length (hc : ∀ x, (cells x).length = sz) (l : List α) : (l.flatMap cells).length = l.length * sz := by
  induction l with
  | nil => simp
  | cons x l ih => rw [List.flatMap_cons, List.length_append, ih, hc, List.length_cons, Nat.succ_mul]; omega
theorem flat_get (hc : ∀ x, (cells x).length = sz) : ∀ (l : List α) (k j : Nat), j < sz → (l.flatMap cells)[k * sz + j]? = (l[k]?).bind fun x => (cells x)[j]?
  | [], k, j, _ => by simp
  | x :: l, 0, j, hj => by
    rw [List.flatMap_cons, Nat.zero_mul, Nat.zero_add, List.getElem?_append_left (by rw [hc]; exact hj)]
    rfl
  | x :: l, k + 1, j, hj => by
    rw [List.flatMap_cons, List.getElem?_append_right (by rw [hc, Nat.succ_mul]; omega), hc, show (k + 1) * sz + j - sz = k * sz + j from by rw [Nat.succ_mul]; omega, flat_get hc l k j hj]
    rfl
theorem rows_reads (hc : ∀ x, (cells x).length = sz) (hs : 0 < sz) (h : Rows w A sz cells l) : Reads w w.heap.size sz A l.length (l.flatMap cells) := by
  refine ⟨flat_length hc l, fun hn => ?_⟩
  obtain ⟨ad, rfl, hb, _⟩ := h 0 l[0] (List.getElem?_eq_getElem hn)
  refine ⟨ad, rfl, hb, fun i u hu => ?_⟩
  have hi : i = (i / sz) * sz + i % sz := by rw [Nat.mul_comm]; exact (Nat.div_add_mod i sz).symm
  have hm := Nat.mod_lt i hs
  rw [hi, flat_get hc l _ _ hm] at hu
  obtain ⟨x, hx, hv⟩ := Option.bind_eq_some_iff.1 hu
  obtain ⟨ad', e, _, hcell⟩ := h _ x hx
  obtain rfl := Option.some.inj e
  rw [hi]
  exact hcell _ u hv
theorem reads_rows (hc : ∀ x, (cells x).length = sz) (h : Reads w w.heap.size sz A l.length (l.flatMap cells)) : Rows w A sz cells l := by
  intro k x hk
  obtain ⟨hkl, _⟩ := List.getElem?_eq_some_iff.1 hk
  obtain ⟨ad, rfl, hb, hcell⟩ := h.2 (by omega)
  refine ⟨ad, rfl, hb, fun j v hv => hcell _ v ?_⟩
  have hj : j < sz := by have := (List.getElem?_eq_some_iff.1 hv).1; rw [hc] at this; exact this
  rw [flat_get hc l k j hj, hk]
  exact hv
/-- A slice of one's own, as a list of things. -/
theorem own_rows {base : Nat} {e : TypeId} {v : Value} (hc : ∀ x, (cells x).length = sz) (hs : 0 < sz) (h : w.ownsRow base e sz v l.length (l.flatMap cells)) : ∃ A c, v = .slice A l.length c ∧ l.length ≤ c ∧ Rows w A sz cells l := by
  have h' := h
  rcases h.2 with ⟨rfl, h0⟩ | ⟨g, cap, cur, rfl, _, _, hcp, _⟩
  · have hl : l.length = 0 := by
      have := flat_length hc l
      rw [h0] at this
      rcases Nat.eq_zero_or_pos l.length with h1 | h1
      · exact h1
      · have := Nat.mul_pos h1 hs; simp at *; omega
    obtain rfl : l = [] := List.eq_nil_of_length_eq_zero hl
    exact ⟨none, 0, rfl, Nat.le_refl _, Rows.nil _ _ _ _⟩
  · exact ⟨_, _, rfl, hcp, reads_rows hc (Reads.of_own h')⟩
theorem Rows.setCell (h : Rows w A sz cells l) {p : Addr} (hp : ∀ ad, A = some ad → ad.block ≠ p.block) (u : Value) : Rows (w.setCell p u) A sz cells l := by
  intro k x hk
  obtain ⟨ad, rfl, hb, h0⟩ := h k x hk
  refine ⟨ad, rfl, by simpa using hb, fun j v hv => ?_⟩
  rw [World.cell?_setCell_other w p (ad.add (k * sz + j)) u (fun e => hp ad rfl (by rw [e, block_of_add]))]
  exact h0 j v hv
theorem flat_one (h1 : ∀ x, ∀ u ∈ cells x, u.oneCell' = true) (l : List α) : ∀ u ∈ l.flatMap cells, u.oneCell' = true := by
  intro u hu
  obtain ⟨x, _, hx⟩ := List.mem_flatMap.1 hu
  exact h1 x u hx
end
end Go.Proofs.YteiaiilfekojfaaGreat
