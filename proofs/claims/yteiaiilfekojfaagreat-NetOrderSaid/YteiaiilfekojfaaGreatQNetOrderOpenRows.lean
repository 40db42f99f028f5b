/- Arguments of struct types and slices of them, opened by the type's shape, whatever its depth. Conditions: the arguments can be read. -/
import Derived.Deep.Slices
import Derived.Deep.Fields
import Derived.ChangeSame
import Derived.Lib.SmallJoins
import Derived.WalkKit
import Derived.Test.YteiaiilfekojfaaGreatQNetOrderOpen
namespace Go.Proofs.YteiaiilfekojfaaGreat
open Go.Joins Go.RowKit Go.WideShapes Go.ChangeShapes Go.Deep

/-- What cells that can be read at a type look like. -/
def Leafy (P : Program) (w : World) : Nat → TypeId → List Value → Prop
  | 0, _, _ => False
  | n + 1, t, cs =>
    match P.underlying t with
    | some .bool => ∃ b, cs = [.bool b]
    | some (.int k) => ∃ z, cs = [.int k z] ∧ (Lit.int k z).wf = true
    | some .string => ∃ l : List UInt8, cs = [.string ⟨l.toArray⟩] ∧ l.length ≤ 9223372036854775807
    | some (.struct fs) => cs.length = P.cellsOf t ∧ ∀ (j : Nat) (f : Field), fs[j]? = some f → Leafy P w n f.type ((cs.drop f.offset).take (P.cellsOf f.type))
    | some (.array k e) => cs.length = P.cellsOf t ∧ ∀ i, i < k → Leafy P w n e ((cs.drop (i * P.cellsOf e)).take (P.cellsOf e))
    | some (.slice e) => cs = [.slice none 0 0] ∨ ∃ a len cap, cs = [.slice (some a) len cap] ∧ len ≤ cap ∧ cap ≤ 9223372036854775807 ∧
        ∀ i, i < len → ∃ es : List Value, es.length = P.cellsOf e ∧ Leafy P w n e es ∧ ∀ j v, es[j]? = some v → w.cell? (a.add (i * P.cellsOf e + j)) = some v
    | _ => True

section
variable {H : Type} {enc : TypeId × Value → H} {P : Program} {w : World} {base : Nat} {spare : Nat → Bool} {held : Bool}
theorem leafy_of : ∀ (n : Nat) (t : TypeId) (cs : List Value) (x : DataW H × List MemPlace), DataW.trod enc P w base spare held n t cs = some x → Leafy P w n t cs
  | 0, _, _, _, h => by simp [DataW.trod] at h
  | n + 1, t, cs, x, h => by
    unfold Leafy
    split
    · rename_i hu
      unfold DataW.trod at h
      rw [hu] at h
      split at h <;> simp_all
    · rename_i k hu
      obtain ⟨z, hz, _, hw⟩ := DataW.trod_int hu h
      exact ⟨z, hz, hw⟩
    · rename_i hu
      obtain ⟨s, hs, _, hw⟩ := DataW.trod_string hu h
      obtain ⟨⟨l⟩⟩ := s
      exact ⟨l, hs, by
        have e : (ByteArray.mk l.toArray).size = l.length := by simp [ByteArray.size]
        unfold maxLen at hw
        rw [e] at hw
        omega⟩
    · rename_i fs hu
      obtain ⟨xs, m, hm, _, hl, hlen, hf⟩ := DataW.trod_struct hu h
      obtain rfl : n = m := by omega
      refine ⟨hl, fun j f hj => ?_⟩
      have hjl : j < xs.length := by rw [hlen]; exact (Array.getElem?_eq_some_iff.1 hj).1
      exact leafy_of n _ _ _ ((hf j f hj).trans (List.getElem?_eq_getElem hjl))
    · rename_i k e hu
      obtain ⟨xs, m, hm, _, hl, hlen, hf⟩ := DataW.trod_array hu h
      obtain rfl : n = m := by omega
      refine ⟨hl, fun i hi => ?_⟩
      exact leafy_of n _ _ _ ((hf i hi).trans (List.getElem?_eq_getElem (by omega)))
    · rename_i e hu
      rcases DataW.trod_slice hu h with ⟨h0, _⟩ | ⟨a, len, cap, elems, rest, m, hm, rfl, _, hb, hl, hc, hlen, hel, _, _⟩
      · exact .inl h0
      · obtain rfl : n = m := by omega
        refine .inr ⟨a, len, cap, rfl, hl, by unfold maxLen at hc; omega, fun i hi => ?_⟩
        obtain ⟨cs', hc, ht'⟩ := Option.bind_eq_some_iff.1 ((hel i hi).trans (List.getElem?_eq_getElem (by omega)))
        obtain ⟨_, hcl, hat⟩ := World.cells?_some hc
        refine ⟨cs', hcl, leafy_of n _ _ _ ht', fun j v hj => ?_⟩
        have hjl : j < cs'.length := (List.getElem?_eq_some_iff.1 hj).1
        rw [← Go.Deep.add_add, hat j (by omega), hj]
    · trivial
theorem leafy_trod {t : TypeId} {v : Value} {d : DataW H} {p : List MemPlace} (h : DataW.Trod enc P w base spare held t v d p) : ∃ n, Leafy P w n t v.cells.toList := by
  obtain ⟨n, hn⟩ := h
  exact ⟨n, leafy_of n _ _ _ hn⟩
end

/-- A list of things lies in memory, 'sz' cells each. -/
def Rows {α : Type} (w : World) (A : Option Addr) (sz : Nat) (cells : α → List Value) (l : List α) : Prop :=
  ∀ (k : Nat) (x : α), l[k]? = some x → ∃ ad, A = some ad ∧ ad.block < w.heap.size ∧ ∀ (j : Nat) (v : Value), (cells x)[j]? = some v → w.cell? (ad.add (k * sz + j)) = some v
section
variable {α : Type} {w w' : World} {A : Option Addr} {sz : Nat} {cells : α → List Value} {l : List α}
theorem Rows.below (h : Rows w A sz cells l) (hb : Below w.heap.size w w') : Rows w' A sz cells l := by
  intro k x hk
  obtain ⟨ad, e, hl, h0⟩ := h k x hk
  exact ⟨ad, e, Nat.lt_of_lt_of_le hl hb.size, fun j v hj => (hb.cell (by rw [block_of_add]; exact hl)).trans (h0 j v hj)⟩
theorem Rows.nil (w : World) (A : Option Addr) (sz : Nat) (cells : α → List Value) : Rows w A sz cells [] := by intro k b hb; simp at hb
theorem add_off (ad : Addr) (n j : Nat) : ({ block := (ad.add n).block, off := (ad.add n).off + (j + 1) } : Addr) = ad.add (n + (j + 1)) := by
  unfold Addr.add
  by_cases h : n = 0 <;> simp [h, Nat.add_assoc]
/-- The cells of one of them, at the addresses as a walk reckons them. -/
theorem Rows.at_ (h : Rows w A sz cells l) {k : Nat} {x : α} (hk : l[k]? = some x) : ∃ ad, A = some ad ∧ ad.block < w.heap.size ∧
    (∀ v, (cells x)[0]? = some v → w.cell? (ad.add (k * sz)) = some v) ∧
    (∀ (j : Nat) (v : Value), (cells x)[j + 1]? = some v → w.cell? { block := (ad.add (k * sz)).block, off := (ad.add (k * sz)).off + (j + 1) } = some v) := by
  obtain ⟨ad, e, hl, h0⟩ := h k x hk
  refine ⟨ad, e, hl, fun v hv => h0 0 v hv, fun j v hv => ?_⟩
  rw [add_off]
  exact h0 (j + 1) v hv
theorem rows_of {a : Addr} {m : Nat} {Q : α → Prop} (h : ∀ i, i < m → ∃ x, Q x ∧ ∃ es : List Value, es = cells x ∧ ∀ j v, es[j]? = some v → w.cell? (a.add (i * sz + j)) = some v) (hne : ∀ x, 0 < (cells x).length) :
    ∃ l : List α, l.length = m ∧ (∀ x ∈ l, Q x) ∧ Rows w (some a) sz cells l := by
  refine ⟨List.ofFn fun i : Fin m => Classical.choose (h i.1 i.2), by simp, ?_, ?_⟩
  · intro x hx
    obtain ⟨i, rfl⟩ := List.mem_ofFn.1 hx
    exact (Classical.choose_spec (h i.1 i.2)).1
  · intro k x hk
    rw [List.getElem?_ofFn] at hk
    split at hk
    · rename_i hkm
      obtain rfl := Option.some.inj hk
      obtain ⟨_, es, he, hc⟩ := Classical.choose_spec (h k hkm)
      generalize Classical.choose (h k hkm) = x at *
      subst he
      refine ⟨a, rfl, ?_, hc⟩
      have h0 := hc 0 _ (List.getElem?_eq_getElem (hne x))
      have := cell_lt h0
      rwa [block_of_add] at this
    · cases hk
/-- A slice that can be read, as a list. -/
theorem open_rows {H : Type} {enc : TypeId × Value → H} {P : Program} {base : Nat} {t e : TypeId} {v : Value} {d : DataW H} {p : List MemPlace} {r : Reach} {Q : α → Prop}
    (ht : P.underlying t = some (.slice e)) (hsz : P.cellsOf e = sz) (hne : ∀ x, 0 < (cells x).length) (dec : ∀ n es, es.length = sz → Leafy P w n e es → ∃ x, Q x ∧ es = cells x)
    (h : DataW.Trod enc P w 0 (fun _ => true) true t v d p) (hk : Value.okWide P w r base t v) :
    ∃ (A : Option Addr) (c : Nat) (l : List α), v = .slice A l.length c ∧ Rows w A sz cells l ∧ (∀ x ∈ l, Q x) ∧ l.length ≤ 9223372036854775807 := by
  obtain ⟨a0, len, cap, rfl⟩ := okWide_slice ht hk
  obtain ⟨n, hn⟩ := leafy_trod h
  cases n with
  | zero => exact hn.elim
  | succ n =>
    unfold Leafy at hn
    rw [ht] at hn
    simp only at hn
    rcases hn with h0 | ⟨a, len', cap', h0, hl, hc, hi⟩
    · simp only [Value.cells, List.cons.injEq, Value.slice.injEq, and_true] at h0
      obtain ⟨rfl, rfl, rfl⟩ := h0
      exact ⟨none, 0, [], rfl, Rows.nil _ _ _ _, by simp, by simp⟩
    · simp only [Value.cells, List.cons.injEq, Value.slice.injEq, and_true] at h0
      obtain ⟨rfl, rfl, rfl⟩ := h0
      obtain ⟨l, h1, h2, h3⟩ := rows_of (w := w) (sz := sz) (cells := cells) (a := a) (m := len) (Q := Q) (fun i hil => by
        obtain ⟨es, e1, e2, e3⟩ := hi i hil
        obtain ⟨x, hx, he⟩ := dec n es (by rw [e1, hsz]) e2
        exact ⟨x, hx, es, he, by rw [hsz] at e3; exact e3⟩) hne
      exact ⟨some a, _, l, by rw [h1], h3, h2, by omega⟩
theorem leafy_int {P : Program} {n : Nat} {t : TypeId} {k : IntKind} {cs : List Value} (ht : P.underlying t = some (.int k)) (h : Leafy P w n t cs) : ∃ z, cs = [.int k z] ∧ (Lit.int k z).wf = true := by
  cases n with
  | zero => exact h.elim
  | succ n => unfold Leafy at h; rw [ht] at h; exact h
theorem leafy_struct {P : Program} {n : Nat} {t : TypeId} {fs : Array Field} {cs : List Value} (ht : P.underlying t = some (.struct fs)) (h : Leafy P w n t cs) :
    ∃ m, cs.length = P.cellsOf t ∧ ∀ (j : Nat) (f : Field), fs[j]? = some f → Leafy P w m f.type ((cs.drop f.offset).take (P.cellsOf f.type)) := by
  cases n with
  | zero => exact h.elim
  | succ n => unfold Leafy at h; rw [ht] at h; exact ⟨n, h⟩
end
end Go.Proofs.YteiaiilfekojfaaGreat
