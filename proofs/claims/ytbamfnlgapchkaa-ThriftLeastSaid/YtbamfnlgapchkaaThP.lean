/- A memory of who was heard of, in plain Lean: the row, whom the program picks, whom the document picks. No program in sight. No conditions. -/
import Derived.Test.YtbamfnlgapchkaaMemRefPure
namespace Go.Proofs.Ytbamfnlgapchkaa.Thr
open Mem

def heardT (me : Nat) (row : List Nat) (node : Nat) : List Nat := if 6 < node ∨ node = me then row else node :: row.filter fun y => y != node
/-- The row as it may be. -/
structure RowOk (me : Nat) (row : List Nat) : Prop where
  nd : row.Nodup
  lt : ∀ x ∈ row, x < 7
  ne : ∀ x ∈ row, x ≠ me
theorem heard_ok {me : Nat} {row : List Nat} (h : RowOk me row) (node : Nat) : RowOk me (heardT me row node) := by
  unfold heardT
  split
  · exact h
  · rename_i hn
    refine ⟨List.nodup_cons.2 ⟨fun hm => ?_, h.nd.filter _⟩, fun x hx => ?_, fun x hx => ?_⟩
    · simp at hm
    · rcases List.mem_cons.1 hx with rfl | hx
      · omega
      · exact h.lt x (List.mem_filter.1 hx).1
    · rcases List.mem_cons.1 hx with rfl | hx
      · exact fun e => hn (.inr e)
      · exact h.ne x (List.mem_filter.1 hx).1
theorem nodup_sub_len : ∀ {l m : List Nat}, l.Nodup → (∀ x ∈ l, x ∈ m) → l.length ≤ m.length
  | [], _, _, _ => Nat.zero_le _
  | x :: l, m, h, hs => by
    obtain ⟨h1, h2⟩ := List.nodup_cons.1 h
    have hx := hs x (by simp)
    have := nodup_sub_len (m := m.erase x) h2 (fun y hy => (List.mem_erase_of_ne (fun e => h1 (by rw [← e]; exact hy))).2 (hs y (by simp [hy])))
    rw [List.length_erase_of_mem hx] at this
    have := List.length_pos_of_mem hx
    simp only [List.length_cons]
    omega
theorem row_len {me : Nat} {row : List Nat} (h : RowOk me row) : row.length ≤ 7 := by
  have := nodup_sub_len (m := List.range 7) h.nd (fun x hx => List.mem_range.2 (h.lt x hx))
  simpa using this
theorem list_nodup (c : Nat) : (listN c).Nodup := List.Pairwise.filter _ List.nodup_range
def allT (me : Nat) (row : List Nat) (c : Nat) : List Nat := me :: (row ++ listN c)
/-- Those of l that lie in the configuration, each once, but those that were told. -/
def aheadT (l : List Nat) : List Nat → List Nat → List Nat
  | [], _ => []
  | x :: xs, told => if hasL l x = true ∧ hasL told x = false then x :: aheadT l xs (told ++ [x]) else aheadT l xs told
/-- The document's pick: it adds while there is no majority. -/
def pickR (l : List Nat) : List Nat → List Nat → List Nat
  | [], out => out
  | x :: xs, out => pickR l xs (if hasL l x = true ∧ hasL out x = false ∧ majorL l out = false then out ++ [x] else out)
theorem has_iff {l : List Nat} {x : Nat} : hasL l x = true ↔ x ∈ l := by unfold hasL; exact decide_eq_true_iff
theorem pick_len {l out : List Nat} (hl : l.Nodup) (ho : out.Nodup) (hs : ∀ x ∈ out, x ∈ l) : (pickL l out true).length = out.length := by
  unfold pickL
  refine ((List.perm_ext_iff_of_nodup (hl.filter _) ho).2 fun x => ?_).length_eq
  rw [List.mem_filter]
  constructor
  · rintro ⟨_, h⟩; exact has_iff.1 (by simpa using h)
  · intro h; exact ⟨hs x h, by rw [has_iff.2 h]; rfl⟩
theorem major_len {l out : List Nat} (hl : l.Nodup) (ho : out.Nodup) (hs : ∀ x ∈ out, x ∈ l) : majorL l out = decide (l.length < 2 * out.length) := by
  unfold majorL; rw [pick_len hl ho hs]
theorem pick_ahead {l : List Nat} (hl : l.Nodup) : ∀ (xs out : List Nat), out.Nodup → (∀ x ∈ out, x ∈ l) → out.length ≤ l.length / 2 + 1 → pickR l xs out = out ++ (aheadT l xs out).take (l.length / 2 + 1 - out.length)
  | [], out, _, _, _ => by simp [pickR, aheadT]
  | x :: xs, out, hn, hs, hle => by
    unfold pickR aheadT
    rw [major_len hl hn hs]
    by_cases h1 : hasL l x = true ∧ hasL out x = false
    · rw [if_pos h1]
      by_cases h2 : out.length = l.length / 2 + 1
      · rw [if_neg (by simp; intro _ _; omega), h2, Nat.sub_self]
        have := pick_ahead hl xs out hn hs hle
        rw [this, h2, Nat.sub_self]
        simp
      · rw [if_pos ⟨h1.1, h1.2, decide_eq_false (by omega)⟩]
        have hx : x ∉ out := fun h => by have := has_iff.2 h; rw [h1.2] at this; cases this
        have hn' : (out ++ [x]).Nodup := by
          rw [List.nodup_append]
          exact ⟨hn, by simp, by intro a ha b hb e; simp at hb; subst hb; subst e; exact hx ha⟩
        have := pick_ahead hl xs (out ++ [x]) hn' (fun y hy => by
          rcases List.mem_append.1 hy with h | h
          · exact hs y h
          · simp at h; subst h; exact has_iff.1 h1.1) (by simp; omega)
        rw [this, List.length_append, List.length_singleton, show l.length / 2 + 1 - out.length = (l.length / 2 + 1 - (out.length + 1)) + 1 by omega, List.take_succ_cons]
        simp
    · rw [if_neg h1, if_neg (fun h => h1 ⟨h.1, h.2.1⟩)]
      exact pick_ahead hl xs out hn hs hle
end Go.Proofs.Ytbamfnlgapchkaa.Thr
