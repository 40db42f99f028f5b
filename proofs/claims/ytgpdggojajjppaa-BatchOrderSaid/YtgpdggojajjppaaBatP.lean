/- A queue of commands in plain Lean. No program in sight. No conditions. -/
import Derived.Test.YtgpdggojajjppaaCmdL
namespace Go.Proofs.Ytgpdggojajjppaa.Bat
open Go.RowKit Wire Cmd

/-- Where a client's command waits. -/
def findN (l : List Cm) (k : Nat) : Option Nat := l.findIdx? fun c => decide (c.client = k)
def findI (l : List Cm) (k : Nat) : Int := match findN l k with | some i => (i : Int) | none => -1
theorem find_lt {l : List Cm} {k i : Nat} (h : findN l k = some i) : i < l.length := by
  unfold findN at h
  exact (List.findIdx?_eq_some_iff_getElem.1 h).1
theorem find_at {l : List Cm} {k i : Nat} (h : findN l k = some i) : ∃ c, l[i]? = some c ∧ c.client = k := by
  unfold findN at h
  obtain ⟨hi, h1, _⟩ := List.findIdx?_eq_some_iff_getElem.1 h
  exact ⟨l[i], List.getElem?_eq_getElem hi, of_decide_eq_true h1⟩
theorem find_first {l : List Cm} {k i : Nat} (h : findN l k = some i) : ∀ j, j < i → ∀ c : Cm, l[j]? = some c → c.client ≠ k := by
  unfold findN at h
  obtain ⟨hi, _, h1⟩ := List.findIdx?_eq_some_iff_getElem.1 h
  intro j hj c hc he
  have hjl : j < l.length := by omega
  rw [List.getElem?_eq_getElem hjl] at hc
  cases hc
  exact h1 j hj (decide_eq_true he)
theorem find_none {l : List Cm} {k : Nat} (h : findN l k = none) : ∀ c ∈ l, c.client ≠ k := by
  unfold findN at h
  intro c hc he
  have := List.findIdx?_eq_none_iff.1 h c hc
  simp [he] at this
theorem find_is {l : List Cm} {k i : Nat} {c : Cm} (h1 : l[i]? = some c) (h2 : c.client = k) (h3 : ∀ j, j < i → ∀ c : Cm, l[j]? = some c → c.client ≠ k) : findN l k = some i := by
  unfold findN
  have hi : i < l.length := (List.getElem?_eq_some_iff.1 h1).1
  refine List.findIdx?_eq_some_iff_getElem.2 ⟨hi, ?_, fun j hj => ?_⟩
  · rw [List.getElem?_eq_getElem hi] at h1
    cases h1
    exact decide_eq_true h2
  · have hjl : j < l.length := by omega
    have := h3 j hj _ (List.getElem?_eq_getElem hjl)
    simpa using this
theorem find_isnone {l : List Cm} {k : Nat} (h : ∀ (j : Nat) (c : Cm), l[j]? = some c → c.client ≠ k) : findN l k = none := by
  unfold findN
  refine List.findIdx?_eq_none_iff.2 fun c hc => ?_
  obtain ⟨j, hj⟩ := List.getElem?_of_mem hc
  simpa using h j c hj
/-- What Put, Take and Done answer, and what waits behind them. -/
def putQ (l : List Cm) (c : Cm) : List Cm × Nat :=
  if mayB c = false then (l, 2)
  else match findN l c.client with
    | none => (l ++ [c], 0)
    | some i => match l[i]? with
      | none => (l, 0)
      | some d => if c.seq < d.seq then (l, 12) else if d.seq = c.seq then (l, 0) else (l.eraseIdx i ++ [c], 0)
def takeN (l : List Cm) (m : Int) : Nat := if m ≤ 0 then 0 else min m.toNat l.length
def doneQ (l : List Cm) (k s : Nat) : List Cm :=
  match findN l k with
  | none => l
  | some i => match l[i]? with
    | none => l
    | some d => if d.seq ≤ s then l.eraseIdx i else l
end Go.Proofs.Ytgpdggojajjppaa.Bat
