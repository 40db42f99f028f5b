/- Maps from slots to votes: looked up and put, told as a function. Conditions: those each law names. -/
import Derived.Test.YtbamfnlgapchkaaElP
import Derived.Test.YtbamfnlgapchkaaMapInt
import Derived.RangeFuncOwn
namespace Go.Proofs.Ytbamfnlgapchkaa.Ele
open Go Go.RowKit Go.MapKept Bal Mem

/-- Where a key lies in a list of entries, and what lies there. -/
def findL (L : List (Nat × Vt)) (y : Nat) (i : Nat) : Option (Nat × Vt) :=
  match L with
  | [] => none
  | (k, v) :: L => if k = y then some (i, v) else findL L y (i + 1)
def lookL (L : List (Nat × Vt)) (y : Nat) : Option Vt :=
  match L with
  | [] => none
  | (k, v) :: L => if k = y then some v else lookL L y
theorem find_look (L : List (Nat × Vt)) (y : Nat) : ∀ i, (findL L y i).map (·.2) = lookL L y := by
  induction L with
  | nil => intro i; rfl
  | cons p L ih =>
    intro i
    obtain ⟨k, v⟩ := p
    unfold findL lookL
    split
    · rfl
    · exact ih (i + 1)
theorem findNow_is {y : Nat} : ∀ (es : List MapEntry) (L : List (Nat × Vt)) (i : Nat), es.map (·.key) = L.map (fun p => .int .u64 (p.1 : Int)) → es.map (·.val) = L.map (fun p => vtV p.2) → Instr.findNow (.int .u64) (.int .u64 (y : Int)) es i = some ((findL L y i).map fun p => (p.1, vtV p.2))
  | [], [], _, _, _ => rfl
  | [], _ :: _, _, h, _ => by cases h
  | _ :: _, [], _, h, _ => by cases h
  | e :: es, (k, v) :: L, i, h1, h2 => by
    rw [List.map_cons, List.map_cons] at h1 h2
    obtain ⟨hk, h1⟩ := List.cons.inj h1
    obtain ⟨hv, h2⟩ := List.cons.inj h2
    unfold Instr.findNow findL
    rw [hk]
    have hs : Instr.sameNow (.int .u64) (.int .u64 (y : Int)) (.int .u64 (k : Int)) = some ((y : Int) == (k : Int)) := by
      show (if IntKind.u64 = IntKind.u64 then some ((y : Int) == (k : Int)) else none) = _
      rw [if_pos rfl]
    rw [hs]
    by_cases he : k = y
    · subst he
      rw [if_pos rfl, beq_self_eq_true]
      show some (some (i, e.val)) = _
      rw [hv]
      rfl
    · rw [if_neg he, beq_eq_false_iff_ne.2 (by omega)]
      exact findNow_is es L (i + 1) h1 h2
theorem find_at : ∀ {L : List (Nat × Vt)} {y i j : Nat} {v : Vt}, findL L y i = some (j, v) → i ≤ j ∧ L[j - i]? = some (y, v)
  | [], _, _, _, _, h => by cases h
  | (k, u) :: L, y, i, j, v, h => by
    unfold findL at h
    split at h
    · rename_i hk
      cases h
      subst hk
      exact ⟨Nat.le_refl _, by rw [Nat.sub_self]; rfl⟩
    · obtain ⟨h1, h2⟩ := find_at h
      refine ⟨by omega, ?_⟩
      rw [show j - i = (j - (i + 1)) + 1 by omega, List.getElem?_cons_succ]
      exact h2
theorem look_push (L : List (Nat × Vt)) (s : Nat) (v : Vt) (h : lookL L s = none) (y : Nat) : lookL (L ++ [(s, v)]) y = if y = s then some v else lookL L y := by
  induction L with
  | nil =>
    show (if s = y then some v else none) = _
    by_cases he : s = y
    · rw [if_pos he, if_pos he.symm]
    · rw [if_neg he, if_neg (Ne.symm he)]; rfl
  | cons p L ih =>
    obtain ⟨k, u⟩ := p
    unfold lookL at h
    split at h
    · cases h
    · rename_i hks
      rw [List.cons_append]
      show (if k = y then some u else lookL (L ++ [(s, v)]) y) = if y = s then some v else (if k = y then some u else lookL L y)
      rw [ih h]
      by_cases he : k = y
      · rw [if_pos he, if_neg (by omega), if_pos he]
      · rw [if_neg he, if_neg he]
theorem look_set : ∀ (L : List (Nat × Vt)) (s j : Nat) (v u : Vt) (i : Nat), findL L s i = some (j, u) → ∀ y, lookL (L.set (j - i) (s, v)) y = if y = s then some v else lookL L y
  | [], _, _, _, _, _, h, _ => by cases h
  | (k, t) :: L, s, j, v, u, i, h, y => by
    unfold findL at h
    split at h
    · rename_i hk
      cases h
      subst hk
      rw [Nat.sub_self, List.set_cons_zero]
      show (if k = y then some v else lookL L y) = if y = k then some v else (if k = y then some t else lookL L y)
      by_cases he : k = y
      · rw [if_pos he, if_pos he.symm]
      · rw [if_neg he, if_neg (Ne.symm he), if_neg he]
    · rename_i hk
      obtain ⟨h1, _⟩ := find_at h
      rw [show j - i = (j - (i + 1)) + 1 by omega, List.set_cons_succ]
      show (if k = y then some t else lookL (L.set (j - (i + 1)) (s, v)) y) = if y = s then some v else (if k = y then some t else lookL L y)
      rw [look_set L s j v u (i + 1) h y]
      by_cases he : k = y
      · rw [if_pos he, if_neg (by omega), if_pos he]
      · rw [if_neg he, if_neg he]
/-- The map at g tells F. -/
def MapAt (w : World) (g : Nat) (F : Nat → Option Vt) : Prop := ∃ es clock L, w.heap[g]? = some (.map es clock) ∧ es.toList.map (·.key) = L.map (fun p : Nat × Vt => .int .u64 (p.1 : Int)) ∧ es.toList.map (·.val) = L.map (fun p => vtV p.2) ∧ ∀ y, lookL L y = F y
theorem MapAt.lt {w : World} {g : Nat} {F : Nat → Option Vt} (h : MapAt w g F) : g < w.heap.size := by
  obtain ⟨es, c, L, h1, _⟩ := h
  exact (Array.getElem?_eq_some_iff.1 h1).1
theorem MapAt.keep {w w' : World} {g : Nat} {F : Nat → Option Vt} (h : MapAt w g F) (hk : w'.heap[g]? = w.heap[g]?) : MapAt w' g F := by
  obtain ⟨es, c, L, h1, h2⟩ := h
  exact ⟨es, c, L, hk.trans h1, h2⟩
theorem MapAt.below {B : Nat} {w w' : World} {g : Nat} {F : Nat → Option Vt} (h : MapAt w g F) (hb : Below B w w') (hg : g < B) : MapAt w' g F := h.keep (hb.block g hg)
theorem MapAt.new (w : World) : MapAt (w.alloc (.map #[] 0)) w.heap.size (fun _ => none) := ⟨#[], 0, [], heap_alloc_new w _, rfl, rfl, fun _ => rfl⟩
theorem zero_vote (w : World) : (zeroValue 73).run Try.prog w = .ok (vtV vt0) w := by kernel_rfl
theorem map_look_ {w : World} {g : Nat} {F : Nat → Option Vt} (h : MapAt w g F) (s : Nat) : (Instr.lookup 125 (.map (some g)) (.int .u64 (s : Int)) true).run Try.prog w = .ok (.tuple #[vtV ((F s).getD vt0), .bool (F s).isSome]) w := by
  obtain ⟨es, c, L, h1, h2, h3, h4⟩ := h
  have := map_look (P := Try.prog) Try.underlying125 Try.underlying26 h1 (s : Int) _ (zero_vote w) _ (findNow_is es.toList L 0 h2 h3)
  rw [this, ← h4 s, ← find_look L s 0]
  cases findL L s 0 <;> rfl
theorem map_put_ {w : World} {g : Nat} {F : Nat → Option Vt} (h : MapAt w g F) (s : Nat) (v : Vt) : ∃ w', (Instr.mapUpdate 125 (.map (some g)) (.int .u64 (s : Int)) (vtV v)).run Try.prog w = .ok () w' ∧ MapAt w' g (fun y => if y = s then some v else F y) ∧ w.grownBy w' (some g) := by
  have hlt := h.lt
  obtain ⟨es, c, L, h1, h2, h3, h4⟩ := h
  have hf := findNow_is (y := s) es.toList L 0 h2 h3
  cases hfl : findL L s 0 with
  | none =>
    rw [hfl] at hf
    have hl : lookL L s = none := by rw [← find_look L s 0, hfl]; rfl
    refine ⟨_, map_put_new (P := Try.prog) Try.underlying125 Try.underlying26 h1 (s : Int) (vtV v) hf, ⟨_, _, L ++ [(s, v)], World.putObj_heap_same hlt, by simp [h2], by simp [h3], fun y => by rw [look_push L s v hl y, h4]⟩, ?_⟩
    exact grownBy_putObj' w g _
  | some p =>
    obtain ⟨j, u⟩ := p
    rw [hfl] at hf
    obtain ⟨_, hj⟩ := find_at hfl
    rw [Nat.sub_zero] at hj
    have hjl : j < L.length := (List.getElem?_eq_some_iff.1 hj).1
    have hjk : (es[j]?).map (·.key) = some (.int .u64 (s : Int)) := by
      have := congrArg (fun l => l[j]?) h2
      simp only [List.getElem?_map, hj] at this
      simpa using this
    refine ⟨_, map_put_old (P := Try.prog) Try.underlying125 Try.underlying26 h1 (s : Int) (vtV v) (vtV u) j hf hjk, ⟨_, _, L.set j (s, v), World.putObj_heap_same hlt, ?_, ?_, fun y => by have := look_set L s j v u 0 hfl y; rw [Nat.sub_zero] at this; rw [this, h4]⟩, grownBy_putObj' w g _⟩
    · rw [List.map_set, ← h2]
      refine List.ext_getElem? fun i => ?_
      simp only [Array.toList_modify, List.getElem?_map, List.getElem?_modify, List.getElem?_set]
      by_cases hij : j = i
      · subst hij
        have : j < es.size := by have := congrArg List.length h2; simp at this; omega
        simp [this]
      · simp [hij]
    · rw [List.map_set, ← h3]
      refine List.ext_getElem? fun i => ?_
      simp only [Array.toList_modify, List.getElem?_map, List.getElem?_modify, List.getElem?_set]
      by_cases hij : j = i
      · subst hij
        have : j < es.size := by have := congrArg List.length h2; simp at this; omega
        simp [this]
      · simp [hij]
end Go.Proofs.Ytbamfnlgapchkaa.Ele
