/- A drawn region, walked by an invariant (guards too, where what they hang on is known): what each slot holds once its operation has come up, whatever the order. No order is enumerated. Conditions: each operation waits for those whose slots it looks at; what a slot holds stays true behind the others. -/
import Derived.Test.YteiaiilfekojfaaBase
import Derived.OrdersHeld
import Derived.Deep.RegionHeld
namespace Go.Proofs.Yteiaiilfekojfaa.DrawInv
open Go.RowKit

def temps (o : Oper) : List Tmp := o.op.operands.toList.filterMap fun | .tmp t => some t | _ => none
def nobody (ops : Array Oper) (t : Tmp) : Bool := (List.range ops.size).all fun j => match ops[j]? with | some o' => o'.dst != some t | none => true
/-- Edges go back; what a guard hangs on is waited for; slots are filled by one operation each; what is looked at was filled by what is waited for, or by nobody. -/
def fits (md : Region.Mode) (ops : Array Oper) : Bool :=
  (List.range ops.size).all fun i => match ops[i]? with
    | none => true
    | some o => (match o.guard with | none => true | some (j, _) => (match ops[j]? with | some oj => oj.dst.isSome | none => false) && o.after.toList.any fun e => Region.binds md e && e.on == j) && o.after.toList.all (fun e => !Region.binds md e || decide (e.on < i)) &&
      (match o.dst with | none => false | some d => (List.range ops.size).all fun j => j == i || (match ops[j]? with | some o' => o'.dst != some d | none => true)) &&
      (temps o).all fun t => (o.after.toList.any fun e => Region.binds md e && (match ops[e.on]? with | some o' => o'.dst == some t | none => false)) || nobody ops t

section
variable {P : Program} {md : Region.Mode} {ops : Array Oper} {Q : Exit → Act → World → Prop} {V : Nat → Value → World → Prop} {w0 : World} {n : Nat}

theorem nobody_spec {t : Tmp} (h : nobody ops t = true) (j : Nat) (o' : Oper) (hj : ops[j]? = some o') : o'.dst ≠ some t := by
  unfold nobody at h
  have := List.all_eq_true.1 h j (List.mem_range.2 (Array.getElem?_eq_some_iff.1 hj).1)
  rw [hj] at this
  simpa using this
theorem fits_spec (h : fits md ops = true) {i : Nat} {o : Oper} (hi : ops[i]? = some o) :
    (∀ j b, o.guard = some (j, b) → ∃ oj dj, ops[j]? = some oj ∧ oj.dst = some dj ∧ ∃ e ∈ o.after, Region.binds md e = true ∧ e.on = j) ∧ (∀ e ∈ o.after, Region.binds md e = true → e.on < i) ∧ ∃ d, o.dst = some d ∧ (∀ (j : Nat) (o' : Oper), j ≠ i → ops[j]? = some o' → o'.dst ≠ some d) ∧
      ∀ t ∈ temps o, (∃ e ∈ o.after, Region.binds md e = true ∧ ∃ o', ops[e.on]? = some o' ∧ o'.dst = some t) ∨ (∀ (j : Nat) (o' : Oper), ops[j]? = some o' → o'.dst ≠ some t) := by
  unfold fits at h
  have h1 := List.all_eq_true.1 h i (List.mem_range.2 (Array.getElem?_eq_some_iff.1 hi).1)
  rw [hi] at h1
  simp only [Bool.and_eq_true] at h1
  obtain ⟨⟨⟨hg, he⟩, hd⟩, ht⟩ := h1
  refine ⟨fun j b hjb => ?_, fun e hm hb => (by have h2 := List.all_eq_true.1 he e (by simpa using hm); rw [hb] at h2; simpa using h2), ?_⟩
  · rw [hjb] at hg
    simp only [Bool.and_eq_true] at hg
    cases ho : ops[j]? with
    | none => rw [ho] at hg; cases hg.1
    | some oj =>
      rw [ho] at hg
      obtain ⟨dj, hdj⟩ := Option.isSome_iff_exists.1 hg.1
      obtain ⟨e, hme, hb⟩ := List.any_eq_true.1 hg.2
      rw [Bool.and_eq_true] at hb
      exact ⟨oj, dj, rfl, hdj, e, by simpa using hme, hb.1, by simpa using hb.2⟩
  cases hdo : o.dst with
  | none => rw [hdo] at hd; cases hd
  | some d =>
    rw [hdo] at hd
    simp only at hd
    refine ⟨d, rfl, fun j o' hne hj => ?_, fun t hm => ?_⟩
    · have := List.all_eq_true.1 hd j (List.mem_range.2 (Array.getElem?_eq_some_iff.1 hj).1)
      rw [hj] at this
      simpa [hne] using this
    · have := List.all_eq_true.1 ht t hm
      rcases Bool.or_eq_true _ _ ▸ this with h' | h'
      · obtain ⟨e, hme, hb⟩ := List.any_eq_true.1 h'
        rw [Bool.and_eq_true] at hb
        cases ho : ops[e.on]? with
        | none => rw [ho] at hb; cases hb.2
        | some o' => rw [ho] at hb; exact .inl ⟨e, by simpa using hme, hb.1, o', ho, by simpa using hb.2⟩
      · exact .inr (nobody_spec h')

/-- Operands that are no slots mean themselves. -/
def Consts (ρ : Operand → Value) : Prop := (∀ v, ρ (.const v) = v) ∧ (∀ f, ρ (.func f) = .func (.func f) #[] #[])
/-- What is left behind an operation: its value, or a call that comes back with it. -/
def Res (P : Program) (V : Value → World → Prop) (w : World) (r : Result Next) : Prop :=
  (∃ v w', r = .ok (.value v) w' ∧ V v w' ∧ Below w.heap.size w w') ∨
  (∃ f args, r = .ok (.enter f args) w ∧ Calls P f args w fun e w' => ∃ v, e = .returned v ∧ V v w' ∧ Below w.heap.size w w')
/-- The operation is carried out; it is not. -/
def On (ops : Array Oper) (ρ : Operand → Value) : Option (Nat × Bool) → Prop
  | none => True
  | some (j, b) => ∃ oj dj, ops[j]? = some oj ∧ oj.dst = some dj ∧ ρ (.tmp dj) = .bool b
def Off (ops : Array Oper) (ρ : Operand → Value) : Option (Nat × Bool) → Prop
  | none => False
  | some (j, b) => ∃ oj dj x, ops[j]? = some oj ∧ oj.dst = some dj ∧ ρ (.tmp dj) = x ∧ x ≠ .bool b
def StepOk (P : Program) (ops : Array Oper) (V : Nat → Value → World → Prop) (w0 : World) (o : Oper) : Prop :=
  ∀ d, o.dst = some d → ∀ ρ w, Consts ρ → Below w0.heap.size w0 w → (∀ t ∈ temps o, V t (ρ (.tmp t)) w) → (∀ j b oj dj, o.guard = some (j, b) → ops[j]? = some oj → oj.dst = some dj → V dj (ρ (.tmp dj)) w) →
    (On ops ρ o.guard ∧ Res P (V d) w ((execOp ρ o).run P w)) ∨ (Off ops ρ o.guard ∧ V d undef w)
theorem yields_of {a : Act} {j dj : Nat} {oj : Oper} {b : Bool} (h1 : ops[j]? = some oj) (h2 : oj.dst = some dj) (h3 : a.eval (.tmp dj) = .bool b) : yielded ops a.tmps j = some b := by
  have h4 : a.tmps[dj]? = some (.bool b) := by
    have h : a.tmps.getD dj undef = .bool b := h3
    rw [Array.getD_eq_getD_getElem?] at h
    cases hx : a.tmps[dj]? with
    | none => rw [hx] at h; cases h
    | some x => rw [hx] at h; rw [show x = .bool b from h]
  unfold yielded
  rw [h1]
  simp [h2, h4]
theorem On.wanted {a : Act} {o : Oper} (h : On ops a.eval o.guard) : Region.wanted o (yielded ops a.tmps) = true := by
  unfold Region.wanted
  cases hg : o.guard with
  | none => rfl
  | some p =>
    obtain ⟨j, b⟩ := p
    rw [hg] at h
    obtain ⟨oj, dj, h1, h2, h3⟩ := h
    simp [yields_of h1 h2 h3]
theorem Off.wanted {a : Act} {o : Oper} (h : Off ops a.eval o.guard) : Region.wanted o (yielded ops a.tmps) = false := by
  unfold Region.wanted
  cases hg : o.guard with
  | none => rw [hg] at h; exact h.elim
  | some p =>
    obtain ⟨j, b⟩ := p
    rw [hg] at h
    obtain ⟨oj, dj, x, h1, h2, h3, h4⟩ := h
    have hy : yielded ops a.tmps j ≠ some b := by
      intro hy
      unfold yielded at hy
      rw [h1] at hy
      simp only [Option.bind_some, h2] at hy
      cases hx : a.tmps[dj]? with
      | none => rw [hx] at hy; cases hy
      | some u =>
        rw [hx] at hy
        have hu : u = x := by
          have h : a.tmps.getD dj undef = x := h3
          rw [Array.getD_eq_getD_getElem?, hx] at h
          exact h
        subst hu
        cases u with
        | bool c => exact h4 (congrArg _ (Option.some.inj hy))
        | _ => cases hy
    simp [hy]

structure At (ops : Array Oper) (V : Nat → Value → World → Prop) (n : Nat) (w0 : World) (listed : Array Bool) (a : Act) (w : World) : Prop where
  sz : a.tmps.size = n
  df : a.defers = []
  ls : listed.size = ops.size
  bw : Below w0.heap.size w0 w
  base : ∀ k : Nat, (∀ (j : Nat) (o' : Oper), ops[j]? = some o' → o'.dst ≠ some k) → V k (a.eval (.tmp k)) w
  done : ∀ (i : Nat) (o : Oper) (d : Nat), ops[i]? = some o → o.dst = some d → listed.getD i false = true → V d (a.eval (.tmp d)) w

theorem eval_put_ne {a : Act} {d k : Tmp} {v : Value} (h : k ≠ d) : (a.put (some d) v).eval (.tmp k) = a.eval (.tmp k) := by
  show (a.tmps.setIfInBounds d v).getD k undef = a.tmps.getD k undef
  simp [Ne.symm h]
theorem eval_put_eq {a : Act} {d : Tmp} {v : Value} (h : d < a.tmps.size) : (a.put (some d) v).eval (.tmp d) = v := by
  show (a.tmps.setIfInBounds d v).getD d undef = v
  simp [h]
theorem getD_set_ne {l : Array Bool} {i j : Nat} {b : Bool} (h : i ≠ j) : (l.setIfInBounds i true).getD j b = l.getD j b := by
  simp [h]

theorem step_at (hfit : fits md ops = true) (hV : ∀ (k : Nat) (v : Value) (w w' : World), V k v w → Below w.heap.size w w' → V k v w') (hn : ∀ (i : Nat) (o : Oper) (d : Nat), ops[i]? = some o → o.dst = some d → d < n)
    {listed : Array Bool} {a : Act} {w : World} {i : Nat} {o : Oper} {d : Tmp} (h : At ops V n w0 listed a w) (hi : ops[i]? = some o) (hd : o.dst = some d) {v : Value} {w' : World} (hv : V d v w') (hb : Below w.heap.size w w') :
    At ops V n w0 (listed.setIfInBounds i true) (a.put o.dst v) w' := by
  obtain ⟨_, _, d', hd', hne, _⟩ := fits_spec hfit hi
  obtain rfl : d = d' := by rw [hd] at hd'; exact Option.some.inj hd'
  rw [hd]
  have hdn := hn i o d hi hd
  refine ⟨by rw [← h.sz]; simp [Act.put], h.df, by rw [← h.ls]; simp, h.bw.trans (hb.mono h.bw.size), fun k hk => ?_, fun j o' d' hj hd' hl => ?_⟩
  · have : k ≠ d := fun e => hk i o hi (by rw [e]; exact hd)
    rw [eval_put_ne this]
    exact hV k _ w w' (h.base k hk) hb
  · by_cases hji : j = i
    · subst hji
      rw [hi] at hj; cases hj
      rw [hd] at hd'; cases hd'
      rw [eval_put_eq (by rw [h.sz]; exact hdn)]
      exact hv
    · have : d' ≠ d := fun e => hne j o' hji hj (by rw [hd', e])
      rw [eval_put_ne this]
      rw [getD_set_ne (Ne.symm hji)] at hl
      exact hV d' _ w w' (h.done j o' d' hj hd' hl) hb

theorem count_set {l : Array Bool} {i : Nat} (h : l.getD i true = false) : (l.setIfInBounds i true).toList.count false + 1 = l.toList.count false := by
  have hi : i < l.size := by
    rcases Nat.lt_or_ge i l.size with h' | h'
    · exact h'
    · simp [Array.getElem?_eq_none h'] at h
  have hv : l[i] = false := by simpa [hi] using h
  rw [Array.toList_setIfInBounds]
  have e : l.toList = l.toList.take i ++ false :: l.toList.drop (i + 1) := by
    have h1 : i < l.toList.length := by simpa using hi
    have h2 := List.drop_eq_getElem_cons h1
    have h3 : l.toList[i] = false := by simpa using hv
    rw [h3] at h2
    rw [← h2, List.take_append_drop]
  rw [List.set_eq_take_append_cons_drop, if_pos (by simpa using hi)]
  conv => rhs; rw [e]
  simp only [List.count_append, List.count_cons]
  simp
  omega

theorem any_inv (hfit : fits md ops = true) (hV : ∀ (k : Nat) (v : Value) (w w' : World), V k v w → Below w.heap.size w w' → V k v w') (hn : ∀ (i : Nat) (o : Oper) (d : Nat), ops[i]? = some o → o.dst = some d → d < n) (hst : ∀ o ∈ ops.toList, StepOk P ops V w0 o)
    (hfin : ∀ (a : Act) (w : World), a.tmps.size = n → a.defers = [] → Below w0.heap.size w0 w → (∀ k, V k (a.eval (.tmp k)) w) → Q .normal a w) :
    ∀ (fuel : Nat) (listed : Array Bool) (a : Act) (w : World), At ops V n w0 listed a w → listed.toList.count false = fuel → wpAny P md ops Q fuel listed a w := by
  have hend : ∀ (listed : Array Bool) (a : Act) (w : World), At ops V n w0 listed a w → Region.ready md ops listed = [] → Q .normal a w := by
    intro listed a w h hr
    have hall : ∀ i : Nat, i < ops.size → listed.getD i false = true := by
      intro i
      induction i using Nat.strongRecOn with
      | _ i ih =>
        intro hi
        cases hl : listed.getD i false with
        | true => rfl
        | false =>
          exfalso
          have ho : ops[i]? = some ops[i] := Array.getElem?_eq_getElem hi
          have hu : listed.getD i true = false := by
            have : i < listed.size := by rw [h.ls]; exact hi
            simp [this] at hl ⊢
            exact hl
          have : i ∈ Region.ready md ops listed := mem_ready.2 ⟨hu, ops[i], ho, fun e he hbe => by
            have hlt := (fits_spec hfit ho).2.1 e he hbe
            exact ih e.on hlt (by omega)⟩
          rw [hr] at this
          cases this
    refine hfin a w h.sz h.df h.bw fun k => ?_
    by_cases hk : ∃ (j : Nat) (o' : Oper), ops[j]? = some o' ∧ o'.dst = some k
    · obtain ⟨j, o', hj, hd⟩ := hk
      exact h.done j o' k hj hd (hall j (Array.getElem?_eq_some_iff.1 hj).1)
    · exact h.base k fun j o' hj hd => hk ⟨j, o', hj, hd⟩
  intro fuel
  induction fuel with
  | zero =>
    intro listed a w h hc
    have hr : Region.ready md ops listed = [] := by
      refine List.eq_nil_iff_forall_not_mem.2 fun i hi => ?_
      have h0 := (mem_ready.1 hi).1
      have := count_set h0
      omega
    exact ⟨hr, hend listed a w h hr⟩
  | succ fuel ih =>
    intro listed a w h hc
    refine ⟨hend listed a w h, fun i hi => ?_⟩
    obtain ⟨hu, o, ho, hall⟩ := mem_ready.1 hi
    obtain ⟨hgs, _, d, hd, _, hts⟩ := fits_spec hfit ho
    have hcs := count_set hu
    have hstep := hst o (by simpa using Array.mem_of_getElem? ho) d hd a.eval w ⟨fun _ => rfl, fun _ => rfl⟩ h.bw (fun t ht => by
      rcases hts t ht with ⟨e, he, hb, o', ho', hd'⟩ | hnb
      · exact h.done e.on o' t ho' hd' (hall e he hb)
      · exact h.base t hnb) (fun j b oj dj hjb hoj hdj => by
        obtain ⟨oj', dj', hoj', hdj', e, he, hb, hej⟩ := hgs j b hjb
        exact h.done j oj dj hoj hdj (hej ▸ hall e he hb))
    unfold wpOp
    rw [ho]
    simp only
    rcases hstep with ⟨hon, hstep⟩ | ⟨hoff, hvu⟩
    rotate_left
    · rw [if_neg (by rw [hoff.wanted]; decide)]
      exact ih _ _ _ (step_at hfit hV hn h ho hd hvu (Below.refl _ w)) (by omega)
    rw [if_pos hon.wanted]
    refine .inl ?_
    unfold Oper.wp
    rcases hstep with ⟨v, w', hr, hv, hb⟩ | ⟨f, args, hr, hc2⟩
    · rw [hr]
      exact ih _ _ _ (step_at hfit hV hn h ho hd hv hb) (by omega)
    · rw [hr, Oper.upon_enter]
      refine hc2.mono fun e w' he => ?_
      obtain ⟨v, rfl, hv, hb⟩ := he
      exact ih _ _ _ (step_at hfit hV hn h ho hd hv hb) (by omega)

def Steps (P : Program) (ops : Array Oper) (V : Nat → Value → World → Prop) (w0 : World) : List Oper → Prop
  | [] => True
  | o :: l => StepOk P ops V w0 o ∧ Steps P ops V w0 l
theorem Steps.all {l : List Oper} (h : Steps P ops V w0 l) : ∀ o ∈ l, StepOk P ops V w0 o := by
  induction l with
  | nil => intro o ho; cases ho
  | cons x l ih =>
    intro o ho
    rcases List.mem_cons.1 ho with rfl | ho
    · exact h.1
    · exact ih h.2 o ho
/-- THE REGION: the slots at its start (bs: those that nobody fills), each operation's step, what follows. -/
theorem region_inv {id : Nat} {a : Act} {w : World} (hm : P.follows .mixedOrders = true) (V : Nat → Value → World → Prop) (bs : List Nat) (hfit : fits .any ops = true) (hn : (ops.toList.all fun o => match o.dst with | some d => decide (d < a.tmps.size) | none => true) = true) (hdf : a.defers = [])
    (hbs : (List.range a.tmps.size).filter (nobody ops) = bs)
    (hV : ∀ (k : Nat) (v : Value) (w w' : World), V k v w → Below w.heap.size w w' → V k v w') (h0 : ∀ k ∈ bs, V k (a.eval (.tmp k)) w.drew) (hout : ∀ k, a.tmps.size ≤ k → V k undef w.drew) (hst : Steps P ops V w.drew ops.toList)
    (hfin : ∀ (a' : Act) (w' : World), a'.tmps.size = a.tmps.size → a'.defers = [] → Below w.drew.heap.size w.drew w' → (∀ k, V k (a'.eval (.tmp k)) w') → Q .normal a' w') : (Code.region id ops true).wp P Q a w := by
  refine wp_region_any hm ?_
  refine any_inv (V := V) (n := a.tmps.size) (w0 := w.drew) hfit hV (fun i o d hi hd => ?_) hst.all hfin _ _ _ _ ⟨rfl, hdf, by simp, Below.refl _ _, fun k hk => ?_, fun i o d hi hd hl => ?_⟩ ?_
  · have := List.all_eq_true.1 hn o (by simpa using Array.mem_of_getElem? hi)
    rw [hd] at this
    exact of_decide_eq_true this
  · rcases Nat.lt_or_ge k a.tmps.size with hlt | hge
    · refine h0 k ?_
      rw [← hbs]
      refine List.mem_filter.2 ⟨List.mem_range.2 hlt, List.all_eq_true.2 fun j _ => ?_⟩
      cases hj : ops[j]? with
      | none => rfl
      | some o' => simpa using hk j o' hj
    · have e : a.eval (.tmp k) = undef := by
        show a.tmps.getD k undef = undef
        simp [Array.getElem?_eq_none hge]
      rw [e]
      exact hout k hge
  · rw [Array.getD_eq_getD_getElem?, Array.getElem?_replicate] at hl
    split at hl <;> cases hl
  · simp
/-- Slots that hold what is written, but for a few of which something else is known. -/
def slotV (ps : List (Nat × (Value → World → Prop))) (tm : List Value) (k : Nat) (v : Value) (w : World) : Prop :=
  match ps.lookup k with
  | some p => p v w
  | none => v = tm.getD k undef
theorem lookup_mem {β : Type} {k : Nat} {p : β} : ∀ {ps : List (Nat × β)}, ps.lookup k = some p → (k, p) ∈ ps
  | (a, b) :: ps, h => by
    rw [List.lookup_cons] at h
    by_cases hk : k = a
    · subst hk; simp at h; subst h; simp
    · rw [beq_eq_false_iff_ne.2 hk] at h
      exact List.mem_cons_of_mem _ (lookup_mem h)
theorem slotV_below {ps : List (Nat × (Value → World → Prop))} (tm : List Value) (h : ∀ p ∈ ps, ∀ (v : Value) (w w' : World), p.2 v w → Below w.heap.size w w' → p.2 v w') (k : Nat) (v : Value) (w w' : World) (hv : slotV ps tm k v w) (hb : Below w.heap.size w w') : slotV ps tm k v w' := by
  unfold slotV at *
  cases hl : ps.lookup k with
  | none => rw [hl] at hv; exact hv
  | some p =>
    rw [hl] at hv
    exact h (k, p) (lookup_mem hl) v w w' hv hb
theorem slotV_out {ps : List (Nat × (Value → World → Prop))} {tm : List Value} {n k : Nat} {w : World} (htm : tm.length = n) (hps : (ps.all fun p => decide (p.1 < n)) = true) (hk : n ≤ k) : slotV ps tm k undef w := by
  unfold slotV
  cases hl : ps.lookup k with
  | none =>
    show undef = tm.getD k undef
    rw [List.getD_eq_getElem?_getD, List.getElem?_eq_none (by omega)]
    rfl
  | some p =>
    have := of_decide_eq_true (List.all_eq_true.1 hps _ (lookup_mem hl))
    simp only at this
    omega
/-- Slots that hold what is written (vs), or of which something else is known (ps), or what they held. -/
def slotW (ps : List (Nat × (Value → World → Prop))) (vs : List (Nat × Value)) (b : Array Value) (k : Nat) (v : Value) (w : World) : Prop :=
  match ps.lookup k with
  | some p => p v w
  | none => match vs.lookup k with
    | some x => v = x
    | none => v = b.getD k undef
theorem region_inv2 {id : Nat} {a : Act} {w : World} (hm : P.follows .mixedOrders = true) (ps : List (Nat × (Value → World → Prop))) (vs : List (Nat × Value)) (hfit : fits .any ops = true)
    (hn : (ops.toList.all fun o => match o.dst with | some d => decide (d < a.tmps.size) | none => true) = true) (hdf : a.defers = [])
    (hks : ((ps.map (·.1) ++ vs.map (·.1)).all fun k => !nobody ops k) = true)
    (hV : ∀ p ∈ ps, ∀ (v : Value) (w w' : World), p.2 v w → Below w.heap.size w w' → p.2 v w') (hst : Steps P ops (slotW ps vs a.tmps) w.drew ops.toList)
    (hfin : ∀ (a' : Act) (w' : World), a'.tmps.size = a.tmps.size → a'.defers = [] → Below w.drew.heap.size w.drew w' → (∀ k, slotW ps vs a.tmps k (a'.eval (.tmp k)) w') → Q .normal a' w') : (Code.region id ops true).wp P Q a w := by
  have hno : ∀ k, nobody ops k = true → ps.lookup k = none ∧ vs.lookup k = none := by
    intro k hk
    constructor
    · cases hl : ps.lookup k with
      | none => rfl
      | some p =>
        have := List.all_eq_true.1 hks k (List.mem_append.2 (.inl (List.mem_map.2 ⟨_, lookup_mem hl, rfl⟩)))
        rw [hk] at this; cases this
    · cases hl : vs.lookup k with
      | none => rfl
      | some p =>
        have := List.all_eq_true.1 hks k (List.mem_append.2 (.inr (List.mem_map.2 ⟨_, lookup_mem hl, rfl⟩)))
        rw [hk] at this; cases this
  have hbase : ∀ k w', nobody ops k = true → slotW ps vs a.tmps k (a.eval (.tmp k)) w' := by
    intro k w' hk
    obtain ⟨h1, h2⟩ := hno k hk
    unfold slotW
    rw [h1, h2]
    rfl
  refine wp_region_any hm ?_
  refine any_inv (V := slotW ps vs a.tmps) (n := a.tmps.size) (w0 := w.drew) hfit (fun k v w w' hv hb => ?_) (fun i o d hi hd => ?_) hst.all hfin _ _ _ _ ⟨rfl, hdf, by simp, Below.refl _ _, fun k hk => hbase k _ ?_, fun i o d hi hd hl => ?_⟩ ?_
  · unfold slotW at *
    cases hl : ps.lookup k with
    | none => rw [hl] at hv; exact hv
    | some p => rw [hl] at hv; exact hV (k, p) (lookup_mem hl) v w w' hv hb
  · have := List.all_eq_true.1 hn o (by simpa using Array.mem_of_getElem? hi)
    rw [hd] at this
    exact of_decide_eq_true this
  · refine List.all_eq_true.2 fun j _ => ?_
    cases hj : ops[j]? with
    | none => rfl
    | some o' => simpa using hk j o' hj
  · rw [Array.getD_eq_getD_getElem?, Array.getElem?_replicate] at hl
    split at hl <;> cases hl
  · simp
/-- The way out of a function with one result, by its slot. -/
theorem ret_slot {fn : Func} {R : Ending → World → Prop} {a : Act} {w : World} {r : Tmp} {v : Value} (hres : fn.results = #[.tmp r]) (hr : a.eval (.tmp r) = v) (hd : a.defers = []) (hR : R (.returned v) w) : bodyPost P fn R .ret a w :=
  bodyPost_ret (results_tmp hres a.tmps P w) hd (by rw [show a.tmps.getD r undef = v from hr]; exact hR)
theorem getD_set_self {t : Array Value} {d : Nat} {v : Value} (h : d < t.size) : (t.setIfInBounds d v).getD d undef = v := by simp [h]
theorem getD_set_far {t : Array Value} {d k : Nat} {v : Value} (h : k ≠ d) : (t.setIfInBounds d v).getD k undef = t.getD k undef := by simp [Ne.symm h]
theorem fold_set_size (f : Nat → Value) : ∀ (ds : List Nat) (t : Array Value), (ds.foldl (fun t d => t.setIfInBounds d (f d)) t).size = t.size
  | [], _ => rfl
  | d :: ds, t => by rw [List.foldl_cons, fold_set_size f ds]; simp
theorem fold_set_get (f : Nat → Value) : ∀ (ds : List Nat) (t : Array Value) (k : Nat), k < t.size → (ds.foldl (fun t d => t.setIfInBounds d (f d)) t).getD k undef = if k ∈ ds then f k else t.getD k undef
  | [], t, k, _ => by simp
  | d :: ds, t, k, h => by
    rw [List.foldl_cons, fold_set_get f ds _ k (by simpa using h)]
    by_cases h1 : k ∈ ds
    · rw [if_pos h1, if_pos (List.mem_cons_of_mem _ h1)]
    · rw [if_neg h1]
      by_cases h2 : k = d
      · subst h2
        rw [if_pos (List.mem_cons_self ..), getD_set_self h]
      · rw [if_neg (by simp [h1, h2]), getD_set_far h2]
/-- The frame behind a region: what it held ahead, the region's slots put into it. -/
theorem slot_over {ps : List (Nat × (Value → World → Prop))} {vs : List (Nat × Value)} {b : Array Value} {a : Act} {w : World} (hsz : a.tmps.size = b.size) (hd : a.defers = []) (h : ∀ k, slotW ps vs b k (a.eval (.tmp k)) w) :
    a = ⟨(ps.map (·.1) ++ vs.map (·.1)).foldl (fun t d => t.setIfInBounds d (a.eval (.tmp d))) b, []⟩ := by
  obtain ⟨tm, df⟩ := a
  obtain rfl : df = [] := hd
  have hsz' : tm.size = b.size := hsz
  congr 1
  refine Array.ext (by rw [fold_set_size]; exact hsz') fun i h1 h2 => ?_
  have hb : i < b.size := by omega
  have hg := fold_set_get (fun d => (⟨tm, []⟩ : Act).eval (.tmp d)) (ps.map (·.1) ++ vs.map (·.1)) b i hb
  have e1 : tm[i] = tm.getD i undef := by simp [h1]
  have e2 : ∀ (t : Array Value) (ht : i < t.size), t[i] = t.getD i undef := fun t ht => by simp [ht]
  refine e1.trans (Eq.trans ?_ (e2 _ h2).symm)
  rw [hg]
  by_cases hni : i ∈ ps.map (·.1) ++ vs.map (·.1)
  · rw [if_pos hni]; rfl
  · rw [if_neg hni]
    have hni1 : ps.lookup i = none := by
      cases hl : ps.lookup i with
      | none => rfl
      | some p => exact absurd (List.mem_append.2 (.inl (List.mem_map.2 ⟨_, lookup_mem hl, rfl⟩))) hni
    have hni2 : vs.lookup i = none := by
      cases hl : vs.lookup i with
      | none => rfl
      | some p => exact absurd (List.mem_append.2 (.inr (List.mem_map.2 ⟨_, lookup_mem hl, rfl⟩))) hni
    have := h i
    unfold slotW at this
    rw [hni1, hni2] at this
    exact this
theorem slot_rest {ps : List (Nat × (Value → World → Prop))} {vs : List (Nat × Value)} {bl : List Value} {a : Act} {w : World} {i : Nat} (hn : ∀ k ∈ ps.map (·.1) ++ vs.map (·.1), k ≠ i) (h : ∀ k, slotW ps vs bl.toArray k (a.eval (.tmp k)) w) (hi : i < bl.length) : some (a.eval (.tmp i)) = bl[i]? := by
  have hni1 : ps.lookup i = none := by
    cases hl : ps.lookup i with
    | none => rfl
    | some p => exact absurd rfl (hn i (List.mem_append.2 (.inl (List.mem_map.2 ⟨_, lookup_mem hl, rfl⟩))))
  have hni2 : vs.lookup i = none := by
    cases hl : vs.lookup i with
    | none => rfl
    | some p => exact absurd rfl (hn i (List.mem_append.2 (.inr (List.mem_map.2 ⟨_, lookup_mem hl, rfl⟩))))
  have := h i
  unfold slotW at this
  rw [hni1, hni2] at this
  have e : bl.toArray.getD i undef = bl[i] := by simp [hi]
  have this : a.eval (.tmp i) = bl.toArray.getD i undef := this
  rw [this, e, List.getElem?_eq_getElem hi]
theorem fold_set_get_list (f : Nat → Value) : ∀ (ds : List Nat) (t : List Value) (k : Nat), k < t.length → (ds.foldl (fun l d => l.set d (f d)) t)[k]? = if k ∈ ds then some (f k) else t[k]?
  | [], t, k, _ => by simp
  | d :: ds, t, k, h => by
    rw [List.foldl_cons, fold_set_get_list f ds _ k (by simpa using h)]
    by_cases h1 : k ∈ ds
    · rw [if_pos h1, if_pos (List.mem_cons_of_mem _ h1)]
    · rw [if_neg h1]
      by_cases h2 : k = d
      · subst h2
        rw [if_pos (List.mem_cons_self ..), List.getElem?_set_self h]
      · rw [if_neg (by simp [h1, h2]), List.getElem?_set_ne (Ne.symm h2)]
theorem fold_set_len (f : Nat → Value) : ∀ (ds : List Nat) (t : List Value), (ds.foldl (fun l d => l.set d (f d)) t).length = t.length
  | [], _ => rfl
  | d :: ds, t => by rw [List.foldl_cons, fold_set_len f ds]; simp
/-- The frame behind a region whose slots are a stretch, and a few others: a stretch is put into the list at once. -/
theorem slot_over_seg {ps : List (Nat × (Value → World → Prop))} {vs : List (Nat × Value)} {b : Array Value} {bl : List Value} {a : Act} {w : World} (lo n : Nat) (es : List Nat) (hb : b = bl.toArray)
    (hk : ((ps.map (·.1) ++ vs.map (·.1)).all fun k => (decide (lo ≤ k) && decide (k < lo + n)) || es.contains k) = true) (hlen : lo + n ≤ bl.length) (hsz : a.tmps.size = b.size) (hd : a.defers = []) (h : ∀ k, slotW ps vs b k (a.eval (.tmp k)) w) :
    a = ⟨(es.foldl (fun l d => l.set d (a.eval (.tmp d))) (bl.take lo ++ ((List.range' lo n).map (fun k => a.eval (.tmp k)) ++ bl.drop (lo + n)))).toArray, []⟩ := by
  subst hb
  obtain ⟨tm, df⟩ := a
  obtain rfl : df = [] := hd
  have hsz' : tm.size = bl.length := by simpa using hsz
  congr 1
  refine Array.ext' (List.ext_getElem? fun i => ?_)
  have hlen2 : (bl.take lo ++ ((List.range' lo n).map (fun k => (⟨tm, []⟩ : Act).eval (.tmp k)) ++ bl.drop (lo + n))).length = bl.length := by simp; omega
  rcases Nat.lt_or_ge i bl.length with hi | hi
  rotate_left
  · have e1 := fold_set_len (fun d => (⟨tm, []⟩ : Act).eval (.tmp d)) es (bl.take lo ++ ((List.range' lo n).map (fun k => (⟨tm, []⟩ : Act).eval (.tmp k)) ++ bl.drop (lo + n)))
    rw [List.getElem?_eq_none (by simpa [hsz'] using hi), List.getElem?_eq_none (by rw [e1, hlen2]; exact hi)]
  have e0 : tm.toList[i]? = some ((⟨tm, []⟩ : Act).eval (.tmp i)) := by
    have : i < tm.size := by omega
    simp [Act.eval, this]
  rw [e0]
  have hg := fold_set_get_list (fun d => (⟨tm, []⟩ : Act).eval (.tmp d)) es (bl.take lo ++ ((List.range' lo n).map (fun k => (⟨tm, []⟩ : Act).eval (.tmp k)) ++ bl.drop (lo + n))) i (by rw [hlen2]; exact hi)
  refine Eq.trans ?_ hg.symm
  by_cases h1 : i ∈ es
  · rw [if_pos h1]
  rw [if_neg h1]
  by_cases h2 : i < lo
  · rw [List.getElem?_append_left (by simp; omega), List.getElem?_take, if_pos h2]
    have hn : ∀ k ∈ ps.map (·.1) ++ vs.map (·.1), k ≠ i := fun k hm he => by
      subst he
      have := List.all_eq_true.1 hk k hm
      simp [h1] at this
      omega
    exact slot_rest hn h hi
  · rw [List.getElem?_append_right (by simp; omega)]
    have e3 : i - (bl.take lo).length = i - lo := by simp; omega
    rw [e3]
    by_cases h3 : i < lo + n
    · rw [List.getElem?_append_left (by simp; omega), List.getElem?_map, List.getElem?_range' (by omega)]
      simp only [Option.map_some, Nat.one_mul]
      rw [show lo + (i - lo) = i by omega]
    · rw [List.getElem?_append_right (by simp; omega), List.getElem?_drop]
      have e4 : lo + n + (i - lo - ((List.range' lo n).map (fun k => (⟨tm, []⟩ : Act).eval (.tmp k))).length) = i := by simp; omega
      rw [e4]
      have hn : ∀ k ∈ ps.map (·.1) ++ vs.map (·.1), k ≠ i := fun k hm he => by
        subst he
        have := List.all_eq_true.1 hk k hm
        simp [h1] at this
        omega
      exact slot_rest hn h hi
/-- An act, slot by slot. -/
theorem act_slots (a : Act) (n : Nat) (h : a.tmps.size = n) (hd : a.defers = []) : a = ⟨((List.range n).map fun k => a.eval (.tmp k)).toArray, []⟩ := by
  obtain ⟨tm, ds⟩ := a
  obtain rfl : ds = [] := hd
  congr 1
  refine Array.ext (by simpa using h) fun i h1 h2 => ?_
  simp [Act.eval, h1]
end
end Go.Proofs.Yteiaiilfekojfaa.DrawInv
