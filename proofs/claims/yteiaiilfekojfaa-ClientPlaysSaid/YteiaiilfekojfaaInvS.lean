/- A drawn region that stores, walked by an invariant: some of its operations turn one block each (a store, a call); what these blocks hold is known ahead of it and behind it; all other blocks of before stay. No order is enumerated. Conditions: each such operation turns another block. -/
import Derived.Test.YteiaiilfekojfaaInv
namespace Go.Proofs.Yteiaiilfekojfaa.DrawInv
open Go.RowKit

/-- All blocks but some stay. -/
structure Outs (S : List Nat) (w w' : World) : Prop where
  os : w'.os = w.os
  tape : w'.tape = w.tape
  output : w'.output = w.output
  size : w.heap.size ≤ w'.heap.size
  block : ∀ k, k < w.heap.size → k ∉ S → w'.heap[k]? = w.heap[k]?
theorem Outs.refl (S : List Nat) (w : World) : Outs S w w := ⟨rfl, rfl, rfl, Nat.le_refl _, fun _ _ _ => rfl⟩
theorem Outs.trans {S : List Nat} {a b c : World} (h : Outs S a b) (k : Outs S b c) : Outs S a c :=
  ⟨k.os.trans h.os, k.tape.trans h.tape, k.output.trans h.output, Nat.le_trans h.size k.size, fun i hi hn => (k.block i (Nat.lt_of_lt_of_le hi h.size) hn).trans (h.block i hi hn)⟩
theorem Outs.of_below {S : List Nat} {w w' : World} (h : Below w.heap.size w w') : Outs S w w' := ⟨h.os, h.tape, h.output, h.size, fun k hk _ => h.block k hk⟩
theorem Outs.of_grown {S : List Nat} {w w' : World} {g : Nat} (h : w.grownBy w' (some g)) (hg : g ∈ S) : Outs S w w' := ⟨h.os, h.tape, h.output, h.size, fun k hk hn => h.block k hk (fun e => hn (by cases e; exact hg))⟩
theorem Outs.blk {S : List Nat} {w w' : World} {g : Nat} {t : TypeId} {cs : Array Value} (h : Outs S w w') (hb : Blk w g t cs) (hg : g ∉ S) : Blk w' g t cs := (h.block g hb.lt hg).trans hb
theorem Outs.below {S : List Nat} {w w' : World} {B : Nat} (h : Outs S w w') (hB : B ≤ w.heap.size) (hS : ∀ g ∈ S, B ≤ g) : Below B w w' := ⟨h.os, h.tape, h.output, h.size, fun k hk => h.block k (by omega) (fun hm => by have := hS k hm; omega)⟩
theorem Outs.cell {S : List Nat} {w w' : World} {p : Addr} (h : Outs S w w') (hp : p.block < w.heap.size) (hS : p.block ∉ S) : w'.cell? p = w.cell? p := World.cell?_of_block (h.block _ hp hS)
theorem Outs.grown {w w' : World} {g : Nat} (h : Outs [g] w w') : w.grownBy w' (some g) := ⟨h.os, h.tape, h.output, h.size, fun k hk hn => h.block k hk (fun hm => hn (by rw [List.mem_singleton.1 hm]))⟩

/-- An operation that turns a block: its number; the block, its type, what it holds ahead of it, and what is known of it behind. -/
abbrev Eff := Nat × Nat × TypeId × Array Value × (Array Value → World → Prop)
def Turned (w : World) (g : Nat) (t : TypeId) (New : Array Value → World → Prop) : Prop := ∃ cs, New cs w ∧ Blk w g t cs
def fitsS (md : Region.Mode) (ops : Array Oper) (is : List Nat) : Bool :=
  (List.range ops.size).all fun i => match ops[i]? with
    | none => true
    | some o => (match o.guard with | none => true | some (j, _) => (match ops[j]? with | some oj => oj.dst.isSome | none => false) && o.after.toList.any fun e => Region.binds md e && e.on == j) && o.after.toList.all (fun e => !Region.binds md e || decide (e.on < i)) &&
      (match o.dst with | none => is.contains i | some d => (List.range ops.size).all fun j => j == i || (match ops[j]? with | some o' => o'.dst != some d | none => true)) &&
      (temps o).all fun t => (o.after.toList.any fun e => Region.binds md e && (match ops[e.on]? with | some o' => o'.dst == some t | none => false)) || nobody ops t
section
variable {P : Program} {md : Region.Mode} {ops : Array Oper} {Q : Exit → Act → World → Prop} {V : Nat → Value → World → Prop} {w0 : World} {n : Nat} {es : List Eff} {S : List Nat}
theorem fitsS_spec {is : List Nat} (h : fitsS md ops is = true) {i : Nat} {o : Oper} (hi : ops[i]? = some o) :
    (∀ j b, o.guard = some (j, b) → ∃ oj dj, ops[j]? = some oj ∧ oj.dst = some dj ∧ ∃ e ∈ o.after, Region.binds md e = true ∧ e.on = j) ∧ (∀ e ∈ o.after, Region.binds md e = true → e.on < i) ∧ (o.dst = none → i ∈ is) ∧ (∀ d, o.dst = some d → ∀ (j : Nat) (o' : Oper), j ≠ i → ops[j]? = some o' → o'.dst ≠ some d) ∧
      ∀ t ∈ temps o, (∃ e ∈ o.after, Region.binds md e = true ∧ ∃ o', ops[e.on]? = some o' ∧ o'.dst = some t) ∨ (∀ (j : Nat) (o' : Oper), ops[j]? = some o' → o'.dst ≠ some t) := by
  unfold fitsS at h
  have h1 := List.all_eq_true.1 h i (List.mem_range.2 (Array.getElem?_eq_some_iff.1 hi).1)
  rw [hi] at h1
  simp only [Bool.and_eq_true] at h1
  obtain ⟨⟨⟨hg, he⟩, hd⟩, ht⟩ := h1
  refine ⟨fun j b hjb => ?_, fun e hm hb => (by have h2 := List.all_eq_true.1 he e (by simpa using hm); rw [hb] at h2; simpa using h2), fun hn => ?_, fun d hds j o' hne hj => ?_, fun t hm => ?_⟩
  · rw [hjb] at hg
    simp only [Bool.and_eq_true] at hg
    cases ho : ops[j]? with
    | none => rw [ho] at hg; cases hg.1
    | some oj =>
      rw [ho] at hg
      obtain ⟨dj, hdj⟩ := Option.isSome_iff_exists.1 hg.1
      obtain ⟨e, hme, hb⟩ := List.any_eq_true.1 hg.2
      rw [Bool.and_eq_true] at hb
      exact ⟨oj, dj, rfl, hdj, e, by simpa using hme, hb.1, by simpa using hb.2⟩
  · rw [hn] at hd
    simpa using hd
  · rw [hds] at hd
    have := List.all_eq_true.1 hd j (List.mem_range.2 (Array.getElem?_eq_some_iff.1 hj).1)
    rw [hj] at this
    simpa [hne] using this
  · have := List.all_eq_true.1 ht t hm
    rcases Bool.or_eq_true _ _ ▸ this with h' | h'
    · obtain ⟨e, hme, hb⟩ := List.any_eq_true.1 h'
      rw [Bool.and_eq_true] at hb
      cases ho : ops[e.on]? with
      | none => rw [ho] at hb; cases hb.2
      | some o' => rw [ho] at hb; exact .inl ⟨e, by simpa using hme, hb.1, o', ho, by simpa using hb.2⟩
    · exact .inr (nobody_spec h')
/-- What is left behind an operation that turns a block. -/
def ResE (P : Program) (g : Nat) (t : TypeId) (new : Array Value → World → Prop) (V : Value → World → Prop) (w : World) (r : Result Next) : Prop :=
  (∃ v w', (r = .ok (.value v) w' ∨ (v = undef ∧ r = .ok .skip w')) ∧ V v w' ∧ Turned w' g t new ∧ w.grownBy w' (some g)) ∨
  (∃ f args, r = .ok (.enter f args) w ∧ Calls P f args w fun e w' => ∃ v, e = .returned v ∧ V v w' ∧ Turned w' g t new ∧ w.grownBy w' (some g))
def StepS (P : Program) (ops : Array Oper) (V : Nat → Value → World → Prop) (w0 : World) (S : List Nat) (es : List Eff) (i : Nat) (o : Oper) : Prop :=
  ∀ ρ w, Consts ρ → Outs S w0 w → (∀ t ∈ temps o, V t (ρ (.tmp t)) w) → (∀ j b oj dj, o.guard = some (j, b) → ops[j]? = some oj → oj.dst = some dj → V dj (ρ (.tmp dj)) w) →
    match es.lookup i with
    | none => ∀ d, o.dst = some d → (On ops ρ o.guard ∧ Res P (V d) w ((execOp ρ o).run P w)) ∨ (Off ops ρ o.guard ∧ V d undef w)
    | some (g, t, old, new) => Blk w g t old → On ops ρ o.guard ∧ ResE P g t new (fun v w' => ∀ d, o.dst = some d → V d v w') w ((execOp ρ o).run P w)
structure AtS (ops : Array Oper) (V : Nat → Value → World → Prop) (n : Nat) (w0 : World) (S : List Nat) (es : List Eff) (listed : Array Bool) (a : Act) (w : World) : Prop where
  sz : a.tmps.size = n
  df : a.defers = []
  ls : listed.size = ops.size
  bw : Outs S w0 w
  base : ∀ k : Nat, (∀ (j : Nat) (o' : Oper), ops[j]? = some o' → o'.dst ≠ some k) → V k (a.eval (.tmp k)) w
  done : ∀ (i : Nat) (o : Oper) (d : Nat), ops[i]? = some o → o.dst = some d → listed.getD i false = true → V d (a.eval (.tmp d)) w
  eff : ∀ e ∈ es, if listed.getD e.1 false = true then Turned w e.2.1 e.2.2.1 e.2.2.2.2 else Blk w e.2.1 e.2.2.1 e.2.2.2.1
theorem put_none (a : Act) (v : Value) : a.put none v = a := rfl
/-- One operation, listed: the slots. -/
theorem step_slots {is : List Nat} (hfit : fitsS md ops is = true) (hV : ∀ (k : Nat) (v : Value) (w w' : World), V k v w → Outs S w w' → V k v w') (hn : ∀ (i : Nat) (o : Oper) (d : Nat), ops[i]? = some o → o.dst = some d → d < n)
    {listed : Array Bool} {a : Act} {w : World} {i : Nat} {o : Oper} (h : AtS ops V n w0 S es listed a w) (hi : ops[i]? = some o) {v : Value} {w' : World} (hv : ∀ d, o.dst = some d → V d v w') (hb : Outs S w w')
    (he : ∀ e ∈ es, if (listed.setIfInBounds i true).getD e.1 false = true then Turned w' e.2.1 e.2.2.1 e.2.2.2.2 else Blk w' e.2.1 e.2.2.1 e.2.2.2.1) : AtS ops V n w0 S es (listed.setIfInBounds i true) (a.put o.dst v) w' := by
  obtain ⟨_, _, _, hne, _⟩ := fitsS_spec hfit hi
  have hls : (listed.setIfInBounds i true).size = ops.size := by rw [← h.ls]; simp
  cases hd : o.dst with
  | none =>
    rw [put_none]
    refine ⟨h.sz, h.df, hls, h.bw.trans hb, fun k hk => hV k _ w w' (h.base k hk) hb, fun j o' d' hj hd' hl => ?_, he⟩
    by_cases hji : j = i
    · subst hji
      rw [hi] at hj; cases hj
      rw [hd] at hd'; cases hd'
    · rw [getD_set_ne (Ne.symm hji)] at hl
      exact hV d' _ w w' (h.done j o' d' hj hd' hl) hb
  | some d =>
    have hdn := hn i o d hi hd
    refine ⟨by rw [← h.sz]; simp [Act.put], h.df, hls, h.bw.trans hb, fun k hk => ?_, fun j o' d' hj hd' hl => ?_, he⟩
    · have : k ≠ d := fun e => hk i o hi (by rw [e]; exact hd)
      rw [eval_put_ne this]
      exact hV k _ w w' (h.base k hk) hb
    · by_cases hji : j = i
      · subst hji
        rw [hi] at hj; cases hj
        rw [hd] at hd'; cases hd'
        rw [eval_put_eq (by rw [h.sz]; exact hdn)]
        exact hv d hd
      · have : d' ≠ d := fun e => hne d hd j o' hji hj (by rw [hd', e])
        rw [eval_put_ne this]
        rw [getD_set_ne (Ne.symm hji)] at hl
        exact hV d' _ w w' (h.done j o' d' hj hd' hl) hb
theorem lookup_key {β : Type} : ∀ {l : List (Nat × β)} {e : Nat × β}, e ∈ l → (l.map (·.1)).Nodup → l.lookup e.1 = some e.2
  | (a, b) :: l, e, hm, hnd => by
    rw [List.lookup_cons]
    rcases List.mem_cons.1 hm with rfl | hm
    · simp
    · have hne : e.1 ≠ a := fun h => (List.nodup_cons.1 hnd).1 (h ▸ List.mem_map.2 ⟨e, hm, rfl⟩)
      rw [beq_eq_false_iff_ne.2 hne]
      exact lookup_key hm (List.nodup_cons.1 hnd).2
theorem any_invS (hfit : fitsS md ops (es.map (·.1)) = true) (hnd : (es.map (·.1)).Nodup) (hgn : es.Pairwise fun x y => x.2.1 ≠ y.2.1) (hS : S = es.map (·.2.1)) (hin : ∀ e ∈ es, e.1 < ops.size) (hV : ∀ (k : Nat) (v : Value) (w w' : World), V k v w → Outs S w w' → V k v w') (hE : ∀ e ∈ es, ∀ (cs : Array Value) (w w' : World), e.2.2.2.2 cs w → Outs S w w' → e.2.2.2.2 cs w')
    (hn : ∀ (i : Nat) (o : Oper) (d : Nat), ops[i]? = some o → o.dst = some d → d < n) (hst : ∀ (i : Nat) (o : Oper), ops[i]? = some o → StepS P ops V w0 S es i o)
    (hfin : ∀ (a : Act) (w : World), a.tmps.size = n → a.defers = [] → Outs S w0 w → (∀ k, V k (a.eval (.tmp k)) w) → (∀ e ∈ es, Turned w e.2.1 e.2.2.1 e.2.2.2.2) → Q .normal a w) :
    ∀ (fuel : Nat) (listed : Array Bool) (a : Act) (w : World), AtS ops V n w0 S es listed a w → listed.toList.count false = fuel → wpAny P md ops Q fuel listed a w := by
  have hend : ∀ (listed : Array Bool) (a : Act) (w : World), AtS ops V n w0 S es listed a w → Region.ready md ops listed = [] → Q .normal a w := by
    intro listed a w h hr
    have hall : ∀ i : Nat, i < ops.size → listed.getD i false = true := by
      intro i
      induction i using Nat.strongRecOn with
      | _ i ih =>
        intro hi
        cases hl : listed.getD i false with
        | true => rfl
        | false =>
          exfalso
          have ho : ops[i]? = some ops[i] := Array.getElem?_eq_getElem hi
          have hu : listed.getD i true = false := by
            have : i < listed.size := by rw [h.ls]; exact hi
            simp [this] at hl ⊢
            exact hl
          have : i ∈ Region.ready md ops listed := mem_ready.2 ⟨hu, ops[i], ho, fun e he hbe => by
            have hlt := (fitsS_spec hfit ho).2.1 e he hbe
            exact ih e.on hlt (by omega)⟩
          rw [hr] at this
          cases this
    refine hfin a w h.sz h.df h.bw (fun k => ?_) (fun e he => ?_)
    · by_cases hk : ∃ (j : Nat) (o' : Oper), ops[j]? = some o' ∧ o'.dst = some k
      · obtain ⟨j, o', hj, hd⟩ := hk
        exact h.done j o' k hj hd (hall j (Array.getElem?_eq_some_iff.1 hj).1)
      · exact h.base k fun j o' hj hd => hk ⟨j, o', hj, hd⟩
    · have := h.eff e he
      rwa [if_pos (hall e.1 (hin e he))] at this
  intro fuel
  induction fuel with
  | zero =>
    intro listed a w h hc
    have hr : Region.ready md ops listed = [] := by
      refine List.eq_nil_iff_forall_not_mem.2 fun i hi => ?_
      have h0 := (mem_ready.1 hi).1
      have := count_set h0
      omega
    exact ⟨hr, hend listed a w h hr⟩
  | succ fuel ih =>
    intro listed a w h hc
    refine ⟨hend listed a w h, fun i hi => ?_⟩
    obtain ⟨hu, o, ho, hall⟩ := mem_ready.1 hi
    obtain ⟨hgs, _, hdn, _, hts⟩ := fitsS_spec hfit ho
    have hcs := count_set hu
    have hul : listed.getD i false = false := by
      have hil : i < listed.size := by rw [h.ls]; exact (Array.getElem?_eq_some_iff.1 ho).1
      simp [hil] at hu ⊢
      exact hu
    have hstep := hst i o ho a.eval w ⟨fun _ => rfl, fun _ => rfl⟩ h.bw (fun t ht => by
      rcases hts t ht with ⟨e, he, hb, o', ho', hd'⟩ | hnb
      · exact h.done e.on o' t ho' hd' (hall e he hb)
      · exact h.base t hnb) (fun j b oj dj hjb hoj hdj => by
        obtain ⟨oj', dj', hoj', hdj', e, he, hb, hej⟩ := hgs j b hjb
        exact h.done j oj dj hoj hdj (hej ▸ hall e he hb))
    unfold wpOp
    rw [ho]
    simp only
    cases hl : es.lookup i with
    | none =>
      rw [hl] at hstep
      simp only at hstep
      have hnk : ∀ e ∈ es, e.1 ≠ i := fun e he hei => by
        have := lookup_key he hnd
        rw [hei, hl] at this
        cases this
      have hke : ∀ w', Below w.heap.size w w' → ∀ e ∈ es, if (listed.setIfInBounds i true).getD e.1 false = true then Turned w' e.2.1 e.2.2.1 e.2.2.2.2 else Blk w' e.2.1 e.2.2.1 e.2.2.2.1 := fun w' hb e he => by
        rw [getD_set_ne (Ne.symm (hnk e he))]
        have h1 := h.eff e he
        split at h1
        · rename_i hl1
          rw [if_pos hl1]
          obtain ⟨cs, hc1, hc2⟩ := h1
          exact ⟨cs, hE e he cs _ _ hc1 (Outs.of_below hb), hc2.below hb hc2.lt⟩
        · rename_i hl1
          rw [if_neg hl1]
          exact h1.below hb h1.lt
      cases hd : o.dst with
      | none =>
        exfalso
        obtain ⟨e, he, hei⟩ := List.mem_map.1 (hdn hd)
        exact hnk e he hei
      | some d =>
        rcases hstep d hd with ⟨hon, hstep⟩ | ⟨hoff, hvu⟩
        rotate_left
        · rw [if_neg (by rw [hoff.wanted]; decide), ← hd]
          exact ih _ _ _ (step_slots hfit hV hn h ho (fun d' hd' => by rw [hd] at hd'; cases hd'; exact hvu) (Outs.refl _ _) (hke w (Below.refl _ w))) (by omega)
        rw [if_pos hon.wanted]
        refine .inl ?_
        unfold Oper.wp
        rcases hstep with ⟨v, w', hr, hv, hb⟩ | ⟨f, args, hr, hc2⟩
        · rw [hr]
          exact ih _ _ _ (step_slots hfit hV hn h ho (fun d' hd' => by rw [hd] at hd'; cases hd'; exact hv) (Outs.of_below hb) (hke w' hb)) (by omega)
        · rw [hr, Oper.upon_enter]
          refine hc2.mono fun e w' he => ?_
          obtain ⟨v, rfl, hv, hb⟩ := he
          exact ih _ _ _ (step_slots hfit hV hn h ho (fun d' hd' => by rw [hd] at hd'; cases hd'; exact hv) (Outs.of_below hb) (hke w' hb)) (by omega)
    | some q =>
      obtain ⟨g, t, old, new⟩ := q
      rw [hl] at hstep
      simp only at hstep
      have hm : (i, g, t, old, new) ∈ es := lookup_mem hl
      have h0 := h.eff _ hm
      rw [if_neg (by rw [hul]; decide)] at h0
      obtain ⟨hon, hstep⟩ := hstep h0
      have hgS : g ∈ S := by rw [hS]; exact List.mem_map.2 ⟨_, hm, rfl⟩
      have hke : ∀ w', Turned w' g t new → w.grownBy w' (some g) → ∀ e ∈ es, if (listed.setIfInBounds i true).getD e.1 false = true then Turned w' e.2.1 e.2.2.1 e.2.2.2.2 else Blk w' e.2.1 e.2.2.1 e.2.2.2.1 := fun w' hbk hgr e he => by
        by_cases hei : e.1 = i
        · have := lookup_key he hnd
          rw [hei, hl] at this
          obtain ⟨e1, e2⟩ := e
          cases this
          cases hei
          have hil : (listed.setIfInBounds e1 true).getD e1 false = true := by
            have : e1 < listed.size := by rw [h.ls]; exact (Array.getElem?_eq_some_iff.1 ho).1
            simp [this]
          simp only [hil, if_true]
          exact hbk
        · rw [getD_set_ne (Ne.symm hei)]
          have hne : e.2.1 ≠ g := by
            intro hg
            rcases List.mem_iff_getElem.1 he with ⟨a1, ha1, ea1⟩
            rcases List.mem_iff_getElem.1 hm with ⟨a2, ha2, ea2⟩
            have hp := List.pairwise_iff_getElem.1 hgn
            rcases Nat.lt_trichotomy a1 a2 with hlt | heq | hlt
            · exact hp a1 a2 ha1 ha2 hlt (by rw [ea1, ea2]; exact hg)
            · subst heq; rw [ea1] at ea2; exact hei (by rw [ea2])
            · exact hp a2 a1 ha2 ha1 hlt (by rw [ea1, ea2]; exact hg.symm)
          have h1 := h.eff e he
          split at h1
          · rename_i hl1
            rw [if_pos hl1]
            obtain ⟨cs, hc1, hc2⟩ := h1
            exact ⟨cs, hE e he cs _ _ hc1 (Outs.of_grown hgr hgS), hc2.grown hgr (fun h' => hne (Option.some.inj h'))⟩
          · rename_i hl1
            rw [if_neg hl1]
            exact h1.grown hgr (fun h' => hne (Option.some.inj h'))
      rw [if_pos hon.wanted]
      refine .inl ?_
      unfold Oper.wp
      rcases hstep with ⟨v, w', hr, hv, hbk, hgr⟩ | ⟨f, args, hr, hc2⟩
      · rcases hr with hr | ⟨hvu, hr⟩
        · rw [hr]
          exact ih _ _ _ (step_slots hfit hV hn h ho hv (Outs.of_grown hgr hgS) (hke w' hbk hgr)) (by omega)
        · rw [hr]
          rw [hvu] at hv
          exact ih _ _ _ (step_slots hfit hV hn h ho hv (Outs.of_grown hgr hgS) (hke w' hbk hgr)) (by omega)
      · rw [hr, Oper.upon_enter]
        refine hc2.mono fun e w' he => ?_
        obtain ⟨v, rfl, hv, hbk, hgr⟩ := he
        exact ih _ _ _ (step_slots hfit hV hn h ho hv (Outs.of_grown hgr hgS) (hke w' hbk hgr)) (by omega)

def StepsS (P : Program) (ops : Array Oper) (V : Nat → Value → World → Prop) (w0 : World) (S : List Nat) (es : List Eff) : Nat → List Oper → Prop
  | _, [] => True
  | i, o :: l => StepS P ops V w0 S es i o ∧ StepsS P ops V w0 S es (i + 1) l
theorem StepsS.all : ∀ {l : List Oper} {i : Nat}, StepsS P ops V w0 S es i l → ∀ (j : Nat) (o : Oper), l[j]? = some o → StepS P ops V w0 S es (i + j) o
  | [], _, _, j, o, h => by simp at h
  | x :: l, i, hs, 0, o, h => by simp at h; subst h; exact hs.1
  | x :: l, i, hs, j + 1, o, h => by
    rw [show i + (j + 1) = i + 1 + j by omega]
    exact StepsS.all hs.2 j o (by simpa using h)
theorem exec_store {ρ : Operand → Value} {w w' : World} {ty : TypeId} {o : Oper} (p x : Operand) (ho : o.op = .store ty p x) {pv xv : Value} (hp : ρ p = pv) (hx : ρ x = xv) (hrun : (Instr.storeAt ty pv xv).run P w = .ok () w') : (execOp ρ o).run P w = .ok .skip w' := by
  unfold execOp
  simp only [ho, hp, hx, Sem.run_bind, Sem.run_pure, Result.andThen_ok, hrun]
theorem exec_load {ρ : Operand → Value} {w : World} {ty : TypeId} {o : Oper} (p : Operand) (ho : o.op = .load ty p) {pv v : Value} (hp : ρ p = pv) (hrun : (Instr.loadAt ty pv).run P w = .ok v w) : (execOp ρ o).run P w = .ok (.value v) w := by
  unfold execOp
  simp only [ho, hp, Sem.run_bind, Sem.run_pure, Result.andThen_ok, hrun]
/-- THE REGION, as region_inv2; 'es': the operations that turn blocks. -/
theorem region_invS {id : Nat} {a : Act} {w : World} (hm : P.follows .mixedOrders = true) (ps : List (Nat × (Value → World → Prop))) (vs : List (Nat × Value)) (es : List Eff) (S : List Nat) (hfit : fitsS .any ops (es.map (·.1)) = true)
    (hn : (ops.toList.all fun o => match o.dst with | some d => decide (d < a.tmps.size) | none => true) = true) (hdf : a.defers = [])
    (hks : ((ps.map (·.1) ++ vs.map (·.1)).all fun k => !nobody ops k) = true) (hnd : (es.map (·.1)).Nodup) (hin : (es.map (·.1)).all (fun i => decide (i < ops.size)) = true) (hS : S = es.map (·.2.1)) (hgn : es.Pairwise fun x y => x.2.1 ≠ y.2.1)
    (hold : ∀ e ∈ es, Blk w.drew e.2.1 e.2.2.1 e.2.2.2.1)
    (hV : ∀ p ∈ ps, ∀ (v : Value) (w w' : World), p.2 v w → Outs S w w' → p.2 v w') (hE : ∀ e ∈ es, ∀ (cs : Array Value) (w w' : World), e.2.2.2.2 cs w → Outs S w w' → e.2.2.2.2 cs w') (hst : StepsS P ops (slotW ps vs a.tmps) w.drew S es 0 ops.toList)
    (hfin : ∀ (a' : Act) (w' : World), a'.tmps.size = a.tmps.size → a'.defers = [] → Outs S w.drew w' → (∀ k, slotW ps vs a.tmps k (a'.eval (.tmp k)) w') → (∀ e ∈ es, Turned w' e.2.1 e.2.2.1 e.2.2.2.2) → Q .normal a' w') : (Code.region id ops true).wp P Q a w := by
  have hno : ∀ k, nobody ops k = true → ps.lookup k = none ∧ vs.lookup k = none := by
    intro k hk
    constructor
    · cases hl : ps.lookup k with
      | none => rfl
      | some p =>
        have := List.all_eq_true.1 hks k (List.mem_append.2 (.inl (List.mem_map.2 ⟨_, lookup_mem hl, rfl⟩)))
        rw [hk] at this; cases this
    · cases hl : vs.lookup k with
      | none => rfl
      | some p =>
        have := List.all_eq_true.1 hks k (List.mem_append.2 (.inr (List.mem_map.2 ⟨_, lookup_mem hl, rfl⟩)))
        rw [hk] at this; cases this
  have hbase : ∀ k w', nobody ops k = true → slotW ps vs a.tmps k (a.eval (.tmp k)) w' := by
    intro k w' hk
    obtain ⟨h1, h2⟩ := hno k hk
    unfold slotW
    rw [h1, h2]
    rfl
  refine wp_region_any hm ?_
  refine any_invS (V := slotW ps vs a.tmps) (n := a.tmps.size) (w0 := w.drew) (S := S) (es := es) hfit hnd hgn hS (fun e he => of_decide_eq_true (List.all_eq_true.1 hin e.1 (List.mem_map.2 ⟨e, he, rfl⟩))) (fun k v w w' hv hb => ?_) hE (fun i o d hi hd => ?_) (fun i o hi => ?_) hfin _ _ _ _ ⟨rfl, hdf, by simp, Outs.refl _ _, fun k hk => hbase k _ ?_, fun i o d hi hd hl => ?_, fun e he => ?_⟩ ?_
  · unfold slotW at *
    cases hl : ps.lookup k with
    | none => rw [hl] at hv; exact hv
    | some p => rw [hl] at hv; exact hV (k, p) (lookup_mem hl) v w w' hv hb
  · have := List.all_eq_true.1 hn o (by simpa using Array.mem_of_getElem? hi)
    rw [hd] at this
    exact of_decide_eq_true this
  · have := hst.all i o (by rw [Array.getElem?_toList]; exact hi)
    rwa [Nat.zero_add] at this
  · refine List.all_eq_true.2 fun j _ => ?_
    cases hj : ops[j]? with
    | none => rfl
    | some o' => simpa using hk j o' hj
  · rw [Array.getD_eq_getD_getElem?, Array.getElem?_replicate] at hl
    split at hl <;> cases hl
  · have hf : (Array.replicate ops.size false).getD e.1 false = false := by
      rw [Array.getD_eq_getD_getElem?, Array.getElem?_replicate]
      split <;> rfl
    rw [if_neg (by rw [hf]; decide)]
    exact hold e he
  · simp
end
end Go.Proofs.Yteiaiilfekojfaa.DrawInv
