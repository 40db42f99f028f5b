/- The walk Sx through a region that draws its order: what leaves the memory alone is taken first; the rest as it may come. No program in sight. No conditions. -/
import Derived.Test.YteiaiilfekojfaaSxE
import Derived.Deep.RegionHeld
set_option linter.unusedVariables false
set_option linter.unusedSimpArgs false
namespace Go.Proofs.Yteiaiilfekojfaa.Sx
open Go.RowKit DrawInv

/-- What stays known in a region: facts; the elder blocks but some. -/
structure Ks (w0 : World) (G : List Nat) (L : List Ft) (w : World) : Prop where
  os : Outs G w0 w
  fa : ∀ p ∈ L, p.φ w
theorem Ks.get {w0 w : World} {G : List Nat} {L : List Ft} (S : Ks w0 G L w) {i : Nat} {f : Ft} (h : nth L i = some f) : f.φ w := S.fa f (nth_mem h)
theorem Hp.ks {w0 w : World} {L Lk : List Ft} (H : Hp w0 L w) (G is : List Nat) (hp : picks L is = some Lk) (hg : allF L fun f => ∀ g ∈ f.fp, g ∈ G ∨ w0.heap.size ≤ g) : Ks w0 G Lk w :=
  ⟨H.os.mono fun g hm hlt => by
    obtain ⟨f, hf, hgf⟩ := List.mem_flatMap.1 hm
    rcases hg.mem f hf g hgf with h | h
    · exact h
    · omega, fun p hpm => by obtain ⟨i, _, e⟩ := picks_mem hp p hpm; exact H.get e⟩
theorem Hp.drew {w0 w : World} {L : List Ft} (H : Hp w0 L w) : Hp w0 L w.drew := H.below (Below.refl _ w).drew
section
variable {P : Program} {ops : Array Oper} {Q : Exit → Act → World → Prop} {n : Nat} {vs : Vs} {w0 : World} {L : List Ft} {S : World → Prop} {fuel : Nat} {listed : Array Bool}
def SxA (P : Program) (ops : Array Oper) (Q : Exit → Act → World → Prop) (S : World → Prop) (fuel : Nat) (listed : Array Bool) (n : Nat) (vs : Vs) (w0 : World) (L : List Ft) : Prop := ∀ a w, Kn n vs a → Hp w0 L w → S w → wpAnyH P .any ops Q S fuel listed a w
/-- Operation i comes up. -/
def SxO (P : Program) (ops : Array Oper) (Q : Exit → Act → World → Prop) (S : World → Prop) (fuel : Nat) (listed : Array Bool) (i : Nat) (n : Nat) (vs : Vs) (w0 : World) (L : List Ft) : Prop := ∀ a w, Kn n vs a → Hp w0 L w → S w → wpOp P ops Q i (fun a' w' => S w' ∧ wpAnyH P .any ops Q S fuel (listed.setIfInBounds i true) a' w') a w
theorem SxC.drawn {id : Nat} {l : List Oper} (S : World → Prop) (hm : P.follows .mixedOrders = true) (hS : ∀ w, Hp w0 L w → S w) (h : SxA P l.toArray Q S l.toArray.size (Array.replicate l.toArray.size false) n vs w0 L) : SxC P (.region id l.toArray true) Q n vs w0 L :=
  fun a w K H => wp_region_held_drew (S := S) hm (hS _ H.drew) fun hs => h a w.drew K H.drew hs
theorem SxA.done (hr : Region.ready .any ops listed = []) (h : SxN Q n vs w0 L) : SxA P ops Q S fuel listed n vs w0 L := fun a w K H _ => wpAnyH_done hr (h a w K H) fuel
theorem SxN.sub {vs' : Vs} {L' : List Ft} (h : SxN Q n vs' w0 L') (hs : Sub vs' vs) (is : List Nat) (hp : picks L is = some L') (hn : is.Nodup) (hf : Frs w0 is 0 L) : SxN Q n vs w0 L := fun a w K H => h a w (K.sub hs) (H.pick is hp hn hf)
/-- Taken first. -/
theorem SxA.take {i d : Nat} {oi : Oper} {v : Value} (hi : ops[i]? = some oi) (hs : Region.noSelect ops = true) (hf : Region.free .any ops listed i = true) (hr : (Region.ready .any ops listed).contains i = true) (hd : oi.dst = some d) (hdn : Nat.blt d n = true)
    (hQ : ∀ c a w, Q (.panic c) (a.put (some d) v) w → Q (.panic c) a w) (hg : GOn ops vs oi.guard) (hrun : ∀ ρ w, Env vs ρ → S w → (execOp ρ oi).run P w = .ok (.value v) w)
    (h : SxA P ops Q S fuel (listed.setIfInBounds i true) n ((d, v) :: vs) w0 L) : SxA P ops Q S (fuel + 1) listed n vs w0 L := fun a w K H hS => by
  refine wpAnyH_take hi hs hf hr (by rw [hd]; exact hQ) (.inl ⟨(hg.on K.env).wanted, fun w hS => hrun a.eval w K.env hS⟩) hS ?_
  rw [hd]
  exact h _ _ (K.put hdn v) H hS
theorem SxA.takeOff {i d : Nat} {oi : Oper} (hi : ops[i]? = some oi) (hs : Region.noSelect ops = true) (hf : Region.free .any ops listed i = true) (hr : (Region.ready .any ops listed).contains i = true) (hd : oi.dst = some d) (hdn : Nat.blt d n = true)
    (hQ : ∀ c a w, Q (.panic c) (a.put (some d) undef) w → Q (.panic c) a w) (hg : GOff ops vs oi.guard) (h : SxA P ops Q S fuel (listed.setIfInBounds i true) n ((d, undef) :: vs) w0 L) : SxA P ops Q S (fuel + 1) listed n vs w0 L := fun a w K H hS => by
  refine wpAnyH_take hi hs hf hr (by rw [hd]; exact hQ) (.inr ⟨(hg.off K.env).wanted, rfl⟩) hS ?_
  rw [hd]
  exact h _ _ (K.put hdn undef) H hS
/-- A bool becomes a letter. -/
theorem SxA.takeB {i d : Nat} {oi : Oper} {b : Bool} (hi : ops[i]? = some oi) (hs : Region.noSelect ops = true) (hf : Region.free .any ops listed i = true) (hr : (Region.ready .any ops listed).contains i = true) (hd : oi.dst = some d) (hdn : Nat.blt d n = true)
    (hQ : ∀ c a w, Q (.panic c) (a.put (some d) (.bool b)) w → Q (.panic c) a w) (hg : GOn ops vs oi.guard) (hrun : ∀ ρ w, Env vs ρ → S w → (execOp ρ oi).run P w = .ok (.value (.bool b)) w)
    (h : ∀ t, b = t → SxA P ops Q S fuel (listed.setIfInBounds i true) n ((d, .bool t) :: vs) w0 L) : SxA P ops Q S (fuel + 1) listed n vs w0 L := SxA.take hi hs hf hr hd hdn hQ hg hrun (h b rfl)
def allO (Q : Nat → Prop) : List Nat → Prop
  | [] => True
  | i :: l => Q i ∧ allO Q l
theorem allO.mem {Q : Nat → Prop} : ∀ {l : List Nat}, allO Q l → ∀ i ∈ l, Q i
  | [], _, _, h => by cases h
  | x :: l, hq, i, h => by
    rcases List.mem_cons.1 h with rfl | h
    · exact hq.1
    · exact allO.mem hq.2 i h
/-- What may come up: each in turn. -/
theorem SxA.ready (rs : List Nat) (hr : Region.ready .any ops listed = rs) (hne : rs ≠ []) (h : allO (fun i => SxO P ops Q S fuel listed i n vs w0 L) rs) : SxA P ops Q S (fuel + 1) listed n vs w0 L := fun a w K H hS =>
  wpAnyH_all hr hne fun i hi => h.mem i hi a w K H hS
theorem op_on {a : Act} {w : World} {i : Nat} {o : Oper} {K : Act → World → Prop} (hi : ops[i]? = some o) (hon : On ops a.eval o.guard) (h : o.wp P a w K Q) : wpOp P ops Q i K a w := by
  unfold wpOp
  rw [hi]
  simp only
  rw [if_pos hon.wanted]
  exact .inl h
theorem SxO.off {i : Nat} {o : Oper} (hi : ops[i]? = some o) (hd : o.dst = none) (hg : GOff ops vs o.guard) (h : SxA P ops Q S fuel (listed.setIfInBounds i true) n vs w0 L) : SxO P ops Q S fuel listed i n vs w0 L := fun a w K H hS => by
  unfold wpOp
  rw [hi]
  simp only
  rw [if_neg (by rw [(hg.off K.env).wanted]; decide), hd]
  exact ⟨hS, h a w K H hS⟩
theorem SxO.val {i d : Nat} {o : Oper} {v : Value} (hi : ops[i]? = some o) (hon : GOn ops vs o.guard) (hd : o.dst = some d) (hdn : Nat.blt d n = true) (hr : ∀ ρ w, Env vs ρ → Hp w0 L w → (execOp ρ o).run P w = .ok (.value v) w)
    (h : SxA P ops Q S fuel (listed.setIfInBounds i true) n ((d, v) :: vs) w0 L) : SxO P ops Q S fuel listed i n vs w0 L := fun a w K H hS => by
  refine op_on hi (hon.on K.env) ?_
  unfold Oper.wp
  rw [hr a.eval w K.env H]
  show S w ∧ wpAnyH _ _ _ _ _ _ _ (a.put o.dst v) w
  rw [hd]
  exact ⟨hS, h _ _ (K.put hdn v) H hS⟩
theorem SxO.new {i d : Nat} {o : Oper} {t : TypeId} {cs : List Value} (hi : ops[i]? = some o) (hon : GOn ops vs o.guard) (hd : o.dst = some d) (hdn : Nat.blt d n = true)
    (hr : ∀ ρ w, Env vs ρ → Hp w0 L w → (execOp ρ o).run P w = .ok (.value (.pointer (some ⟨w.heap.size, 0, none⟩))) (w.alloc (.cells cs.toArray t)))
    (hS : ∀ g w, w0.heap.size ≤ g → Hp w0 (cell g t cs :: L) w → S w) (h : ∀ g, w0.heap.size ≤ g → SxA P ops Q S fuel (listed.setIfInBounds i true) n ((d, .pointer (some ⟨g, 0, none⟩)) :: vs) w0 (cell g t cs :: L)) : SxO P ops Q S fuel listed i n vs w0 L := fun a w K H _ => by
  refine op_on hi (hon.on K.env) ?_
  unfold Oper.wp
  rw [hr a.eval w K.env H]
  show S _ ∧ wpAnyH _ _ _ _ _ _ _ (a.put o.dst _) _
  rw [hd]
  have H' := H.add ((Below.refl _ w).alloc (Nat.le_refl _) (.cells cs.toArray t)) _ (cell_loc _ _ _) (fun g hg => by
    obtain rfl := List.mem_singleton.1 hg
    exact ⟨by rw [World.alloc, Array.size_push]; omega, Nat.le_refl _⟩) (Blk.new w t cs.toArray)
  exact ⟨hS _ _ H.os.size H', h _ H.os.size _ _ (K.put hdn _) H' (hS _ _ H.os.size H')⟩
theorem SxO.newS {i d len e : Nat} {o : Oper} {cs : List Value} (hi : ops[i]? = some o) (hon : GOn ops vs o.guard) (hd : o.dst = some d) (hdn : Nat.blt d n = true)
    (hr : ∀ ρ w, Env vs ρ → Hp w0 L w → (execOp ρ o).run P w = .ok (.value (.slice (some ⟨w.heap.size, 0, none⟩) len len)) (w.alloc (.cells cs.toArray e)))
    (hS : ∀ g w, w0.heap.size ≤ g → Hp w0 (cell g e cs :: L) w → S w) (h : ∀ g, w0.heap.size ≤ g → SxA P ops Q S fuel (listed.setIfInBounds i true) n ((d, .slice (some ⟨g, 0, none⟩) len len) :: vs) w0 (cell g e cs :: L)) : SxO P ops Q S fuel listed i n vs w0 L := fun a w K H _ => by
  refine op_on hi (hon.on K.env) ?_
  unfold Oper.wp
  rw [hr a.eval w K.env H]
  show S _ ∧ wpAnyH _ _ _ _ _ _ _ (a.put o.dst _) _
  rw [hd]
  have H' := H.add ((Below.refl _ w).alloc (Nat.le_refl _) (.cells cs.toArray e)) _ (cell_loc _ _ _) (fun g hg => by
    obtain rfl := List.mem_singleton.1 hg
    exact ⟨by rw [World.alloc, Array.size_push]; omega, Nat.le_refl _⟩) (Blk.new w e cs.toArray)
  exact ⟨hS _ _ H.os.size H', h _ H.os.size _ _ (K.put hdn _) H' (hS _ _ H.os.size H')⟩
theorem SxO.turn {i j g : Nat} {o : Oper} {t : TypeId} {cs : List Value} (cs' : List Value) (hi : ops[i]? = some o) (hon : GOn ops vs o.guard) (hd : o.dst = none) (hj : nth L j = some (cell g t cs))
    (hr : ∀ ρ w, Env vs ρ → Hp w0 L w → ∃ w', (execOp ρ o).run P w = .ok .skip w' ∧ Blk w' g t cs'.toArray ∧ w.grownBy w' (some g))
    (hS : ∀ w, Hp w0 (putF L j (cell g t cs')) w → S w) (h : SxA P ops Q S fuel (listed.setIfInBounds i true) n vs w0 (putF L j (cell g t cs'))) : SxO P ops Q S fuel listed i n vs w0 L := fun a w K H _ => by
  refine op_on hi (hon.on K.env) ?_
  unfold Oper.wp
  obtain ⟨w', hr, hb, hg⟩ := hr a.eval w K.env H
  rw [hr]
  show S _ ∧ wpAnyH _ _ _ _ _ _ _ (a.put o.dst _) _
  rw [hd]
  have H' := H.chg hj (cell g t cs') (Outs.of_grown hg (List.mem_singleton.2 rfl)) (cell_loc _ _ _) (fun g' hg' => by
    obtain rfl := List.mem_singleton.1 hg'
    exact ⟨hb.lt, .inl (List.mem_singleton.2 rfl)⟩) (fun g' hg' => .inl hg') hb
  exact ⟨hS _ H', h _ _ K H' (hS _ H')⟩
theorem SxO.store {i j g t m off : Nat} {o : Oper} {u : TypeId} {cs : List Value} {v : Value} {p x : Operand} (hi : ops[i]? = some o) (hon : GOn ops vs o.guard) (hd : o.dst = none) (ho : o.op = .store u p x) (hp : opv vs p = some (.pointer (some ⟨g, off, none⟩))) (hx : opv vs x = some v) (hj : nth L j = some (cell g t cs)) (hz : (P.info? u).map (·.size) = some m) (hm : v.cells.toList.length = m) (hl : Nat.ble (off + m) cs.length = true) (h1 : v.cells.toList.all (·.oneCell') = true)
    (hS : ∀ w, Hp w0 (putF L j (cell g t (putL cs off v.cells.toList))) w → S w) (h : SxA P ops Q S fuel (listed.setIfInBounds i true) n vs w0 (putF L j (cell g t (putL cs off v.cells.toList)))) : SxO P ops Q S fuel listed i n vs w0 L :=
  SxO.turn _ hi hon hd hj (fun ρ w E H => ex_store E (H.get hj) ho hp hx hz hm hl h1) hS h
theorem SxO.call {σ : Type} {i d f : Nat} {o : Oper} {args : Array Value} (v : σ → Value) (F : σ → Prop) (L' : σ → List Ft) (hi : ops[i]? = some o) (hon : GOn ops vs o.guard) (hd : o.dst = some d) (hdn : Nat.blt d n = true)
    (hr : ∀ ρ w, Env vs ρ → (execOp ρ o).run P w = .ok (.enter f args) w) (hc : ∀ w, Hp w0 L w → Calls P f args w fun e w' => ∃ s, e = .returned (v s) ∧ F s ∧ Hp w0 (L' s) w')
    (hS : ∀ s w, F s → Hp w0 (L' s) w → S w) (h : ∀ s, F s → SxA P ops Q S fuel (listed.setIfInBounds i true) n ((d, v s) :: vs) w0 (L' s)) : SxO P ops Q S fuel listed i n vs w0 L := fun a w K H _ => by
  refine op_on hi (hon.on K.env) ?_
  unfold Oper.wp
  rw [hr a.eval w K.env, Oper.upon_enter]
  refine (hc w H).mono fun e w' he => ?_
  obtain ⟨s, rfl, hF, H'⟩ := he
  show S _ ∧ wpAnyH _ _ _ _ _ _ _ (a.put o.dst _) _
  rw [hd]
  exact ⟨hS s _ hF H', h s hF _ _ (K.put hdn _) H' (hS s _ hF H')⟩
theorem SxO.callB {i d f : Nat} {o : Oper} {args : Array Value} {v : Value} (hi : ops[i]? = some o) (hon : GOn ops vs o.guard) (hd : o.dst = some d) (hdn : Nat.blt d n = true)
    (hr : ∀ ρ w, Env vs ρ → (execOp ρ o).run P w = .ok (.enter f args) w) (hc : ∀ w, Hp w0 L w → Calls P f args w fun e w' => e = .returned v ∧ Below w.heap.size w w')
    (hS : ∀ w, Hp w0 L w → S w) (h : SxA P ops Q S fuel (listed.setIfInBounds i true) n ((d, v) :: vs) w0 L) : SxO P ops Q S fuel listed i n vs w0 L :=
  SxO.call (σ := Unit) (fun _ => v) (fun _ => True) (fun _ => L) hi hon hd hdn hr (fun w H => (hc w H).mono fun _ _ he => ⟨(), he.1, trivial, H.below he.2⟩) (fun _ w _ H => hS w H) (fun _ _ => h)
end
end Go.Proofs.Yteiaiilfekojfaa.Sx
