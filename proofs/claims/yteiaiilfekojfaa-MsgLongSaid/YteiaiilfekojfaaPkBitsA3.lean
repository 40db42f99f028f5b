/- Texts that the proof of MsgBits and MsgLong leans on, put together (3 of 5). Conditions: each theorem states its own. -/
import Derived.Test.YteiaiilfekojfaaPkBitsA2
section
set_option linter.unusedVariables false
set_option linter.unusedSimpArgs false
namespace Go.Proofs.Yteiaiilfekojfaa.Sx
open Go.RowKit DrawInv
section
variable {P : Program} {ops : Array Oper} {Q Q' : Exit → Act → World → Prop} {n : Nat} {vs : Vs} {w0 : World} {L : List Ft} {o : Oper} {rest : List Oper}
theorem SxL.call2 {α β : Type} {d f : Nat} {args : Array Value} (v : α → β → Value) (F : α → β → Prop) (L' : α → β → List Ft) (hon : GOn ops vs o.guard) (hd : o.dst = some d) (hdn : Nat.blt d n = true)
    (hr : ∀ ρ w, Env vs ρ → (execOp ρ o).run P w = .ok (.enter f args) w) (hc : ∀ w, Hp w0 L w → Calls P f args w fun e w' => ∃ a b, e = .returned (v a b) ∧ F a b ∧ Hp w0 (L' a b) w')
    (h : ∀ a b, F a b → SxL P ops Q rest n ((d, v a b) :: vs) w0 (L' a b)) : SxL P ops Q (o :: rest) n vs w0 L :=
  SxL.call (σ := α × β) (fun s => v s.1 s.2) (fun s => F s.1 s.2) (fun s => L' s.1 s.2) hon hd hdn hr (fun w H => (hc w H).mono fun _ _ ⟨a, b, h⟩ => ⟨(a, b), h⟩) (fun s hF => h s.1 s.2 hF)
/-- A call that makes new memory, told as one fact. -/
theorem callNew {σ : Type} {f : Nat} {args : Array Value} (v : σ → Value) (F : σ → Prop) (fF : σ → Ft) (hl : ∀ s, (fF s).Loc) (hc : ∀ w, Hp w0 L w → Calls P f args w fun E w' => ∃ s, E = .returned (v s) ∧ F s ∧ (∀ g ∈ (fF s).fp, w.heap.size ≤ g ∧ g < w'.heap.size) ∧ (fF s).φ w' ∧ Below w.heap.size w w') :
    ∀ w, Hp w0 L w → Calls P f args w fun E w' => ∃ s, E = .returned (v s) ∧ (F s ∧ ∀ g ∈ (fF s).fp, w0.heap.size ≤ g) ∧ Hp w0 (fF s :: L) w' := fun w H => (hc w H).mono fun E w' ⟨s, h1, h2, h3, h4, h5⟩ =>
  ⟨s, h1, ⟨h2, fun g hg => Nat.le_trans H.os.size (h3 g hg).1⟩, H.add h5 _ (hl s) (fun g hg => ⟨(h3 g hg).2, (h3 g hg).1⟩) h4⟩
end
end Go.Proofs.Yteiaiilfekojfaa.Sx
namespace Go.Proofs.Yteiaiilfekojfaa.Msg
open Go.RowKit Wire Sx DrawInv
def madeF (base g : Nat) (a : Ms) (V I : Value) : Ft := ⟨g :: (V.ownBlock.toList ++ I.ownBlock.toList), Made base g a V I⟩
theorem own_loc {w w' : World} {base e sz n : Nat} {v : Value} {xs : List Value} (h : w.ownsRow base e sz v n xs) (hs : ∀ g ∈ v.ownBlock.toList, w'.heap[g]? = w.heap[g]?) : w'.ownsRow base e sz v n xs :=
  rowX_loc [] base e sz v n xs w w' (fun g hg => hs g (by simpa [rowX] using hg)) h
theorem madeF_loc (base g : Nat) (a : Ms) (V I : Value) : (madeF base g a V I).Loc := by
  intro w w' h hM
  obtain ⟨h1, h2, h3⟩ := hM
  exact ⟨(h g (List.mem_cons_self ..)).trans h1, own_loc h2 fun b hb => h b (List.mem_cons_of_mem _ (List.mem_append.2 (.inl hb))), own_loc h3 fun b hb => h b (List.mem_cons_of_mem _ (List.mem_append.2 (.inr hb)))⟩
theorem made_fresh {w0 : World} {base g : Nat} {a : Ms} {V I : Value} (hg : w0.heap.size ≤ g) (hV : OwnIn w0 [] V) (hI : OwnIn w0 [] I) : ∀ b ∈ (madeF base g a V I).fp, w0.heap.size ≤ b := by
  intro b hb
  rcases List.mem_cons.1 hb with rfl | hb
  · exact hg
  · rcases List.mem_append.1 hb with hb | hb
    · exact (hV b hb).resolve_left (by simp)
    · exact (hI b hb).resolve_left (by simp)
theorem own_none (w : World) : OwnIn w [] (.slice none 0 0) := fun g hg => by cases hg
theorem own_trans {w0 w : World} {V V' : Value} (hs : w0.heap.size ≤ w.heap.size) (h : OwnIn w0 [] V) (h' : OwnIn w V.ownBlock.toList V') : OwnIn w0 [] V' := fun g hg => (h' g hg).elim (h g) fun h => .inr (Nat.le_trans hs h)
section
variable {w0 : World} {L : List Ft}
theorem made_chg {w w' : World} {i base g : Nat} {a a' : Ms} {V I V' I' : Value} {G : List Nat} (H : Hp w0 L w) (hi : nth L i = some (madeF base g a V I)) (hg : w0.heap.size ≤ g) (hV : OwnIn w0 [] V) (hI : OwnIn w0 [] I) (hM : Made base g a' V' I' w') (hV' : OwnIn w V.ownBlock.toList V') (hI' : OwnIn w I.ownBlock.toList I')
    (ho : Outs G w w') (hG : ∀ b ∈ G, b ∈ (madeF base g a V I).fp) : Hp w0 (putF L i (madeF base g a' V' I')) w' := by
  refine H.chg hi _ (ho.mono fun b hb _ => hG b hb) (madeF_loc _ _ _ _ _) (fun b hb => ?_) (fun b hb => .inr (made_fresh hg hV hI b hb)) hM
  rcases List.mem_cons.1 hb with rfl | hb
  · exact ⟨Blk.lt hM.1, .inl (List.mem_cons_self ..)⟩
  · rcases List.mem_append.1 hb with hb | hb
    · exact ⟨(own_lt hM.2.1 b hb).2, (hV' b hb).imp (fun h => List.mem_cons_of_mem _ (List.mem_append.2 (.inl h))) id⟩
    · exact ⟨(own_lt hM.2.2 b hb).2, (hI' b hb).imp (fun h => List.mem_cons_of_mem _ (List.mem_append.2 (.inr h))) id⟩
theorem call_made {f : Nat} {args : Array Value} {P : Program} {i base g : Nat} {a a' : Ms} {V I v : Value} (hi : nth L i = some (madeF base g a V I)) (hg : w0.heap.size ≤ g) (hV : OwnIn w0 [] V) (hI : OwnIn w0 [] I)
    (hc : ∀ w, Hp w0 L w → Calls P f args w fun e w' => ∃ V' I', e = .returned v ∧ Made base g a' V' I' w' ∧ (OwnIn w V.ownBlock.toList V' ∧ OwnIn w I.ownBlock.toList I') ∧ Outs [g] w w') :
    ∀ w, Hp w0 L w → Calls P f args w fun E w' => ∃ V' I', E = .returned v ∧ (OwnIn w0 [] V' ∧ OwnIn w0 [] I') ∧ Hp w0 (putF L i (madeF base g a' V' I')) w' := fun w H => (hc w H).mono fun E w' ⟨V', I', h1, h2, h3, h4⟩ =>
  ⟨V', I', h1, ⟨own_trans H.os.size hV h3.1, own_trans H.os.size hI h3.2⟩, made_chg H hi hg hV hI h2 h3.1 h3.2 h4 (fun b hb => by rw [List.mem_singleton.1 hb]; exact List.mem_cons_self ..)⟩
end
theorem made_new {w : World} {base g k : Nat} (h : (cell g 45 (msL (ms0 k) (.slice none 0 0) (.slice none 0 0))).φ w) : Made base g (ms0 k) (.slice none 0 0) (.slice none 0 0) w :=
  ⟨h, World.ownsRow_nil _ _ _ _, World.ownsRow_nil _ _ _ _⟩
/-- What taking a part does. -/
theorem take_all (p : Pt) (base gr g : Nat) (r : Rd) (a : Ms) (V I : Value) (w : World) (hr : Blk w gr 118 (rdC r)) (hM : Made base g a V I w) (hne : gr ≠ g) (hb : base ≤ w.heap.size) (hG : Grows r a.votes.length ∧ Grows r a.items.length) :
    Calls Try.prog p.takeF #[.pointer (some ⟨gr, 0, none⟩), .pointer (some ⟨g, 0, none⟩)] w fun e w' => ∃ V' I', e = .returned (.tuple #[]) ∧ Blk w' gr 118 (rdC (p.take (a, r)).2) ∧ Made base g (p.take (a, r)).1 V' I' w' ∧ (OwnIn w V.ownBlock.toList V' ∧ OwnIn w I.ownBlock.toList I') ∧ Outs ([gr, g] ++ (V.ownBlock.toList ++ I.ownBlock.toList)) w w' := by
  obtain ⟨hg, hV, hI⟩ := hM
  have d1 := own_blk hV hg (by decide)
  have d2 := own_blk hI hg (by decide)
  have d3 := own_blk hV hr (by decide)
  have d4 := own_blk hI hr (by decide)
  have hrl : r.rest.length ≤ 1000000 := Nat.le_trans hG.1.h1 (by decide)
  obtain ⟨xk, xn, xr, xb, xs, xo, xv, wl, jl, ⟨da, db, dk, ds, dt, du, dz⟩, xc, xt⟩ := a
  dsimp only at hG
  have hkV : ∀ w', Outs [gr, g] w w' → w'.ownsRow base 76 4 V wl.length (wl.flatMap voL) := fun w' ho => own_kept hV ho fun b hb hm => by
    simp only [List.mem_cons, List.not_mem_nil, or_false] at hm
    rcases hm with rfl | rfl
    · exact d3 hb
    · exact d1 hb
  have hkI : ∀ w', Outs [gr, g] w w' → w'.ownsRow base 78 2 I jl.length (jl.flatMap imL) := fun w' ho => own_kept hI ho fun b hb hm => by
    simp only [List.mem_cons, List.not_mem_nil, or_false] at hm
    rcases hm with rfl | rfl
    · exact d4 hb
    · exact d2 hb
  have same : ∀ {e : Ending} {w' : World} {q : Ms × Rd}, q.1.votes = wl → q.1.items = jl → e = .returned (.tuple #[]) ∧ Blk w' gr 118 (rdC q.2) ∧ Blk w' g 45 (msL q.1 V I).toArray ∧ Outs [gr, g] w w' →
      ∃ V' I', e = .returned (.tuple #[]) ∧ Blk w' gr 118 (rdC q.2) ∧ Made base g q.1 V' I' w' ∧ (OwnIn w V.ownBlock.toList V' ∧ OwnIn w I.ownBlock.toList I') ∧ Outs ([gr, g] ++ (V.ownBlock.toList ++ I.ownBlock.toList)) w w' := by
    intro e w' q e1 e2 ⟨r1, r2, r3, r4⟩
    exact ⟨V, I, r1, r2, ⟨r3, by rw [e1]; exact hkV w' r4, by rw [e2]; exact hkI w' r4⟩, ⟨OwnIn.refl w V, OwnIn.refl w I⟩, r4.mono fun b hb _ => List.mem_append.2 (.inl hb)⟩
  cases p with
  | cmd => exact (take_cmd _ _ _ _ _ _ _ _ _ _ _ _ _ _ _ _ _ _ _ _ _ _ _ w hr hg hne hrl).mono fun _ _ h => same rfl rfl h
  | name => exact (take_name _ _ _ _ _ _ _ _ _ _ _ _ _ _ _ _ _ _ _ _ _ _ _ w hr hg hne hrl).mono fun _ _ h => same rfl rfl h
  | reply => exact (take_reply _ _ _ _ _ _ _ _ _ _ _ _ _ _ _ _ _ _ _ _ _ _ _ w hr hg hne hrl).mono fun _ _ h => same rfl rfl h
  | node => exact (take_node _ _ _ _ _ _ _ _ _ _ _ _ _ _ _ _ _ _ _ _ _ _ _ w hr hg hne hrl).mono fun _ _ h => same rfl rfl h
  | turn => exact (take_turn _ _ _ _ _ _ _ _ _ _ _ _ _ _ _ _ _ _ _ _ _ _ _ w hr hg hne hrl).mono fun _ _ h => same rfl rfl h
  | floor => exact (take_floor _ _ _ _ _ _ _ _ _ _ _ _ _ _ _ _ _ _ _ _ _ _ _ w hr hg hne hrl).mono fun _ _ h => same rfl rfl h
  | slot l => exact (take_slot _ _ _ _ _ _ _ _ _ _ _ _ _ _ _ _ _ _ _ _ _ _ _ l w hr hg hne hrl).mono fun _ _ h => same rfl rfl h
  | value => exact (take_value _ _ _ _ _ _ _ _ _ _ _ _ _ _ _ _ _ _ _ _ _ _ _ w hr hg hne hrl).mono fun _ _ h => same rfl rfl h
  | votes =>
    refine (take_votes base _ _ _ _ _ _ _ _ _ _ _ _ _ _ _ _ _ _ _ _ _ _ _ w hr hg hne hG.1 hb hV d3 d1).mono fun e w' h => ?_
    obtain ⟨V', r1, r2, r3, r4, r5, r6⟩ := h
    refine ⟨V', I, r1, r2, ⟨r3, r4, own_kept hI r6 fun b hbm hm => ?_⟩, ⟨r5, OwnIn.refl w I⟩, r6.mono fun b hb _ => ?_⟩
    · simp only [List.mem_append, List.mem_cons, List.not_mem_nil, or_false] at hm
      rcases hm with (rfl | rfl) | hm
      · exact d4 hbm
      · exact d2 hbm
      · exact own_own hV hI (by decide) b hm hbm
    · rcases List.mem_append.1 hb with h | h
      · exact List.mem_append.2 (.inl h)
      · exact List.mem_append.2 (.inr (List.mem_append.2 (.inl h)))
  | items =>
    refine (take_items base _ _ _ _ _ _ _ _ _ _ _ _ _ _ _ _ _ _ _ _ _ _ _ w hr hg hne hG.2 hb hI d4 d2).mono fun e w' h => ?_
    obtain ⟨I', r1, r2, r3, r4, r5, r6⟩ := h
    refine ⟨V, I', r1, r2, ⟨r3, own_kept hV r6 fun b hbm hm => ?_, r4⟩, ⟨OwnIn.refl w V, r5⟩, r6.mono fun b hb _ => ?_⟩
    · simp only [List.mem_append, List.mem_cons, List.not_mem_nil, or_false] at hm
      rcases hm with (rfl | rfl) | hm
      · exact d3 hbm
      · exact d1 hbm
      · exact own_own hV hI (by decide) b hbm hm
    · rcases List.mem_append.1 hb with h | h
      · exact List.mem_append.2 (.inl h)
      · exact List.mem_append.2 (.inr (List.mem_append.2 (.inr h)))
end Go.Proofs.Yteiaiilfekojfaa.Msg
end
section
set_option linter.unusedVariables false
set_option linter.unusedSimpArgs false
namespace Go.Proofs.Yteiaiilfekojfaa.Msg
open Go.RowKit Sx Wire DrawInv
set_option maxRecDepth 100000 in
set_option maxHeartbeats 4000000 in
theorem mk_cmd   (w : World) : Calls Try.prog 46 #[] w fun e w' => e = .returned (.agg (ptL .cmd 0).toArray) ∧ Below w.heap.size w w' := by
  refine sx_enter (n := 2) [] Try.func46 rfl rfl rfl (Hp.start w) ?_
  refine SxC.seq ?_
  refine SxC.region ?_
  refine SxL.new (cs := [.nilFunc, .nilFunc, .nilFunc, .nilFunc]) trivial rfl rfl (fun ρ w E H => ex_alloc rfl zr_palaver_msg_part rfl) fun g1 hg1 => ?_
  refine SxL.nil ?_
  refine SxN.then_ ?_
  refine SxC.seq ?_
  refine SxC.region ?_
  refine SxL.val (v := .agg #[.func (.func 66) #[] #[], .func (.func 68) #[] #[], .func (.func 70) #[] #[], .func (.func 71) #[] #[]]) trivial rfl rfl (fun ρ w E H => ex_build (cs := [.func (.func 66) #[] #[], .func (.func 68) #[] #[], .func (.func 70) #[] #[], .func (.func 71) #[] #[]]) E rfl rfl (by kernel_rfl)) ?_
  refine SxL.store (i := 0) trivial rfl rfl rfl rfl rfl sz_palaver_msg_part rfl rfl rfl ?_
  refine SxL.nil ?_
  refine SxN.then_ ?_
  refine SxC.ret ?_
  refine SxX.done (.agg #[.func (.func 66) #[] #[], .func (.func 68) #[] #[], .func (.func 70) #[] #[], .func (.func 71) #[] #[]]) (fun a w K H => resN K [.agg #[.func (.func 66) #[] #[], .func (.func 68) #[] #[], .func (.func 70) #[] #[], .func (.func 71) #[] #[]]] rfl ⟨⟨_, rfl, blk_loadVar (H.get (i := 0) rfl) Try.underlying94 rfl sz_palaver_msg_part⟩, trivial⟩) (fun w H => ?_)
  exact ⟨rfl, H.toBelow ⟨(fun g hg => by rw [List.mem_singleton.1 hg]; exact hg1), trivial⟩⟩

set_option maxRecDepth 100000 in
set_option maxHeartbeats 4000000 in
theorem mk_name   (w : World) : Calls Try.prog 47 #[] w fun e w' => e = .returned (.agg (ptL .name 0).toArray) ∧ Below w.heap.size w w' := by
  refine sx_enter (n := 2) [] Try.func47 rfl rfl rfl (Hp.start w) ?_
  refine SxC.seq ?_
  refine SxC.region ?_
  refine SxL.new (cs := [.nilFunc, .nilFunc, .nilFunc, .nilFunc]) trivial rfl rfl (fun ρ w E H => ex_alloc rfl zr_palaver_msg_part rfl) fun g1 hg1 => ?_
  refine SxL.nil ?_
  refine SxN.then_ ?_
  refine SxC.seq ?_
  refine SxC.region ?_
  refine SxL.val (v := .agg #[.func (.func 72) #[] #[], .func (.func 73) #[] #[], .func (.func 74) #[] #[], .func (.func 75) #[] #[]]) trivial rfl rfl (fun ρ w E H => ex_build (cs := [.func (.func 72) #[] #[], .func (.func 73) #[] #[], .func (.func 74) #[] #[], .func (.func 75) #[] #[]]) E rfl rfl (by kernel_rfl)) ?_
  refine SxL.store (i := 0) trivial rfl rfl rfl rfl rfl sz_palaver_msg_part rfl rfl rfl ?_
  refine SxL.nil ?_
  refine SxN.then_ ?_
  refine SxC.ret ?_
  refine SxX.done (.agg #[.func (.func 72) #[] #[], .func (.func 73) #[] #[], .func (.func 74) #[] #[], .func (.func 75) #[] #[]]) (fun a w K H => resN K [.agg #[.func (.func 72) #[] #[], .func (.func 73) #[] #[], .func (.func 74) #[] #[], .func (.func 75) #[] #[]]] rfl ⟨⟨_, rfl, blk_loadVar (H.get (i := 0) rfl) Try.underlying94 rfl sz_palaver_msg_part⟩, trivial⟩) (fun w H => ?_)
  exact ⟨rfl, H.toBelow ⟨(fun g hg => by rw [List.mem_singleton.1 hg]; exact hg1), trivial⟩⟩

set_option maxRecDepth 100000 in
set_option maxHeartbeats 4000000 in
theorem mk_reply   (w : World) : Calls Try.prog 48 #[] w fun e w' => e = .returned (.agg (ptL .reply 0).toArray) ∧ Below w.heap.size w w' := by
  refine sx_enter (n := 2) [] Try.func48 rfl rfl rfl (Hp.start w) ?_
  refine SxC.seq ?_
  refine SxC.region ?_
  refine SxL.new (cs := [.nilFunc, .nilFunc, .nilFunc, .nilFunc]) trivial rfl rfl (fun ρ w E H => ex_alloc rfl zr_palaver_msg_part rfl) fun g1 hg1 => ?_
  refine SxL.nil ?_
  refine SxN.then_ ?_
  refine SxC.seq ?_
  refine SxC.region ?_
  refine SxL.val (v := .agg #[.func (.func 76) #[] #[], .func (.func 78) #[] #[], .func (.func 80) #[] #[], .func (.func 81) #[] #[]]) trivial rfl rfl (fun ρ w E H => ex_build (cs := [.func (.func 76) #[] #[], .func (.func 78) #[] #[], .func (.func 80) #[] #[], .func (.func 81) #[] #[]]) E rfl rfl (by kernel_rfl)) ?_
  refine SxL.store (i := 0) trivial rfl rfl rfl rfl rfl sz_palaver_msg_part rfl rfl rfl ?_
  refine SxL.nil ?_
  refine SxN.then_ ?_
  refine SxC.ret ?_
  refine SxX.done (.agg #[.func (.func 76) #[] #[], .func (.func 78) #[] #[], .func (.func 80) #[] #[], .func (.func 81) #[] #[]]) (fun a w K H => resN K [.agg #[.func (.func 76) #[] #[], .func (.func 78) #[] #[], .func (.func 80) #[] #[], .func (.func 81) #[] #[]]] rfl ⟨⟨_, rfl, blk_loadVar (H.get (i := 0) rfl) Try.underlying94 rfl sz_palaver_msg_part⟩, trivial⟩) (fun w H => ?_)
  exact ⟨rfl, H.toBelow ⟨(fun g hg => by rw [List.mem_singleton.1 hg]; exact hg1), trivial⟩⟩

set_option maxRecDepth 100000 in
set_option maxHeartbeats 4000000 in
theorem mk_node   (w : World) : Calls Try.prog 49 #[] w fun e w' => e = .returned (.agg (ptL .node 0).toArray) ∧ Below w.heap.size w w' := by
  refine sx_enter (n := 2) [] Try.func49 rfl rfl rfl (Hp.start w) ?_
  refine SxC.seq ?_
  refine SxC.region ?_
  refine SxL.new (cs := [.nilFunc, .nilFunc, .nilFunc, .nilFunc]) trivial rfl rfl (fun ρ w E H => ex_alloc rfl zr_palaver_msg_part rfl) fun g1 hg1 => ?_
  refine SxL.nil ?_
  refine SxN.then_ ?_
  refine SxC.seq ?_
  refine SxC.region ?_
  refine SxL.val (v := .agg #[.func (.func 82) #[] #[], .func (.func 83) #[] #[], .func (.func 84) #[] #[], .func (.func 85) #[] #[]]) trivial rfl rfl (fun ρ w E H => ex_build (cs := [.func (.func 82) #[] #[], .func (.func 83) #[] #[], .func (.func 84) #[] #[], .func (.func 85) #[] #[]]) E rfl rfl (by kernel_rfl)) ?_
  refine SxL.store (i := 0) trivial rfl rfl rfl rfl rfl sz_palaver_msg_part rfl rfl rfl ?_
  refine SxL.nil ?_
  refine SxN.then_ ?_
  refine SxC.ret ?_
  refine SxX.done (.agg #[.func (.func 82) #[] #[], .func (.func 83) #[] #[], .func (.func 84) #[] #[], .func (.func 85) #[] #[]]) (fun a w K H => resN K [.agg #[.func (.func 82) #[] #[], .func (.func 83) #[] #[], .func (.func 84) #[] #[], .func (.func 85) #[] #[]]] rfl ⟨⟨_, rfl, blk_loadVar (H.get (i := 0) rfl) Try.underlying94 rfl sz_palaver_msg_part⟩, trivial⟩) (fun w H => ?_)
  exact ⟨rfl, H.toBelow ⟨(fun g hg => by rw [List.mem_singleton.1 hg]; exact hg1), trivial⟩⟩

set_option maxRecDepth 100000 in
set_option maxHeartbeats 4000000 in
theorem mk_turn   (w : World) : Calls Try.prog 50 #[] w fun e w' => e = .returned (.agg (ptL .turn 0).toArray) ∧ Below w.heap.size w w' := by
  refine sx_enter (n := 2) [] Try.func50 rfl rfl rfl (Hp.start w) ?_
  refine SxC.seq ?_
  refine SxC.region ?_
  refine SxL.new (cs := [.nilFunc, .nilFunc, .nilFunc, .nilFunc]) trivial rfl rfl (fun ρ w E H => ex_alloc rfl zr_palaver_msg_part rfl) fun g1 hg1 => ?_
  refine SxL.nil ?_
  refine SxN.then_ ?_
  refine SxC.seq ?_
  refine SxC.region ?_
  refine SxL.val (v := .agg #[.func (.func 86) #[] #[], .func (.func 88) #[] #[], .func (.func 90) #[] #[], .func (.func 91) #[] #[]]) trivial rfl rfl (fun ρ w E H => ex_build (cs := [.func (.func 86) #[] #[], .func (.func 88) #[] #[], .func (.func 90) #[] #[], .func (.func 91) #[] #[]]) E rfl rfl (by kernel_rfl)) ?_
  refine SxL.store (i := 0) trivial rfl rfl rfl rfl rfl sz_palaver_msg_part rfl rfl rfl ?_
  refine SxL.nil ?_
  refine SxN.then_ ?_
  refine SxC.ret ?_
  refine SxX.done (.agg #[.func (.func 86) #[] #[], .func (.func 88) #[] #[], .func (.func 90) #[] #[], .func (.func 91) #[] #[]]) (fun a w K H => resN K [.agg #[.func (.func 86) #[] #[], .func (.func 88) #[] #[], .func (.func 90) #[] #[], .func (.func 91) #[] #[]]] rfl ⟨⟨_, rfl, blk_loadVar (H.get (i := 0) rfl) Try.underlying94 rfl sz_palaver_msg_part⟩, trivial⟩) (fun w H => ?_)
  exact ⟨rfl, H.toBelow ⟨(fun g hg => by rw [List.mem_singleton.1 hg]; exact hg1), trivial⟩⟩

set_option maxRecDepth 100000 in
set_option maxHeartbeats 4000000 in
theorem mk_floor   (w : World) : Calls Try.prog 52 #[] w fun e w' => e = .returned (.agg (ptL .floor 0).toArray) ∧ Below w.heap.size w w' := by
  refine sx_enter (n := 2) [] Try.func52 rfl rfl rfl (Hp.start w) ?_
  refine SxC.seq ?_
  refine SxC.region ?_
  refine SxL.new (cs := [.nilFunc, .nilFunc, .nilFunc, .nilFunc]) trivial rfl rfl (fun ρ w E H => ex_alloc rfl zr_palaver_msg_part rfl) fun g1 hg1 => ?_
  refine SxL.nil ?_
  refine SxN.then_ ?_
  refine SxC.seq ?_
  refine SxC.region ?_
  refine SxL.val (v := .agg #[.func (.func 98) #[] #[], .func (.func 99) #[] #[], .func (.func 100) #[] #[], .func (.func 101) #[] #[]]) trivial rfl rfl (fun ρ w E H => ex_build (cs := [.func (.func 98) #[] #[], .func (.func 99) #[] #[], .func (.func 100) #[] #[], .func (.func 101) #[] #[]]) E rfl rfl (by kernel_rfl)) ?_
  refine SxL.store (i := 0) trivial rfl rfl rfl rfl rfl sz_palaver_msg_part rfl rfl rfl ?_
  refine SxL.nil ?_
  refine SxN.then_ ?_
  refine SxC.ret ?_
  refine SxX.done (.agg #[.func (.func 98) #[] #[], .func (.func 99) #[] #[], .func (.func 100) #[] #[], .func (.func 101) #[] #[]]) (fun a w K H => resN K [.agg #[.func (.func 98) #[] #[], .func (.func 99) #[] #[], .func (.func 100) #[] #[], .func (.func 101) #[] #[]]] rfl ⟨⟨_, rfl, blk_loadVar (H.get (i := 0) rfl) Try.underlying94 rfl sz_palaver_msg_part⟩, trivial⟩) (fun w H => ?_)
  exact ⟨rfl, H.toBelow ⟨(fun g hg => by rw [List.mem_singleton.1 hg]; exact hg1), trivial⟩⟩

set_option maxRecDepth 100000 in
set_option maxHeartbeats 4000000 in
theorem mk_slot (least : Nat)  (w : World) : Calls Try.prog 51 #[.int .u64 (least : Int)] w fun e w' => ∃ g, e = .returned (.agg (ptL (.slot least) g).toArray) ∧ w.heap.size ≤ g ∧ g < w'.heap.size ∧ Blk w' g 37 #[.int .u64 (least : Int)] ∧ Below w.heap.size w w' := by
  refine sx_enter (n := 5) [.int .u64 (least : Int)] Try.func51 rfl rfl rfl (Hp.start w) ?_
  refine SxC.seq ?_
  refine SxC.region ?_
  refine SxL.new (cs := [.int .u64 (least : Int)]) trivial rfl rfl (fun ρ w E H => ex_box E rfl rfl rfl) fun g1 hg1 => ?_
  refine SxL.new (cs := [.nilFunc, .nilFunc, .nilFunc, .nilFunc]) trivial rfl rfl (fun ρ w E H => ex_alloc rfl zr_palaver_msg_part rfl) fun g2 hg2 => ?_
  refine SxL.nil ?_
  refine SxN.then_ ?_
  refine SxC.seq ?_
  refine SxC.region ?_
  refine SxL.val (v := .func (.func 97) #[] #[.pointer (some ⟨g1, 0, none⟩)]) trivial rfl rfl (fun ρ w E H => ex_makeFunc E rfl rfl rfl) ?_
  refine SxL.val (v := .agg #[.func (.func 93) #[] #[], .func (.func 94) #[] #[], .func (.func 96) #[] #[], .func (.func 97) #[] #[.pointer (some ⟨g1, 0, none⟩)]]) trivial rfl rfl (fun ρ w E H => ex_build (cs := [.func (.func 93) #[] #[], .func (.func 94) #[] #[], .func (.func 96) #[] #[], .func (.func 97) #[] #[.pointer (some ⟨g1, 0, none⟩)]]) E rfl rfl (by kernel_rfl)) ?_
  refine SxL.store (i := 0) trivial rfl rfl rfl rfl rfl sz_palaver_msg_part rfl rfl rfl ?_
  refine SxL.nil ?_
  refine SxN.then_ ?_
  refine SxC.ret ?_
  refine SxX.done (.agg #[.func (.func 93) #[] #[], .func (.func 94) #[] #[], .func (.func 96) #[] #[], .func (.func 97) #[] #[.pointer (some ⟨g1, 0, none⟩)]]) (fun a w K H => resN K [.agg #[.func (.func 93) #[] #[], .func (.func 94) #[] #[], .func (.func 96) #[] #[], .func (.func 97) #[] #[.pointer (some ⟨g1, 0, none⟩)]]] rfl ⟨⟨_, rfl, blk_loadVar (H.get (i := 0) rfl) Try.underlying94 rfl sz_palaver_msg_part⟩, trivial⟩) (fun w H => ?_)
  have hb : Blk w g1 37 _ := H.get (i := 1) rfl
  exact ⟨g1, rfl, hg1, Blk.lt hb, hb, H.toBelow ⟨(fun g hg => by rw [List.mem_singleton.1 hg]; exact hg2), (fun g hg => by rw [List.mem_singleton.1 hg]; exact hg1), trivial⟩⟩

set_option maxRecDepth 100000 in
set_option maxHeartbeats 4000000 in
theorem mk_value   (w : World) : Calls Try.prog 54 #[] w fun e w' => e = .returned (.agg (ptL .value 0).toArray) ∧ Below w.heap.size w w' := by
  refine sx_enter (n := 2) [] Try.func54 rfl rfl rfl (Hp.start w) ?_
  refine SxC.seq ?_
  refine SxC.region ?_
  refine SxL.new (cs := [.nilFunc, .nilFunc, .nilFunc, .nilFunc]) trivial rfl rfl (fun ρ w E H => ex_alloc rfl zr_palaver_msg_part rfl) fun g1 hg1 => ?_
  refine SxL.nil ?_
  refine SxN.then_ ?_
  refine SxC.seq ?_
  refine SxC.region ?_
  refine SxL.val (v := .agg #[.func (.func 107) #[] #[], .func (.func 108) #[] #[], .func (.func 109) #[] #[], .func (.func 110) #[] #[]]) trivial rfl rfl (fun ρ w E H => ex_build (cs := [.func (.func 107) #[] #[], .func (.func 108) #[] #[], .func (.func 109) #[] #[], .func (.func 110) #[] #[]]) E rfl rfl (by kernel_rfl)) ?_
  refine SxL.store (i := 0) trivial rfl rfl rfl rfl rfl sz_palaver_msg_part rfl rfl rfl ?_
  refine SxL.nil ?_
  refine SxN.then_ ?_
  refine SxC.ret ?_
  refine SxX.done (.agg #[.func (.func 107) #[] #[], .func (.func 108) #[] #[], .func (.func 109) #[] #[], .func (.func 110) #[] #[]]) (fun a w K H => resN K [.agg #[.func (.func 107) #[] #[], .func (.func 108) #[] #[], .func (.func 109) #[] #[], .func (.func 110) #[] #[]]] rfl ⟨⟨_, rfl, blk_loadVar (H.get (i := 0) rfl) Try.underlying94 rfl sz_palaver_msg_part⟩, trivial⟩) (fun w H => ?_)
  exact ⟨rfl, H.toBelow ⟨(fun g hg => by rw [List.mem_singleton.1 hg]; exact hg1), trivial⟩⟩

set_option maxRecDepth 100000 in
set_option maxHeartbeats 4000000 in
theorem mk_votes   (w : World) : Calls Try.prog 53 #[] w fun e w' => e = .returned (.agg (ptL .votes 0).toArray) ∧ Below w.heap.size w w' := by
  refine sx_enter (n := 2) [] Try.func53 rfl rfl rfl (Hp.start w) ?_
  refine SxC.seq ?_
  refine SxC.region ?_
  refine SxL.new (cs := [.nilFunc, .nilFunc, .nilFunc, .nilFunc]) trivial rfl rfl (fun ρ w E H => ex_alloc rfl zr_palaver_msg_part rfl) fun g1 hg1 => ?_
  refine SxL.nil ?_
  refine SxN.then_ ?_
  refine SxC.seq ?_
  refine SxC.region ?_
  refine SxL.val (v := .agg #[.func (.func 102) #[] #[], .func (.func 103) #[] #[], .func (.func 104) #[] #[], .func (.func 106) #[] #[]]) trivial rfl rfl (fun ρ w E H => ex_build (cs := [.func (.func 102) #[] #[], .func (.func 103) #[] #[], .func (.func 104) #[] #[], .func (.func 106) #[] #[]]) E rfl rfl (by kernel_rfl)) ?_
  refine SxL.store (i := 0) trivial rfl rfl rfl rfl rfl sz_palaver_msg_part rfl rfl rfl ?_
  refine SxL.nil ?_
  refine SxN.then_ ?_
  refine SxC.ret ?_
  refine SxX.done (.agg #[.func (.func 102) #[] #[], .func (.func 103) #[] #[], .func (.func 104) #[] #[], .func (.func 106) #[] #[]]) (fun a w K H => resN K [.agg #[.func (.func 102) #[] #[], .func (.func 103) #[] #[], .func (.func 104) #[] #[], .func (.func 106) #[] #[]]] rfl ⟨⟨_, rfl, blk_loadVar (H.get (i := 0) rfl) Try.underlying94 rfl sz_palaver_msg_part⟩, trivial⟩) (fun w H => ?_)
  exact ⟨rfl, H.toBelow ⟨(fun g hg => by rw [List.mem_singleton.1 hg]; exact hg1), trivial⟩⟩

set_option maxRecDepth 100000 in
set_option maxHeartbeats 4000000 in
theorem mk_items   (w : World) : Calls Try.prog 55 #[] w fun e w' => e = .returned (.agg (ptL .items 0).toArray) ∧ Below w.heap.size w w' := by
  refine sx_enter (n := 2) [] Try.func55 rfl rfl rfl (Hp.start w) ?_
  refine SxC.seq ?_
  refine SxC.region ?_
  refine SxL.new (cs := [.nilFunc, .nilFunc, .nilFunc, .nilFunc]) trivial rfl rfl (fun ρ w E H => ex_alloc rfl zr_palaver_msg_part rfl) fun g1 hg1 => ?_
  refine SxL.nil ?_
  refine SxN.then_ ?_
  refine SxC.seq ?_
  refine SxC.region ?_
  refine SxL.val (v := .agg #[.func (.func 111) #[] #[], .func (.func 112) #[] #[], .func (.func 113) #[] #[], .func (.func 115) #[] #[]]) trivial rfl rfl (fun ρ w E H => ex_build (cs := [.func (.func 111) #[] #[], .func (.func 112) #[] #[], .func (.func 113) #[] #[], .func (.func 115) #[] #[]]) E rfl rfl (by kernel_rfl)) ?_
  refine SxL.store (i := 0) trivial rfl rfl rfl rfl rfl sz_palaver_msg_part rfl rfl rfl ?_
  refine SxL.nil ?_
  refine SxN.then_ ?_
  refine SxC.ret ?_
  refine SxX.done (.agg #[.func (.func 111) #[] #[], .func (.func 112) #[] #[], .func (.func 113) #[] #[], .func (.func 115) #[] #[]]) (fun a w K H => resN K [.agg #[.func (.func 111) #[] #[], .func (.func 112) #[] #[], .func (.func 113) #[] #[], .func (.func 115) #[] #[]]] rfl ⟨⟨_, rfl, blk_loadVar (H.get (i := 0) rfl) Try.underlying94 rfl sz_palaver_msg_part⟩, trivial⟩) (fun w H => ?_)
  exact ⟨rfl, H.toBelow ⟨(fun g hg => by rw [List.mem_singleton.1 hg]; exact hg1), trivial⟩⟩

set_option maxRecDepth 100000 in
set_option maxHeartbeats 4000000 in
theorem row_any (v : Value)  (w : World) : Calls Try.prog 45 #[v] w fun e w' => e = .returned v ∧ Below w.heap.size w w' := by
  refine sx_enter (n := 4) [v] Try.func45 rfl rfl rfl (Hp.start w) ?_
  refine SxC.seq ?_
  refine SxC.region ?_
  refine SxL.val (v := .slice none 0 0) trivial rfl rfl (fun ρ w E H => ex_assign E rfl rfl) ?_
  refine SxL.nil ?_
  refine SxN.then_ ?_
  refine SxC.seq ?_
  refine SxC.region ?_
  refine SxL.val (v := v) trivial rfl rfl (fun ρ w E H => ex_move E rfl rfl) ?_
  refine SxL.val (v := v) trivial rfl rfl (fun ρ w E H => ex_assign E rfl rfl) ?_
  refine SxL.nil ?_
  refine SxN.then_ ?_
  refine SxC.ret ?_
  refine SxX.done (v) (fun a w K H => res1 K rfl rfl) (fun w H => ?_)
  exact ⟨rfl, H.toBelow trivial⟩

set_option maxRecDepth 100000 in
set_option maxHeartbeats 4000000 in
theorem parts_any (k : Nat)  (w : World) : Calls Try.prog 36 #[.int .u8 (k : Int)] w fun e w' => ∃ A c gb q, e = .returned (.slice A (List.length q) c) ∧ q.map (·.1) = partsOf k ∧ (q ≠ [] → A = some ⟨gb, 0, none⟩) ∧ (∀ g ∈ (partsF gb q).fp, w.heap.size ≤ g ∧ g < w'.heap.size) ∧ (partsF gb q).φ w' ∧ Below w.heap.size w w' := by
  refine sx_enter (n := 77) [.int .u8 (k : Int)] Try.func36 rfl rfl rfl (Hp.start w) ?_
  refine SxC.seq ?_
  refine SxC.region ?_
  refine SxL.val (v := .slice none 0 0) trivial rfl rfl (fun ρ w E H => ex_assign E rfl rfl) ?_
  refine SxL.nil ?_
  refine SxN.then_ ?_
  refine SxC.seq ?_
  refine SxC.seq ?_
  refine SxC.region ?_
  refine SxL.val (v := .int .u8 (k : Int)) trivial rfl rfl (fun ρ w E H => ex_move E rfl rfl) ?_
  refine SxL.nil ?_
  refine SxN.then_ ?_
  refine SxC.block ?_
  refine SxC.seq ?_
  refine SxC.region ?_
  refine SxL.valB trivial rfl rfl (fun ρ w E H => ex_cmp E rfl rfl rfl rfl rfl) fun c5 hc5 => ?_
  refine SxL.val (v := .bool c5) trivial rfl rfl (fun ρ w E H => ex_assign E rfl rfl) ?_
  refine SxL.nil ?_
  refine SxN.then_ ?_
  cases c5
  · refine SxC.condF rfl ?_
    refine SxC.seq ?_
    refine SxC.region ?_
    refine SxL.valB trivial rfl rfl (fun ρ w E H => ex_cmp E rfl rfl rfl rfl rfl) fun c10 hc10 => ?_
    refine SxL.val (v := .bool c10) trivial rfl rfl (fun ρ w E H => ex_assign E rfl rfl) ?_
    refine SxL.nil ?_
    refine SxN.then_ ?_
    cases c10
    · refine SxC.condF rfl ?_
      refine SxC.seq ?_
      refine SxC.region ?_
      refine SxL.valB trivial rfl rfl (fun ρ w E H => ex_cmp E rfl rfl rfl rfl rfl) fun c16 hc16 => ?_
      refine SxL.val (v := .bool c16) trivial rfl rfl (fun ρ w E H => ex_assign E rfl rfl) ?_
      refine SxL.nil ?_
      refine SxN.then_ ?_
      cases c16
      · refine SxC.condF rfl ?_
        refine SxC.seq ?_
        refine SxC.seq ?_
        refine SxC.region ?_
        refine SxL.valB trivial rfl rfl (fun ρ w E H => ex_cmp E rfl rfl rfl rfl rfl) fun c22 hc22 => ?_
        refine SxL.val (v := .bool c22) trivial rfl rfl (fun ρ w E H => ex_assign E rfl rfl) ?_
        refine SxL.nil ?_
        refine SxN.then_ ?_
        cases c22
        · refine SxC.condF rfl ?_
          refine SxC.region ?_
          refine SxL.valB trivial rfl rfl (fun ρ w E H => ex_cmp E rfl rfl rfl rfl rfl) fun c23 hc23 => ?_
          refine SxL.val (v := .bool c23) trivial rfl rfl (fun ρ w E H => ex_assign E rfl rfl) ?_
          refine SxL.nil ?_
          refine SxN.then_ ?_
          cases c23
          · refine SxC.condF rfl ?_
            refine SxC.seq ?_
            refine SxC.region ?_
            refine SxL.valB trivial rfl rfl (fun ρ w E H => ex_cmp E rfl rfl rfl rfl rfl) fun c29 hc29 => ?_
            refine SxL.val (v := .bool c29) trivial rfl rfl (fun ρ w E H => ex_assign E rfl rfl) ?_
            refine SxL.nil ?_
            refine SxN.then_ ?_
            cases c29
            · refine SxC.condF rfl ?_
              refine SxC.seq ?_
              refine SxC.region ?_
              refine SxL.valB trivial rfl rfl (fun ρ w E H => ex_cmp E rfl rfl rfl rfl rfl) fun c37 hc37 => ?_
              refine SxL.val (v := .bool c37) trivial rfl rfl (fun ρ w E H => ex_assign E rfl rfl) ?_
              refine SxL.nil ?_
              refine SxN.then_ ?_
              cases c37
              · refine SxC.condF rfl ?_
                refine SxC.seq ?_
                refine SxC.region ?_
                refine SxL.valB trivial rfl rfl (fun ρ w E H => ex_cmp E rfl rfl rfl rfl rfl) fun c42 hc42 => ?_
                refine SxL.val (v := .bool c42) trivial rfl rfl (fun ρ w E H => ex_assign E rfl rfl) ?_
                refine SxL.nil ?_
                refine SxN.then_ ?_
                cases c42
                · refine SxC.condF rfl ?_
                  refine SxC.seq ?_
                  refine SxC.region ?_
                  refine SxL.valB trivial rfl rfl (fun ρ w E H => ex_cmp E rfl rfl rfl rfl rfl) fun c49 hc49 => ?_
                  refine SxL.val (v := .bool c49) trivial rfl rfl (fun ρ w E H => ex_assign E rfl rfl) ?_
                  refine SxL.nil ?_
                  refine SxN.then_ ?_
                  cases c49
                  · refine SxC.condF rfl ?_
                    refine SxC.seq ?_
                    refine SxC.region ?_
                    refine SxL.valB trivial rfl rfl (fun ρ w E H => ex_cmp E rfl rfl rfl rfl rfl) fun c54 hc54 => ?_
                    refine SxL.val (v := .bool c54) trivial rfl rfl (fun ρ w E H => ex_assign E rfl rfl) ?_
                    refine SxL.nil ?_
                    refine SxN.then_ ?_
                    cases c54
                    · refine SxC.condF rfl ?_
                      refine SxC.seq ?_
                      refine SxC.region ?_
                      refine SxL.valB trivial rfl rfl (fun ρ w E H => ex_cmp E rfl rfl rfl rfl rfl) fun c59 hc59 => ?_
                      refine SxL.val (v := .bool c59) trivial rfl rfl (fun ρ w E H => ex_assign E rfl rfl) ?_
                      refine SxL.nil ?_
                      refine SxN.then_ ?_
                      cases c59
                      · refine SxC.condF rfl ?_
                        refine SxC.seq ?_
                        refine SxC.region ?_
                        refine SxL.valB trivial rfl rfl (fun ρ w E H => ex_cmp E rfl rfl rfl rfl rfl) fun c65 hc65 => ?_
                        refine SxL.val (v := .bool c65) trivial rfl rfl (fun ρ w E H => ex_assign E rfl rfl) ?_
                        refine SxL.nil ?_
                        refine SxN.then_ ?_
                        cases c65
                        · refine SxC.condF rfl ?_
                          refine SxC.seq ?_
                          refine SxC.region ?_
                          refine SxL.valB trivial rfl rfl (fun ρ w E H => ex_cmp E rfl rfl rfl rfl rfl) fun c71 hc71 => ?_
                          refine SxL.val (v := .bool c71) trivial rfl rfl (fun ρ w E H => ex_assign E rfl rfl) ?_
                          refine SxL.nil ?_
                          refine SxN.then_ ?_
                          cases c71
                          · refine SxC.condF rfl ?_
                            refine SxC.skip ?_
                            refine SxN.block ?_
                            refine SxN.then_ ?_
                            refine SxC.seq ?_
                            refine SxC.region ?_
                            refine SxL.val (v := .slice none 0 0) trivial rfl rfl (fun ρ w E H => ex_assign E rfl rfl) ?_
                            refine SxL.nil ?_
                            refine SxN.then_ ?_
                            refine SxC.ret ?_
                            refine SxX.done (.slice none 0 0) (fun a w K H => res1 K rfl rfl) (fun w H => ?_)
                            refine ⟨none, 0, 0, [], rfl, ?_, fun h => absurd rfl h, by simp [partsF, capsOf], ⟨fun h => absurd rfl h, by simp⟩, H.toBelow trivial⟩
                            have n0 := hc5
                            have n1 := hc10
                            have n2 := hc16
                            have n3 := hc22
                            have n4 := hc23
                            have n5 := hc29
                            have n6 := hc37
                            have n7 := hc42
                            have n8 := hc49
                            have n9 := hc54
                            have n10 := hc59
                            have n11 := hc65
                            have n12 := hc71
                            simp [cmpB] at n0 n1 n2 n3 n4 n5 n6 n7 n8 n9 n10 n11 n12
                            show [] = partsOf k
                            unfold partsOf
                            repeat rw [if_neg (by omega)]
                          · refine SxC.condT rfl ?_
                            refine SxC.seq ?_
                            refine SxC.region ?_
                            refine SxL.callB (v := .agg #[.func (.func 98) #[] #[], .func (.func 99) #[] #[], .func (.func 100) #[] #[], .func (.func 101) #[] #[]]) trivial rfl rfl (fun ρ w E => ex_call E en_palaver_msg_floor rfl rfl) (fun w H => mk_floor w) ?_
                            refine SxL.call (σ := Nat) (fun s73 => .agg #[.func (.func 93) #[] #[], .func (.func 94) #[] #[], .func (.func 96) #[] #[], .func (.func 97) #[] #[.pointer (some ⟨s73, 0, none⟩)]]) (fun s73 => True ∧ ∀ b ∈ (cell s73 37 [.int .u64 ((1 : Nat) : Int)]).fp, w.heap.size ≤ b) (fun s73 => _) trivial rfl rfl (fun ρ w E => ex_call E en_palaver_msg_slot rfl rfl) (callNew (fun s73 => .agg #[.func (.func 93) #[] #[], .func (.func 94) #[] #[], .func (.func 96) #[] #[], .func (.func 97) #[] #[.pointer (some ⟨s73, 0, none⟩)]]) (fun _ => True) (fun s73 => cell s73 37 [.int .u64 ((1 : Nat) : Int)]) (fun _ => cell_loc _ _ _) (fun w H => (mk_slot 1 w).mono fun _ _ ⟨g, h1, h2, h3, h4, h5⟩ => ⟨g, h1, trivial, fun b hb => by rw [List.mem_singleton.1 hb]; exact ⟨h2, h3⟩, h4, h5⟩)) fun s73 hs73 => ?_
                            have fs73 : w.heap.size ≤ s73 := hs73.2 _ (List.mem_singleton.2 rfl)
                            refine SxL.callB (v := .agg #[.func (.func 107) #[] #[], .func (.func 108) #[] #[], .func (.func 109) #[] #[], .func (.func 110) #[] #[]]) trivial rfl rfl (fun ρ w E => ex_call E en_palaver_msg_value rfl rfl) (fun w H => mk_value w) ?_
                            refine SxL.newS (cs := [.func (.func 98) #[] #[], .func (.func 99) #[] #[], .func (.func 100) #[] #[], .func (.func 101) #[] #[], .func (.func 93) #[] #[], .func (.func 94) #[] #[], .func (.func 96) #[] #[], .func (.func 97) #[] #[.pointer (some ⟨s73, 0, none⟩)], .func (.func 107) #[] #[], .func (.func 108) #[] #[], .func (.func 109) #[] #[], .func (.func 110) #[] #[]]) trivial rfl rfl (fun ρ w E H => ex_buildSlice E rfl rfl Try.underlying88 sz_palaver_msg_part zr_palaver_msg_part rfl rfl (by kernel_rfl)) fun g1 hg1 => ?_
                            refine SxL.callB (v := .slice (some ⟨g1, 0, none⟩) 3 3) trivial rfl rfl (fun ρ w E => ex_call E en_palaver_msg_row rfl rfl) (fun w H => row_any _ w) ?_
                            refine SxL.val (v := .slice (some ⟨g1, 0, none⟩) 3 3) trivial rfl rfl (fun ρ w E H => ex_assign E rfl rfl) ?_
                            refine SxL.nil ?_
                            refine SxN.then_ ?_
                            refine SxC.ret ?_
                            refine SxX.blockR ?_
                            refine SxX.thenR ?_
                            refine SxX.done (.slice (some ⟨g1, 0, none⟩) 3 3) (fun a w K H => res1 K rfl rfl) (fun w H => ?_)
                            have hk := hc71
                            simp [cmpB] at hk
                            refine ⟨_, _, g1, [(.floor, 0), (.slot 1, s73), (.value, 0)], rfl, ?_, fun _ => rfl, ?_, ⟨fun _ => H.get (i := 0) rfl, ?_⟩, H.toBelow ⟨(fun g hg => by rw [List.mem_singleton.1 hg]; exact hg1), (fun g hg => by rw [List.mem_singleton.1 hg]; exact fs73), trivial⟩⟩
                            · obtain rfl : k = 13 := by omega
                              rfl
                            · have l0 := Blk.lt (show Blk _ g1 _ _ from H.get (i := 0) rfl)
                              have ls73 := Blk.lt (show Blk _ s73 _ _ from H.get (i := 1) rfl)
                              intro b hb
                              simp [partsF, capsOf, Pt.caps] at hb
                              omega
                            · intro x hx
                              simp only [List.mem_cons, List.not_mem_nil, or_false] at hx
                              rcases hx with rfl | rfl | rfl
                              · exact trivial
                              · exact H.get (i := 1) rfl
                              · exact trivial
                        · refine SxC.condT rfl ?_
                          refine SxC.seq ?_
                          refine SxC.region ?_
                          refine SxL.call (σ := Nat) (fun s66 => .agg #[.func (.func 93) #[] #[], .func (.func 94) #[] #[], .func (.func 96) #[] #[], .func (.func 97) #[] #[.pointer (some ⟨s66, 0, none⟩)]]) (fun s66 => True ∧ ∀ b ∈ (cell s66 37 [.int .u64 ((1 : Nat) : Int)]).fp, w.heap.size ≤ b) (fun s66 => _) trivial rfl rfl (fun ρ w E => ex_call E en_palaver_msg_slot rfl rfl) (callNew (fun s66 => .agg #[.func (.func 93) #[] #[], .func (.func 94) #[] #[], .func (.func 96) #[] #[], .func (.func 97) #[] #[.pointer (some ⟨s66, 0, none⟩)]]) (fun _ => True) (fun s66 => cell s66 37 [.int .u64 ((1 : Nat) : Int)]) (fun _ => cell_loc _ _ _) (fun w H => (mk_slot 1 w).mono fun _ _ ⟨g, h1, h2, h3, h4, h5⟩ => ⟨g, h1, trivial, fun b hb => by rw [List.mem_singleton.1 hb]; exact ⟨h2, h3⟩, h4, h5⟩)) fun s66 hs66 => ?_
                          have fs66 : w.heap.size ≤ s66 := hs66.2 _ (List.mem_singleton.2 rfl)
                          refine SxL.callB (v := .agg #[.func (.func 107) #[] #[], .func (.func 108) #[] #[], .func (.func 109) #[] #[], .func (.func 110) #[] #[]]) trivial rfl rfl (fun ρ w E => ex_call E en_palaver_msg_value rfl rfl) (fun w H => mk_value w) ?_
                          refine SxL.newS (cs := [.func (.func 93) #[] #[], .func (.func 94) #[] #[], .func (.func 96) #[] #[], .func (.func 97) #[] #[.pointer (some ⟨s66, 0, none⟩)], .func (.func 107) #[] #[], .func (.func 108) #[] #[], .func (.func 109) #[] #[], .func (.func 110) #[] #[]]) trivial rfl rfl (fun ρ w E H => ex_buildSlice E rfl rfl Try.underlying88 sz_palaver_msg_part zr_palaver_msg_part rfl rfl (by kernel_rfl)) fun g2 hg2 => ?_
                          refine SxL.callB (v := .slice (some ⟨g2, 0, none⟩) 2 2) trivial rfl rfl (fun ρ w E => ex_call E en_palaver_msg_row rfl rfl) (fun w H => row_any _ w) ?_
                          refine SxL.val (v := .slice (some ⟨g2, 0, none⟩) 2 2) trivial rfl rfl (fun ρ w E H => ex_assign E rfl rfl) ?_
                          refine SxL.nil ?_
                          refine SxN.then_ ?_
                          refine SxC.ret ?_
                          refine SxX.blockR ?_
                          refine SxX.thenR ?_
                          refine SxX.done (.slice (some ⟨g2, 0, none⟩) 2 2) (fun a w K H => res1 K rfl rfl) (fun w H => ?_)
                          have hk := hc65
                          simp [cmpB] at hk
                          refine ⟨_, _, g2, [(.slot 1, s66), (.value, 0)], rfl, ?_, fun _ => rfl, ?_, ⟨fun _ => H.get (i := 0) rfl, ?_⟩, H.toBelow ⟨(fun g hg => by rw [List.mem_singleton.1 hg]; exact hg2), (fun g hg => by rw [List.mem_singleton.1 hg]; exact fs66), trivial⟩⟩
                          · obtain rfl : k = 12 := by omega
                            rfl
                          · have l0 := Blk.lt (show Blk _ g2 _ _ from H.get (i := 0) rfl)
                            have ls66 := Blk.lt (show Blk _ s66 _ _ from H.get (i := 1) rfl)
                            intro b hb
                            simp [partsF, capsOf, Pt.caps] at hb
                            omega
                          · intro x hx
                            simp only [List.mem_cons, List.not_mem_nil, or_false] at hx
                            rcases hx with rfl | rfl
                            · exact H.get (i := 1) rfl
                            · exact trivial
                      · refine SxC.condT rfl ?_
                        refine SxC.seq ?_
                        refine SxC.region ?_
                        refine SxL.callB (v := .agg #[.func (.func 86) #[] #[], .func (.func 88) #[] #[], .func (.func 90) #[] #[], .func (.func 91) #[] #[]]) trivial rfl rfl (fun ρ w E => ex_call E en_palaver_msg_turn rfl rfl) (fun w H => mk_turn w) ?_
                        refine SxL.call (σ := Nat) (fun s61 => .agg #[.func (.func 93) #[] #[], .func (.func 94) #[] #[], .func (.func 96) #[] #[], .func (.func 97) #[] #[.pointer (some ⟨s61, 0, none⟩)]]) (fun s61 => True ∧ ∀ b ∈ (cell s61 37 [.int .u64 ((0 : Nat) : Int)]).fp, w.heap.size ≤ b) (fun s61 => _) trivial rfl rfl (fun ρ w E => ex_call E en_palaver_msg_slot rfl rfl) (callNew (fun s61 => .agg #[.func (.func 93) #[] #[], .func (.func 94) #[] #[], .func (.func 96) #[] #[], .func (.func 97) #[] #[.pointer (some ⟨s61, 0, none⟩)]]) (fun _ => True) (fun s61 => cell s61 37 [.int .u64 ((0 : Nat) : Int)]) (fun _ => cell_loc _ _ _) (fun w H => (mk_slot 0 w).mono fun _ _ ⟨g, h1, h2, h3, h4, h5⟩ => ⟨g, h1, trivial, fun b hb => by rw [List.mem_singleton.1 hb]; exact ⟨h2, h3⟩, h4, h5⟩)) fun s61 hs61 => ?_
                        have fs61 : w.heap.size ≤ s61 := hs61.2 _ (List.mem_singleton.2 rfl)
                        refine SxL.newS (cs := [.func (.func 86) #[] #[], .func (.func 88) #[] #[], .func (.func 90) #[] #[], .func (.func 91) #[] #[], .func (.func 93) #[] #[], .func (.func 94) #[] #[], .func (.func 96) #[] #[], .func (.func 97) #[] #[.pointer (some ⟨s61, 0, none⟩)]]) trivial rfl rfl (fun ρ w E H => ex_buildSlice E rfl rfl Try.underlying88 sz_palaver_msg_part zr_palaver_msg_part rfl rfl (by kernel_rfl)) fun g3 hg3 => ?_
                        refine SxL.callB (v := .slice (some ⟨g3, 0, none⟩) 2 2) trivial rfl rfl (fun ρ w E => ex_call E en_palaver_msg_row rfl rfl) (fun w H => row_any _ w) ?_
                        refine SxL.val (v := .slice (some ⟨g3, 0, none⟩) 2 2) trivial rfl rfl (fun ρ w E H => ex_assign E rfl rfl) ?_
                        refine SxL.nil ?_
                        refine SxN.then_ ?_
                        refine SxC.ret ?_
                        refine SxX.blockR ?_
                        refine SxX.thenR ?_
                        refine SxX.done (.slice (some ⟨g3, 0, none⟩) 2 2) (fun a w K H => res1 K rfl rfl) (fun w H => ?_)
                        have hk := hc59
                        simp [cmpB] at hk
                        refine ⟨_, _, g3, [(.turn, 0), (.slot 0, s61)], rfl, ?_, fun _ => rfl, ?_, ⟨fun _ => H.get (i := 0) rfl, ?_⟩, H.toBelow ⟨(fun g hg => by rw [List.mem_singleton.1 hg]; exact hg3), (fun g hg => by rw [List.mem_singleton.1 hg]; exact fs61), trivial⟩⟩
                        · obtain rfl : k = 11 := by omega
                          rfl
                        · have l0 := Blk.lt (show Blk _ g3 _ _ from H.get (i := 0) rfl)
                          have ls61 := Blk.lt (show Blk _ s61 _ _ from H.get (i := 1) rfl)
                          intro b hb
                          simp [partsF, capsOf, Pt.caps] at hb
                          omega
                        · intro x hx
                          simp only [List.mem_cons, List.not_mem_nil, or_false] at hx
                          rcases hx with rfl | rfl
                          · exact trivial
                          · exact H.get (i := 1) rfl
                    · refine SxC.condT rfl ?_
                      refine SxC.seq ?_
                      refine SxC.region ?_
                      refine SxL.call (σ := Nat) (fun s55 => .agg #[.func (.func 93) #[] #[], .func (.func 94) #[] #[], .func (.func 96) #[] #[], .func (.func 97) #[] #[.pointer (some ⟨s55, 0, none⟩)]]) (fun s55 => True ∧ ∀ b ∈ (cell s55 37 [.int .u64 ((0 : Nat) : Int)]).fp, w.heap.size ≤ b) (fun s55 => _) trivial rfl rfl (fun ρ w E => ex_call E en_palaver_msg_slot rfl rfl) (callNew (fun s55 => .agg #[.func (.func 93) #[] #[], .func (.func 94) #[] #[], .func (.func 96) #[] #[], .func (.func 97) #[] #[.pointer (some ⟨s55, 0, none⟩)]]) (fun _ => True) (fun s55 => cell s55 37 [.int .u64 ((0 : Nat) : Int)]) (fun _ => cell_loc _ _ _) (fun w H => (mk_slot 0 w).mono fun _ _ ⟨g, h1, h2, h3, h4, h5⟩ => ⟨g, h1, trivial, fun b hb => by rw [List.mem_singleton.1 hb]; exact ⟨h2, h3⟩, h4, h5⟩)) fun s55 hs55 => ?_
                      have fs55 : w.heap.size ≤ s55 := hs55.2 _ (List.mem_singleton.2 rfl)
                      refine SxL.newS (cs := [.func (.func 93) #[] #[], .func (.func 94) #[] #[], .func (.func 96) #[] #[], .func (.func 97) #[] #[.pointer (some ⟨s55, 0, none⟩)]]) trivial rfl rfl (fun ρ w E H => ex_buildSlice E rfl rfl Try.underlying88 sz_palaver_msg_part zr_palaver_msg_part rfl rfl (by kernel_rfl)) fun g4 hg4 => ?_
                      refine SxL.callB (v := .slice (some ⟨g4, 0, none⟩) 1 1) trivial rfl rfl (fun ρ w E => ex_call E en_palaver_msg_row rfl rfl) (fun w H => row_any _ w) ?_
                      refine SxL.val (v := .slice (some ⟨g4, 0, none⟩) 1 1) trivial rfl rfl (fun ρ w E H => ex_assign E rfl rfl) ?_
                      refine SxL.nil ?_
                      refine SxN.then_ ?_
                      refine SxC.ret ?_
                      refine SxX.blockR ?_
                      refine SxX.thenR ?_
                      refine SxX.done (.slice (some ⟨g4, 0, none⟩) 1 1) (fun a w K H => res1 K rfl rfl) (fun w H => ?_)
                      have hk := hc54
                      simp [cmpB] at hk
                      refine ⟨_, _, g4, [(.slot 0, s55)], rfl, ?_, fun _ => rfl, ?_, ⟨fun _ => H.get (i := 0) rfl, ?_⟩, H.toBelow ⟨(fun g hg => by rw [List.mem_singleton.1 hg]; exact hg4), (fun g hg => by rw [List.mem_singleton.1 hg]; exact fs55), trivial⟩⟩
                      · obtain rfl : k = 10 := by omega
                        rfl
                      · have l0 := Blk.lt (show Blk _ g4 _ _ from H.get (i := 0) rfl)
                        have ls55 := Blk.lt (show Blk _ s55 _ _ from H.get (i := 1) rfl)
                        intro b hb
                        simp [partsF, capsOf, Pt.caps] at hb
                        omega
                      · intro x hx
                        simp only [List.mem_cons, List.not_mem_nil, or_false] at hx
                        subst hx
                        exact H.get (i := 1) rfl
                  · refine SxC.condT rfl ?_
                    refine SxC.seq ?_
                    refine SxC.region ?_
                    refine SxL.callB (v := .agg #[.func (.func 111) #[] #[], .func (.func 112) #[] #[], .func (.func 113) #[] #[], .func (.func 115) #[] #[]]) trivial rfl rfl (fun ρ w E => ex_call E en_palaver_msg_items rfl rfl) (fun w H => mk_items w) ?_
                    refine SxL.newS (cs := [.func (.func 111) #[] #[], .func (.func 112) #[] #[], .func (.func 113) #[] #[], .func (.func 115) #[] #[]]) trivial rfl rfl (fun ρ w E H => ex_buildSlice E rfl rfl Try.underlying88 sz_palaver_msg_part zr_palaver_msg_part rfl rfl (by kernel_rfl)) fun g5 hg5 => ?_
                    refine SxL.callB (v := .slice (some ⟨g5, 0, none⟩) 1 1) trivial rfl rfl (fun ρ w E => ex_call E en_palaver_msg_row rfl rfl) (fun w H => row_any _ w) ?_
                    refine SxL.val (v := .slice (some ⟨g5, 0, none⟩) 1 1) trivial rfl rfl (fun ρ w E H => ex_assign E rfl rfl) ?_
                    refine SxL.nil ?_
                    refine SxN.then_ ?_
                    refine SxC.ret ?_
                    refine SxX.blockR ?_
                    refine SxX.thenR ?_
                    refine SxX.done (.slice (some ⟨g5, 0, none⟩) 1 1) (fun a w K H => res1 K rfl rfl) (fun w H => ?_)
                    have hk := hc49
                    simp [cmpB] at hk
                    refine ⟨_, _, g5, [(.items, 0)], rfl, ?_, fun _ => rfl, ?_, ⟨fun _ => H.get (i := 0) rfl, ?_⟩, H.toBelow ⟨(fun g hg => by rw [List.mem_singleton.1 hg]; exact hg5), trivial⟩⟩
                    · obtain rfl : k = 9 := by omega
                      rfl
                    · have l0 := Blk.lt (show Blk _ g5 _ _ from H.get (i := 0) rfl)
                      intro b hb
                      simp [partsF, capsOf, Pt.caps] at hb
                      omega
                    · intro x hx
                      simp only [List.mem_cons, List.not_mem_nil, or_false] at hx
                      subst hx
                      exact trivial
                · refine SxC.condT rfl ?_
                  refine SxC.seq ?_
                  refine SxC.region ?_
                  refine SxL.callB (v := .agg #[.func (.func 86) #[] #[], .func (.func 88) #[] #[], .func (.func 90) #[] #[], .func (.func 91) #[] #[]]) trivial rfl rfl (fun ρ w E => ex_call E en_palaver_msg_turn rfl rfl) (fun w H => mk_turn w) ?_
                  refine SxL.call (σ := Nat) (fun s44 => .agg #[.func (.func 93) #[] #[], .func (.func 94) #[] #[], .func (.func 96) #[] #[], .func (.func 97) #[] #[.pointer (some ⟨s44, 0, none⟩)]]) (fun s44 => True ∧ ∀ b ∈ (cell s44 37 [.int .u64 ((1 : Nat) : Int)]).fp, w.heap.size ≤ b) (fun s44 => _) trivial rfl rfl (fun ρ w E => ex_call E en_palaver_msg_slot rfl rfl) (callNew (fun s44 => .agg #[.func (.func 93) #[] #[], .func (.func 94) #[] #[], .func (.func 96) #[] #[], .func (.func 97) #[] #[.pointer (some ⟨s44, 0, none⟩)]]) (fun _ => True) (fun s44 => cell s44 37 [.int .u64 ((1 : Nat) : Int)]) (fun _ => cell_loc _ _ _) (fun w H => (mk_slot 1 w).mono fun _ _ ⟨g, h1, h2, h3, h4, h5⟩ => ⟨g, h1, trivial, fun b hb => by rw [List.mem_singleton.1 hb]; exact ⟨h2, h3⟩, h4, h5⟩)) fun s44 hs44 => ?_
                  have fs44 : w.heap.size ≤ s44 := hs44.2 _ (List.mem_singleton.2 rfl)
                  refine SxL.callB (v := .agg #[.func (.func 107) #[] #[], .func (.func 108) #[] #[], .func (.func 109) #[] #[], .func (.func 110) #[] #[]]) trivial rfl rfl (fun ρ w E => ex_call E en_palaver_msg_value rfl rfl) (fun w H => mk_value w) ?_
                  refine SxL.newS (cs := [.func (.func 86) #[] #[], .func (.func 88) #[] #[], .func (.func 90) #[] #[], .func (.func 91) #[] #[], .func (.func 93) #[] #[], .func (.func 94) #[] #[], .func (.func 96) #[] #[], .func (.func 97) #[] #[.pointer (some ⟨s44, 0, none⟩)], .func (.func 107) #[] #[], .func (.func 108) #[] #[], .func (.func 109) #[] #[], .func (.func 110) #[] #[]]) trivial rfl rfl (fun ρ w E H => ex_buildSlice E rfl rfl Try.underlying88 sz_palaver_msg_part zr_palaver_msg_part rfl rfl (by kernel_rfl)) fun g6 hg6 => ?_
                  refine SxL.callB (v := .slice (some ⟨g6, 0, none⟩) 3 3) trivial rfl rfl (fun ρ w E => ex_call E en_palaver_msg_row rfl rfl) (fun w H => row_any _ w) ?_
                  refine SxL.val (v := .slice (some ⟨g6, 0, none⟩) 3 3) trivial rfl rfl (fun ρ w E H => ex_assign E rfl rfl) ?_
                  refine SxL.nil ?_
                  refine SxN.then_ ?_
                  refine SxC.ret ?_
                  refine SxX.blockR ?_
                  refine SxX.thenR ?_
                  refine SxX.done (.slice (some ⟨g6, 0, none⟩) 3 3) (fun a w K H => res1 K rfl rfl) (fun w H => ?_)
                  have hk := hc42
                  simp [cmpB] at hk
                  refine ⟨_, _, g6, [(.turn, 0), (.slot 1, s44), (.value, 0)], rfl, ?_, fun _ => rfl, ?_, ⟨fun _ => H.get (i := 0) rfl, ?_⟩, H.toBelow ⟨(fun g hg => by rw [List.mem_singleton.1 hg]; exact hg6), (fun g hg => by rw [List.mem_singleton.1 hg]; exact fs44), trivial⟩⟩
                  · obtain rfl : k = 7 := by omega
                    rfl
                  · have l0 := Blk.lt (show Blk _ g6 _ _ from H.get (i := 0) rfl)
                    have ls44 := Blk.lt (show Blk _ s44 _ _ from H.get (i := 1) rfl)
                    intro b hb
                    simp [partsF, capsOf, Pt.caps] at hb
                    omega
                  · intro x hx
                    simp only [List.mem_cons, List.not_mem_nil, or_false] at hx
                    rcases hx with rfl | rfl | rfl
                    · exact trivial
                    · exact H.get (i := 1) rfl
                    · exact trivial
              · refine SxC.condT rfl ?_
                refine SxC.seq ?_
                refine SxC.region ?_
                refine SxL.callB (v := .agg #[.func (.func 86) #[] #[], .func (.func 88) #[] #[], .func (.func 90) #[] #[], .func (.func 91) #[] #[]]) trivial rfl rfl (fun ρ w E => ex_call E en_palaver_msg_turn rfl rfl) (fun w H => mk_turn w) ?_
                refine SxL.newS (cs := [.func (.func 86) #[] #[], .func (.func 88) #[] #[], .func (.func 90) #[] #[], .func (.func 91) #[] #[]]) trivial rfl rfl (fun ρ w E H => ex_buildSlice E rfl rfl Try.underlying88 sz_palaver_msg_part zr_palaver_msg_part rfl rfl (by kernel_rfl)) fun g7 hg7 => ?_
                refine SxL.callB (v := .slice (some ⟨g7, 0, none⟩) 1 1) trivial rfl rfl (fun ρ w E => ex_call E en_palaver_msg_row rfl rfl) (fun w H => row_any _ w) ?_
                refine SxL.val (v := .slice (some ⟨g7, 0, none⟩) 1 1) trivial rfl rfl (fun ρ w E H => ex_assign E rfl rfl) ?_
                refine SxL.nil ?_
                refine SxN.then_ ?_
                refine SxC.ret ?_
                refine SxX.blockR ?_
                refine SxX.thenR ?_
                refine SxX.done (.slice (some ⟨g7, 0, none⟩) 1 1) (fun a w K H => res1 K rfl rfl) (fun w H => ?_)
                have hk := hc37
                simp [cmpB] at hk
                refine ⟨_, _, g7, [(.turn, 0)], rfl, ?_, fun _ => rfl, ?_, ⟨fun _ => H.get (i := 0) rfl, ?_⟩, H.toBelow ⟨(fun g hg => by rw [List.mem_singleton.1 hg]; exact hg7), trivial⟩⟩
                · obtain rfl : k = 6 := by omega
                  rfl
                · have l0 := Blk.lt (show Blk _ g7 _ _ from H.get (i := 0) rfl)
                  intro b hb
                  simp [partsF, capsOf, Pt.caps] at hb
                  omega
                · intro x hx
                  simp only [List.mem_cons, List.not_mem_nil, or_false] at hx
                  subst hx
                  exact trivial
            · refine SxC.condT rfl ?_
              refine SxC.seq ?_
              refine SxC.region ?_
              refine SxL.callB (v := .agg #[.func (.func 86) #[] #[], .func (.func 88) #[] #[], .func (.func 90) #[] #[], .func (.func 91) #[] #[]]) trivial rfl rfl (fun ρ w E => ex_call E en_palaver_msg_turn rfl rfl) (fun w H => mk_turn w) ?_
              refine SxL.callB (v := .agg #[.func (.func 98) #[] #[], .func (.func 99) #[] #[], .func (.func 100) #[] #[], .func (.func 101) #[] #[]]) trivial rfl rfl (fun ρ w E => ex_call E en_palaver_msg_floor rfl rfl) (fun w H => mk_floor w) ?_
              refine SxL.call (σ := Nat) (fun s32 => .agg #[.func (.func 93) #[] #[], .func (.func 94) #[] #[], .func (.func 96) #[] #[], .func (.func 97) #[] #[.pointer (some ⟨s32, 0, none⟩)]]) (fun s32 => True ∧ ∀ b ∈ (cell s32 37 [.int .u64 ((0 : Nat) : Int)]).fp, w.heap.size ≤ b) (fun s32 => _) trivial rfl rfl (fun ρ w E => ex_call E en_palaver_msg_slot rfl rfl) (callNew (fun s32 => .agg #[.func (.func 93) #[] #[], .func (.func 94) #[] #[], .func (.func 96) #[] #[], .func (.func 97) #[] #[.pointer (some ⟨s32, 0, none⟩)]]) (fun _ => True) (fun s32 => cell s32 37 [.int .u64 ((0 : Nat) : Int)]) (fun _ => cell_loc _ _ _) (fun w H => (mk_slot 0 w).mono fun _ _ ⟨g, h1, h2, h3, h4, h5⟩ => ⟨g, h1, trivial, fun b hb => by rw [List.mem_singleton.1 hb]; exact ⟨h2, h3⟩, h4, h5⟩)) fun s32 hs32 => ?_
              have fs32 : w.heap.size ≤ s32 := hs32.2 _ (List.mem_singleton.2 rfl)
              refine SxL.callB (v := .agg #[.func (.func 102) #[] #[], .func (.func 103) #[] #[], .func (.func 104) #[] #[], .func (.func 106) #[] #[]]) trivial rfl rfl (fun ρ w E => ex_call E en_palaver_msg_votes rfl rfl) (fun w H => mk_votes w) ?_
              refine SxL.newS (cs := [.func (.func 86) #[] #[], .func (.func 88) #[] #[], .func (.func 90) #[] #[], .func (.func 91) #[] #[], .func (.func 98) #[] #[], .func (.func 99) #[] #[], .func (.func 100) #[] #[], .func (.func 101) #[] #[], .func (.func 93) #[] #[], .func (.func 94) #[] #[], .func (.func 96) #[] #[], .func (.func 97) #[] #[.pointer (some ⟨s32, 0, none⟩)], .func (.func 102) #[] #[], .func (.func 103) #[] #[], .func (.func 104) #[] #[], .func (.func 106) #[] #[]]) trivial rfl rfl (fun ρ w E H => ex_buildSlice E rfl rfl Try.underlying88 sz_palaver_msg_part zr_palaver_msg_part rfl rfl (by kernel_rfl)) fun g8 hg8 => ?_
              refine SxL.callB (v := .slice (some ⟨g8, 0, none⟩) 4 4) trivial rfl rfl (fun ρ w E => ex_call E en_palaver_msg_row rfl rfl) (fun w H => row_any _ w) ?_
              refine SxL.val (v := .slice (some ⟨g8, 0, none⟩) 4 4) trivial rfl rfl (fun ρ w E H => ex_assign E rfl rfl) ?_
              refine SxL.nil ?_
              refine SxN.then_ ?_
              refine SxC.ret ?_
              refine SxX.blockR ?_
              refine SxX.thenR ?_
              refine SxX.done (.slice (some ⟨g8, 0, none⟩) 4 4) (fun a w K H => res1 K rfl rfl) (fun w H => ?_)
              have hk := hc29
              simp [cmpB] at hk
              refine ⟨_, _, g8, [(.turn, 0), (.floor, 0), (.slot 0, s32), (.votes, 0)], rfl, ?_, fun _ => rfl, ?_, ⟨fun _ => H.get (i := 0) rfl, ?_⟩, H.toBelow ⟨(fun g hg => by rw [List.mem_singleton.1 hg]; exact hg8), (fun g hg => by rw [List.mem_singleton.1 hg]; exact fs32), trivial⟩⟩
              · obtain rfl : k = 5 := by omega
                rfl
              · have l0 := Blk.lt (show Blk _ g8 _ _ from H.get (i := 0) rfl)
                have ls32 := Blk.lt (show Blk _ s32 _ _ from H.get (i := 1) rfl)
                intro b hb
                simp [partsF, capsOf, Pt.caps] at hb
                omega
              · intro x hx
                simp only [List.mem_cons, List.not_mem_nil, or_false] at hx
                rcases hx with rfl | rfl | rfl | rfl
                · exact trivial
                · exact trivial
                · exact H.get (i := 1) rfl
                · exact trivial
          · refine SxC.condT rfl ?_
            refine SxC.seq ?_
            refine SxC.region ?_
            refine SxL.callB (v := .agg #[.func (.func 86) #[] #[], .func (.func 88) #[] #[], .func (.func 90) #[] #[], .func (.func 91) #[] #[]]) trivial rfl rfl (fun ρ w E => ex_call E en_palaver_msg_turn rfl rfl) (fun w H => mk_turn w) ?_
            refine SxL.call (σ := Nat) (fun s25 => .agg #[.func (.func 93) #[] #[], .func (.func 94) #[] #[], .func (.func 96) #[] #[], .func (.func 97) #[] #[.pointer (some ⟨s25, 0, none⟩)]]) (fun s25 => True ∧ ∀ b ∈ (cell s25 37 [.int .u64 ((1 : Nat) : Int)]).fp, w.heap.size ≤ b) (fun s25 => _) trivial rfl rfl (fun ρ w E => ex_call E en_palaver_msg_slot rfl rfl) (callNew (fun s25 => .agg #[.func (.func 93) #[] #[], .func (.func 94) #[] #[], .func (.func 96) #[] #[], .func (.func 97) #[] #[.pointer (some ⟨s25, 0, none⟩)]]) (fun _ => True) (fun s25 => cell s25 37 [.int .u64 ((1 : Nat) : Int)]) (fun _ => cell_loc _ _ _) (fun w H => (mk_slot 1 w).mono fun _ _ ⟨g, h1, h2, h3, h4, h5⟩ => ⟨g, h1, trivial, fun b hb => by rw [List.mem_singleton.1 hb]; exact ⟨h2, h3⟩, h4, h5⟩)) fun s25 hs25 => ?_
            have fs25 : w.heap.size ≤ s25 := hs25.2 _ (List.mem_singleton.2 rfl)
            refine SxL.newS (cs := [.func (.func 86) #[] #[], .func (.func 88) #[] #[], .func (.func 90) #[] #[], .func (.func 91) #[] #[], .func (.func 93) #[] #[], .func (.func 94) #[] #[], .func (.func 96) #[] #[], .func (.func 97) #[] #[.pointer (some ⟨s25, 0, none⟩)]]) trivial rfl rfl (fun ρ w E H => ex_buildSlice E rfl rfl Try.underlying88 sz_palaver_msg_part zr_palaver_msg_part rfl rfl (by kernel_rfl)) fun g9 hg9 => ?_
            refine SxL.callB (v := .slice (some ⟨g9, 0, none⟩) 2 2) trivial rfl rfl (fun ρ w E => ex_call E en_palaver_msg_row rfl rfl) (fun w H => row_any _ w) ?_
            refine SxL.val (v := .slice (some ⟨g9, 0, none⟩) 2 2) trivial rfl rfl (fun ρ w E H => ex_assign E rfl rfl) ?_
            refine SxL.nil ?_
            refine SxN.then_ ?_
            refine SxC.ret ?_
            refine SxX.blockR ?_
            refine SxX.thenR ?_
            refine SxX.done (.slice (some ⟨g9, 0, none⟩) 2 2) (fun a w K H => res1 K rfl rfl) (fun w H => ?_)
            have hk := hc23
            simp [cmpB] at hk
            refine ⟨_, _, g9, [(.turn, 0), (.slot 1, s25)], rfl, ?_, fun _ => rfl, ?_, ⟨fun _ => H.get (i := 0) rfl, ?_⟩, H.toBelow ⟨(fun g hg => by rw [List.mem_singleton.1 hg]; exact hg9), (fun g hg => by rw [List.mem_singleton.1 hg]; exact fs25), trivial⟩⟩
            · obtain rfl : k = 8 := by omega
              rfl
            · have l0 := Blk.lt (show Blk _ g9 _ _ from H.get (i := 0) rfl)
              have ls25 := Blk.lt (show Blk _ s25 _ _ from H.get (i := 1) rfl)
              intro b hb
              simp [partsF, capsOf, Pt.caps] at hb
              omega
            · intro x hx
              simp only [List.mem_cons, List.not_mem_nil, or_false] at hx
              rcases hx with rfl | rfl
              · exact trivial
              · exact H.get (i := 1) rfl
        · refine SxC.condT rfl ?_
          refine SxC.skip ?_
          refine SxN.then_ ?_
          refine SxC.condT rfl ?_
          refine SxC.seq ?_
          refine SxC.region ?_
          refine SxL.callB (v := .agg #[.func (.func 86) #[] #[], .func (.func 88) #[] #[], .func (.func 90) #[] #[], .func (.func 91) #[] #[]]) trivial rfl rfl (fun ρ w E => ex_call E en_palaver_msg_turn rfl rfl) (fun w H => mk_turn w) ?_
          refine SxL.call (σ := Nat) (fun s25 => .agg #[.func (.func 93) #[] #[], .func (.func 94) #[] #[], .func (.func 96) #[] #[], .func (.func 97) #[] #[.pointer (some ⟨s25, 0, none⟩)]]) (fun s25 => True ∧ ∀ b ∈ (cell s25 37 [.int .u64 ((1 : Nat) : Int)]).fp, w.heap.size ≤ b) (fun s25 => _) trivial rfl rfl (fun ρ w E => ex_call E en_palaver_msg_slot rfl rfl) (callNew (fun s25 => .agg #[.func (.func 93) #[] #[], .func (.func 94) #[] #[], .func (.func 96) #[] #[], .func (.func 97) #[] #[.pointer (some ⟨s25, 0, none⟩)]]) (fun _ => True) (fun s25 => cell s25 37 [.int .u64 ((1 : Nat) : Int)]) (fun _ => cell_loc _ _ _) (fun w H => (mk_slot 1 w).mono fun _ _ ⟨g, h1, h2, h3, h4, h5⟩ => ⟨g, h1, trivial, fun b hb => by rw [List.mem_singleton.1 hb]; exact ⟨h2, h3⟩, h4, h5⟩)) fun s25 hs25 => ?_
          have fs25 : w.heap.size ≤ s25 := hs25.2 _ (List.mem_singleton.2 rfl)
          refine SxL.newS (cs := [.func (.func 86) #[] #[], .func (.func 88) #[] #[], .func (.func 90) #[] #[], .func (.func 91) #[] #[], .func (.func 93) #[] #[], .func (.func 94) #[] #[], .func (.func 96) #[] #[], .func (.func 97) #[] #[.pointer (some ⟨s25, 0, none⟩)]]) trivial rfl rfl (fun ρ w E H => ex_buildSlice E rfl rfl Try.underlying88 sz_palaver_msg_part zr_palaver_msg_part rfl rfl (by kernel_rfl)) fun g10 hg10 => ?_
          refine SxL.callB (v := .slice (some ⟨g10, 0, none⟩) 2 2) trivial rfl rfl (fun ρ w E => ex_call E en_palaver_msg_row rfl rfl) (fun w H => row_any _ w) ?_
          refine SxL.val (v := .slice (some ⟨g10, 0, none⟩) 2 2) trivial rfl rfl (fun ρ w E H => ex_assign E rfl rfl) ?_
          refine SxL.nil ?_
          refine SxN.then_ ?_
          refine SxC.ret ?_
          refine SxX.blockR ?_
          refine SxX.thenR ?_
          refine SxX.done (.slice (some ⟨g10, 0, none⟩) 2 2) (fun a w K H => res1 K rfl rfl) (fun w H => ?_)
          have hk := hc22
          simp [cmpB] at hk
          refine ⟨_, _, g10, [(.turn, 0), (.slot 1, s25)], rfl, ?_, fun _ => rfl, ?_, ⟨fun _ => H.get (i := 0) rfl, ?_⟩, H.toBelow ⟨(fun g hg => by rw [List.mem_singleton.1 hg]; exact hg10), (fun g hg => by rw [List.mem_singleton.1 hg]; exact fs25), trivial⟩⟩
          · obtain rfl : k = 4 := by omega
            rfl
          · have l0 := Blk.lt (show Blk _ g10 _ _ from H.get (i := 0) rfl)
            have ls25 := Blk.lt (show Blk _ s25 _ _ from H.get (i := 1) rfl)
            intro b hb
            simp [partsF, capsOf, Pt.caps] at hb
            omega
          · intro x hx
            simp only [List.mem_cons, List.not_mem_nil, or_false] at hx
            rcases hx with rfl | rfl
            · exact trivial
            · exact H.get (i := 1) rfl
      · refine SxC.condT rfl ?_
        refine SxC.seq ?_
        refine SxC.region ?_
        refine SxL.callB (v := .agg #[.func (.func 72) #[] #[], .func (.func 73) #[] #[], .func (.func 74) #[] #[], .func (.func 75) #[] #[]]) trivial rfl rfl (fun ρ w E => ex_call E en_palaver_msg_name rfl rfl) (fun w H => mk_name w) ?_
        refine SxL.callB (v := .agg #[.func (.func 82) #[] #[], .func (.func 83) #[] #[], .func (.func 84) #[] #[], .func (.func 85) #[] #[]]) trivial rfl rfl (fun ρ w E => ex_call E en_palaver_msg_node rfl rfl) (fun w H => mk_node w) ?_
        refine SxL.newS (cs := [.func (.func 72) #[] #[], .func (.func 73) #[] #[], .func (.func 74) #[] #[], .func (.func 75) #[] #[], .func (.func 82) #[] #[], .func (.func 83) #[] #[], .func (.func 84) #[] #[], .func (.func 85) #[] #[]]) trivial rfl rfl (fun ρ w E H => ex_buildSlice E rfl rfl Try.underlying88 sz_palaver_msg_part zr_palaver_msg_part rfl rfl (by kernel_rfl)) fun g11 hg11 => ?_
        refine SxL.callB (v := .slice (some ⟨g11, 0, none⟩) 2 2) trivial rfl rfl (fun ρ w E => ex_call E en_palaver_msg_row rfl rfl) (fun w H => row_any _ w) ?_
        refine SxL.val (v := .slice (some ⟨g11, 0, none⟩) 2 2) trivial rfl rfl (fun ρ w E H => ex_assign E rfl rfl) ?_
        refine SxL.nil ?_
        refine SxN.then_ ?_
        refine SxC.ret ?_
        refine SxX.blockR ?_
        refine SxX.thenR ?_
        refine SxX.done (.slice (some ⟨g11, 0, none⟩) 2 2) (fun a w K H => res1 K rfl rfl) (fun w H => ?_)
        have hk := hc16
        simp [cmpB] at hk
        refine ⟨_, _, g11, [(.name, 0), (.node, 0)], rfl, ?_, fun _ => rfl, ?_, ⟨fun _ => H.get (i := 0) rfl, ?_⟩, H.toBelow ⟨(fun g hg => by rw [List.mem_singleton.1 hg]; exact hg11), trivial⟩⟩
        · obtain rfl : k = 3 := by omega
          rfl
        · have l0 := Blk.lt (show Blk _ g11 _ _ from H.get (i := 0) rfl)
          intro b hb
          simp [partsF, capsOf, Pt.caps] at hb
          omega
        · intro x hx
          simp only [List.mem_cons, List.not_mem_nil, or_false] at hx
          rcases hx with rfl | rfl
          · exact trivial
          · exact trivial
    · refine SxC.condT rfl ?_
      refine SxC.seq ?_
      refine SxC.region ?_
      refine SxL.callB (v := .agg #[.func (.func 72) #[] #[], .func (.func 73) #[] #[], .func (.func 74) #[] #[], .func (.func 75) #[] #[]]) trivial rfl rfl (fun ρ w E => ex_call E en_palaver_msg_name rfl rfl) (fun w H => mk_name w) ?_
      refine SxL.callB (v := .agg #[.func (.func 76) #[] #[], .func (.func 78) #[] #[], .func (.func 80) #[] #[], .func (.func 81) #[] #[]]) trivial rfl rfl (fun ρ w E => ex_call E en_palaver_msg_reply rfl rfl) (fun w H => mk_reply w) ?_
      refine SxL.newS (cs := [.func (.func 72) #[] #[], .func (.func 73) #[] #[], .func (.func 74) #[] #[], .func (.func 75) #[] #[], .func (.func 76) #[] #[], .func (.func 78) #[] #[], .func (.func 80) #[] #[], .func (.func 81) #[] #[]]) trivial rfl rfl (fun ρ w E H => ex_buildSlice E rfl rfl Try.underlying88 sz_palaver_msg_part zr_palaver_msg_part rfl rfl (by kernel_rfl)) fun g12 hg12 => ?_
      refine SxL.callB (v := .slice (some ⟨g12, 0, none⟩) 2 2) trivial rfl rfl (fun ρ w E => ex_call E en_palaver_msg_row rfl rfl) (fun w H => row_any _ w) ?_
      refine SxL.val (v := .slice (some ⟨g12, 0, none⟩) 2 2) trivial rfl rfl (fun ρ w E H => ex_assign E rfl rfl) ?_
      refine SxL.nil ?_
      refine SxN.then_ ?_
      refine SxC.ret ?_
      refine SxX.blockR ?_
      refine SxX.thenR ?_
      refine SxX.done (.slice (some ⟨g12, 0, none⟩) 2 2) (fun a w K H => res1 K rfl rfl) (fun w H => ?_)
      have hk := hc10
      simp [cmpB] at hk
      refine ⟨_, _, g12, [(.name, 0), (.reply, 0)], rfl, ?_, fun _ => rfl, ?_, ⟨fun _ => H.get (i := 0) rfl, ?_⟩, H.toBelow ⟨(fun g hg => by rw [List.mem_singleton.1 hg]; exact hg12), trivial⟩⟩
      · obtain rfl : k = 2 := by omega
        rfl
      · have l0 := Blk.lt (show Blk _ g12 _ _ from H.get (i := 0) rfl)
        intro b hb
        simp [partsF, capsOf, Pt.caps] at hb
        omega
      · intro x hx
        simp only [List.mem_cons, List.not_mem_nil, or_false] at hx
        rcases hx with rfl | rfl
        · exact trivial
        · exact trivial
  · refine SxC.condT rfl ?_
    refine SxC.seq ?_
    refine SxC.region ?_
    refine SxL.callB (v := .agg #[.func (.func 66) #[] #[], .func (.func 68) #[] #[], .func (.func 70) #[] #[], .func (.func 71) #[] #[]]) trivial rfl rfl (fun ρ w E => ex_call E en_palaver_msg_command rfl rfl) (fun w H => mk_cmd w) ?_
    refine SxL.newS (cs := [.func (.func 66) #[] #[], .func (.func 68) #[] #[], .func (.func 70) #[] #[], .func (.func 71) #[] #[]]) trivial rfl rfl (fun ρ w E H => ex_buildSlice E rfl rfl Try.underlying88 sz_palaver_msg_part zr_palaver_msg_part rfl rfl (by kernel_rfl)) fun g13 hg13 => ?_
    refine SxL.callB (v := .slice (some ⟨g13, 0, none⟩) 1 1) trivial rfl rfl (fun ρ w E => ex_call E en_palaver_msg_row rfl rfl) (fun w H => row_any _ w) ?_
    refine SxL.val (v := .slice (some ⟨g13, 0, none⟩) 1 1) trivial rfl rfl (fun ρ w E H => ex_assign E rfl rfl) ?_
    refine SxL.nil ?_
    refine SxN.then_ ?_
    refine SxC.ret ?_
    refine SxX.blockR ?_
    refine SxX.thenR ?_
    refine SxX.done (.slice (some ⟨g13, 0, none⟩) 1 1) (fun a w K H => res1 K rfl rfl) (fun w H => ?_)
    have hk := hc5
    simp [cmpB] at hk
    refine ⟨_, _, g13, [(.cmd, 0)], rfl, ?_, fun _ => rfl, ?_, ⟨fun _ => H.get (i := 0) rfl, ?_⟩, H.toBelow ⟨(fun g hg => by rw [List.mem_singleton.1 hg]; exact hg13), trivial⟩⟩
    · obtain rfl : k = 1 := by omega
      rfl
    · have l0 := Blk.lt (show Blk _ g13 _ _ from H.get (i := 0) rfl)
      intro b hb
      simp [partsF, capsOf, Pt.caps] at hb
      omega
    · intro x hx
      simp only [List.mem_cons, List.not_mem_nil, or_false] at hx
      subst hx
      exact trivial
end Go.Proofs.Yteiaiilfekojfaa.Msg
end
section
set_option linter.unusedVariables false
set_option linter.unusedSimpArgs false
namespace Go.Proofs.Yteiaiilfekojfaa.Msg
open Go.RowKit Wire Sx DrawInv

theorem toL (l : List UInt8) : (⟨l.toArray⟩ : ByteArray).toList = l := by simp
theorem nat_beq (a b : Nat) : ((a : Int) == (b : Int)) = decide (a = b) := by apply Bool.eq_iff_iff.2; simp; omega
theorem str_beq (a b : List UInt8) : ((⟨a.toArray⟩ : ByteArray).toList == (⟨b.toArray⟩ : ByteArray).toList) = decide (a = b) := by rw [toL, toL]; apply Bool.eq_iff_iff.2; simp
set_option maxRecDepth 100000 in
theorem eq_vo_n (k : Nat) (x y : Vo) (w : World) : (Op.equalIn (k + 3) 76 (.agg (voL x).toArray) (.agg (voL y).toArray)).run Try.prog w = .ok (((x.slot : Int) == (y.slot : Int)) && ((((x.n : Int) == (y.n : Int)) && (((x.r : Int) == (y.r : Int)) && true)) && (((⟨x.value.toArray⟩ : ByteArray).toList == (⟨y.value.toArray⟩ : ByteArray).toList) && true))) w := by
  have e1 := run_equalIn_int (P := Try.prog) w (k + 1) 37 .u64 .u64 (x.slot : Int) (y.slot : Int) Try.underlying37
  have e2 := eq_bal_n k x.n x.r y.n y.r w
  have e3 := run_equalIn_string (P := Try.prog) w (k + 1) 9 ⟨x.value.toArray⟩ ⟨y.value.toArray⟩ Try.underlying9
  obtain ⟨h1, h2⟩ := fields_of Try.underlying76
  rw [run_equalIn_agg w (k + 2) _ _ _ h1 (by kernel_rfl), h2]
  exact eqFields_step (by decide) (by kernel_rfl) (by kernel_rfl) e1 (eqFields_step (by decide) (by kernel_rfl) (by kernel_rfl) e2 (eqFields_step (by decide) (by kernel_rfl) (by kernel_rfl) e3 (eqFields_nil _ _ _ _ _)))
theorem eq_vo (x y : Vo) (w : World) : (Op.equal 76 (.agg (voL x).toArray) (.agg (voL y).toArray)).run Try.prog w = .ok (decide (x = y)) w := by
  have h := eq_vo_n 9997 x y w
  rw [nat_beq, nat_beq, nat_beq, str_beq] at h
  have e : (decide (x.slot = y.slot) && ((decide (x.n = y.n) && (decide (x.r = y.r) && true)) && (decide (x.value = y.value) && true))) = decide (x = y) := by
    obtain ⟨a, b, c, d⟩ := x
    obtain ⟨a', b', c', d'⟩ := y
    apply Bool.eq_iff_iff.2
    simp [and_assoc]
  rw [e] at h
  exact h
set_option maxRecDepth 100000 in
theorem eq_im_n (k : Nat) (x y : Im) (w : World) : (Op.equalIn (k + 2) 78 (.agg (imL x).toArray) (.agg (imL y).toArray)).run Try.prog w = .ok (((x.slot : Int) == (y.slot : Int)) && (((⟨x.value.toArray⟩ : ByteArray).toList == (⟨y.value.toArray⟩ : ByteArray).toList) && true)) w := by
  have e1 := run_equalIn_int (P := Try.prog) w k 37 .u64 .u64 (x.slot : Int) (y.slot : Int) Try.underlying37
  have e3 := run_equalIn_string (P := Try.prog) w k 9 ⟨x.value.toArray⟩ ⟨y.value.toArray⟩ Try.underlying9
  obtain ⟨h1, h2⟩ := fields_of Try.underlying78
  rw [run_equalIn_agg w (k + 1) _ _ _ h1 (by kernel_rfl), h2]
  exact eqFields_step (by decide) (by kernel_rfl) (by kernel_rfl) e1 (eqFields_step (by decide) (by kernel_rfl) (by kernel_rfl) e3 (eqFields_nil _ _ _ _ _))
theorem eq_im (x y : Im) (w : World) : (Op.equal 78 (.agg (imL x).toArray) (.agg (imL y).toArray)).run Try.prog w = .ok (decide (x = y)) w := by
  have h := eq_im_n 9998 x y w
  rw [nat_beq, str_beq] at h
  have e : (decide (x.slot = y.slot) && (decide (x.value = y.value) && true)) = decide (x = y) := by
    obtain ⟨a, d⟩ := x
    obtain ⟨a', d'⟩ := y
    apply Bool.eq_iff_iff.2
    simp [and_assoc]
  rw [e] at h
  exact h
set_option maxRecDepth 100000 in
theorem eq_cm_n (n : Nat) (w : World) (x y : Cmd.Cm) : (Op.equalIn (n + 2) 36 (Cmd.cmV x) (Cmd.cmV y)).run Try.prog w = .ok (((x.client : Int) == (y.client : Int)) && (((x.seq : Int) == (y.seq : Int)) && (((x.kind : Int) == (y.kind : Int)) && (((⟨x.key.toArray⟩ : ByteArray).toList == (⟨y.key.toArray⟩ : ByteArray).toList) && (((⟨x.old.toArray⟩ : ByteArray).toList == (⟨y.old.toArray⟩ : ByteArray).toList) && (((⟨x.new.toArray⟩ : ByteArray).toList == (⟨y.new.toArray⟩ : ByteArray).toList) && (((x.set : Int) == (y.set : Int)) && true))))))) w := by
  have e1 := run_equalIn_int (P := Try.prog) w n 5 .u8 .u8 (x.client : Int) (y.client : Int) Try.underlying5
  have e2 := run_equalIn_int (P := Try.prog) w n 34 .u32 .u32 (x.seq : Int) (y.seq : Int) Try.underlying34
  have e3 := run_equalIn_int (P := Try.prog) w n 5 .u8 .u8 (x.kind : Int) (y.kind : Int) Try.underlying5
  have e4 := run_equalIn_string (P := Try.prog) w n 9 ⟨x.key.toArray⟩ ⟨y.key.toArray⟩ Try.underlying9
  have e5 := run_equalIn_string (P := Try.prog) w n 9 ⟨x.old.toArray⟩ ⟨y.old.toArray⟩ Try.underlying9
  have e6 := run_equalIn_string (P := Try.prog) w n 9 ⟨x.new.toArray⟩ ⟨y.new.toArray⟩ Try.underlying9
  have e7 := run_equalIn_int (P := Try.prog) w n 5 .u8 .u8 (x.set : Int) (y.set : Int) Try.underlying5
  obtain ⟨h1, h2⟩ := fields_of Try.underlying36
  unfold Cmd.cmV Cmd.cmC
  rw [run_equalIn_agg w (n + 1) _ _ _ h1 (by kernel_rfl), h2]
  exact eqFields_step (by decide) (by kernel_rfl) (by kernel_rfl) e1 (eqFields_step (by decide) (by kernel_rfl) (by kernel_rfl) e2 (eqFields_step (by decide) (by kernel_rfl) (by kernel_rfl) e3 (eqFields_step (by decide) (by kernel_rfl) (by kernel_rfl) e4 (eqFields_step (by decide) (by kernel_rfl) (by kernel_rfl) e5 (eqFields_step (by decide) (by kernel_rfl) (by kernel_rfl) e6 (eqFields_step (by decide) (by kernel_rfl) (by kernel_rfl) e7 (eqFields_nil _ _ _ _ _)))))))
theorem eq_cm (x y : Cmd.Cm) (w : World) : (Op.equal 36 (Cmd.cmV x) (Cmd.cmV y)).run Try.prog w = .ok (decide (x = y)) w := by
  have h := eq_cm_n 9998 w x y
  rw [nat_beq, nat_beq, nat_beq, nat_beq, str_beq, str_beq, str_beq] at h
  have e : (decide (x.client = y.client) && (decide (x.seq = y.seq) && (decide (x.kind = y.kind) && (decide (x.key = y.key) && (decide (x.old = y.old) && (decide (x.new = y.new) && (decide (x.set = y.set) && true))))))) = decide (x = y) := by
    obtain ⟨a, b, c, d, e, f, g⟩ := x
    obtain ⟨a', b', c', d', e', f', g'⟩ := y
    apply Bool.eq_iff_iff.2
    simp
  rw [e] at h
  exact h
set_option maxRecDepth 100000 in
theorem eq_ry_n (n : Nat) (w : World) (a b : Nat) (s t : List UInt8) : (Op.equalIn (n + 2) 43 (.agg #[.int .u8 (a : Int), .string ⟨s.toArray⟩]) (.agg #[.int .u8 (b : Int), .string ⟨t.toArray⟩])).run Try.prog w = .ok (((a : Int) == (b : Int)) && (((⟨s.toArray⟩ : ByteArray).toList == (⟨t.toArray⟩ : ByteArray).toList) && true)) w := by
  have e1 := run_equalIn_int (P := Try.prog) w n 5 .u8 .u8 (a : Int) (b : Int) Try.underlying5
  have e2 := run_equalIn_string (P := Try.prog) w n 9 ⟨s.toArray⟩ ⟨t.toArray⟩ Try.underlying9
  obtain ⟨h1, h2⟩ := fields_of Try.underlying43
  rw [run_equalIn_agg w (n + 1) _ _ _ h1 (by kernel_rfl), h2]
  exact eqFields_step (by decide) (by kernel_rfl) (by kernel_rfl) e1 (eqFields_step (by decide) (by kernel_rfl) (by kernel_rfl) e2 (eqFields_nil _ _ _ _ _))
theorem eq_ry (a b : Nat) (s t : List UInt8) (w : World) : (Op.equal 43 (.agg #[.int .u8 (a : Int), .string ⟨s.toArray⟩]) (.agg #[.int .u8 (b : Int), .string ⟨t.toArray⟩])).run Try.prog w = .ok (decide (a = b) && decide (s = t)) w := by
  have h := eq_ry_n 9998 w a b s t
  rw [nat_beq, str_beq, Bool.and_true] at h
  exact h
end Go.Proofs.Yteiaiilfekojfaa.Msg
end
section
set_option linter.unusedVariables false
set_option linter.unusedSimpArgs false
namespace Go.Proofs.Yteiaiilfekojfaa.Msg
open Go.RowKit Sx Wire DrawInv
set_option maxRecDepth 100000 in
set_option maxHeartbeats 4000000 in
theorem equalV (l1 l2 : List Vo) (A B : Option Addr) (k1 k2 : Nat) (w : World) (h1 : Rows w A 4 voL l1) (h2 : Rows w B 4 voL l2) (hl1 : l1.length ≤ 1000000) : Calls Try.prog 64 #[.slice A l1.length k1, .slice B l2.length k2] w fun e w' => e = .returned (.bool (decide (l1 = l2))) ∧ Below w.heap.size w w' := by
  refine sx_enter (n := 26) [.slice A l1.length k1, .slice B l2.length k2] Try.func64 rfl rfl rfl (Hp.start w) ?_
  refine SxC.seq ?_
  refine SxC.region ?_
  refine SxL.val (v := .bool false) trivial rfl rfl (fun ρ w E H => ex_assign E rfl rfl) ?_
  refine SxL.nil ?_
  refine SxN.then_ ?_
  refine SxC.seq ?_
  refine SxC.seq ?_
  refine SxC.region ?_
  refine SxL.val (v := .slice A l1.length k1) trivial rfl rfl (fun ρ w E H => ex_move E rfl rfl) ?_
  refine SxL.val (v := .int .i64 (l1.length : Int)) trivial rfl rfl (fun ρ w E H => ex_lenS E rfl Try.underlying40 rfl) ?_
  refine SxL.val (v := .slice B l2.length k2) trivial rfl rfl (fun ρ w E H => ex_move E rfl rfl) ?_
  refine SxL.val (v := .int .i64 (l2.length : Int)) trivial rfl rfl (fun ρ w E H => ex_lenS E rfl Try.underlying40 rfl) ?_
  refine SxL.valB trivial rfl rfl (fun ρ w E H => ex_cmp E rfl rfl rfl rfl rfl) fun c10 hc10 => ?_
  refine SxL.nil ?_
  refine SxN.then_ ?_
  cases c10
  · refine SxC.condF rfl ?_
    refine SxC.skip ?_
    refine SxN.then_ ?_
    refine SxC.seq ?_
    refine SxC.seq ?_
    refine SxC.region ?_
    refine SxL.val (v := .slice A l1.length k1) trivial rfl rfl (fun ρ w E H => ex_move E rfl rfl) ?_
    refine SxL.val (v := .int .i64 (l1.length : Int)) trivial rfl rfl (fun ρ w E H => ex_lenS E rfl Try.underlying40 rfl) ?_
    refine SxL.val (v := .int .i64 0) trivial rfl rfl (fun ρ w E H => ex_move E rfl rfl) ?_
    refine SxL.nil ?_
    refine SxN.then_ ?_
    refine SxC.block ?_
    refine SxC.loop1 (fun (k : Nat) => [(0, .slice A l1.length k1), (1, .slice B l2.length k2), (11, .slice A l1.length k1), (12, .int .i64 (l1.length : Int)), (13, .int .i64 (k : Int))]) (fun (k : Nat) => []) (fun (gk : Nat) (k : Nat) => k + gk = l1.length ∧ l1.take k = l2.take k ∧ l1.length = l2.length) l1.length 0 ⟨by omega, rfl, by have h := hc10; simp [cmpB] at h; omega⟩ ⟨rfl, rfl, rfl, rfl, rfl, trivial⟩ [] rfl (by decide) trivial fun gk k hF => ?_
    obtain ⟨hkg, hrel, hle⟩ := hF
    refine SxC.seq ?_
    refine SxC.region ?_
    refine SxL.valB trivial rfl rfl (fun ρ w E H => ex_cmp E rfl rfl rfl rfl rfl) fun c14 hc14 => ?_
    refine SxL.nil ?_
    refine SxN.then_ ?_
    refine SxC.seq ?_
    cases c14
    · refine SxC.condF rfl ?_
      refine SxC.exit ?_
      refine SxX.thenE ?_
      refine SxX.thenE ?_
      refine SxX.blockE ?_
      refine SxN.then_ ?_
      refine SxC.seq ?_
      refine SxC.region ?_
      refine SxL.val (v := .bool true) trivial rfl rfl (fun ρ w E H => ex_assign E rfl rfl) ?_
      refine SxL.nil ?_
      refine SxN.then_ ?_
      refine SxC.ret ?_
      refine SxX.done (.bool true) (fun a w K H => res1 K rfl rfl) (fun w H => ?_)
      have hq : true = decide (l1 = l2) := by
        have h14 := hc14
        simp [cmpB] at h14
        rw [List.take_of_length_le (by omega), List.take_of_length_le (by omega)] at hrel
        simp [hrel]
      exact ⟨by rw [hq], H.toBelow trivial⟩
    · refine SxC.condT rfl ?_
      refine SxC.skip ?_
      refine SxN.then_ ?_
      refine SxC.seq ?_
      refine SxC.block ?_
      refine SxC.seq ?_
      have hkl : k < l1.length := by have h := hc14; simp [cmpB] at h; omega
      have hkl2 : k < l2.length := by omega
      obtain ⟨x, hx⟩ : ∃ x, l1[k]? = some x := ⟨_, List.getElem?_eq_getElem hkl⟩
      obtain ⟨y, hy⟩ : ∃ x, l2[k]? = some x := ⟨_, List.getElem?_eq_getElem hkl2⟩
      obtain ⟨a1, rfl, -, -⟩ := h1.row hx
      obtain ⟨a2, rfl, -, -⟩ := h2.row hy
      refine SxC.region ?_
      refine SxL.val (v := .int .i64 (k : Int)) trivial rfl rfl (fun ρ w E H => ex_move E rfl rfl) ?_
      refine SxL.val (v := .int .i64 (k : Int)) trivial rfl rfl (fun ρ w E H => ex_assign E rfl rfl) ?_
      refine SxL.nil ?_
      refine SxN.then_ ?_
      refine SxC.seq ?_
      refine SxC.drawnK [] [] (by kernel_rfl) rfl trivial ?_
      refine SxA.take (i := 0) (v := .slice (some a1) l1.length k1) rfl (by kernel_rfl) (by kernel_rfl) (by kernel_rfl) rfl rfl (fun _ _ _ h => h) trivial (fun ρ w E H => ex_move E rfl rfl) ?_
      refine SxA.take (i := 1) (v := .int .i64 (k : Int)) rfl (by kernel_rfl) (by kernel_rfl) (by kernel_rfl) rfl rfl (fun _ _ _ h => h) trivial (fun ρ w E H => ex_move E rfl rfl) ?_
      refine SxA.take (i := 2) (v := .pointer (some (a1.add (k * 4)))) rfl (by kernel_rfl) (by kernel_rfl) (by kernel_rfl) rfl rfl (fun _ _ _ h => h) trivial (fun ρ w E H => ex_index (i := k) E rfl Try.underlying40 sz_palaver_api_Vote rfl rfl hkl) ?_
      refine SxA.take (i := 3) (v := .agg #[.int .u64 (x.slot : Int), .int .u64 (x.n : Int), .int .u8 (x.r : Int), .string ⟨x.value.toArray⟩]) rfl (by kernel_rfl) (by kernel_rfl) (by kernel_rfl) rfl rfl (fun _ _ _ h => h) trivial (fun ρ w E H => ex_loadX (cs := [.int .u64 (x.slot : Int), .int .u64 (x.n : Int), .int .u8 (x.r : Int), .string ⟨x.value.toArray⟩]) E ((h1.below (H.os.below (Nat.le_refl _) (by simp))).rowA hx) rfl rfl Try.underlying76 rfl sz_palaver_api_Vote) ?_
      refine SxA.take (i := 4) (v := .slice (some a2) l2.length k2) rfl (by kernel_rfl) (by kernel_rfl) (by kernel_rfl) rfl rfl (fun _ _ _ h => h) trivial (fun ρ w E H => ex_move E rfl rfl) ?_
      refine SxA.take (i := 5) (v := .int .i64 (k : Int)) rfl (by kernel_rfl) (by kernel_rfl) (by kernel_rfl) rfl rfl (fun _ _ _ h => h) trivial (fun ρ w E H => ex_move E rfl rfl) ?_
      refine SxA.take (i := 6) (v := .pointer (some (a2.add (k * 4)))) rfl (by kernel_rfl) (by kernel_rfl) (by kernel_rfl) rfl rfl (fun _ _ _ h => h) trivial (fun ρ w E H => ex_index (i := k) E rfl Try.underlying40 sz_palaver_api_Vote rfl rfl hkl2) ?_
      refine SxA.take (i := 7) (v := .agg #[.int .u64 (y.slot : Int), .int .u64 (y.n : Int), .int .u8 (y.r : Int), .string ⟨y.value.toArray⟩]) rfl (by kernel_rfl) (by kernel_rfl) (by kernel_rfl) rfl rfl (fun _ _ _ h => h) trivial (fun ρ w E H => ex_loadX (cs := [.int .u64 (y.slot : Int), .int .u64 (y.n : Int), .int .u8 (y.r : Int), .string ⟨y.value.toArray⟩]) E ((h2.below (H.os.below (Nat.le_refl _) (by simp))).rowA hy) rfl rfl Try.underlying76 rfl sz_palaver_api_Vote) ?_
      refine SxA.takeB (i := 8) rfl (by kernel_rfl) (by kernel_rfl) (by kernel_rfl) rfl rfl (fun _ _ _ h => h) trivial (fun ρ w E H => ex_aneq E rfl (by kernel_rfl) rfl rfl (fun w => by rw [Bool.not_not]; exact eq_vo x y w)) fun c24 hc24 => ?_
      refine SxA.done (by kernel_rfl) ?_
      refine SxN.then_ ?_
      cases c24
      · refine SxC.condF rfl ?_
        refine SxC.skip ?_
        refine SxN.block ?_
        refine SxN.then_ ?_
        refine SxC.region ?_
        refine SxL.val (v := .int .i64 ((k + 1 : Nat) : Int)) trivial rfl rfl (fun ρ w E H => ex_add E rfl rfl rfl (by rw [IntKind.wrap_i64]; omega)) ?_
        refine SxL.val (v := .int .i64 ((k + 1 : Nat) : Int)) trivial rfl rfl (fun ρ w E H => ex_move E rfl rfl) ?_
        refine SxL.nil ?_
        refine SxN.back (gk - 1) (k + 1) (by omega) ⟨by omega, by rw [take_snoc hx, take_snoc hy, hrel]; have h24 : x = y := (by simpa using hc24); rw [h24], hle⟩ ⟨rfl, rfl, rfl, rfl, rfl, trivial⟩ [] rfl (by decide) trivial
      · refine SxC.condT rfl ?_
        refine SxC.seq ?_
        refine SxC.region ?_
        refine SxL.val (v := .bool false) trivial rfl rfl (fun ρ w E H => ex_assign E rfl rfl) ?_
        refine SxL.nil ?_
        refine SxN.then_ ?_
        refine SxC.ret ?_
        refine SxX.blockR ?_
        refine SxX.thenR ?_
        refine SxX.thenR ?_
        refine SxX.blockR ?_
        refine SxX.thenR ?_
        refine SxX.done (.bool false) (fun a w K H => res1 K rfl rfl) (fun w H => ?_)
        have hq : false = decide (l1 = l2) := by
          have h24 : x ≠ y := by simpa using hc24
          symm; apply decide_eq_false; rintro rfl; rw [hx] at hy; exact h24 (Option.some.inj hy)
        exact ⟨by rw [hq], H.toBelow trivial⟩
  · refine SxC.condT rfl ?_
    refine SxC.seq ?_
    refine SxC.region ?_
    refine SxL.val (v := .bool false) trivial rfl rfl (fun ρ w E H => ex_assign E rfl rfl) ?_
    refine SxL.nil ?_
    refine SxN.then_ ?_
    refine SxC.ret ?_
    refine SxX.thenR ?_
    refine SxX.done (.bool false) (fun a w K H => res1 K rfl rfl) (fun w H => ?_)
    have hq : false = decide (l1 = l2) := by
      have h10 := hc10
      simp [cmpB] at h10
      symm; apply decide_eq_false; rintro rfl; omega
    exact ⟨by rw [hq], H.toBelow trivial⟩

set_option maxRecDepth 100000 in
set_option maxHeartbeats 4000000 in
theorem equalI (l1 l2 : List Im) (A B : Option Addr) (k1 k2 : Nat) (w : World) (h1 : Rows w A 2 imL l1) (h2 : Rows w B 2 imL l2) (hl1 : l1.length ≤ 1000000) : Calls Try.prog 65 #[.slice A l1.length k1, .slice B l2.length k2] w fun e w' => e = .returned (.bool (decide (l1 = l2))) ∧ Below w.heap.size w w' := by
  refine sx_enter (n := 26) [.slice A l1.length k1, .slice B l2.length k2] Try.func65 rfl rfl rfl (Hp.start w) ?_
  refine SxC.seq ?_
  refine SxC.region ?_
  refine SxL.val (v := .bool false) trivial rfl rfl (fun ρ w E H => ex_assign E rfl rfl) ?_
  refine SxL.nil ?_
  refine SxN.then_ ?_
  refine SxC.seq ?_
  refine SxC.seq ?_
  refine SxC.region ?_
  refine SxL.val (v := .slice A l1.length k1) trivial rfl rfl (fun ρ w E H => ex_move E rfl rfl) ?_
  refine SxL.val (v := .int .i64 (l1.length : Int)) trivial rfl rfl (fun ρ w E H => ex_lenS E rfl Try.underlying41 rfl) ?_
  refine SxL.val (v := .slice B l2.length k2) trivial rfl rfl (fun ρ w E H => ex_move E rfl rfl) ?_
  refine SxL.val (v := .int .i64 (l2.length : Int)) trivial rfl rfl (fun ρ w E H => ex_lenS E rfl Try.underlying41 rfl) ?_
  refine SxL.valB trivial rfl rfl (fun ρ w E H => ex_cmp E rfl rfl rfl rfl rfl) fun c10 hc10 => ?_
  refine SxL.nil ?_
  refine SxN.then_ ?_
  cases c10
  · refine SxC.condF rfl ?_
    refine SxC.skip ?_
    refine SxN.then_ ?_
    refine SxC.seq ?_
    refine SxC.seq ?_
    refine SxC.region ?_
    refine SxL.val (v := .slice A l1.length k1) trivial rfl rfl (fun ρ w E H => ex_move E rfl rfl) ?_
    refine SxL.val (v := .int .i64 (l1.length : Int)) trivial rfl rfl (fun ρ w E H => ex_lenS E rfl Try.underlying41 rfl) ?_
    refine SxL.val (v := .int .i64 0) trivial rfl rfl (fun ρ w E H => ex_move E rfl rfl) ?_
    refine SxL.nil ?_
    refine SxN.then_ ?_
    refine SxC.block ?_
    refine SxC.loop1 (fun (k : Nat) => [(0, .slice A l1.length k1), (1, .slice B l2.length k2), (11, .slice A l1.length k1), (12, .int .i64 (l1.length : Int)), (13, .int .i64 (k : Int))]) (fun (k : Nat) => []) (fun (gk : Nat) (k : Nat) => k + gk = l1.length ∧ l1.take k = l2.take k ∧ l1.length = l2.length) l1.length 0 ⟨by omega, rfl, by have h := hc10; simp [cmpB] at h; omega⟩ ⟨rfl, rfl, rfl, rfl, rfl, trivial⟩ [] rfl (by decide) trivial fun gk k hF => ?_
    obtain ⟨hkg, hrel, hle⟩ := hF
    refine SxC.seq ?_
    refine SxC.region ?_
    refine SxL.valB trivial rfl rfl (fun ρ w E H => ex_cmp E rfl rfl rfl rfl rfl) fun c14 hc14 => ?_
    refine SxL.nil ?_
    refine SxN.then_ ?_
    refine SxC.seq ?_
    cases c14
    · refine SxC.condF rfl ?_
      refine SxC.exit ?_
      refine SxX.thenE ?_
      refine SxX.thenE ?_
      refine SxX.blockE ?_
      refine SxN.then_ ?_
      refine SxC.seq ?_
      refine SxC.region ?_
      refine SxL.val (v := .bool true) trivial rfl rfl (fun ρ w E H => ex_assign E rfl rfl) ?_
      refine SxL.nil ?_
      refine SxN.then_ ?_
      refine SxC.ret ?_
      refine SxX.done (.bool true) (fun a w K H => res1 K rfl rfl) (fun w H => ?_)
      have hq : true = decide (l1 = l2) := by
        have h14 := hc14
        simp [cmpB] at h14
        rw [List.take_of_length_le (by omega), List.take_of_length_le (by omega)] at hrel
        simp [hrel]
      exact ⟨by rw [hq], H.toBelow trivial⟩
    · refine SxC.condT rfl ?_
      refine SxC.skip ?_
      refine SxN.then_ ?_
      refine SxC.seq ?_
      refine SxC.block ?_
      refine SxC.seq ?_
      have hkl : k < l1.length := by have h := hc14; simp [cmpB] at h; omega
      have hkl2 : k < l2.length := by omega
      obtain ⟨x, hx⟩ : ∃ x, l1[k]? = some x := ⟨_, List.getElem?_eq_getElem hkl⟩
      obtain ⟨y, hy⟩ : ∃ x, l2[k]? = some x := ⟨_, List.getElem?_eq_getElem hkl2⟩
      obtain ⟨a1, rfl, -, -⟩ := h1.row hx
      obtain ⟨a2, rfl, -, -⟩ := h2.row hy
      refine SxC.region ?_
      refine SxL.val (v := .int .i64 (k : Int)) trivial rfl rfl (fun ρ w E H => ex_move E rfl rfl) ?_
      refine SxL.val (v := .int .i64 (k : Int)) trivial rfl rfl (fun ρ w E H => ex_assign E rfl rfl) ?_
      refine SxL.nil ?_
      refine SxN.then_ ?_
      refine SxC.seq ?_
      refine SxC.drawnK [] [] (by kernel_rfl) rfl trivial ?_
      refine SxA.take (i := 0) (v := .slice (some a1) l1.length k1) rfl (by kernel_rfl) (by kernel_rfl) (by kernel_rfl) rfl rfl (fun _ _ _ h => h) trivial (fun ρ w E H => ex_move E rfl rfl) ?_
      refine SxA.take (i := 1) (v := .int .i64 (k : Int)) rfl (by kernel_rfl) (by kernel_rfl) (by kernel_rfl) rfl rfl (fun _ _ _ h => h) trivial (fun ρ w E H => ex_move E rfl rfl) ?_
      refine SxA.take (i := 2) (v := .pointer (some (a1.add (k * 2)))) rfl (by kernel_rfl) (by kernel_rfl) (by kernel_rfl) rfl rfl (fun _ _ _ h => h) trivial (fun ρ w E H => ex_index (i := k) E rfl Try.underlying41 sz_palaver_api_Item rfl rfl hkl) ?_
      refine SxA.take (i := 3) (v := .agg #[.int .u64 (x.slot : Int), .string ⟨x.value.toArray⟩]) rfl (by kernel_rfl) (by kernel_rfl) (by kernel_rfl) rfl rfl (fun _ _ _ h => h) trivial (fun ρ w E H => ex_loadX (cs := [.int .u64 (x.slot : Int), .string ⟨x.value.toArray⟩]) E ((h1.below (H.os.below (Nat.le_refl _) (by simp))).rowA hx) rfl rfl Try.underlying78 rfl sz_palaver_api_Item) ?_
      refine SxA.take (i := 4) (v := .slice (some a2) l2.length k2) rfl (by kernel_rfl) (by kernel_rfl) (by kernel_rfl) rfl rfl (fun _ _ _ h => h) trivial (fun ρ w E H => ex_move E rfl rfl) ?_
      refine SxA.take (i := 5) (v := .int .i64 (k : Int)) rfl (by kernel_rfl) (by kernel_rfl) (by kernel_rfl) rfl rfl (fun _ _ _ h => h) trivial (fun ρ w E H => ex_move E rfl rfl) ?_
      refine SxA.take (i := 6) (v := .pointer (some (a2.add (k * 2)))) rfl (by kernel_rfl) (by kernel_rfl) (by kernel_rfl) rfl rfl (fun _ _ _ h => h) trivial (fun ρ w E H => ex_index (i := k) E rfl Try.underlying41 sz_palaver_api_Item rfl rfl hkl2) ?_
      refine SxA.take (i := 7) (v := .agg #[.int .u64 (y.slot : Int), .string ⟨y.value.toArray⟩]) rfl (by kernel_rfl) (by kernel_rfl) (by kernel_rfl) rfl rfl (fun _ _ _ h => h) trivial (fun ρ w E H => ex_loadX (cs := [.int .u64 (y.slot : Int), .string ⟨y.value.toArray⟩]) E ((h2.below (H.os.below (Nat.le_refl _) (by simp))).rowA hy) rfl rfl Try.underlying78 rfl sz_palaver_api_Item) ?_
      refine SxA.takeB (i := 8) rfl (by kernel_rfl) (by kernel_rfl) (by kernel_rfl) rfl rfl (fun _ _ _ h => h) trivial (fun ρ w E H => ex_aneq E rfl (by kernel_rfl) rfl rfl (fun w => by rw [Bool.not_not]; exact eq_im x y w)) fun c24 hc24 => ?_
      refine SxA.done (by kernel_rfl) ?_
      refine SxN.then_ ?_
      cases c24
      · refine SxC.condF rfl ?_
        refine SxC.skip ?_
        refine SxN.block ?_
        refine SxN.then_ ?_
        refine SxC.region ?_
        refine SxL.val (v := .int .i64 ((k + 1 : Nat) : Int)) trivial rfl rfl (fun ρ w E H => ex_add E rfl rfl rfl (by rw [IntKind.wrap_i64]; omega)) ?_
        refine SxL.val (v := .int .i64 ((k + 1 : Nat) : Int)) trivial rfl rfl (fun ρ w E H => ex_move E rfl rfl) ?_
        refine SxL.nil ?_
        refine SxN.back (gk - 1) (k + 1) (by omega) ⟨by omega, by rw [take_snoc hx, take_snoc hy, hrel]; have h24 : x = y := (by simpa using hc24); rw [h24], hle⟩ ⟨rfl, rfl, rfl, rfl, rfl, trivial⟩ [] rfl (by decide) trivial
      · refine SxC.condT rfl ?_
        refine SxC.seq ?_
        refine SxC.region ?_
        refine SxL.val (v := .bool false) trivial rfl rfl (fun ρ w E H => ex_assign E rfl rfl) ?_
        refine SxL.nil ?_
        refine SxN.then_ ?_
        refine SxC.ret ?_
        refine SxX.blockR ?_
        refine SxX.thenR ?_
        refine SxX.thenR ?_
        refine SxX.blockR ?_
        refine SxX.thenR ?_
        refine SxX.done (.bool false) (fun a w K H => res1 K rfl rfl) (fun w H => ?_)
        have hq : false = decide (l1 = l2) := by
          have h24 : x ≠ y := by simpa using hc24
          symm; apply decide_eq_false; rintro rfl; rw [hx] at hy; exact h24 (Option.some.inj hy)
        exact ⟨by rw [hq], H.toBelow trivial⟩
  · refine SxC.condT rfl ?_
    refine SxC.seq ?_
    refine SxC.region ?_
    refine SxL.val (v := .bool false) trivial rfl rfl (fun ρ w E H => ex_assign E rfl rfl) ?_
    refine SxL.nil ?_
    refine SxN.then_ ?_
    refine SxC.ret ?_
    refine SxX.thenR ?_
    refine SxX.done (.bool false) (fun a w K H => res1 K rfl rfl) (fun w H => ?_)
    have hq : false = decide (l1 = l2) := by
      have h10 := hc10
      simp [cmpB] at h10
      symm; apply decide_eq_false; rintro rfl; omega
    exact ⟨by rw [hq], H.toBelow trivial⟩

set_option maxRecDepth 100000 in
set_option maxHeartbeats 4000000 in
theorem same_lit (mk mn mr mb ms mo ca cb ck cz mc : Nat) (mv cs ct cu mt : List UInt8) (vl : List Vo) (il : List Im)(xk xn xr xb xs xo da db dk dz xc : Nat) (xv ds dt du xt : List UInt8) (wl : List Vo) (jl : List Im) (A B : Option Addr) (ka kb : Nat) (C D : Option Addr) (kc kd : Nat) (w : World) (hv : Rows w A 4 voL vl) (hi : Rows w B 2 imL il) (hv2 : Rows w C 4 voL wl) (hi2 : Rows w D 2 imL jl) (hl1 : vl.length ≤ 1000000) (hl2 : il.length ≤ 1000000) : Calls Try.prog 42 #[.agg #[.int .u8 (mk : Int), .int .u64 (mn : Int), .int .u8 (mr : Int), .int .u64 (mb : Int), .int .u64 (ms : Int), .int .u8 (mo : Int), .string ⟨mv.toArray⟩, .slice A vl.length ka, .slice B il.length kb, .int .u8 (ca : Int), .int .u32 (cb : Int), .int .u8 (ck : Int), .string ⟨cs.toArray⟩, .string ⟨ct.toArray⟩, .string ⟨cu.toArray⟩, .int .u8 (cz : Int), .int .u8 (mc : Int), .string ⟨mt.toArray⟩], .agg #[.int .u8 (xk : Int), .int .u64 (xn : Int), .int .u8 (xr : Int), .int .u64 (xb : Int), .int .u64 (xs : Int), .int .u8 (xo : Int), .string ⟨xv.toArray⟩, .slice C wl.length kc, .slice D jl.length kd, .int .u8 (da : Int), .int .u32 (db : Int), .int .u8 (dk : Int), .string ⟨ds.toArray⟩, .string ⟨dt.toArray⟩, .string ⟨du.toArray⟩, .int .u8 (dz : Int), .int .u8 (xc : Int), .string ⟨xt.toArray⟩]] w fun e w' => e = .returned (.bool (decide ((⟨mk, mn, mr, mb, ms, mo, mv, vl, il, ⟨ca, cb, ck, cs, ct, cu, cz⟩, mc, mt⟩ : Ms) = ⟨xk, xn, xr, xb, xs, xo, xv, wl, jl, ⟨da, db, dk, ds, dt, du, dz⟩, xc, xt⟩))) ∧ Below w.heap.size w w' := by
  refine sx_enter (n := 73) [.agg #[.int .u8 (mk : Int), .int .u64 (mn : Int), .int .u8 (mr : Int), .int .u64 (mb : Int), .int .u64 (ms : Int), .int .u8 (mo : Int), .string ⟨mv.toArray⟩, .slice A vl.length ka, .slice B il.length kb, .int .u8 (ca : Int), .int .u32 (cb : Int), .int .u8 (ck : Int), .string ⟨cs.toArray⟩, .string ⟨ct.toArray⟩, .string ⟨cu.toArray⟩, .int .u8 (cz : Int), .int .u8 (mc : Int), .string ⟨mt.toArray⟩], .agg #[.int .u8 (xk : Int), .int .u64 (xn : Int), .int .u8 (xr : Int), .int .u64 (xb : Int), .int .u64 (xs : Int), .int .u8 (xo : Int), .string ⟨xv.toArray⟩, .slice C wl.length kc, .slice D jl.length kd, .int .u8 (da : Int), .int .u32 (db : Int), .int .u8 (dk : Int), .string ⟨ds.toArray⟩, .string ⟨dt.toArray⟩, .string ⟨du.toArray⟩, .int .u8 (dz : Int), .int .u8 (xc : Int), .string ⟨xt.toArray⟩]] Try.func42 rfl rfl rfl (Hp.start w) ?_
  refine SxC.seq ?_
  refine SxC.region ?_
  refine SxL.new (cs := [.int .u8 (mk : Int), .int .u64 (mn : Int), .int .u8 (mr : Int), .int .u64 (mb : Int), .int .u64 (ms : Int), .int .u8 (mo : Int), .string ⟨mv.toArray⟩, .slice A vl.length ka, .slice B il.length kb, .int .u8 (ca : Int), .int .u32 (cb : Int), .int .u8 (ck : Int), .string ⟨cs.toArray⟩, .string ⟨ct.toArray⟩, .string ⟨cu.toArray⟩, .int .u8 (cz : Int), .int .u8 (mc : Int), .string ⟨mt.toArray⟩]) trivial rfl rfl (fun ρ w E H => ex_box E rfl rfl rfl) fun g1 hg1 => ?_
  refine SxL.new (cs := [.int .u8 (xk : Int), .int .u64 (xn : Int), .int .u8 (xr : Int), .int .u64 (xb : Int), .int .u64 (xs : Int), .int .u8 (xo : Int), .string ⟨xv.toArray⟩, .slice C wl.length kc, .slice D jl.length kd, .int .u8 (da : Int), .int .u32 (db : Int), .int .u8 (dk : Int), .string ⟨ds.toArray⟩, .string ⟨dt.toArray⟩, .string ⟨du.toArray⟩, .int .u8 (dz : Int), .int .u8 (xc : Int), .string ⟨xt.toArray⟩]) trivial rfl rfl (fun ρ w E H => ex_box E rfl rfl rfl) fun g2 hg2 => ?_
  refine SxL.val (v := .bool false) trivial rfl rfl (fun ρ w E H => ex_assign E rfl rfl) ?_
  refine SxL.nil ?_
  refine SxN.then_ ?_
  refine SxC.seq ?_
  refine SxC.region ?_
  refine SxL.val (v := .pointer (some ⟨g1, 0, none⟩)) trivial rfl rfl (fun ρ w E H => ex_field E rfl fa_palaver_api_Msg_0 rfl rfl) ?_
  refine SxL.val (v := .int .u8 (mk : Int)) trivial rfl rfl (fun ρ w E H => ex_load1 E (H.get (i := 1) rfl) rfl rfl Try.underlying5 rfl rfl) ?_
  refine SxL.val (v := .pointer (some ⟨g2, 0, none⟩)) trivial rfl rfl (fun ρ w E H => ex_field E rfl fa_palaver_api_Msg_0 rfl rfl) ?_
  refine SxL.val (v := .int .u8 (xk : Int)) trivial rfl rfl (fun ρ w E H => ex_load1 E (H.get (i := 0) rfl) rfl rfl Try.underlying5 rfl rfl) ?_
  refine SxL.valB trivial rfl rfl (fun ρ w E H => ex_cmp E rfl rfl rfl rfl rfl) fun c9 hc9 => ?_
  refine SxL.val (v := .bool c9) trivial rfl rfl (fun ρ w E H => ex_move E rfl rfl) ?_
  cases c9
  · refine SxL.off ⟨_, _, _, rfl, rfl, rfl, nofun⟩ rfl rfl ?_
    refine SxL.off ⟨_, _, _, rfl, rfl, rfl, nofun⟩ rfl rfl ?_
    refine SxL.off ⟨_, _, _, rfl, rfl, rfl, nofun⟩ rfl rfl ?_
    refine SxL.off ⟨_, _, _, rfl, rfl, rfl, nofun⟩ rfl rfl ?_
    refine SxL.off ⟨_, _, _, rfl, rfl, rfl, nofun⟩ rfl rfl ?_
    refine SxL.val (v := .bool false) trivial rfl rfl (fun ρ w E H => ex_pick E rfl (t := false) rfl rfl) ?_
    refine SxL.val (v := .bool false) trivial rfl rfl (fun ρ w E H => ex_move E rfl rfl) ?_
    refine SxL.off ⟨_, _, _, rfl, rfl, rfl, nofun⟩ rfl rfl ?_
    refine SxL.off ⟨_, _, _, rfl, rfl, rfl, nofun⟩ rfl rfl ?_
    refine SxL.off ⟨_, _, _, rfl, rfl, rfl, nofun⟩ rfl rfl ?_
    refine SxL.off ⟨_, _, _, rfl, rfl, rfl, nofun⟩ rfl rfl ?_
    refine SxL.off ⟨_, _, _, rfl, rfl, rfl, nofun⟩ rfl rfl ?_
    refine SxL.val (v := .bool false) trivial rfl rfl (fun ρ w E H => ex_pick E rfl (t := false) rfl rfl) ?_
    refine SxL.val (v := .bool false) trivial rfl rfl (fun ρ w E H => ex_move E rfl rfl) ?_
    refine SxL.off ⟨_, _, _, rfl, rfl, rfl, nofun⟩ rfl rfl ?_
    refine SxL.off ⟨_, _, _, rfl, rfl, rfl, nofun⟩ rfl rfl ?_
    refine SxL.off ⟨_, _, _, rfl, rfl, rfl, nofun⟩ rfl rfl ?_
    refine SxL.off ⟨_, _, _, rfl, rfl, rfl, nofun⟩ rfl rfl ?_
    refine SxL.off ⟨_, _, _, rfl, rfl, rfl, nofun⟩ rfl rfl ?_
    refine SxL.val (v := .bool false) trivial rfl rfl (fun ρ w E H => ex_pick E rfl (t := false) rfl rfl) ?_
    refine SxL.val (v := .bool false) trivial rfl rfl (fun ρ w E H => ex_move E rfl rfl) ?_
    refine SxL.off ⟨_, _, _, rfl, rfl, rfl, nofun⟩ rfl rfl ?_
    refine SxL.off ⟨_, _, _, rfl, rfl, rfl, nofun⟩ rfl rfl ?_
    refine SxL.off ⟨_, _, _, rfl, rfl, rfl, nofun⟩ rfl rfl ?_
    refine SxL.off ⟨_, _, _, rfl, rfl, rfl, nofun⟩ rfl rfl ?_
    refine SxL.off ⟨_, _, _, rfl, rfl, rfl, nofun⟩ rfl rfl ?_
    refine SxL.val (v := .bool false) trivial rfl rfl (fun ρ w E H => ex_pick E rfl (t := false) rfl rfl) ?_
    refine SxL.val (v := .bool false) trivial rfl rfl (fun ρ w E H => ex_move E rfl rfl) ?_
    refine SxL.off ⟨_, _, _, rfl, rfl, rfl, nofun⟩ rfl rfl ?_
    refine SxL.off ⟨_, _, _, rfl, rfl, rfl, nofun⟩ rfl rfl ?_
    refine SxL.off ⟨_, _, _, rfl, rfl, rfl, nofun⟩ rfl rfl ?_
    refine SxL.off ⟨_, _, _, rfl, rfl, rfl, nofun⟩ rfl rfl ?_
    refine SxL.off ⟨_, _, _, rfl, rfl, rfl, nofun⟩ rfl rfl ?_
    refine SxL.val (v := .bool false) trivial rfl rfl (fun ρ w E H => ex_pick E rfl (t := false) rfl rfl) ?_
    refine SxL.val (v := .bool false) trivial rfl rfl (fun ρ w E H => ex_move E rfl rfl) ?_
    refine SxL.off ⟨_, _, _, rfl, rfl, rfl, nofun⟩ rfl rfl ?_
    refine SxL.off ⟨_, _, _, rfl, rfl, rfl, nofun⟩ rfl rfl ?_
    refine SxL.off ⟨_, _, _, rfl, rfl, rfl, nofun⟩ rfl rfl ?_
    refine SxL.off ⟨_, _, _, rfl, rfl, rfl, nofun⟩ rfl rfl ?_
    refine SxL.off ⟨_, _, _, rfl, rfl, rfl, nofun⟩ rfl rfl ?_
    refine SxL.val (v := .bool false) trivial rfl rfl (fun ρ w E H => ex_pick E rfl (t := false) rfl rfl) ?_
    refine SxL.val (v := .bool false) trivial rfl rfl (fun ρ w E H => ex_move E rfl rfl) ?_
    refine SxL.off ⟨_, _, _, rfl, rfl, rfl, nofun⟩ rfl rfl ?_
    refine SxL.off ⟨_, _, _, rfl, rfl, rfl, nofun⟩ rfl rfl ?_
    refine SxL.off ⟨_, _, _, rfl, rfl, rfl, nofun⟩ rfl rfl ?_
    refine SxL.off ⟨_, _, _, rfl, rfl, rfl, nofun⟩ rfl rfl ?_
    refine SxL.off ⟨_, _, _, rfl, rfl, rfl, nofun⟩ rfl rfl ?_
    refine SxL.val (v := .bool false) trivial rfl rfl (fun ρ w E H => ex_pick E rfl (t := false) rfl rfl) ?_
    refine SxL.val (v := .bool false) trivial rfl rfl (fun ρ w E H => ex_move E rfl rfl) ?_
    refine SxL.off ⟨_, _, _, rfl, rfl, rfl, nofun⟩ rfl rfl ?_
    refine SxL.off ⟨_, _, _, rfl, rfl, rfl, nofun⟩ rfl rfl ?_
    refine SxL.off ⟨_, _, _, rfl, rfl, rfl, nofun⟩ rfl rfl ?_
    refine SxL.off ⟨_, _, _, rfl, rfl, rfl, nofun⟩ rfl rfl ?_
    refine SxL.off ⟨_, _, _, rfl, rfl, rfl, nofun⟩ rfl rfl ?_
    refine SxL.val (v := .bool false) trivial rfl rfl (fun ρ w E H => ex_pick E rfl (t := false) rfl rfl) ?_
    refine SxL.val (v := .bool false) trivial rfl rfl (fun ρ w E H => ex_move E rfl rfl) ?_
    refine SxL.off ⟨_, _, _, rfl, rfl, rfl, nofun⟩ rfl rfl ?_
    refine SxL.off ⟨_, _, _, rfl, rfl, rfl, nofun⟩ rfl rfl ?_
    refine SxL.off ⟨_, _, _, rfl, rfl, rfl, nofun⟩ rfl rfl ?_
    refine SxL.off ⟨_, _, _, rfl, rfl, rfl, nofun⟩ rfl rfl ?_
    refine SxL.off ⟨_, _, _, rfl, rfl, rfl, nofun⟩ rfl rfl ?_
    refine SxL.val (v := .bool false) trivial rfl rfl (fun ρ w E H => ex_pick E rfl (t := false) rfl rfl) ?_
    refine SxL.val (v := .bool false) trivial rfl rfl (fun ρ w E H => ex_assign E rfl rfl) ?_
    refine SxL.nil ?_
    refine SxN.then_ ?_
    refine SxC.ret ?_
    refine SxX.done (.bool false) (fun a w K H => res1 K rfl rfl) (fun w H => ?_)
    have hq : false = decide ((⟨mk, mn, mr, mb, ms, mo, mv, vl, il, ⟨ca, cb, ck, cs, ct, cu, cz⟩, mc, mt⟩ : Ms) = ⟨xk, xn, xr, xb, xs, xo, xv, wl, jl, ⟨da, db, dk, ds, dt, du, dz⟩, xc, xt⟩) := by clear H; grind [cmpB]
    exact ⟨by rw [hq], H.toBelow ⟨(fun g hg => by rw [List.mem_singleton.1 hg]; exact hg2), (fun g hg => by rw [List.mem_singleton.1 hg]; exact hg1), trivial⟩⟩
  · refine SxL.val (v := .pointer (some ⟨g1, 1, none⟩)) ⟨_, _, rfl, rfl, rfl⟩ rfl rfl (fun ρ w E H => ex_field E rfl fa_palaver_api_Msg_1 rfl rfl) ?_
    refine SxL.val (v := .agg #[.int .u64 (mn : Int), .int .u8 (mr : Int)]) ⟨_, _, rfl, rfl, rfl⟩ rfl rfl (fun ρ w E H => ex_load (part := [.int .u64 (mn : Int), .int .u8 (mr : Int)]) E (H.get (i := 1) rfl) rfl rfl Try.underlying39 rfl sz_palaver_api_Ballot rfl rfl) ?_
    refine SxL.val (v := .pointer (some ⟨g2, 1, none⟩)) ⟨_, _, rfl, rfl, rfl⟩ rfl rfl (fun ρ w E H => ex_field E rfl fa_palaver_api_Msg_1 rfl rfl) ?_
    refine SxL.val (v := .agg #[.int .u64 (xn : Int), .int .u8 (xr : Int)]) ⟨_, _, rfl, rfl, rfl⟩ rfl rfl (fun ρ w E H => ex_load (part := [.int .u64 (xn : Int), .int .u8 (xr : Int)]) E (H.get (i := 0) rfl) rfl rfl Try.underlying39 rfl sz_palaver_api_Ballot rfl rfl) ?_
    refine SxL.valB ⟨_, _, rfl, rfl, rfl⟩ rfl rfl (fun ρ w E H => ex_aeql E rfl (by kernel_rfl) rfl rfl (fun w => eq_bal mn mr xn xr w)) fun c15 hc15 => ?_
    refine SxL.val (v := .bool c15) trivial rfl rfl (fun ρ w E H => ex_pick E rfl (t := true) rfl rfl) ?_
    refine SxL.val (v := .bool c15) trivial rfl rfl (fun ρ w E H => ex_move E rfl rfl) ?_
    cases c15
    · refine SxL.off ⟨_, _, _, rfl, rfl, rfl, nofun⟩ rfl rfl ?_
      refine SxL.off ⟨_, _, _, rfl, rfl, rfl, nofun⟩ rfl rfl ?_
      refine SxL.off ⟨_, _, _, rfl, rfl, rfl, nofun⟩ rfl rfl ?_
      refine SxL.off ⟨_, _, _, rfl, rfl, rfl, nofun⟩ rfl rfl ?_
      refine SxL.off ⟨_, _, _, rfl, rfl, rfl, nofun⟩ rfl rfl ?_
      refine SxL.val (v := .bool false) trivial rfl rfl (fun ρ w E H => ex_pick E rfl (t := false) rfl rfl) ?_
      refine SxL.val (v := .bool false) trivial rfl rfl (fun ρ w E H => ex_move E rfl rfl) ?_
      refine SxL.off ⟨_, _, _, rfl, rfl, rfl, nofun⟩ rfl rfl ?_
      refine SxL.off ⟨_, _, _, rfl, rfl, rfl, nofun⟩ rfl rfl ?_
      refine SxL.off ⟨_, _, _, rfl, rfl, rfl, nofun⟩ rfl rfl ?_
      refine SxL.off ⟨_, _, _, rfl, rfl, rfl, nofun⟩ rfl rfl ?_
      refine SxL.off ⟨_, _, _, rfl, rfl, rfl, nofun⟩ rfl rfl ?_
      refine SxL.val (v := .bool false) trivial rfl rfl (fun ρ w E H => ex_pick E rfl (t := false) rfl rfl) ?_
      refine SxL.val (v := .bool false) trivial rfl rfl (fun ρ w E H => ex_move E rfl rfl) ?_
      refine SxL.off ⟨_, _, _, rfl, rfl, rfl, nofun⟩ rfl rfl ?_
      refine SxL.off ⟨_, _, _, rfl, rfl, rfl, nofun⟩ rfl rfl ?_
      refine SxL.off ⟨_, _, _, rfl, rfl, rfl, nofun⟩ rfl rfl ?_
      refine SxL.off ⟨_, _, _, rfl, rfl, rfl, nofun⟩ rfl rfl ?_
      refine SxL.off ⟨_, _, _, rfl, rfl, rfl, nofun⟩ rfl rfl ?_
      refine SxL.val (v := .bool false) trivial rfl rfl (fun ρ w E H => ex_pick E rfl (t := false) rfl rfl) ?_
      refine SxL.val (v := .bool false) trivial rfl rfl (fun ρ w E H => ex_move E rfl rfl) ?_
      refine SxL.off ⟨_, _, _, rfl, rfl, rfl, nofun⟩ rfl rfl ?_
      refine SxL.off ⟨_, _, _, rfl, rfl, rfl, nofun⟩ rfl rfl ?_
      refine SxL.off ⟨_, _, _, rfl, rfl, rfl, nofun⟩ rfl rfl ?_
      refine SxL.off ⟨_, _, _, rfl, rfl, rfl, nofun⟩ rfl rfl ?_
      refine SxL.off ⟨_, _, _, rfl, rfl, rfl, nofun⟩ rfl rfl ?_
      refine SxL.val (v := .bool false) trivial rfl rfl (fun ρ w E H => ex_pick E rfl (t := false) rfl rfl) ?_
      refine SxL.val (v := .bool false) trivial rfl rfl (fun ρ w E H => ex_move E rfl rfl) ?_
      refine SxL.off ⟨_, _, _, rfl, rfl, rfl, nofun⟩ rfl rfl ?_
      refine SxL.off ⟨_, _, _, rfl, rfl, rfl, nofun⟩ rfl rfl ?_
      refine SxL.off ⟨_, _, _, rfl, rfl, rfl, nofun⟩ rfl rfl ?_
      refine SxL.off ⟨_, _, _, rfl, rfl, rfl, nofun⟩ rfl rfl ?_
      refine SxL.off ⟨_, _, _, rfl, rfl, rfl, nofun⟩ rfl rfl ?_
      refine SxL.val (v := .bool false) trivial rfl rfl (fun ρ w E H => ex_pick E rfl (t := false) rfl rfl) ?_
      refine SxL.val (v := .bool false) trivial rfl rfl (fun ρ w E H => ex_move E rfl rfl) ?_
      refine SxL.off ⟨_, _, _, rfl, rfl, rfl, nofun⟩ rfl rfl ?_
      refine SxL.off ⟨_, _, _, rfl, rfl, rfl, nofun⟩ rfl rfl ?_
      refine SxL.off ⟨_, _, _, rfl, rfl, rfl, nofun⟩ rfl rfl ?_
      refine SxL.off ⟨_, _, _, rfl, rfl, rfl, nofun⟩ rfl rfl ?_
      refine SxL.off ⟨_, _, _, rfl, rfl, rfl, nofun⟩ rfl rfl ?_
      refine SxL.val (v := .bool false) trivial rfl rfl (fun ρ w E H => ex_pick E rfl (t := false) rfl rfl) ?_
      refine SxL.val (v := .bool false) trivial rfl rfl (fun ρ w E H => ex_move E rfl rfl) ?_
      refine SxL.off ⟨_, _, _, rfl, rfl, rfl, nofun⟩ rfl rfl ?_
      refine SxL.off ⟨_, _, _, rfl, rfl, rfl, nofun⟩ rfl rfl ?_
      refine SxL.off ⟨_, _, _, rfl, rfl, rfl, nofun⟩ rfl rfl ?_
      refine SxL.off ⟨_, _, _, rfl, rfl, rfl, nofun⟩ rfl rfl ?_
      refine SxL.off ⟨_, _, _, rfl, rfl, rfl, nofun⟩ rfl rfl ?_
      refine SxL.val (v := .bool false) trivial rfl rfl (fun ρ w E H => ex_pick E rfl (t := false) rfl rfl) ?_
      refine SxL.val (v := .bool false) trivial rfl rfl (fun ρ w E H => ex_move E rfl rfl) ?_
      refine SxL.off ⟨_, _, _, rfl, rfl, rfl, nofun⟩ rfl rfl ?_
      refine SxL.off ⟨_, _, _, rfl, rfl, rfl, nofun⟩ rfl rfl ?_
      refine SxL.off ⟨_, _, _, rfl, rfl, rfl, nofun⟩ rfl rfl ?_
      refine SxL.off ⟨_, _, _, rfl, rfl, rfl, nofun⟩ rfl rfl ?_
      refine SxL.off ⟨_, _, _, rfl, rfl, rfl, nofun⟩ rfl rfl ?_
      refine SxL.val (v := .bool false) trivial rfl rfl (fun ρ w E H => ex_pick E rfl (t := false) rfl rfl) ?_
      refine SxL.val (v := .bool false) trivial rfl rfl (fun ρ w E H => ex_assign E rfl rfl) ?_
      refine SxL.nil ?_
      refine SxN.then_ ?_
      refine SxC.ret ?_
      refine SxX.done (.bool false) (fun a w K H => res1 K rfl rfl) (fun w H => ?_)
      have hq : false = decide ((⟨mk, mn, mr, mb, ms, mo, mv, vl, il, ⟨ca, cb, ck, cs, ct, cu, cz⟩, mc, mt⟩ : Ms) = ⟨xk, xn, xr, xb, xs, xo, xv, wl, jl, ⟨da, db, dk, ds, dt, du, dz⟩, xc, xt⟩) := by clear H; grind [cmpB]
      exact ⟨by rw [hq], H.toBelow ⟨(fun g hg => by rw [List.mem_singleton.1 hg]; exact hg2), (fun g hg => by rw [List.mem_singleton.1 hg]; exact hg1), trivial⟩⟩
    · refine SxL.val (v := .pointer (some ⟨g1, 3, none⟩)) ⟨_, _, rfl, rfl, rfl⟩ rfl rfl (fun ρ w E H => ex_field E rfl fa_palaver_api_Msg_2 rfl rfl) ?_
      refine SxL.val (v := .int .u64 (mb : Int)) ⟨_, _, rfl, rfl, rfl⟩ rfl rfl (fun ρ w E H => ex_load1 E (H.get (i := 1) rfl) rfl rfl Try.underlying37 rfl rfl) ?_
      refine SxL.val (v := .pointer (some ⟨g2, 3, none⟩)) ⟨_, _, rfl, rfl, rfl⟩ rfl rfl (fun ρ w E H => ex_field E rfl fa_palaver_api_Msg_2 rfl rfl) ?_
      refine SxL.val (v := .int .u64 (xb : Int)) ⟨_, _, rfl, rfl, rfl⟩ rfl rfl (fun ρ w E H => ex_load1 E (H.get (i := 0) rfl) rfl rfl Try.underlying37 rfl rfl) ?_
      refine SxL.valB ⟨_, _, rfl, rfl, rfl⟩ rfl rfl (fun ρ w E H => ex_cmp E rfl rfl rfl rfl rfl) fun c22 hc22 => ?_
      refine SxL.val (v := .bool c22) trivial rfl rfl (fun ρ w E H => ex_pick E rfl (t := true) rfl rfl) ?_
      refine SxL.val (v := .bool c22) trivial rfl rfl (fun ρ w E H => ex_move E rfl rfl) ?_
      cases c22
      · refine SxL.off ⟨_, _, _, rfl, rfl, rfl, nofun⟩ rfl rfl ?_
        refine SxL.off ⟨_, _, _, rfl, rfl, rfl, nofun⟩ rfl rfl ?_
        refine SxL.off ⟨_, _, _, rfl, rfl, rfl, nofun⟩ rfl rfl ?_
        refine SxL.off ⟨_, _, _, rfl, rfl, rfl, nofun⟩ rfl rfl ?_
        refine SxL.off ⟨_, _, _, rfl, rfl, rfl, nofun⟩ rfl rfl ?_
        refine SxL.val (v := .bool false) trivial rfl rfl (fun ρ w E H => ex_pick E rfl (t := false) rfl rfl) ?_
        refine SxL.val (v := .bool false) trivial rfl rfl (fun ρ w E H => ex_move E rfl rfl) ?_
        refine SxL.off ⟨_, _, _, rfl, rfl, rfl, nofun⟩ rfl rfl ?_
        refine SxL.off ⟨_, _, _, rfl, rfl, rfl, nofun⟩ rfl rfl ?_
        refine SxL.off ⟨_, _, _, rfl, rfl, rfl, nofun⟩ rfl rfl ?_
        refine SxL.off ⟨_, _, _, rfl, rfl, rfl, nofun⟩ rfl rfl ?_
        refine SxL.off ⟨_, _, _, rfl, rfl, rfl, nofun⟩ rfl rfl ?_
        refine SxL.val (v := .bool false) trivial rfl rfl (fun ρ w E H => ex_pick E rfl (t := false) rfl rfl) ?_
        refine SxL.val (v := .bool false) trivial rfl rfl (fun ρ w E H => ex_move E rfl rfl) ?_
        refine SxL.off ⟨_, _, _, rfl, rfl, rfl, nofun⟩ rfl rfl ?_
        refine SxL.off ⟨_, _, _, rfl, rfl, rfl, nofun⟩ rfl rfl ?_
        refine SxL.off ⟨_, _, _, rfl, rfl, rfl, nofun⟩ rfl rfl ?_
        refine SxL.off ⟨_, _, _, rfl, rfl, rfl, nofun⟩ rfl rfl ?_
        refine SxL.off ⟨_, _, _, rfl, rfl, rfl, nofun⟩ rfl rfl ?_
        refine SxL.val (v := .bool false) trivial rfl rfl (fun ρ w E H => ex_pick E rfl (t := false) rfl rfl) ?_
        refine SxL.val (v := .bool false) trivial rfl rfl (fun ρ w E H => ex_move E rfl rfl) ?_
        refine SxL.off ⟨_, _, _, rfl, rfl, rfl, nofun⟩ rfl rfl ?_
        refine SxL.off ⟨_, _, _, rfl, rfl, rfl, nofun⟩ rfl rfl ?_
        refine SxL.off ⟨_, _, _, rfl, rfl, rfl, nofun⟩ rfl rfl ?_
        refine SxL.off ⟨_, _, _, rfl, rfl, rfl, nofun⟩ rfl rfl ?_
        refine SxL.off ⟨_, _, _, rfl, rfl, rfl, nofun⟩ rfl rfl ?_
        refine SxL.val (v := .bool false) trivial rfl rfl (fun ρ w E H => ex_pick E rfl (t := false) rfl rfl) ?_
        refine SxL.val (v := .bool false) trivial rfl rfl (fun ρ w E H => ex_move E rfl rfl) ?_
        refine SxL.off ⟨_, _, _, rfl, rfl, rfl, nofun⟩ rfl rfl ?_
        refine SxL.off ⟨_, _, _, rfl, rfl, rfl, nofun⟩ rfl rfl ?_
        refine SxL.off ⟨_, _, _, rfl, rfl, rfl, nofun⟩ rfl rfl ?_
        refine SxL.off ⟨_, _, _, rfl, rfl, rfl, nofun⟩ rfl rfl ?_
        refine SxL.off ⟨_, _, _, rfl, rfl, rfl, nofun⟩ rfl rfl ?_
        refine SxL.val (v := .bool false) trivial rfl rfl (fun ρ w E H => ex_pick E rfl (t := false) rfl rfl) ?_
        refine SxL.val (v := .bool false) trivial rfl rfl (fun ρ w E H => ex_move E rfl rfl) ?_
        refine SxL.off ⟨_, _, _, rfl, rfl, rfl, nofun⟩ rfl rfl ?_
        refine SxL.off ⟨_, _, _, rfl, rfl, rfl, nofun⟩ rfl rfl ?_
        refine SxL.off ⟨_, _, _, rfl, rfl, rfl, nofun⟩ rfl rfl ?_
        refine SxL.off ⟨_, _, _, rfl, rfl, rfl, nofun⟩ rfl rfl ?_
        refine SxL.off ⟨_, _, _, rfl, rfl, rfl, nofun⟩ rfl rfl ?_
        refine SxL.val (v := .bool false) trivial rfl rfl (fun ρ w E H => ex_pick E rfl (t := false) rfl rfl) ?_
        refine SxL.val (v := .bool false) trivial rfl rfl (fun ρ w E H => ex_move E rfl rfl) ?_
        refine SxL.off ⟨_, _, _, rfl, rfl, rfl, nofun⟩ rfl rfl ?_
        refine SxL.off ⟨_, _, _, rfl, rfl, rfl, nofun⟩ rfl rfl ?_
        refine SxL.off ⟨_, _, _, rfl, rfl, rfl, nofun⟩ rfl rfl ?_
        refine SxL.off ⟨_, _, _, rfl, rfl, rfl, nofun⟩ rfl rfl ?_
        refine SxL.off ⟨_, _, _, rfl, rfl, rfl, nofun⟩ rfl rfl ?_
        refine SxL.val (v := .bool false) trivial rfl rfl (fun ρ w E H => ex_pick E rfl (t := false) rfl rfl) ?_
        refine SxL.val (v := .bool false) trivial rfl rfl (fun ρ w E H => ex_assign E rfl rfl) ?_
        refine SxL.nil ?_
        refine SxN.then_ ?_
        refine SxC.ret ?_
        refine SxX.done (.bool false) (fun a w K H => res1 K rfl rfl) (fun w H => ?_)
        have hq : false = decide ((⟨mk, mn, mr, mb, ms, mo, mv, vl, il, ⟨ca, cb, ck, cs, ct, cu, cz⟩, mc, mt⟩ : Ms) = ⟨xk, xn, xr, xb, xs, xo, xv, wl, jl, ⟨da, db, dk, ds, dt, du, dz⟩, xc, xt⟩) := by clear H; grind [cmpB]
        exact ⟨by rw [hq], H.toBelow ⟨(fun g hg => by rw [List.mem_singleton.1 hg]; exact hg2), (fun g hg => by rw [List.mem_singleton.1 hg]; exact hg1), trivial⟩⟩
      · refine SxL.val (v := .pointer (some ⟨g1, 4, none⟩)) ⟨_, _, rfl, rfl, rfl⟩ rfl rfl (fun ρ w E H => ex_field E rfl fa_palaver_api_Msg_3 rfl rfl) ?_
        refine SxL.val (v := .int .u64 (ms : Int)) ⟨_, _, rfl, rfl, rfl⟩ rfl rfl (fun ρ w E H => ex_load1 E (H.get (i := 1) rfl) rfl rfl Try.underlying37 rfl rfl) ?_
        refine SxL.val (v := .pointer (some ⟨g2, 4, none⟩)) ⟨_, _, rfl, rfl, rfl⟩ rfl rfl (fun ρ w E H => ex_field E rfl fa_palaver_api_Msg_3 rfl rfl) ?_
        refine SxL.val (v := .int .u64 (xs : Int)) ⟨_, _, rfl, rfl, rfl⟩ rfl rfl (fun ρ w E H => ex_load1 E (H.get (i := 0) rfl) rfl rfl Try.underlying37 rfl rfl) ?_
        refine SxL.valB ⟨_, _, rfl, rfl, rfl⟩ rfl rfl (fun ρ w E H => ex_cmp E rfl rfl rfl rfl rfl) fun c29 hc29 => ?_
        refine SxL.val (v := .bool c29) trivial rfl rfl (fun ρ w E H => ex_pick E rfl (t := true) rfl rfl) ?_
        refine SxL.val (v := .bool c29) trivial rfl rfl (fun ρ w E H => ex_move E rfl rfl) ?_
        cases c29
        · refine SxL.off ⟨_, _, _, rfl, rfl, rfl, nofun⟩ rfl rfl ?_
          refine SxL.off ⟨_, _, _, rfl, rfl, rfl, nofun⟩ rfl rfl ?_
          refine SxL.off ⟨_, _, _, rfl, rfl, rfl, nofun⟩ rfl rfl ?_
          refine SxL.off ⟨_, _, _, rfl, rfl, rfl, nofun⟩ rfl rfl ?_
          refine SxL.off ⟨_, _, _, rfl, rfl, rfl, nofun⟩ rfl rfl ?_
          refine SxL.val (v := .bool false) trivial rfl rfl (fun ρ w E H => ex_pick E rfl (t := false) rfl rfl) ?_
          refine SxL.val (v := .bool false) trivial rfl rfl (fun ρ w E H => ex_move E rfl rfl) ?_
          refine SxL.off ⟨_, _, _, rfl, rfl, rfl, nofun⟩ rfl rfl ?_
          refine SxL.off ⟨_, _, _, rfl, rfl, rfl, nofun⟩ rfl rfl ?_
          refine SxL.off ⟨_, _, _, rfl, rfl, rfl, nofun⟩ rfl rfl ?_
          refine SxL.off ⟨_, _, _, rfl, rfl, rfl, nofun⟩ rfl rfl ?_
          refine SxL.off ⟨_, _, _, rfl, rfl, rfl, nofun⟩ rfl rfl ?_
          refine SxL.val (v := .bool false) trivial rfl rfl (fun ρ w E H => ex_pick E rfl (t := false) rfl rfl) ?_
          refine SxL.val (v := .bool false) trivial rfl rfl (fun ρ w E H => ex_move E rfl rfl) ?_
          refine SxL.off ⟨_, _, _, rfl, rfl, rfl, nofun⟩ rfl rfl ?_
          refine SxL.off ⟨_, _, _, rfl, rfl, rfl, nofun⟩ rfl rfl ?_
          refine SxL.off ⟨_, _, _, rfl, rfl, rfl, nofun⟩ rfl rfl ?_
          refine SxL.off ⟨_, _, _, rfl, rfl, rfl, nofun⟩ rfl rfl ?_
          refine SxL.off ⟨_, _, _, rfl, rfl, rfl, nofun⟩ rfl rfl ?_
          refine SxL.val (v := .bool false) trivial rfl rfl (fun ρ w E H => ex_pick E rfl (t := false) rfl rfl) ?_
          refine SxL.val (v := .bool false) trivial rfl rfl (fun ρ w E H => ex_move E rfl rfl) ?_
          refine SxL.off ⟨_, _, _, rfl, rfl, rfl, nofun⟩ rfl rfl ?_
          refine SxL.off ⟨_, _, _, rfl, rfl, rfl, nofun⟩ rfl rfl ?_
          refine SxL.off ⟨_, _, _, rfl, rfl, rfl, nofun⟩ rfl rfl ?_
          refine SxL.off ⟨_, _, _, rfl, rfl, rfl, nofun⟩ rfl rfl ?_
          refine SxL.off ⟨_, _, _, rfl, rfl, rfl, nofun⟩ rfl rfl ?_
          refine SxL.val (v := .bool false) trivial rfl rfl (fun ρ w E H => ex_pick E rfl (t := false) rfl rfl) ?_
          refine SxL.val (v := .bool false) trivial rfl rfl (fun ρ w E H => ex_move E rfl rfl) ?_
          refine SxL.off ⟨_, _, _, rfl, rfl, rfl, nofun⟩ rfl rfl ?_
          refine SxL.off ⟨_, _, _, rfl, rfl, rfl, nofun⟩ rfl rfl ?_
          refine SxL.off ⟨_, _, _, rfl, rfl, rfl, nofun⟩ rfl rfl ?_
          refine SxL.off ⟨_, _, _, rfl, rfl, rfl, nofun⟩ rfl rfl ?_
          refine SxL.off ⟨_, _, _, rfl, rfl, rfl, nofun⟩ rfl rfl ?_
          refine SxL.val (v := .bool false) trivial rfl rfl (fun ρ w E H => ex_pick E rfl (t := false) rfl rfl) ?_
          refine SxL.val (v := .bool false) trivial rfl rfl (fun ρ w E H => ex_move E rfl rfl) ?_
          refine SxL.off ⟨_, _, _, rfl, rfl, rfl, nofun⟩ rfl rfl ?_
          refine SxL.off ⟨_, _, _, rfl, rfl, rfl, nofun⟩ rfl rfl ?_
          refine SxL.off ⟨_, _, _, rfl, rfl, rfl, nofun⟩ rfl rfl ?_
          refine SxL.off ⟨_, _, _, rfl, rfl, rfl, nofun⟩ rfl rfl ?_
          refine SxL.off ⟨_, _, _, rfl, rfl, rfl, nofun⟩ rfl rfl ?_
          refine SxL.val (v := .bool false) trivial rfl rfl (fun ρ w E H => ex_pick E rfl (t := false) rfl rfl) ?_
          refine SxL.val (v := .bool false) trivial rfl rfl (fun ρ w E H => ex_assign E rfl rfl) ?_
          refine SxL.nil ?_
          refine SxN.then_ ?_
          refine SxC.ret ?_
          refine SxX.done (.bool false) (fun a w K H => res1 K rfl rfl) (fun w H => ?_)
          have hq : false = decide ((⟨mk, mn, mr, mb, ms, mo, mv, vl, il, ⟨ca, cb, ck, cs, ct, cu, cz⟩, mc, mt⟩ : Ms) = ⟨xk, xn, xr, xb, xs, xo, xv, wl, jl, ⟨da, db, dk, ds, dt, du, dz⟩, xc, xt⟩) := by clear H; grind [cmpB]
          exact ⟨by rw [hq], H.toBelow ⟨(fun g hg => by rw [List.mem_singleton.1 hg]; exact hg2), (fun g hg => by rw [List.mem_singleton.1 hg]; exact hg1), trivial⟩⟩
        · refine SxL.val (v := .pointer (some ⟨g1, 5, none⟩)) ⟨_, _, rfl, rfl, rfl⟩ rfl rfl (fun ρ w E H => ex_field E rfl fa_palaver_api_Msg_4 rfl rfl) ?_
          refine SxL.val (v := .int .u8 (mo : Int)) ⟨_, _, rfl, rfl, rfl⟩ rfl rfl (fun ρ w E H => ex_load1 E (H.get (i := 1) rfl) rfl rfl Try.underlying5 rfl rfl) ?_
          refine SxL.val (v := .pointer (some ⟨g2, 5, none⟩)) ⟨_, _, rfl, rfl, rfl⟩ rfl rfl (fun ρ w E H => ex_field E rfl fa_palaver_api_Msg_4 rfl rfl) ?_
          refine SxL.val (v := .int .u8 (xo : Int)) ⟨_, _, rfl, rfl, rfl⟩ rfl rfl (fun ρ w E H => ex_load1 E (H.get (i := 0) rfl) rfl rfl Try.underlying5 rfl rfl) ?_
          refine SxL.valB ⟨_, _, rfl, rfl, rfl⟩ rfl rfl (fun ρ w E H => ex_cmp E rfl rfl rfl rfl rfl) fun c36 hc36 => ?_
          refine SxL.val (v := .bool c36) trivial rfl rfl (fun ρ w E H => ex_pick E rfl (t := true) rfl rfl) ?_
          refine SxL.val (v := .bool c36) trivial rfl rfl (fun ρ w E H => ex_move E rfl rfl) ?_
          cases c36
          · refine SxL.off ⟨_, _, _, rfl, rfl, rfl, nofun⟩ rfl rfl ?_
            refine SxL.off ⟨_, _, _, rfl, rfl, rfl, nofun⟩ rfl rfl ?_
            refine SxL.off ⟨_, _, _, rfl, rfl, rfl, nofun⟩ rfl rfl ?_
            refine SxL.off ⟨_, _, _, rfl, rfl, rfl, nofun⟩ rfl rfl ?_
            refine SxL.off ⟨_, _, _, rfl, rfl, rfl, nofun⟩ rfl rfl ?_
            refine SxL.val (v := .bool false) trivial rfl rfl (fun ρ w E H => ex_pick E rfl (t := false) rfl rfl) ?_
            refine SxL.val (v := .bool false) trivial rfl rfl (fun ρ w E H => ex_move E rfl rfl) ?_
            refine SxL.off ⟨_, _, _, rfl, rfl, rfl, nofun⟩ rfl rfl ?_
            refine SxL.off ⟨_, _, _, rfl, rfl, rfl, nofun⟩ rfl rfl ?_
            refine SxL.off ⟨_, _, _, rfl, rfl, rfl, nofun⟩ rfl rfl ?_
            refine SxL.off ⟨_, _, _, rfl, rfl, rfl, nofun⟩ rfl rfl ?_
            refine SxL.off ⟨_, _, _, rfl, rfl, rfl, nofun⟩ rfl rfl ?_
            refine SxL.val (v := .bool false) trivial rfl rfl (fun ρ w E H => ex_pick E rfl (t := false) rfl rfl) ?_
            refine SxL.val (v := .bool false) trivial rfl rfl (fun ρ w E H => ex_move E rfl rfl) ?_
            refine SxL.off ⟨_, _, _, rfl, rfl, rfl, nofun⟩ rfl rfl ?_
            refine SxL.off ⟨_, _, _, rfl, rfl, rfl, nofun⟩ rfl rfl ?_
            refine SxL.off ⟨_, _, _, rfl, rfl, rfl, nofun⟩ rfl rfl ?_
            refine SxL.off ⟨_, _, _, rfl, rfl, rfl, nofun⟩ rfl rfl ?_
            refine SxL.off ⟨_, _, _, rfl, rfl, rfl, nofun⟩ rfl rfl ?_
            refine SxL.val (v := .bool false) trivial rfl rfl (fun ρ w E H => ex_pick E rfl (t := false) rfl rfl) ?_
            refine SxL.val (v := .bool false) trivial rfl rfl (fun ρ w E H => ex_move E rfl rfl) ?_
            refine SxL.off ⟨_, _, _, rfl, rfl, rfl, nofun⟩ rfl rfl ?_
            refine SxL.off ⟨_, _, _, rfl, rfl, rfl, nofun⟩ rfl rfl ?_
            refine SxL.off ⟨_, _, _, rfl, rfl, rfl, nofun⟩ rfl rfl ?_
            refine SxL.off ⟨_, _, _, rfl, rfl, rfl, nofun⟩ rfl rfl ?_
            refine SxL.off ⟨_, _, _, rfl, rfl, rfl, nofun⟩ rfl rfl ?_
            refine SxL.val (v := .bool false) trivial rfl rfl (fun ρ w E H => ex_pick E rfl (t := false) rfl rfl) ?_
            refine SxL.val (v := .bool false) trivial rfl rfl (fun ρ w E H => ex_move E rfl rfl) ?_
            refine SxL.off ⟨_, _, _, rfl, rfl, rfl, nofun⟩ rfl rfl ?_
            refine SxL.off ⟨_, _, _, rfl, rfl, rfl, nofun⟩ rfl rfl ?_
            refine SxL.off ⟨_, _, _, rfl, rfl, rfl, nofun⟩ rfl rfl ?_
            refine SxL.off ⟨_, _, _, rfl, rfl, rfl, nofun⟩ rfl rfl ?_
            refine SxL.off ⟨_, _, _, rfl, rfl, rfl, nofun⟩ rfl rfl ?_
            refine SxL.val (v := .bool false) trivial rfl rfl (fun ρ w E H => ex_pick E rfl (t := false) rfl rfl) ?_
            refine SxL.val (v := .bool false) trivial rfl rfl (fun ρ w E H => ex_assign E rfl rfl) ?_
            refine SxL.nil ?_
            refine SxN.then_ ?_
            refine SxC.ret ?_
            refine SxX.done (.bool false) (fun a w K H => res1 K rfl rfl) (fun w H => ?_)
            have hq : false = decide ((⟨mk, mn, mr, mb, ms, mo, mv, vl, il, ⟨ca, cb, ck, cs, ct, cu, cz⟩, mc, mt⟩ : Ms) = ⟨xk, xn, xr, xb, xs, xo, xv, wl, jl, ⟨da, db, dk, ds, dt, du, dz⟩, xc, xt⟩) := by clear H; grind [cmpB]
            exact ⟨by rw [hq], H.toBelow ⟨(fun g hg => by rw [List.mem_singleton.1 hg]; exact hg2), (fun g hg => by rw [List.mem_singleton.1 hg]; exact hg1), trivial⟩⟩
          · refine SxL.val (v := .pointer (some ⟨g1, 6, none⟩)) ⟨_, _, rfl, rfl, rfl⟩ rfl rfl (fun ρ w E H => ex_field E rfl fa_palaver_api_Msg_5 rfl rfl) ?_
            refine SxL.val (v := .string ⟨mv.toArray⟩) ⟨_, _, rfl, rfl, rfl⟩ rfl rfl (fun ρ w E H => ex_load1 E (H.get (i := 1) rfl) rfl rfl Try.underlying9 rfl rfl) ?_
            refine SxL.val (v := .pointer (some ⟨g2, 6, none⟩)) ⟨_, _, rfl, rfl, rfl⟩ rfl rfl (fun ρ w E H => ex_field E rfl fa_palaver_api_Msg_5 rfl rfl) ?_
            refine SxL.val (v := .string ⟨xv.toArray⟩) ⟨_, _, rfl, rfl, rfl⟩ rfl rfl (fun ρ w E H => ex_load1 E (H.get (i := 0) rfl) rfl rfl Try.underlying9 rfl rfl) ?_
            refine SxL.valB ⟨_, _, rfl, rfl, rfl⟩ rfl rfl (fun ρ w E H => ex_seql E rfl rfl rfl rfl) fun c43 hc43 => ?_
            refine SxL.val (v := .bool c43) trivial rfl rfl (fun ρ w E H => ex_pick E rfl (t := true) rfl rfl) ?_
            refine SxL.val (v := .bool c43) trivial rfl rfl (fun ρ w E H => ex_move E rfl rfl) ?_
            cases c43
            · refine SxL.off ⟨_, _, _, rfl, rfl, rfl, nofun⟩ rfl rfl ?_
              refine SxL.off ⟨_, _, _, rfl, rfl, rfl, nofun⟩ rfl rfl ?_
              refine SxL.off ⟨_, _, _, rfl, rfl, rfl, nofun⟩ rfl rfl ?_
              refine SxL.off ⟨_, _, _, rfl, rfl, rfl, nofun⟩ rfl rfl ?_
              refine SxL.off ⟨_, _, _, rfl, rfl, rfl, nofun⟩ rfl rfl ?_
              refine SxL.val (v := .bool false) trivial rfl rfl (fun ρ w E H => ex_pick E rfl (t := false) rfl rfl) ?_
              refine SxL.val (v := .bool false) trivial rfl rfl (fun ρ w E H => ex_move E rfl rfl) ?_
              refine SxL.off ⟨_, _, _, rfl, rfl, rfl, nofun⟩ rfl rfl ?_
              refine SxL.off ⟨_, _, _, rfl, rfl, rfl, nofun⟩ rfl rfl ?_
              refine SxL.off ⟨_, _, _, rfl, rfl, rfl, nofun⟩ rfl rfl ?_
              refine SxL.off ⟨_, _, _, rfl, rfl, rfl, nofun⟩ rfl rfl ?_
              refine SxL.off ⟨_, _, _, rfl, rfl, rfl, nofun⟩ rfl rfl ?_
              refine SxL.val (v := .bool false) trivial rfl rfl (fun ρ w E H => ex_pick E rfl (t := false) rfl rfl) ?_
              refine SxL.val (v := .bool false) trivial rfl rfl (fun ρ w E H => ex_move E rfl rfl) ?_
              refine SxL.off ⟨_, _, _, rfl, rfl, rfl, nofun⟩ rfl rfl ?_
              refine SxL.off ⟨_, _, _, rfl, rfl, rfl, nofun⟩ rfl rfl ?_
              refine SxL.off ⟨_, _, _, rfl, rfl, rfl, nofun⟩ rfl rfl ?_
              refine SxL.off ⟨_, _, _, rfl, rfl, rfl, nofun⟩ rfl rfl ?_
              refine SxL.off ⟨_, _, _, rfl, rfl, rfl, nofun⟩ rfl rfl ?_
              refine SxL.val (v := .bool false) trivial rfl rfl (fun ρ w E H => ex_pick E rfl (t := false) rfl rfl) ?_
              refine SxL.val (v := .bool false) trivial rfl rfl (fun ρ w E H => ex_move E rfl rfl) ?_
              refine SxL.off ⟨_, _, _, rfl, rfl, rfl, nofun⟩ rfl rfl ?_
              refine SxL.off ⟨_, _, _, rfl, rfl, rfl, nofun⟩ rfl rfl ?_
              refine SxL.off ⟨_, _, _, rfl, rfl, rfl, nofun⟩ rfl rfl ?_
              refine SxL.off ⟨_, _, _, rfl, rfl, rfl, nofun⟩ rfl rfl ?_
              refine SxL.off ⟨_, _, _, rfl, rfl, rfl, nofun⟩ rfl rfl ?_
              refine SxL.val (v := .bool false) trivial rfl rfl (fun ρ w E H => ex_pick E rfl (t := false) rfl rfl) ?_
              refine SxL.val (v := .bool false) trivial rfl rfl (fun ρ w E H => ex_assign E rfl rfl) ?_
              refine SxL.nil ?_
              refine SxN.then_ ?_
              refine SxC.ret ?_
              refine SxX.done (.bool false) (fun a w K H => res1 K rfl rfl) (fun w H => ?_)
              have hq : false = decide ((⟨mk, mn, mr, mb, ms, mo, mv, vl, il, ⟨ca, cb, ck, cs, ct, cu, cz⟩, mc, mt⟩ : Ms) = ⟨xk, xn, xr, xb, xs, xo, xv, wl, jl, ⟨da, db, dk, ds, dt, du, dz⟩, xc, xt⟩) := by clear H; grind [cmpB]
              exact ⟨by rw [hq], H.toBelow ⟨(fun g hg => by rw [List.mem_singleton.1 hg]; exact hg2), (fun g hg => by rw [List.mem_singleton.1 hg]; exact hg1), trivial⟩⟩
            · refine SxL.val (v := .pointer (some ⟨g1, 9, none⟩)) ⟨_, _, rfl, rfl, rfl⟩ rfl rfl (fun ρ w E H => ex_field E rfl fa_palaver_api_Msg_8 rfl rfl) ?_
              refine SxL.val (v := .agg #[.int .u8 (ca : Int), .int .u32 (cb : Int), .int .u8 (ck : Int), .string ⟨cs.toArray⟩, .string ⟨ct.toArray⟩, .string ⟨cu.toArray⟩, .int .u8 (cz : Int)]) ⟨_, _, rfl, rfl, rfl⟩ rfl rfl (fun ρ w E H => ex_load (part := [.int .u8 (ca : Int), .int .u32 (cb : Int), .int .u8 (ck : Int), .string ⟨cs.toArray⟩, .string ⟨ct.toArray⟩, .string ⟨cu.toArray⟩, .int .u8 (cz : Int)]) E (H.get (i := 1) rfl) rfl rfl Try.underlying36 rfl sz_palaver_api_Cmd rfl rfl) ?_
              refine SxL.val (v := .pointer (some ⟨g2, 9, none⟩)) ⟨_, _, rfl, rfl, rfl⟩ rfl rfl (fun ρ w E H => ex_field E rfl fa_palaver_api_Msg_8 rfl rfl) ?_
              refine SxL.val (v := .agg #[.int .u8 (da : Int), .int .u32 (db : Int), .int .u8 (dk : Int), .string ⟨ds.toArray⟩, .string ⟨dt.toArray⟩, .string ⟨du.toArray⟩, .int .u8 (dz : Int)]) ⟨_, _, rfl, rfl, rfl⟩ rfl rfl (fun ρ w E H => ex_load (part := [.int .u8 (da : Int), .int .u32 (db : Int), .int .u8 (dk : Int), .string ⟨ds.toArray⟩, .string ⟨dt.toArray⟩, .string ⟨du.toArray⟩, .int .u8 (dz : Int)]) E (H.get (i := 0) rfl) rfl rfl Try.underlying36 rfl sz_palaver_api_Cmd rfl rfl) ?_
              refine SxL.valB ⟨_, _, rfl, rfl, rfl⟩ rfl rfl (fun ρ w E H => ex_aeql E rfl (by kernel_rfl) rfl rfl (fun w => eq_cm (⟨ca, cb, ck, cs, ct, cu, cz⟩ : Cmd.Cm) ⟨da, db, dk, ds, dt, du, dz⟩ w)) fun c50 hc50 => ?_
              refine SxL.val (v := .bool c50) trivial rfl rfl (fun ρ w E H => ex_pick E rfl (t := true) rfl rfl) ?_
              refine SxL.val (v := .bool c50) trivial rfl rfl (fun ρ w E H => ex_move E rfl rfl) ?_
              cases c50
              · refine SxL.off ⟨_, _, _, rfl, rfl, rfl, nofun⟩ rfl rfl ?_
                refine SxL.off ⟨_, _, _, rfl, rfl, rfl, nofun⟩ rfl rfl ?_
                refine SxL.off ⟨_, _, _, rfl, rfl, rfl, nofun⟩ rfl rfl ?_
                refine SxL.off ⟨_, _, _, rfl, rfl, rfl, nofun⟩ rfl rfl ?_
                refine SxL.off ⟨_, _, _, rfl, rfl, rfl, nofun⟩ rfl rfl ?_
                refine SxL.val (v := .bool false) trivial rfl rfl (fun ρ w E H => ex_pick E rfl (t := false) rfl rfl) ?_
                refine SxL.val (v := .bool false) trivial rfl rfl (fun ρ w E H => ex_move E rfl rfl) ?_
                refine SxL.off ⟨_, _, _, rfl, rfl, rfl, nofun⟩ rfl rfl ?_
                refine SxL.off ⟨_, _, _, rfl, rfl, rfl, nofun⟩ rfl rfl ?_
                refine SxL.off ⟨_, _, _, rfl, rfl, rfl, nofun⟩ rfl rfl ?_
                refine SxL.off ⟨_, _, _, rfl, rfl, rfl, nofun⟩ rfl rfl ?_
                refine SxL.off ⟨_, _, _, rfl, rfl, rfl, nofun⟩ rfl rfl ?_
                refine SxL.val (v := .bool false) trivial rfl rfl (fun ρ w E H => ex_pick E rfl (t := false) rfl rfl) ?_
                refine SxL.val (v := .bool false) trivial rfl rfl (fun ρ w E H => ex_move E rfl rfl) ?_
                refine SxL.off ⟨_, _, _, rfl, rfl, rfl, nofun⟩ rfl rfl ?_
                refine SxL.off ⟨_, _, _, rfl, rfl, rfl, nofun⟩ rfl rfl ?_
                refine SxL.off ⟨_, _, _, rfl, rfl, rfl, nofun⟩ rfl rfl ?_
                refine SxL.off ⟨_, _, _, rfl, rfl, rfl, nofun⟩ rfl rfl ?_
                refine SxL.off ⟨_, _, _, rfl, rfl, rfl, nofun⟩ rfl rfl ?_
                refine SxL.val (v := .bool false) trivial rfl rfl (fun ρ w E H => ex_pick E rfl (t := false) rfl rfl) ?_
                refine SxL.val (v := .bool false) trivial rfl rfl (fun ρ w E H => ex_assign E rfl rfl) ?_
                refine SxL.nil ?_
                refine SxN.then_ ?_
                refine SxC.ret ?_
                refine SxX.done (.bool false) (fun a w K H => res1 K rfl rfl) (fun w H => ?_)
                have hq : false = decide ((⟨mk, mn, mr, mb, ms, mo, mv, vl, il, ⟨ca, cb, ck, cs, ct, cu, cz⟩, mc, mt⟩ : Ms) = ⟨xk, xn, xr, xb, xs, xo, xv, wl, jl, ⟨da, db, dk, ds, dt, du, dz⟩, xc, xt⟩) := by clear H; grind [cmpB]
                exact ⟨by rw [hq], H.toBelow ⟨(fun g hg => by rw [List.mem_singleton.1 hg]; exact hg2), (fun g hg => by rw [List.mem_singleton.1 hg]; exact hg1), trivial⟩⟩
              · refine SxL.val (v := .pointer (some ⟨g1, 16, none⟩)) ⟨_, _, rfl, rfl, rfl⟩ rfl rfl (fun ρ w E H => ex_field E rfl fa_palaver_api_Msg_9 rfl rfl) ?_
                refine SxL.val (v := .agg #[.int .u8 (mc : Int), .string ⟨mt.toArray⟩]) ⟨_, _, rfl, rfl, rfl⟩ rfl rfl (fun ρ w E H => ex_load (part := [.int .u8 (mc : Int), .string ⟨mt.toArray⟩]) E (H.get (i := 1) rfl) rfl rfl Try.underlying43 rfl sz_palaver_api_Reply rfl rfl) ?_
                refine SxL.val (v := .pointer (some ⟨g2, 16, none⟩)) ⟨_, _, rfl, rfl, rfl⟩ rfl rfl (fun ρ w E H => ex_field E rfl fa_palaver_api_Msg_9 rfl rfl) ?_
                refine SxL.val (v := .agg #[.int .u8 (xc : Int), .string ⟨xt.toArray⟩]) ⟨_, _, rfl, rfl, rfl⟩ rfl rfl (fun ρ w E H => ex_load (part := [.int .u8 (xc : Int), .string ⟨xt.toArray⟩]) E (H.get (i := 0) rfl) rfl rfl Try.underlying43 rfl sz_palaver_api_Reply rfl rfl) ?_
                refine SxL.valB ⟨_, _, rfl, rfl, rfl⟩ rfl rfl (fun ρ w E H => ex_aeql E rfl (by kernel_rfl) rfl rfl (fun w => eq_ry mc xc mt xt w)) fun c57 hc57 => ?_
                refine SxL.val (v := .bool c57) trivial rfl rfl (fun ρ w E H => ex_pick E rfl (t := true) rfl rfl) ?_
                refine SxL.val (v := .bool c57) trivial rfl rfl (fun ρ w E H => ex_move E rfl rfl) ?_
                cases c57
                · refine SxL.off ⟨_, _, _, rfl, rfl, rfl, nofun⟩ rfl rfl ?_
                  refine SxL.off ⟨_, _, _, rfl, rfl, rfl, nofun⟩ rfl rfl ?_
                  refine SxL.off ⟨_, _, _, rfl, rfl, rfl, nofun⟩ rfl rfl ?_
                  refine SxL.off ⟨_, _, _, rfl, rfl, rfl, nofun⟩ rfl rfl ?_
                  refine SxL.off ⟨_, _, _, rfl, rfl, rfl, nofun⟩ rfl rfl ?_
                  refine SxL.val (v := .bool false) trivial rfl rfl (fun ρ w E H => ex_pick E rfl (t := false) rfl rfl) ?_
                  refine SxL.val (v := .bool false) trivial rfl rfl (fun ρ w E H => ex_move E rfl rfl) ?_
                  refine SxL.off ⟨_, _, _, rfl, rfl, rfl, nofun⟩ rfl rfl ?_
                  refine SxL.off ⟨_, _, _, rfl, rfl, rfl, nofun⟩ rfl rfl ?_
                  refine SxL.off ⟨_, _, _, rfl, rfl, rfl, nofun⟩ rfl rfl ?_
                  refine SxL.off ⟨_, _, _, rfl, rfl, rfl, nofun⟩ rfl rfl ?_
                  refine SxL.off ⟨_, _, _, rfl, rfl, rfl, nofun⟩ rfl rfl ?_
                  refine SxL.val (v := .bool false) trivial rfl rfl (fun ρ w E H => ex_pick E rfl (t := false) rfl rfl) ?_
                  refine SxL.val (v := .bool false) trivial rfl rfl (fun ρ w E H => ex_assign E rfl rfl) ?_
                  refine SxL.nil ?_
                  refine SxN.then_ ?_
                  refine SxC.ret ?_
                  refine SxX.done (.bool false) (fun a w K H => res1 K rfl rfl) (fun w H => ?_)
                  have hq : false = decide ((⟨mk, mn, mr, mb, ms, mo, mv, vl, il, ⟨ca, cb, ck, cs, ct, cu, cz⟩, mc, mt⟩ : Ms) = ⟨xk, xn, xr, xb, xs, xo, xv, wl, jl, ⟨da, db, dk, ds, dt, du, dz⟩, xc, xt⟩) := by clear H; grind [cmpB]
                  exact ⟨by rw [hq], H.toBelow ⟨(fun g hg => by rw [List.mem_singleton.1 hg]; exact hg2), (fun g hg => by rw [List.mem_singleton.1 hg]; exact hg1), trivial⟩⟩
                · refine SxL.val (v := .pointer (some ⟨g1, 7, none⟩)) ⟨_, _, rfl, rfl, rfl⟩ rfl rfl (fun ρ w E H => ex_field E rfl fa_palaver_api_Msg_6 rfl rfl) ?_
                  refine SxL.val (v := .slice A vl.length ka) ⟨_, _, rfl, rfl, rfl⟩ rfl rfl (fun ρ w E H => ex_load1 E (H.get (i := 1) rfl) rfl rfl Try.underlying40 rfl rfl) ?_
                  refine SxL.val (v := .pointer (some ⟨g2, 7, none⟩)) ⟨_, _, rfl, rfl, rfl⟩ rfl rfl (fun ρ w E H => ex_field E rfl fa_palaver_api_Msg_6 rfl rfl) ?_
                  refine SxL.val (v := .slice C wl.length kc) ⟨_, _, rfl, rfl, rfl⟩ rfl rfl (fun ρ w E H => ex_load1 E (H.get (i := 0) rfl) rfl rfl Try.underlying40 rfl rfl) ?_
                  refine SxL.callBB (b := (decide (vl = wl))) ⟨_, _, rfl, rfl, rfl⟩ rfl rfl (fun ρ w E => ex_call E en_slices_Equal_palaver_api_Vote_palaver_api_Vote rfl rfl) (fun w H => equalV vl wl A C ka kc w (hv.below (H.toBelow ⟨(fun g hg => by rw [List.mem_singleton.1 hg]; exact hg2), (fun g hg => by rw [List.mem_singleton.1 hg]; exact hg1), trivial⟩)) (hv2.below (H.toBelow ⟨(fun g hg => by rw [List.mem_singleton.1 hg]; exact hg2), (fun g hg => by rw [List.mem_singleton.1 hg]; exact hg1), trivial⟩)) hl1) fun c64 hc64 => ?_
                  refine SxL.val (v := .bool c64) trivial rfl rfl (fun ρ w E H => ex_pick E rfl (t := true) rfl rfl) ?_
                  refine SxL.val (v := .bool c64) trivial rfl rfl (fun ρ w E H => ex_move E rfl rfl) ?_
                  cases c64
                  · refine SxL.off ⟨_, _, _, rfl, rfl, rfl, nofun⟩ rfl rfl ?_
                    refine SxL.off ⟨_, _, _, rfl, rfl, rfl, nofun⟩ rfl rfl ?_
                    refine SxL.off ⟨_, _, _, rfl, rfl, rfl, nofun⟩ rfl rfl ?_
                    refine SxL.off ⟨_, _, _, rfl, rfl, rfl, nofun⟩ rfl rfl ?_
                    refine SxL.off ⟨_, _, _, rfl, rfl, rfl, nofun⟩ rfl rfl ?_
                    refine SxL.val (v := .bool false) trivial rfl rfl (fun ρ w E H => ex_pick E rfl (t := false) rfl rfl) ?_
                    refine SxL.val (v := .bool false) trivial rfl rfl (fun ρ w E H => ex_assign E rfl rfl) ?_
                    refine SxL.nil ?_
                    refine SxN.then_ ?_
                    refine SxC.ret ?_
                    refine SxX.done (.bool false) (fun a w K H => res1 K rfl rfl) (fun w H => ?_)
                    have hq : false = decide ((⟨mk, mn, mr, mb, ms, mo, mv, vl, il, ⟨ca, cb, ck, cs, ct, cu, cz⟩, mc, mt⟩ : Ms) = ⟨xk, xn, xr, xb, xs, xo, xv, wl, jl, ⟨da, db, dk, ds, dt, du, dz⟩, xc, xt⟩) := by clear H; grind [cmpB]
                    exact ⟨by rw [hq], H.toBelow ⟨(fun g hg => by rw [List.mem_singleton.1 hg]; exact hg2), (fun g hg => by rw [List.mem_singleton.1 hg]; exact hg1), trivial⟩⟩
                  · refine SxL.val (v := .pointer (some ⟨g1, 8, none⟩)) ⟨_, _, rfl, rfl, rfl⟩ rfl rfl (fun ρ w E H => ex_field E rfl fa_palaver_api_Msg_7 rfl rfl) ?_
                    refine SxL.val (v := .slice B il.length kb) ⟨_, _, rfl, rfl, rfl⟩ rfl rfl (fun ρ w E H => ex_load1 E (H.get (i := 1) rfl) rfl rfl Try.underlying41 rfl rfl) ?_
                    refine SxL.val (v := .pointer (some ⟨g2, 8, none⟩)) ⟨_, _, rfl, rfl, rfl⟩ rfl rfl (fun ρ w E H => ex_field E rfl fa_palaver_api_Msg_7 rfl rfl) ?_
                    refine SxL.val (v := .slice D jl.length kd) ⟨_, _, rfl, rfl, rfl⟩ rfl rfl (fun ρ w E H => ex_load1 E (H.get (i := 0) rfl) rfl rfl Try.underlying41 rfl rfl) ?_
                    refine SxL.callBB (b := (decide (il = jl))) ⟨_, _, rfl, rfl, rfl⟩ rfl rfl (fun ρ w E => ex_call E en_slices_Equal_palaver_api_Item_palaver_api_Item rfl rfl) (fun w H => equalI il jl B D kb kd w (hi.below (H.toBelow ⟨(fun g hg => by rw [List.mem_singleton.1 hg]; exact hg2), (fun g hg => by rw [List.mem_singleton.1 hg]; exact hg1), trivial⟩)) (hi2.below (H.toBelow ⟨(fun g hg => by rw [List.mem_singleton.1 hg]; exact hg2), (fun g hg => by rw [List.mem_singleton.1 hg]; exact hg1), trivial⟩)) hl2) fun c71 hc71 => ?_
                    refine SxL.val (v := .bool c71) trivial rfl rfl (fun ρ w E H => ex_pick E rfl (t := true) rfl rfl) ?_
                    refine SxL.val (v := .bool c71) trivial rfl rfl (fun ρ w E H => ex_assign E rfl rfl) ?_
                    refine SxL.nil ?_
                    refine SxN.then_ ?_
                    refine SxC.ret ?_
                    refine SxX.done (.bool c71) (fun a w K H => res1 K rfl rfl) (fun w H => ?_)
                    have hq : c71 = decide ((⟨mk, mn, mr, mb, ms, mo, mv, vl, il, ⟨ca, cb, ck, cs, ct, cu, cz⟩, mc, mt⟩ : Ms) = ⟨xk, xn, xr, xb, xs, xo, xv, wl, jl, ⟨da, db, dk, ds, dt, du, dz⟩, xc, xt⟩) := by
                      clear H
                      have e1 : mk = xk ∧ mb = xb ∧ ms = xs ∧ mo = xo ∧ mn = xn ∧ mr = xr ∧ mv = xv ∧ mc = xc ∧ mt = xt ∧ vl = wl := by clear hc50 hc71; grind [cmpB]
                      obtain ⟨rfl, rfl, rfl, rfl, rfl, rfl, rfl, rfl, rfl, rfl⟩ := e1
                      have e2 := of_decide_eq_true hc50
                      injection e2 with f1 f2 f3 f4 f5 f6 f7
                      subst f1 f2 f3 f4 f5 f6 f7
                      rw [← hc71]
                      simp
                    exact ⟨by rw [hq], H.toBelow ⟨(fun g hg => by rw [List.mem_singleton.1 hg]; exact hg2), (fun g hg => by rw [List.mem_singleton.1 hg]; exact hg1), trivial⟩⟩

theorem same_any (m x : Ms) (A B C D : Option Addr) (ka kb kc kd : Nat) (w : World) (h1 : MsRows w m A B) (h2 : MsRows w x C D) (hl1 : m.votes.length ≤ 1000000) (hl2 : m.items.length ≤ 1000000) :
    Calls Try.prog 42 #[msV m A ka B kb, msV x C kc D kd] w fun e w' => e = .returned (.bool (decide (m = x))) ∧ Below w.heap.size w w' := by
  obtain ⟨mk, mn, mr, mb, ms, mo, mv, vl, il, ⟨ca, cb, ck, cs, ct, cu, cz⟩, mc, mt⟩ := m
  obtain ⟨xk, xn, xr, xb, xs, xo, xv, wl, jl, ⟨da, db, dk, ds, dt, du, dz⟩, xc, xt⟩ := x
  exact same_lit _ _ _ _ _ _ _ _ _ _ _ _ _ _ _ _ _ _ _ _ _ _ _ _ _ _ _ _ _ _ _ _ _ _ _ _ _ _ _ _ _ _ _ _ w h1.hv h1.hi h2.hv h2.hi hl1 hl2
end Go.Proofs.Yteiaiilfekojfaa.Msg
end
section
set_option linter.unusedVariables false
set_option linter.unusedSimpArgs false
namespace Go.Proofs.Yteiaiilfekojfaa.Sx
open Go.RowKit DrawInv Wire
section
variable {P : Program} {ops : Array Oper} {Q Q' : Exit → Act → World → Prop} {n : Nat} {vs : Vs} {w0 : World} {L : List Ft} {o : Oper} {rest : List Oper}
theorem ex_convS {ρ : Operand → Value} {w : World} {src dst e : TypeId} {x : Operand} {v : Value} {base e' m : Nat} {xs : List Value} {l : List UInt8} (E : Env vs ρ) (ho : o.op = .convert src dst x) (hs : P.underlying src = some (.slice e)) (he : P.underlying e = some (.int .u8)) (hd : P.underlying dst = some .string)
    (hx : opv vs x = some v) (hown : w.ownsRow base e' 1 v m xs) (hxs : xs = bv l) : (execOp ρ o).run P w = .ok (.value (.string ⟨l.toArray⟩)) w := by
  subst hxs
  obtain ⟨A, c, rfl, hr⟩ := own_slice1 hown
  unfold execOp; rw [ho]
  simp only [E.ev hx, Sem.run_bind]
  rw [conv_str hs he hd c hr]
  rfl
/-- A call that hands back a row of one's own among other things. -/
theorem callOwnV {f : Nat} {args : Array Value} {e : TypeId} {sz m : Nat} {xs : List Value} (vf : Value → Value) (hc : ∀ w, Hp w0 L w → Calls P f args w fun E w' => ∃ v', E = .returned (vf v') ∧ w'.ownsRow w.heap.size e sz v' m xs ∧ Below w.heap.size w w') :
    ∀ w, Hp w0 L w → Calls P f args w fun E w' => ∃ s : Value, E = .returned (vf s) ∧ OwnIn w0 [] s ∧ Hp w0 (rowX [] w0.heap.size e sz s m xs :: L) w' := fun w H => (hc w H).mono fun E w' ⟨v', he, hown, hb⟩ =>
  ⟨v', he, fun g hg => .inr (Nat.le_trans H.os.size (own_lt hown g hg).1), H.add hb _ (rowX_loc _ _ _ _ _ _ _) (fun g hg => ⟨(own_lt hown g (by simpa [rowX] using hg)).2, (own_lt hown g (by simpa [rowX] using hg)).1⟩) (own_base hown H.os.size)⟩
theorem own_new1 {w : World} {base g e : Nat} {v : Value} (h : (cell g e [v]).φ w) (hg : base ≤ g) : w.ownsRow base e 1 (.slice (some ⟨g, 0, none⟩) 1 1) 1 [v] :=
  ⟨by simp, .inr ⟨g, 1, #[v], rfl, hg, h, Nat.le_refl _, by decide, by simp, by simp⟩⟩
end
end Go.Proofs.Yteiaiilfekojfaa.Sx
namespace Go.Proofs.Yteiaiilfekojfaa.Msg
open Go.RowKit Wire Sx DrawInv
structure PS where
  A : Option Addr
  c : Nat
  gb : Nat
  q : List (Pt × Nat)
theorem call_parts {w0 : World} {L : List Ft} (k : Nat) : ∀ w, Hp w0 L w → Calls Try.prog 36 #[.int .u8 (k : Int)] w fun E w' => ∃ s : PS, E = .returned (.slice s.A s.q.length s.c) ∧ ((s.q.map (·.1) = partsOf k ∧ (s.q ≠ [] → s.A = some ⟨s.gb, 0, none⟩)) ∧ ∀ g ∈ (partsF s.gb s.q).fp, w0.heap.size ≤ g) ∧ Hp w0 (partsF s.gb s.q :: L) w' :=
  callNew (fun s : PS => .slice s.A s.q.length s.c) (fun s => s.q.map (·.1) = partsOf k ∧ (s.q ≠ [] → s.A = some ⟨s.gb, 0, none⟩)) (fun s => partsF s.gb s.q) (fun s => partsF_loc _ _) fun w H => (parts_any k w).mono fun E w' ⟨A, c, gb, q, h1, h2, h3, h4, h5, h6⟩ => ⟨⟨A, c, gb, q⟩, h1, ⟨h2, h3⟩, h4, h5, h6⟩
theorem own_read {α : Type} {w : World} {base e sz n c : Nat} {A : Option Addr} {cells : α → List Value} {l : List α} (hc : ∀ x, (cells x).length = sz) (hs : 0 < sz) (h : w.ownsRow base e sz (.slice A n c) l.length (l.flatMap cells)) : Rows w A sz cells l := by
  obtain ⟨A', c', e', _, hr⟩ := own_rows hc hs h
  injection e' with e1 e2 e3
  subst e1
  exact hr
theorem made_rows {w : World} {base g n n' k k' : Nat} {a : Ms} {A B : Option Addr} (h : (madeF base g a (.slice A n k) (.slice B n' k')).φ w) : MsRows w a A B :=
  ⟨own_read voL_len (by decide) h.2.1, own_read imL_len (by decide) h.2.2⟩
/-- The inside as far as the part k. -/
def insB (m : Ms) (k : Nat) : List UInt8 := UInt8.ofNat m.kind :: ((partsOf m.kind).take k).flatMap (·.put m)
theorem insB_succ {m : Ms} {k : Nat} {p : Pt} (h : (partsOf m.kind)[k]? = some p) : insB m (k + 1) = insB m k ++ p.put m := by
  unfold insB; rw [take_snoc h, List.flatMap_append]; simp
theorem insB_end {m : Ms} {k : Nat} (h : (partsOf m.kind).length ≤ k) : insB m k = insideB m := by unfold insB insideB; rw [List.take_of_length_le h]
theorem oneB_len (c : Cmd.Cm) (hc : c.Fits) (h1 : c.key.length ≤ 1000) (h2 : c.old.length ≤ 1000) (h3 : c.new.length ≤ 1000) : (Cmd.oneB c).length ≤ 10000 := by
  unfold Cmd.oneB
  have a := (numB_length c.seq (by have := hc.h2; omega)).1
  have b := strB_len c.key (by omega)
  have d := strB_len c.old (by omega)
  have e := strB_len c.new (by omega)
  simp only [List.length_cons, List.length_append, List.length_nil]
  omega
theorem put_len (p : Pt) (m : Ms) (hf : m.Fits) (hs : m.Small) : (p.put m).length ≤ 410000 := by
  have s1 := hs.h1
  have s2 := hs.h2
  have s3 := hs.h3
  have s9 := hs.h9
  have s10 := hs.h10
  have s11 := hs.h11
  cases p with
  | cmd => have := oneB_len m.cmd hf.h9 hs.h6 hs.h7 hs.h8; show (Cmd.oneB m.cmd).length ≤ _; omega
  | name => have := (numB_length m.cmd.seq (by have := hf.h9.h2; omega)).1; show (_ :: numB m.cmd.seq).length ≤ _; rw [List.length_cons]; omega
  | reply => have := strB_len m.text (by omega); show (_ :: strB m.text).length ≤ _; rw [List.length_cons]; omega
  | node => show ([_] : List UInt8).length ≤ _; simp
  | turn => have := bal_len m.bn m.br hf.h2; show (Bal.balB _).length ≤ _; omega
  | floor => have := (numB_length m.base hf.h4).1; show (numB m.base).length ≤ _; omega
  | slot l => have := (numB_length m.slot hf.h5).1; show (numB m.slot).length ≤ _; omega
  | value => have := strB_len m.value (by omega); show (strB m.value).length ≤ _; omega
  | votes => have := (numB_length m.votes.length (by omega)).1; show (numB _ ++ _).length ≤ _; rw [List.length_append]; omega
  | items => have := (numB_length m.items.length (by omega)).1; show (numB _ ++ _).length ≤ _; rw [List.length_append]; omega
theorem parts_none (k : Nat) (h : 14 ≤ k) : partsOf k = [] := by
  unfold partsOf
  repeat rw [if_neg (by omega)]
theorem parts_two (k : Nat) : ((partsOf k).filter (fun p => decide (p = .votes ∨ p = .items))).length ≤ 1 ∧ (partsOf k).length ≤ 4 := by
  by_cases h : k < 14
  · have hd : ∀ k : Nat, k < 14 → ((partsOf k).filter (fun p => decide (p = .votes ∨ p = .items))).length ≤ 1 ∧ (partsOf k).length ≤ 4 := by decide
    exact hd k h
  · rw [parts_none k (by omega)]
    decide
theorem put_len2 (p : Pt) (m : Ms) (hf : m.Fits) (hs : m.Small) (hp : ¬ (p = .votes ∨ p = .items)) : (p.put m).length ≤ 110000 := by
  have s1 := hs.h1
  have s9 := hs.h9
  cases p with
  | cmd => have := oneB_len m.cmd hf.h9 hs.h6 hs.h7 hs.h8; show (Cmd.oneB m.cmd).length ≤ _; omega
  | name => have := (numB_length m.cmd.seq (by have := hf.h9.h2; omega)).1; show (_ :: numB m.cmd.seq).length ≤ _; rw [List.length_cons]; omega
  | reply => have := strB_len m.text (by omega); show (_ :: strB m.text).length ≤ _; rw [List.length_cons]; omega
  | node => show ([_] : List UInt8).length ≤ _; simp
  | turn => have := bal_len m.bn m.br hf.h2; show (Bal.balB _).length ≤ _; omega
  | floor => have := (numB_length m.base hf.h4).1; show (numB m.base).length ≤ _; omega
  | slot l => have := (numB_length m.slot hf.h5).1; show (numB m.slot).length ≤ _; omega
  | value => have := strB_len m.value (by omega); show (strB m.value).length ≤ _; omega
  | votes => exact absurd (.inl rfl) hp
  | items => exact absurd (.inr rfl) hp
theorem sum_len (m : Ms) (hf : m.Fits) (hs : m.Small) : ∀ l : List Pt, (l.flatMap (·.put m)).length ≤ 410000 * (l.filter (fun p => decide (p = .votes ∨ p = .items))).length + 110000 * l.length
  | [] => by simp
  | p :: l => by
    have ih := sum_len m hf hs l
    rw [List.flatMap_cons, List.length_append, List.length_cons, List.filter_cons]
    by_cases hp : p = .votes ∨ p = .items
    · have := put_len p m hf hs
      rw [if_pos (by simpa using hp), List.length_cons]
      omega
    · have := put_len2 p m hf hs hp
      rw [if_neg (by simpa using hp)]
      omega
theorem insB_len (m : Ms) (hf : m.Fits) (hs : m.Small) (k : Nat) : (insB m k).length ≤ 1000000 := by
  have h1 := sum_len m hf hs (partsOf m.kind)
  have h2 := parts_two m.kind
  have h3 := flat_take (fun p : Pt => p.put m) (partsOf m.kind) k
  unfold insB
  rw [List.length_cons]
  have : ((partsOf m.kind).take k).flatMap (fun p => p.put m) = ((partsOf m.kind).take k).flatMap (·.put m) := rfl
  omega
/-- What frame.Put answers. -/
def fpB (s : List UInt8) : List UInt8 × Nat := if s.length ≤ 65536 then (Frame.frameB s, 0) else ([], 6)
theorem fpB_bad (s : List UInt8) (h : (fpB s).2 ≠ 0) : fpB s = ([], (fpB s).2) := by
  unfold fpB at *
  split
  · rename_i h1; rw [if_pos h1] at h; exact absurd rfl h
  · rfl
theorem fput_any (s : List UInt8) (h1 : 0 < s.length) (h2 : s.length ≤ 1000000) (w : World) : Calls Try.prog 37 #[.slice none 0 0, .string ⟨s.toArray⟩] w fun E w' => ∃ v', E = .returned (.tuple #[v', .int .i64 ((fpB s).2 : Int)]) ∧ w'.ownsRow w.heap.size 5 1 v' (fpB s).1.length (bv (fpB s).1) ∧ Below w.heap.size w w' := by
  have hr : Reads w w.heap.size 1 none 0 (bv []) := ⟨rfl, fun h => absurd h (by decide)⟩
  unfold fpB
  by_cases h : s.length ≤ 65536
  · rw [if_pos h]
    exact Frame.fput_ok none 0 [] s (by simp) h1 h w hr
  · rw [if_neg h]
    exact Frame.fput_bad none 0 [] s (by simp) (.inr (by omega)) w hr
theorem putM_is (m : Ms) (h : checkB m = true) : putM m = fpB (insideB m) := by unfold putM fpB; rw [if_pos h]
end Go.Proofs.Yteiaiilfekojfaa.Msg
end
section
set_option linter.unusedVariables false
set_option linter.unusedSimpArgs false
namespace Go.Proofs.Yteiaiilfekojfaa.Msg
open Go.RowKit Sx Wire DrawInv
set_option maxRecDepth 100000 in
set_option maxHeartbeats 4000000 in
theorem check_lit (mk mn mr mb ms mo ca cb ck cz mc : Nat) (mv cs ct cu mt : List UInt8) (vl : List Vo) (il : List Im) (A B : Option Addr) (ka kb : Nat) (w : World) (hf : Ms.Fits ⟨mk, mn, mr, mb, ms, mo, mv, vl, il, ⟨ca, cb, ck, cs, ct, cu, cz⟩, mc, mt⟩) (hs : Ms.Small ⟨mk, mn, mr, mb, ms, mo, mv, vl, il, ⟨ca, cb, ck, cs, ct, cu, cz⟩, mc, mt⟩) (hr : MsRows w ⟨mk, mn, mr, mb, ms, mo, mv, vl, il, ⟨ca, cb, ck, cs, ct, cu, cz⟩, mc, mt⟩ A B) : Calls Try.prog 27 #[.agg #[.int .u8 (mk : Int), .int .u64 (mn : Int), .int .u8 (mr : Int), .int .u64 (mb : Int), .int .u64 (ms : Int), .int .u8 (mo : Int), .string ⟨mv.toArray⟩, .slice A vl.length ka, .slice B il.length kb, .int .u8 (ca : Int), .int .u32 (cb : Int), .int .u8 (ck : Int), .string ⟨cs.toArray⟩, .string ⟨ct.toArray⟩, .string ⟨cu.toArray⟩, .int .u8 (cz : Int), .int .u8 (mc : Int), .string ⟨mt.toArray⟩]] w fun e w' => e = .returned (.int .i64 (if checkB ⟨mk, mn, mr, mb, ms, mo, mv, vl, il, ⟨ca, cb, ck, cs, ct, cu, cz⟩, mc, mt⟩ then 0 else 2)) ∧ Below w.heap.size w w' := by
  refine sx_enter (n := 36) [.agg #[.int .u8 (mk : Int), .int .u64 (mn : Int), .int .u8 (mr : Int), .int .u64 (mb : Int), .int .u64 (ms : Int), .int .u8 (mo : Int), .string ⟨mv.toArray⟩, .slice A vl.length ka, .slice B il.length kb, .int .u8 (ca : Int), .int .u32 (cb : Int), .int .u8 (ck : Int), .string ⟨cs.toArray⟩, .string ⟨ct.toArray⟩, .string ⟨cu.toArray⟩, .int .u8 (cz : Int), .int .u8 (mc : Int), .string ⟨mt.toArray⟩]] Try.func27 rfl rfl rfl (Hp.start w) ?_
  refine SxC.seq ?_
  refine SxC.region ?_
  refine SxL.new (cs := [.int .u8 (mk : Int), .int .u64 (mn : Int), .int .u8 (mr : Int), .int .u64 (mb : Int), .int .u64 (ms : Int), .int .u8 (mo : Int), .string ⟨mv.toArray⟩, .slice A vl.length ka, .slice B il.length kb, .int .u8 (ca : Int), .int .u32 (cb : Int), .int .u8 (ck : Int), .string ⟨cs.toArray⟩, .string ⟨ct.toArray⟩, .string ⟨cu.toArray⟩, .int .u8 (cz : Int), .int .u8 (mc : Int), .string ⟨mt.toArray⟩]) trivial rfl rfl (fun ρ w E H => ex_box E rfl rfl rfl) fun g1 hg1 => ?_
  refine SxL.val (v := .int .i64 0) trivial rfl rfl (fun ρ w E H => ex_assign E rfl rfl) ?_
  refine SxL.nil ?_
  refine SxN.then_ ?_
  refine SxC.seq ?_
  refine SxC.region ?_
  refine SxL.val (v := .pointer (some ⟨g1, 0, none⟩)) trivial rfl rfl (fun ρ w E H => ex_field E rfl fa_palaver_api_Msg_0 rfl rfl) ?_
  refine SxL.val (v := .int .u8 (mk : Int)) trivial rfl rfl (fun ρ w E H => ex_load1 E (H.get (i := 0) rfl) rfl rfl Try.underlying5 rfl rfl) ?_
  refine SxL.call (σ := PS) (fun s => .slice s.A (List.length s.q) s.c) (fun s => _) (fun s => _) trivial rfl rfl (fun ρ w E => ex_call E en_palaver_msg_parts rfl rfl) (call_parts mk) fun s hs_ => ?_
  obtain ⟨pA, pc, gb, q⟩ := s
  obtain ⟨⟨hq, hpA⟩, hpf⟩ := hs_
  dsimp only at hq hpA hpf
  refine SxL.val (v := .slice pA q.length pc) trivial rfl rfl (fun ρ w E H => ex_assign E rfl rfl) ?_
  refine SxL.nil ?_
  refine SxN.then_ ?_
  refine SxC.seq ?_
  refine SxC.seq ?_
  refine SxC.region ?_
  refine SxL.val (v := .slice pA q.length pc) trivial rfl rfl (fun ρ w E H => ex_move E rfl rfl) ?_
  refine SxL.val (v := .int .i64 (q.length : Int)) trivial rfl rfl (fun ρ w E H => ex_lenS E rfl Try.underlying88 rfl) ?_
  refine SxL.valB trivial rfl rfl (fun ρ w E H => ex_cmp E rfl rfl rfl rfl rfl) fun c12 hc12 => ?_
  refine SxL.nil ?_
  refine SxN.then_ ?_
  cases c12
  · refine SxC.condF rfl ?_
    refine SxC.skip ?_
    refine SxN.then_ ?_
    refine SxC.seq ?_
    refine SxC.region ?_
    refine SxL.val (v := .pointer (some ⟨g1, 0, none⟩)) trivial rfl rfl (fun ρ w E H => ex_field E rfl fa_palaver_api_Msg_0 rfl rfl) ?_
    refine SxL.val (v := .int .u8 (mk : Int)) trivial rfl rfl (fun ρ w E H => ex_load1 E (H.get (i := 1) rfl) rfl rfl Try.underlying5 rfl rfl) ?_
    refine SxL.val (v := .agg #[.int .u8 (mk : Int), .int .u64 0, .int .u8 0, .int .u64 0, .int .u64 0, .int .u8 0, .string ⟨[].toArray⟩, .slice none 0 0, .slice none 0 0, .int .u8 0, .int .u32 0, .int .u8 0, .string ⟨[].toArray⟩, .string ⟨[].toArray⟩, .string ⟨[].toArray⟩, .int .u8 0, .int .u8 0, .string ⟨[].toArray⟩]) trivial rfl rfl (fun ρ w E H => ex_build (cs := [.int .u8 (mk : Int), .int .u64 0, .int .u8 0, .int .u64 0, .int .u64 0, .int .u8 0, .string ⟨[].toArray⟩, .slice none 0 0, .slice none 0 0, .int .u8 0, .int .u32 0, .int .u8 0, .string ⟨[].toArray⟩, .string ⟨[].toArray⟩, .string ⟨[].toArray⟩, .int .u8 0, .int .u8 0, .string ⟨[].toArray⟩]) E rfl rfl (by kernel_rfl)) ?_
    refine SxL.new (cs := [.int .u8 0, .int .u64 0, .int .u8 0, .int .u64 0, .int .u64 0, .int .u8 0, .string ⟨[].toArray⟩, .slice none 0 0, .slice none 0 0, .int .u8 0, .int .u32 0, .int .u8 0, .string ⟨[].toArray⟩, .string ⟨[].toArray⟩, .string ⟨[].toArray⟩, .int .u8 0, .int .u8 0, .string ⟨[].toArray⟩]) trivial rfl rfl (fun ρ w E H => ex_alloc rfl zr_palaver_api_Msg rfl) fun g2 hg2 => ?_
    refine SxL.store (i := 0) trivial rfl rfl rfl rfl rfl sz_palaver_api_Msg rfl rfl rfl ?_
    refine SxL.nil ?_
    refine SxN.then_ ?_
    refine SxC.seq ?_
    refine SxC.seq ?_
    refine SxC.region ?_
    refine SxL.val (v := .slice pA q.length pc) trivial rfl rfl (fun ρ w E H => ex_move E rfl rfl) ?_
    refine SxL.val (v := .int .i64 (q.length : Int)) trivial rfl rfl (fun ρ w E H => ex_lenS E rfl Try.underlying88 rfl) ?_
    refine SxL.val (v := .int .i64 0) trivial rfl rfl (fun ρ w E H => ex_move E rfl rfl) ?_
    refine SxL.nil ?_
    refine SxN.then_ ?_
    refine SxC.block ?_
    refine SxC.hp (fun W H => H.re (i := 0) rfl (madeF w.heap.size g2 (ms0 mk) (.slice none 0 0) (.slice none 0 0)) (madeF_loc _ _ _ _ _) rfl (fun h => made_new (k := mk) h)) ?_
    refine SxC.loop4 (fun (k : Nat) (a : Ms) (V : Value) (I : Value) => [(1, .pointer (some ⟨g1, 0, none⟩)), (2, .int .i64 0), (3, .slice pA q.length pc), (4, .pointer (some ⟨g2, 0, none⟩)), (16, .slice pA q.length pc), (17, .int .i64 (q.length : Int)), (18, .int .i64 (k : Int))]) (fun (k : Nat) (a : Ms) (V : Value) (I : Value) => [madeF w.heap.size g2 a V I, partsF gb q, cell g1 45 [.int .u8 (mk : Int), .int .u64 (mn : Int), .int .u8 (mr : Int), .int .u64 (mb : Int), .int .u64 (ms : Int), .int .u8 (mo : Int), .string ⟨mv.toArray⟩, .slice A vl.length ka, .slice B il.length kb, .int .u8 (ca : Int), .int .u32 (cb : Int), .int .u8 (ck : Int), .string ⟨cs.toArray⟩, .string ⟨ct.toArray⟩, .string ⟨cu.toArray⟩, .int .u8 (cz : Int), .int .u8 (mc : Int), .string ⟨mt.toArray⟩]]) (fun (gk : Nat) (k : Nat) (a : Ms) (V : Value) (I : Value) => k + gk = q.length ∧ a = moved ((partsOf mk).take k) ⟨mk, mn, mr, mb, ms, mo, mv, vl, il, ⟨ca, cb, ck, cs, ct, cu, cz⟩, mc, mt⟩ ∧ ((partsOf mk).take k).all (fun p => p.may ⟨mk, mn, mr, mb, ms, mo, mv, vl, il, ⟨ca, cb, ck, cs, ct, cu, cz⟩, mc, mt⟩) = true ∧ OwnIn w [] V ∧ OwnIn w [] I) q.length 0 (ms0 mk) (.slice none 0 0) (.slice none 0 0) ⟨by omega, rfl, rfl, own_none w, own_none w⟩ ⟨rfl, rfl, rfl, rfl, rfl, rfl, rfl, trivial⟩ [0, 1, 2] rfl (by decide) ⟨.inl rfl, .inl rfl, .inl rfl, trivial⟩ fun gk k a V I hF => ?_
    obtain ⟨hkg, ha, hall, hV, hI⟩ := hF
    refine SxC.seq ?_
    refine SxC.region ?_
    refine SxL.valB trivial rfl rfl (fun ρ w E H => ex_cmp E rfl rfl rfl rfl rfl) fun c19 hc19 => ?_
    refine SxL.nil ?_
    refine SxN.then_ ?_
    refine SxC.seq ?_
    cases c19
    · refine SxC.condF rfl ?_
      refine SxC.exit ?_
      refine SxX.thenE ?_
      refine SxX.thenE ?_
      refine SxX.blockE ?_
      refine SxN.then_ ?_
      refine SxC.seq ?_
      refine SxC.seq ?_
      refine SxC.with (fun W H => own_is_slice (H.get (i := 0) rfl : (madeF _ _ _ _ _).φ W).2.1) ?_
      rintro ⟨A2, k2, rfl⟩
      refine SxC.with (fun W H => own_is_slice (H.get (i := 0) rfl : (madeF _ _ _ _ _).φ W).2.2) ?_
      rintro ⟨B2, l2, rfl⟩
      refine SxC.region ?_
      refine SxL.val (v := .agg #[.int .u8 (mk : Int), .int .u64 (mn : Int), .int .u8 (mr : Int), .int .u64 (mb : Int), .int .u64 (ms : Int), .int .u8 (mo : Int), .string ⟨mv.toArray⟩, .slice A vl.length ka, .slice B il.length kb, .int .u8 (ca : Int), .int .u32 (cb : Int), .int .u8 (ck : Int), .string ⟨cs.toArray⟩, .string ⟨ct.toArray⟩, .string ⟨cu.toArray⟩, .int .u8 (cz : Int), .int .u8 (mc : Int), .string ⟨mt.toArray⟩]) trivial rfl rfl (fun ρ w E H => ex_load (part := [.int .u8 (mk : Int), .int .u64 (mn : Int), .int .u8 (mr : Int), .int .u64 (mb : Int), .int .u64 (ms : Int), .int .u8 (mo : Int), .string ⟨mv.toArray⟩, .slice A vl.length ka, .slice B il.length kb, .int .u8 (ca : Int), .int .u32 (cb : Int), .int .u8 (ck : Int), .string ⟨cs.toArray⟩, .string ⟨ct.toArray⟩, .string ⟨cu.toArray⟩, .int .u8 (cz : Int), .int .u8 (mc : Int), .string ⟨mt.toArray⟩]) E (H.get (i := 2) rfl) rfl rfl Try.underlying45 rfl sz_palaver_api_Msg rfl rfl) ?_
      refine SxL.val (v := .agg #[.int .u8 (a.kind : Int), .int .u64 (a.bn : Int), .int .u8 (a.br : Int), .int .u64 (a.base : Int), .int .u64 (a.slot : Int), .int .u8 (a.node : Int), .string ⟨a.value.toArray⟩, .slice A2 a.votes.length k2, .slice B2 a.items.length l2, .int .u8 (a.cmd.client : Int), .int .u32 (a.cmd.seq : Int), .int .u8 (a.cmd.kind : Int), .string ⟨a.cmd.key.toArray⟩, .string ⟨a.cmd.old.toArray⟩, .string ⟨a.cmd.new.toArray⟩, .int .u8 (a.cmd.set : Int), .int .u8 (a.code : Int), .string ⟨a.text.toArray⟩]) trivial rfl rfl (fun ρ w E H => ex_load (cs := msL a (.slice A2 a.votes.length k2) (.slice B2 a.items.length l2)) (part := msL a (.slice A2 a.votes.length k2) (.slice B2 a.items.length l2)) E ((H.get (i := 0) rfl : (madeF _ _ _ _ _).φ w).1) rfl rfl Try.underlying45 rfl sz_palaver_api_Msg rfl rfl) ?_
      refine SxL.callBB (b := (decide (⟨mk, mn, mr, mb, ms, mo, mv, vl, il, ⟨ca, cb, ck, cs, ct, cu, cz⟩, mc, mt⟩ = a))) trivial rfl rfl (fun ρ w E => ex_call E en_palaver_msg_Same rfl rfl) (fun w H => same_any ⟨mk, mn, mr, mb, ms, mo, mv, vl, il, ⟨ca, cb, ck, cs, ct, cu, cz⟩, mc, mt⟩ a A B A2 B2 ka kb k2 l2 w (hr.below (H.toBelow ⟨(made_fresh hg2 hV hI), hpf, (fun g hg => by rw [List.mem_singleton.1 hg]; exact hg1), trivial⟩)) (made_rows (H.get (i := 0) rfl)) (Nat.le_trans hs.h2 (by decide)) (Nat.le_trans hs.h3 (by decide))) fun c34 hc34 => ?_
      cases c34
      · refine SxL.val (v := .bool true) trivial rfl rfl (fun ρ w E H => ex_not (t := false) E rfl rfl) ?_
        refine SxL.nil ?_
        refine SxN.then_ ?_
        refine SxC.condT rfl ?_
        refine SxC.seq ?_
        refine SxC.region ?_
        refine SxL.val (v := .int .i64 2) trivial rfl rfl (fun ρ w E H => ex_assign E rfl rfl) ?_
        refine SxL.nil ?_
        refine SxN.then_ ?_
        refine SxC.ret ?_
        refine SxX.thenR ?_
        refine SxX.done (.int .i64 2) (fun a w K H => res1 K rfl rfl) (fun w H => ?_)
        have hq2 : (2 : Int) = (if checkB ⟨mk, mn, mr, mb, ms, mo, mv, vl, il, ⟨ca, cb, ck, cs, ct, cu, cz⟩, mc, mt⟩ then 0 else 2) := by
          clear H
          have hle : q.length ≤ k := by have h := hc19; simp [cmpB] at h; omega
          have hl2 : (partsOf mk).length ≤ k := by rw [← hq, List.length_map]; exact hle
          rw [List.take_of_length_le hl2] at ha hall
          have hne : (partsOf mk).isEmpty = false := by rw [← hq]; cases q with | nil => simp [cmpB] at hc12 | cons x l => rfl
          have hck : checkB ⟨mk, mn, mr, mb, ms, mo, mv, vl, il, ⟨ca, cb, ck, cs, ct, cu, cz⟩, mc, mt⟩ = decide (⟨mk, mn, mr, mb, ms, mo, mv, vl, il, ⟨ca, cb, ck, cs, ct, cu, cz⟩, mc, mt⟩ = a) := by rw [ha]; show (!(partsOf mk).isEmpty && ((partsOf mk).all (fun p => p.may ⟨mk, mn, mr, mb, ms, mo, mv, vl, il, ⟨ca, cb, ck, cs, ct, cu, cz⟩, mc, mt⟩) && decide (⟨mk, mn, mr, mb, ms, mo, mv, vl, il, ⟨ca, cb, ck, cs, ct, cu, cz⟩, mc, mt⟩ = moved (partsOf mk) ⟨mk, mn, mr, mb, ms, mo, mv, vl, il, ⟨ca, cb, ck, cs, ct, cu, cz⟩, mc, mt⟩))) = _; rw [hne, hall]; rfl
          rw [hck, hc34]; rfl
        exact ⟨congrArg (fun z => Ending.returned (.int .i64 z)) hq2, H.toBelow ⟨(made_fresh hg2 hV hI), hpf, (fun g hg => by rw [List.mem_singleton.1 hg]; exact hg1), trivial⟩⟩
      · refine SxL.val (v := .bool false) trivial rfl rfl (fun ρ w E H => ex_not (t := true) E rfl rfl) ?_
        refine SxL.nil ?_
        refine SxN.then_ ?_
        refine SxC.condF rfl ?_
        refine SxC.skip ?_
        refine SxN.then_ ?_
        refine SxC.seq ?_
        refine SxC.region ?_
        refine SxL.val (v := .int .i64 0) trivial rfl rfl (fun ρ w E H => ex_assign E rfl rfl) ?_
        refine SxL.nil ?_
        refine SxN.then_ ?_
        refine SxC.ret ?_
        refine SxX.done (.int .i64 0) (fun a w K H => res1 K rfl rfl) (fun w H => ?_)
        have hq2 : (0 : Int) = (if checkB ⟨mk, mn, mr, mb, ms, mo, mv, vl, il, ⟨ca, cb, ck, cs, ct, cu, cz⟩, mc, mt⟩ then 0 else 2) := by
          clear H
          have hle : q.length ≤ k := by have h := hc19; simp [cmpB] at h; omega
          have hl2 : (partsOf mk).length ≤ k := by rw [← hq, List.length_map]; exact hle
          rw [List.take_of_length_le hl2] at ha hall
          have hne : (partsOf mk).isEmpty = false := by rw [← hq]; cases q with | nil => simp [cmpB] at hc12 | cons x l => rfl
          have hck : checkB ⟨mk, mn, mr, mb, ms, mo, mv, vl, il, ⟨ca, cb, ck, cs, ct, cu, cz⟩, mc, mt⟩ = decide (⟨mk, mn, mr, mb, ms, mo, mv, vl, il, ⟨ca, cb, ck, cs, ct, cu, cz⟩, mc, mt⟩ = a) := by rw [ha]; show (!(partsOf mk).isEmpty && ((partsOf mk).all (fun p => p.may ⟨mk, mn, mr, mb, ms, mo, mv, vl, il, ⟨ca, cb, ck, cs, ct, cu, cz⟩, mc, mt⟩) && decide (⟨mk, mn, mr, mb, ms, mo, mv, vl, il, ⟨ca, cb, ck, cs, ct, cu, cz⟩, mc, mt⟩ = moved (partsOf mk) ⟨mk, mn, mr, mb, ms, mo, mv, vl, il, ⟨ca, cb, ck, cs, ct, cu, cz⟩, mc, mt⟩))) = _; rw [hne, hall]; rfl
          rw [hck, hc34]; rfl
        exact ⟨congrArg (fun z => Ending.returned (.int .i64 z)) hq2, H.toBelow ⟨(made_fresh hg2 hV hI), hpf, (fun g hg => by rw [List.mem_singleton.1 hg]; exact hg1), trivial⟩⟩
    · refine SxC.condT rfl ?_
      refine SxC.skip ?_
      refine SxN.then_ ?_
      refine SxC.seq ?_
      refine SxC.block ?_
      refine SxC.seq ?_
      have hkl : k < q.length := by have h := hc19; simp [cmpB] at h; omega
      obtain ⟨⟨p, gc⟩, hx⟩ : ∃ x, q[k]? = some x := ⟨_, List.getElem?_eq_getElem hkl⟩
      obtain rfl := hpA (by rintro rfl; cases hx)
      have hp : (partsOf mk)[k]? = some p := by rw [← hq, List.getElem?_map, hx]; rfl
      have hql : q.length ≤ 4 := by have h := (parts_two mk).2; rw [← hq, List.length_map] at h; exact h
      refine SxC.region ?_
      refine SxL.val (v := .pointer (some ((⟨gb, 0, none⟩ : Addr).add (k * 4)))) trivial rfl rfl (fun ρ w E H => ex_index (i := k) E rfl Try.underlying88 sz_palaver_msg_part rfl rfl hkl) ?_
      refine SxL.val (v := .agg #[.func (.func p.putF) #[] #[], .func (.func p.takeF) #[] #[], .func (.func p.moveF) #[] #[], .func (.func p.mayF) #[] (p.cap gc).toArray]) trivial rfl rfl (fun ρ w E H => ex_loadX (cs := [.func (.func p.putF) #[] #[], .func (.func p.takeF) #[] #[], .func (.func p.moveF) #[] #[], .func (.func p.mayF) #[] (p.cap gc).toArray]) E (parts_row (H.get (i := 1) rfl) hx) rfl rfl Try.underlying94 rfl sz_palaver_msg_part) ?_
      refine SxL.new (cs := [.nilFunc, .nilFunc, .nilFunc, .nilFunc]) trivial rfl rfl (fun ρ w E H => ex_alloc rfl zr_palaver_msg_part rfl) fun g3 hg3 => ?_
      refine SxL.store (i := 0) trivial rfl rfl rfl rfl rfl sz_palaver_msg_part rfl rfl rfl ?_
      refine SxL.nil ?_
      refine SxN.then_ ?_
      refine SxC.seq ?_
      refine SxC.seq ?_
      refine SxC.region ?_
      refine SxL.val (v := .pointer (some ⟨g3, 3, none⟩)) trivial rfl rfl (fun ρ w E H => ex_field E rfl fa_palaver_msg_part_3 rfl rfl) ?_
      refine SxL.val (v := .func (.func p.mayF) #[] (p.cap gc).toArray) trivial rfl rfl (fun ρ w E H => ex_load1 E (H.get (i := 0) rfl) rfl rfl Try.underlying70 rfl rfl) ?_
      refine SxL.val (v := .agg #[.int .u8 (mk : Int), .int .u64 (mn : Int), .int .u8 (mr : Int), .int .u64 (mb : Int), .int .u64 (ms : Int), .int .u8 (mo : Int), .string ⟨mv.toArray⟩, .slice A vl.length ka, .slice B il.length kb, .int .u8 (ca : Int), .int .u32 (cb : Int), .int .u8 (ck : Int), .string ⟨cs.toArray⟩, .string ⟨ct.toArray⟩, .string ⟨cu.toArray⟩, .int .u8 (cz : Int), .int .u8 (mc : Int), .string ⟨mt.toArray⟩]) trivial rfl rfl (fun ρ w E H => ex_load (part := [.int .u8 (mk : Int), .int .u64 (mn : Int), .int .u8 (mr : Int), .int .u64 (mb : Int), .int .u64 (ms : Int), .int .u8 (mo : Int), .string ⟨mv.toArray⟩, .slice A vl.length ka, .slice B il.length kb, .int .u8 (ca : Int), .int .u32 (cb : Int), .int .u8 (ck : Int), .string ⟨cs.toArray⟩, .string ⟨ct.toArray⟩, .string ⟨cu.toArray⟩, .int .u8 (cz : Int), .int .u8 (mc : Int), .string ⟨mt.toArray⟩]) E (H.get (i := 3) rfl) rfl rfl Try.underlying45 rfl sz_palaver_api_Msg rfl rfl) ?_
      refine SxL.callBB (b := Pt.may p ⟨mk, mn, mr, mb, ms, mo, mv, vl, il, ⟨ca, cb, ck, cs, ct, cu, cz⟩, mc, mt⟩) trivial rfl rfl (fun ρ w E => ex_callV E (enters_may p) rfl rfl rfl rfl) (fun w H => may_all p ⟨mk, mn, mr, mb, ms, mo, mv, vl, il, ⟨ca, cb, ck, cs, ct, cu, cz⟩, mc, mt⟩ hf hs A B ka kb gc w (hr.below (H.toBelow ⟨(fun g hg => by rw [List.mem_singleton.1 hg]; exact hg3), (made_fresh hg2 hV hI), hpf, (fun g hg => by rw [List.mem_singleton.1 hg]; exact hg1), trivial⟩)) (parts_cap (H.get (i := 2) rfl) hx)) fun c25 hc25 => ?_
      cases c25
      · refine SxL.val (v := .bool true) trivial rfl rfl (fun ρ w E H => ex_not (t := false) E rfl rfl) ?_
        refine SxL.nil ?_
        refine SxN.then_ ?_
        refine SxC.condT rfl ?_
        refine SxC.seq ?_
        refine SxC.region ?_
        refine SxL.val (v := .int .i64 2) trivial rfl rfl (fun ρ w E H => ex_assign E rfl rfl) ?_
        refine SxL.nil ?_
        refine SxN.then_ ?_
        refine SxC.ret ?_
        refine SxX.thenR ?_
        refine SxX.blockR ?_
        refine SxX.thenR ?_
        refine SxX.thenR ?_
        refine SxX.blockR ?_
        refine SxX.thenR ?_
        refine SxX.done (.int .i64 2) (fun a w K H => res1 K rfl rfl) (fun w H => ?_)
        have hq2 : (2 : Int) = (if checkB ⟨mk, mn, mr, mb, ms, mo, mv, vl, il, ⟨ca, cb, ck, cs, ct, cu, cz⟩, mc, mt⟩ then 0 else 2) := by
          clear H
          have hck : checkB ⟨mk, mn, mr, mb, ms, mo, mv, vl, il, ⟨ca, cb, ck, cs, ct, cu, cz⟩, mc, mt⟩ = false := by
            have hm : (partsOf mk).all (fun p => p.may ⟨mk, mn, mr, mb, ms, mo, mv, vl, il, ⟨ca, cb, ck, cs, ct, cu, cz⟩, mc, mt⟩) = false := by rw [List.all_eq_false]; exact ⟨p, List.mem_of_getElem? hp, by rw [hc25]; decide⟩
            show (!(partsOf mk).isEmpty && ((partsOf mk).all (fun p => p.may ⟨mk, mn, mr, mb, ms, mo, mv, vl, il, ⟨ca, cb, ck, cs, ct, cu, cz⟩, mc, mt⟩) && _)) = _
            rw [hm]; simp
          rw [hck]; rfl
        exact ⟨congrArg (fun z => Ending.returned (.int .i64 z)) hq2, H.toBelow ⟨(fun g hg => by rw [List.mem_singleton.1 hg]; exact hg3), (made_fresh hg2 hV hI), hpf, (fun g hg => by rw [List.mem_singleton.1 hg]; exact hg1), trivial⟩⟩
      · refine SxL.val (v := .bool false) trivial rfl rfl (fun ρ w E H => ex_not (t := true) E rfl rfl) ?_
        refine SxL.nil ?_
        refine SxN.then_ ?_
        refine SxC.condF rfl ?_
        refine SxC.skip ?_
        refine SxN.then_ ?_
        refine SxC.region ?_
        refine SxL.val (v := .pointer (some ⟨g3, 2, none⟩)) trivial rfl rfl (fun ρ w E H => ex_field E rfl fa_palaver_msg_part_2 rfl rfl) ?_
        refine SxL.val (v := .func (.func p.moveF) #[] #[]) trivial rfl rfl (fun ρ w E H => ex_load1 E (H.get (i := 0) rfl) rfl rfl Try.underlying92 rfl rfl) ?_
        refine SxL.val (v := .agg #[.int .u8 (mk : Int), .int .u64 (mn : Int), .int .u8 (mr : Int), .int .u64 (mb : Int), .int .u64 (ms : Int), .int .u8 (mo : Int), .string ⟨mv.toArray⟩, .slice A vl.length ka, .slice B il.length kb, .int .u8 (ca : Int), .int .u32 (cb : Int), .int .u8 (ck : Int), .string ⟨cs.toArray⟩, .string ⟨ct.toArray⟩, .string ⟨cu.toArray⟩, .int .u8 (cz : Int), .int .u8 (mc : Int), .string ⟨mt.toArray⟩]) trivial rfl rfl (fun ρ w E H => ex_load (part := [.int .u8 (mk : Int), .int .u64 (mn : Int), .int .u8 (mr : Int), .int .u64 (mb : Int), .int .u64 (ms : Int), .int .u8 (mo : Int), .string ⟨mv.toArray⟩, .slice A vl.length ka, .slice B il.length kb, .int .u8 (ca : Int), .int .u32 (cb : Int), .int .u8 (ck : Int), .string ⟨cs.toArray⟩, .string ⟨ct.toArray⟩, .string ⟨cu.toArray⟩, .int .u8 (cz : Int), .int .u8 (mc : Int), .string ⟨mt.toArray⟩]) E (H.get (i := 3) rfl) rfl rfl Try.underlying45 rfl sz_palaver_api_Msg rfl rfl) ?_
        refine SxL.call2 (fun _ _ => .tuple #[]) (fun V2 I2 => OwnIn w [] V2 ∧ OwnIn w [] I2) (fun V2 I2 => _) trivial rfl rfl (fun ρ w E => ex_callV E (enters_move p) rfl rfl rfl rfl) (call_made (i := 1) rfl hg2 hV hI (fun w H => move_all p ⟨mk, mn, mr, mb, ms, mo, mv, vl, il, ⟨ca, cb, ck, cs, ct, cu, cz⟩, mc, mt⟩ hs A B ka kb _ g2 a V I w (hr.below (H.toBelow ⟨(fun g hg => by rw [List.mem_singleton.1 hg]; exact hg3), (made_fresh hg2 hV hI), hpf, (fun g hg => by rw [List.mem_singleton.1 hg]; exact hg1), trivial⟩)) (H.get (i := 1) rfl) H.os.size (fun hn ad e => by have h1 := hr.hv.lt hn ad e; omega) (fun hn ad e => by have h1 := hr.hi.lt hn ad e; omega))) fun V2 I2 hVI => ?_
        refine SxL.nil ?_
        refine SxN.block ?_
        refine SxN.then_ ?_
        refine SxC.region ?_
        refine SxL.val (v := .int .i64 ((k + 1 : Nat) : Int)) trivial rfl rfl (fun ρ w E H => ex_add E rfl rfl rfl (by rw [IntKind.wrap_i64]; omega)) ?_
        refine SxL.val (v := .int .i64 ((k + 1 : Nat) : Int)) trivial rfl rfl (fun ρ w E H => ex_move E rfl rfl) ?_
        refine SxL.nil ?_
        refine SxN.back (gk - 1) (k + 1, Pt.move p a ⟨mk, mn, mr, mb, ms, mo, mv, vl, il, ⟨ca, cb, ck, cs, ct, cu, cz⟩, mc, mt⟩, V2, I2) (by omega) ⟨by omega, by rw [take_snoc hp, ha]; unfold moved; rw [List.foldl_append]; rfl, by rw [take_snoc hp, List.all_append, hall]; simp [hc25], hVI.1, hVI.2⟩ ⟨rfl, rfl, rfl, rfl, rfl, rfl, rfl, trivial⟩ [1, 2, 3] rfl (by decide) ⟨.inr (fun g hg => by rw [List.mem_singleton.1 hg]; exact hg3), .inl rfl, .inl rfl, .inl rfl, trivial⟩
  · refine SxC.condT rfl ?_
    refine SxC.seq ?_
    refine SxC.region ?_
    refine SxL.val (v := .int .i64 2) trivial rfl rfl (fun ρ w E H => ex_assign E rfl rfl) ?_
    refine SxL.nil ?_
    refine SxN.then_ ?_
    refine SxC.ret ?_
    refine SxX.thenR ?_
    refine SxX.done (.int .i64 2) (fun a w K H => res1 K rfl rfl) (fun w H => ?_)
    have hq2 : (2 : Int) = (if checkB ⟨mk, mn, mr, mb, ms, mo, mv, vl, il, ⟨ca, cb, ck, cs, ct, cu, cz⟩, mc, mt⟩ then 0 else 2) := by
      clear H
      have hck : checkB ⟨mk, mn, mr, mb, ms, mo, mv, vl, il, ⟨ca, cb, ck, cs, ct, cu, cz⟩, mc, mt⟩ = false := by
        have h0 : q = [] := by have h := hc12; simp [cmpB] at h; cases q with | nil => rfl | cons x l => simp at h
        have hm : (partsOf mk).isEmpty = true := by rw [← hq, h0]; rfl
        show (!(partsOf mk).isEmpty && _) = _
        rw [hm]; rfl
      rw [hck]; rfl
    exact ⟨congrArg (fun z => Ending.returned (.int .i64 z)) hq2, H.toBelow ⟨hpf, (fun g hg => by rw [List.mem_singleton.1 hg]; exact hg1), trivial⟩⟩

theorem check_any (m : Ms) (A B : Option Addr) (ka kb : Nat) (w : World) (hf : m.Fits) (hs : m.Small) (hr : MsRows w m A B) : Calls Try.prog 27 #[msV m A ka B kb] w fun e w' => e = .returned (.int .i64 (if checkB m then 0 else 2)) ∧ Below w.heap.size w w' := by
  obtain ⟨mk, mn, mr, mb, ms, mo, mv, vl, il, ⟨ca, cb, ck, cs, ct, cu, cz⟩, mc, mt⟩ := m
  exact check_lit _ _ _ _ _ _ _ _ _ _ _ _ _ _ _ _ _ _ _ _ _ _ w hf hs hr
end Go.Proofs.Yteiaiilfekojfaa.Msg
end
