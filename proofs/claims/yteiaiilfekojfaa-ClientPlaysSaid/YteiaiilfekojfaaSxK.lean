/- The walk Sx: cuts at which ways meet, loops with letters, two facts that turn at once. No program in sight. No conditions. -/
import Derived.Test.YteiaiilfekojfaaSxD
set_option linter.unusedVariables false
set_option linter.unusedSimpArgs false
namespace Go.Proofs.Yteiaiilfekojfaa.Sx
open Go.RowKit DrawInv

/-- Two facts turn at once. -/
theorem Hp.two {w0 w w' : World} {R : List Ft} {f g : Ft} (H : Hp w0 (f :: g :: R) w) (f' g' : Ft) (hc : Outs (f.fp ++ g.fp) w w') (hl : f'.Loc) (hl2 : g'.Loc)
    (hf1 : ∀ b ∈ f'.fp, b < w'.heap.size ∧ (b ∈ f.fp ∨ w.heap.size ≤ b)) (hg1 : ∀ b ∈ g'.fp, b < w'.heap.size ∧ (b ∈ g.fp ∨ w.heap.size ≤ b)) (hd : ∀ b ∈ f'.fp, b ∉ g'.fp)
    (hfr : ∀ b ∈ f.fp, b ∈ f'.fp ∨ w0.heap.size ≤ b) (hgr : ∀ b ∈ g.fp, b ∈ g'.fp ∨ w0.heap.size ≤ b) (hf : f'.φ w') (hg : g'.φ w') : Hp w0 (f' :: g' :: R) w' := by
  obtain ⟨d1, d2⟩ := List.pairwise_cons.1 H.dj
  obtain ⟨d3, d4⟩ := List.pairwise_cons.1 d2
  have okf := H.ok f (List.mem_cons_self ..)
  have okg := H.ok g (List.mem_cons_of_mem _ (List.mem_cons_self ..))
  have okr : ∀ p ∈ R, p.Loc ∧ (∀ b ∈ p.fp, b < w.heap.size) ∧ p.φ w := fun p hp => H.ok p (List.mem_cons_of_mem _ (List.mem_cons_of_mem _ hp))
  refine ⟨?_, ?_, fun p hp => ?_⟩
  · refine (H.os.then_ hc fun b hb _ => ?_).mono fun b hb hlt => ?_
    · simp only [List.flatMap_cons, List.mem_append] at hb ⊢
      rcases hb with h | h
      · exact .inl h
      · exact .inr (.inl h)
    · simp only [List.flatMap_cons, List.mem_append] at hb ⊢
      rcases hb with h | h | h
      · rcases hfr b h with h | h
        · exact .inl h
        · omega
      · rcases hgr b h with h | h
        · exact .inr (.inl h)
        · omega
      · exact .inr (.inr h)
  · refine List.pairwise_cons.2 ⟨fun q hq b hb hbq => ?_, List.pairwise_cons.2 ⟨fun q hq b hb hbq => ?_, d4⟩⟩
    · rcases List.mem_cons.1 hq with rfl | hq
      · exact hd b hb hbq
      · rcases (hf1 b hb).2 with h | h
        · exact d1 q (List.mem_cons_of_mem _ hq) b h hbq
        · have := (okr q hq).2.1 b hbq; omega
    · rcases (hg1 b hb).2 with h | h
      · exact d3 q hq b h hbq
      · have := (okr q hq).2.1 b hbq; omega
  · rcases List.mem_cons.1 hp with rfl | hp
    · exact ⟨hl, fun b hb => (hf1 b hb).1, hf⟩
    rcases List.mem_cons.1 hp with rfl | hp
    · exact ⟨hl2, fun b hb => (hg1 b hb).1, hg⟩
    obtain ⟨h1, h2, h3⟩ := okr p hp
    refine ⟨h1, fun b hb => Nat.lt_of_lt_of_le (h2 b hb) hc.size, h1 w w' (fun b hb => hc.block b (h2 b hb) fun hx => ?_) h3⟩
    rcases List.mem_append.1 hx with h | h
    · exact d1 p (List.mem_cons_of_mem _ hp) b h hb
    · exact d3 p hp b h hb
/-- A fact about a block told in other words. -/
theorem Hp.re {w0 w : World} {L : List Ft} (H : Hp w0 L w) {i : Nat} {f : Ft} (hi : nth L i = some f) (f' : Ft) (hl : f'.Loc) (he : f'.fp = f.fp) (hf : f.φ w → f'.φ w) : Hp w0 (putF L i f') w :=
  H.chg hi f' (Outs.refl _ _) hl (fun g hg => ⟨(H.ok f (nth_mem hi)).2.1 g (he ▸ hg), .inl (he ▸ hg)⟩) (fun g hg => .inl (he ▸ hg)) (hf (H.get hi))
section
variable {P : Program} {ops : Array Oper} {Q Q' : Exit → Act → World → Prop} {n : Nat} {vs : Vs} {w0 : World} {L : List Ft} {o : Oper} {rest : List Oper} {S : World → Prop} {fuel : Nat} {listed : Array Bool}
theorem SxC.drawnK {id : Nat} {l : List Oper} {Lk : List Ft} (G is : List Nat) (hm : P.follows .mixedOrders = true) (hp : picks L is = some Lk) (hg : allF L fun f => ∀ g ∈ f.fp, g ∈ G ∨ w0.heap.size ≤ g)
    (h : SxA P l.toArray Q (Ks w0 G Lk) l.toArray.size (Array.replicate l.toArray.size false) n vs w0 L) : SxC P (.region id l.toArray true) Q n vs w0 L := SxC.drawn _ hm (fun w H => H.ks G is hp hg) h
theorem SxO.valB {i d : Nat} {o : Oper} {b : Bool} (hi : ops[i]? = some o) (hon : GOn ops vs o.guard) (hd : o.dst = some d) (hdn : Nat.blt d n = true) (hr : ∀ ρ w, Env vs ρ → Hp w0 L w → (execOp ρ o).run P w = .ok (.value (.bool b)) w)
    (h : ∀ t, b = t → SxA P ops Q S fuel (listed.setIfInBounds i true) n ((d, .bool t) :: vs) w0 L) : SxO P ops Q S fuel listed i n vs w0 L := SxO.val hi hon hd hdn hr (h b rfl)
theorem SxL.callBB {d f : Nat} {args : Array Value} {b : Bool} (hon : GOn ops vs o.guard) (hd : o.dst = some d) (hdn : Nat.blt d n = true)
    (hr : ∀ ρ w, Env vs ρ → (execOp ρ o).run P w = .ok (.enter f args) w) (hc : ∀ w, Hp w0 L w → Calls P f args w fun e w' => e = .returned (.bool b) ∧ Below w.heap.size w w')
    (h : ∀ t, b = t → SxL P ops Q rest n ((d, .bool t) :: vs) w0 L) : SxL P ops Q (o :: rest) n vs w0 L := SxL.callB hon hd hdn hr hc (h b rfl)
theorem SxO.callBB {i d f : Nat} {o : Oper} {args : Array Value} {b : Bool} (hi : ops[i]? = some o) (hon : GOn ops vs o.guard) (hd : o.dst = some d) (hdn : Nat.blt d n = true)
    (hr : ∀ ρ w, Env vs ρ → (execOp ρ o).run P w = .ok (.enter f args) w) (hc : ∀ w, Hp w0 L w → Calls P f args w fun e w' => e = .returned (.bool b) ∧ Below w.heap.size w w')
    (hS : ∀ w, Hp w0 L w → S w) (h : ∀ t, b = t → SxA P ops Q S fuel (listed.setIfInBounds i true) n ((d, .bool t) :: vs) w0 L) : SxO P ops Q S fuel listed i n vs w0 L := SxO.callB hi hon hd hdn hr hc hS (h b rfl)
def Meet (Q : Exit → Act → World → Prop) (K : Act → World → Prop) : Exit → Act → World → Prop
  | .normal, a, w => K a w
  | e, a, w => Q e a w
def At0 {σ : Type} (n : Nat) (w0 : World) (V : σ → Vs) (LF : σ → List Ft) (F : σ → Prop) (a : Act) (w : World) : Prop := ∃ s, F s ∧ Kn n (V s) a ∧ Hp w0 (LF s) w
theorem SxC.cutN {σ : Type} {c : Code} (V : σ → Vs) (LF : σ → List Ft) (F : σ → Prop) (first : SxC P c (Meet Q (At0 n w0 V LF F)) n vs w0 L) (rest : ∀ s, F s → SxN Q n (V s) w0 (LF s)) : SxC P c Q n vs w0 L := fun a w K H => by
  refine wp_mono (first a w K H) fun e a w h => ?_
  cases e with
  | normal => obtain ⟨s, hF, K', H'⟩ := h; exact rest s hF a w K' H'
  | exit id => exact h
  | goto l => exact h
  | ret => exact h
  | panic ch => exact h
  | outgrown => exact h
theorem SxC.cut1 {α : Type} {c : Code} (V : α → Vs) (LF : α → List Ft) (F : α → Prop) (first : SxC P c (Meet Q (At0 n w0 V LF F)) n vs w0 L) (rest : ∀ a, F a → SxN Q n (V a) w0 (LF a)) : SxC P c Q n vs w0 L := SxC.cutN V LF F first rest
theorem SxC.cut2 {α β : Type} {c : Code} (V : α → β → Vs) (LF : α → β → List Ft) (F : α → β → Prop) (first : SxC P c (Meet Q (At0 (σ := α × β) n w0 (fun s => V s.1 s.2) (fun s => LF s.1 s.2) (fun s => F s.1 s.2))) n vs w0 L) (rest : ∀ a b, F a b → SxN Q n (V a b) w0 (LF a b)) : SxC P c Q n vs w0 L := SxC.cutN _ _ _ first fun s h => rest s.1 s.2 h
theorem SxC.cut3 {α β γ : Type} {c : Code} (V : α → β → γ → Vs) (LF : α → β → γ → List Ft) (F : α → β → γ → Prop) (first : SxC P c (Meet Q (At0 (σ := α × β × γ) n w0 (fun s => V s.1 s.2.1 s.2.2) (fun s => LF s.1 s.2.1 s.2.2) (fun s => F s.1 s.2.1 s.2.2))) n vs w0 L) (rest : ∀ a b c, F a b c → SxN Q n (V a b c) w0 (LF a b c)) : SxC P c Q n vs w0 L := SxC.cutN _ _ _ first fun s h => rest s.1 s.2.1 s.2.2 h
theorem SxN.meet {σ : Type} {V : σ → Vs} {LF : σ → List Ft} {F : σ → Prop} (s : σ) (hF : F s) (hs : Sub (V s) vs) (is : List Nat) (hp : picks L is = some (LF s)) (hn : is.Nodup) (hf : Frs w0 is 0 L) : SxN (Meet Q (At0 n w0 V LF F)) n vs w0 L :=
  fun a w K H => ⟨s, hF, K.sub hs, H.pick is hp hn hf⟩
theorem SxX.meetR {K : Act → World → Prop} (h : SxX .ret Q n vs w0 L) : SxX .ret (Meet Q K) n vs w0 L := h
theorem SxX.meetE {id : Nat} {K : Act → World → Prop} (h : SxX (.exit id) Q n vs w0 L) : SxX (.exit id) (Meet Q K) n vs w0 L := h
theorem SxC.loop1 {α : Type} {c : Code} (vF : α → Vs) (LF : α → List Ft) (F : Nat → α → Prop) (k0 : Nat) (a0 : α) (h0 : F k0 a0) (hs : Sub (vF a0) vs) (is : List Nat) (hp : picks L is = some (LF a0)) (hn : is.Nodup) (hf : Frs w0 is 0 L)
    (round : ∀ k a, F k a → SxC P c (Exit.then (Back n w0 vF LF F k) Q) n (vF a) w0 (LF a)) : SxC P (.loop c) Q n vs w0 L := SxC.loop vF LF F k0 a0 h0 hs is hp hn hf round
theorem SxC.loop2 {α β : Type} {c : Code} (vF : α → β → Vs) (LF : α → β → List Ft) (F : Nat → α → β → Prop) (k0 : Nat) (a0 : α) (b0 : β) (h0 : F k0 a0 b0) (hs : Sub (vF a0 b0) vs) (is : List Nat) (hp : picks L is = some (LF a0 b0)) (hn : is.Nodup) (hf : Frs w0 is 0 L)
    (round : ∀ k a b, F k a b → SxC P c (Exit.then (Back (σ := α × β) n w0 (fun s => vF s.1 s.2) (fun s => LF s.1 s.2) (fun k s => F k s.1 s.2) k) Q) n (vF a b) w0 (LF a b)) : SxC P (.loop c) Q n vs w0 L := SxC.loop (fun s : α × β => vF s.1 s.2) (fun s => LF s.1 s.2) (fun k s => F k s.1 s.2) k0 (a0, b0) h0 hs is hp hn hf fun k s h => round k s.1 s.2 h
theorem SxC.loop3 {α β γ : Type} {c : Code} (vF : α → β → γ → Vs) (LF : α → β → γ → List Ft) (F : Nat → α → β → γ → Prop) (k0 : Nat) (a0 : α) (b0 : β) (c0 : γ) (h0 : F k0 a0 b0 c0) (hs : Sub (vF a0 b0 c0) vs) (is : List Nat) (hp : picks L is = some (LF a0 b0 c0)) (hn : is.Nodup) (hf : Frs w0 is 0 L)
    (round : ∀ k a b d, F k a b d → SxC P c (Exit.then (Back (σ := α × β × γ) n w0 (fun s => vF s.1 s.2.1 s.2.2) (fun s => LF s.1 s.2.1 s.2.2) (fun k s => F k s.1 s.2.1 s.2.2) k) Q) n (vF a b d) w0 (LF a b d)) : SxC P (.loop c) Q n vs w0 L := SxC.loop (fun s : α × β × γ => vF s.1 s.2.1 s.2.2) (fun s => LF s.1 s.2.1 s.2.2) (fun k s => F k s.1 s.2.1 s.2.2) k0 (a0, b0, c0) h0 hs is hp hn hf fun k s h => round k s.1 s.2.1 s.2.2 h
theorem SxC.loop4 {α β γ δ : Type} {c : Code} (vF : α → β → γ → δ → Vs) (LF : α → β → γ → δ → List Ft) (F : Nat → α → β → γ → δ → Prop) (k0 : Nat) (a0 : α) (b0 : β) (c0 : γ) (d0 : δ) (h0 : F k0 a0 b0 c0 d0) (hs : Sub (vF a0 b0 c0 d0) vs) (is : List Nat) (hp : picks L is = some (LF a0 b0 c0 d0)) (hn : is.Nodup) (hf : Frs w0 is 0 L)
    (round : ∀ k a b d e, F k a b d e → SxC P c (Exit.then (Back (σ := α × β × γ × δ) n w0 (fun s => vF s.1 s.2.1 s.2.2.1 s.2.2.2) (fun s => LF s.1 s.2.1 s.2.2.1 s.2.2.2) (fun k s => F k s.1 s.2.1 s.2.2.1 s.2.2.2) k) Q) n (vF a b d e) w0 (LF a b d e)) : SxC P (.loop c) Q n vs w0 L := SxC.loop (fun s : α × β × γ × δ => vF s.1 s.2.1 s.2.2.1 s.2.2.2) (fun s => LF s.1 s.2.1 s.2.2.1 s.2.2.2) (fun k s => F k s.1 s.2.1 s.2.2.1 s.2.2.2) k0 (a0, b0, c0, d0) h0 hs is hp hn hf fun k s h => round k s.1 s.2.1 s.2.2.1 s.2.2.2 h
/-- Facts that come to be known on the way. -/
theorem SxL.with {p : Prop} (hp : ∀ w, Hp w0 L w → p) (h : p → SxL P ops Q rest n vs w0 L) : SxL P ops Q rest n vs w0 L := fun a w K H => h (hp w H) a w K H
theorem SxN.with {p : Prop} (hp : ∀ w, Hp w0 L w → p) (h : p → SxN Q n vs w0 L) : SxN Q n vs w0 L := fun a w K H => h (hp w H) a w K H
/-- The world is told anew: what follows starts from other facts that it has. -/
theorem SxC.hp {c : Code} {L' : List Ft} (hp : ∀ w, Hp w0 L w → Hp w0 L' w) (h : SxC P c Q n vs w0 L') : SxC P c Q n vs w0 L := fun a w K H => h a w K (hp w H)
theorem SxN.hp {L' : List Ft} (hp : ∀ w, Hp w0 L w → Hp w0 L' w) (h : SxN Q n vs w0 L') : SxN Q n vs w0 L := fun a w K H => h a w K (hp w H)
theorem SxL.hp {L' : List Ft} (hp : ∀ w, Hp w0 L w → Hp w0 L' w) (h : SxL P ops Q rest n vs w0 L') : SxL P ops Q rest n vs w0 L := fun a w K H => h a w K (hp w H)
end
end Go.Proofs.Yteiaiilfekojfaa.Sx
