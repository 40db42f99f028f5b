/- A walk whose goal speaks of no act and of no world: what the slots hold (a list), what the memory holds (facts, each with the blocks that it hangs on). Each operation is one small lemma. No program in sight; no conditions. -/
import Derived.Test.YteiaiilfekojfaaInvS
import Derived.Test.YteiaiilfekojfaaRow
import Derived.Deep.LoopGhost
set_option linter.unusedVariables false
set_option linter.unusedSimpArgs false
namespace Go.Proofs.Yteiaiilfekojfaa.Sx
open Go.RowKit DrawInv

abbrev Vs := List (Nat × Value)
def look : Vs → Nat → Option Value
  | [], _ => none
  | (a, v) :: l, k => bif Nat.beq a k then some v else look l k
def opv (vs : Vs) : Operand → Option Value
  | .tmp k => look vs k
  | .const v => some v
  | .func f => some (.func (.func f) #[] #[])
  | .global _ => none
structure Env (vs : Vs) (ρ : Operand → Value) : Prop where
  cs : Consts ρ
  vs : ∀ k v, look vs k = some v → ρ (.tmp k) = v
theorem Env.ev {vs : Vs} {ρ : Operand → Value} (E : Env vs ρ) {x : Operand} {v : Value} (h : opv vs x = some v) : ρ x = v := by
  cases x with
  | tmp k => exact E.vs k v h
  | const u => exact (E.cs.1 u).trans (Option.some.inj h)
  | func f => exact (E.cs.2 f).trans (Option.some.inj h)
  | global g => cases h
def opvs (vs : Vs) : List Operand → Option (List Value)
  | [] => some []
  | x :: l => match opv vs x, opvs vs l with
    | some v, some r => some (v :: r)
    | _, _ => none
theorem Env.evs {vs : Vs} {ρ : Operand → Value} (E : Env vs ρ) : ∀ {l : List Operand} {r : List Value}, opvs vs l = some r → l.map ρ = r
  | [], r, h => by cases h; rfl
  | x :: l, r, h => by
    unfold opvs at h
    cases h1 : opv vs x with
    | none => rw [h1] at h; cases h
    | some v =>
      cases h2 : opvs vs l with
      | none => rw [h1, h2] at h; cases h
      | some s =>
        rw [h1, h2] at h
        cases h
        rw [List.map_cons, E.ev h1, E.evs h2]
structure Kn (n : Nat) (vs : Vs) (a : Act) : Prop where
  sz : a.tmps.size = n
  df : a.defers = []
  vs : ∀ k v, look vs k = some v → a.eval (.tmp k) = v
theorem Kn.env {n : Nat} {vs : Vs} {a : Act} (K : Kn n vs a) : Env vs a.eval := ⟨⟨fun _ => rfl, fun _ => rfl⟩, K.vs⟩
theorem Kn.put {n : Nat} {vs : Vs} {a : Act} (K : Kn n vs a) {d : Nat} (hd : Nat.blt d n = true) (v : Value) : Kn n ((d, v) :: vs) (a.put (some d) v) := by
  have hd : d < n := by simpa [Nat.blt_eq] using hd
  refine ⟨by rw [← K.sz]; simp [Act.put], K.df, fun k x h => ?_⟩
  unfold look at h
  cases hb : Nat.beq d k with
  | true =>
    rw [hb] at h
    obtain rfl := Nat.eq_of_beq_eq_true hb
    cases h
    exact eval_put_eq (by rw [K.sz]; exact hd)
  | false =>
    rw [hb] at h
    have hne : k ≠ d := fun e => Nat.ne_of_beq_eq_false hb e.symm
    rw [eval_put_ne hne]
    exact K.vs k x h
/-- Slots known, out of others. -/
def Sub (vs' vs : Vs) : Prop := match vs' with
  | [] => True
  | p :: r => look vs p.1 = some p.2 ∧ Sub r vs
theorem Sub.look {vs vs' : Vs} (h : Sub vs' vs) {k : Nat} {v : Value} (hk : Sx.look vs' k = some v) : Sx.look vs k = some v := by
  induction vs' with
  | nil => cases hk
  | cons p r ih =>
    obtain ⟨a, u⟩ := p
    unfold Sx.look at hk
    cases hb : Nat.beq a k with
    | true =>
      rw [hb] at hk
      obtain rfl := Nat.eq_of_beq_eq_true hb
      cases hk
      exact h.1
    | false => rw [hb] at hk; exact ih h.2 hk
theorem Kn.sub {n : Nat} {vs vs' : Vs} {a : Act} (K : Kn n vs a) (h : Sub vs' vs) : Kn n vs' a := ⟨K.sz, K.df, fun k v hk => K.vs k v (h.look hk)⟩
def enum (i : Nat) : List Value → Vs
  | [] => []
  | v :: l => (i, v) :: enum (i + 1) l
theorem look_enum : ∀ (l : List Value) (i k : Nat) (v : Value), look (enum i l) k = some v → i ≤ k ∧ l[k - i]? = some v
  | [], _, _, _, h => by cases h
  | x :: l, i, k, v, h => by
    unfold enum look at h
    cases hb : Nat.beq i k with
    | true =>
      rw [hb] at h
      obtain rfl := Nat.eq_of_beq_eq_true hb
      cases h
      exact ⟨Nat.le_refl _, by simp⟩
    | false =>
      rw [hb] at h
      obtain ⟨h1, h2⟩ := look_enum l (i + 1) k v h
      refine ⟨by omega, ?_⟩
      rw [show k - i = (k - (i + 1)) + 1 by omega]
      simpa using h2
theorem Kn.enter {n : Nat} (args : List Value) (h : args.length ≤ n) : Kn n (enum 0 args) { tmps := args.toArray ++ Array.replicate (n - args.toArray.size) undef, defers := [] } := by
  refine ⟨by simp; omega, rfl, fun k v hk => ?_⟩
  obtain ⟨_, h2⟩ := look_enum args 0 k v hk
  show (args.toArray ++ Array.replicate (n - args.toArray.size) undef).getD k undef = v
  have h3 : k < args.length := (List.getElem?_eq_some_iff.1 h2).1
  rw [Array.getD_eq_getD_getElem?, Array.getElem?_append_left (by simpa using h3)]
  simp at h2 ⊢
  rw [h2]
  rfl

/-- A fact about the memory, and the blocks that it hangs on. -/
structure Ft where
  fp : List Nat
  φ : World → Prop
def Ft.Loc (f : Ft) : Prop := ∀ w w' : World, (∀ g ∈ f.fp, w'.heap[g]? = w.heap[g]?) → f.φ w → f.φ w'
structure Hp (w0 : World) (L : List Ft) (w : World) : Prop where
  os : Outs (L.flatMap (·.fp)) w0 w
  dj : L.Pairwise fun p q => ∀ g ∈ p.fp, g ∉ q.fp
  ok : ∀ p ∈ L, p.Loc ∧ (∀ g ∈ p.fp, g < w.heap.size) ∧ p.φ w
def nth : List Ft → Nat → Option Ft
  | [], _ => none
  | f :: _, 0 => some f
  | _ :: l, i + 1 => nth l i
def putF : List Ft → Nat → Ft → List Ft
  | [], _, _ => []
  | _ :: l, 0, f => f :: l
  | x :: l, i + 1, f => x :: putF l i f
theorem nth_mem : ∀ {L : List Ft} {i : Nat} {f : Ft}, nth L i = some f → f ∈ L
  | f :: l, 0, _, h => by cases h; exact List.mem_cons_self ..
  | x :: l, i + 1, f, h => List.mem_cons_of_mem _ (nth_mem (L := l) h)
theorem mem_putF : ∀ {L : List Ft} {i : Nat} {f x : Ft}, x ∈ putF L i f → x = f ∨ x ∈ L
  | [], _, _, _, h => by cases h
  | y :: l, 0, f, x, h => by
    rcases List.mem_cons.1 h with rfl | h
    · exact .inl rfl
    · exact .inr (List.mem_cons_of_mem _ h)
  | y :: l, i + 1, f, x, h => by
    rcases List.mem_cons.1 h with rfl | h
    · exact .inr (List.mem_cons_self ..)
    · exact (mem_putF h).imp id (List.mem_cons_of_mem _)
theorem Hp.start (w : World) : Hp w [] w := ⟨Outs.refl _ _, .nil, fun _ h => by cases h⟩
theorem Hp.get {w0 w : World} {L : List Ft} (H : Hp w0 L w) {i : Nat} {f : Ft} (h : nth L i = some f) : f.φ w := (H.ok f (nth_mem h)).2.2
theorem _root_.Go.Proofs.Yteiaiilfekojfaa.DrawInv.Outs.mono {S S' : List Nat} {w w' : World} (h : Outs S w w') (hs : ∀ g ∈ S, g < w.heap.size → g ∈ S') : Outs S' w w' := ⟨h.os, h.tape, h.output, h.size, fun k hk hn => h.block k hk fun hm => hn (hs k hm hk)⟩
theorem _root_.Go.Proofs.Yteiaiilfekojfaa.DrawInv.Outs.then_ {S T : List Nat} {a b c : World} (h : Outs S a b) (k : Outs T b c) (hT : ∀ g ∈ T, g < a.heap.size → g ∈ S) : Outs S a c :=
  ⟨k.os.trans h.os, k.tape.trans h.tape, k.output.trans h.output, Nat.le_trans h.size k.size, fun i hi hn => (k.block i (Nat.lt_of_lt_of_le hi h.size) fun hm => hn (hT i hm hi)).trans (h.block i hi hn)⟩
theorem Hp.below {w0 w w' : World} {L : List Ft} (H : Hp w0 L w) (hb : Below w.heap.size w w') : Hp w0 L w' :=
  ⟨H.os.then_ (Outs.of_below (S := []) hb) (fun _ h => by cases h), H.dj, fun p hp => by
    obtain ⟨h1, h2, h3⟩ := H.ok p hp
    exact ⟨h1, fun g hg => Nat.lt_of_lt_of_le (h2 g hg) hb.size, h1 w w' (fun g hg => hb.block g (h2 g hg)) h3⟩⟩
/-- A fact of new memory. -/
theorem Hp.add {w0 w w' : World} {L : List Ft} (H : Hp w0 L w) (hb : Below w.heap.size w w') (f : Ft) (hl : f.Loc) (hfp : ∀ g ∈ f.fp, g < w'.heap.size ∧ w.heap.size ≤ g) (hf : f.φ w') : Hp w0 (f :: L) w' := by
  have h := H.below hb
  refine ⟨h.os.mono fun g hg _ => by simp only [List.flatMap_cons, List.mem_append]; exact .inr hg, List.pairwise_cons.2 ⟨fun q hq g hg hgq => ?_, H.dj⟩, fun p hp => ?_⟩
  · have := (H.ok q hq).2.1 g hgq
    have := (hfp g hg).2
    omega
  · rcases List.mem_cons.1 hp with rfl | hp
    · exact ⟨hl, fun g hg => (hfp g hg).1, hf⟩
    · exact h.ok p hp
/-- A fact of elder memory. -/
theorem Hp.know {w0 w : World} {L : List Ft} (H : Hp w0 L w) (f : Ft) (hl : f.Loc) (hfp : ∀ g ∈ f.fp, g < w.heap.size ∧ ∀ q ∈ L, g ∉ q.fp) (hf : f.φ w) : Hp w0 (f :: L) w := by
  refine ⟨H.os.mono fun g hg _ => by simp only [List.flatMap_cons, List.mem_append]; exact .inr hg, List.pairwise_cons.2 ⟨fun q hq g hg => (hfp g hg).2 q hq, H.dj⟩, fun p hp => ?_⟩
  rcases List.mem_cons.1 hp with rfl | hp
  · exact ⟨hl, fun g hg => (hfp g hg).1, hf⟩
  · exact H.ok p hp
/-- A fact turned: only the blocks that it hung on have changed; what it hangs on now is of these, or new. -/
theorem chg_aux {w w' : World} : ∀ {L : List Ft} {i : Nat} {f f' : Ft}, nth L i = some f → (L.Pairwise fun p q => ∀ g ∈ p.fp, g ∉ q.fp) → (∀ p ∈ L, p.Loc ∧ (∀ g ∈ p.fp, g < w.heap.size) ∧ p.φ w) → Outs f.fp w w' → f'.Loc →
    (∀ g ∈ f'.fp, g < w'.heap.size ∧ (g ∈ f.fp ∨ w.heap.size ≤ g)) → f'.φ w' →
    ((putF L i f').Pairwise fun p q => ∀ g ∈ p.fp, g ∉ q.fp) ∧ (∀ p ∈ putF L i f', p.Loc ∧ (∀ g ∈ p.fp, g < w'.heap.size) ∧ p.φ w')
  | x :: l, 0, f, f', hi, hd, hok, hc, hl, hfp, hf => by
    cases hi
    obtain ⟨hd1, hd2⟩ := List.pairwise_cons.1 hd
    refine ⟨List.pairwise_cons.2 ⟨fun q hq g hg hgq => ?_, hd2⟩, fun p hp => ?_⟩
    · rcases (hfp g hg).2 with h | h
      · exact hd1 q hq g h hgq
      · have := (hok q (List.mem_cons_of_mem _ hq)).2.1 g hgq; omega
    · rcases List.mem_cons.1 hp with rfl | hp
      · exact ⟨hl, fun g hg => (hfp g hg).1, hf⟩
      · obtain ⟨h1, h2, h3⟩ := hok p (List.mem_cons_of_mem _ hp)
        exact ⟨h1, fun g hg => Nat.lt_of_lt_of_le (h2 g hg) hc.size, h1 w w' (fun g hg => hc.block g (h2 g hg) fun hx => hd1 p hp g hx hg) h3⟩
  | x :: l, i + 1, f, f', hi, hd, hok, hc, hl, hfp, hf => by
    obtain ⟨hd1, hd2⟩ := List.pairwise_cons.1 hd
    have hm : f ∈ l := nth_mem (L := l) hi
    obtain ⟨r1, r2⟩ := chg_aux (L := l) (i := i) hi hd2 (fun p hp => hok p (List.mem_cons_of_mem _ hp)) hc hl hfp hf
    obtain ⟨h1, h2, h3⟩ := hok x (List.mem_cons_self ..)
    refine ⟨List.pairwise_cons.2 ⟨fun q hq g hg hgq => ?_, r1⟩, fun p hp => ?_⟩
    · rcases mem_putF hq with rfl | hq
      · rcases (hfp g hgq).2 with h | h
        · exact hd1 f hm g hg h
        · have := h2 g hg; omega
      · exact hd1 q hq g hg hgq
    · rcases List.mem_cons.1 hp with rfl | hp
      · exact ⟨h1, fun g hg => Nat.lt_of_lt_of_le (h2 g hg) hc.size, h1 w w' (fun g hg => hc.block g (h2 g hg) fun hx => hd1 f hm g hg hx) h3⟩
      · exact r2 p hp
theorem fp_put : ∀ {L : List Ft} {i : Nat} {f f' : Ft}, nth L i = some f → ∀ g ∈ L.flatMap (·.fp), g ∈ (putF L i f').flatMap (·.fp) ∨ g ∈ f.fp
  | x :: l, 0, f, f', hi, g, hg => by
    cases hi
    simp only [List.flatMap_cons, List.mem_append] at hg
    rcases hg with h | h
    · exact .inr h
    · exact .inl (by show g ∈ (f' :: l).flatMap _; simp only [List.flatMap_cons, List.mem_append]; exact .inr h)
  | x :: l, i + 1, f, f', hi, g, hg => by
    simp only [List.flatMap_cons, List.mem_append] at hg
    show g ∈ (x :: putF l i f').flatMap _ ∨ _
    simp only [List.flatMap_cons, List.mem_append]
    rcases hg with h | h
    · exact .inl (.inl h)
    · exact (fp_put (L := l) (i := i) hi g h).imp .inr id
theorem put_mem : ∀ {L : List Ft} {i : Nat} {f f' : Ft}, nth L i = some f → f' ∈ putF L i f'
  | x :: l, 0, f, f', _ => List.mem_cons_self ..
  | x :: l, i + 1, f, f', hi => List.mem_cons_of_mem _ (put_mem (L := l) (i := i) hi)
theorem Hp.chg {w0 w w' : World} {L : List Ft} (H : Hp w0 L w) {i : Nat} {f : Ft} (hi : nth L i = some f) (f' : Ft) (hc : Outs f.fp w w') (hl : f'.Loc)
    (hfp : ∀ g ∈ f'.fp, g < w'.heap.size ∧ (g ∈ f.fp ∨ w.heap.size ≤ g)) (hfr : ∀ g ∈ f.fp, g ∈ f'.fp ∨ w0.heap.size ≤ g) (hf : f'.φ w') : Hp w0 (putF L i f') w' := by
  obtain ⟨r1, r2⟩ := chg_aux hi H.dj H.ok hc hl hfp hf
  have hm : f ∈ L := nth_mem hi
  refine ⟨?_, r1, r2⟩
  refine (H.os.then_ hc fun g hg _ => List.mem_flatMap.2 ⟨f, hm, hg⟩).mono fun g hg hlt => ?_
  rcases fp_put (f' := f') hi g hg with h | h
  · exact h
  · rcases hfr g h with h | h
    · exact List.mem_flatMap.2 ⟨f', put_mem hi, h⟩
    · omega
def allF : List Ft → (Ft → Prop) → Prop
  | [], _ => True
  | f :: l, Q => Q f ∧ allF l Q
theorem allF.mem {Q : Ft → Prop} : ∀ {L : List Ft}, allF L Q → ∀ f ∈ L, Q f
  | [], _, f, h => by cases h
  | x :: l, hq, f, h => by
    rcases List.mem_cons.1 h with rfl | h
    · exact hq.1
    · exact allF.mem hq.2 f h
/-- Facts dropped whose blocks are new; facts in another order. -/
def picks (L : List Ft) : List Nat → Option (List Ft)
  | [] => some []
  | i :: is => match nth L i, picks L is with
    | some f, some r => some (f :: r)
    | _, _ => none
theorem nth_ne {R : Ft → Ft → Prop} (hR : ∀ p q, R p q → R q p) : ∀ {L : List Ft} {i j : Nat} {f g : Ft}, L.Pairwise R → nth L i = some f → nth L j = some g → i ≠ j → R f g
  | x :: l, 0, 0, _, _, _, _, _, hne => absurd rfl hne
  | x :: l, 0, j + 1, f, g, hp, hi, hj, _ => by cases hi; exact (List.pairwise_cons.1 hp).1 g (nth_mem (L := l) hj)
  | x :: l, i + 1, 0, f, g, hp, hi, hj, _ => by cases hj; exact hR _ _ ((List.pairwise_cons.1 hp).1 f (nth_mem (L := l) hi))
  | x :: l, i + 1, j + 1, f, g, hp, hi, hj, hne => nth_ne hR (L := l) (i := i) (j := j) (List.pairwise_cons.1 hp).2 hi hj (fun e => hne (by rw [e]))
theorem picks_mem {L : List Ft} : ∀ {is : List Nat} {L' : List Ft}, picks L is = some L' → ∀ f ∈ L', ∃ i ∈ is, nth L i = some f
  | [], L', h, f, hf => by cases h; cases hf
  | i :: is, L', h, f, hf => by
    unfold picks at h
    cases h1 : nth L i with
    | none => rw [h1] at h; cases h
    | some x =>
      cases h2 : picks L is with
      | none => rw [h1, h2] at h; cases h
      | some r =>
        rw [h1, h2] at h
        cases h
        rcases List.mem_cons.1 hf with rfl | hf
        · exact ⟨i, List.mem_cons_self .., h1⟩
        · obtain ⟨j, hj, e⟩ := picks_mem h2 f hf
          exact ⟨j, List.mem_cons_of_mem _ hj, e⟩
theorem picks_pw {L : List Ft} (hd : L.Pairwise fun p q => ∀ g ∈ p.fp, g ∉ q.fp) : ∀ {is : List Nat} {L' : List Ft}, picks L is = some L' → is.Nodup → L'.Pairwise fun p q => ∀ g ∈ p.fp, g ∉ q.fp
  | [], L', h, _ => by cases h; exact .nil
  | i :: is, L', h, hn => by
    unfold picks at h
    cases h1 : nth L i with
    | none => rw [h1] at h; cases h
    | some x =>
      cases h2 : picks L is with
      | none => rw [h1, h2] at h; cases h
      | some r =>
        rw [h1, h2] at h
        cases h
        obtain ⟨n1, n2⟩ := List.nodup_cons.1 hn
        refine List.pairwise_cons.2 ⟨fun q hq => ?_, picks_pw hd h2 n2⟩
        obtain ⟨j, hj, e⟩ := picks_mem h2 q hq
        exact nth_ne (R := fun p q => ∀ g ∈ p.fp, g ∉ q.fp) (fun p q h g hg hgp => h g hgp hg) hd h1 e (fun e => n1 (e ▸ hj))
def Frs (w0 : World) (is : List Nat) : Nat → List Ft → Prop
  | _, [] => True
  | i, f :: l => (is.contains i = true ∨ ∀ g ∈ f.fp, w0.heap.size ≤ g) ∧ Frs w0 is (i + 1) l
theorem frs_mem {w0 : World} {is : List Nat} : ∀ {L : List Ft} {i : Nat}, Frs w0 is i L → ∀ f ∈ L, (∃ j, is.contains (i + j) = true ∧ nth L j = some f) ∨ ∀ g ∈ f.fp, w0.heap.size ≤ g
  | [], _, _, f, h => by cases h
  | x :: l, i, hq, f, h => by
    rcases List.mem_cons.1 h with rfl | h
    · exact hq.1.imp (fun h => ⟨0, h, rfl⟩) id
    · exact (frs_mem hq.2 f h).imp (fun ⟨j, h1, h2⟩ => ⟨j + 1, by rw [show i + (j + 1) = i + 1 + j by omega]; exact h1, h2⟩) id
theorem picks_has {L : List Ft} : ∀ {is : List Nat} {L' : List Ft}, picks L is = some L' → ∀ i ∈ is, ∀ f, nth L i = some f → f ∈ L'
  | [], _, _, i, h, _, _ => by cases h
  | j :: is, L', h, i, hi, f, hf => by
    unfold picks at h
    cases h1 : nth L j with
    | none => rw [h1] at h; cases h
    | some x =>
      cases h2 : picks L is with
      | none => rw [h1, h2] at h; cases h
      | some r =>
        rw [h1, h2] at h
        cases h
        rcases List.mem_cons.1 hi with rfl | hi
        · rw [h1] at hf; cases hf; exact List.mem_cons_self ..
        · exact List.mem_cons_of_mem _ (picks_has h2 i hi f hf)
theorem Hp.pick {w0 w : World} {L L' : List Ft} (H : Hp w0 L w) (is : List Nat) (hp : picks L is = some L') (hn : is.Nodup) (hf : Frs w0 is 0 L) : Hp w0 L' w := by
  refine ⟨H.os.mono fun g hg hlt => ?_, picks_pw H.dj hp hn, fun p hpm => ?_⟩
  · obtain ⟨f, hfm, hgf⟩ := List.mem_flatMap.1 hg
    rcases frs_mem hf f hfm with ⟨j, hj, e⟩ | h
    · exact List.mem_flatMap.2 ⟨f, picks_has hp j (by rw [Nat.zero_add] at hj; simpa using hj) f e, hgf⟩
    · have := h g hgf; omega
  · obtain ⟨i, _, e⟩ := picks_mem hp p hpm
    exact H.ok p (nth_mem e)
/-- At the end: all that was there lies as it lay; or but for one block. -/
theorem Hp.toBelow {w0 w : World} {L : List Ft} (H : Hp w0 L w) (hf : allF L fun f => ∀ g ∈ f.fp, w0.heap.size ≤ g) : Below w0.heap.size w0 w :=
  ⟨H.os.os, H.os.tape, H.os.output, H.os.size, fun k hk => H.os.block k hk fun hm => by
    obtain ⟨f, hfm, hg⟩ := List.mem_flatMap.1 hm
    have := hf.mem f hfm k hg
    omega⟩
theorem Hp.toGrown {w0 w : World} {L : List Ft} (H : Hp w0 L w) (b : Nat) (hf : allF L fun f => ∀ g ∈ f.fp, g = b ∨ w0.heap.size ≤ g) : w0.grownBy w (some b) :=
  ⟨H.os.os, H.os.tape, H.os.output, H.os.size, fun k hk hne => H.os.block k hk fun hm => by
    obtain ⟨f, hfm, hg⟩ := List.mem_flatMap.1 hm
    rcases hf.mem f hfm k hg with h | h
    · exact hne (by rw [h])
    · omega⟩
/-- A block known whole. -/
def cell (g : Nat) (t : TypeId) (cs : List Value) : Ft := ⟨[g], fun w => Blk w g t cs.toArray⟩
theorem cell_loc (g : Nat) (t : TypeId) (cs : List Value) : (cell g t cs).Loc := fun w w' h hb => (h g (List.mem_singleton.2 rfl)).trans hb
/-- A slice's row in memory of its own. -/
def rowF (base : Nat) (e : TypeId) (size : Nat) (v : Value) (n : Nat) (xs : List Value) : Ft := ⟨v.ownBlock.toList, fun w => w.ownsRow base e size v n xs⟩

/-! ## The walk -/
section
variable {P : Program} {ops : Array Oper} {Q Q' : Exit → Act → World → Prop} {n : Nat} {vs : Vs} {w0 : World} {L : List Ft} {o : Oper} {rest : List Oper}
def SxL (P : Program) (ops : Array Oper) (Q : Exit → Act → World → Prop) (rest : List Oper) (n : Nat) (vs : Vs) (w0 : World) (L : List Ft) : Prop := ∀ a w, Kn n vs a → Hp w0 L w → wpList P ops Q rest a w
def SxC (P : Program) (c : Code) (Q : Exit → Act → World → Prop) (n : Nat) (vs : Vs) (w0 : World) (L : List Ft) : Prop := ∀ a w, Kn n vs a → Hp w0 L w → c.wp P Q a w
def SxN (Q : Exit → Act → World → Prop) (n : Nat) (vs : Vs) (w0 : World) (L : List Ft) : Prop := ∀ a w, Kn n vs a → Hp w0 L w → Q .normal a w
theorem SxL.nil (h : SxN Q n vs w0 L) : SxL P ops Q [] n vs w0 L := h
theorem SxN.then_ {y : Code} (h : SxC P y Q n vs w0 L) : SxN (Exit.then (y.wp P Q) Q') n vs w0 L := h
theorem SxN.block {id : Nat} (h : SxN Q n vs w0 L) : SxN (Exit.inBlock id Q) n vs w0 L := h
theorem SxC.seq {x y : Code} (h : SxC P x (Exit.then (y.wp P Q) Q) n vs w0 L) : SxC P (.seq x y) Q n vs w0 L := fun a w K H => wp_seq (h a w K H)
theorem SxC.skip (h : SxN Q n vs w0 L) : SxC P .skip Q n vs w0 L := fun a w K H => wp_skip (h a w K H)
theorem SxC.block {id : Nat} {c : Code} (h : SxC P c (Exit.inBlock id Q) n vs w0 L) : SxC P (.block id c) Q n vs w0 L := fun a w K H => wp_block (h a w K H)
/-- Ways out: an exit, a return. -/
def SxX (e : Exit) (Q : Exit → Act → World → Prop) (n : Nat) (vs : Vs) (w0 : World) (L : List Ft) : Prop := ∀ a w, Kn n vs a → Hp w0 L w → Q e a w
theorem SxC.exit {id : Nat} (h : SxX (.exit id) Q n vs w0 L) : SxC P (.exit id) Q n vs w0 L := fun a w K H => wp_exit (h a w K H)
theorem SxC.ret (h : SxX .ret Q n vs w0 L) : SxC P .ret Q n vs w0 L := fun a w K H => wp_ret (h a w K H)
theorem SxX.thenE {id : Nat} {K : Act → World → Prop} (h : SxX (.exit id) Q n vs w0 L) : SxX (.exit id) (Exit.then K Q) n vs w0 L := h
theorem SxX.thenR {K : Act → World → Prop} (h : SxX .ret Q n vs w0 L) : SxX .ret (Exit.then K Q) n vs w0 L := h
theorem SxX.blockR {id : Nat} (h : SxX .ret Q n vs w0 L) : SxX .ret (Exit.inBlock id Q) n vs w0 L := h
theorem SxX.blockN {id id' : Nat} (hne : id' ≠ id) (h : SxX (.exit id') Q n vs w0 L) : SxX (.exit id') (Exit.inBlock id Q) n vs w0 L := fun a w K H => by
  show (if id' = id then Q .normal a w else Q (.exit id') a w)
  rw [if_neg hne]
  exact h a w K H
theorem SxX.blockE {id : Nat} (h : SxN Q n vs w0 L) : SxX (.exit id) (Exit.inBlock id Q) n vs w0 L := fun a w K H => by
  show (if id = id then Q .normal a w else Q (.exit id) a w)
  rw [if_pos rfl]
  exact h a w K H
theorem SxC.region {id : Nat} {l : List Oper} (h : SxL P l.toArray Q l n vs w0 L) : SxC P (.region id l.toArray false) Q n vs w0 L := fun a w K H => wp_region_lit (h a w K H)
theorem SxC.condT {c : Operand} {x y : Code} (hc : opv vs c = some (.bool true)) (h : SxC P x Q n vs w0 L) : SxC P (.cond c x y) Q n vs w0 L := fun a w K H => wp_cond_true (K.env.ev hc) (h a w K H)
theorem SxC.condF {c : Operand} {x y : Code} (hc : opv vs c = some (.bool false)) (h : SxC P y Q n vs w0 L) : SxC P (.cond c x y) Q n vs w0 L := fun a w K H => wp_cond_false (K.env.ev hc) (h a w K H)
theorem SxC.condB {c : Operand} {x y : Code} {t : Bool} (hc : opv vs c = some (.bool t)) (h1 : t = true → SxC P x Q n vs w0 L) (h2 : t = false → SxC P y Q n vs w0 L) : SxC P (.cond c x y) Q n vs w0 L :=
  fun a w K H => wp_cond_split (K.env.ev hc) (fun e => h1 e a w K H) (fun e => h2 e a w K H)
theorem SxC.sub {c : Code} {vs' : Vs} {L' : List Ft} (h : SxC P c Q n vs' w0 L') (hs : Sub vs' vs) (is : List Nat) (hp : picks L is = some L') (hn : is.Nodup) (hf : Frs w0 is 0 L) : SxC P c Q n vs w0 L :=
  fun a w K H => h a w (K.sub hs) (H.pick is hp hn hf)
/-- Facts come to be known. -/
theorem SxC.with {c : Code} {p : Prop} (hp : ∀ w, Hp w0 L w → p) (h : p → SxC P c Q n vs w0 L) : SxC P c Q n vs w0 L := fun a w K H => h (hp w H) a w K H
def GOn (ops : Array Oper) (vs : Vs) : Option (Nat × Bool) → Prop
  | none => True
  | some (j, b) => ∃ oj dj, ops[j]? = some oj ∧ oj.dst = some dj ∧ look vs dj = some (.bool b)
def GOff (ops : Array Oper) (vs : Vs) : Option (Nat × Bool) → Prop
  | none => False
  | some (j, b) => ∃ oj dj x, ops[j]? = some oj ∧ oj.dst = some dj ∧ look vs dj = some x ∧ x ≠ .bool b
theorem GOn.on {ρ : Operand → Value} {g : Option (Nat × Bool)} (h : GOn ops vs g) (E : Env vs ρ) : On ops ρ g := by
  cases g with
  | none => trivial
  | some p => obtain ⟨j, b⟩ := p; obtain ⟨oj, dj, h1, h2, h3⟩ := h; exact ⟨oj, dj, h1, h2, E.vs dj _ h3⟩
theorem GOff.off {ρ : Operand → Value} {g : Option (Nat × Bool)} (h : GOff ops vs g) (E : Env vs ρ) : Off ops ρ g := by
  cases g with
  | none => exact h.elim
  | some p => obtain ⟨j, b⟩ := p; obtain ⟨oj, dj, x, h1, h2, h3, h4⟩ := h; exact ⟨oj, dj, x, h1, h2, E.vs dj _ h3, h4⟩
theorem on_list {a : Act} {w : World} (hon : On ops a.eval o.guard) (h : o.wp P a w (wpList P ops Q rest) Q) : wpList P ops Q (o :: rest) a w := by
  unfold wpList
  rw [if_pos hon.wanted]
  exact .inl h
/-- An operation that leaves the world alone. -/
theorem SxL.val {d : Nat} {v : Value} (hon : GOn ops vs o.guard) (hd : o.dst = some d) (hdn : Nat.blt d n = true) (hr : ∀ ρ w, Env vs ρ → Hp w0 L w → (execOp ρ o).run P w = .ok (.value v) w)
    (h : SxL P ops Q rest n ((d, v) :: vs) w0 L) : SxL P ops Q (o :: rest) n vs w0 L := fun a w K H => by
  refine on_list (hon.on K.env) ?_
  unfold Oper.wp
  rw [hr a.eval w K.env H]
  show wpList P ops Q rest (a.put o.dst v) w
  rw [hd]
  exact h _ _ (K.put hdn v) H
/-- An operation that tells a bool. -/
theorem SxL.valB {d : Nat} {b : Bool} (hon : GOn ops vs o.guard) (hd : o.dst = some d) (hdn : Nat.blt d n = true) (hr : ∀ ρ w, Env vs ρ → Hp w0 L w → (execOp ρ o).run P w = .ok (.value (.bool b)) w)
    (h : ∀ t, b = t → SxL P ops Q rest n ((d, .bool t) :: vs) w0 L) : SxL P ops Q (o :: rest) n vs w0 L := SxL.val hon hd hdn hr (h b rfl)
/-- An operation that is off. -/
theorem SxL.off {d : Nat} (hoff : GOff ops vs o.guard) (hd : o.dst = some d) (hdn : Nat.blt d n = true) (h : SxL P ops Q rest n ((d, undef) :: vs) w0 L) : SxL P ops Q (o :: rest) n vs w0 L := fun a w K H => by
  unfold wpList
  rw [if_neg (by rw [(hoff.off K.env).wanted]; decide), hd]
  exact h _ _ (K.put hdn undef) H
theorem SxL.offN (hoff : GOff ops vs o.guard) (hd : o.dst = none) (h : SxL P ops Q rest n vs w0 L) : SxL P ops Q (o :: rest) n vs w0 L := fun a w K H => by
  unfold wpList
  rw [if_neg (by rw [(hoff.off K.env).wanted]; decide), hd]
  exact h _ _ K H
/-- An operation that lays a new block. -/
theorem SxL.new {d : Nat} {t : TypeId} {cs : List Value} (hon : GOn ops vs o.guard) (hd : o.dst = some d) (hdn : Nat.blt d n = true)
    (hr : ∀ ρ w, Env vs ρ → Hp w0 L w → (execOp ρ o).run P w = .ok (.value (.pointer (some ⟨w.heap.size, 0, none⟩))) (w.alloc (.cells cs.toArray t)))
    (h : ∀ g, w0.heap.size ≤ g → SxL P ops Q rest n ((d, .pointer (some ⟨g, 0, none⟩)) :: vs) w0 (cell g t cs :: L)) : SxL P ops Q (o :: rest) n vs w0 L := fun a w K H => by
  refine on_list (hon.on K.env) ?_
  unfold Oper.wp
  rw [hr a.eval w K.env H]
  show wpList P ops Q rest (a.put o.dst _) _
  rw [hd]
  refine h w.heap.size H.os.size _ _ (K.put hdn _) (H.add ((Below.refl _ w).alloc (Nat.le_refl _) _) _ (cell_loc _ _ _) (fun g hg => ?_) (Blk.new w t cs.toArray))
  obtain rfl := List.mem_singleton.1 hg
  exact ⟨by rw [World.alloc, Array.size_push]; omega, Nat.le_refl _⟩
/-- An operation that turns a block. -/
theorem SxL.turn {i g : Nat} {t : TypeId} {cs : List Value} (cs' : List Value) (hon : GOn ops vs o.guard) (hd : o.dst = none) (hi : nth L i = some (cell g t cs))
    (hr : ∀ ρ w, Env vs ρ → Hp w0 L w → ∃ w', (execOp ρ o).run P w = .ok .skip w' ∧ Blk w' g t cs'.toArray ∧ w.grownBy w' (some g))
    (h : SxL P ops Q rest n vs w0 (putF L i (cell g t cs'))) : SxL P ops Q (o :: rest) n vs w0 L := fun a w K H => by
  refine on_list (hon.on K.env) ?_
  unfold Oper.wp
  obtain ⟨w', hr, hb, hg⟩ := hr a.eval w K.env H
  rw [hr]
  show wpList P ops Q rest (a.put o.dst _) _
  rw [hd]
  refine h _ _ K (H.chg hi _ (Outs.of_grown hg (List.mem_singleton.2 rfl)) (cell_loc _ _ _) (fun g' hg' => ?_) (fun g' hg' => .inl hg') hb)
  obtain rfl := List.mem_singleton.1 hg'
  exact ⟨hb.lt, .inl (List.mem_singleton.2 rfl)⟩
/-- A call. -/
theorem SxL.call {σ : Type} {d f : Nat} {args : Array Value} (v : σ → Value) (F : σ → Prop) (L' : σ → List Ft) (hon : GOn ops vs o.guard) (hd : o.dst = some d) (hdn : Nat.blt d n = true)
    (hr : ∀ ρ w, Env vs ρ → (execOp ρ o).run P w = .ok (.enter f args) w) (hc : ∀ w, Hp w0 L w → Calls P f args w fun e w' => ∃ s, e = .returned (v s) ∧ F s ∧ Hp w0 (L' s) w')
    (h : ∀ s, F s → SxL P ops Q rest n ((d, v s) :: vs) w0 (L' s)) : SxL P ops Q (o :: rest) n vs w0 L := fun a w K H => by
  refine on_list (hon.on K.env) ?_
  unfold Oper.wp
  rw [hr a.eval w K.env, Oper.upon_enter]
  refine (hc w H).mono fun e w' he => ?_
  obtain ⟨s, rfl, hF, H'⟩ := he
  show wpList P ops Q rest (a.put o.dst _) _
  rw [hd]
  exact h s hF _ _ (K.put hdn _) H'
/-- A call that leaves all that was there as it was. -/
theorem SxL.callB {d f : Nat} {args : Array Value} {v : Value} (hon : GOn ops vs o.guard) (hd : o.dst = some d) (hdn : Nat.blt d n = true)
    (hr : ∀ ρ w, Env vs ρ → (execOp ρ o).run P w = .ok (.enter f args) w) (hc : ∀ w, Hp w0 L w → Calls P f args w fun e w' => e = .returned v ∧ Below w.heap.size w w')
    (h : SxL P ops Q rest n ((d, v) :: vs) w0 L) : SxL P ops Q (o :: rest) n vs w0 L :=
  SxL.call (σ := Unit) (fun _ => v) (fun _ => True) (fun _ => L) hon hd hdn hr (fun w H => (hc w H).mono fun _ _ he => ⟨(), he.1, trivial, H.below he.2⟩) (fun _ _ => h)
/-- The end of a function. -/
theorem SxX.done {fn : Func} {R : Ending → World → Prop} (v : Value) (hres : ∀ a w, Kn n vs a → Hp w0 L w → (results fn a.tmps).run P w = .ok v w)
    (h : ∀ w, Hp w0 L w → R (.returned v) w) : SxX .ret (bodyPost P fn R) n vs w0 L := fun a w K H => bodyPost_ret (hres a w K H) K.df (h w H)
theorem SxN.done {fn : Func} {R : Ending → World → Prop} (v : Value) (hres : ∀ a w, Kn n vs a → Hp w0 L w → (results fn a.tmps).run P w = .ok v w)
    (h : ∀ w, Hp w0 L w → R (.returned v) w) : SxN (bodyPost P fn R) n vs w0 L := fun a w K H => bodyPost_end (hres a w K H) K.df (h w H)
theorem Kn.tmp {a : Act} (K : Kn n vs a) {k : Nat} {v : Value} (h : look vs k = some v) : a.tmps.getD k undef = v := K.vs k v h
theorem res0 {fn : Func} {a : Act} {w : World} (h : fn.results = #[]) : (results fn a.tmps).run P w = .ok (.tuple #[]) w := results_none h _ P w
theorem res1 {fn : Func} {a : Act} {w : World} (K : Kn n vs a) {t : Nat} {v : Value} (h : fn.results = #[.tmp t]) (hv : look vs t = some v) : (results fn a.tmps).run P w = .ok v w := by
  rw [results_tmp h, K.tmp hv]
theorem res2 {fn : Func} {a : Act} {w : World} (K : Kn n vs a) {t u : Nat} {v x : Value} (h : fn.results = #[.tmp t, .tmp u]) (hv : look vs t = some v) (hx : look vs u = some x) : (results fn a.tmps).run P w = .ok (.tuple #[v, x]) w := by
  rw [results_tmp2 h, K.tmp hv, K.tmp hx]
def resV (P : Program) (vs : Vs) (w : World) : List ResultVar → List Value → Prop
  | [], [] => True
  | .tmp t :: rs, v :: l => look vs t = some v ∧ resV P vs w rs l
  | .cell c ty :: rs, v :: l => (∃ g, look vs c = some (.pointer (some g)) ∧ (loadVar ty g).run P w = .ok v w) ∧ resV P vs w rs l
  | _, _ => False
def resOne (tmps : Array Value) : ResultVar → Sem Value
  | .tmp t => pure (tmps.getD t undef)
  | .cell c t => do loadVar t (← asAddr (tmps.getD c undef))
theorem results_one (fn : Func) (tmps : Array Value) : results fn tmps = (do let vs ← fn.results.mapM (resOne tmps); pure (if h : vs.size = 1 then vs[0] else .tuple vs)) := rfl
theorem run_resOne {a : Act} {w : World} (K : Kn n vs a) : ∀ (rs : List ResultVar) (l : List Value), resV P vs w rs l → (rs.mapM (resOne a.tmps)).run P w = .ok l w
  | [], [], _ => rfl
  | [], _ :: _, h => h.elim
  | .tmp _ :: _, [], h => h.elim
  | .cell _ _ :: _, [], h => h.elim
  | .tmp t :: rs, v :: l, ⟨h1, h2⟩ => by
    have e : resOne a.tmps (.tmp t) = pure v := by show pure (a.tmps.getD t undef) = _; rw [K.tmp h1]
    rw [List.mapM_cons, e]
    simp only [Sem.run_bind, Sem.run_pure, Result.andThen_ok, run_resOne K rs l h2]
  | .cell c ty :: rs, v :: l, ⟨⟨g, h1, h3⟩, h2⟩ => by
    have e : resOne a.tmps (.cell c ty) = loadVar ty g := by show (do loadVar ty (← asAddr (a.tmps.getD c undef))) = _; rw [K.tmp h1]; rfl
    rw [List.mapM_cons, e]
    simp only [Sem.run_bind, Sem.run_pure, Result.andThen_ok, h3, run_resOne K rs l h2]
theorem resN {fn : Func} {a : Act} {w : World} (K : Kn n vs a) {rs : List ResultVar} (l : List Value) (h : fn.results = rs.toArray) (hv : resV P vs w rs l) : (results fn a.tmps).run P w = .ok (if h : l.toArray.size = 1 then l.toArray[0] else .tuple l.toArray) w := by
  rw [results_one, h]
  simp only [List.mapM_toArray, Sem.run_bind, Sem.run_pure, Sem.run_map, run_resOne K rs l hv, Result.andThen_ok]
/-- A function entered. -/
theorem sx_enter {f : FuncId} {fn : Func} {c : Code} {R : Ending → World → Prop} (args : List Value) (hf : P.funcs[f]? = some fn) (hb : fn.body = some c) (hn : fn.ntmps = n) (hl : Nat.ble args.length n = true) (H : Hp w0 L w0)
    (h : SxC P c (bodyPost P fn R) n (enum 0 args) w0 L) : Calls P f args.toArray w0 R := by
  refine calls_of_wp hf hb ?_
  rw [hn]
  exact h _ _ (Kn.enter args (by simpa [Nat.ble_eq] using hl)) H
/-- A loop: letters s, a number that falls. -/
def Back {σ : Type} (n : Nat) (w0 : World) (vF : σ → Vs) (LF : σ → List Ft) (F : Nat → σ → Prop) (k : Nat) (a : Act) (w : World) : Prop := ∃ k' s, k' < k ∧ F k' s ∧ Kn n (vF s) a ∧ Hp w0 (LF s) w
theorem SxC.loop {σ : Type} {c : Code} (vF : σ → Vs) (LF : σ → List Ft) (F : Nat → σ → Prop) (k0 : Nat) (s0 : σ) (h0 : F k0 s0) (hs : Sub (vF s0) vs) (is : List Nat) (hp : picks L is = some (LF s0)) (hn : is.Nodup) (hf : Frs w0 is 0 L)
    (round : ∀ k s, F k s → SxC P c (Exit.then (Back n w0 vF LF F k) Q) n (vF s) w0 (LF s)) : SxC P (.loop c) Q n vs w0 L := fun a w K H => by
  refine wp_loop_ghost (fun k a w => ∃ s, F k s ∧ Kn n (vF s) a ∧ Hp w0 (LF s) w) k0 ⟨s0, h0, K.sub hs, H.pick is hp hn hf⟩ ?_
  rintro k a w ⟨s, hF, K, H⟩
  refine wp_mono (round k s hF a w K H) fun e a w h => ?_
  cases e with
  | normal => obtain ⟨k', s', h1, h2, h3, h4⟩ := h; exact ⟨k', h1, s', h2, h3, h4⟩
  | exit id => exact h
  | goto l => exact h
  | ret => exact h
  | panic ch => exact h
  | outgrown => exact h
theorem SxN.back {σ : Type} {vF : σ → Vs} {LF : σ → List Ft} {F : Nat → σ → Prop} {k : Nat} (k' : Nat) (s : σ) (hk : k' < k) (h0 : F k' s) (hs : Sub (vF s) vs) (is : List Nat) (hp : picks L is = some (LF s)) (hn : is.Nodup) (hf : Frs w0 is 0 L) :
    SxN (Exit.then (Back n w0 vF LF F k) Q) n vs w0 L := fun a w K H => ⟨k', s, hk, h0, K.sub hs, H.pick is hp hn hf⟩
end
end Go.Proofs.Yteiaiilfekojfaa.Sx
