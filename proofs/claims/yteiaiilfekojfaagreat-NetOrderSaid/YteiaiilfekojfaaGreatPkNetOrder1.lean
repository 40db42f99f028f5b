/- Texts that the proof of NetOrder leans on, put together (1 of 4). Conditions: each theorem states its own. -/
import Derived.Deep.LoopGhost
import Derived.Test.YteiaiilfekojfaaGreatQNetOrderInvS
import Derived.Test.YteiaiilfekojfaaGreatQNetOrderRow
import Derived.Shelf.Abstract
import Derived.Great.BuildSlice
import Derived.Laws.StructEq
import Derived.Test.YteiaiilfekojfaaGreatProg
import Derived.WalkKit
import Derived.Deep.RegionHeld
import Derived.Lib.SliceRun
import Derived.Test.YteiaiilfekojfaaGreatQNetOrderRowsReads
import Derived.Test.YteiaiilfekojfaaGreatQNetOrderWire
import Derived.Lib.ConvBytes
import Derived.Laws.OwnMore
import Derived.Test.YteiaiilfekojfaaGreatQNetOrderWireRef
import Derived.Test.YteiaiilfekojfaaGreatQNetOrderKeep
import Derived.Test.YteiaiilfekojfaaGreatQNetOrderMapInt
import Derived.Test.YteiaiilfekojfaaGreatQNetOrderCmdLaw
import Derived.Test.YteiaiilfekojfaaGreatQNetOrderBalTake
import Derived.Test.YteiaiilfekojfaaGreatQNetOrderBalPut2
import Derived.Test.YteiaiilfekojfaaGreatQNetOrderFrameTake
import Derived.Test.YteiaiilfekojfaaGreatQNetOrderEqS
import Derived.Test.YteiaiilfekojfaaGreatQNetOrderCmdPutW
import Derived.ArgAppend
import Derived.TacticsIn
import Derived.Test.YteiaiilfekojfaaGreatRange
import Derived.Test.YteiaiilfekojfaaGreatQNetOrderKeepN
import Derived.Test.YteiaiilfekojfaaGreatQNetOrderFrame
import Derived.Test.YteiaiilfekojfaaGreatQNetOrderFrameP
import Derived.ChangeSame
import Derived.Lib.SmallJoins
import Derived.Test.YteiaiilfekojfaaGreatQNetOrderOpenRows
import Derived.Test.YteiaiilfekojfaaGreatQNetOrderBallot
import Derived.Shelf.SlSortCmp.InsertionK
import Derived.Shelf.SlSortCmp.WholeK
import Derived.Shelf.SlSortCmp.NoneTotal
section
set_option linter.unusedVariables false
set_option linter.unusedSimpArgs false
namespace Go.Proofs.YteiaiilfekojfaaGreat.Sx
open Go.RowKit DrawInv

abbrev Vs := List (Nat × Value)
def look : Vs → Nat → Option Value
  | [], _ => none
  | (a, v) :: l, k => bif Nat.beq a k then some v else look l k
def opv (vs : Vs) : Operand → Option Value
  | .tmp k => look vs k
  | .const v => some v
  | .func f => some (.func (.func f) #[] #[])
  | .global _ => none
structure Env (vs : Vs) (ρ : Operand → Value) : Prop where
  cs : Consts ρ
  vs : ∀ k v, look vs k = some v → ρ (.tmp k) = v
theorem Env.ev {vs : Vs} {ρ : Operand → Value} (E : Env vs ρ) {x : Operand} {v : Value} (h : opv vs x = some v) : ρ x = v := by
  cases x with
  | tmp k => exact E.vs k v h
  | const u => exact (E.cs.1 u).trans (Option.some.inj h)
  | func f => exact (E.cs.2 f).trans (Option.some.inj h)
  | global g => cases h
def opvs (vs : Vs) : List Operand → Option (List Value)
  | [] => some []
  | x :: l => match opv vs x, opvs vs l with
    | some v, some r => some (v :: r)
    | _, _ => none
theorem Env.evs {vs : Vs} {ρ : Operand → Value} (E : Env vs ρ) : ∀ {l : List Operand} {r : List Value}, opvs vs l = some r → l.map ρ = r
  | [], r, h => by cases h; rfl
  | x :: l, r, h => by
    unfold opvs at h
    cases h1 : opv vs x with
    | none => rw [h1] at h; cases h
    | some v =>
      cases h2 : opvs vs l with
      | none => rw [h1, h2] at h; cases h
      | some s =>
        rw [h1, h2] at h
        cases h
        rw [List.map_cons, E.ev h1, E.evs h2]
structure Kn (n : Nat) (vs : Vs) (a : Act) : Prop where
  sz : a.tmps.size = n
  df : a.defers = []
  vs : ∀ k v, look vs k = some v → a.eval (.tmp k) = v
theorem Kn.env {n : Nat} {vs : Vs} {a : Act} (K : Kn n vs a) : Env vs a.eval := ⟨⟨fun _ => rfl, fun _ => rfl⟩, K.vs⟩
theorem Kn.put {n : Nat} {vs : Vs} {a : Act} (K : Kn n vs a) {d : Nat} (hd : Nat.blt d n = true) (v : Value) : Kn n ((d, v) :: vs) (a.put (some d) v) := by
  have hd : d < n := by simpa [Nat.blt_eq] using hd
  refine ⟨by rw [← K.sz]; simp [Act.put], K.df, fun k x h => ?_⟩
  unfold look at h
  cases hb : Nat.beq d k with
  | true =>
    rw [hb] at h
    obtain rfl := Nat.eq_of_beq_eq_true hb
    cases h
    exact eval_put_eq (by rw [K.sz]; exact hd)
  | false =>
    rw [hb] at h
    have hne : k ≠ d := fun e => Nat.ne_of_beq_eq_false hb e.symm
    rw [eval_put_ne hne]
    exact K.vs k x h
/-- Slots known, out of others. -/
def Sub (vs' vs : Vs) : Prop := match vs' with
  | [] => True
  | p :: r => look vs p.1 = some p.2 ∧ Sub r vs
theorem Sub.look {vs vs' : Vs} (h : Sub vs' vs) {k : Nat} {v : Value} (hk : Sx.look vs' k = some v) : Sx.look vs k = some v := by
  induction vs' with
  | nil => cases hk
  | cons p r ih =>
    obtain ⟨a, u⟩ := p
    unfold Sx.look at hk
    cases hb : Nat.beq a k with
    | true =>
      rw [hb] at hk
      obtain rfl := Nat.eq_of_beq_eq_true hb
      cases hk
      exact h.1
    | false => rw [hb] at hk; exact ih h.2 hk
theorem Kn.sub {n : Nat} {vs vs' : Vs} {a : Act} (K : Kn n vs a) (h : Sub vs' vs) : Kn n vs' a := ⟨K.sz, K.df, fun k v hk => K.vs k v (h.look hk)⟩
def enum (i : Nat) : List Value → Vs
  | [] => []
  | v :: l => (i, v) :: enum (i + 1) l
theorem look_enum : ∀ (l : List Value) (i k : Nat) (v : Value), look (enum i l) k = some v → i ≤ k ∧ l[k - i]? = some v
  | [], _, _, _, h => by cases h
  | x :: l, i, k, v, h => by
    unfold enum look at h
    cases hb : Nat.beq i k with
    | true =>
      rw [hb] at h
      obtain rfl := Nat.eq_of_beq_eq_true hb
      cases h
      exact ⟨Nat.le_refl _, by simp⟩
    | false =>
      rw [hb] at h
      obtain ⟨h1, h2⟩ := look_enum l (i + 1) k v h
      refine ⟨by omega, ?_⟩
      rw [show k - i = (k - (i + 1)) + 1 by omega]
      simpa using h2
theorem Kn.enter {n : Nat} (args : List Value) (h : args.length ≤ n) : Kn n (enum 0 args) { tmps := args.toArray ++ Array.replicate (n - args.toArray.size) undef, defers := [] } := by
  refine ⟨by simp; omega, rfl, fun k v hk => ?_⟩
  obtain ⟨_, h2⟩ := look_enum args 0 k v hk
  show (args.toArray ++ Array.replicate (n - args.toArray.size) undef).getD k undef = v
  have h3 : k < args.length := (List.getElem?_eq_some_iff.1 h2).1
  rw [Array.getD_eq_getD_getElem?, Array.getElem?_append_left (by simpa using h3)]
  simp at h2 ⊢
  rw [h2]
  rfl

/-- A fact about the memory, and the blocks that it hangs on. -/
structure Ft where
  fp : List Nat
  φ : World → Prop
def Ft.Loc (f : Ft) : Prop := ∀ w w' : World, (∀ g ∈ f.fp, w'.heap[g]? = w.heap[g]?) → f.φ w → f.φ w'
structure Hp (w0 : World) (L : List Ft) (w : World) : Prop where
  os : Outs (L.flatMap (·.fp)) w0 w
  dj : L.Pairwise fun p q => ∀ g ∈ p.fp, g ∉ q.fp
  ok : ∀ p ∈ L, p.Loc ∧ (∀ g ∈ p.fp, g < w.heap.size) ∧ p.φ w
def nth : List Ft → Nat → Option Ft
  | [], _ => none
  | f :: _, 0 => some f
  | _ :: l, i + 1 => nth l i
def putF : List Ft → Nat → Ft → List Ft
  | [], _, _ => []
  | _ :: l, 0, f => f :: l
  | x :: l, i + 1, f => x :: putF l i f
theorem nth_mem : ∀ {L : List Ft} {i : Nat} {f : Ft}, nth L i = some f → f ∈ L
  | f :: l, 0, _, h => by cases h; exact List.mem_cons_self ..
  | x :: l, i + 1, f, h => List.mem_cons_of_mem _ (nth_mem (L := l) h)
theorem mem_putF : ∀ {L : List Ft} {i : Nat} {f x : Ft}, x ∈ putF L i f → x = f ∨ x ∈ L
  | [], _, _, _, h => by cases h
  | y :: l, 0, f, x, h => by
    rcases List.mem_cons.1 h with rfl | h
    · exact .inl rfl
    · exact .inr (List.mem_cons_of_mem _ h)
  | y :: l, i + 1, f, x, h => by
    rcases List.mem_cons.1 h with rfl | h
    · exact .inr (List.mem_cons_self ..)
    · exact (mem_putF h).imp id (List.mem_cons_of_mem _)
theorem Hp.start (w : World) : Hp w [] w := ⟨Outs.refl _ _, .nil, fun _ h => by cases h⟩
theorem Hp.get {w0 w : World} {L : List Ft} (H : Hp w0 L w) {i : Nat} {f : Ft} (h : nth L i = some f) : f.φ w := (H.ok f (nth_mem h)).2.2
theorem _root_.Go.Proofs.YteiaiilfekojfaaGreat.DrawInv.Outs.mono {S S' : List Nat} {w w' : World} (h : Outs S w w') (hs : ∀ g ∈ S, g < w.heap.size → g ∈ S') : Outs S' w w' := ⟨h.os, h.tape, h.output, h.size, fun k hk hn => h.block k hk fun hm => hn (hs k hm hk)⟩
theorem _root_.Go.Proofs.YteiaiilfekojfaaGreat.DrawInv.Outs.then_ {S T : List Nat} {a b c : World} (h : Outs S a b) (k : Outs T b c) (hT : ∀ g ∈ T, g < a.heap.size → g ∈ S) : Outs S a c :=
  ⟨k.os.trans h.os, k.tape.trans h.tape, k.output.trans h.output, Nat.le_trans h.size k.size, fun i hi hn => (k.block i (Nat.lt_of_lt_of_le hi h.size) fun hm => hn (hT i hm hi)).trans (h.block i hi hn)⟩
theorem Hp.below {w0 w w' : World} {L : List Ft} (H : Hp w0 L w) (hb : Below w.heap.size w w') : Hp w0 L w' :=
  ⟨H.os.then_ (Outs.of_below (S := []) hb) (fun _ h => by cases h), H.dj, fun p hp => by
    obtain ⟨h1, h2, h3⟩ := H.ok p hp
    exact ⟨h1, fun g hg => Nat.lt_of_lt_of_le (h2 g hg) hb.size, h1 w w' (fun g hg => hb.block g (h2 g hg)) h3⟩⟩
/-- A fact of new memory. -/
theorem Hp.add {w0 w w' : World} {L : List Ft} (H : Hp w0 L w) (hb : Below w.heap.size w w') (f : Ft) (hl : f.Loc) (hfp : ∀ g ∈ f.fp, g < w'.heap.size ∧ w.heap.size ≤ g) (hf : f.φ w') : Hp w0 (f :: L) w' := by
  have h := H.below hb
  refine ⟨h.os.mono fun g hg _ => by simp only [List.flatMap_cons, List.mem_append]; exact .inr hg, List.pairwise_cons.2 ⟨fun q hq g hg hgq => ?_, H.dj⟩, fun p hp => ?_⟩
  · have := (H.ok q hq).2.1 g hgq
    have := (hfp g hg).2
    omega
  · rcases List.mem_cons.1 hp with rfl | hp
    · exact ⟨hl, fun g hg => (hfp g hg).1, hf⟩
    · exact h.ok p hp
/-- A fact of elder memory. -/
theorem Hp.know {w0 w : World} {L : List Ft} (H : Hp w0 L w) (f : Ft) (hl : f.Loc) (hfp : ∀ g ∈ f.fp, g < w.heap.size ∧ ∀ q ∈ L, g ∉ q.fp) (hf : f.φ w) : Hp w0 (f :: L) w := by
  refine ⟨H.os.mono fun g hg _ => by simp only [List.flatMap_cons, List.mem_append]; exact .inr hg, List.pairwise_cons.2 ⟨fun q hq g hg => (hfp g hg).2 q hq, H.dj⟩, fun p hp => ?_⟩
  rcases List.mem_cons.1 hp with rfl | hp
  · exact ⟨hl, fun g hg => (hfp g hg).1, hf⟩
  · exact H.ok p hp
/-- A fact turned: only the blocks that it hung on have changed; what it hangs on now is of these, or new. -/
theorem chg_aux {w w' : World} : ∀ {L : List Ft} {i : Nat} {f f' : Ft}, nth L i = some f → (L.Pairwise fun p q => ∀ g ∈ p.fp, g ∉ q.fp) → (∀ p ∈ L, p.Loc ∧ (∀ g ∈ p.fp, g < w.heap.size) ∧ p.φ w) → Outs f.fp w w' → f'.Loc →
    (∀ g ∈ f'.fp, g < w'.heap.size ∧ (g ∈ f.fp ∨ w.heap.size ≤ g)) → f'.φ w' →
    ((putF L i f').Pairwise fun p q => ∀ g ∈ p.fp, g ∉ q.fp) ∧ (∀ p ∈ putF L i f', p.Loc ∧ (∀ g ∈ p.fp, g < w'.heap.size) ∧ p.φ w')
  | x :: l, 0, f, f', hi, hd, hok, hc, hl, hfp, hf => by
    cases hi
    obtain ⟨hd1, hd2⟩ := List.pairwise_cons.1 hd
    refine ⟨List.pairwise_cons.2 ⟨fun q hq g hg hgq => ?_, hd2⟩, fun p hp => ?_⟩
    · rcases (hfp g hg).2 with h | h
      · exact hd1 q hq g h hgq
      · have := (hok q (List.mem_cons_of_mem _ hq)).2.1 g hgq; omega
    · rcases List.mem_cons.1 hp with rfl | hp
      · exact ⟨hl, fun g hg => (hfp g hg).1, hf⟩
      · obtain ⟨h1, h2, h3⟩ := hok p (List.mem_cons_of_mem _ hp)
        exact ⟨h1, fun g hg => Nat.lt_of_lt_of_le (h2 g hg) hc.size, h1 w w' (fun g hg => hc.block g (h2 g hg) fun hx => hd1 p hp g hx hg) h3⟩
  | x :: l, i + 1, f, f', hi, hd, hok, hc, hl, hfp, hf => by
    obtain ⟨hd1, hd2⟩ := List.pairwise_cons.1 hd
    have hm : f ∈ l := nth_mem (L := l) hi
    obtain ⟨r1, r2⟩ := chg_aux (L := l) (i := i) hi hd2 (fun p hp => hok p (List.mem_cons_of_mem _ hp)) hc hl hfp hf
    obtain ⟨h1, h2, h3⟩ := hok x (List.mem_cons_self ..)
    refine ⟨List.pairwise_cons.2 ⟨fun q hq g hg hgq => ?_, r1⟩, fun p hp => ?_⟩
    · rcases mem_putF hq with rfl | hq
      · rcases (hfp g hgq).2 with h | h
        · exact hd1 f hm g hg h
        · have := h2 g hg; omega
      · exact hd1 q hq g hg hgq
    · rcases List.mem_cons.1 hp with rfl | hp
      · exact ⟨h1, fun g hg => Nat.lt_of_lt_of_le (h2 g hg) hc.size, h1 w w' (fun g hg => hc.block g (h2 g hg) fun hx => hd1 f hm g hg hx) h3⟩
      · exact r2 p hp
theorem fp_put : ∀ {L : List Ft} {i : Nat} {f f' : Ft}, nth L i = some f → ∀ g ∈ L.flatMap (·.fp), g ∈ (putF L i f').flatMap (·.fp) ∨ g ∈ f.fp
  | x :: l, 0, f, f', hi, g, hg => by
    cases hi
    simp only [List.flatMap_cons, List.mem_append] at hg
    rcases hg with h | h
    · exact .inr h
    · exact .inl (by show g ∈ (f' :: l).flatMap _; simp only [List.flatMap_cons, List.mem_append]; exact .inr h)
  | x :: l, i + 1, f, f', hi, g, hg => by
    simp only [List.flatMap_cons, List.mem_append] at hg
    show g ∈ (x :: putF l i f').flatMap _ ∨ _
    simp only [List.flatMap_cons, List.mem_append]
    rcases hg with h | h
    · exact .inl (.inl h)
    · exact (fp_put (L := l) (i := i) hi g h).imp .inr id
theorem put_mem : ∀ {L : List Ft} {i : Nat} {f f' : Ft}, nth L i = some f → f' ∈ putF L i f'
  | x :: l, 0, f, f', _ => List.mem_cons_self ..
  | x :: l, i + 1, f, f', hi => List.mem_cons_of_mem _ (put_mem (L := l) (i := i) hi)
theorem Hp.chg {w0 w w' : World} {L : List Ft} (H : Hp w0 L w) {i : Nat} {f : Ft} (hi : nth L i = some f) (f' : Ft) (hc : Outs f.fp w w') (hl : f'.Loc)
    (hfp : ∀ g ∈ f'.fp, g < w'.heap.size ∧ (g ∈ f.fp ∨ w.heap.size ≤ g)) (hfr : ∀ g ∈ f.fp, g ∈ f'.fp ∨ w0.heap.size ≤ g) (hf : f'.φ w') : Hp w0 (putF L i f') w' := by
  obtain ⟨r1, r2⟩ := chg_aux hi H.dj H.ok hc hl hfp hf
  have hm : f ∈ L := nth_mem hi
  refine ⟨?_, r1, r2⟩
  refine (H.os.then_ hc fun g hg _ => List.mem_flatMap.2 ⟨f, hm, hg⟩).mono fun g hg hlt => ?_
  rcases fp_put (f' := f') hi g hg with h | h
  · exact h
  · rcases hfr g h with h | h
    · exact List.mem_flatMap.2 ⟨f', put_mem hi, h⟩
    · omega
def allF : List Ft → (Ft → Prop) → Prop
  | [], _ => True
  | f :: l, Q => Q f ∧ allF l Q
theorem allF.mem {Q : Ft → Prop} : ∀ {L : List Ft}, allF L Q → ∀ f ∈ L, Q f
  | [], _, f, h => by cases h
  | x :: l, hq, f, h => by
    rcases List.mem_cons.1 h with rfl | h
    · exact hq.1
    · exact allF.mem hq.2 f h
/-- Facts dropped whose blocks are new; facts in another order. -/
def picks (L : List Ft) : List Nat → Option (List Ft)
  | [] => some []
  | i :: is => match nth L i, picks L is with
    | some f, some r => some (f :: r)
    | _, _ => none
theorem nth_ne {R : Ft → Ft → Prop} (hR : ∀ p q, R p q → R q p) : ∀ {L : List Ft} {i j : Nat} {f g : Ft}, L.Pairwise R → nth L i = some f → nth L j = some g → i ≠ j → R f g
  | x :: l, 0, 0, _, _, _, _, _, hne => absurd rfl hne
  | x :: l, 0, j + 1, f, g, hp, hi, hj, _ => by cases hi; exact (List.pairwise_cons.1 hp).1 g (nth_mem (L := l) hj)
  | x :: l, i + 1, 0, f, g, hp, hi, hj, _ => by cases hj; exact hR _ _ ((List.pairwise_cons.1 hp).1 f (nth_mem (L := l) hi))
  | x :: l, i + 1, j + 1, f, g, hp, hi, hj, hne => nth_ne hR (L := l) (i := i) (j := j) (List.pairwise_cons.1 hp).2 hi hj (fun e => hne (by rw [e]))
theorem picks_mem {L : List Ft} : ∀ {is : List Nat} {L' : List Ft}, picks L is = some L' → ∀ f ∈ L', ∃ i ∈ is, nth L i = some f
  | [], L', h, f, hf => by cases h; cases hf
  | i :: is, L', h, f, hf => by
    unfold picks at h
    cases h1 : nth L i with
    | none => rw [h1] at h; cases h
    | some x =>
      cases h2 : picks L is with
      | none => rw [h1, h2] at h; cases h
      | some r =>
        rw [h1, h2] at h
        cases h
        rcases List.mem_cons.1 hf with rfl | hf
        · exact ⟨i, List.mem_cons_self .., h1⟩
        · obtain ⟨j, hj, e⟩ := picks_mem h2 f hf
          exact ⟨j, List.mem_cons_of_mem _ hj, e⟩
theorem picks_pw {L : List Ft} (hd : L.Pairwise fun p q => ∀ g ∈ p.fp, g ∉ q.fp) : ∀ {is : List Nat} {L' : List Ft}, picks L is = some L' → is.Nodup → L'.Pairwise fun p q => ∀ g ∈ p.fp, g ∉ q.fp
  | [], L', h, _ => by cases h; exact .nil
  | i :: is, L', h, hn => by
    unfold picks at h
    cases h1 : nth L i with
    | none => rw [h1] at h; cases h
    | some x =>
      cases h2 : picks L is with
      | none => rw [h1, h2] at h; cases h
      | some r =>
        rw [h1, h2] at h
        cases h
        obtain ⟨n1, n2⟩ := List.nodup_cons.1 hn
        refine List.pairwise_cons.2 ⟨fun q hq => ?_, picks_pw hd h2 n2⟩
        obtain ⟨j, hj, e⟩ := picks_mem h2 q hq
        exact nth_ne (R := fun p q => ∀ g ∈ p.fp, g ∉ q.fp) (fun p q h g hg hgp => h g hgp hg) hd h1 e (fun e => n1 (e ▸ hj))
def Frs (w0 : World) (is : List Nat) : Nat → List Ft → Prop
  | _, [] => True
  | i, f :: l => (is.contains i = true ∨ ∀ g ∈ f.fp, w0.heap.size ≤ g) ∧ Frs w0 is (i + 1) l
theorem frs_mem {w0 : World} {is : List Nat} : ∀ {L : List Ft} {i : Nat}, Frs w0 is i L → ∀ f ∈ L, (∃ j, is.contains (i + j) = true ∧ nth L j = some f) ∨ ∀ g ∈ f.fp, w0.heap.size ≤ g
  | [], _, _, f, h => by cases h
  | x :: l, i, hq, f, h => by
    rcases List.mem_cons.1 h with rfl | h
    · exact hq.1.imp (fun h => ⟨0, h, rfl⟩) id
    · exact (frs_mem hq.2 f h).imp (fun ⟨j, h1, h2⟩ => ⟨j + 1, by rw [show i + (j + 1) = i + 1 + j by omega]; exact h1, h2⟩) id
theorem picks_has {L : List Ft} : ∀ {is : List Nat} {L' : List Ft}, picks L is = some L' → ∀ i ∈ is, ∀ f, nth L i = some f → f ∈ L'
  | [], _, _, i, h, _, _ => by cases h
  | j :: is, L', h, i, hi, f, hf => by
    unfold picks at h
    cases h1 : nth L j with
    | none => rw [h1] at h; cases h
    | some x =>
      cases h2 : picks L is with
      | none => rw [h1, h2] at h; cases h
      | some r =>
        rw [h1, h2] at h
        cases h
        rcases List.mem_cons.1 hi with rfl | hi
        · rw [h1] at hf; cases hf; exact List.mem_cons_self ..
        · exact List.mem_cons_of_mem _ (picks_has h2 i hi f hf)
theorem Hp.pick {w0 w : World} {L L' : List Ft} (H : Hp w0 L w) (is : List Nat) (hp : picks L is = some L') (hn : is.Nodup) (hf : Frs w0 is 0 L) : Hp w0 L' w := by
  refine ⟨H.os.mono fun g hg hlt => ?_, picks_pw H.dj hp hn, fun p hpm => ?_⟩
  · obtain ⟨f, hfm, hgf⟩ := List.mem_flatMap.1 hg
    rcases frs_mem hf f hfm with ⟨j, hj, e⟩ | h
    · exact List.mem_flatMap.2 ⟨f, picks_has hp j (by rw [Nat.zero_add] at hj; simpa using hj) f e, hgf⟩
    · have := h g hgf; omega
  · obtain ⟨i, _, e⟩ := picks_mem hp p hpm
    exact H.ok p (nth_mem e)
/-- At the end: all that was there lies as it lay; or but for one block. -/
theorem Hp.toBelow {w0 w : World} {L : List Ft} (H : Hp w0 L w) (hf : allF L fun f => ∀ g ∈ f.fp, w0.heap.size ≤ g) : Below w0.heap.size w0 w :=
  ⟨H.os.os, H.os.tape, H.os.output, H.os.size, fun k hk => H.os.block k hk fun hm => by
    obtain ⟨f, hfm, hg⟩ := List.mem_flatMap.1 hm
    have := hf.mem f hfm k hg
    omega⟩
theorem Hp.toGrown {w0 w : World} {L : List Ft} (H : Hp w0 L w) (b : Nat) (hf : allF L fun f => ∀ g ∈ f.fp, g = b ∨ w0.heap.size ≤ g) : w0.grownBy w (some b) :=
  ⟨H.os.os, H.os.tape, H.os.output, H.os.size, fun k hk hne => H.os.block k hk fun hm => by
    obtain ⟨f, hfm, hg⟩ := List.mem_flatMap.1 hm
    rcases hf.mem f hfm k hg with h | h
    · exact hne (by rw [h])
    · omega⟩
/-- A block known whole. -/
def cell (g : Nat) (t : TypeId) (cs : List Value) : Ft := ⟨[g], fun w => Blk w g t cs.toArray⟩
theorem cell_loc (g : Nat) (t : TypeId) (cs : List Value) : (cell g t cs).Loc := fun w w' h hb => (h g (List.mem_singleton.2 rfl)).trans hb
/-! ## The walk -/
section
variable {P : Program} {ops : Array Oper} {Q Q' : Exit → Act → World → Prop} {n : Nat} {vs : Vs} {w0 : World} {L : List Ft} {o : Oper} {rest : List Oper}
def SxL (P : Program) (ops : Array Oper) (Q : Exit → Act → World → Prop) (rest : List Oper) (n : Nat) (vs : Vs) (w0 : World) (L : List Ft) : Prop := ∀ a w, Kn n vs a → Hp w0 L w → wpList P ops Q rest a w
def SxC (P : Program) (c : Code) (Q : Exit → Act → World → Prop) (n : Nat) (vs : Vs) (w0 : World) (L : List Ft) : Prop := ∀ a w, Kn n vs a → Hp w0 L w → c.wp P Q a w
def SxN (Q : Exit → Act → World → Prop) (n : Nat) (vs : Vs) (w0 : World) (L : List Ft) : Prop := ∀ a w, Kn n vs a → Hp w0 L w → Q .normal a w
theorem SxL.nil (h : SxN Q n vs w0 L) : SxL P ops Q [] n vs w0 L := h
theorem SxN.then_ {y : Code} (h : SxC P y Q n vs w0 L) : SxN (Exit.then (y.wp P Q) Q') n vs w0 L := h
theorem SxN.block {id : Nat} (h : SxN Q n vs w0 L) : SxN (Exit.inBlock id Q) n vs w0 L := h
theorem SxC.seq {x y : Code} (h : SxC P x (Exit.then (y.wp P Q) Q) n vs w0 L) : SxC P (.seq x y) Q n vs w0 L := fun a w K H => wp_seq (h a w K H)
theorem SxC.skip (h : SxN Q n vs w0 L) : SxC P .skip Q n vs w0 L := fun a w K H => wp_skip (h a w K H)
theorem SxC.block {id : Nat} {c : Code} (h : SxC P c (Exit.inBlock id Q) n vs w0 L) : SxC P (.block id c) Q n vs w0 L := fun a w K H => wp_block (h a w K H)
/-- Ways out: an exit, a return. -/
def SxX (e : Exit) (Q : Exit → Act → World → Prop) (n : Nat) (vs : Vs) (w0 : World) (L : List Ft) : Prop := ∀ a w, Kn n vs a → Hp w0 L w → Q e a w
theorem SxC.exit {id : Nat} (h : SxX (.exit id) Q n vs w0 L) : SxC P (.exit id) Q n vs w0 L := fun a w K H => wp_exit (h a w K H)
theorem SxC.ret (h : SxX .ret Q n vs w0 L) : SxC P .ret Q n vs w0 L := fun a w K H => wp_ret (h a w K H)
theorem SxX.thenE {id : Nat} {K : Act → World → Prop} (h : SxX (.exit id) Q n vs w0 L) : SxX (.exit id) (Exit.then K Q) n vs w0 L := h
theorem SxX.thenR {K : Act → World → Prop} (h : SxX .ret Q n vs w0 L) : SxX .ret (Exit.then K Q) n vs w0 L := h
theorem SxX.blockR {id : Nat} (h : SxX .ret Q n vs w0 L) : SxX .ret (Exit.inBlock id Q) n vs w0 L := h
theorem SxX.blockE {id : Nat} (h : SxN Q n vs w0 L) : SxX (.exit id) (Exit.inBlock id Q) n vs w0 L := fun a w K H => by
  show (if id = id then Q .normal a w else Q (.exit id) a w)
  rw [if_pos rfl]
  exact h a w K H
theorem SxC.region {id : Nat} {l : List Oper} (h : SxL P l.toArray Q l n vs w0 L) : SxC P (.region id l.toArray false) Q n vs w0 L := fun a w K H => wp_region_lit (h a w K H)
theorem SxC.condT {c : Operand} {x y : Code} (hc : opv vs c = some (.bool true)) (h : SxC P x Q n vs w0 L) : SxC P (.cond c x y) Q n vs w0 L := fun a w K H => wp_cond_true (K.env.ev hc) (h a w K H)
theorem SxC.condF {c : Operand} {x y : Code} (hc : opv vs c = some (.bool false)) (h : SxC P y Q n vs w0 L) : SxC P (.cond c x y) Q n vs w0 L := fun a w K H => wp_cond_false (K.env.ev hc) (h a w K H)
theorem SxC.sub {c : Code} {vs' : Vs} {L' : List Ft} (h : SxC P c Q n vs' w0 L') (hs : Sub vs' vs) (is : List Nat) (hp : picks L is = some L') (hn : is.Nodup) (hf : Frs w0 is 0 L) : SxC P c Q n vs w0 L :=
  fun a w K H => h a w (K.sub hs) (H.pick is hp hn hf)
/-- Facts come to be known. -/
theorem SxC.with {c : Code} {p : Prop} (hp : ∀ w, Hp w0 L w → p) (h : p → SxC P c Q n vs w0 L) : SxC P c Q n vs w0 L := fun a w K H => h (hp w H) a w K H
def GOn (ops : Array Oper) (vs : Vs) : Option (Nat × Bool) → Prop
  | none => True
  | some (j, b) => ∃ oj dj, ops[j]? = some oj ∧ oj.dst = some dj ∧ look vs dj = some (.bool b)
def GOff (ops : Array Oper) (vs : Vs) : Option (Nat × Bool) → Prop
  | none => False
  | some (j, b) => ∃ oj dj x, ops[j]? = some oj ∧ oj.dst = some dj ∧ look vs dj = some x ∧ x ≠ .bool b
theorem GOn.on {ρ : Operand → Value} {g : Option (Nat × Bool)} (h : GOn ops vs g) (E : Env vs ρ) : On ops ρ g := by
  cases g with
  | none => trivial
  | some p => obtain ⟨j, b⟩ := p; obtain ⟨oj, dj, h1, h2, h3⟩ := h; exact ⟨oj, dj, h1, h2, E.vs dj _ h3⟩
theorem GOff.off {ρ : Operand → Value} {g : Option (Nat × Bool)} (h : GOff ops vs g) (E : Env vs ρ) : Off ops ρ g := by
  cases g with
  | none => exact h.elim
  | some p => obtain ⟨j, b⟩ := p; obtain ⟨oj, dj, x, h1, h2, h3, h4⟩ := h; exact ⟨oj, dj, x, h1, h2, E.vs dj _ h3, h4⟩
theorem on_list {a : Act} {w : World} (hon : On ops a.eval o.guard) (h : o.wp P a w (wpList P ops Q rest) Q) : wpList P ops Q (o :: rest) a w := by
  unfold wpList
  rw [if_pos hon.wanted]
  exact .inl h
/-- An operation that leaves the world alone. -/
theorem SxL.val {d : Nat} {v : Value} (hon : GOn ops vs o.guard) (hd : o.dst = some d) (hdn : Nat.blt d n = true) (hr : ∀ ρ w, Env vs ρ → Hp w0 L w → (execOp ρ o).run P w = .ok (.value v) w)
    (h : SxL P ops Q rest n ((d, v) :: vs) w0 L) : SxL P ops Q (o :: rest) n vs w0 L := fun a w K H => by
  refine on_list (hon.on K.env) ?_
  unfold Oper.wp
  rw [hr a.eval w K.env H]
  show wpList P ops Q rest (a.put o.dst v) w
  rw [hd]
  exact h _ _ (K.put hdn v) H
/-- An operation that tells a bool. -/
theorem SxL.valB {d : Nat} {b : Bool} (hon : GOn ops vs o.guard) (hd : o.dst = some d) (hdn : Nat.blt d n = true) (hr : ∀ ρ w, Env vs ρ → Hp w0 L w → (execOp ρ o).run P w = .ok (.value (.bool b)) w)
    (h : ∀ t, b = t → SxL P ops Q rest n ((d, .bool t) :: vs) w0 L) : SxL P ops Q (o :: rest) n vs w0 L := SxL.val hon hd hdn hr (h b rfl)
/-- An operation that is off. -/
theorem SxL.off {d : Nat} (hoff : GOff ops vs o.guard) (hd : o.dst = some d) (hdn : Nat.blt d n = true) (h : SxL P ops Q rest n ((d, undef) :: vs) w0 L) : SxL P ops Q (o :: rest) n vs w0 L := fun a w K H => by
  unfold wpList
  rw [if_neg (by rw [(hoff.off K.env).wanted]; decide), hd]
  exact h _ _ (K.put hdn undef) H
/-- An operation that lays a new block. -/
theorem SxL.new {d : Nat} {t : TypeId} {cs : List Value} (hon : GOn ops vs o.guard) (hd : o.dst = some d) (hdn : Nat.blt d n = true)
    (hr : ∀ ρ w, Env vs ρ → Hp w0 L w → (execOp ρ o).run P w = .ok (.value (.pointer (some ⟨w.heap.size, 0, none⟩))) (w.alloc (.cells cs.toArray t)))
    (h : ∀ g, w0.heap.size ≤ g → SxL P ops Q rest n ((d, .pointer (some ⟨g, 0, none⟩)) :: vs) w0 (cell g t cs :: L)) : SxL P ops Q (o :: rest) n vs w0 L := fun a w K H => by
  refine on_list (hon.on K.env) ?_
  unfold Oper.wp
  rw [hr a.eval w K.env H]
  show wpList P ops Q rest (a.put o.dst _) _
  rw [hd]
  refine h w.heap.size H.os.size _ _ (K.put hdn _) (H.add ((Below.refl _ w).alloc (Nat.le_refl _) _) _ (cell_loc _ _ _) (fun g hg => ?_) (Blk.new w t cs.toArray))
  obtain rfl := List.mem_singleton.1 hg
  exact ⟨by rw [World.alloc, Array.size_push]; omega, Nat.le_refl _⟩
/-- An operation that turns a block. -/
theorem SxL.turn {i g : Nat} {t : TypeId} {cs : List Value} (cs' : List Value) (hon : GOn ops vs o.guard) (hd : o.dst = none) (hi : nth L i = some (cell g t cs))
    (hr : ∀ ρ w, Env vs ρ → Hp w0 L w → ∃ w', (execOp ρ o).run P w = .ok .skip w' ∧ Blk w' g t cs'.toArray ∧ w.grownBy w' (some g))
    (h : SxL P ops Q rest n vs w0 (putF L i (cell g t cs'))) : SxL P ops Q (o :: rest) n vs w0 L := fun a w K H => by
  refine on_list (hon.on K.env) ?_
  unfold Oper.wp
  obtain ⟨w', hr, hb, hg⟩ := hr a.eval w K.env H
  rw [hr]
  show wpList P ops Q rest (a.put o.dst _) _
  rw [hd]
  refine h _ _ K (H.chg hi _ (Outs.of_grown hg (List.mem_singleton.2 rfl)) (cell_loc _ _ _) (fun g' hg' => ?_) (fun g' hg' => .inl hg') hb)
  obtain rfl := List.mem_singleton.1 hg'
  exact ⟨hb.lt, .inl (List.mem_singleton.2 rfl)⟩
/-- A call. -/
theorem SxL.call {σ : Type} {d f : Nat} {args : Array Value} (v : σ → Value) (F : σ → Prop) (L' : σ → List Ft) (hon : GOn ops vs o.guard) (hd : o.dst = some d) (hdn : Nat.blt d n = true)
    (hr : ∀ ρ w, Env vs ρ → (execOp ρ o).run P w = .ok (.enter f args) w) (hc : ∀ w, Hp w0 L w → Calls P f args w fun e w' => ∃ s, e = .returned (v s) ∧ F s ∧ Hp w0 (L' s) w')
    (h : ∀ s, F s → SxL P ops Q rest n ((d, v s) :: vs) w0 (L' s)) : SxL P ops Q (o :: rest) n vs w0 L := fun a w K H => by
  refine on_list (hon.on K.env) ?_
  unfold Oper.wp
  rw [hr a.eval w K.env, Oper.upon_enter]
  refine (hc w H).mono fun e w' he => ?_
  obtain ⟨s, rfl, hF, H'⟩ := he
  show wpList P ops Q rest (a.put o.dst _) _
  rw [hd]
  exact h s hF _ _ (K.put hdn _) H'
/-- A call that leaves all that was there as it was. -/
theorem SxL.callB {d f : Nat} {args : Array Value} {v : Value} (hon : GOn ops vs o.guard) (hd : o.dst = some d) (hdn : Nat.blt d n = true)
    (hr : ∀ ρ w, Env vs ρ → (execOp ρ o).run P w = .ok (.enter f args) w) (hc : ∀ w, Hp w0 L w → Calls P f args w fun e w' => e = .returned v ∧ Below w.heap.size w w')
    (h : SxL P ops Q rest n ((d, v) :: vs) w0 L) : SxL P ops Q (o :: rest) n vs w0 L :=
  SxL.call (σ := Unit) (fun _ => v) (fun _ => True) (fun _ => L) hon hd hdn hr (fun w H => (hc w H).mono fun _ _ he => ⟨(), he.1, trivial, H.below he.2⟩) (fun _ _ => h)
/-- The end of a function. -/
theorem SxX.done {fn : Func} {R : Ending → World → Prop} (v : Value) (hres : ∀ a w, Kn n vs a → Hp w0 L w → (results fn a.tmps).run P w = .ok v w)
    (h : ∀ w, Hp w0 L w → R (.returned v) w) : SxX .ret (bodyPost P fn R) n vs w0 L := fun a w K H => bodyPost_ret (hres a w K H) K.df (h w H)
theorem SxN.done {fn : Func} {R : Ending → World → Prop} (v : Value) (hres : ∀ a w, Kn n vs a → Hp w0 L w → (results fn a.tmps).run P w = .ok v w)
    (h : ∀ w, Hp w0 L w → R (.returned v) w) : SxN (bodyPost P fn R) n vs w0 L := fun a w K H => bodyPost_end (hres a w K H) K.df (h w H)
theorem Kn.tmp {a : Act} (K : Kn n vs a) {k : Nat} {v : Value} (h : look vs k = some v) : a.tmps.getD k undef = v := K.vs k v h
theorem res0 {fn : Func} {a : Act} {w : World} (h : fn.results = #[]) : (results fn a.tmps).run P w = .ok (.tuple #[]) w := results_none h _ P w
theorem res1 {fn : Func} {a : Act} {w : World} (K : Kn n vs a) {t : Nat} {v : Value} (h : fn.results = #[.tmp t]) (hv : look vs t = some v) : (results fn a.tmps).run P w = .ok v w := by
  rw [results_tmp h, K.tmp hv]
theorem res2 {fn : Func} {a : Act} {w : World} (K : Kn n vs a) {t u : Nat} {v x : Value} (h : fn.results = #[.tmp t, .tmp u]) (hv : look vs t = some v) (hx : look vs u = some x) : (results fn a.tmps).run P w = .ok (.tuple #[v, x]) w := by
  rw [results_tmp2 h, K.tmp hv, K.tmp hx]
def resV (P : Program) (vs : Vs) (w : World) : List ResultVar → List Value → Prop
  | [], [] => True
  | .tmp t :: rs, v :: l => look vs t = some v ∧ resV P vs w rs l
  | .cell c ty :: rs, v :: l => (∃ g, look vs c = some (.pointer (some g)) ∧ (loadVar ty g).run P w = .ok v w) ∧ resV P vs w rs l
  | _, _ => False
def resOne (tmps : Array Value) : ResultVar → Sem Value
  | .tmp t => pure (tmps.getD t undef)
  | .cell c t => do loadVar t (← asAddr (tmps.getD c undef))
theorem results_one (fn : Func) (tmps : Array Value) : results fn tmps = (do let vs ← fn.results.mapM (resOne tmps); pure (if h : vs.size = 1 then vs[0] else .tuple vs)) := rfl
theorem run_resOne {a : Act} {w : World} (K : Kn n vs a) : ∀ (rs : List ResultVar) (l : List Value), resV P vs w rs l → (rs.mapM (resOne a.tmps)).run P w = .ok l w
  | [], [], _ => rfl
  | [], _ :: _, h => h.elim
  | .tmp _ :: _, [], h => h.elim
  | .cell _ _ :: _, [], h => h.elim
  | .tmp t :: rs, v :: l, ⟨h1, h2⟩ => by
    have e : resOne a.tmps (.tmp t) = pure v := by show pure (a.tmps.getD t undef) = _; rw [K.tmp h1]
    rw [List.mapM_cons, e]
    simp only [Sem.run_bind, Sem.run_pure, Result.andThen_ok, run_resOne K rs l h2]
  | .cell c ty :: rs, v :: l, ⟨⟨g, h1, h3⟩, h2⟩ => by
    have e : resOne a.tmps (.cell c ty) = loadVar ty g := by show (do loadVar ty (← asAddr (a.tmps.getD c undef))) = _; rw [K.tmp h1]; rfl
    rw [List.mapM_cons, e]
    simp only [Sem.run_bind, Sem.run_pure, Result.andThen_ok, h3, run_resOne K rs l h2]
theorem resN {fn : Func} {a : Act} {w : World} (K : Kn n vs a) {rs : List ResultVar} (l : List Value) (h : fn.results = rs.toArray) (hv : resV P vs w rs l) : (results fn a.tmps).run P w = .ok (if h : l.toArray.size = 1 then l.toArray[0] else .tuple l.toArray) w := by
  rw [results_one, h]
  simp only [List.mapM_toArray, Sem.run_bind, Sem.run_pure, Sem.run_map, run_resOne K rs l hv, Result.andThen_ok]
/-- A function entered. -/
theorem sx_enter {f : FuncId} {fn : Func} {c : Code} {R : Ending → World → Prop} (args : List Value) (hf : P.funcs[f]? = some fn) (hb : fn.body = some c) (hn : fn.ntmps = n) (hl : Nat.ble args.length n = true) (H : Hp w0 L w0)
    (h : SxC P c (bodyPost P fn R) n (enum 0 args) w0 L) : Calls P f args.toArray w0 R := by
  refine calls_of_wp hf hb ?_
  rw [hn]
  exact h _ _ (Kn.enter args (by simpa [Nat.ble_eq] using hl)) H
/-- A loop: letters s, a number that falls. -/
def Back {σ : Type} (n : Nat) (w0 : World) (vF : σ → Vs) (LF : σ → List Ft) (F : Nat → σ → Prop) (k : Nat) (a : Act) (w : World) : Prop := ∃ k' s, k' < k ∧ F k' s ∧ Kn n (vF s) a ∧ Hp w0 (LF s) w
theorem SxC.loop {σ : Type} {c : Code} (vF : σ → Vs) (LF : σ → List Ft) (F : Nat → σ → Prop) (k0 : Nat) (s0 : σ) (h0 : F k0 s0) (hs : Sub (vF s0) vs) (is : List Nat) (hp : picks L is = some (LF s0)) (hn : is.Nodup) (hf : Frs w0 is 0 L)
    (round : ∀ k s, F k s → SxC P c (Exit.then (Back n w0 vF LF F k) Q) n (vF s) w0 (LF s)) : SxC P (.loop c) Q n vs w0 L := fun a w K H => by
  refine wp_loop_ghost (fun k a w => ∃ s, F k s ∧ Kn n (vF s) a ∧ Hp w0 (LF s) w) k0 ⟨s0, h0, K.sub hs, H.pick is hp hn hf⟩ ?_
  rintro k a w ⟨s, hF, K, H⟩
  refine wp_mono (round k s hF a w K H) fun e a w h => ?_
  cases e with
  | normal => obtain ⟨k', s', h1, h2, h3, h4⟩ := h; exact ⟨k', h1, s', h2, h3, h4⟩
  | exit id => exact h
  | goto l => exact h
  | ret => exact h
  | panic ch => exact h
  | outgrown => exact h
theorem SxN.back {σ : Type} {vF : σ → Vs} {LF : σ → List Ft} {F : Nat → σ → Prop} {k : Nat} (k' : Nat) (s : σ) (hk : k' < k) (h0 : F k' s) (hs : Sub (vF s) vs) (is : List Nat) (hp : picks L is = some (LF s)) (hn : is.Nodup) (hf : Frs w0 is 0 L) :
    SxN (Exit.then (Back n w0 vF LF F k) Q) n vs w0 L := fun a w K H => ⟨k', s, hk, h0, K.sub hs, H.pick is hp hn hf⟩
end
end Go.Proofs.YteiaiilfekojfaaGreat.Sx
end
section
set_option linter.unusedVariables false
set_option linter.unusedSimpArgs false
namespace Go.Proofs.YteiaiilfekojfaaGreat.Sx
open Go.RowKit DrawInv

section
variable {P : Program} {ρ : Operand → Value} {o : Oper} {w : World} {vs : Vs}
theorem ex_move {x : Operand} {v : Value} (E : Env vs ρ) (ho : o.op = .move x) (hx : opv vs x = some v) : (execOp ρ o).run P w = .ok (.value v) w := by
  unfold execOp; rw [ho]; simp only [Sem.run_pure, E.ev hx]
theorem ex_assign {x : Operand} {v : Value} (E : Env vs ρ) (ho : o.op = .assign x) (hx : opv vs x = some v) : (execOp ρ o).run P w = .ok (.value v) w := by
  unfold execOp; rw [ho]; simp only [Sem.run_pure, E.ev hx]
theorem ex_pick {c x y : Operand} {t : Bool} {v : Value} (E : Env vs ρ) (ho : o.op = .pick c x y) (hc : opv vs c = some (.bool t)) (hv : opv vs (bif t then x else y) = some v) : (execOp ρ o).run P w = .ok (.value v) w := by
  unfold execOp; rw [ho]; simp only [asBool, E.ev hc, Sem.run_bind, Sem.run_pure, Result.andThen_ok]
  cases t
  · simp only [cond] at hv; simp [E.ev hv]
  · simp only [cond] at hv; simp [E.ev hv]
theorem ex_not {T : TypeId} {x : Operand} {t : Bool} (E : Env vs ρ) (ho : o.op = .unOp .not T x) (hx : opv vs x = some (.bool t)) : (execOp ρ o).run P w = .ok (.value (.bool (!t))) w := by
  unfold execOp; rw [ho]; simp only [E.ev hx, Op.unary, Sem.run_bind, Sem.run_pure, Result.andThen_ok]
theorem ex_extract {x : Operand} {i : Nat} {l : List Value} {v : Value} (E : Env vs ρ) (ho : o.op = .extract x i) (hx : opv vs x = some (.tuple l.toArray)) (hv : l[i]? = some v) : (execOp ρ o).run P w = .ok (.value v) w := by
  unfold execOp; rw [ho]; simp [E.ev hx, Instr.extract, hv]
theorem ex_convInt {s t : TypeId} {x : Operand} {k k' : IntKind} {a z : Int} {d : TypeDesc} (E : Env vs ρ) (ho : o.op = .convert s t x) (hs : P.underlying s = some d) (ht : P.underlying t = some (.int k')) (hx : opv vs x = some (.int k a)) (hz : k'.wrap a = z) : (execOp ρ o).run P w = .ok (.value (.int k' z)) w := by
  unfold execOp; rw [ho]; simp only [E.ev hx, convert, run_underlying hs, run_underlying ht, Sem.run_bind, Sem.run_pure, Result.andThen_ok, Conv.intToInt, hz]
def cmpB (op : BinOp) (a b : Int) : Bool := match op with
  | .eql => a == b
  | .neq => a != b
  | .lss => decide (a < b)
  | .leq => decide (a ≤ b)
  | .gtr => decide (b < a)
  | .geq => decide (b ≤ a)
  | _ => false
def isCmp (op : BinOp) : Bool := match op with
  | .eql | .neq | .lss | .leq | .gtr | .geq => true
  | _ => false
theorem ex_cmp {op : BinOp} {T U : TypeId} {x y : Operand} {k : IntKind} {a b : Int} {t : Bool} (E : Env vs ρ) (ho : o.op = .binOp op T x y U) (hc : isCmp op = true) (hx : opv vs x = some (.int k a)) (hy : opv vs y = some (.int k b)) (ht : cmpB op a b = t) : (execOp ρ o).run P w = .ok (.value (.bool t)) w := by
  unfold execOp; rw [ho]; subst ht
  simp only [E.ev hx, E.ev hy]
  cases op <;> simp [isCmp] at hc <;> simp [eqGuard, binOp, Op.intCmp, cmpB]
theorem ex_add {T U : TypeId} {x y : Operand} {k : IntKind} {a b z : Int} (E : Env vs ρ) (ho : o.op = .binOp .add T x y U) (hx : opv vs x = some (.int k a)) (hy : opv vs y = some (.int k b)) (hz : k.wrap (a + b) = z) : (execOp ρ o).run P w = .ok (.value (.int k z)) w := by
  unfold execOp; rw [ho]; subst hz
  simp [E.ev hx, E.ev hy, eqGuard, binOp, Op.intArith]
theorem ex_sub {T U : TypeId} {x y : Operand} {k : IntKind} {a b z : Int} (E : Env vs ρ) (ho : o.op = .binOp .sub T x y U) (hx : opv vs x = some (.int k a)) (hy : opv vs y = some (.int k b)) (hz : k.wrap (a - b) = z) : (execOp ρ o).run P w = .ok (.value (.int k z)) w := by
  unfold execOp; rw [ho]; subst hz
  simp [E.ev hx, E.ev hy, eqGuard, binOp, Op.intArith]
/-- Strings compared. -/
theorem ex_seql {T U : TypeId} {x y : Operand} {a b : List UInt8} {t : Bool} (E : Env vs ρ) (ho : o.op = .binOp .eql T x y U) (hx : opv vs x = some (.string ⟨a.toArray⟩)) (hy : opv vs y = some (.string ⟨b.toArray⟩)) (ht : decide (a = b) = t) : (execOp ρ o).run P w = .ok (.value (.bool t)) w := by
  unfold execOp; rw [ho]; subst ht
  have h : ∀ l : List UInt8, (⟨l.toArray⟩ : ByteArray).toList = l := fun l => by simp
  have h2 : (a == b) = decide (a = b) := Bool.eq_iff_iff.2 (by simp)
  simp [E.ev hx, E.ev hy, eqGuard, binOp, Op.stringOp, h, h2]
/-- Structs compared: what '==' gives is laid by the caller. -/
theorem ex_aeql {T U : TypeId} {x y : Operand} {a b : Array Value} {t : Bool} (E : Env vs ρ) (ho : o.op = .binOp .eql T x y U) (hg : P.eqGuardType P.depth T = false) (hx : opv vs x = some (.agg a)) (hy : opv vs y = some (.agg b)) (ht : ∀ w, (Op.equal T (.agg a) (.agg b)).run P w = .ok t w) : (execOp ρ o).run P w = .ok (.value (.bool t)) w := by
  unfold execOp; rw [ho]
  simp only [E.ev hx, E.ev hy, Sem.run_bind, run_eqGuard_agg w .eql T x y a b hg, Result.andThen_ok, binOp, ht w, Sem.run_pure]
theorem ex_aneq {T U : TypeId} {x y : Operand} {a b : Array Value} {t : Bool} (E : Env vs ρ) (ho : o.op = .binOp .neq T x y U) (hg : P.eqGuardType P.depth T = false) (hx : opv vs x = some (.agg a)) (hy : opv vs y = some (.agg b)) (ht : ∀ w, (Op.equal T (.agg a) (.agg b)).run P w = .ok (!t) w) : (execOp ρ o).run P w = .ok (.value (.bool t)) w := by
  unfold execOp; rw [ho]
  simp only [E.ev hx, E.ev hy, Sem.run_bind, run_eqGuard_agg w .neq T x y a b hg, Result.andThen_ok, binOp, ht w, Sem.run_pure, Bool.not_not]
theorem ex_lenS {t u : TypeId} {x : Operand} {A : Option Addr} {n c : Nat} (E : Env vs ρ) (ho : o.op = .call { callee := .builtin .len, args := #[x], argTypes := #[t] }) (ht : P.underlying t = some (.slice u)) (hx : opv vs x = some (.slice A n c)) : (execOp ρ o).run P w = .ok (.value (.int .i64 (n : Int))) w := by
  unfold execOp; rw [ho]
  simp [E.ev hx, resolve, invoke, builtin, Builtin.len_, run_underlying ht, goInt]
theorem ex_lenT {t : TypeId} {x : Operand} {l : List UInt8} (E : Env vs ρ) (ho : o.op = .call { callee := .builtin .len, args := #[x], argTypes := #[t] }) (ht : P.underlying t = some .string) (hx : opv vs x = some (.string ⟨l.toArray⟩)) : (execOp ρ o).run P w = .ok (.value (.int .i64 (l.length : Int))) w := by
  unfold execOp; rw [ho]
  have h : (⟨l.toArray⟩ : ByteArray).size = l.length := by simp [ByteArray.size]
  simp [E.ev hx, resolve, invoke, builtin, Builtin.len_, run_underlying ht, goInt, h]
theorem ex_nilCheck {x : Operand} {a : Addr} (E : Env vs ρ) (ho : o.op = .nilCheck x) (hx : opv vs x = some (.pointer (some a))) : (execOp ρ o).run P w = .ok (.value (.pointer (some a))) w := by
  unfold execOp; rw [ho]
  simp [E.ev hx]
/-- A field's place. -/
def fieldAt (P : Program) (s f off : Nat) : Prop := ∃ fs fd m, P.underlying s = some (.struct fs) ∧ fs[f]? = some fd ∧ (P.info? fd.type).map (·.size) = some (m + 1) ∧ fd.offset = off
theorem add_none (g i j : Nat) : (⟨g, i, none⟩ : Addr).add j = ⟨g, i + j, none⟩ := by unfold Addr.add; split <;> simp_all
theorem ex_fieldA {s f off : Nat} {x : Operand} {a : Addr} (E : Env vs ρ) (ho : o.op = .fieldAddr s x f) (hf : fieldAt P s f off) (hx : opv vs x = some (.pointer (some a))) : (execOp ρ o).run P w = .ok (.value (.pointer (some (a.add off)))) w := by
  obtain ⟨fs, fd, m, h1, h2, h3, rfl⟩ := hf
  unfold execOp; rw [ho]
  cases hi : P.info? fd.type with
  | none => rw [hi] at h3; cases h3
  | some i =>
    rw [hi] at h3
    have hm : i.size = m + 1 := Option.some.inj h3
    simp [E.ev hx, Instr.fieldAt, run_underlying h1, h2, Instr.sureAddr, fieldPlace, sizeOf, typeInfo, hi, hm]
theorem ex_field {s f off : Nat} {x : Operand} {g i j : Nat} (E : Env vs ρ) (ho : o.op = .fieldAddr s x f) (hf : fieldAt P s f off) (hx : opv vs x = some (.pointer (some ⟨g, i, none⟩))) (hj : i + off = j) : (execOp ρ o).run P w = .ok (.value (.pointer (some ⟨g, j, none⟩))) w := by
  rw [ex_fieldA E ho hf hx, add_none, hj]
/-- Cells of a list. -/
def putL : List Value → Nat → List Value → List Value
  | cs, _, [] => cs
  | cs, o, v :: vs => putL (cs.set o v) (o + 1) vs
theorem putL_is : ∀ (l : List Value) (cs : List Value) (o : Nat), putA cs.toArray o l = (putL cs o l).toArray
  | [], _, _ => rfl
  | v :: l, cs, o => by
    unfold putA putL
    rw [← putL_is l]
    congr 1
    simp
theorem putL_length : ∀ (l : List Value) (cs : List Value) (o : Nat), (putL cs o l).length = cs.length
  | [], _, _ => rfl
  | v :: l, cs, o => by unfold putL; rw [putL_length l]; simp
/-- A struct loaded, or a part of it. -/
theorem ex_load {t u : TypeId} {p : Operand} {g off m : Nat} {cs part : List Value} {d : TypeDesc} (E : Env vs ρ) (hb : Blk w g u cs.toArray) (ho : o.op = .load t p) (hp : opv vs p = some (.pointer (some ⟨g, off, none⟩))) (hu : P.underlying t = some d) (hd : d.isRow = true) (hz : (P.info? t).map (·.size) = some m)
    (hpart : (cs.drop off).take m = part) (hm : part.length = m) : (execOp ρ o).run P w = .ok (.value (.agg part.toArray)) w := by
  refine exec_load p ho (E.ev hp) ?_
  refine blk_part hb off part.toArray ?_ hu hd (by rw [hz, ← hm]; rfl)
  rw [← hpart]
  have hl : ((cs.drop off).take m).length = m := by rw [hpart, hm]
  simp [hl]
/-- One cell loaded. -/
theorem run_load1 {t : TypeId} {a : Addr} {v : Value} {d : TypeDesc} (hc : w.cell? a = some v) (hu : P.underlying t = some d) (hd : d.isRow = false) : (Instr.loadAt t (.pointer (some a))).run P w = .ok v w := by
  have h := run_isAgg_plain hu (by cases d <;> first | rfl | cases hd) w
  simp only [Instr.loadAt, Instr.sureAddr, Sem.run_bind, Sem.run_pure, Result.andThen_ok, loadVar, h]
  simp [hc]
theorem ex_load1 {t u : TypeId} {p : Operand} {g off : Nat} {cs : List Value} {v : Value} {d : TypeDesc} (E : Env vs ρ) (hb : Blk w g u cs.toArray) (ho : o.op = .load t p) (hp : opv vs p = some (.pointer (some ⟨g, off, none⟩))) (hu : P.underlying t = some d) (hd : d.isRow = false) (hv : cs[off]? = some v) : (execOp ρ o).run P w = .ok (.value v) w :=
  exec_load p ho (E.ev hp) (run_load1 (by rw [hb.cell off]; simpa using hv) hu hd)
theorem ex_loadC {t : TypeId} {p : Operand} {a : Addr} {v : Value} {d : TypeDesc} (E : Env vs ρ) (hc : w.cell? a = some v) (ho : o.op = .load t p) (hp : opv vs p = some (.pointer (some a))) (hu : P.underlying t = some d) (hd : d.isRow = false) : (execOp ρ o).run P w = .ok (.value v) w :=
  exec_load p ho (E.ev hp) (run_load1 hc hu hd)
/-- A store into a known block. -/
theorem ex_store {t u : TypeId} {p x : Operand} {g off m : Nat} {cs : List Value} {v : Value} (E : Env vs ρ) (hb : Blk w g u cs.toArray) (ho : o.op = .store t p x) (hp : opv vs p = some (.pointer (some ⟨g, off, none⟩))) (hx : opv vs x = some v) (hz : (P.info? t).map (·.size) = some m) (hm : v.cells.toList.length = m) (hl : Nat.ble (off + m) cs.length = true) (h1 : v.cells.toList.all (·.oneCell') = true) :
    ∃ w', (execOp ρ o).run P w = .ok .skip w' ∧ Blk w' g u (putL cs off v.cells.toList).toArray ∧ w.grownBy w' (some g) := by
  have hs : v.cells.size = m := by rw [← hm]; simp
  refine ⟨w.setCells g off v.cells.toList, exec_store p x ho (E.ev hp) (E.ev hx) ?_, ?_, grown_setCells _ _ (World.grownBy.refl _ _)⟩
  · have := blk_put (P := P) (ty := t) hb off v.cells (by rw [hs]; simpa using hl) (by rw [hz, hs]) h1
    exact this
  · rw [← putL_is]
    exact Blk.setCells _ _ hb
/-- New blocks. -/
theorem ex_alloc {t : TypeId} {z : Value} {cs : List Value} (ho : o.op = .alloc t) (hz : (P.info? t).bind (·.zero) = some z) (hc : z.cells = cs.toArray) : (execOp ρ o).run P w = .ok (.value (.pointer (some ⟨w.heap.size, 0, none⟩))) (w.alloc (.cells cs.toArray t)) := by
  unfold execOp; rw [ho]
  cases hi : P.info? t with
  | none => rw [hi] at hz; cases hz
  | some i =>
    rw [hi] at hz
    have hz : i.zero = some z := hz
    rw [← hc]
    simp [Instr.alloc, zeroValue, typeInfo, hi, hz, newVar, newRow]
theorem ex_box {t : TypeId} {x : Operand} {v : Value} {cs : List Value} (E : Env vs ρ) (ho : o.op = .box t x) (hx : opv vs x = some v) (hc : v.cells = cs.toArray) : (execOp ρ o).run P w = .ok (.value (.pointer (some ⟨w.heap.size, 0, none⟩))) (w.alloc (.cells cs.toArray t)) := by
  unfold execOp; rw [ho, ← hc]
  simp [E.ev hx, Instr.box, newVar, newRow]
def opps (vs : Vs) : List (Nat × Operand) → Option (List (Nat × Value))
  | [] => some []
  | (i, x) :: l => match opv vs x, opps vs l with
    | some v, some r => some ((i, v) :: r)
    | _, _ => none
theorem Env.eps (E : Env vs ρ) : ∀ {l : List (Nat × Operand)} {r : List (Nat × Value)}, opps vs l = some r → l.map (fun p => (p.1, ρ p.2)) = r
  | [], r, h => by cases h; rfl
  | (i, x) :: l, r, h => by
    unfold opps at h
    cases h1 : opv vs x with
    | none => rw [h1] at h; cases h
    | some v =>
      cases h2 : opps vs l with
      | none => rw [h1, h2] at h; cases h
      | some s =>
        rw [h1, h2] at h
        cases h
        simp only [List.map_cons]
        rw [E.ev h1, E.eps h2]
theorem ex_build {t : TypeId} {ps : List (Nat × Operand)} {qs : List (Nat × Value)} {cs : List Value} (E : Env vs ρ) (ho : o.op = .build t ps.toArray) (hq : opps vs ps = some qs) (hb : P.built t qs = some cs.toArray) : (execOp ρ o).run P w = .ok (.value (.agg cs.toArray)) w := by
  unfold execOp; rw [ho]
  have he : (ps.toArray.map fun (i, x) => (i, ρ x)) = qs.toArray := by
    rw [List.map_toArray]; exact congrArg List.toArray (E.eps hq)
  simp only [he, Sem.run_bind, run_build (P := P) w t qs.toArray cs.toArray (by simpa using hb), Result.andThen_ok, Sem.run_pure]
theorem ex_buildSlice {t e : TypeId} {len m : Nat} {ps : List (Nat × Operand)} {qs : List (Nat × Value)} {cs : List Value} {z : Value} (E : Env vs ρ) (ho : o.op = .buildSlice t len ps.toArray) (hq : opps vs ps = some qs) (hu : P.underlying t = some (.slice e)) (hm : (P.info? e).map (·.size) = some m) (hz : (P.info? e).bind (·.zero) = some z)
    (hsmall : Nat.ble (len * m) (2 ^ 24) = true) (hpos : Nat.ble 1 (len * m) = true) (hb : Instr.fill (fun i => some (i * m, m)) ((Array.range (len * m)).map (z.cells[· % z.cells.size]!)) qs = some cs.toArray) :
    (execOp ρ o).run P w = .ok (.value (.slice (some ⟨w.heap.size, 0, none⟩) len len)) (w.alloc (.cells cs.toArray e)) := by
  unfold execOp; rw [ho]
  have he : (ps.toArray.map fun (i, x) => (i, ρ x)) = qs.toArray := by
    rw [List.map_toArray]; exact congrArg List.toArray (E.eps hq)
  cases hi : P.info? e with
  | none => rw [hi] at hz; cases hz
  | some ie =>
    rw [hi] at hz hm
    have hz : ie.zero = some z := hz
    have hm : ie.size = m := Option.some.inj hm
    have h1 : len * m ≤ 2 ^ 24 := by simpa using hsmall
    have h2 : 1 ≤ len * m := by simpa using hpos
    simp only [he, Sem.run_bind, run_buildSlice (P := P) w t e len qs.toArray cs.toArray ie z hu hi hz (by rw [hm]; omega) (by rw [hm]; omega) (by rw [hm]; simpa using hb), Result.andThen_ok, Sem.run_pure]
theorem ex_call {f : FuncId} {args : List Operand} {T : Array TypeId} {xs : List Value} (E : Env vs ρ) (he : Enters P f) (ho : o.op = .call { callee := .value (.func f), args := args.toArray, argTypes := T }) (hx : opvs vs args = some xs) : (execOp ρ o).run P w = .ok (.enter f xs.toArray) w := by
  unfold execOp; rw [ho]
  have ha : args.toArray.map ρ = xs.toArray := by rw [List.map_toArray]; exact congrArg List.toArray (E.evs hx)
  simp only [resolve, ha, E.cs.2 f, Deferred.ofValue, Sem.run_bind, Sem.run_pure, Result.andThen_ok, invoke, Array.empty_append, Array.append_empty]
  exact he _ _
/-- A call of a function's value. -/
theorem ex_callV {f : FuncId} {c : Operand} {args : List Operand} {T : Array TypeId} {xs cap ys : List Value} (E : Env vs ρ) (he : Enters P f) (ho : o.op = .call { callee := .value c, args := args.toArray, argTypes := T }) (hc : opv vs c = some (.func (.func f) #[] cap.toArray)) (hx : opvs vs args = some xs) (hy : xs ++ cap = ys) : (execOp ρ o).run P w = .ok (.enter f ys.toArray) w := by
  unfold execOp; rw [ho]
  have ha : args.toArray.map ρ = xs.toArray := by rw [List.map_toArray]; exact congrArg List.toArray (E.evs hx)
  simp only [resolve, ha, E.ev hc, Deferred.ofValue, Sem.run_bind, Sem.run_pure, Result.andThen_ok, invoke, Array.empty_append]
  rw [← hy, ← List.append_toArray]
  exact he _ _
theorem ex_makeFunc {fn : Fn} {a b : List Operand} {xs ys : List Value} (E : Env vs ρ) (ho : o.op = .makeFunc fn a.toArray b.toArray) (hx : opvs vs a = some xs) (hy : opvs vs b = some ys) : (execOp ρ o).run P w = .ok (.value (.func fn xs.toArray ys.toArray)) w := by
  unfold execOp; rw [ho]
  have ha : a.toArray.map ρ = xs.toArray := by rw [List.map_toArray]; exact congrArg List.toArray (E.evs hx)
  have hb : b.toArray.map ρ = ys.toArray := by rw [List.map_toArray]; exact congrArg List.toArray (E.evs hy)
  simp only [Instr.makeFunc, ha, hb, Sem.run_bind, Sem.run_pure, Result.andThen_ok]
/-- The place of an element. -/
theorem ex_index {t e m : Nat} {x y : Operand} {a : Addr} {n c i : Nat} {k : IntKind} (E : Env vs ρ) (ho : o.op = .indexAddr t x y) (ht : P.underlying t = some (.slice e)) (hz : (P.info? e).map (·.size) = some m) (hx : opv vs x = some (.slice (some a) n c)) (hy : opv vs y = some (.int k (i : Int))) (hi : i < n) : (execOp ρ o).run P w = .ok (.value (.pointer (some (a.add (i * m))))) w := by
  unfold execOp; rw [ho]
  cases hq : P.info? e with
  | none => rw [hq] at hz; cases hz
  | some ie =>
    rw [hq] at hz
    have hz : ie.size = m := Option.some.inj hz
    have hi0 : (0 : Int) ≤ (i : Int) ∧ (i : Int) < (n : Int) := by omega
    simp [E.ev hx, E.ev hy, Instr.indexAt, asIntOf, run_underlying ht, hi, sizeOf, typeInfo, hq, hz]
end
section
variable {P : Program} {ops : Array Oper} {Q Q' : Exit → Act → World → Prop} {n : Nat} {vs : Vs} {w0 : World} {L : List Ft} {o : Oper} {rest : List Oper}
theorem SxL.store {i g t m off : Nat} {u : TypeId} {cs : List Value} {v : Value} {p x : Operand} (hon : GOn ops vs o.guard) (hd : o.dst = none) (ho : o.op = .store u p x) (hp : opv vs p = some (.pointer (some ⟨g, off, none⟩))) (hx : opv vs x = some v) (hi : nth L i = some (cell g t cs)) (hz : (P.info? u).map (·.size) = some m) (hm : v.cells.toList.length = m) (hl : Nat.ble (off + m) cs.length = true) (h1 : v.cells.toList.all (·.oneCell') = true)
    (h : SxL P ops Q rest n vs w0 (putF L i (cell g t (putL cs off v.cells.toList)))) : SxL P ops Q (o :: rest) n vs w0 L :=
  SxL.turn _ hon hd hi (fun ρ w E H => ex_store E (H.get hi) ho hp hx hz hm hl h1) h
/-- A slice written out. -/
theorem SxL.newS {d len e : Nat} {cs : List Value} (hon : GOn ops vs o.guard) (hd : o.dst = some d) (hdn : Nat.blt d n = true)
    (hr : ∀ ρ w, Env vs ρ → Hp w0 L w → (execOp ρ o).run P w = .ok (.value (.slice (some ⟨w.heap.size, 0, none⟩) len len)) (w.alloc (.cells cs.toArray e)))
    (h : ∀ g, w0.heap.size ≤ g → SxL P ops Q rest n ((d, .slice (some ⟨g, 0, none⟩) len len) :: vs) w0 (cell g e cs :: L)) : SxL P ops Q (o :: rest) n vs w0 L := fun a w K H => by
  refine on_list (hon.on K.env) ?_
  unfold Oper.wp
  rw [hr a.eval w K.env H]
  show wpList P ops Q rest (a.put o.dst _) _
  rw [hd]
  refine h w.heap.size H.os.size _ _ (K.put hdn _) (H.add ((Below.refl _ w).alloc (Nat.le_refl _) _) _ (cell_loc _ _ _) (fun g hg => ?_) (Blk.new w e cs.toArray))
  obtain rfl := List.mem_singleton.1 hg
  exact ⟨by rw [World.alloc, Array.size_push]; omega, Nat.le_refl _⟩
end
end Go.Proofs.YteiaiilfekojfaaGreat.Sx
end
section
namespace Go.Proofs.YteiaiilfekojfaaGreat.Sx
open Go.RowKit

theorem en_slices_Compact_palaver_net_Pair_palaver_net_Pair : Enters Tryz.prog 72 := enters_of Tryz.func72 (by kernel_rfl) rfl
theorem en_slices_SortFunc_palaver_net_Pair_palaver_net_Pair : Enters Tryz.prog 68 := enters_of Tryz.func68 (by kernel_rfl) rfl
theorem sz_uint16 : (Tryz.prog.info? 73).map (·.size) = some 1 := by kernel_rfl
end Go.Proofs.YteiaiilfekojfaaGreat.Sx
end
section
namespace Go.Proofs.YteiaiilfekojfaaGreat.Sx
open Go.RowKit

theorem en_palaver_net_Net_Pairs : Enters Tryz.prog 32 := enters_of Tryz.func32 (by kernel_rfl) rfl
theorem en_palaver_palaverlaw26_wakes : Enters Tryz.prog 21 := enters_of Tryz.func21 (by kernel_rfl) rfl
end Go.Proofs.YteiaiilfekojfaaGreat.Sx
end
section
namespace Go.Proofs.YteiaiilfekojfaaGreat.Sx
open Go.RowKit

theorem sz_int : (Tryz.prog.info? 3).map (·.size) = some 1 := by kernel_rfl
theorem nf_int : (Tryz.prog.info? 3).map (fun i => (i.zero, i.size, i.bytes)) = some (some (.int .i64 0), 1, 8) := by kernel_rfl
end Go.Proofs.YteiaiilfekojfaaGreat.Sx
end
section
namespace Go.Proofs.YteiaiilfekojfaaGreat.Sx
open Go.RowKit

theorem en_palaver_net_Net_Cut : Enters Tryz.prog 28 := enters_of Tryz.func28 (by kernel_rfl) rfl
theorem en_palaver_net_Net_Heal : Enters Tryz.prog 29 := enters_of Tryz.func29 (by kernel_rfl) rfl
theorem en_palaver_net_Net_IsCut : Enters Tryz.prog 39 := enters_of Tryz.func39 (by kernel_rfl) rfl
theorem en_palaver_net_Net_Len : Enters Tryz.prog 31 := enters_of Tryz.func31 (by kernel_rfl) rfl
theorem en_palaver_net_Net_Send : Enters Tryz.prog 30 := enters_of Tryz.func30 (by kernel_rfl) rfl
theorem en_palaver_net_Net_Take : Enters Tryz.prog 23 := enters_of Tryz.func23 (by kernel_rfl) rfl
theorem en_palaver_net_Net_find : Enters Tryz.prog 65 := enters_of Tryz.func65 (by kernel_rfl) rfl
theorem en_palaver_net_New : Enters Tryz.prog 22 := enters_of Tryz.func22 (by kernel_rfl) rfl
theorem en_palaver_net_address : Enters Tryz.prog 104 := enters_of Tryz.func104 (by kernel_rfl) rfl
theorem en_palaver_net_apart : Enters Tryz.prog 64 := enters_of Tryz.func64 (by kernel_rfl) rfl
theorem en_palaver_net_both : Enters Tryz.prog 67 := enters_of Tryz.func67 (by kernel_rfl) rfl
theorem en_palaver_palaverlaw26_ask : Enters Tryz.prog 24 := enters_of Tryz.func24 (by kernel_rfl) rfl
theorem en_slices_Delete_palaver_net_parcel_palaver_net_parcel : Enters Tryz.prog 66 := enters_of Tryz.func66 (by kernel_rfl) rfl
theorem sz_2_uint8 : (Tryz.prog.info? 136).map (·.size) = some 2 := by kernel_rfl
theorem zr_2_uint8 : (Tryz.prog.info? 136).bind (·.zero) = some (.agg #[.int .u8 0, .int .u8 0]) := by kernel_rfl
theorem sz_net_parcel : (Tryz.prog.info? 128).map (·.size) = some 1 := by kernel_rfl
theorem sz_bool : (Tryz.prog.info? 4).map (·.size) = some 1 := by kernel_rfl
theorem zr_bool : (Tryz.prog.info? 4).bind (·.zero) = some (.bool false) := by kernel_rfl
theorem nf_bool : (Tryz.prog.info? 4).map (fun i => (i.zero, i.size, i.bytes)) = some (some (.bool false), 1, 1) := by kernel_rfl
theorem sz_palaver_api_Letter : (Tryz.prog.info? 59).map (·.size) = some 20 := by kernel_rfl
theorem zr_palaver_api_Letter : (Tryz.prog.info? 59).bind (·.zero) = some (.agg #[.int .u8 0, .int .u8 0, .int .u8 0, .int .u64 0, .int .u8 0, .int .u64 0, .int .u64 0, .int .u8 0, .string ⟨[].toArray⟩, .slice none 0 0, .slice none 0 0, .int .u8 0, .int .u32 0, .int .u8 0, .string ⟨[].toArray⟩, .string ⟨[].toArray⟩, .string ⟨[].toArray⟩, .int .u8 0, .int .u8 0, .string ⟨[].toArray⟩]) := by kernel_rfl
theorem fa_palaver_api_Letter_0 : fieldAt Tryz.prog 59 0 0 := ⟨_, _, 0, Tryz.underlying59, rfl, by kernel_rfl, rfl⟩
theorem fa_palaver_api_Letter_1 : fieldAt Tryz.prog 59 1 1 := ⟨_, _, 0, Tryz.underlying59, rfl, by kernel_rfl, rfl⟩
theorem fa_palaver_api_Letter_2 : fieldAt Tryz.prog 59 2 2 := ⟨_, _, 17, Tryz.underlying59, rfl, by kernel_rfl, rfl⟩
theorem fa_palaver_net_Net_0 : fieldAt Tryz.prog 130 0 0 := ⟨_, _, 0, Tryz.underlying130, rfl, by kernel_rfl, rfl⟩
theorem fa_palaver_net_Net_1 : fieldAt Tryz.prog 130 1 1 := ⟨_, _, 0, Tryz.underlying130, rfl, by kernel_rfl, rfl⟩
theorem sz_palaver_net_Pair : (Tryz.prog.info? 57).map (·.size) = some 2 := by kernel_rfl
theorem zr_palaver_net_Pair : (Tryz.prog.info? 57).bind (·.zero) = some (.agg #[.int .u8 0, .int .u8 0]) := by kernel_rfl
theorem nf_palaver_net_Pair : (Tryz.prog.info? 57).map (fun i => (i.zero, i.size, i.bytes)) = some (some (.agg #[.int .u8 0, .int .u8 0]), 2, 2) := by kernel_rfl
theorem fa_palaver_net_Pair_0 : fieldAt Tryz.prog 57 0 0 := ⟨_, _, 0, Tryz.underlying57, rfl, by kernel_rfl, rfl⟩
theorem fa_palaver_net_Pair_1 : fieldAt Tryz.prog 57 1 1 := ⟨_, _, 0, Tryz.underlying57, rfl, by kernel_rfl, rfl⟩
theorem sz_palaver_net_parcel : (Tryz.prog.info? 134).map (·.size) = some 3 := by kernel_rfl
theorem zr_palaver_net_parcel : (Tryz.prog.info? 134).bind (·.zero) = some (.agg #[.int .u8 0, .int .u8 0, .string ⟨[].toArray⟩]) := by kernel_rfl
theorem nf_palaver_net_parcel : (Tryz.prog.info? 134).map (fun i => (i.zero, i.size, i.bytes)) = some (some (.agg #[.int .u8 0, .int .u8 0, .string ⟨[].toArray⟩]), 3, 24) := by kernel_rfl
theorem fa_palaver_net_parcel_0 : fieldAt Tryz.prog 134 0 0 := ⟨_, _, 1, Tryz.underlying134, rfl, by kernel_rfl, rfl⟩
theorem fa_palaver_net_parcel_1 : fieldAt Tryz.prog 134 1 2 := ⟨_, _, 0, Tryz.underlying134, rfl, by kernel_rfl, rfl⟩
end Go.Proofs.YteiaiilfekojfaaGreat.Sx
end
section
set_option linter.unusedVariables false
set_option linter.unusedSimpArgs false
namespace Go.Proofs.YteiaiilfekojfaaGreat.Sx
open Go.RowKit DrawInv

/-- What stays known in a region: facts; the elder blocks but some. -/
structure Ks (w0 : World) (G : List Nat) (L : List Ft) (w : World) : Prop where
  os : Outs G w0 w
  fa : ∀ p ∈ L, p.φ w
theorem Ks.get {w0 w : World} {G : List Nat} {L : List Ft} (S : Ks w0 G L w) {i : Nat} {f : Ft} (h : nth L i = some f) : f.φ w := S.fa f (nth_mem h)
theorem Hp.ks {w0 w : World} {L Lk : List Ft} (H : Hp w0 L w) (G is : List Nat) (hp : picks L is = some Lk) (hg : allF L fun f => ∀ g ∈ f.fp, g ∈ G ∨ w0.heap.size ≤ g) : Ks w0 G Lk w :=
  ⟨H.os.mono fun g hm hlt => by
    obtain ⟨f, hf, hgf⟩ := List.mem_flatMap.1 hm
    rcases hg.mem f hf g hgf with h | h
    · exact h
    · omega, fun p hpm => by obtain ⟨i, _, e⟩ := picks_mem hp p hpm; exact H.get e⟩
theorem Hp.drew {w0 w : World} {L : List Ft} (H : Hp w0 L w) : Hp w0 L w.drew := H.below (Below.refl _ w).drew
section
variable {P : Program} {ops : Array Oper} {Q : Exit → Act → World → Prop} {n : Nat} {vs : Vs} {w0 : World} {L : List Ft} {S : World → Prop} {fuel : Nat} {listed : Array Bool}
def SxA (P : Program) (ops : Array Oper) (Q : Exit → Act → World → Prop) (S : World → Prop) (fuel : Nat) (listed : Array Bool) (n : Nat) (vs : Vs) (w0 : World) (L : List Ft) : Prop := ∀ a w, Kn n vs a → Hp w0 L w → S w → wpAnyH P .any ops Q S fuel listed a w
/-- Operation i comes up. -/
def SxO (P : Program) (ops : Array Oper) (Q : Exit → Act → World → Prop) (S : World → Prop) (fuel : Nat) (listed : Array Bool) (i : Nat) (n : Nat) (vs : Vs) (w0 : World) (L : List Ft) : Prop := ∀ a w, Kn n vs a → Hp w0 L w → S w → wpOp P ops Q i (fun a' w' => S w' ∧ wpAnyH P .any ops Q S fuel (listed.setIfInBounds i true) a' w') a w
theorem SxC.drawn {id : Nat} {l : List Oper} (S : World → Prop) (hm : P.follows .mixedOrders = true) (hS : ∀ w, Hp w0 L w → S w) (h : SxA P l.toArray Q S l.toArray.size (Array.replicate l.toArray.size false) n vs w0 L) : SxC P (.region id l.toArray true) Q n vs w0 L :=
  fun a w K H => wp_region_held_drew (S := S) hm (hS _ H.drew) fun hs => h a w.drew K H.drew hs
theorem SxA.done (hr : Region.ready .any ops listed = []) (h : SxN Q n vs w0 L) : SxA P ops Q S fuel listed n vs w0 L := fun a w K H _ => wpAnyH_done hr (h a w K H) fuel
theorem SxN.sub {vs' : Vs} {L' : List Ft} (h : SxN Q n vs' w0 L') (hs : Sub vs' vs) (is : List Nat) (hp : picks L is = some L') (hn : is.Nodup) (hf : Frs w0 is 0 L) : SxN Q n vs w0 L := fun a w K H => h a w (K.sub hs) (H.pick is hp hn hf)
/-- Taken first. -/
theorem SxA.take {i d : Nat} {oi : Oper} {v : Value} (hi : ops[i]? = some oi) (hs : Region.noSelect ops = true) (hf : Region.free .any ops listed i = true) (hr : (Region.ready .any ops listed).contains i = true) (hd : oi.dst = some d) (hdn : Nat.blt d n = true)
    (hQ : ∀ c a w, Q (.panic c) (a.put (some d) v) w → Q (.panic c) a w) (hg : GOn ops vs oi.guard) (hrun : ∀ ρ w, Env vs ρ → S w → (execOp ρ oi).run P w = .ok (.value v) w)
    (h : SxA P ops Q S fuel (listed.setIfInBounds i true) n ((d, v) :: vs) w0 L) : SxA P ops Q S (fuel + 1) listed n vs w0 L := fun a w K H hS => by
  refine wpAnyH_take hi hs hf hr (by rw [hd]; exact hQ) (.inl ⟨(hg.on K.env).wanted, fun w hS => hrun a.eval w K.env hS⟩) hS ?_
  rw [hd]
  exact h _ _ (K.put hdn v) H hS
theorem SxA.takeOff {i d : Nat} {oi : Oper} (hi : ops[i]? = some oi) (hs : Region.noSelect ops = true) (hf : Region.free .any ops listed i = true) (hr : (Region.ready .any ops listed).contains i = true) (hd : oi.dst = some d) (hdn : Nat.blt d n = true)
    (hQ : ∀ c a w, Q (.panic c) (a.put (some d) undef) w → Q (.panic c) a w) (hg : GOff ops vs oi.guard) (h : SxA P ops Q S fuel (listed.setIfInBounds i true) n ((d, undef) :: vs) w0 L) : SxA P ops Q S (fuel + 1) listed n vs w0 L := fun a w K H hS => by
  refine wpAnyH_take hi hs hf hr (by rw [hd]; exact hQ) (.inr ⟨(hg.off K.env).wanted, rfl⟩) hS ?_
  rw [hd]
  exact h _ _ (K.put hdn undef) H hS
/-- A bool becomes a letter. -/
theorem SxA.takeB {i d : Nat} {oi : Oper} {b : Bool} (hi : ops[i]? = some oi) (hs : Region.noSelect ops = true) (hf : Region.free .any ops listed i = true) (hr : (Region.ready .any ops listed).contains i = true) (hd : oi.dst = some d) (hdn : Nat.blt d n = true)
    (hQ : ∀ c a w, Q (.panic c) (a.put (some d) (.bool b)) w → Q (.panic c) a w) (hg : GOn ops vs oi.guard) (hrun : ∀ ρ w, Env vs ρ → S w → (execOp ρ oi).run P w = .ok (.value (.bool b)) w)
    (h : ∀ t, b = t → SxA P ops Q S fuel (listed.setIfInBounds i true) n ((d, .bool t) :: vs) w0 L) : SxA P ops Q S (fuel + 1) listed n vs w0 L := SxA.take hi hs hf hr hd hdn hQ hg hrun (h b rfl)
def allO (Q : Nat → Prop) : List Nat → Prop
  | [] => True
  | i :: l => Q i ∧ allO Q l
theorem allO.mem {Q : Nat → Prop} : ∀ {l : List Nat}, allO Q l → ∀ i ∈ l, Q i
  | [], _, _, h => by cases h
  | x :: l, hq, i, h => by
    rcases List.mem_cons.1 h with rfl | h
    · exact hq.1
    · exact allO.mem hq.2 i h
/-- What may come up: each in turn. -/
theorem SxA.ready (rs : List Nat) (hr : Region.ready .any ops listed = rs) (hne : rs ≠ []) (h : allO (fun i => SxO P ops Q S fuel listed i n vs w0 L) rs) : SxA P ops Q S (fuel + 1) listed n vs w0 L := fun a w K H hS =>
  wpAnyH_all hr hne fun i hi => h.mem i hi a w K H hS
theorem op_on {a : Act} {w : World} {i : Nat} {o : Oper} {K : Act → World → Prop} (hi : ops[i]? = some o) (hon : On ops a.eval o.guard) (h : o.wp P a w K Q) : wpOp P ops Q i K a w := by
  unfold wpOp
  rw [hi]
  simp only
  rw [if_pos hon.wanted]
  exact .inl h
theorem SxO.off {i : Nat} {o : Oper} (hi : ops[i]? = some o) (hd : o.dst = none) (hg : GOff ops vs o.guard) (h : SxA P ops Q S fuel (listed.setIfInBounds i true) n vs w0 L) : SxO P ops Q S fuel listed i n vs w0 L := fun a w K H hS => by
  unfold wpOp
  rw [hi]
  simp only
  rw [if_neg (by rw [(hg.off K.env).wanted]; decide), hd]
  exact ⟨hS, h a w K H hS⟩
theorem SxO.val {i d : Nat} {o : Oper} {v : Value} (hi : ops[i]? = some o) (hon : GOn ops vs o.guard) (hd : o.dst = some d) (hdn : Nat.blt d n = true) (hr : ∀ ρ w, Env vs ρ → Hp w0 L w → (execOp ρ o).run P w = .ok (.value v) w)
    (h : SxA P ops Q S fuel (listed.setIfInBounds i true) n ((d, v) :: vs) w0 L) : SxO P ops Q S fuel listed i n vs w0 L := fun a w K H hS => by
  refine op_on hi (hon.on K.env) ?_
  unfold Oper.wp
  rw [hr a.eval w K.env H]
  show S w ∧ wpAnyH _ _ _ _ _ _ _ (a.put o.dst v) w
  rw [hd]
  exact ⟨hS, h _ _ (K.put hdn v) H hS⟩
theorem SxO.new {i d : Nat} {o : Oper} {t : TypeId} {cs : List Value} (hi : ops[i]? = some o) (hon : GOn ops vs o.guard) (hd : o.dst = some d) (hdn : Nat.blt d n = true)
    (hr : ∀ ρ w, Env vs ρ → Hp w0 L w → (execOp ρ o).run P w = .ok (.value (.pointer (some ⟨w.heap.size, 0, none⟩))) (w.alloc (.cells cs.toArray t)))
    (hS : ∀ g w, w0.heap.size ≤ g → Hp w0 (cell g t cs :: L) w → S w) (h : ∀ g, w0.heap.size ≤ g → SxA P ops Q S fuel (listed.setIfInBounds i true) n ((d, .pointer (some ⟨g, 0, none⟩)) :: vs) w0 (cell g t cs :: L)) : SxO P ops Q S fuel listed i n vs w0 L := fun a w K H _ => by
  refine op_on hi (hon.on K.env) ?_
  unfold Oper.wp
  rw [hr a.eval w K.env H]
  show S _ ∧ wpAnyH _ _ _ _ _ _ _ (a.put o.dst _) _
  rw [hd]
  have H' := H.add ((Below.refl _ w).alloc (Nat.le_refl _) (.cells cs.toArray t)) _ (cell_loc _ _ _) (fun g hg => by
    obtain rfl := List.mem_singleton.1 hg
    exact ⟨by rw [World.alloc, Array.size_push]; omega, Nat.le_refl _⟩) (Blk.new w t cs.toArray)
  exact ⟨hS _ _ H.os.size H', h _ H.os.size _ _ (K.put hdn _) H' (hS _ _ H.os.size H')⟩
theorem SxO.newS {i d len e : Nat} {o : Oper} {cs : List Value} (hi : ops[i]? = some o) (hon : GOn ops vs o.guard) (hd : o.dst = some d) (hdn : Nat.blt d n = true)
    (hr : ∀ ρ w, Env vs ρ → Hp w0 L w → (execOp ρ o).run P w = .ok (.value (.slice (some ⟨w.heap.size, 0, none⟩) len len)) (w.alloc (.cells cs.toArray e)))
    (hS : ∀ g w, w0.heap.size ≤ g → Hp w0 (cell g e cs :: L) w → S w) (h : ∀ g, w0.heap.size ≤ g → SxA P ops Q S fuel (listed.setIfInBounds i true) n ((d, .slice (some ⟨g, 0, none⟩) len len) :: vs) w0 (cell g e cs :: L)) : SxO P ops Q S fuel listed i n vs w0 L := fun a w K H _ => by
  refine op_on hi (hon.on K.env) ?_
  unfold Oper.wp
  rw [hr a.eval w K.env H]
  show S _ ∧ wpAnyH _ _ _ _ _ _ _ (a.put o.dst _) _
  rw [hd]
  have H' := H.add ((Below.refl _ w).alloc (Nat.le_refl _) (.cells cs.toArray e)) _ (cell_loc _ _ _) (fun g hg => by
    obtain rfl := List.mem_singleton.1 hg
    exact ⟨by rw [World.alloc, Array.size_push]; omega, Nat.le_refl _⟩) (Blk.new w e cs.toArray)
  exact ⟨hS _ _ H.os.size H', h _ H.os.size _ _ (K.put hdn _) H' (hS _ _ H.os.size H')⟩
theorem SxO.turn {i j g : Nat} {o : Oper} {t : TypeId} {cs : List Value} (cs' : List Value) (hi : ops[i]? = some o) (hon : GOn ops vs o.guard) (hd : o.dst = none) (hj : nth L j = some (cell g t cs))
    (hr : ∀ ρ w, Env vs ρ → Hp w0 L w → ∃ w', (execOp ρ o).run P w = .ok .skip w' ∧ Blk w' g t cs'.toArray ∧ w.grownBy w' (some g))
    (hS : ∀ w, Hp w0 (putF L j (cell g t cs')) w → S w) (h : SxA P ops Q S fuel (listed.setIfInBounds i true) n vs w0 (putF L j (cell g t cs'))) : SxO P ops Q S fuel listed i n vs w0 L := fun a w K H _ => by
  refine op_on hi (hon.on K.env) ?_
  unfold Oper.wp
  obtain ⟨w', hr, hb, hg⟩ := hr a.eval w K.env H
  rw [hr]
  show S _ ∧ wpAnyH _ _ _ _ _ _ _ (a.put o.dst _) _
  rw [hd]
  have H' := H.chg hj (cell g t cs') (Outs.of_grown hg (List.mem_singleton.2 rfl)) (cell_loc _ _ _) (fun g' hg' => by
    obtain rfl := List.mem_singleton.1 hg'
    exact ⟨hb.lt, .inl (List.mem_singleton.2 rfl)⟩) (fun g' hg' => .inl hg') hb
  exact ⟨hS _ H', h _ _ K H' (hS _ H')⟩
theorem SxO.store {i j g t m off : Nat} {o : Oper} {u : TypeId} {cs : List Value} {v : Value} {p x : Operand} (hi : ops[i]? = some o) (hon : GOn ops vs o.guard) (hd : o.dst = none) (ho : o.op = .store u p x) (hp : opv vs p = some (.pointer (some ⟨g, off, none⟩))) (hx : opv vs x = some v) (hj : nth L j = some (cell g t cs)) (hz : (P.info? u).map (·.size) = some m) (hm : v.cells.toList.length = m) (hl : Nat.ble (off + m) cs.length = true) (h1 : v.cells.toList.all (·.oneCell') = true)
    (hS : ∀ w, Hp w0 (putF L j (cell g t (putL cs off v.cells.toList))) w → S w) (h : SxA P ops Q S fuel (listed.setIfInBounds i true) n vs w0 (putF L j (cell g t (putL cs off v.cells.toList)))) : SxO P ops Q S fuel listed i n vs w0 L :=
  SxO.turn _ hi hon hd hj (fun ρ w E H => ex_store E (H.get hj) ho hp hx hz hm hl h1) hS h
theorem SxO.call {σ : Type} {i d f : Nat} {o : Oper} {args : Array Value} (v : σ → Value) (F : σ → Prop) (L' : σ → List Ft) (hi : ops[i]? = some o) (hon : GOn ops vs o.guard) (hd : o.dst = some d) (hdn : Nat.blt d n = true)
    (hr : ∀ ρ w, Env vs ρ → (execOp ρ o).run P w = .ok (.enter f args) w) (hc : ∀ w, Hp w0 L w → Calls P f args w fun e w' => ∃ s, e = .returned (v s) ∧ F s ∧ Hp w0 (L' s) w')
    (hS : ∀ s w, F s → Hp w0 (L' s) w → S w) (h : ∀ s, F s → SxA P ops Q S fuel (listed.setIfInBounds i true) n ((d, v s) :: vs) w0 (L' s)) : SxO P ops Q S fuel listed i n vs w0 L := fun a w K H _ => by
  refine op_on hi (hon.on K.env) ?_
  unfold Oper.wp
  rw [hr a.eval w K.env, Oper.upon_enter]
  refine (hc w H).mono fun e w' he => ?_
  obtain ⟨s, rfl, hF, H'⟩ := he
  show S _ ∧ wpAnyH _ _ _ _ _ _ _ (a.put o.dst _) _
  rw [hd]
  exact ⟨hS s _ hF H', h s hF _ _ (K.put hdn _) H' (hS s _ hF H')⟩
theorem SxO.callB {i d f : Nat} {o : Oper} {args : Array Value} {v : Value} (hi : ops[i]? = some o) (hon : GOn ops vs o.guard) (hd : o.dst = some d) (hdn : Nat.blt d n = true)
    (hr : ∀ ρ w, Env vs ρ → (execOp ρ o).run P w = .ok (.enter f args) w) (hc : ∀ w, Hp w0 L w → Calls P f args w fun e w' => e = .returned v ∧ Below w.heap.size w w')
    (hS : ∀ w, Hp w0 L w → S w) (h : SxA P ops Q S fuel (listed.setIfInBounds i true) n ((d, v) :: vs) w0 L) : SxO P ops Q S fuel listed i n vs w0 L :=
  SxO.call (σ := Unit) (fun _ => v) (fun _ => True) (fun _ => L) hi hon hd hdn hr (fun w H => (hc w H).mono fun _ _ he => ⟨(), he.1, trivial, H.below he.2⟩) (fun _ w _ H => hS w H) (fun _ _ => h)
end
end Go.Proofs.YteiaiilfekojfaaGreat.Sx
end
section
set_option linter.unusedVariables false
set_option linter.unusedSimpArgs false
namespace Go.Proofs.YteiaiilfekojfaaGreat.Sx
open Go.RowKit DrawInv

/-- Two facts turn at once. -/
theorem Hp.two {w0 w w' : World} {R : List Ft} {f g : Ft} (H : Hp w0 (f :: g :: R) w) (f' g' : Ft) (hc : Outs (f.fp ++ g.fp) w w') (hl : f'.Loc) (hl2 : g'.Loc)
    (hf1 : ∀ b ∈ f'.fp, b < w'.heap.size ∧ (b ∈ f.fp ∨ w.heap.size ≤ b)) (hg1 : ∀ b ∈ g'.fp, b < w'.heap.size ∧ (b ∈ g.fp ∨ w.heap.size ≤ b)) (hd : ∀ b ∈ f'.fp, b ∉ g'.fp)
    (hfr : ∀ b ∈ f.fp, b ∈ f'.fp ∨ w0.heap.size ≤ b) (hgr : ∀ b ∈ g.fp, b ∈ g'.fp ∨ w0.heap.size ≤ b) (hf : f'.φ w') (hg : g'.φ w') : Hp w0 (f' :: g' :: R) w' := by
  obtain ⟨d1, d2⟩ := List.pairwise_cons.1 H.dj
  obtain ⟨d3, d4⟩ := List.pairwise_cons.1 d2
  have okf := H.ok f (List.mem_cons_self ..)
  have okg := H.ok g (List.mem_cons_of_mem _ (List.mem_cons_self ..))
  have okr : ∀ p ∈ R, p.Loc ∧ (∀ b ∈ p.fp, b < w.heap.size) ∧ p.φ w := fun p hp => H.ok p (List.mem_cons_of_mem _ (List.mem_cons_of_mem _ hp))
  refine ⟨?_, ?_, fun p hp => ?_⟩
  · refine (H.os.then_ hc fun b hb _ => ?_).mono fun b hb hlt => ?_
    · simp only [List.flatMap_cons, List.mem_append] at hb ⊢
      rcases hb with h | h
      · exact .inl h
      · exact .inr (.inl h)
    · simp only [List.flatMap_cons, List.mem_append] at hb ⊢
      rcases hb with h | h | h
      · rcases hfr b h with h | h
        · exact .inl h
        · omega
      · rcases hgr b h with h | h
        · exact .inr (.inl h)
        · omega
      · exact .inr (.inr h)
  · refine List.pairwise_cons.2 ⟨fun q hq b hb hbq => ?_, List.pairwise_cons.2 ⟨fun q hq b hb hbq => ?_, d4⟩⟩
    · rcases List.mem_cons.1 hq with rfl | hq
      · exact hd b hb hbq
      · rcases (hf1 b hb).2 with h | h
        · exact d1 q (List.mem_cons_of_mem _ hq) b h hbq
        · have := (okr q hq).2.1 b hbq; omega
    · rcases (hg1 b hb).2 with h | h
      · exact d3 q hq b h hbq
      · have := (okr q hq).2.1 b hbq; omega
  · rcases List.mem_cons.1 hp with rfl | hp
    · exact ⟨hl, fun b hb => (hf1 b hb).1, hf⟩
    rcases List.mem_cons.1 hp with rfl | hp
    · exact ⟨hl2, fun b hb => (hg1 b hb).1, hg⟩
    obtain ⟨h1, h2, h3⟩ := okr p hp
    refine ⟨h1, fun b hb => Nat.lt_of_lt_of_le (h2 b hb) hc.size, h1 w w' (fun b hb => hc.block b (h2 b hb) fun hx => ?_) h3⟩
    rcases List.mem_append.1 hx with h | h
    · exact d1 p (List.mem_cons_of_mem _ hp) b h hb
    · exact d3 p hp b h hb
/-- A fact about a block told in other words. -/
theorem Hp.re {w0 w : World} {L : List Ft} (H : Hp w0 L w) {i : Nat} {f : Ft} (hi : nth L i = some f) (f' : Ft) (hl : f'.Loc) (he : f'.fp = f.fp) (hf : f.φ w → f'.φ w) : Hp w0 (putF L i f') w :=
  H.chg hi f' (Outs.refl _ _) hl (fun g hg => ⟨(H.ok f (nth_mem hi)).2.1 g (he ▸ hg), .inl (he ▸ hg)⟩) (fun g hg => .inl (he ▸ hg)) (hf (H.get hi))
section
variable {P : Program} {ops : Array Oper} {Q Q' : Exit → Act → World → Prop} {n : Nat} {vs : Vs} {w0 : World} {L : List Ft} {o : Oper} {rest : List Oper} {S : World → Prop} {fuel : Nat} {listed : Array Bool}
theorem SxC.drawnK {id : Nat} {l : List Oper} {Lk : List Ft} (G is : List Nat) (hm : P.follows .mixedOrders = true) (hp : picks L is = some Lk) (hg : allF L fun f => ∀ g ∈ f.fp, g ∈ G ∨ w0.heap.size ≤ g)
    (h : SxA P l.toArray Q (Ks w0 G Lk) l.toArray.size (Array.replicate l.toArray.size false) n vs w0 L) : SxC P (.region id l.toArray true) Q n vs w0 L := SxC.drawn _ hm (fun w H => H.ks G is hp hg) h
theorem SxO.valB {i d : Nat} {o : Oper} {b : Bool} (hi : ops[i]? = some o) (hon : GOn ops vs o.guard) (hd : o.dst = some d) (hdn : Nat.blt d n = true) (hr : ∀ ρ w, Env vs ρ → Hp w0 L w → (execOp ρ o).run P w = .ok (.value (.bool b)) w)
    (h : ∀ t, b = t → SxA P ops Q S fuel (listed.setIfInBounds i true) n ((d, .bool t) :: vs) w0 L) : SxO P ops Q S fuel listed i n vs w0 L := SxO.val hi hon hd hdn hr (h b rfl)
theorem SxL.callBB {d f : Nat} {args : Array Value} {b : Bool} (hon : GOn ops vs o.guard) (hd : o.dst = some d) (hdn : Nat.blt d n = true)
    (hr : ∀ ρ w, Env vs ρ → (execOp ρ o).run P w = .ok (.enter f args) w) (hc : ∀ w, Hp w0 L w → Calls P f args w fun e w' => e = .returned (.bool b) ∧ Below w.heap.size w w')
    (h : ∀ t, b = t → SxL P ops Q rest n ((d, .bool t) :: vs) w0 L) : SxL P ops Q (o :: rest) n vs w0 L := SxL.callB hon hd hdn hr hc (h b rfl)
theorem SxO.callBB {i d f : Nat} {o : Oper} {args : Array Value} {b : Bool} (hi : ops[i]? = some o) (hon : GOn ops vs o.guard) (hd : o.dst = some d) (hdn : Nat.blt d n = true)
    (hr : ∀ ρ w, Env vs ρ → (execOp ρ o).run P w = .ok (.enter f args) w) (hc : ∀ w, Hp w0 L w → Calls P f args w fun e w' => e = .returned (.bool b) ∧ Below w.heap.size w w')
    (hS : ∀ w, Hp w0 L w → S w) (h : ∀ t, b = t → SxA P ops Q S fuel (listed.setIfInBounds i true) n ((d, .bool t) :: vs) w0 L) : SxO P ops Q S fuel listed i n vs w0 L := SxO.callB hi hon hd hdn hr hc hS (h b rfl)
def Meet (Q : Exit → Act → World → Prop) (K : Act → World → Prop) : Exit → Act → World → Prop
  | .normal, a, w => K a w
  | e, a, w => Q e a w
def At0 {σ : Type} (n : Nat) (w0 : World) (V : σ → Vs) (LF : σ → List Ft) (F : σ → Prop) (a : Act) (w : World) : Prop := ∃ s, F s ∧ Kn n (V s) a ∧ Hp w0 (LF s) w
theorem SxC.cutN {σ : Type} {c : Code} (V : σ → Vs) (LF : σ → List Ft) (F : σ → Prop) (first : SxC P c (Meet Q (At0 n w0 V LF F)) n vs w0 L) (rest : ∀ s, F s → SxN Q n (V s) w0 (LF s)) : SxC P c Q n vs w0 L := fun a w K H => by
  refine wp_mono (first a w K H) fun e a w h => ?_
  cases e with
  | normal => obtain ⟨s, hF, K', H'⟩ := h; exact rest s hF a w K' H'
  | exit id => exact h
  | goto l => exact h
  | ret => exact h
  | panic ch => exact h
  | outgrown => exact h
theorem SxC.cut2 {α β : Type} {c : Code} (V : α → β → Vs) (LF : α → β → List Ft) (F : α → β → Prop) (first : SxC P c (Meet Q (At0 (σ := α × β) n w0 (fun s => V s.1 s.2) (fun s => LF s.1 s.2) (fun s => F s.1 s.2))) n vs w0 L) (rest : ∀ a b, F a b → SxN Q n (V a b) w0 (LF a b)) : SxC P c Q n vs w0 L := SxC.cutN _ _ _ first fun s h => rest s.1 s.2 h
theorem SxN.meet {σ : Type} {V : σ → Vs} {LF : σ → List Ft} {F : σ → Prop} (s : σ) (hF : F s) (hs : Sub (V s) vs) (is : List Nat) (hp : picks L is = some (LF s)) (hn : is.Nodup) (hf : Frs w0 is 0 L) : SxN (Meet Q (At0 n w0 V LF F)) n vs w0 L :=
  fun a w K H => ⟨s, hF, K.sub hs, H.pick is hp hn hf⟩
theorem SxC.loop1 {α : Type} {c : Code} (vF : α → Vs) (LF : α → List Ft) (F : Nat → α → Prop) (k0 : Nat) (a0 : α) (h0 : F k0 a0) (hs : Sub (vF a0) vs) (is : List Nat) (hp : picks L is = some (LF a0)) (hn : is.Nodup) (hf : Frs w0 is 0 L)
    (round : ∀ k a, F k a → SxC P c (Exit.then (Back n w0 vF LF F k) Q) n (vF a) w0 (LF a)) : SxC P (.loop c) Q n vs w0 L := SxC.loop vF LF F k0 a0 h0 hs is hp hn hf round
theorem SxC.loop2 {α β : Type} {c : Code} (vF : α → β → Vs) (LF : α → β → List Ft) (F : Nat → α → β → Prop) (k0 : Nat) (a0 : α) (b0 : β) (h0 : F k0 a0 b0) (hs : Sub (vF a0 b0) vs) (is : List Nat) (hp : picks L is = some (LF a0 b0)) (hn : is.Nodup) (hf : Frs w0 is 0 L)
    (round : ∀ k a b, F k a b → SxC P c (Exit.then (Back (σ := α × β) n w0 (fun s => vF s.1 s.2) (fun s => LF s.1 s.2) (fun k s => F k s.1 s.2) k) Q) n (vF a b) w0 (LF a b)) : SxC P (.loop c) Q n vs w0 L := SxC.loop (fun s : α × β => vF s.1 s.2) (fun s => LF s.1 s.2) (fun k s => F k s.1 s.2) k0 (a0, b0) h0 hs is hp hn hf fun k s h => round k s.1 s.2 h
theorem SxC.loop3 {α β γ : Type} {c : Code} (vF : α → β → γ → Vs) (LF : α → β → γ → List Ft) (F : Nat → α → β → γ → Prop) (k0 : Nat) (a0 : α) (b0 : β) (c0 : γ) (h0 : F k0 a0 b0 c0) (hs : Sub (vF a0 b0 c0) vs) (is : List Nat) (hp : picks L is = some (LF a0 b0 c0)) (hn : is.Nodup) (hf : Frs w0 is 0 L)
    (round : ∀ k a b d, F k a b d → SxC P c (Exit.then (Back (σ := α × β × γ) n w0 (fun s => vF s.1 s.2.1 s.2.2) (fun s => LF s.1 s.2.1 s.2.2) (fun k s => F k s.1 s.2.1 s.2.2) k) Q) n (vF a b d) w0 (LF a b d)) : SxC P (.loop c) Q n vs w0 L := SxC.loop (fun s : α × β × γ => vF s.1 s.2.1 s.2.2) (fun s => LF s.1 s.2.1 s.2.2) (fun k s => F k s.1 s.2.1 s.2.2) k0 (a0, b0, c0) h0 hs is hp hn hf fun k s h => round k s.1 s.2.1 s.2.2 h
theorem SxC.loop4 {α β γ δ : Type} {c : Code} (vF : α → β → γ → δ → Vs) (LF : α → β → γ → δ → List Ft) (F : Nat → α → β → γ → δ → Prop) (k0 : Nat) (a0 : α) (b0 : β) (c0 : γ) (d0 : δ) (h0 : F k0 a0 b0 c0 d0) (hs : Sub (vF a0 b0 c0 d0) vs) (is : List Nat) (hp : picks L is = some (LF a0 b0 c0 d0)) (hn : is.Nodup) (hf : Frs w0 is 0 L)
    (round : ∀ k a b d e, F k a b d e → SxC P c (Exit.then (Back (σ := α × β × γ × δ) n w0 (fun s => vF s.1 s.2.1 s.2.2.1 s.2.2.2) (fun s => LF s.1 s.2.1 s.2.2.1 s.2.2.2) (fun k s => F k s.1 s.2.1 s.2.2.1 s.2.2.2) k) Q) n (vF a b d e) w0 (LF a b d e)) : SxC P (.loop c) Q n vs w0 L := SxC.loop (fun s : α × β × γ × δ => vF s.1 s.2.1 s.2.2.1 s.2.2.2) (fun s => LF s.1 s.2.1 s.2.2.1 s.2.2.2) (fun k s => F k s.1 s.2.1 s.2.2.1 s.2.2.2) k0 (a0, b0, c0, d0) h0 hs is hp hn hf fun k s h => round k s.1 s.2.1 s.2.2.1 s.2.2.2 h
/-- Facts that come to be known on the way. -/
theorem SxL.with {p : Prop} (hp : ∀ w, Hp w0 L w → p) (h : p → SxL P ops Q rest n vs w0 L) : SxL P ops Q rest n vs w0 L := fun a w K H => h (hp w H) a w K H
theorem SxN.with {p : Prop} (hp : ∀ w, Hp w0 L w → p) (h : p → SxN Q n vs w0 L) : SxN Q n vs w0 L := fun a w K H => h (hp w H) a w K H
/-- The world is told anew: what follows starts from other facts that it has. -/
theorem SxC.hp {c : Code} {L' : List Ft} (hp : ∀ w, Hp w0 L w → Hp w0 L' w) (h : SxC P c Q n vs w0 L') : SxC P c Q n vs w0 L := fun a w K H => h a w K (hp w H)
theorem SxN.hp {L' : List Ft} (hp : ∀ w, Hp w0 L w → Hp w0 L' w) (h : SxN Q n vs w0 L') : SxN Q n vs w0 L := fun a w K H => h a w K (hp w H)
theorem SxL.hp {L' : List Ft} (hp : ∀ w, Hp w0 L w → Hp w0 L' w) (h : SxL P ops Q rest n vs w0 L') : SxL P ops Q rest n vs w0 L := fun a w K H => h a w K (hp w H)
end
end Go.Proofs.YteiaiilfekojfaaGreat.Sx
end
section
set_option linter.unusedVariables false
set_option linter.unusedSimpArgs false
namespace Go.Proofs.YteiaiilfekojfaaGreat.Sx
open Go.RowKit DrawInv

theorem add_add (a : Addr) (n m : Nat) : (a.add n).add m = a.add (n + m) := by
  unfold Addr.add
  by_cases h : n = 0 <;> by_cases h' : m = 0 <;> simp [h, h', Nat.add_assoc]
def RowAt (w : World) (a : Addr) (cs : List Value) : Prop := ∀ j v, cs[j]? = some v → w.cell? (a.add j) = some v
theorem _root_.Go.Proofs.YteiaiilfekojfaaGreat.Rows.row {α : Type} {w : World} {A : Option Addr} {sz : Nat} {cells : α → List Value} {l : List α} (h : Rows w A sz cells l) {k : Nat} {x : α} (hk : l[k]? = some x) :
    ∃ ad, A = some ad ∧ ad.block < w.heap.size ∧ RowAt w (ad.add (k * sz)) (cells x) := by
  obtain ⟨ad, e, hl, h0⟩ := h k x hk
  exact ⟨ad, e, hl, fun j v hj => by rw [add_add]; exact h0 j v hj⟩
theorem _root_.Go.Proofs.YteiaiilfekojfaaGreat.Rows.rowA {α : Type} {w : World} {ad : Addr} {sz : Nat} {cells : α → List Value} {l : List α} (h : Rows w (some ad) sz cells l) {k : Nat} {x : α} (hk : l[k]? = some x) : RowAt w (ad.add (k * sz)) (cells x) := by
  obtain ⟨ad', e, _, h0⟩ := h.row hk
  cases e
  exact h0
theorem _root_.Go.Proofs.YteiaiilfekojfaaGreat.Rows.outs {α : Type} {w w' : World} {A : Option Addr} {sz : Nat} {cells : α → List Value} {l : List α} {G : List Nat} (h : Rows w A sz cells l) (ho : Outs G w w') (hne : l ≠ [] → ∀ ad, A = some ad → ad.block ∉ G) : Rows w' A sz cells l := by
  intro k x hk
  obtain ⟨ad, e, hl, h0⟩ := h k x hk
  refine ⟨ad, e, Nat.lt_of_lt_of_le hl ho.size, fun j v hv => ?_⟩
  rw [ho.cell (by rw [block_of_add]; exact hl) (by rw [block_of_add]; exact hne (by rintro rfl; cases hk) ad e)]
  exact h0 j v hv
theorem _root_.Go.Proofs.YteiaiilfekojfaaGreat.Rows.lt {α : Type} {w : World} {A : Option Addr} {sz : Nat} {cells : α → List Value} {l : List α} (h : Rows w A sz cells l) (hne : l ≠ []) : ∀ ad, A = some ad → ad.block < w.heap.size := by
  intro ad e
  cases l with
  | nil => exact absurd rfl hne
  | cons x l =>
    obtain ⟨ad', e', hl, _⟩ := h 0 x rfl
    rw [e] at e'
    cases e'
    exact hl
section
variable {P : Program} {ρ : Operand → Value} {o : Oper} {w : World} {vs : Vs}
/-- An element loaded whole; a cell of it. -/
theorem ex_loadX {t : TypeId} {p : Operand} {a : Addr} {cs : List Value} {d : TypeDesc} (E : Env vs ρ) (hc : RowAt w a cs) (ho : o.op = .load t p) (hp : opv vs p = some (.pointer (some a))) (hu : P.underlying t = some d) (hd : d.isRow = true) (hz : (P.info? t).map (·.size) = some cs.length) : (execOp ρ o).run P w = .ok (.value (.agg cs.toArray)) w := by
  refine exec_load p ho (E.ev hp) ?_
  have hl : (loadCells a cs.length).run P w = .ok cs.toArray w := run_loadCells_list (P := P) w a cs hc
  cases hq : P.info? t with
  | none => simp [hq] at hz
  | some i =>
    have hs : i.size = cs.length := by simpa [hq] using hz
    have hagg : (isAgg t).run P w = .ok true w := by
      unfold isAgg
      rw [Sem.run_bind, run_underlying hu w]
      cases d <;> simp_all
    simp [Instr.loadAt, Instr.sureAddr, loadVar, Sem.run_bind, hagg, sizeOf, typeInfo, hq, hs, hl]
theorem ex_loadXc {t : TypeId} {p : Operand} {a : Addr} {cs : List Value} {v : Value} {d : TypeDesc} (E : Env vs ρ) (hc : RowAt w a cs) (j : Nat) (hj : cs[j]? = some v) (ho : o.op = .load t p) (hp : opv vs p = some (.pointer (some (a.add j)))) (hu : P.underlying t = some d) (hd : d.isRow = false) : (execOp ρ o).run P w = .ok (.value v) w :=
  ex_loadC E (hc j v hj) ho hp hu hd
theorem ex_field0 {s f : Nat} {x : Operand} {a : Addr} (E : Env vs ρ) (ho : o.op = .fieldAddr s x f) (hf : fieldAt P s f 0) (hx : opv vs x = some (.pointer (some a))) : (execOp ρ o).run P w = .ok (.value (.pointer (some a))) w := by
  rw [ex_fieldA E ho hf hx]
  unfold Addr.add
  rw [if_pos rfl]
theorem RowAt.take {w : World} {a : Addr} {cs : List Value} (h : RowAt w a cs) (n : Nat) : RowAt w a (cs.take n) := fun j v hj => h j v (by
  rw [List.getElem?_take] at hj
  split at hj
  · exact hj
  · cases hj)
theorem ex_loadX0 {t : TypeId} {p : Operand} {a : Addr} {cs : List Value} {v : Value} {d : TypeDesc} (E : Env vs ρ) (hc : RowAt w a cs) (hj : cs[0]? = some v) (ho : o.op = .load t p) (hp : opv vs p = some (.pointer (some a))) (hu : P.underlying t = some d) (hd : d.isRow = false) : (execOp ρ o).run P w = .ok (.value v) w :=
  ex_loadC E (by have := hc 0 v hj; unfold Addr.add at this; rw [if_pos rfl] at this; exact this) ho hp hu hd
theorem ex_index0 {t e m g b j : Nat} {x y : Operand} {n c i : Nat} {k : IntKind} (E : Env vs ρ) (ho : o.op = .indexAddr t x y) (ht : P.underlying t = some (.slice e)) (hz : (P.info? e).map (·.size) = some m) (hx : opv vs x = some (.slice (some ⟨g, b, none⟩) n c)) (hy : opv vs y = some (.int k (i : Int))) (hi : i < n) (hj : b + i * m = j) : (execOp ρ o).run P w = .ok (.value (.pointer (some ⟨g, j, none⟩))) w := by
  rw [ex_index E ho ht hz hx hy hi, add_none, hj]
/-- A slice compared with none. -/
theorem ex_snil {T U : TypeId} {x y : Operand} {A : Option Addr} {n c : Nat} {e : TypeId} {t : Bool} (E : Env vs ρ) (ho : o.op = .binOp .eql T x y U) (hT : P.underlying T = some (.slice e)) (hg : P.eqGuardType P.depth T = false) (hx : opv vs x = some (.slice A n c)) (hy : opv vs y = some (.slice none 0 0)) (ht : A.isNone = t) : (execOp ρ o).run P w = .ok (.value (.bool t)) w := by
  subst ht
  unfold execOp; rw [ho]
  simp only [E.ev hx, E.ev hy, Sem.run_bind]
  have h1 : (eqGuard .eql T x y (.slice A n c) (.slice none 0 0)).run P w = .ok () w := by
    simp [eqGuard, hg]
  rw [h1]
  simp only [Result.andThen_ok, Lib.run_eql_slice_nil w T e A n c 0 0 hT, Sem.run_bind, Sem.run_pure]
end
theorem ex_buildSlice0 {P : Program} {ρ : Operand → Value} {o : Oper} {w : World} {t e : TypeId} (ho : o.op = .buildSlice t 0 #[]) (hb : ∀ W : World, (Instr.buildSlice t 0 #[]).run P W = .ok (.slice (some ⟨W.heap.size, 0, none⟩) 0 0) (W.alloc (.cells #[] e))) :
    (execOp ρ o).run P w = .ok (.value (.slice (some ⟨w.heap.size, 0, none⟩) 0 0)) (w.alloc (.cells ([] : List Value).toArray e)) := by
  unfold execOp; rw [ho]
  simp only [Array.map_empty, Sem.run_bind, hb w, Result.andThen_ok, Sem.run_pure]
theorem own_new0 {w : World} {base g e sz : Nat} (h : (cell g e []).φ w) (hg : base ≤ g) : w.ownsRow base e sz (.slice (some ⟨g, 0, none⟩) 0 0) 0 [] :=
  ⟨by simp, .inr ⟨g, 0, #[], rfl, hg, h, Nat.le_refl _, by decide, by simp, by simp⟩⟩
theorem flat_one {α : Type} {f : α → List Value} (h : ∀ x, ∀ u ∈ f x, u.oneCell' = true) (l : List α) : ∀ u ∈ l.flatMap f, u.oneCell' = true := fun u hu => by
  obtain ⟨x, _, hx⟩ := List.mem_flatMap.1 hu
  exact h x u hx
theorem rows_none {α : Type} {w : World} {A : Option Addr} {sz : Nat} {cells : α → List Value} {l : List α} (h : Rows w A sz cells l) (hA : A.isNone = true) : l = [] := by
  cases l with
  | nil => rfl
  | cons x l =>
    obtain ⟨ad, e, _⟩ := h 0 x rfl
    rw [e] at hA
    cases hA
/-- A row of one's own; 'ex': blocks that it once lay in. -/
def rowX (ex : List Nat) (base : Nat) (e : TypeId) (size : Nat) (v : Value) (n : Nat) (xs : List Value) : Ft := ⟨ex ++ v.ownBlock.toList, fun w => w.ownsRow base e size v n xs⟩
def OwnIn (w0 : World) (ex : List Nat) (v : Value) : Prop := ∀ g ∈ v.ownBlock.toList, g ∈ ex ∨ w0.heap.size ≤ g
theorem rowX_loc (ex : List Nat) (base : Nat) (e : TypeId) (size : Nat) (v : Value) (n : Nat) (xs : List Value) : (rowX ex base e size v n xs).Loc := by
  intro w w' h hown
  refine ⟨hown.1, hown.2.imp id fun ⟨g, cap, cur, ev, r1, r2, r3⟩ => ⟨g, cap, cur, ev, r1, ?_, r3⟩⟩
  subst ev
  rw [h g (by simp [rowX, Value.ownBlock])]
  exact r2
theorem own_lt {w : World} {base : Nat} {e : TypeId} {size : Nat} {v : Value} {n : Nat} {xs : List Value} (h : w.ownsRow base e size v n xs) : ∀ g ∈ v.ownBlock.toList, base ≤ g ∧ g < w.heap.size := by
  intro g hg
  exact h.lt g (by simpa using hg)
theorem own_as {w : World} {base : Nat} {e : TypeId} {size : Nat} {v : Value} {n n' : Nat} {xs xs' : List Value} (h : w.ownsRow base e size v n xs) (hn : n = n') (hx : xs = xs') : w.ownsRow base e size v n' xs' := by subst hn hx; exact h
theorem own_is_slice {w : World} {base : Nat} {e : TypeId} {size : Nat} {v : Value} {n : Nat} {xs : List Value} (h : w.ownsRow base e size v n xs) : ∃ A c, v = .slice A n c := by
  rcases h.2 with ⟨rfl, rfl⟩ | ⟨g, cap, cur, rfl, _⟩
  · exact ⟨none, 0, rfl⟩
  · exact ⟨_, _, rfl⟩
theorem own_base {w : World} {b b' : Nat} {e : TypeId} {size n : Nat} {v : Value} {xs : List Value} (h : w.ownsRow b e size v n xs) (hb : b' ≤ b) : w.ownsRow b' e size v n xs :=
  ⟨h.1, h.2.imp id (fun ⟨g, cap, cur, e, hg, r⟩ => ⟨g, cap, cur, e, Nat.le_trans hb hg, r⟩)⟩
theorem OwnIn.fresh {w0 : World} {v : Value} (h : OwnIn w0 [] v) {base : Nat} {e : TypeId} {size n : Nat} {xs : List Value} : ∀ g ∈ (rowX [] base e size v n xs).fp, w0.heap.size ≤ g := fun g hg => (h g (by simpa [rowX] using hg)).resolve_left (by simp)
theorem OwnIn.in_ {w0 : World} {ex : List Nat} {v : Value} (h : OwnIn w0 ex v) {base : Nat} {e : TypeId} {size n : Nat} {xs : List Value} : ∀ g ∈ (rowX ex base e size v n xs).fp, g ∈ ex ∨ w0.heap.size ≤ g := fun g hg => by
  rcases List.mem_append.1 hg with h' | h'
  · exact .inl h'
  · exact h g h'
section
variable {P : Program} {ops : Array Oper} {Q Q' : Exit → Act → World → Prop} {n : Nat} {vs : Vs} {w0 : World} {L : List Ft} {o : Oper} {rest : List Oper} {S : World → Prop} {fuel : Nat} {listed : Array Bool}
/-- A call that hands back a row of one's own; one that turns a fact. -/
theorem callOwn {f : Nat} {args : Array Value} {e : TypeId} {sz m : Nat} {xs : List Value} (hc : ∀ w, Hp w0 L w → Calls P f args w fun E w' => ∃ v', E = .returned v' ∧ w'.ownsRow w.heap.size e sz v' m xs ∧ Below w.heap.size w w') :
    ∀ w, Hp w0 L w → Calls P f args w fun E w' => ∃ s : Value, E = .returned s ∧ OwnIn w0 [] s ∧ Hp w0 (rowX [] w0.heap.size e sz s m xs :: L) w' := fun w H => (hc w H).mono fun E w' ⟨v', he, hown, hb⟩ =>
  ⟨v', he, fun g hg => .inr (Nat.le_trans H.os.size (own_lt hown g hg).1), H.add hb _ (rowX_loc _ _ _ _ _ _ _) (fun g hg => ⟨(own_lt hown g (by simpa [rowX] using hg)).2, (own_lt hown g (by simpa [rowX] using hg)).1⟩) (own_base hown H.os.size)⟩
theorem callTurn {f : Nat} {args : Array Value} {v : Value} {i : Nat} {x : Ft} (x' : Ft) (hi : nth L i = some x) (hl : x'.Loc) (hfp : x'.fp = x.fp) (hc : ∀ w, Hp w0 L w → Calls P f args w fun E w' => E = .returned v ∧ x'.φ w' ∧ Outs x.fp w w') :
    ∀ w, Hp w0 L w → Calls P f args w fun E w' => ∃ s : Unit, E = .returned v ∧ True ∧ Hp w0 (putF L i x') w' := fun w H => (hc w H).mono fun E w' ⟨he, hx, ho⟩ =>
  ⟨(), he, trivial, H.chg hi x' ho hl (fun g hg => ⟨Nat.lt_of_lt_of_le ((H.ok x (nth_mem hi)).2.1 g (hfp ▸ hg)) ho.size, .inl (hfp ▸ hg)⟩) (fun g hg => .inl (hfp ▸ hg)) hx⟩
theorem turn_rd {g : Nat} {e0 : Ending} {v : Value} {w w' : World} {t : TypeId} {cs : List Value} (h : e0 = .returned v ∧ Blk w' g t cs.toArray ∧ w.grownBy w' (some g)) : e0 = .returned v ∧ (cell g t cs).φ w' ∧ Outs [g] w w' :=
  ⟨h.1, h.2.1, Outs.of_grown h.2.2 (List.mem_singleton.2 rfl)⟩
/-- Something appended to a row of one's own. -/
theorem append_wp {o : Oper} {a : Act} {w : World} {K : Act → World → Prop} {i : Nat} {s x : Operand} {t base : Nat} {e : TypeId} {size by_ k m c : Nat} {z v : Value} {xs news : List Value} {A : Option Addr} {ex : List Nat} (K0 : Kn n vs a) (H : Hp w0 L w)
    (ho : o.op = .call { callee := .builtin .append, args := #[s, x], argTypes := #[t, t] }) (ht : P.underlying t = some (.slice e)) (hi : (P.info? e).map (fun i => (i.zero, i.size, i.bytes)) = some (some z, size, by_)) (hzs : z.cells.size = size) (hsz : Nat.blt 0 size = true)
    (hs : opv vs s = some v) (hL : nth L i = some (rowX ex base e size v k xs)) (hv : OwnIn w0 ex v) (hx : opv vs x = some (.slice A m c)) (hr : ∀ w, Hp w0 L w → ∃ B, Reads w B size A m news) (h1 : ∀ u ∈ news, u.oneCell' = true)
    (h63 : k + m ≤ maxLen) (hby : (k + m) * by_ ≤ 140737488355328) (hbase : base ≤ w0.heap.size)
    (h : ∀ A' c' w', OwnIn w0 ex (.slice A' (k + m) c') → Hp w0 (putF L i (rowX ex base e size (.slice A' (k + m) c') (k + m) (xs ++ news))) w' → K (a.put o.dst (.slice A' (k + m) c')) w') : o.wp P a w K Q := by
  cases hq : P.info? e with
  | none => rw [hq] at hi; cases hi
  | some ti =>
    rw [hq] at hi
    have hi := Option.some.inj hi
    injection hi with hz hi
    injection hi with h2 h3
    obtain ⟨B, hr⟩ := hr w H
    have hown : w.ownsRow base e size v k xs := H.get hL
    refine wp_append_any w s x t ho base e ti z size by_ ht hq hz h2 h3 hzs (by simpa using hsz) v k xs (K0.env.ev hs) hown B A m c news (K0.env.ev hx) hr h1 h63 hby (Nat.le_trans hbase H.os.size) ?_
    intro v' w' hown' hg hob
    have hnew : ∀ g ∈ v'.ownBlock.toList, g ∈ v.ownBlock.toList ∨ w.heap.size ≤ g := fun g hgm => by
      rcases hob with e | e
      · left; rw [← e]; exact hgm
      · right; rw [e] at hgm; simp at hgm; omega
    have hv' : OwnIn w0 ex v' := fun g hgm => (hnew g hgm).elim (hv g) fun h => .inr (Nat.le_trans H.os.size h)
    have hos : Outs (ex ++ v.ownBlock.toList) w w' := by
      cases hb : v.ownBlock with
      | none => rw [hb] at hg; exact ⟨hg.os, hg.tape, hg.output, hg.size, fun k hk _ => hg.block k hk (fun e => by cases e)⟩
      | some b => rw [hb] at hg; exact (Outs.of_grown hg (List.mem_singleton.2 rfl)).mono fun g hgm _ => by simp at hgm ⊢; exact .inr hgm
    obtain ⟨A', c', rfl⟩ := own_is_slice hown'
    refine h A' c' w' hv' (H.chg hL _ hos (rowX_loc _ _ _ _ _ _ _) (fun g hgm => ?_) (fun g hgm => ?_) hown')
    · rcases List.mem_append.1 hgm with h' | h'
      · exact ⟨Nat.lt_of_lt_of_le ((H.ok _ (nth_mem hL)).2.1 g (List.mem_append.2 (.inl h'))) hos.size, .inl (List.mem_append.2 (.inl h'))⟩
      · exact ⟨(own_lt hown' g h').2, (hnew g h').imp (fun h => List.mem_append.2 (.inr h)) id⟩
    · rcases List.mem_append.1 hgm with h' | h'
      · exact .inl (List.mem_append.2 (.inl h'))
      · exact (hv g h').imp (fun h => List.mem_append.2 (.inl h)) id
theorem SxL.append {d i : Nat} {s x : Operand} {t base : Nat} {e : TypeId} {size by_ k m c : Nat} {z v : Value} {xs news : List Value} {A : Option Addr} {ex : List Nat} (hon : GOn ops vs o.guard) (hd : o.dst = some d) (hdn : Nat.blt d n = true)
    (ho : o.op = .call { callee := .builtin .append, args := #[s, x], argTypes := #[t, t] }) (ht : P.underlying t = some (.slice e)) (hi : (P.info? e).map (fun i => (i.zero, i.size, i.bytes)) = some (some z, size, by_)) (hzs : z.cells.size = size) (hsz : Nat.blt 0 size = true)
    (hs : opv vs s = some v) (hL : nth L i = some (rowX ex base e size v k xs)) (hv : OwnIn w0 ex v) (hx : opv vs x = some (.slice A m c)) (hr : ∀ w, Hp w0 L w → ∃ B, Reads w B size A m news) (h1 : ∀ u ∈ news, u.oneCell' = true)
    (h63 : k + m ≤ maxLen) (hby : (k + m) * by_ ≤ 140737488355328) (hbase : base ≤ w0.heap.size)
    (h : ∀ A' c', OwnIn w0 ex (.slice A' (k + m) c') → SxL P ops Q rest n ((d, .slice A' (k + m) c') :: vs) w0 (putF L i (rowX ex base e size (.slice A' (k + m) c') (k + m) (xs ++ news)))) : SxL P ops Q (o :: rest) n vs w0 L := fun a w K H => by
  refine on_list (hon.on K.env) ?_
  refine append_wp K H ho ht hi hzs hsz hs hL hv hx hr h1 h63 hby hbase fun A' c' w' hv' H' => ?_
  rw [hd]
  exact h A' c' hv' _ _ (K.put hdn _) H'
theorem SxO.append {i' d i : Nat} {o : Oper} {s x : Operand} {t base : Nat} {e : TypeId} {size by_ k m c : Nat} {z v : Value} {xs news : List Value} {A : Option Addr} {ex : List Nat} (hi' : ops[i']? = some o) (hon : GOn ops vs o.guard) (hd : o.dst = some d) (hdn : Nat.blt d n = true)
    (ho : o.op = .call { callee := .builtin .append, args := #[s, x], argTypes := #[t, t] }) (ht : P.underlying t = some (.slice e)) (hi : (P.info? e).map (fun i => (i.zero, i.size, i.bytes)) = some (some z, size, by_)) (hzs : z.cells.size = size) (hsz : Nat.blt 0 size = true)
    (hs : opv vs s = some v) (hL : nth L i = some (rowX ex base e size v k xs)) (hv : OwnIn w0 ex v) (hx : opv vs x = some (.slice A m c)) (hr : ∀ w, Hp w0 L w → ∃ B, Reads w B size A m news) (h1 : ∀ u ∈ news, u.oneCell' = true)
    (h63 : k + m ≤ maxLen) (hby : (k + m) * by_ ≤ 140737488355328) (hbase : base ≤ w0.heap.size)
    (hS : ∀ A' c' w, OwnIn w0 ex (.slice A' (k + m) c') → Hp w0 (putF L i (rowX ex base e size (.slice A' (k + m) c') (k + m) (xs ++ news))) w → S w)
    (h : ∀ A' c', OwnIn w0 ex (.slice A' (k + m) c') → SxA P ops Q S fuel (listed.setIfInBounds i' true) n ((d, .slice A' (k + m) c') :: vs) w0 (putF L i (rowX ex base e size (.slice A' (k + m) c') (k + m) (xs ++ news)))) : SxO P ops Q S fuel listed i' n vs w0 L := fun a w K H _ => by
  refine op_on hi' (hon.on K.env) ?_
  refine append_wp K H ho ht hi hzs hsz hs hL hv hx hr h1 h63 hby hbase fun A' c' w' hv' H' => ?_
  rw [hd]
  exact ⟨hS A' c' w' hv' H', h A' c' hv' _ _ (K.put hdn _) H' (hS A' c' w' hv' H')⟩
/-- A call that grows a row of one's own. -/
theorem callGrow {f : Nat} {args : Array Value} {i base e sz m m' : Nat} {v : Value} {xs xs' : List Value} {ex : List Nat} (hL : nth L i = some (rowX ex base e sz v m xs)) (hv : OwnIn w0 ex v)
    (hc : ∀ w, Hp w0 L w → Calls P f args w fun E w' => ∃ v', E = .returned v' ∧ w'.ownsRow base e sz v' m' xs' ∧ OwnIn w v.ownBlock.toList v' ∧ Outs v.ownBlock.toList w w') :
    ∀ w, Hp w0 L w → Calls P f args w fun E w' => ∃ s : Value, E = .returned s ∧ OwnIn w0 ex s ∧ Hp w0 (putF L i (rowX ex base e sz s m' xs')) w' := fun w H => (hc w H).mono fun E w' ⟨v', he, hown, hin, hos⟩ => by
  have hv' : OwnIn w0 ex v' := fun g hg => (hin g hg).elim (hv g) fun h => .inr (Nat.le_trans H.os.size h)
  have hos2 : Outs (ex ++ v.ownBlock.toList) w w' := hos.mono fun g hg _ => List.mem_append.2 (.inr hg)
  refine ⟨v', he, hv', H.chg hL _ hos2 (rowX_loc _ _ _ _ _ _ _) (fun g hgm => ?_) (fun g hgm => ?_) hown⟩
  · rcases List.mem_append.1 hgm with h' | h'
    · exact ⟨Nat.lt_of_lt_of_le ((H.ok _ (nth_mem hL)).2.1 g (List.mem_append.2 (.inl h'))) hos.size, .inl (List.mem_append.2 (.inl h'))⟩
    · exact ⟨(own_lt hown g h').2, (hin g h').imp (fun h => List.mem_append.2 (.inr h)) id⟩
  · rcases List.mem_append.1 hgm with h' | h'
    · exact .inl (List.mem_append.2 (.inl h'))
    · exact (hv g h').imp (fun h => List.mem_append.2 (.inl h)) id
theorem Hp.toOuts {w : World} (H : Hp w0 L w) (G : List Nat) (hf : allF L fun f => ∀ g ∈ f.fp, g ∈ G ∨ w0.heap.size ≤ g) : Outs G w0 w := H.os.mono fun g hm hlt => by
  obtain ⟨f, hfm, hg⟩ := List.mem_flatMap.1 hm
  rcases hf.mem f hfm g hg with h | h
  · exact h
  · omega
/-- A row of one's own at the start. -/
theorem Hp.row {w : World} {base e sz m : Nat} {v : Value} {xs : List Value} (hown : w.ownsRow base e sz v m xs) : Hp w [rowX v.ownBlock.toList base e sz v m xs] w :=
  (Hp.start w).know _ (rowX_loc _ _ _ _ _ _ _) (fun g hg => ⟨(own_lt hown g (by simpa [rowX] using hg)).2, fun q hq => by cases hq⟩) hown
theorem OwnIn.refl (w : World) (v : Value) : OwnIn w v.ownBlock.toList v := fun g hg => .inl hg
theorem OwnIn.mono {w : World} {ex ex' : List Nat} {v : Value} (h : OwnIn w ex v) (hs : ∀ g ∈ ex, g ∈ ex') : OwnIn w ex' v := fun g hg => (h g hg).imp (hs g) id
theorem OwnIn.wid {w : World} {ex : List Nat} {v : Value} (h : OwnIn w [] v) : OwnIn w ex v := h.mono fun g hg => by cases hg
theorem one_list {l : List Value} (h : l.all (·.oneCell') = true) : ∀ u ∈ l, u.oneCell' = true := List.all_eq_true.1 h
/-- One elder block known at the start; two. -/
theorem Hp.one {w : World} {g : Nat} {t : TypeId} {cs : List Value} (h : Blk w g t cs.toArray) : Hp w [cell g t cs] w :=
  (Hp.start w).know _ (cell_loc _ _ _) (fun b hb => ⟨by rw [List.mem_singleton.1 hb]; exact h.lt, fun q hq => by cases hq⟩) h
theorem Hp.duo {w : World} {g g' : Nat} {t t' : TypeId} {cs cs' : List Value} (h : Blk w g t cs.toArray) (h' : Blk w g' t' cs'.toArray) (hne : g ≠ g') : Hp w [cell g t cs, cell g' t' cs'] w :=
  (Hp.one h').know _ (cell_loc _ _ _) (fun b hb => ⟨by rw [List.mem_singleton.1 hb]; exact h.lt, fun q hq hbq => by
    rw [List.mem_singleton.1 hb, List.mem_singleton.1 hq] at hbq
    exact hne (List.mem_singleton.1 hbq)⟩) h
/-- A block that holds a slice written out reads as it. -/
theorem reads_cell {w : World} {L : List Ft} {i g t sz m : Nat} {cs : List Value} (H : Hp w0 L w) (hi : nth L i = some (cell g t cs)) (hz : cs.length = m * sz) : ∃ B, Reads w B sz (some ⟨g, 0, none⟩) m cs := by
  have hb : Blk w g t cs.toArray := H.get hi
  refine ⟨w.heap.size, by rw [hz], fun _ => ⟨_, rfl, hb.lt, fun j u hu => ?_⟩⟩
  have := hb.cell j
  rw [Addr.add_mid]
  simp at this ⊢
  rw [this]
  simpa using hu
end
end Go.Proofs.YteiaiilfekojfaaGreat.Sx
end
section
set_option linter.unusedVariables false
set_option linter.unusedSimpArgs false
namespace Go.Proofs.YteiaiilfekojfaaGreat.Sx
open Go.RowKit DrawInv
section
variable {P : Program} {ρ : Operand → Value} {o : Oper} {w : World} {vs : Vs}
theorem ex_sliceTl {t : TypeId} {x y : Operand} {l r : List UInt8} {k : IntKind} {n : Nat} (E : Env vs ρ) (ho : o.op = .slice t x (some y) none none) (ht : P.underlying t = some .string) (hx : opv vs x = some (.string ⟨l.toArray⟩)) (hy : opv vs y = some (.int k (n : Int))) (hn : n ≤ l.length) (hr : l.drop n = r) : (execOp ρ o).run P w = .ok (.value (.string ⟨r.toArray⟩)) w := by
  subst hr
  unfold execOp; rw [ho]
  have h := run_slice_string_l (P := P) w t ⟨l.toArray⟩ ht k (n : Int) (by omega) (by rw [Wire.size_str]; omega)
  simp only [Int.toNat_natCast, Wire.drop_str] at h
  simp only [E.ev hx, E.ev hy, Option.map_some, Option.map_none, Instr.sliceAt, Sem.run_bind, run_underlying ht, h, Result.andThen_ok, Sem.run_pure]
end
theorem own_some {w : World} {base : Nat} {e : TypeId} {size : Nat} {A : Option Addr} {n c m : Nat} {xs : List Value} (h : w.ownsRow base e size (.slice A n c) m xs) (hn : 0 < m) : ∃ g, A = some ⟨g, 0, none⟩ := by
  rcases h.2 with ⟨_, h0⟩ | ⟨g, cap, cur, ev, _⟩
  · omega
  · injection ev with e1 _ _
    exact ⟨g, e1⟩
section
variable {P : Program} {ops : Array Oper} {Q Q' : Exit → Act → World → Prop} {n : Nat} {vs : Vs} {w0 : World} {L : List Ft} {o : Oper} {rest : List Oper}
end
theorem ex_bneq {P : Program} {ρ : Operand → Value} {o : Oper} {w : World} {vs : Vs} {T U : TypeId} {x y : Operand} {a b t : Bool} (E : Env vs ρ) (ho : o.op = .binOp .neq T x y U) (hT : P.underlying T = some .bool) (hx : opv vs x = some (.bool a)) (hy : opv vs y = some (.bool b)) (ht : (a != b) = t) : (execOp ρ o).run P w = .ok (.value (.bool t)) w := by
  subst ht
  unfold execOp; rw [ho]
  simp only [E.ev hx, E.ev hy]
  have h : (Op.equal T (.bool a) (.bool b)).run P w = .ok (a == b) w := by
    unfold Op.equal
    rw [show Op.maxDepth = 9999 + 1 from rfl]
    unfold Op.equalIn
    simp only [run_underlying hT, Sem.run_bind, Result.andThen_ok, Sem.run_pure]
  have h2 : (a != b) = !(a == b) := rfl
  simp only [eqGuard, Sem.run_bind, Sem.run_pure, Result.andThen_ok, ite_self, binOp, h, h2]
end Go.Proofs.YteiaiilfekojfaaGreat.Sx
end
section
set_option linter.unusedVariables false
set_option linter.unusedSimpArgs false
namespace Go.Proofs.YteiaiilfekojfaaGreat.Sx
open Go.RowKit DrawInv Wire
section
variable {P : Program} {ρ : Operand → Value} {o : Oper} {w : World} {vs : Vs}
theorem ex_rem {T U : TypeId} {x y : Operand} {k : IntKind} {a b z : Int} (E : Env vs ρ) (ho : o.op = .binOp .rem T x y U) (hx : opv vs x = some (.int k a)) (hy : opv vs y = some (.int k b)) (h0 : b ≠ 0) (hz : a.tmod b = z) : (execOp ρ o).run P w = .ok (.value (.int k z)) w := by
  unfold execOp; rw [ho]; subst hz
  simp [E.ev hx, E.ev hy, eqGuard, binOp, Op.intDiv, h0]
/-- Cells in a block of their own that may be written; what lies behind them, and its mark, is not told. -/
def RowC (w : World) (g : Nat) (cs : List Value) : Prop := ∃ full e m, w.heap[g]? = some (.cells full e m) ∧ ∀ j v, cs[j]? = some v → full[j]? = some v ∧ (j < m.1 ∨ m.2 ≤ j)
theorem RowC.cell {g : Nat} {cs : List Value} (h : RowC w g cs) {j : Nat} {v : Value} (hv : cs[j]? = some v) : w.cell? ⟨g, j, none⟩ = some v := by
  obtain ⟨full, e, m, h1, h2⟩ := h
  unfold World.cell?
  rw [h1]
  exact (h2 j v hv).1
theorem RowC.frozen {g : Nat} {cs : List Value} (h : RowC w g cs) {j : Nat} {v : Value} (hv : cs[j]? = some v) : w.frozen? ⟨g, j, none⟩ = false := by
  obtain ⟨full, e, ⟨m1, m2⟩, h1, h2⟩ := h
  unfold World.frozen?
  rw [h1]
  have := (h2 j v hv).2
  simp
  omega
theorem RowC.lt {g : Nat} {cs : List Value} (h : RowC w g cs) : g < w.heap.size := by obtain ⟨full, e, m, h1, _⟩ := h; exact (Array.getElem?_eq_some_iff.1 h1).1
theorem RowC.reads {g n : Nat} {cs : List Value} (h : RowC w g cs) (hn : cs.length = n) : Reads w w.heap.size 1 (some ⟨g, 0, none⟩) n cs :=
  ⟨by rw [hn, Nat.mul_one], fun _ => ⟨_, rfl, h.lt, fun j u hu => by rw [add_none, Nat.zero_add]; exact h.cell hu⟩⟩
theorem RowC.at {g : Nat} {cs : List Value} (h : RowC w g cs) {k : Nat} {v : Value} (hv : cs[k]? = some v) : RowAt w ((⟨g, 0, none⟩ : Addr).add (k * 1)) [v] := fun j u hu => by
  have hj : j = 0 := by have := (List.getElem?_eq_some_iff.1 hu).1; simp at this; omega
  subst hj
  obtain rfl : v = u := by simpa using hu
  rw [add_none, add_none, Nat.zero_add, Nat.mul_one, Nat.add_zero]
  exact h.cell hv
theorem RowC.set {g k : Nat} {cs : List Value} (h : RowC w g cs) (v : Value) : RowC (w.setCell ⟨g, k, none⟩ v) g (cs.set k v) := by
  obtain ⟨full, e, m, h1, h2⟩ := h
  refine ⟨full.setIfInBounds k v, e, m, ?_, fun j u hu => ?_⟩
  · unfold World.setCell
    simp [Array.getElem?_modify, h1]
  · rw [List.getElem?_set] at hu
    by_cases hk : k = j
    · subst hk
      by_cases hl : k < cs.length
      · rw [if_pos rfl, if_pos hl] at hu
        obtain ⟨h3, h4⟩ := h2 k cs[k] (List.getElem?_eq_getElem hl)
        have hlt : k < full.size := (Array.getElem?_eq_some_iff.1 h3).1
        rw [← hu]
        exact ⟨by rw [Array.getElem?_setIfInBounds_self_of_lt hlt], h4⟩
      · rw [if_pos rfl, if_neg hl] at hu; cases hu
    · rw [if_neg hk] at hu
      obtain ⟨h3, h4⟩ := h2 j u hu
      exact ⟨by rw [Array.getElem?_setIfInBounds_ne hk]; exact h3, h4⟩
/-- A slice made. -/
theorem ex_makeSlice {t e : TypeId} {x y : Operand} {k k' : IntKind} {z : Int} {n b : Nat} {v : Value} {vs : Vs} (E : Env vs ρ) (ho : o.op = .makeSlice t x y) (ht : P.underlying t = some (.slice e)) (hi : (P.info? e).map (fun i => (i.zero, i.size, i.bytes)) = some (some v, 1, b)) (hx : opv vs x = some (.int k z)) (hy : opv vs y = some (.int k' z)) (hz : z = (n : Int)) (hsm : n * 1 ≤ 16777216) (hb : b * n ≤ 281474976710656) (hm : n ≤ 9223372036854775807) (h1 : v.cells = #[v]) :
    ∃ w', (execOp ρ o).run P w = .ok (.value (.slice (some ⟨w.heap.size, 0, none⟩) n n)) w' ∧ w'.ownsRow w.heap.size e 1 (.slice (some ⟨w.heap.size, 0, none⟩) n n) n (List.replicate n v) ∧ Below w.heap.size w w' := by
  subst hz
  obtain ⟨i, h2, h3, h4, h5⟩ := info_parts hi
  obtain ⟨w', hr, hown, hg⟩ := run_makeSlice_full (P := P) w w.heap.size t e i v 1 ht h2 h3 h4 k k' n hsm (by rw [h5]; exact hb) (by unfold maxLen; omega) (Nat.le_refl _)
  refine ⟨w', ?_, ?_, ⟨hg.os, hg.tape, hg.output, hg.size, fun k hk => hg.block k hk (by simp)⟩⟩
  · unfold execOp; rw [ho]
    simp only [E.ev hx, E.ev hy, Sem.run_bind, hr, Result.andThen_ok]
    rfl
  · have e1 : (madeCells v.cells (n * 1)).toList = List.replicate n v := by
      rw [h1]
      unfold madeCells
      refine List.ext_getElem (by simp) fun j hj hj2 => ?_
      simp [Nat.mod_one]
    rw [e1] at hown
    exact hown
end
section
variable {P : Program} {ops : Array Oper} {Q Q' : Exit → Act → World → Prop} {n : Nat} {vs : Vs} {w0 : World} {L : List Ft} {o : Oper} {rest : List Oper} {S : World → Prop} {fuel : Nat} {listed : Array Bool}
/-- An operation that tells a value and turns what is known. -/
theorem SxL.newG {σ : Type} {d : Nat} (v : σ → Value) (F : σ → Prop) (L' : σ → List Ft) (hon : GOn ops vs o.guard) (hd : o.dst = some d) (hdn : Nat.blt d n = true)
    (hr : ∀ ρ w, Env vs ρ → Hp w0 L w → ∃ s w', (execOp ρ o).run P w = .ok (.value (v s)) w' ∧ F s ∧ Hp w0 (L' s) w')
    (h : ∀ s, F s → SxL P ops Q rest n ((d, v s) :: vs) w0 (L' s)) : SxL P ops Q (o :: rest) n vs w0 L := fun a w K H => by
  refine on_list (hon.on K.env) ?_
  unfold Oper.wp
  obtain ⟨s, w', hr, hF, H'⟩ := hr a.eval w K.env H
  rw [hr]
  show wpList P ops Q rest (a.put o.dst _) _
  rw [hd]
  exact h s hF _ _ (K.put hdn _) H'
theorem SxL.skipG (L' : List Ft) (hon : GOn ops vs o.guard) (hd : o.dst = none) (hr : ∀ ρ w, Env vs ρ → Hp w0 L w → ∃ w', (execOp ρ o).run P w = .ok .skip w' ∧ Hp w0 L' w') (h : SxL P ops Q rest n vs w0 L') : SxL P ops Q (o :: rest) n vs w0 L := fun a w K H => by
  refine on_list (hon.on K.env) ?_
  unfold Oper.wp
  obtain ⟨w', hr, H'⟩ := hr a.eval w K.env H
  rw [hr]
  show wpList P ops Q rest (a.put o.dst _) _
  rw [hd]
  exact h _ _ K H'
theorem SxO.skipG {i : Nat} {o : Oper} (L' : List Ft) (hi : ops[i]? = some o) (hon : GOn ops vs o.guard) (hd : o.dst = none) (hr : ∀ ρ w, Env vs ρ → Hp w0 L w → ∃ w', (execOp ρ o).run P w = .ok .skip w' ∧ Hp w0 L' w') (hS : ∀ w, Hp w0 L' w → S w)
    (h : SxA P ops Q S fuel (listed.setIfInBounds i true) n vs w0 L') : SxO P ops Q S fuel listed i n vs w0 L := fun a w K H _ => by
  refine op_on hi (hon.on K.env) ?_
  unfold Oper.wp
  obtain ⟨w', hr, H'⟩ := hr a.eval w K.env H
  rw [hr]
  show S _ ∧ wpAnyH _ _ _ _ _ _ _ (a.put o.dst _) _
  rw [hd]
  exact ⟨hS _ H', h _ _ K H' (hS _ H')⟩
/-- A store into a known block, what it holds then told plainly. -/
theorem putL_mid : ∀ (l pre rest : List Value), rest.length = l.length → putL (pre ++ rest) pre.length l = pre ++ l
  | [], pre, rest, h => by
    obtain rfl : rest = [] := List.eq_nil_of_length_eq_zero (by simpa using h)
    rfl
  | v :: l, pre, rest, h => by
    cases rest with
    | nil => cases h
    | cons r rest =>
      unfold putL
      have e : (pre ++ r :: rest).set pre.length v = (pre ++ [v]) ++ rest := by simp [List.set_append_right]
      have ih := putL_mid l (pre ++ [v]) rest (by simpa using h)
      rw [List.length_append, List.length_singleton] at ih
      rw [e, ih]
      simp
theorem putL_all (l cs : List Value) (h : cs.length = l.length) : putL cs 0 l = l := putL_mid l [] cs h
theorem SxL.storeX {i g t m off : Nat} {u : TypeId} {cs : List Value} (cs' : List Value) {v : Value} {p x : Operand} (hon : GOn ops vs o.guard) (hd : o.dst = none) (ho : o.op = .store u p x) (hp : opv vs p = some (.pointer (some ⟨g, off, none⟩))) (hx : opv vs x = some v) (hi : nth L i = some (cell g t cs)) (hz : (P.info? u).map (·.size) = some m) (hm : v.cells.toList.length = m) (hl : Nat.ble (off + m) cs.length = true) (h1 : v.cells.toList.all (·.oneCell') = true) (hcs : putL cs off v.cells.toList = cs')
    (h : SxL P ops Q rest n vs w0 (putF L i (cell g t cs'))) : SxL P ops Q (o :: rest) n vs w0 L := by
  subst hcs
  exact SxL.store hon hd ho hp hx hi hz hm hl h1 h
theorem SxO.storeX {i j g t m off : Nat} {o : Oper} {u : TypeId} {cs : List Value} (cs' : List Value) {v : Value} {p x : Operand} (hi : ops[i]? = some o) (hon : GOn ops vs o.guard) (hd : o.dst = none) (ho : o.op = .store u p x) (hp : opv vs p = some (.pointer (some ⟨g, off, none⟩))) (hx : opv vs x = some v) (hj : nth L j = some (cell g t cs)) (hz : (P.info? u).map (·.size) = some m) (hm : v.cells.toList.length = m) (hl : Nat.ble (off + m) cs.length = true) (h1 : v.cells.toList.all (·.oneCell') = true) (hcs : putL cs off v.cells.toList = cs')
    (hS : ∀ w, Hp w0 (putF L j (cell g t cs')) w → S w) (h : SxA P ops Q S fuel (listed.setIfInBounds i true) n vs w0 (putF L j (cell g t cs'))) : SxO P ops Q S fuel listed i n vs w0 L := by
  subst hcs
  exact SxO.store hi hon hd ho hp hx hj hz hm hl h1 hS h
/-- A slice made: a row of one's own. -/
theorem SxL.make {d b m : Nat} {t e : TypeId} {x y : Operand} {k k' : IntKind} {z : Int} {v : Value} (hon : GOn ops vs o.guard) (hd : o.dst = some d) (hdn : Nat.blt d n = true) (ho : o.op = .makeSlice t x y) (ht : P.underlying t = some (.slice e)) (hi : (P.info? e).map (fun i => (i.zero, i.size, i.bytes)) = some (some v, 1, b)) (hx : opv vs x = some (.int k z)) (hy : opv vs y = some (.int k' z)) (hz : z = (m : Int)) (hsm : m * 1 ≤ 16777216) (hb : b * m ≤ 281474976710656) (hm : m ≤ 9223372036854775807) (h1 : v.cells = #[v])
    (h : ∀ g, OwnIn w0 [] (.slice (some ⟨g, 0, none⟩) m m) → SxL P ops Q rest n ((d, .slice (some ⟨g, 0, none⟩) m m) :: vs) w0 (rowX [] w0.heap.size e 1 (.slice (some ⟨g, 0, none⟩) m m) m (List.replicate m v) :: L)) : SxL P ops Q (o :: rest) n vs w0 L :=
  SxL.newG (σ := Nat) (fun g => .slice (some ⟨g, 0, none⟩) m m) (fun g => OwnIn w0 [] (.slice (some ⟨g, 0, none⟩) m m)) (fun g => rowX [] w0.heap.size e 1 (.slice (some ⟨g, 0, none⟩) m m) m (List.replicate m v) :: L) hon hd hdn (fun ρ w E H => by
    obtain ⟨w', hr, hown, hb⟩ := ex_makeSlice (P := P) (w := w) E ho ht hi hx hy hz hsm hb hm h1
    refine ⟨w.heap.size, w', hr, fun g hg => .inr (Nat.le_trans H.os.size (own_lt hown g hg).1), H.add hb _ (rowX_loc _ _ _ _ _ _ _) (fun g hg => ⟨(own_lt hown g (by simpa [rowX] using hg)).2, (own_lt hown g (by simpa [rowX] using hg)).1⟩) (own_base hown H.os.size)⟩) h
end
theorem resM {P : Program} {n : Nat} {vs : Vs} {fn : Func} {a : Act} {w : World} (K : Kn n vs a) {rs : List ResultVar} (l : List Value) (h : fn.results = rs.toArray) (hl : Nat.beq l.length 1 = false) (hv : resV P vs w rs l) : (results fn a.tmps).run P w = .ok (.tuple l.toArray) w := by
  rw [resN K l h hv, dif_neg]
  intro e
  have e2 : l.length = 1 := by simpa using e
  rw [e2] at hl
  cases hl
end Go.Proofs.YteiaiilfekojfaaGreat.Sx
end
section
set_option linter.unusedVariables false
set_option linter.unusedSimpArgs false
set_option linter.unusedSectionVars false
namespace Go.Proofs.YteiaiilfekojfaaGreat.Sx
open Go.RowKit DrawInv

/-- Keys of a type: how they lie, that they may be keys, how they are compared. -/
structure KeyT {α : Type} [DecidableEq α] (P : Program) (kt : TypeId) (enc : α → Value) : Prop where
  now : ∃ d, P.underlying kt = some d ∧ ∀ k e, Instr.sameNow d k e = none
  check : ∀ (x : α) (b : Bool) (w : World), (Instr.checkKey b 10000 kt (enc x)).run P w = .ok () w
  equal : ∀ (x y : α) (w : World), (Op.equal kt (enc x) (enc y)).run P w = .ok (decide (x = y)) w
  same : ∀ x : α, Instr.sameBits 10000 (enc x) (enc x) = true
def MapE {α : Type} (w : World) (g : Nat) (enc : α → Value) (M : List (α × Value)) : Prop := ∃ es clock, w.heap[g]? = some (.map es clock) ∧ es.toList.map (fun e => (e.key, e.val)) = M.map fun p => (enc p.1, p.2)
def mapF {α : Type} (g : Nat) (enc : α → Value) (M : List (α × Value)) : Ft := ⟨[g], fun w => MapE w g enc M⟩
theorem mapF_loc {α : Type} (g : Nat) (enc : α → Value) (M : List (α × Value)) : (mapF g enc M).Loc := fun w w' h ⟨es, c, h1, h2⟩ => ⟨es, c, (h g (List.mem_singleton.2 rfl)).trans h1, h2⟩
theorem MapE.lt {α : Type} {w : World} {g : Nat} {enc : α → Value} {M : List (α × Value)} (h : MapE w g enc M) : g < w.heap.size := by obtain ⟨es, c, h1, _⟩ := h; exact (Array.getElem?_eq_some_iff.1 h1).1
def findM {α : Type} [DecidableEq α] : List (α × Value) → α → Nat → Option (Nat × Value)
  | [], _, _ => none
  | p :: M, x, i => if x = p.1 then some (i, p.2) else findM M x (i + 1)
def setM {α : Type} [DecidableEq α] : List (α × Value) → α → Value → List (α × Value)
  | [], x, v => [(x, v)]
  | p :: M, x, v => if x = p.1 then (x, v) :: M else p :: setM M x v
theorem findM_set {α : Type} [DecidableEq α] : ∀ (M : List (α × Value)) (x : α) (v u : Value) (i k : Nat), findM M x k = some (i, u) → k ≤ i ∧ i - k < M.length ∧ setM M x v = M.set (i - k) (x, v) ∧ (M[i - k]?).map (·.1) = some x
  | [], _, _, _, _, _, h => by cases h
  | p :: M, x, v, u, i, k, h => by
    unfold findM at h
    by_cases e : x = p.1
    · rw [if_pos e] at h
      injection h with h
      injection h with h1 h2
      subst h1
      refine ⟨Nat.le_refl _, by simp, ?_, by simp [e]⟩
      unfold setM
      rw [if_pos e]
      simp
    · rw [if_neg e] at h
      obtain ⟨h1, h2, h3, h4⟩ := findM_set M x v u i (k + 1) h
      have ei : i - k = (i - (k + 1)) + 1 := by omega
      refine ⟨by omega, by rw [ei]; simpa using h2, ?_, by rw [ei]; simpa using h4⟩
      unfold setM
      rw [if_neg e, h3, ei]
      rfl
theorem findM_none {α : Type} [DecidableEq α] : ∀ (M : List (α × Value)) (x : α) (v : Value) (k : Nat), findM M x k = none → setM M x v = M ++ [(x, v)]
  | [], _, _, _, _ => rfl
  | p :: M, x, v, k, h => by
    unfold findM at h
    by_cases e : x = p.1
    · rw [if_pos e] at h; cases h
    · rw [if_neg e] at h
      unfold setM
      rw [if_neg e, findM_none M x v (k + 1) h]
      rfl
section
variable {α : Type} [DecidableEq α] {P : Program} {w : World} {kt : TypeId} {enc : α → Value}
theorem run_findAsking (K : KeyT P kt enc) (x : α) : ∀ (es : List MapEntry) (M : List (α × Value)) (i : Nat), es.map (fun e => (e.key, e.val)) = M.map (fun p => (enc p.1, p.2)) → (Instr.findAsking kt (enc x) es i).run P w = .ok (findM M x i) w
  | [], [], i, _ => rfl
  | [], _ :: _, _, h => by cases h
  | _ :: _, [], _, h => by cases h
  | e :: es, p :: M, i, h => by
    simp only [List.map_cons, List.cons.injEq, Prod.mk.injEq] at h
    obtain ⟨⟨h1, h2⟩, h3⟩ := h
    unfold Instr.findAsking findM
    rw [h1]
    simp only [Sem.run_bind, K.equal x p.1 w, Result.andThen_ok]
    by_cases e1 : x = p.1
    · rw [if_pos (by simpa using e1), if_pos e1, h2]; rfl
    · rw [if_neg (by simpa using e1), if_neg e1]
      exact run_findAsking K x es M (i + 1) h3
theorem run_findKey (K : KeyT P kt enc) (x : α) (es : List MapEntry) (M : List (α × Value)) (h : es.map (fun e => (e.key, e.val)) = M.map (fun p => (enc p.1, p.2))) : (Instr.findKey kt (enc x) es).run P w = .ok (findM M x 0) w := by
  obtain ⟨d, hd, hn⟩ := K.now
  unfold Instr.findKey
  simp only [Sem.run_bind, run_underlying hd, Result.andThen_ok]
  cases es with
  | nil =>
    cases M with
    | nil => rfl
    | cons p M => cases h
  | cons e es =>
    unfold Instr.findNow
    rw [hn]
    exact run_findAsking K x (e :: es) M 0 h
variable {g t et : Nat} {M : List (α × Value)}
theorem run_lookM (K : KeyT P kt enc) (hg : MapE w g enc M) (ht : P.underlying t = some (.map kt et)) (x : α) (z : Value) (hz : (P.info? et).bind (·.zero) = some z) : (Instr.lookup t (.map (some g)) (enc x) false).run P w = .ok (((findM M x 0).map (·.2)).getD z) w := by
  obtain ⟨es, c, h1, h2⟩ := hg
  have hzv : (zeroValue et).run P w = .ok z w := by
    cases hi : P.info? et with
    | none => rw [hi] at hz; cases hz
    | some i =>
      rw [hi] at hz
      have hz : i.zero = some z := hz
      simp [zeroValue, typeInfo, hi, hz]
  unfold Instr.lookup
  simp only [Sem.run_bind, run_underlying ht, Result.andThen_ok, map_getObj h1, Sem.run_pure, K.check x _ w, run_findKey K x es.toList M h2]
  cases findM M x 0 with
  | none => simp [hzv]
  | some r => simp
theorem run_putM (K : KeyT P kt enc) (hg : MapE w g enc M) (ht : P.underlying t = some (.map kt et)) (x : α) (v : Value) : ∃ w', (Instr.mapUpdate t (.map (some g)) (enc x) v).run P w = .ok () w' ∧ MapE w' g enc (setM M x v) ∧ w.grownBy w' (some g) := by
  have hlt := hg.lt
  obtain ⟨es, c, h1, h2⟩ := hg
  have hgr : ∀ o, w.grownBy (w.putObj g o) (some g) := fun o => ⟨rfl, rfl, rfl, by rw [World.putObj_size]; exact Nat.le_refl _, fun k hk hne => World.putObj_heap_other (fun e => hne (by rw [e]))⟩
  unfold Instr.mapUpdate
  simp only [Sem.run_bind, run_underlying ht, Result.andThen_ok, map_getObj h1, K.check x _ w, run_findKey K x es.toList M h2]
  cases hf : findM M x 0 with
  | none =>
    simp only [map_setObj h1]
    refine ⟨_, rfl, ⟨_, _, World.putObj_heap_same hlt, ?_⟩, hgr _⟩
    rw [findM_none M x v 0 hf]
    simp [h2]
  | some r =>
    obtain ⟨i, u⟩ := r
    obtain ⟨-, k2, k3, k4⟩ := findM_set M x v u i 0 hf
    rw [Nat.sub_zero] at k2 k3 k4
    have hk : ((es[i]?).map (·.key)) = some (enc x) := by
      have e1 : (es.toList.map (fun e => (e.key, e.val)))[i]? = (M.map fun p => (enc p.1, p.2))[i]? := by rw [h2]
      rw [List.getElem?_map, List.getElem?_map] at e1
      have e2 := congrArg (Option.map (·.1)) e1
      rw [Option.map_map, Option.map_map] at e2
      have e3 : (M[i]?).map ((fun q : Value × Value => q.1) ∘ fun p => (enc p.1, p.2)) = (M[i]?.map (·.1)).map enc := by rw [Option.map_map]; rfl
      rw [e3, k4] at e2
      simpa [Function.comp_def] using e2
    simp only [hk, Option.getD_some]
    unfold Instr.keyThatStays
    rw [if_pos (K.same x)]
    simp only [Sem.run_bind, Sem.run_pure, Result.andThen_ok, map_setObj h1]
    refine ⟨_, rfl, ⟨_, _, World.putObj_heap_same hlt, ?_⟩, hgr _⟩
    rw [k3]
    refine List.ext_getElem? fun j => ?_
    have e1 : (es.toList.map (fun e => (e.key, e.val)))[j]? = (M.map fun p => (enc p.1, p.2))[j]? := by rw [h2]
    rw [List.getElem?_map, List.getElem?_map] at e1 ⊢
    rw [Array.getElem?_toList] at e1 ⊢
    rw [Array.getElem?_modify]
    by_cases hj : i = j
    · subst hj
      rw [if_pos rfl, List.getElem?_set_self k2]
      cases he : es[i]? with
      | none => rw [he] at hk; cases hk
      | some e => simp
    · rw [if_neg hj, List.getElem?_set_ne hj]
      exact e1
end
section
variable {α : Type} [DecidableEq α] {P : Program} {kt : TypeId} {enc : α → Value} {ops : Array Oper} {Q : Exit → Act → World → Prop} {n : Nat} {vs : Vs} {w0 : World} {L : List Ft} {o : Oper} {rest : List Oper} {S : World → Prop} {fuel : Nat} {listed : Array Bool} {M : List (α × Value)} {g t et : Nat}
theorem ex_lookup {ρ : Operand → Value} {w : World} {x y : Operand} {k : α} {z : Value} (E : Env vs ρ) (K : KeyT P kt enc) (hg : MapE w g enc M) (ho : o.op = .lookup t x y false) (ht : P.underlying t = some (.map kt et)) (hz : (P.info? et).bind (·.zero) = some z) (hx : opv vs x = some (.map (some g))) (hy : opv vs y = some (enc k)) {r : Value} (hr : ((findM M k 0).map (·.2)).getD z = r) : (execOp ρ o).run P w = .ok (.value r) w := by
  subst hr
  unfold execOp; rw [ho]
  simp only [E.ev hx, E.ev hy, Sem.run_bind, run_lookM K hg ht k z hz, Result.andThen_ok]
  rfl
theorem Hp.putM {ρ : Operand → Value} {w : World} {i : Nat} {x y u : Operand} {k : α} {v : Value} (E : Env vs ρ) (H : Hp w0 L w) (K : KeyT P kt enc) (hi : nth L i = some (mapF g enc M)) (ho : o.op = .mapUpdate t x y u) (ht : P.underlying t = some (.map kt et)) (hx : opv vs x = some (.map (some g))) (hy : opv vs y = some (enc k)) (hu : opv vs u = some v) :
    ∃ w', (execOp ρ o).run P w = .ok .skip w' ∧ Hp w0 (putF L i (mapF g enc (setM M k v))) w' := by
  obtain ⟨w', hr, hm, hgr⟩ := run_putM (P := P) (w := w) K (H.get hi) ht k v
  refine ⟨w', ?_, H.chg hi _ (Outs.of_grown hgr (List.mem_singleton.2 rfl)) (mapF_loc _ _ _) (fun b hb => ?_) (fun b hb => .inl hb) hm⟩
  · unfold execOp; rw [ho]
    simp only [E.ev hx, E.ev hy, E.ev hu, Sem.run_bind, hr, Result.andThen_ok]
    rfl
  · obtain rfl := List.mem_singleton.1 hb
    exact ⟨hm.lt, .inl (List.mem_singleton.2 rfl)⟩
theorem Hp.newM {ρ : Operand → Value} {w : World} (E : Env vs ρ) (H : Hp w0 L w) (enc : α → Value) (ho : o.op = .makeMap t none) : ∃ (s : Nat) (w' : World), (execOp ρ o).run P w = .ok (.value (.map (some s))) w' ∧ w0.heap.size ≤ s ∧ Hp w0 (mapF s enc [] :: L) w' := by
  refine ⟨w.heap.size, w.alloc (.map #[] 0), ?_, H.os.size, H.add ((Below.refl _ w).alloc (Nat.le_refl _) _) _ (mapF_loc _ _ _) (fun b hb => ?_) ⟨#[], 0, by rw [World.alloc]; simp, rfl⟩⟩
  · unfold execOp; rw [ho]
    simp only [Instr.makeMap, newObj, Sem.run_bind]
    rfl
  · obtain rfl := List.mem_singleton.1 hb
    exact ⟨by rw [World.alloc, Array.size_push]; omega, Nat.le_refl _⟩
theorem Hp.clearM {ρ : Operand → Value} {w : World} {i : Nat} {x : Operand} (E : Env vs ρ) (H : Hp w0 L w) (hi : nth L i = some (mapF g enc M)) (ho : o.op = .call { callee := .builtin .clear, args := #[x], argTypes := #[t] }) (ht : P.underlying t = some (.map kt et)) (hx : opv vs x = some (.map (some g))) :
    ∃ (s : Unit) (w' : World), (execOp ρ o).run P w = .ok (.value (.tuple #[])) w' ∧ True ∧ Hp w0 (putF L i (mapF g enc [])) w' := by
  have hm : MapE w g enc M := H.get hi
  have hlt := hm.lt
  obtain ⟨es, c, h1, h2⟩ := hm
  have hgr : w.grownBy (w.putObj g (.map #[] c)) (some g) := ⟨rfl, rfl, rfl, by rw [World.putObj_size]; exact Nat.le_refl _, fun k hk hne => World.putObj_heap_other (fun e => hne (by rw [e]))⟩
  have hm' : MapE (w.putObj g (.map #[] c)) g enc ([] : List (α × Value)) := ⟨#[], c, World.putObj_heap_same hlt, rfl⟩
  refine ⟨(), w.putObj g (.map #[] c), ?_, trivial, H.chg hi _ (Outs.of_grown hgr (List.mem_singleton.2 rfl)) (mapF_loc _ _ _) (fun b hb => ?_) (fun b hb => .inl hb) hm'⟩
  · unfold execOp; rw [ho]
    simp [E.ev hx, resolve, invoke, builtin, Builtin.clear_, run_underlying ht, map_getObj h1, map_setObj h1]
  · obtain rfl := List.mem_singleton.1 hb
    exact ⟨hm'.lt, .inl (List.mem_singleton.2 rfl)⟩
end
end Go.Proofs.YteiaiilfekojfaaGreat.Sx
end
section
namespace Go.Proofs.YteiaiilfekojfaaGreat.Sx
open Go.RowKit

theorem en_palaver_wire_Reader_Below : Enters Tryz.prog 92 := enters_of Tryz.func92 (by kernel_rfl) rfl
theorem en_palaver_wire_Reader_Byte : Enters Tryz.prog 58 := enters_of Tryz.func58 (by kernel_rfl) rfl
theorem en_palaver_wire_Reader_Err : Enters Tryz.prog 94 := enters_of Tryz.func94 (by kernel_rfl) rfl
theorem en_palaver_wire_Reader_Num : Enters Tryz.prog 140 := enters_of Tryz.func140 (by kernel_rfl) rfl
theorem en_palaver_wire_Reader_Str : Enters Tryz.prog 124 := enters_of Tryz.func124 (by kernel_rfl) rfl
theorem en_palaver_ballot_Check : Enters Tryz.prog 180 := enters_of Tryz.func180 (by kernel_rfl) rfl
theorem en_palaver_ballot_Put : Enters Tryz.prog 132 := enters_of Tryz.func132 (by kernel_rfl) rfl
theorem en_palaver_ballot_Take : Enters Tryz.prog 134 := enters_of Tryz.func134 (by kernel_rfl) rfl
theorem en_palaver_cmd_Check : Enters Tryz.prog 116 := enters_of Tryz.func116 (by kernel_rfl) rfl
theorem en_palaver_cmd_Put : Enters Tryz.prog 111 := enters_of Tryz.func111 (by kernel_rfl) rfl
theorem en_palaver_cmd_Take : Enters Tryz.prog 113 := enters_of Tryz.func113 (by kernel_rfl) rfl
theorem en_palaver_msg_command : Enters Tryz.prog 78 := enters_of Tryz.func78 (by kernel_rfl) rfl
theorem en_palaver_msg_floor : Enters Tryz.prog 84 := enters_of Tryz.func84 (by kernel_rfl) rfl
theorem en_palaver_msg_given : Enters Tryz.prog 137 := enters_of Tryz.func137 (by kernel_rfl) rfl
theorem en_palaver_msg_items : Enters Tryz.prog 87 := enters_of Tryz.func87 (by kernel_rfl) rfl
theorem en_palaver_msg_name : Enters Tryz.prog 79 := enters_of Tryz.func79 (by kernel_rfl) rfl
theorem en_palaver_msg_node : Enters Tryz.prog 81 := enters_of Tryz.func81 (by kernel_rfl) rfl
theorem en_palaver_msg_reply : Enters Tryz.prog 80 := enters_of Tryz.func80 (by kernel_rfl) rfl
theorem en_palaver_msg_row : Enters Tryz.prog 77 := enters_of Tryz.func77 (by kernel_rfl) rfl
theorem en_palaver_msg_slot : Enters Tryz.prog 83 := enters_of Tryz.func83 (by kernel_rfl) rfl
theorem en_palaver_msg_turn : Enters Tryz.prog 82 := enters_of Tryz.func82 (by kernel_rfl) rfl
theorem en_palaver_msg_value : Enters Tryz.prog 86 := enters_of Tryz.func86 (by kernel_rfl) rfl
theorem en_palaver_msg_votes : Enters Tryz.prog 85 := enters_of Tryz.func85 (by kernel_rfl) rfl
theorem en_palaver_wire_Num : Enters Tryz.prog 88 := enters_of Tryz.func88 (by kernel_rfl) rfl
theorem en_palaver_wire_Str : Enters Tryz.prog 122 := enters_of Tryz.func122 (by kernel_rfl) rfl
theorem en_slices_Clone_palaver_api_Item_palaver_api_Item : Enters Tryz.prog 159 := enters_of Tryz.func159 (by kernel_rfl) rfl
theorem en_slices_Clone_palaver_api_Vote_palaver_api_Vote : Enters Tryz.prog 150 := enters_of Tryz.func150 (by kernel_rfl) rfl
theorem sz_api_Item : (Tryz.prog.info? 26).map (·.size) = some 1 := by kernel_rfl
theorem sz_api_Vote : (Tryz.prog.info? 25).map (·.size) = some 1 := by kernel_rfl
theorem sz_palaver_api_Ballot : (Tryz.prog.info? 24).map (·.size) = some 2 := by kernel_rfl
theorem sz_palaver_api_Cmd : (Tryz.prog.info? 29).map (·.size) = some 7 := by kernel_rfl
theorem fa_palaver_api_Cmd_0 : fieldAt Tryz.prog 29 0 0 := ⟨_, _, 0, Tryz.underlying29, rfl, by kernel_rfl, rfl⟩
theorem fa_palaver_api_Cmd_1 : fieldAt Tryz.prog 29 1 1 := ⟨_, _, 0, Tryz.underlying29, rfl, by kernel_rfl, rfl⟩
theorem sz_palaver_api_Item : (Tryz.prog.info? 94).map (·.size) = some 2 := by kernel_rfl
theorem zr_palaver_api_Item : (Tryz.prog.info? 94).bind (·.zero) = some (.agg #[.int .u64 0, .string ⟨[].toArray⟩]) := by kernel_rfl
theorem nf_palaver_api_Item : (Tryz.prog.info? 94).map (fun i => (i.zero, i.size, i.bytes)) = some (some (.agg #[.int .u64 0, .string ⟨[].toArray⟩]), 2, 24) := by kernel_rfl
theorem fa_palaver_api_Item_0 : fieldAt Tryz.prog 94 0 0 := ⟨_, _, 0, Tryz.underlying94, rfl, by kernel_rfl, rfl⟩
theorem fa_palaver_api_Item_1 : fieldAt Tryz.prog 94 1 1 := ⟨_, _, 0, Tryz.underlying94, rfl, by kernel_rfl, rfl⟩
theorem sz_palaver_api_Msg : (Tryz.prog.info? 33).map (·.size) = some 18 := by kernel_rfl
theorem zr_palaver_api_Msg : (Tryz.prog.info? 33).bind (·.zero) = some (.agg #[.int .u8 0, .int .u64 0, .int .u8 0, .int .u64 0, .int .u64 0, .int .u8 0, .string ⟨[].toArray⟩, .slice none 0 0, .slice none 0 0, .int .u8 0, .int .u32 0, .int .u8 0, .string ⟨[].toArray⟩, .string ⟨[].toArray⟩, .string ⟨[].toArray⟩, .int .u8 0, .int .u8 0, .string ⟨[].toArray⟩]) := by kernel_rfl
theorem fa_palaver_api_Msg_0 : fieldAt Tryz.prog 33 0 0 := ⟨_, _, 0, Tryz.underlying33, rfl, by kernel_rfl, rfl⟩
theorem fa_palaver_api_Msg_1 : fieldAt Tryz.prog 33 1 1 := ⟨_, _, 1, Tryz.underlying33, rfl, by kernel_rfl, rfl⟩
theorem fa_palaver_api_Msg_2 : fieldAt Tryz.prog 33 2 3 := ⟨_, _, 0, Tryz.underlying33, rfl, by kernel_rfl, rfl⟩
theorem fa_palaver_api_Msg_3 : fieldAt Tryz.prog 33 3 4 := ⟨_, _, 0, Tryz.underlying33, rfl, by kernel_rfl, rfl⟩
theorem fa_palaver_api_Msg_4 : fieldAt Tryz.prog 33 4 5 := ⟨_, _, 0, Tryz.underlying33, rfl, by kernel_rfl, rfl⟩
theorem fa_palaver_api_Msg_5 : fieldAt Tryz.prog 33 5 6 := ⟨_, _, 0, Tryz.underlying33, rfl, by kernel_rfl, rfl⟩
theorem fa_palaver_api_Msg_6 : fieldAt Tryz.prog 33 6 7 := ⟨_, _, 0, Tryz.underlying33, rfl, by kernel_rfl, rfl⟩
theorem fa_palaver_api_Msg_7 : fieldAt Tryz.prog 33 7 8 := ⟨_, _, 0, Tryz.underlying33, rfl, by kernel_rfl, rfl⟩
theorem fa_palaver_api_Msg_8 : fieldAt Tryz.prog 33 8 9 := ⟨_, _, 6, Tryz.underlying33, rfl, by kernel_rfl, rfl⟩
theorem fa_palaver_api_Msg_9 : fieldAt Tryz.prog 33 9 16 := ⟨_, _, 1, Tryz.underlying33, rfl, by kernel_rfl, rfl⟩
theorem sz_palaver_api_Reply : (Tryz.prog.info? 31).map (·.size) = some 2 := by kernel_rfl
theorem fa_palaver_api_Reply_0 : fieldAt Tryz.prog 31 0 0 := ⟨_, _, 0, Tryz.underlying31, rfl, by kernel_rfl, rfl⟩
theorem fa_palaver_api_Reply_1 : fieldAt Tryz.prog 31 1 1 := ⟨_, _, 0, Tryz.underlying31, rfl, by kernel_rfl, rfl⟩
theorem sz_palaver_api_Vote : (Tryz.prog.info? 92).map (·.size) = some 4 := by kernel_rfl
theorem zr_palaver_api_Vote : (Tryz.prog.info? 92).bind (·.zero) = some (.agg #[.int .u64 0, .int .u64 0, .int .u8 0, .string ⟨[].toArray⟩]) := by kernel_rfl
theorem nf_palaver_api_Vote : (Tryz.prog.info? 92).map (fun i => (i.zero, i.size, i.bytes)) = some (some (.agg #[.int .u64 0, .int .u64 0, .int .u8 0, .string ⟨[].toArray⟩]), 4, 40) := by kernel_rfl
theorem fa_palaver_api_Vote_0 : fieldAt Tryz.prog 92 0 0 := ⟨_, _, 0, Tryz.underlying92, rfl, by kernel_rfl, rfl⟩
theorem fa_palaver_api_Vote_1 : fieldAt Tryz.prog 92 1 1 := ⟨_, _, 1, Tryz.underlying92, rfl, by kernel_rfl, rfl⟩
theorem fa_palaver_api_Vote_2 : fieldAt Tryz.prog 92 2 3 := ⟨_, _, 0, Tryz.underlying92, rfl, by kernel_rfl, rfl⟩
theorem sz_palaver_msg_part : (Tryz.prog.info? 101).map (·.size) = some 4 := by kernel_rfl
theorem zr_palaver_msg_part : (Tryz.prog.info? 101).bind (·.zero) = some (.agg #[.nilFunc, .nilFunc, .nilFunc, .nilFunc]) := by kernel_rfl
theorem fa_palaver_msg_part_0 : fieldAt Tryz.prog 101 0 0 := ⟨_, _, 0, Tryz.underlying101, rfl, by kernel_rfl, rfl⟩
theorem fa_palaver_msg_part_1 : fieldAt Tryz.prog 101 1 1 := ⟨_, _, 0, Tryz.underlying101, rfl, by kernel_rfl, rfl⟩
theorem fa_palaver_msg_part_2 : fieldAt Tryz.prog 101 2 2 := ⟨_, _, 0, Tryz.underlying101, rfl, by kernel_rfl, rfl⟩
theorem fa_palaver_msg_part_3 : fieldAt Tryz.prog 101 3 3 := ⟨_, _, 0, Tryz.underlying101, rfl, by kernel_rfl, rfl⟩
theorem sz_string : (Tryz.prog.info? 9).map (·.size) = some 1 := by kernel_rfl
theorem sz_uint32 : (Tryz.prog.info? 27).map (·.size) = some 1 := by kernel_rfl
theorem sz_uint64 : (Tryz.prog.info? 22).map (·.size) = some 1 := by kernel_rfl
theorem sz_uint8 : (Tryz.prog.info? 5).map (·.size) = some 1 := by kernel_rfl
theorem zr_uint8 : (Tryz.prog.info? 5).bind (·.zero) = some (.int .u8 0) := by kernel_rfl
theorem nf_uint8 : (Tryz.prog.info? 5).map (fun i => (i.zero, i.size, i.bytes)) = some (some (.int .u8 0), 1, 1) := by kernel_rfl
end Go.Proofs.YteiaiilfekojfaaGreat.Sx
end
section
namespace Go.Proofs.YteiaiilfekojfaaGreat.Msg
open Go.RowKit Wire

structure Vo where
  slot : Nat
  n : Nat
  r : Nat
  value : List UInt8
  deriving DecidableEq
structure Im where
  slot : Nat
  value : List UInt8
  deriving DecidableEq
structure Ms where
  kind : Nat
  bn : Nat
  br : Nat
  base : Nat
  slot : Nat
  node : Nat
  value : List UInt8
  votes : List Vo
  items : List Im
  cmd : Cmd.Cm
  code : Nat
  text : List UInt8
  deriving DecidableEq
def voL (v : Vo) : List Value := [.int .u64 (v.slot : Int), .int .u64 (v.n : Int), .int .u8 (v.r : Int), .string ⟨v.value.toArray⟩]
def imL (x : Im) : List Value := [.int .u64 (x.slot : Int), .string ⟨x.value.toArray⟩]
def msL (m : Ms) (V I : Value) : List Value := [.int .u8 (m.kind : Int), .int .u64 (m.bn : Int), .int .u8 (m.br : Int), .int .u64 (m.base : Int), .int .u64 (m.slot : Int), .int .u8 (m.node : Int), .string ⟨m.value.toArray⟩, V, I,
  .int .u8 (m.cmd.client : Int), .int .u32 (m.cmd.seq : Int), .int .u8 (m.cmd.kind : Int), .string ⟨m.cmd.key.toArray⟩, .string ⟨m.cmd.old.toArray⟩, .string ⟨m.cmd.new.toArray⟩, .int .u8 (m.cmd.set : Int), .int .u8 (m.code : Int), .string ⟨m.text.toArray⟩]
theorem voL_len (v : Vo) : (voL v).length = 4 := rfl
theorem imL_len (x : Im) : (imL x).length = 2 := rfl
theorem voL_one (v : Vo) : ∀ u ∈ voL v, u.oneCell' = true := by
  intro u hu
  simp only [voL, List.mem_cons, List.not_mem_nil, or_false] at hu
  rcases hu with rfl | rfl | rfl | rfl <;> rfl
theorem imL_one (v : Im) : ∀ u ∈ imL v, u.oneCell' = true := by
  intro u hu
  simp only [imL, List.mem_cons, List.not_mem_nil, or_false] at hu
  rcases hu with rfl | rfl <;> rfl
/-- What the types say. -/
structure Vo.Fits (v : Vo) : Prop where
  h1 : v.slot < 18446744073709551616
  h2 : v.n < 18446744073709551616
  h3 : v.r < 256
structure Ms.Fits (m : Ms) : Prop where
  h1 : m.kind < 256
  h2 : m.bn < 18446744073709551616
  h3 : m.br < 256
  h4 : m.base < 18446744073709551616
  h5 : m.slot < 18446744073709551616
  h6 : m.node < 256
  h7 : ∀ v ∈ m.votes, v.Fits
  h8 : ∀ x ∈ m.items, x.slot < 18446744073709551616
  h9 : m.cmd.Fits
  h10 : m.code < 256
inductive Pt where
  | cmd | name | reply | node | turn | floor | slot (least : Nat) | value | votes | items
  deriving DecidableEq
def partsOf (k : Nat) : List Pt :=
  if k = 1 then [.cmd] else if k = 2 then [.name, .reply] else if k = 3 then [.name, .node] else if k = 4 then [.turn, .slot 1] else if k = 8 then [.turn, .slot 1] else if k = 5 then [.turn, .floor, .slot 0, .votes]
  else if k = 6 then [.turn] else if k = 7 then [.turn, .slot 1, .value] else if k = 9 then [.items] else if k = 10 then [.slot 0] else if k = 11 then [.turn, .slot 0] else if k = 12 then [.slot 1, .value]
  else if k = 13 then [.floor, .slot 1, .value] else []
def goodB (n r : Nat) : Bool := Bal.mayB ⟨n, r⟩ && decide (0 < n)
def riseV : Nat → List Vo → Bool
  | _, [] => true
  | last, v :: l => decide (last < v.slot) && (decide (v.slot ≤ 4611686018427387904) && (goodB v.n v.r && riseV v.slot l))
def riseI : Nat → List Im → Bool
  | _, [] => true
  | last, v :: l => decide (last < v.slot) && (decide (v.slot ≤ 4611686018427387904) && riseI v.slot l)
def Pt.may : Pt → Ms → Bool
  | .cmd, m => Cmd.mayB m.cmd
  | .name, m => decide (m.cmd.client < 4) && decide (0 < m.cmd.seq)
  | .reply, m => decide (m.code ≤ 3) && decide (m.text.length ≤ 64)
  | .node, m => decide (m.node < 7)
  | .turn, m => goodB m.bn m.br
  | .floor, m => decide (m.base ≤ 4611686018427387904)
  | .slot l, m => decide (l ≤ m.slot) && decide (m.slot ≤ 4611686018427387904)
  | .value, _ => true
  | .votes, m => riseV 0 m.votes
  | .items, m => riseI 0 m.items && decide (0 < m.items.length)
def Pt.move : Pt → Ms → Ms → Ms
  | .cmd, a, m => { a with cmd := m.cmd }
  | .name, a, m => { a with cmd := { a.cmd with client := m.cmd.client, seq := m.cmd.seq } }
  | .reply, a, m => { a with code := m.code, text := m.text }
  | .node, a, m => { a with node := m.node }
  | .turn, a, m => { a with bn := m.bn, br := m.br }
  | .floor, a, m => { a with base := m.base }
  | .slot _, a, m => { a with slot := m.slot }
  | .value, a, m => { a with value := m.value }
  | .votes, a, m => { a with votes := m.votes }
  | .items, a, m => { a with items := m.items }
def voB (v : Vo) : List UInt8 := numB v.slot ++ (Bal.balB ⟨v.n, v.r⟩ ++ strB v.value)
def imB (x : Im) : List UInt8 := numB x.slot ++ strB x.value
/-- Small enough to be looked at. -/
structure Ms.Small (m : Ms) : Prop where
  h1 : m.value.length ≤ 100000
  h2 : m.votes.length ≤ 100000
  h3 : m.items.length ≤ 100000
  h4 : ∀ v ∈ m.votes, v.value.length ≤ 100000
  h5 : ∀ x ∈ m.items, x.value.length ≤ 100000
  h6 : m.cmd.key.length ≤ 1000
  h7 : m.cmd.old.length ≤ 1000
  h8 : m.cmd.new.length ≤ 1000
  h9 : m.text.length ≤ 1000
  h10 : (m.votes.flatMap voB).length ≤ 400000
  h11 : (m.items.flatMap imB).length ≤ 400000
def Pt.put : Pt → Ms → List UInt8
  | .cmd, m => Cmd.oneB m.cmd
  | .name, m => UInt8.ofNat m.cmd.client :: numB m.cmd.seq
  | .reply, m => UInt8.ofNat m.code :: strB m.text
  | .node, m => [UInt8.ofNat m.node]
  | .turn, m => Bal.balB ⟨m.bn, m.br⟩
  | .floor, m => numB m.base
  | .slot _, m => numB m.slot
  | .value, m => strB m.value
  | .votes, m => numB m.votes.length ++ m.votes.flatMap voB
  | .items, m => numB m.items.length ++ m.items.flatMap imB
def ms0 (k : Nat) : Ms := ⟨k, 0, 0, 0, 0, 0, [], [], [], Cmd.cm0, 0, []⟩
def moved (l : List Pt) (m : Ms) : Ms := l.foldl (fun a p => p.move a m) (ms0 m.kind)
def checkB (m : Ms) : Bool := !(partsOf m.kind).isEmpty && ((partsOf m.kind).all (·.may m) && decide (m = moved (partsOf m.kind) m))
def insideB (m : Ms) : List UInt8 := UInt8.ofNat m.kind :: (partsOf m.kind).flatMap (·.put m)
def putM (m : Ms) : List UInt8 × Nat := if checkB m then (if (insideB m).length ≤ 65536 then (Frame.frameB (insideB m), 0) else ([], 6)) else ([], 2)
def tkV : Nat → Rd → List Vo → Rd × List Vo
  | 0, r, l => (r, l)
  | n + 1, r, l => if r.err = 0 then tkV n ((Bal.takeB r.num.2).2.str 65536).2 (l ++ [⟨r.num.1, (Bal.takeB r.num.2).1.n, (Bal.takeB r.num.2).1.r, ((Bal.takeB r.num.2).2.str 65536).1⟩]) else (r, l)
def tkI : Nat → Rd → List Im → Rd × List Im
  | 0, r, l => (r, l)
  | n + 1, r, l => if r.err = 0 then tkI n (r.num.2.str 65536).2 (l ++ [⟨r.num.1, (r.num.2.str 65536).1⟩]) else (r, l)
def Pt.take : Pt → Ms × Rd → Ms × Rd
  | .cmd, (a, r) => ({ a with cmd := (Cmd.takeC r).1 }, (Cmd.takeC r).2)
  | .name, (a, r) => ({ a with cmd := { a.cmd with client := r.byte.1, seq := (r.byte.2.below 4294967296).1 } }, (r.byte.2.below 4294967296).2)
  | .reply, (a, r) => ({ a with code := r.byte.1, text := (r.byte.2.str 64).1 }, (r.byte.2.str 64).2)
  | .node, (a, r) => ({ a with node := r.byte.1 }, r.byte.2)
  | .turn, (a, r) => ({ a with bn := (Bal.takeB r).1.n, br := (Bal.takeB r).1.r }, (Bal.takeB r).2)
  | .floor, (a, r) => ({ a with base := r.num.1 }, r.num.2)
  | .slot _, (a, r) => ({ a with slot := r.num.1 }, r.num.2)
  | .value, (a, r) => ({ a with value := (r.str 65536).1 }, (r.str 65536).2)
  | .votes, (a, r) => ({ a with votes := (tkV r.num.1 r.num.2 a.votes).2 }, (tkV r.num.1 r.num.2 a.votes).1)
  | .items, (a, r) => ({ a with items := (tkI r.num.1 r.num.2 a.items).2 }, (tkI r.num.1 r.num.2 a.items).1)
def taken (l : List Pt) (k : Nat) (r : Rd) : Ms × Rd := l.foldl (fun a p => p.take a) (ms0 k, r)
def takeM (s : List UInt8) : Ms × Nat :=
  let f := Frame.takeF s
  if f.2.2 ≠ 0 then (ms0 0, f.2.2)
  else if f.2.1 ≠ s.length then (ms0 0, 4)
  else
    let k := Rd.byte ⟨0, f.1⟩
    let p := taken (partsOf k.1) k.1 k.2
    if p.2.end_.err = 0 ∧ checkB p.1 = true then (p.1, 0) else (ms0 0, 4)
/-- The functions of a part. -/
def Pt.putF : Pt → Nat
  | .cmd => 110
  | .name => 117
  | .reply => 121
  | .node => 127
  | .turn => 131
  | .floor => 143
  | .slot _ => 138
  | .value => 152
  | .votes => 147
  | .items => 156
def Pt.takeF : Pt → Nat
  | .cmd => 112
  | .name => 118
  | .reply => 123
  | .node => 128
  | .turn => 133
  | .floor => 144
  | .slot _ => 139
  | .value => 153
  | .votes => 148
  | .items => 157
def Pt.moveF : Pt → Nat
  | .cmd => 114
  | .name => 119
  | .reply => 125
  | .node => 129
  | .turn => 135
  | .floor => 145
  | .slot _ => 141
  | .value => 154
  | .votes => 149
  | .items => 158
def Pt.mayF : Pt → Nat
  | .cmd => 115
  | .name => 120
  | .reply => 126
  | .node => 130
  | .turn => 136
  | .floor => 146
  | .slot _ => 142
  | .value => 155
  | .votes => 151
  | .items => 160
end Go.Proofs.YteiaiilfekojfaaGreat.Msg
end
section
set_option linter.unusedVariables false
set_option linter.unusedSimpArgs false
namespace Go.Proofs.YteiaiilfekojfaaGreat.Msg
open Go.RowKit Sx Wire DrawInv
theorem eq_bal_n (k : Nat) (n r n' r' : Nat) (w : World) : (Op.equalIn (k + 2) 24 (.agg #[.int .u64 (n : Int), .int .u8 (r : Int)]) (.agg #[.int .u64 (n' : Int), .int .u8 (r' : Int)])).run Tryz.prog w = .ok (((n : Int) == (n' : Int)) && (((r : Int) == (r' : Int)) && true)) w := by
  have e1 := run_equalIn_int (P := Tryz.prog) w k 22 .u64 .u64 (n : Int) (n' : Int) Tryz.underlying22
  have e2 := run_equalIn_int (P := Tryz.prog) w k 5 .u8 .u8 (r : Int) (r' : Int) Tryz.underlying5
  obtain ⟨h1, h2⟩ := fields_of Tryz.underlying24
  rw [run_equalIn_agg w (k + 1) _ _ _ h1 (by kernel_rfl), h2]
  exact eqFields_step (by decide) (by kernel_rfl) (by kernel_rfl) e1 (eqFields_step (by decide) (by kernel_rfl) (by kernel_rfl) e2 (eqFields_nil _ _ _ _ _))
theorem eq_bal (n r n' r' : Nat) (w : World) : (Op.equal 24 (.agg #[.int .u64 (n : Int), .int .u8 (r : Int)]) (.agg #[.int .u64 (n' : Int), .int .u8 (r' : Int)])).run Tryz.prog w = .ok (decide (n = n') && decide (r = r')) w := by
  have h4 : (((n : Int) == (n' : Int)) && (((r : Int) == (r' : Int)) && true)) = (decide (n = n') && decide (r = r')) := by
    rw [Bool.and_true]
    congr 1 <;> (apply Bool.eq_iff_iff.2; simp; omega)
  rw [← h4]
  exact eq_bal_n 9998 n r n' r' w

set_option maxRecDepth 100000 in
set_option maxHeartbeats 4000000 in
theorem given_any (mn mr : Nat)  (w : World) : Calls Tryz.prog 137 #[.agg #[.int .u64 (mn : Int), .int .u8 (mr : Int)]] w fun e w' => e = .returned (.bool (goodB mn mr)) ∧ Below w.heap.size w w' := by
  refine sx_enter (n := 11) _ Tryz.func137 rfl rfl rfl (Hp.start w) ?_
  refine SxC.seq (SxC.region ?_)
  refine SxL.new (cs := [.int .u64 (mn : Int), .int .u8 (mr : Int)]) trivial rfl rfl (fun ρ w E H => ex_box E rfl rfl rfl) fun g1 hg1 => ?_
  refine SxL.val trivial rfl rfl (fun ρ w E H => ex_assign E rfl rfl) ?_
  refine SxL.nil (SxN.then_ (SxC.seq (SxC.region ?_)))
  refine SxL.val trivial rfl rfl (fun ρ w E H => ex_load (part := [.int .u64 (mn : Int), .int .u8 (mr : Int)]) E (H.get (i := 0) rfl) rfl rfl Tryz.underlying24 rfl sz_palaver_api_Ballot rfl rfl) ?_
  refine SxL.callB (v := .int .i64 (Bal.chkN ⟨mn, mr⟩)) trivial rfl rfl (fun ρ w E => ex_call E en_palaver_ballot_Check rfl rfl) (fun w H => (Bal.check_any ⟨mn, mr⟩ w).mono fun _ _ h => ⟨h.1, h.2.below⟩) ?_
  refine SxL.valB trivial rfl rfl (fun ρ w E H => ex_cmp E rfl rfl rfl rfl rfl) fun c5 hc5 => ?_
  refine SxL.val trivial rfl rfl (fun ρ w E H => ex_move E rfl rfl) ?_
  cases c5
  · refine SxL.off ⟨_, _, _, rfl, rfl, rfl, nofun⟩ rfl rfl ?_
    iterate 2 refine SxL.off ⟨_, _, _, rfl, rfl, rfl, nofun⟩ rfl rfl ?_
    refine SxL.val trivial rfl rfl (fun ρ w E H => ex_pick E rfl (t := false) rfl rfl) ?_
    refine SxL.val trivial rfl rfl (fun ρ w E H => ex_assign E rfl rfl) ?_
    refine SxL.nil (SxN.then_ (SxC.ret ?_))
    refine SxX.done (.bool false) (fun a w K H => res1 K rfl rfl) (fun w H => ?_)
    have hq : false = goodB mn mr := by clear H; first | rfl | grind [cmpB, goodB, Bal.mayB, Bal.chkN]
    exact ⟨by rw [hq], H.toBelow ⟨(fun g hg => by rw [List.mem_singleton.1 hg]; exact hg1), trivial⟩⟩
  · refine SxL.val ⟨_, _, rfl, rfl, rfl⟩ rfl rfl (fun ρ w E H => ex_load (part := [.int .u64 (mn : Int), .int .u8 (mr : Int)]) E (H.get (i := 0) rfl) rfl rfl Tryz.underlying24 rfl sz_palaver_api_Ballot rfl rfl) ?_
    refine SxL.val ⟨_, _, rfl, rfl, rfl⟩ rfl rfl (fun ρ w E H => ex_build (cs := [.int .u64 0, .int .u8 0]) E rfl rfl (by kernel_rfl)) ?_
    refine SxL.valB ⟨_, _, rfl, rfl, rfl⟩ rfl rfl (fun ρ w E H => ex_aneq E rfl (by kernel_rfl) rfl rfl (fun w => by rw [Bool.not_not]; exact eq_bal mn mr 0 0 w)) fun c9 hc9 => ?_
    refine SxL.val trivial rfl rfl (fun ρ w E H => ex_pick E rfl (t := true) rfl rfl) ?_
    refine SxL.val trivial rfl rfl (fun ρ w E H => ex_assign E rfl rfl) ?_
    refine SxL.nil (SxN.then_ (SxC.ret ?_))
    refine SxX.done (.bool c9) (fun a w K H => res1 K rfl rfl) (fun w H => ?_)
    have hq : c9 = goodB mn mr := by clear H; first | rfl | grind [cmpB, goodB, Bal.mayB, Bal.chkN]
    exact ⟨by rw [hq], H.toBelow ⟨(fun g hg => by rw [List.mem_singleton.1 hg]; exact hg1), trivial⟩⟩

set_option maxRecDepth 100000 in
set_option maxHeartbeats 4000000 in
theorem may_cmd (mk mn mr mb ms mo ca cb ck cz mc : Nat) (mv cs ct cu mt : List UInt8) (vl : List Vo) (il : List Im) (A B : Option Addr) (ka kb : Nat) (w : World) (hf : Cmd.Cm.Fits ⟨ca, cb, ck, cs, ct, cu, cz⟩) : Calls Tryz.prog 115 #[.agg #[.int .u8 (mk : Int), .int .u64 (mn : Int), .int .u8 (mr : Int), .int .u64 (mb : Int), .int .u64 (ms : Int), .int .u8 (mo : Int), .string ⟨mv.toArray⟩, .slice A vl.length ka, .slice B il.length kb, .int .u8 (ca : Int), .int .u32 (cb : Int), .int .u8 (ck : Int), .string ⟨cs.toArray⟩, .string ⟨ct.toArray⟩, .string ⟨cu.toArray⟩, .int .u8 (cz : Int), .int .u8 (mc : Int), .string ⟨mt.toArray⟩]] w fun e w' => e = .returned (.bool (Pt.may .cmd ⟨mk, mn, mr, mb, ms, mo, mv, vl, il, ⟨ca, cb, ck, cs, ct, cu, cz⟩, mc, mt⟩)) ∧ Below w.heap.size w w' := by
  refine sx_enter (n := 7) _ Tryz.func115 rfl rfl rfl (Hp.start w) ?_
  refine SxC.seq (SxC.region ?_)
  refine SxL.new (cs := [.int .u8 (mk : Int), .int .u64 (mn : Int), .int .u8 (mr : Int), .int .u64 (mb : Int), .int .u64 (ms : Int), .int .u8 (mo : Int), .string ⟨mv.toArray⟩, .slice A vl.length ka, .slice B il.length kb, .int .u8 (ca : Int), .int .u32 (cb : Int), .int .u8 (ck : Int), .string ⟨cs.toArray⟩, .string ⟨ct.toArray⟩, .string ⟨cu.toArray⟩, .int .u8 (cz : Int), .int .u8 (mc : Int), .string ⟨mt.toArray⟩]) trivial rfl rfl (fun ρ w E H => ex_box E rfl rfl rfl) fun g1 hg1 => ?_
  refine SxL.val trivial rfl rfl (fun ρ w E H => ex_assign E rfl rfl) ?_
  refine SxL.nil (SxN.then_ (SxC.seq (SxC.region ?_)))
  refine SxL.val (v := .pointer (some ⟨g1, 9, none⟩)) trivial rfl rfl (fun ρ w E H => ex_field E rfl fa_palaver_api_Msg_8 rfl rfl) ?_
  refine SxL.val trivial rfl rfl (fun ρ w E H => ex_load (part := [.int .u8 (ca : Int), .int .u32 (cb : Int), .int .u8 (ck : Int), .string ⟨cs.toArray⟩, .string ⟨ct.toArray⟩, .string ⟨cu.toArray⟩, .int .u8 (cz : Int)]) E (H.get (i := 0) rfl) rfl rfl Tryz.underlying29 rfl sz_palaver_api_Cmd rfl rfl) ?_
  refine SxL.callB (v := .int .i64 (if Cmd.mayB ⟨ca, cb, ck, cs, ct, cu, cz⟩ then 0 else 2)) trivial rfl rfl (fun ρ w E => ex_call E en_palaver_cmd_Check rfl rfl) (fun w H => Cmd.check_any ⟨ca, cb, ck, cs, ct, cu, cz⟩ hf w) ?_
  refine SxL.valB trivial rfl rfl (fun ρ w E H => ex_cmp E rfl rfl rfl rfl rfl) fun c6 hc6 => ?_
  refine SxL.val trivial rfl rfl (fun ρ w E H => ex_assign E rfl rfl) ?_
  refine SxL.nil (SxN.then_ (SxC.ret ?_))
  refine SxX.done (.bool c6) (fun a w K H => res1 K rfl rfl) (fun w H => ?_)
  have hq : c6 = Pt.may .cmd ⟨mk, mn, mr, mb, ms, mo, mv, vl, il, ⟨ca, cb, ck, cs, ct, cu, cz⟩, mc, mt⟩ := by clear H; first | rfl | grind [cmpB, Pt.may, Cmd.mayB]
  exact ⟨by rw [hq], H.toBelow ⟨(fun g hg => by rw [List.mem_singleton.1 hg]; exact hg1), trivial⟩⟩

set_option maxRecDepth 100000 in
set_option maxHeartbeats 4000000 in
theorem may_name (mk mn mr mb ms mo ca cb ck cz mc : Nat) (mv cs ct cu mt : List UInt8) (vl : List Vo) (il : List Im) (A B : Option Addr) (ka kb : Nat) (w : World) : Calls Tryz.prog 120 #[.agg #[.int .u8 (mk : Int), .int .u64 (mn : Int), .int .u8 (mr : Int), .int .u64 (mb : Int), .int .u64 (ms : Int), .int .u8 (mo : Int), .string ⟨mv.toArray⟩, .slice A vl.length ka, .slice B il.length kb, .int .u8 (ca : Int), .int .u32 (cb : Int), .int .u8 (ck : Int), .string ⟨cs.toArray⟩, .string ⟨ct.toArray⟩, .string ⟨cu.toArray⟩, .int .u8 (cz : Int), .int .u8 (mc : Int), .string ⟨mt.toArray⟩]] w fun e w' => e = .returned (.bool (Pt.may .name ⟨mk, mn, mr, mb, ms, mo, mv, vl, il, ⟨ca, cb, ck, cs, ct, cu, cz⟩, mc, mt⟩)) ∧ Below w.heap.size w w' := by
  refine sx_enter (n := 13) _ Tryz.func120 rfl rfl rfl (Hp.start w) ?_
  refine SxC.seq (SxC.region ?_)
  refine SxL.new (cs := [.int .u8 (mk : Int), .int .u64 (mn : Int), .int .u8 (mr : Int), .int .u64 (mb : Int), .int .u64 (ms : Int), .int .u8 (mo : Int), .string ⟨mv.toArray⟩, .slice A vl.length ka, .slice B il.length kb, .int .u8 (ca : Int), .int .u32 (cb : Int), .int .u8 (ck : Int), .string ⟨cs.toArray⟩, .string ⟨ct.toArray⟩, .string ⟨cu.toArray⟩, .int .u8 (cz : Int), .int .u8 (mc : Int), .string ⟨mt.toArray⟩]) trivial rfl rfl (fun ρ w E H => ex_box E rfl rfl rfl) fun g1 hg1 => ?_
  refine SxL.val trivial rfl rfl (fun ρ w E H => ex_assign E rfl rfl) ?_
  refine SxL.nil (SxN.then_ (SxC.seq (SxC.region ?_)))
  refine SxL.val (v := .pointer (some ⟨g1, 9, none⟩)) trivial rfl rfl (fun ρ w E H => ex_field E rfl fa_palaver_api_Msg_8 rfl rfl) ?_
  refine SxL.val (v := .pointer (some ⟨g1, 9, none⟩)) trivial rfl rfl (fun ρ w E H => ex_field E rfl fa_palaver_api_Cmd_0 rfl rfl) ?_
  refine SxL.val trivial rfl rfl (fun ρ w E H => ex_load1 E (H.get (i := 0) rfl) rfl rfl Tryz.underlying5 rfl rfl) ?_
  refine SxL.valB trivial rfl rfl (fun ρ w E H => ex_cmp E rfl rfl rfl rfl rfl) fun c6 hc6 => ?_
  refine SxL.val trivial rfl rfl (fun ρ w E H => ex_move E rfl rfl) ?_
  cases c6
  · refine SxL.off ⟨_, _, _, rfl, rfl, rfl, nofun⟩ rfl rfl ?_
    iterate 3 refine SxL.off ⟨_, _, _, rfl, rfl, rfl, nofun⟩ rfl rfl ?_
    refine SxL.val trivial rfl rfl (fun ρ w E H => ex_pick E rfl (t := false) rfl rfl) ?_
    refine SxL.val trivial rfl rfl (fun ρ w E H => ex_assign E rfl rfl) ?_
    refine SxL.nil (SxN.then_ (SxC.ret ?_))
    refine SxX.done (.bool false) (fun a w K H => res1 K rfl rfl) (fun w H => ?_)
    have hq : false = Pt.may .name ⟨mk, mn, mr, mb, ms, mo, mv, vl, il, ⟨ca, cb, ck, cs, ct, cu, cz⟩, mc, mt⟩ := by clear H; first | rfl | grind [cmpB, Pt.may]
    exact ⟨by rw [hq], H.toBelow ⟨(fun g hg => by rw [List.mem_singleton.1 hg]; exact hg1), trivial⟩⟩
  · refine SxL.val (v := .pointer (some ⟨g1, 9, none⟩)) ⟨_, _, rfl, rfl, rfl⟩ rfl rfl (fun ρ w E H => ex_field E rfl fa_palaver_api_Msg_8 rfl rfl) ?_
    refine SxL.val (v := .pointer (some ⟨g1, 10, none⟩)) ⟨_, _, rfl, rfl, rfl⟩ rfl rfl (fun ρ w E H => ex_field E rfl fa_palaver_api_Cmd_1 rfl rfl) ?_
    refine SxL.val ⟨_, _, rfl, rfl, rfl⟩ rfl rfl (fun ρ w E H => ex_load1 E (H.get (i := 0) rfl) rfl rfl Tryz.underlying27 rfl rfl) ?_
    refine SxL.valB ⟨_, _, rfl, rfl, rfl⟩ rfl rfl (fun ρ w E H => ex_cmp E rfl rfl rfl rfl rfl) fun c11 hc11 => ?_
    refine SxL.val trivial rfl rfl (fun ρ w E H => ex_pick E rfl (t := true) rfl rfl) ?_
    refine SxL.val trivial rfl rfl (fun ρ w E H => ex_assign E rfl rfl) ?_
    refine SxL.nil (SxN.then_ (SxC.ret ?_))
    refine SxX.done (.bool c11) (fun a w K H => res1 K rfl rfl) (fun w H => ?_)
    have hq : c11 = Pt.may .name ⟨mk, mn, mr, mb, ms, mo, mv, vl, il, ⟨ca, cb, ck, cs, ct, cu, cz⟩, mc, mt⟩ := by clear H; first | rfl | grind [cmpB, Pt.may]
    exact ⟨by rw [hq], H.toBelow ⟨(fun g hg => by rw [List.mem_singleton.1 hg]; exact hg1), trivial⟩⟩

set_option maxRecDepth 100000 in
set_option maxHeartbeats 4000000 in
theorem may_reply (mk mn mr mb ms mo ca cb ck cz mc : Nat) (mv cs ct cu mt : List UInt8) (vl : List Vo) (il : List Im) (A B : Option Addr) (ka kb : Nat) (w : World) : Calls Tryz.prog 126 #[.agg #[.int .u8 (mk : Int), .int .u64 (mn : Int), .int .u8 (mr : Int), .int .u64 (mb : Int), .int .u64 (ms : Int), .int .u8 (mo : Int), .string ⟨mv.toArray⟩, .slice A vl.length ka, .slice B il.length kb, .int .u8 (ca : Int), .int .u32 (cb : Int), .int .u8 (ck : Int), .string ⟨cs.toArray⟩, .string ⟨ct.toArray⟩, .string ⟨cu.toArray⟩, .int .u8 (cz : Int), .int .u8 (mc : Int), .string ⟨mt.toArray⟩]] w fun e w' => e = .returned (.bool (Pt.may .reply ⟨mk, mn, mr, mb, ms, mo, mv, vl, il, ⟨ca, cb, ck, cs, ct, cu, cz⟩, mc, mt⟩)) ∧ Below w.heap.size w w' := by
  refine sx_enter (n := 14) _ Tryz.func126 rfl rfl rfl (Hp.start w) ?_
  refine SxC.seq (SxC.region ?_)
  refine SxL.new (cs := [.int .u8 (mk : Int), .int .u64 (mn : Int), .int .u8 (mr : Int), .int .u64 (mb : Int), .int .u64 (ms : Int), .int .u8 (mo : Int), .string ⟨mv.toArray⟩, .slice A vl.length ka, .slice B il.length kb, .int .u8 (ca : Int), .int .u32 (cb : Int), .int .u8 (ck : Int), .string ⟨cs.toArray⟩, .string ⟨ct.toArray⟩, .string ⟨cu.toArray⟩, .int .u8 (cz : Int), .int .u8 (mc : Int), .string ⟨mt.toArray⟩]) trivial rfl rfl (fun ρ w E H => ex_box E rfl rfl rfl) fun g1 hg1 => ?_
  refine SxL.val trivial rfl rfl (fun ρ w E H => ex_assign E rfl rfl) ?_
  refine SxL.nil (SxN.then_ (SxC.seq (SxC.region ?_)))
  refine SxL.val (v := .pointer (some ⟨g1, 16, none⟩)) trivial rfl rfl (fun ρ w E H => ex_field E rfl fa_palaver_api_Msg_9 rfl rfl) ?_
  refine SxL.val (v := .pointer (some ⟨g1, 16, none⟩)) trivial rfl rfl (fun ρ w E H => ex_field E rfl fa_palaver_api_Reply_0 rfl rfl) ?_
  refine SxL.val trivial rfl rfl (fun ρ w E H => ex_load1 E (H.get (i := 0) rfl) rfl rfl Tryz.underlying5 rfl rfl) ?_
  refine SxL.valB trivial rfl rfl (fun ρ w E H => ex_cmp E rfl rfl rfl rfl rfl) fun c6 hc6 => ?_
  refine SxL.val trivial rfl rfl (fun ρ w E H => ex_move E rfl rfl) ?_
  cases c6
  · refine SxL.off ⟨_, _, _, rfl, rfl, rfl, nofun⟩ rfl rfl ?_
    iterate 4 refine SxL.off ⟨_, _, _, rfl, rfl, rfl, nofun⟩ rfl rfl ?_
    refine SxL.val trivial rfl rfl (fun ρ w E H => ex_pick E rfl (t := false) rfl rfl) ?_
    refine SxL.val trivial rfl rfl (fun ρ w E H => ex_assign E rfl rfl) ?_
    refine SxL.nil (SxN.then_ (SxC.ret ?_))
    refine SxX.done (.bool false) (fun a w K H => res1 K rfl rfl) (fun w H => ?_)
    have hq : false = Pt.may .reply ⟨mk, mn, mr, mb, ms, mo, mv, vl, il, ⟨ca, cb, ck, cs, ct, cu, cz⟩, mc, mt⟩ := by clear H; first | rfl | grind [cmpB, Pt.may]
    exact ⟨by rw [hq], H.toBelow ⟨(fun g hg => by rw [List.mem_singleton.1 hg]; exact hg1), trivial⟩⟩
  · refine SxL.val (v := .pointer (some ⟨g1, 16, none⟩)) ⟨_, _, rfl, rfl, rfl⟩ rfl rfl (fun ρ w E H => ex_field E rfl fa_palaver_api_Msg_9 rfl rfl) ?_
    refine SxL.val (v := .pointer (some ⟨g1, 17, none⟩)) ⟨_, _, rfl, rfl, rfl⟩ rfl rfl (fun ρ w E H => ex_field E rfl fa_palaver_api_Reply_1 rfl rfl) ?_
    refine SxL.val ⟨_, _, rfl, rfl, rfl⟩ rfl rfl (fun ρ w E H => ex_load1 E (H.get (i := 0) rfl) rfl rfl Tryz.underlying9 rfl rfl) ?_
    refine SxL.val (v := .int .i64 (mt.length : Int)) ⟨_, _, rfl, rfl, rfl⟩ rfl rfl (fun ρ w E H => ex_lenT E rfl Tryz.underlying9 rfl) ?_
    refine SxL.valB ⟨_, _, rfl, rfl, rfl⟩ rfl rfl (fun ρ w E H => ex_cmp E rfl rfl rfl rfl rfl) fun c12 hc12 => ?_
    refine SxL.val trivial rfl rfl (fun ρ w E H => ex_pick E rfl (t := true) rfl rfl) ?_
    refine SxL.val trivial rfl rfl (fun ρ w E H => ex_assign E rfl rfl) ?_
    refine SxL.nil (SxN.then_ (SxC.ret ?_))
    refine SxX.done (.bool c12) (fun a w K H => res1 K rfl rfl) (fun w H => ?_)
    have hq : c12 = Pt.may .reply ⟨mk, mn, mr, mb, ms, mo, mv, vl, il, ⟨ca, cb, ck, cs, ct, cu, cz⟩, mc, mt⟩ := by clear H; first | rfl | grind [cmpB, Pt.may]
    exact ⟨by rw [hq], H.toBelow ⟨(fun g hg => by rw [List.mem_singleton.1 hg]; exact hg1), trivial⟩⟩

set_option maxRecDepth 100000 in
set_option maxHeartbeats 4000000 in
theorem may_node (mk mn mr mb ms mo ca cb ck cz mc : Nat) (mv cs ct cu mt : List UInt8) (vl : List Vo) (il : List Im) (A B : Option Addr) (ka kb : Nat) (w : World) : Calls Tryz.prog 130 #[.agg #[.int .u8 (mk : Int), .int .u64 (mn : Int), .int .u8 (mr : Int), .int .u64 (mb : Int), .int .u64 (ms : Int), .int .u8 (mo : Int), .string ⟨mv.toArray⟩, .slice A vl.length ka, .slice B il.length kb, .int .u8 (ca : Int), .int .u32 (cb : Int), .int .u8 (ck : Int), .string ⟨cs.toArray⟩, .string ⟨ct.toArray⟩, .string ⟨cu.toArray⟩, .int .u8 (cz : Int), .int .u8 (mc : Int), .string ⟨mt.toArray⟩]] w fun e w' => e = .returned (.bool (Pt.may .node ⟨mk, mn, mr, mb, ms, mo, mv, vl, il, ⟨ca, cb, ck, cs, ct, cu, cz⟩, mc, mt⟩)) ∧ Below w.heap.size w w' := by
  refine sx_enter (n := 6) _ Tryz.func130 rfl rfl rfl (Hp.start w) ?_
  refine SxC.seq (SxC.region ?_)
  refine SxL.new (cs := [.int .u8 (mk : Int), .int .u64 (mn : Int), .int .u8 (mr : Int), .int .u64 (mb : Int), .int .u64 (ms : Int), .int .u8 (mo : Int), .string ⟨mv.toArray⟩, .slice A vl.length ka, .slice B il.length kb, .int .u8 (ca : Int), .int .u32 (cb : Int), .int .u8 (ck : Int), .string ⟨cs.toArray⟩, .string ⟨ct.toArray⟩, .string ⟨cu.toArray⟩, .int .u8 (cz : Int), .int .u8 (mc : Int), .string ⟨mt.toArray⟩]) trivial rfl rfl (fun ρ w E H => ex_box E rfl rfl rfl) fun g1 hg1 => ?_
  refine SxL.val trivial rfl rfl (fun ρ w E H => ex_assign E rfl rfl) ?_
  refine SxL.nil (SxN.then_ (SxC.seq (SxC.region ?_)))
  refine SxL.val (v := .pointer (some ⟨g1, 5, none⟩)) trivial rfl rfl (fun ρ w E H => ex_field E rfl fa_palaver_api_Msg_4 rfl rfl) ?_
  refine SxL.val trivial rfl rfl (fun ρ w E H => ex_load1 E (H.get (i := 0) rfl) rfl rfl Tryz.underlying5 rfl rfl) ?_
  refine SxL.valB trivial rfl rfl (fun ρ w E H => ex_cmp E rfl rfl rfl rfl rfl) fun c5 hc5 => ?_
  refine SxL.val trivial rfl rfl (fun ρ w E H => ex_assign E rfl rfl) ?_
  refine SxL.nil (SxN.then_ (SxC.ret ?_))
  refine SxX.done (.bool c5) (fun a w K H => res1 K rfl rfl) (fun w H => ?_)
  have hq : c5 = Pt.may .node ⟨mk, mn, mr, mb, ms, mo, mv, vl, il, ⟨ca, cb, ck, cs, ct, cu, cz⟩, mc, mt⟩ := by clear H; first | rfl | grind [cmpB, Pt.may]
  exact ⟨by rw [hq], H.toBelow ⟨(fun g hg => by rw [List.mem_singleton.1 hg]; exact hg1), trivial⟩⟩

set_option maxRecDepth 100000 in
set_option maxHeartbeats 4000000 in
theorem may_turn (mk mn mr mb ms mo ca cb ck cz mc : Nat) (mv cs ct cu mt : List UInt8) (vl : List Vo) (il : List Im) (A B : Option Addr) (ka kb : Nat) (w : World) : Calls Tryz.prog 136 #[.agg #[.int .u8 (mk : Int), .int .u64 (mn : Int), .int .u8 (mr : Int), .int .u64 (mb : Int), .int .u64 (ms : Int), .int .u8 (mo : Int), .string ⟨mv.toArray⟩, .slice A vl.length ka, .slice B il.length kb, .int .u8 (ca : Int), .int .u32 (cb : Int), .int .u8 (ck : Int), .string ⟨cs.toArray⟩, .string ⟨ct.toArray⟩, .string ⟨cu.toArray⟩, .int .u8 (cz : Int), .int .u8 (mc : Int), .string ⟨mt.toArray⟩]] w fun e w' => e = .returned (.bool (Pt.may .turn ⟨mk, mn, mr, mb, ms, mo, mv, vl, il, ⟨ca, cb, ck, cs, ct, cu, cz⟩, mc, mt⟩)) ∧ Below w.heap.size w w' := by
  refine sx_enter (n := 6) _ Tryz.func136 rfl rfl rfl (Hp.start w) ?_
  refine SxC.seq (SxC.region ?_)
  refine SxL.new (cs := [.int .u8 (mk : Int), .int .u64 (mn : Int), .int .u8 (mr : Int), .int .u64 (mb : Int), .int .u64 (ms : Int), .int .u8 (mo : Int), .string ⟨mv.toArray⟩, .slice A vl.length ka, .slice B il.length kb, .int .u8 (ca : Int), .int .u32 (cb : Int), .int .u8 (ck : Int), .string ⟨cs.toArray⟩, .string ⟨ct.toArray⟩, .string ⟨cu.toArray⟩, .int .u8 (cz : Int), .int .u8 (mc : Int), .string ⟨mt.toArray⟩]) trivial rfl rfl (fun ρ w E H => ex_box E rfl rfl rfl) fun g1 hg1 => ?_
  refine SxL.val trivial rfl rfl (fun ρ w E H => ex_assign E rfl rfl) ?_
  refine SxL.nil (SxN.then_ (SxC.seq (SxC.region ?_)))
  refine SxL.val (v := .pointer (some ⟨g1, 1, none⟩)) trivial rfl rfl (fun ρ w E H => ex_field E rfl fa_palaver_api_Msg_1 rfl rfl) ?_
  refine SxL.val trivial rfl rfl (fun ρ w E H => ex_load (part := [.int .u64 (mn : Int), .int .u8 (mr : Int)]) E (H.get (i := 0) rfl) rfl rfl Tryz.underlying24 rfl sz_palaver_api_Ballot rfl rfl) ?_
  refine SxL.callBB (b := (goodB mn mr)) trivial rfl rfl (fun ρ w E => ex_call E en_palaver_msg_given rfl rfl) (fun w H => given_any mn mr w) fun c5 hc5 => ?_
  refine SxL.val trivial rfl rfl (fun ρ w E H => ex_assign E rfl rfl) ?_
  refine SxL.nil (SxN.then_ (SxC.ret ?_))
  refine SxX.done (.bool c5) (fun a w K H => res1 K rfl rfl) (fun w H => ?_)
  have hq : c5 = Pt.may .turn ⟨mk, mn, mr, mb, ms, mo, mv, vl, il, ⟨ca, cb, ck, cs, ct, cu, cz⟩, mc, mt⟩ := by clear H; first | rfl | grind [cmpB, Pt.may]
  exact ⟨by rw [hq], H.toBelow ⟨(fun g hg => by rw [List.mem_singleton.1 hg]; exact hg1), trivial⟩⟩

set_option maxRecDepth 100000 in
set_option maxHeartbeats 4000000 in
theorem may_floor (mk mn mr mb ms mo ca cb ck cz mc : Nat) (mv cs ct cu mt : List UInt8) (vl : List Vo) (il : List Im) (A B : Option Addr) (ka kb : Nat) (w : World) : Calls Tryz.prog 146 #[.agg #[.int .u8 (mk : Int), .int .u64 (mn : Int), .int .u8 (mr : Int), .int .u64 (mb : Int), .int .u64 (ms : Int), .int .u8 (mo : Int), .string ⟨mv.toArray⟩, .slice A vl.length ka, .slice B il.length kb, .int .u8 (ca : Int), .int .u32 (cb : Int), .int .u8 (ck : Int), .string ⟨cs.toArray⟩, .string ⟨ct.toArray⟩, .string ⟨cu.toArray⟩, .int .u8 (cz : Int), .int .u8 (mc : Int), .string ⟨mt.toArray⟩]] w fun e w' => e = .returned (.bool (Pt.may .floor ⟨mk, mn, mr, mb, ms, mo, mv, vl, il, ⟨ca, cb, ck, cs, ct, cu, cz⟩, mc, mt⟩)) ∧ Below w.heap.size w w' := by
  refine sx_enter (n := 6) _ Tryz.func146 rfl rfl rfl (Hp.start w) ?_
  refine SxC.seq (SxC.region ?_)
  refine SxL.new (cs := [.int .u8 (mk : Int), .int .u64 (mn : Int), .int .u8 (mr : Int), .int .u64 (mb : Int), .int .u64 (ms : Int), .int .u8 (mo : Int), .string ⟨mv.toArray⟩, .slice A vl.length ka, .slice B il.length kb, .int .u8 (ca : Int), .int .u32 (cb : Int), .int .u8 (ck : Int), .string ⟨cs.toArray⟩, .string ⟨ct.toArray⟩, .string ⟨cu.toArray⟩, .int .u8 (cz : Int), .int .u8 (mc : Int), .string ⟨mt.toArray⟩]) trivial rfl rfl (fun ρ w E H => ex_box E rfl rfl rfl) fun g1 hg1 => ?_
  refine SxL.val trivial rfl rfl (fun ρ w E H => ex_assign E rfl rfl) ?_
  refine SxL.nil (SxN.then_ (SxC.seq (SxC.region ?_)))
  refine SxL.val (v := .pointer (some ⟨g1, 3, none⟩)) trivial rfl rfl (fun ρ w E H => ex_field E rfl fa_palaver_api_Msg_2 rfl rfl) ?_
  refine SxL.val trivial rfl rfl (fun ρ w E H => ex_load1 E (H.get (i := 0) rfl) rfl rfl Tryz.underlying22 rfl rfl) ?_
  refine SxL.valB trivial rfl rfl (fun ρ w E H => ex_cmp E rfl rfl rfl rfl rfl) fun c5 hc5 => ?_
  refine SxL.val trivial rfl rfl (fun ρ w E H => ex_assign E rfl rfl) ?_
  refine SxL.nil (SxN.then_ (SxC.ret ?_))
  refine SxX.done (.bool c5) (fun a w K H => res1 K rfl rfl) (fun w H => ?_)
  have hq : c5 = Pt.may .floor ⟨mk, mn, mr, mb, ms, mo, mv, vl, il, ⟨ca, cb, ck, cs, ct, cu, cz⟩, mc, mt⟩ := by clear H; first | rfl | grind [cmpB, Pt.may]
  exact ⟨by rw [hq], H.toBelow ⟨(fun g hg => by rw [List.mem_singleton.1 hg]; exact hg1), trivial⟩⟩

set_option maxRecDepth 100000 in
set_option maxHeartbeats 4000000 in
theorem may_slot (mk mn mr mb ms mo ca cb ck cz mc : Nat) (mv cs ct cu mt : List UInt8) (vl : List Vo) (il : List Im) (least gl : Nat) (A B : Option Addr) (ka kb : Nat) (w : World) (hl : Blk w gl 22 #[.int .u64 (least : Int)]) : Calls Tryz.prog 142 #[.agg #[.int .u8 (mk : Int), .int .u64 (mn : Int), .int .u8 (mr : Int), .int .u64 (mb : Int), .int .u64 (ms : Int), .int .u8 (mo : Int), .string ⟨mv.toArray⟩, .slice A vl.length ka, .slice B il.length kb, .int .u8 (ca : Int), .int .u32 (cb : Int), .int .u8 (ck : Int), .string ⟨cs.toArray⟩, .string ⟨ct.toArray⟩, .string ⟨cu.toArray⟩, .int .u8 (cz : Int), .int .u8 (mc : Int), .string ⟨mt.toArray⟩], .pointer (some ⟨gl, 0, none⟩)] w fun e w' => e = .returned (.bool (Pt.may (.slot least) ⟨mk, mn, mr, mb, ms, mo, mv, vl, il, ⟨ca, cb, ck, cs, ct, cu, cz⟩, mc, mt⟩)) ∧ Below w.heap.size w w' := by
  refine sx_enter (n := 13) _ Tryz.func142 rfl rfl rfl (Hp.start w) ?_
  refine SxC.seq (SxC.region ?_)
  refine SxL.new (cs := [.int .u8 (mk : Int), .int .u64 (mn : Int), .int .u8 (mr : Int), .int .u64 (mb : Int), .int .u64 (ms : Int), .int .u8 (mo : Int), .string ⟨mv.toArray⟩, .slice A vl.length ka, .slice B il.length kb, .int .u8 (ca : Int), .int .u32 (cb : Int), .int .u8 (ck : Int), .string ⟨cs.toArray⟩, .string ⟨ct.toArray⟩, .string ⟨cu.toArray⟩, .int .u8 (cz : Int), .int .u8 (mc : Int), .string ⟨mt.toArray⟩]) trivial rfl rfl (fun ρ w E H => ex_box E rfl rfl rfl) fun g1 hg1 => ?_
  refine SxL.val trivial rfl rfl (fun ρ w E H => ex_assign E rfl rfl) ?_
  refine SxL.nil (SxN.then_ (SxC.seq (SxC.region ?_)))
  refine SxL.val (v := .pointer (some ⟨g1, 4, none⟩)) trivial rfl rfl (fun ρ w E H => ex_field E rfl fa_palaver_api_Msg_3 rfl rfl) ?_
  refine SxL.val trivial rfl rfl (fun ρ w E H => ex_load1 E (H.get (i := 0) rfl) rfl rfl Tryz.underlying22 rfl rfl) ?_
  refine SxL.val trivial rfl rfl (fun ρ w E H => ex_load1 (cs := [.int .u64 (least : Int)]) E (Blk.below hl (H.toBelow ⟨(fun g hg => by rw [List.mem_singleton.1 hg]; exact hg1), trivial⟩) (Blk.lt hl)) rfl rfl Tryz.underlying22 rfl rfl) ?_
  refine SxL.valB trivial rfl rfl (fun ρ w E H => ex_cmp E rfl rfl rfl rfl rfl) fun c7 hc7 => ?_
  refine SxL.val trivial rfl rfl (fun ρ w E H => ex_move E rfl rfl) ?_
  cases c7
  · refine SxL.off ⟨_, _, _, rfl, rfl, rfl, nofun⟩ rfl rfl ?_
    iterate 2 refine SxL.off ⟨_, _, _, rfl, rfl, rfl, nofun⟩ rfl rfl ?_
    refine SxL.val trivial rfl rfl (fun ρ w E H => ex_pick E rfl (t := false) rfl rfl) ?_
    refine SxL.val trivial rfl rfl (fun ρ w E H => ex_assign E rfl rfl) ?_
    refine SxL.nil (SxN.then_ (SxC.ret ?_))
    refine SxX.done (.bool false) (fun a w K H => res1 K rfl rfl) (fun w H => ?_)
    have hq : false = Pt.may (.slot least) ⟨mk, mn, mr, mb, ms, mo, mv, vl, il, ⟨ca, cb, ck, cs, ct, cu, cz⟩, mc, mt⟩ := by clear H; first | rfl | grind [cmpB, Pt.may]
    exact ⟨by rw [hq], H.toBelow ⟨(fun g hg => by rw [List.mem_singleton.1 hg]; exact hg1), trivial⟩⟩
  · refine SxL.val (v := .pointer (some ⟨g1, 4, none⟩)) ⟨_, _, rfl, rfl, rfl⟩ rfl rfl (fun ρ w E H => ex_field E rfl fa_palaver_api_Msg_3 rfl rfl) ?_
    refine SxL.val ⟨_, _, rfl, rfl, rfl⟩ rfl rfl (fun ρ w E H => ex_load1 E (H.get (i := 0) rfl) rfl rfl Tryz.underlying22 rfl rfl) ?_
    refine SxL.valB ⟨_, _, rfl, rfl, rfl⟩ rfl rfl (fun ρ w E H => ex_cmp E rfl rfl rfl rfl rfl) fun c11 hc11 => ?_
    refine SxL.val trivial rfl rfl (fun ρ w E H => ex_pick E rfl (t := true) rfl rfl) ?_
    refine SxL.val trivial rfl rfl (fun ρ w E H => ex_assign E rfl rfl) ?_
    refine SxL.nil (SxN.then_ (SxC.ret ?_))
    refine SxX.done (.bool c11) (fun a w K H => res1 K rfl rfl) (fun w H => ?_)
    have hq : c11 = Pt.may (.slot least) ⟨mk, mn, mr, mb, ms, mo, mv, vl, il, ⟨ca, cb, ck, cs, ct, cu, cz⟩, mc, mt⟩ := by clear H; first | rfl | grind [cmpB, Pt.may]
    exact ⟨by rw [hq], H.toBelow ⟨(fun g hg => by rw [List.mem_singleton.1 hg]; exact hg1), trivial⟩⟩

set_option maxRecDepth 100000 in
set_option maxHeartbeats 4000000 in
theorem may_value (mk mn mr mb ms mo ca cb ck cz mc : Nat) (mv cs ct cu mt : List UInt8) (vl : List Vo) (il : List Im) (A B : Option Addr) (ka kb : Nat) (w : World) : Calls Tryz.prog 155 #[.agg #[.int .u8 (mk : Int), .int .u64 (mn : Int), .int .u8 (mr : Int), .int .u64 (mb : Int), .int .u64 (ms : Int), .int .u8 (mo : Int), .string ⟨mv.toArray⟩, .slice A vl.length ka, .slice B il.length kb, .int .u8 (ca : Int), .int .u32 (cb : Int), .int .u8 (ck : Int), .string ⟨cs.toArray⟩, .string ⟨ct.toArray⟩, .string ⟨cu.toArray⟩, .int .u8 (cz : Int), .int .u8 (mc : Int), .string ⟨mt.toArray⟩]] w fun e w' => e = .returned (.bool (Pt.may .value ⟨mk, mn, mr, mb, ms, mo, mv, vl, il, ⟨ca, cb, ck, cs, ct, cu, cz⟩, mc, mt⟩)) ∧ Below w.heap.size w w' := by
  refine sx_enter (n := 3) _ Tryz.func155 rfl rfl rfl (Hp.start w) ?_
  refine SxC.seq (SxC.region ?_)
  refine SxL.new (cs := [.int .u8 (mk : Int), .int .u64 (mn : Int), .int .u8 (mr : Int), .int .u64 (mb : Int), .int .u64 (ms : Int), .int .u8 (mo : Int), .string ⟨mv.toArray⟩, .slice A vl.length ka, .slice B il.length kb, .int .u8 (ca : Int), .int .u32 (cb : Int), .int .u8 (ck : Int), .string ⟨cs.toArray⟩, .string ⟨ct.toArray⟩, .string ⟨cu.toArray⟩, .int .u8 (cz : Int), .int .u8 (mc : Int), .string ⟨mt.toArray⟩]) trivial rfl rfl (fun ρ w E H => ex_box E rfl rfl rfl) fun g1 hg1 => ?_
  refine SxL.val trivial rfl rfl (fun ρ w E H => ex_assign E rfl rfl) ?_
  refine SxL.nil (SxN.then_ (SxC.seq (SxC.region ?_)))
  refine SxL.val trivial rfl rfl (fun ρ w E H => ex_assign E rfl rfl) ?_
  refine SxL.nil (SxN.then_ (SxC.ret ?_))
  refine SxX.done (.bool true) (fun a w K H => res1 K rfl rfl) (fun w H => ?_)
  have hq : true = Pt.may .value ⟨mk, mn, mr, mb, ms, mo, mv, vl, il, ⟨ca, cb, ck, cs, ct, cu, cz⟩, mc, mt⟩ := by clear H; first | rfl | grind [cmpB, Pt.may]
  exact ⟨by rw [hq], H.toBelow ⟨(fun g hg => by rw [List.mem_singleton.1 hg]; exact hg1), trivial⟩⟩

set_option maxRecDepth 100000 in
set_option maxHeartbeats 4000000 in
theorem may_votes (mk mn mr mb ms mo ca cb ck cz mc : Nat) (mv cs ct cu mt : List UInt8) (vl : List Vo) (il : List Im) (A B : Option Addr) (ka kb : Nat) (w : World) (hv : Rows w A 4 voL vl) (hlen : vl.length ≤ 1000000) : Calls Tryz.prog 151 #[.agg #[.int .u8 (mk : Int), .int .u64 (mn : Int), .int .u8 (mr : Int), .int .u64 (mb : Int), .int .u64 (ms : Int), .int .u8 (mo : Int), .string ⟨mv.toArray⟩, .slice A vl.length ka, .slice B il.length kb, .int .u8 (ca : Int), .int .u32 (cb : Int), .int .u8 (ck : Int), .string ⟨cs.toArray⟩, .string ⟨ct.toArray⟩, .string ⟨cu.toArray⟩, .int .u8 (cz : Int), .int .u8 (mc : Int), .string ⟨mt.toArray⟩]] w fun e w' => e = .returned (.bool (Pt.may .votes ⟨mk, mn, mr, mb, ms, mo, mv, vl, il, ⟨ca, cb, ck, cs, ct, cu, cz⟩, mc, mt⟩)) ∧ Below w.heap.size w w' := by
  refine sx_enter (n := 31) _ Tryz.func151 rfl rfl rfl (Hp.start w) ?_
  refine SxC.seq (SxC.region ?_)
  refine SxL.new (cs := [.int .u8 (mk : Int), .int .u64 (mn : Int), .int .u8 (mr : Int), .int .u64 (mb : Int), .int .u64 (ms : Int), .int .u8 (mo : Int), .string ⟨mv.toArray⟩, .slice A vl.length ka, .slice B il.length kb, .int .u8 (ca : Int), .int .u32 (cb : Int), .int .u8 (ck : Int), .string ⟨cs.toArray⟩, .string ⟨ct.toArray⟩, .string ⟨cu.toArray⟩, .int .u8 (cz : Int), .int .u8 (mc : Int), .string ⟨mt.toArray⟩]) trivial rfl rfl (fun ρ w E H => ex_box E rfl rfl rfl) fun g1 hg1 => ?_
  refine SxL.val trivial rfl rfl (fun ρ w E H => ex_assign E rfl rfl) ?_
  refine SxL.nil (SxN.then_ (SxC.seq (SxC.region ?_)))
  refine SxL.val trivial rfl rfl (fun ρ w E H => ex_assign E rfl rfl) ?_
  refine SxL.nil (SxN.then_ (SxC.seq (SxC.seq (SxC.region ?_))))
  refine SxL.val (v := .pointer (some ⟨g1, 7, none⟩)) trivial rfl rfl (fun ρ w E H => ex_field E rfl fa_palaver_api_Msg_6 rfl rfl) ?_
  refine SxL.val trivial rfl rfl (fun ρ w E H => ex_load1 E (H.get (i := 0) rfl) rfl rfl Tryz.underlying25 rfl rfl) ?_
  refine SxL.val (v := .int .i64 (vl.length : Int)) trivial rfl rfl (fun ρ w E H => ex_lenS E rfl Tryz.underlying25 rfl) ?_
  refine SxL.val trivial rfl rfl (fun ρ w E H => ex_move E rfl rfl) ?_
  refine SxL.nil (SxN.then_ (SxC.block ?_))
  refine SxC.loop2 (fun (k : Nat) (last : Nat) => [(1, .pointer (some ⟨g1, 0, none⟩)), (3, .int .u64 (last : Int)), (7, .slice A vl.length ka), (8, .int .i64 (vl.length : Int)), (9, .int .i64 (k : Int))]) (fun (k : Nat) (last : Nat) => [cell g1 33 [.int .u8 (mk : Int), .int .u64 (mn : Int), .int .u8 (mr : Int), .int .u64 (mb : Int), .int .u64 (ms : Int), .int .u8 (mo : Int), .string ⟨mv.toArray⟩, .slice A vl.length ka, .slice B il.length kb, .int .u8 (ca : Int), .int .u32 (cb : Int), .int .u8 (ck : Int), .string ⟨cs.toArray⟩, .string ⟨ct.toArray⟩, .string ⟨cu.toArray⟩, .int .u8 (cz : Int), .int .u8 (mc : Int), .string ⟨mt.toArray⟩]]) (fun (gk : Nat) (k : Nat) (last : Nat) => k + gk = vl.length ∧ riseV 0 vl = riseV last (vl.drop k)) vl.length 0 0 ⟨by omega, rfl⟩ ⟨rfl, rfl, rfl, rfl, rfl, trivial⟩ [0] rfl (by decide) ⟨.inl rfl, trivial⟩ fun gk k last hF => ?_
  obtain ⟨hkg, hrel⟩ := hF
  refine SxC.seq (SxC.region ?_)
  refine SxL.valB trivial rfl rfl (fun ρ w E H => ex_cmp E rfl rfl rfl rfl rfl) fun c10 hc10 => ?_
  refine SxL.nil (SxN.then_ (SxC.seq ?_))
  cases c10
  · refine SxC.condF rfl (SxC.exit (SxX.thenE (SxX.thenE (SxX.blockE (SxN.then_ (SxC.seq (SxC.region ?_)))))))
    refine SxL.val trivial rfl rfl (fun ρ w E H => ex_assign E rfl rfl) ?_
    refine SxL.nil (SxN.then_ (SxC.ret ?_))
    refine SxX.done (.bool true) (fun a w K H => res1 K rfl rfl) (fun w H => ?_)
    have hq : true = Pt.may .votes ⟨mk, mn, mr, mb, ms, mo, mv, vl, il, ⟨ca, cb, ck, cs, ct, cu, cz⟩, mc, mt⟩ := by
      clear H; show _ = riseV 0 vl; rw [hrel, List.drop_eq_nil_of_le (by simpa [cmpB] using hc10)]; rfl
    exact ⟨by rw [hq], H.toBelow ⟨(fun g hg => by rw [List.mem_singleton.1 hg]; exact hg1), trivial⟩⟩
  · refine SxC.condT rfl (SxC.skip (SxN.then_ (SxC.seq (SxC.block (SxC.seq ?_)))))
    have hkl : k < vl.length := by simpa [cmpB] using hc10
    obtain ⟨⟨xs, xn, xr, xv⟩, hx⟩ : ∃ x, vl[k]? = some x := ⟨_, List.getElem?_eq_getElem hkl⟩
    have hd : vl.drop k = ⟨xs, xn, xr, xv⟩ :: vl.drop (k + 1) := by rw [List.drop_eq_getElem_cons hkl]; congr 1; rw [List.getElem?_eq_getElem hkl] at hx; exact Option.some.inj hx
    obtain ⟨ad, rfl, -, -⟩ := hv.row hx
    refine SxC.region ?_
    refine SxL.val (v := .pointer (some (ad.add (k * 4)))) trivial rfl rfl (fun ρ w E H => ex_index (i := k) E rfl Tryz.underlying25 sz_palaver_api_Vote rfl rfl hkl) ?_
    refine SxL.val (v := .agg #[.int .u64 (xs : Int), .int .u64 (xn : Int), .int .u8 (xr : Int), .string ⟨xv.toArray⟩]) trivial rfl rfl (fun ρ w E H => ex_loadX (cs := [.int .u64 (xs : Int), .int .u64 (xn : Int), .int .u8 (xr : Int), .string ⟨xv.toArray⟩]) E ((hv.below (H.toBelow ⟨(fun g hg => by rw [List.mem_singleton.1 hg]; exact hg1), trivial⟩)).rowA hx) rfl rfl Tryz.underlying92 rfl sz_palaver_api_Vote) ?_
    refine SxL.new (cs := [.int .u64 0, .int .u64 0, .int .u8 0, .string ⟨[].toArray⟩]) trivial rfl rfl (fun ρ w E H => ex_alloc rfl zr_palaver_api_Vote rfl) fun g2 hg2 => ?_
    refine SxL.store (i := 0) trivial rfl rfl rfl rfl rfl sz_palaver_api_Vote rfl rfl rfl ?_
    refine SxL.nil (SxN.then_ (SxC.seq (SxC.seq (SxC.region ?_))))
    refine SxL.val (v := .pointer (some ⟨g2, 0, none⟩)) trivial rfl rfl (fun ρ w E H => ex_field E rfl fa_palaver_api_Vote_0 rfl rfl) ?_
    refine SxL.val trivial rfl rfl (fun ρ w E H => ex_load1 E (H.get (i := 0) rfl) rfl rfl Tryz.underlying22 rfl rfl) ?_
    refine SxL.val trivial rfl rfl (fun ρ w E H => ex_move E rfl rfl) ?_
    refine SxL.valB trivial rfl rfl (fun ρ w E H => ex_cmp E rfl rfl rfl rfl rfl) fun c16 hc16 => ?_
    refine SxL.val trivial rfl rfl (fun ρ w E H => ex_move E rfl rfl) ?_
    cases c16
    · refine SxL.val (v := .pointer (some ⟨g2, 0, none⟩)) ⟨_, _, rfl, rfl, rfl⟩ rfl rfl (fun ρ w E H => ex_field E rfl fa_palaver_api_Vote_0 rfl rfl) ?_
      refine SxL.val ⟨_, _, rfl, rfl, rfl⟩ rfl rfl (fun ρ w E H => ex_load1 E (H.get (i := 0) rfl) rfl rfl Tryz.underlying22 rfl rfl) ?_
      refine SxL.valB ⟨_, _, rfl, rfl, rfl⟩ rfl rfl (fun ρ w E H => ex_cmp E rfl rfl rfl rfl rfl) fun c20 hc20 => ?_
      refine SxL.val trivial rfl rfl (fun ρ w E H => ex_pick E rfl (t := false) rfl rfl) ?_
      refine SxL.val trivial rfl rfl (fun ρ w E H => ex_move E rfl rfl) ?_
      cases c20
      · refine SxL.val (v := .pointer (some ⟨g2, 1, none⟩)) ⟨_, _, rfl, rfl, rfl⟩ rfl rfl (fun ρ w E H => ex_field E rfl fa_palaver_api_Vote_1 rfl rfl) ?_
        refine SxL.val ⟨_, _, rfl, rfl, rfl⟩ rfl rfl (fun ρ w E H => ex_load (part := [.int .u64 (xn : Int), .int .u8 (xr : Int)]) E (H.get (i := 0) rfl) rfl rfl Tryz.underlying24 rfl sz_palaver_api_Ballot rfl rfl) ?_
        refine SxL.callBB (b := (goodB xn xr)) ⟨_, _, rfl, rfl, rfl⟩ rfl rfl (fun ρ w E => ex_call E en_palaver_msg_given rfl rfl) (fun w H => given_any xn xr w) fun c25 hc25 => ?_
        cases c25
        · refine SxL.val (v := .bool true) ⟨_, _, rfl, rfl, rfl⟩ rfl rfl (fun ρ w E H => ex_not (t := false) E rfl rfl) ?_
          refine SxL.val trivial rfl rfl (fun ρ w E H => ex_pick E rfl (t := false) rfl rfl) ?_
          refine SxL.nil (SxN.then_ (SxC.condT rfl (SxC.seq (SxC.region ?_))))
          refine SxL.val trivial rfl rfl (fun ρ w E H => ex_assign E rfl rfl) ?_
          refine SxL.nil (SxN.then_ (SxC.ret (SxX.thenR (SxX.blockR (SxX.thenR (SxX.thenR (SxX.blockR (SxX.thenR ?_))))))))
          refine SxX.done (.bool false) (fun a w K H => res1 K rfl rfl) (fun w H => ?_)
          have hq : false = Pt.may .votes ⟨mk, mn, mr, mb, ms, mo, mv, vl, il, ⟨ca, cb, ck, cs, ct, cu, cz⟩, mc, mt⟩ := by
            clear H; show false = riseV 0 vl; rw [hrel, hd]; grind [riseV, cmpB]
          exact ⟨by rw [hq], H.toBelow ⟨(fun g hg => by rw [List.mem_singleton.1 hg]; exact hg2), (fun g hg => by rw [List.mem_singleton.1 hg]; exact hg1), trivial⟩⟩
        · refine SxL.val (v := .bool false) ⟨_, _, rfl, rfl, rfl⟩ rfl rfl (fun ρ w E H => ex_not (t := true) E rfl rfl) ?_
          refine SxL.val trivial rfl rfl (fun ρ w E H => ex_pick E rfl (t := false) rfl rfl) ?_
          refine SxL.nil (SxN.then_ (SxC.condF rfl (SxC.skip (SxN.then_ (SxC.region ?_)))))
          refine SxL.val (v := .pointer (some ⟨g2, 0, none⟩)) trivial rfl rfl (fun ρ w E H => ex_field E rfl fa_palaver_api_Vote_0 rfl rfl) ?_
          refine SxL.val trivial rfl rfl (fun ρ w E H => ex_load1 E (H.get (i := 0) rfl) rfl rfl Tryz.underlying22 rfl rfl) ?_
          refine SxL.val trivial rfl rfl (fun ρ w E H => ex_assign E rfl rfl) ?_
          refine SxL.nil (SxN.block (SxN.then_ (SxC.region ?_)))
          refine SxL.val (v := .int .i64 ((k + 1 : Nat) : Int)) trivial rfl rfl (fun ρ w E H => ex_add E rfl rfl rfl (by rw [IntKind.wrap_i64]; omega)) ?_
          refine SxL.val trivial rfl rfl (fun ρ w E H => ex_move E rfl rfl) ?_
          refine SxL.nil ?_
          refine SxN.back (gk - 1) (k + 1, xs) (by omega) ⟨by omega, by rw [hrel, hd]; grind [riseV, cmpB]⟩ ⟨rfl, rfl, rfl, rfl, rfl, trivial⟩ [1] rfl (by decide) ⟨.inr (fun g hg => by rw [List.mem_singleton.1 hg]; exact hg2), .inl rfl, trivial⟩
      · refine SxL.off ⟨_, _, _, rfl, rfl, rfl, nofun⟩ rfl rfl ?_
        iterate 3 refine SxL.off ⟨_, _, _, rfl, rfl, rfl, nofun⟩ rfl rfl ?_
        refine SxL.val trivial rfl rfl (fun ρ w E H => ex_pick E rfl (t := true) rfl rfl) ?_
        refine SxL.nil (SxN.then_ (SxC.condT rfl (SxC.seq (SxC.region ?_))))
        refine SxL.val trivial rfl rfl (fun ρ w E H => ex_assign E rfl rfl) ?_
        refine SxL.nil (SxN.then_ (SxC.ret (SxX.thenR (SxX.blockR (SxX.thenR (SxX.thenR (SxX.blockR (SxX.thenR ?_))))))))
        refine SxX.done (.bool false) (fun a w K H => res1 K rfl rfl) (fun w H => ?_)
        have hq : false = Pt.may .votes ⟨mk, mn, mr, mb, ms, mo, mv, vl, il, ⟨ca, cb, ck, cs, ct, cu, cz⟩, mc, mt⟩ := by
          clear H; show false = riseV 0 vl; rw [hrel, hd]; grind [riseV, cmpB]
        exact ⟨by rw [hq], H.toBelow ⟨(fun g hg => by rw [List.mem_singleton.1 hg]; exact hg2), (fun g hg => by rw [List.mem_singleton.1 hg]; exact hg1), trivial⟩⟩
    · refine SxL.off ⟨_, _, _, rfl, rfl, rfl, nofun⟩ rfl rfl ?_
      iterate 2 refine SxL.off ⟨_, _, _, rfl, rfl, rfl, nofun⟩ rfl rfl ?_
      refine SxL.val trivial rfl rfl (fun ρ w E H => ex_pick E rfl (t := true) rfl rfl) ?_
      refine SxL.val trivial rfl rfl (fun ρ w E H => ex_move E rfl rfl) ?_
      iterate 4 refine SxL.off ⟨_, _, _, rfl, rfl, rfl, nofun⟩ rfl rfl ?_
      refine SxL.val trivial rfl rfl (fun ρ w E H => ex_pick E rfl (t := true) rfl rfl) ?_
      refine SxL.nil (SxN.then_ (SxC.condT rfl (SxC.seq (SxC.region ?_))))
      refine SxL.val trivial rfl rfl (fun ρ w E H => ex_assign E rfl rfl) ?_
      refine SxL.nil (SxN.then_ (SxC.ret (SxX.thenR (SxX.blockR (SxX.thenR (SxX.thenR (SxX.blockR (SxX.thenR ?_))))))))
      refine SxX.done (.bool false) (fun a w K H => res1 K rfl rfl) (fun w H => ?_)
      have hq : false = Pt.may .votes ⟨mk, mn, mr, mb, ms, mo, mv, vl, il, ⟨ca, cb, ck, cs, ct, cu, cz⟩, mc, mt⟩ := by
        clear H; show false = riseV 0 vl; rw [hrel, hd]; grind [riseV, cmpB]
      exact ⟨by rw [hq], H.toBelow ⟨(fun g hg => by rw [List.mem_singleton.1 hg]; exact hg2), (fun g hg => by rw [List.mem_singleton.1 hg]; exact hg1), trivial⟩⟩

set_option maxRecDepth 100000 in
set_option maxHeartbeats 4000000 in
theorem may_items (mk mn mr mb ms mo ca cb ck cz mc : Nat) (mv cs ct cu mt : List UInt8) (vl : List Vo) (il : List Im) (A B : Option Addr) (ka kb : Nat) (w : World) (hi : Rows w B 2 imL il) (hlen : il.length ≤ 1000000) : Calls Tryz.prog 160 #[.agg #[.int .u8 (mk : Int), .int .u64 (mn : Int), .int .u8 (mr : Int), .int .u64 (mb : Int), .int .u64 (ms : Int), .int .u8 (mo : Int), .string ⟨mv.toArray⟩, .slice A vl.length ka, .slice B il.length kb, .int .u8 (ca : Int), .int .u32 (cb : Int), .int .u8 (ck : Int), .string ⟨cs.toArray⟩, .string ⟨ct.toArray⟩, .string ⟨cu.toArray⟩, .int .u8 (cz : Int), .int .u8 (mc : Int), .string ⟨mt.toArray⟩]] w fun e w' => e = .returned (.bool (Pt.may .items ⟨mk, mn, mr, mb, ms, mo, mv, vl, il, ⟨ca, cb, ck, cs, ct, cu, cz⟩, mc, mt⟩)) ∧ Below w.heap.size w w' := by
  refine sx_enter (n := 29) _ Tryz.func160 rfl rfl rfl (Hp.start w) ?_
  refine SxC.seq (SxC.region ?_)
  refine SxL.new (cs := [.int .u8 (mk : Int), .int .u64 (mn : Int), .int .u8 (mr : Int), .int .u64 (mb : Int), .int .u64 (ms : Int), .int .u8 (mo : Int), .string ⟨mv.toArray⟩, .slice A vl.length ka, .slice B il.length kb, .int .u8 (ca : Int), .int .u32 (cb : Int), .int .u8 (ck : Int), .string ⟨cs.toArray⟩, .string ⟨ct.toArray⟩, .string ⟨cu.toArray⟩, .int .u8 (cz : Int), .int .u8 (mc : Int), .string ⟨mt.toArray⟩]) trivial rfl rfl (fun ρ w E H => ex_box E rfl rfl rfl) fun g1 hg1 => ?_
  refine SxL.val trivial rfl rfl (fun ρ w E H => ex_assign E rfl rfl) ?_
  refine SxL.nil (SxN.then_ (SxC.seq (SxC.region ?_)))
  refine SxL.val trivial rfl rfl (fun ρ w E H => ex_assign E rfl rfl) ?_
  refine SxL.nil (SxN.then_ (SxC.seq (SxC.seq (SxC.region ?_))))
  refine SxL.val (v := .pointer (some ⟨g1, 8, none⟩)) trivial rfl rfl (fun ρ w E H => ex_field E rfl fa_palaver_api_Msg_7 rfl rfl) ?_
  refine SxL.val trivial rfl rfl (fun ρ w E H => ex_load1 E (H.get (i := 0) rfl) rfl rfl Tryz.underlying26 rfl rfl) ?_
  refine SxL.val (v := .int .i64 (il.length : Int)) trivial rfl rfl (fun ρ w E H => ex_lenS E rfl Tryz.underlying26 rfl) ?_
  refine SxL.val trivial rfl rfl (fun ρ w E H => ex_move E rfl rfl) ?_
  refine SxL.nil (SxN.then_ (SxC.block ?_))
  refine SxC.loop2 (fun (k : Nat) (last : Nat) => [(1, .pointer (some ⟨g1, 0, none⟩)), (3, .int .u64 (last : Int)), (7, .slice B il.length kb), (8, .int .i64 (il.length : Int)), (9, .int .i64 (k : Int))]) (fun (k : Nat) (last : Nat) => [cell g1 33 [.int .u8 (mk : Int), .int .u64 (mn : Int), .int .u8 (mr : Int), .int .u64 (mb : Int), .int .u64 (ms : Int), .int .u8 (mo : Int), .string ⟨mv.toArray⟩, .slice A vl.length ka, .slice B il.length kb, .int .u8 (ca : Int), .int .u32 (cb : Int), .int .u8 (ck : Int), .string ⟨cs.toArray⟩, .string ⟨ct.toArray⟩, .string ⟨cu.toArray⟩, .int .u8 (cz : Int), .int .u8 (mc : Int), .string ⟨mt.toArray⟩]]) (fun (gk : Nat) (k : Nat) (last : Nat) => k + gk = il.length ∧ riseI 0 il = riseI last (il.drop k)) il.length 0 0 ⟨by omega, rfl⟩ ⟨rfl, rfl, rfl, rfl, rfl, trivial⟩ [0] rfl (by decide) ⟨.inl rfl, trivial⟩ fun gk k last hF => ?_
  obtain ⟨hkg, hrel⟩ := hF
  refine SxC.seq (SxC.region ?_)
  refine SxL.valB trivial rfl rfl (fun ρ w E H => ex_cmp E rfl rfl rfl rfl rfl) fun c10 hc10 => ?_
  refine SxL.nil (SxN.then_ (SxC.seq ?_))
  cases c10
  · refine SxC.condF rfl (SxC.exit (SxX.thenE (SxX.thenE (SxX.blockE (SxN.then_ (SxC.seq (SxC.region ?_)))))))
    refine SxL.val (v := .pointer (some ⟨g1, 8, none⟩)) trivial rfl rfl (fun ρ w E H => ex_field E rfl fa_palaver_api_Msg_7 rfl rfl) ?_
    refine SxL.val trivial rfl rfl (fun ρ w E H => ex_load1 E (H.get (i := 0) rfl) rfl rfl Tryz.underlying26 rfl rfl) ?_
    refine SxL.val (v := .int .i64 (il.length : Int)) trivial rfl rfl (fun ρ w E H => ex_lenS E rfl Tryz.underlying26 rfl) ?_
    refine SxL.valB trivial rfl rfl (fun ρ w E H => ex_cmp E rfl rfl rfl rfl rfl) fun c28 hc28 => ?_
    refine SxL.val trivial rfl rfl (fun ρ w E H => ex_assign E rfl rfl) ?_
    refine SxL.nil (SxN.then_ (SxC.ret ?_))
    refine SxX.done (.bool c28) (fun a w K H => res1 K rfl rfl) (fun w H => ?_)
    have hq : c28 = Pt.may .items ⟨mk, mn, mr, mb, ms, mo, mv, vl, il, ⟨ca, cb, ck, cs, ct, cu, cz⟩, mc, mt⟩ := by
      clear H; show _ = (riseI 0 il && decide (0 < il.length)); rw [hrel, List.drop_eq_nil_of_le (by simpa [cmpB] using hc10)]; grind [riseI, cmpB]
    exact ⟨by rw [hq], H.toBelow ⟨(fun g hg => by rw [List.mem_singleton.1 hg]; exact hg1), trivial⟩⟩
  · refine SxC.condT rfl (SxC.skip (SxN.then_ (SxC.seq (SxC.block (SxC.seq ?_)))))
    have hkl : k < il.length := by simpa [cmpB] using hc10
    obtain ⟨⟨xs, xv⟩, hx⟩ : ∃ x, il[k]? = some x := ⟨_, List.getElem?_eq_getElem hkl⟩
    have hd : il.drop k = ⟨xs, xv⟩ :: il.drop (k + 1) := by rw [List.drop_eq_getElem_cons hkl]; congr 1; rw [List.getElem?_eq_getElem hkl] at hx; exact Option.some.inj hx
    obtain ⟨ad, rfl, -, -⟩ := hi.row hx
    refine SxC.region ?_
    refine SxL.val (v := .pointer (some (ad.add (k * 2)))) trivial rfl rfl (fun ρ w E H => ex_index (i := k) E rfl Tryz.underlying26 sz_palaver_api_Item rfl rfl hkl) ?_
    refine SxL.val (v := .agg #[.int .u64 (xs : Int), .string ⟨xv.toArray⟩]) trivial rfl rfl (fun ρ w E H => ex_loadX (cs := [.int .u64 (xs : Int), .string ⟨xv.toArray⟩]) E ((hi.below (H.toBelow ⟨(fun g hg => by rw [List.mem_singleton.1 hg]; exact hg1), trivial⟩)).rowA hx) rfl rfl Tryz.underlying94 rfl sz_palaver_api_Item) ?_
    refine SxL.new (cs := [.int .u64 0, .string ⟨[].toArray⟩]) trivial rfl rfl (fun ρ w E H => ex_alloc rfl zr_palaver_api_Item rfl) fun g2 hg2 => ?_
    refine SxL.store (i := 0) trivial rfl rfl rfl rfl rfl sz_palaver_api_Item rfl rfl rfl ?_
    refine SxL.nil (SxN.then_ (SxC.seq (SxC.seq (SxC.region ?_))))
    refine SxL.val (v := .pointer (some ⟨g2, 0, none⟩)) trivial rfl rfl (fun ρ w E H => ex_field E rfl fa_palaver_api_Item_0 rfl rfl) ?_
    refine SxL.val trivial rfl rfl (fun ρ w E H => ex_load1 E (H.get (i := 0) rfl) rfl rfl Tryz.underlying22 rfl rfl) ?_
    refine SxL.val trivial rfl rfl (fun ρ w E H => ex_move E rfl rfl) ?_
    refine SxL.valB trivial rfl rfl (fun ρ w E H => ex_cmp E rfl rfl rfl rfl rfl) fun c16 hc16 => ?_
    refine SxL.val trivial rfl rfl (fun ρ w E H => ex_move E rfl rfl) ?_
    cases c16
    · refine SxL.val (v := .pointer (some ⟨g2, 0, none⟩)) ⟨_, _, rfl, rfl, rfl⟩ rfl rfl (fun ρ w E H => ex_field E rfl fa_palaver_api_Item_0 rfl rfl) ?_
      refine SxL.val ⟨_, _, rfl, rfl, rfl⟩ rfl rfl (fun ρ w E H => ex_load1 E (H.get (i := 0) rfl) rfl rfl Tryz.underlying22 rfl rfl) ?_
      refine SxL.valB ⟨_, _, rfl, rfl, rfl⟩ rfl rfl (fun ρ w E H => ex_cmp E rfl rfl rfl rfl rfl) fun c20 hc20 => ?_
      refine SxL.val trivial rfl rfl (fun ρ w E H => ex_pick E rfl (t := false) rfl rfl) ?_
      refine SxL.nil (SxN.then_ ?_)
      cases c20
      · refine SxC.condF rfl (SxC.skip (SxN.then_ (SxC.region ?_)))
        refine SxL.val (v := .pointer (some ⟨g2, 0, none⟩)) trivial rfl rfl (fun ρ w E H => ex_field E rfl fa_palaver_api_Item_0 rfl rfl) ?_
        refine SxL.val trivial rfl rfl (fun ρ w E H => ex_load1 E (H.get (i := 0) rfl) rfl rfl Tryz.underlying22 rfl rfl) ?_
        refine SxL.val trivial rfl rfl (fun ρ w E H => ex_assign E rfl rfl) ?_
        refine SxL.nil (SxN.block (SxN.then_ (SxC.region ?_)))
        refine SxL.val (v := .int .i64 ((k + 1 : Nat) : Int)) trivial rfl rfl (fun ρ w E H => ex_add E rfl rfl rfl (by rw [IntKind.wrap_i64]; omega)) ?_
        refine SxL.val trivial rfl rfl (fun ρ w E H => ex_move E rfl rfl) ?_
        refine SxL.nil ?_
        refine SxN.back (gk - 1) (k + 1, xs) (by omega) ⟨by omega, by rw [hrel, hd]; grind [riseI, cmpB]⟩ ⟨rfl, rfl, rfl, rfl, rfl, trivial⟩ [1] rfl (by decide) ⟨.inr (fun g hg => by rw [List.mem_singleton.1 hg]; exact hg2), .inl rfl, trivial⟩
      · refine SxC.condT rfl (SxC.seq (SxC.region ?_))
        refine SxL.val trivial rfl rfl (fun ρ w E H => ex_assign E rfl rfl) ?_
        refine SxL.nil (SxN.then_ (SxC.ret (SxX.thenR (SxX.blockR (SxX.thenR (SxX.thenR (SxX.blockR (SxX.thenR ?_))))))))
        refine SxX.done (.bool false) (fun a w K H => res1 K rfl rfl) (fun w H => ?_)
        have hq : false = Pt.may .items ⟨mk, mn, mr, mb, ms, mo, mv, vl, il, ⟨ca, cb, ck, cs, ct, cu, cz⟩, mc, mt⟩ := by
          clear H; show false = (riseI 0 il && decide (0 < il.length)); rw [hrel, hd]; grind [riseI, cmpB]
        exact ⟨by rw [hq], H.toBelow ⟨(fun g hg => by rw [List.mem_singleton.1 hg]; exact hg2), (fun g hg => by rw [List.mem_singleton.1 hg]; exact hg1), trivial⟩⟩
    · refine SxL.off ⟨_, _, _, rfl, rfl, rfl, nofun⟩ rfl rfl ?_
      iterate 2 refine SxL.off ⟨_, _, _, rfl, rfl, rfl, nofun⟩ rfl rfl ?_
      refine SxL.val trivial rfl rfl (fun ρ w E H => ex_pick E rfl (t := true) rfl rfl) ?_
      refine SxL.nil (SxN.then_ (SxC.condT rfl (SxC.seq (SxC.region ?_))))
      refine SxL.val trivial rfl rfl (fun ρ w E H => ex_assign E rfl rfl) ?_
      refine SxL.nil (SxN.then_ (SxC.ret (SxX.thenR (SxX.blockR (SxX.thenR (SxX.thenR (SxX.blockR (SxX.thenR ?_))))))))
      refine SxX.done (.bool false) (fun a w K H => res1 K rfl rfl) (fun w H => ?_)
      have hq : false = Pt.may .items ⟨mk, mn, mr, mb, ms, mo, mv, vl, il, ⟨ca, cb, ck, cs, ct, cu, cz⟩, mc, mt⟩ := by
        clear H; show false = (riseI 0 il && decide (0 < il.length)); rw [hrel, hd]; grind [riseI, cmpB]
      exact ⟨by rw [hq], H.toBelow ⟨(fun g hg => by rw [List.mem_singleton.1 hg]; exact hg2), (fun g hg => by rw [List.mem_singleton.1 hg]; exact hg1), trivial⟩⟩
end Go.Proofs.YteiaiilfekojfaaGreat.Msg
end
section
set_option linter.unusedVariables false
namespace Go.Proofs.YteiaiilfekojfaaGreat.Msg
open Go.RowKit Wire Sx DrawInv

section
variable {base n : Nat} {v : Value} {xs : List Value} {w : World}
theorem own_conv {l l' : List UInt8} (h : w.ownsRow base 5 1 v l.length (bv l)) (he : l = l') : w.ownsRow base 5 1 v l'.length (bv l') := he ▸ h
theorem num_own (l : List UInt8) (x : Nat) (hx : x < 18446744073709551616) (hl : l.length ≤ 1000000000) (h : w.ownsRow base 5 1 v n xs) (hn : n = l.length) (hxs : xs = bv l) :
    Calls Tryz.prog 88 #[v, .int .u64 (x : Int)] w fun E w' => ∃ v', E = .returned v' ∧ w'.ownsRow w.heap.size 5 1 v' (l ++ numB x).length (bv (l ++ numB x)) ∧ Below w.heap.size w w' := by
  subst hn hxs
  obtain ⟨A, c, rfl, hr⟩ := own_slice1 h
  exact num_put A c l x hx (by omega) w hr
theorem str_own (l s : List UInt8) (hl : l.length ≤ 1000000000) (hs : s.length ≤ 1000000000) (h : w.ownsRow base 5 1 v n xs) (hn : n = l.length) (hxs : xs = bv l) :
    Calls Tryz.prog 122 #[v, .string ⟨s.toArray⟩] w fun E w' => ∃ v', E = .returned v' ∧ w'.ownsRow w.heap.size 5 1 v' (l ++ strB s).length (bv (l ++ strB s)) ∧ Below w.heap.size w w' := by
  subst hn hxs
  obtain ⟨A, c, rfl, hr⟩ := own_slice1 h
  exact str_put A c l s hl hs w hr
theorem bal_own (l : List UInt8) (b r : Nat) (h1 : b < 18446744073709551616) (h2 : r < 256) (hl : l.length ≤ 1000000000) (h : w.ownsRow base 5 1 v n xs) (hn : n = l.length) (hxs : xs = bv l) :
    Calls Tryz.prog 132 #[v, .agg #[.int .u64 (b : Int), .int .u8 (r : Int)]] w fun E w' => ∃ v', E = .returned v' ∧ w'.ownsRow w.heap.size 5 1 v' (l ++ Bal.balB ⟨b, r⟩).length (bv (l ++ Bal.balB ⟨b, r⟩)) ∧ Below w.heap.size w w' := by
  subst hn hxs
  obtain ⟨A, c, rfl, hr⟩ := own_slice1 h
  exact Bal.put_own A c l ⟨b, r⟩ h1 h2 hl w hr
theorem cmd_own (l : List UInt8) (c : Cmd.Cm) (hc : c.Fits) (hl : l.length ≤ 1000000) (hk : c.key.length ≤ 1000) (ho : c.old.length ≤ 1000) (hw : c.new.length ≤ 1000) (h : w.ownsRow base 5 1 v n xs) (hn : n = l.length) (hxs : xs = bv l) :
    Calls Tryz.prog 111 #[v, Cmd.cmV c] w fun E w' => ∃ v', E = .returned v' ∧ w'.ownsRow w.heap.size 5 1 v' (l ++ Cmd.oneB c).length (bv (l ++ Cmd.oneB c)) ∧ Below w.heap.size w w' := by
  subst hn hxs
  obtain ⟨A, cp, rfl, hr⟩ := own_slice1 h
  exact Cmd.put_any c hc l hl hk ho hw A cp w hr
end
theorem bv_snoc (l : List UInt8) (x : Nat) (hx : x < 256) : bv l ++ [Value.int .u8 (x : Int)] = bv (l ++ [UInt8.ofNat x]) := by
  rw [bv_append]
  congr 1
  show _ = [Value.int .u8 ((UInt8.ofNat x).toNat : Int)]
  rw [show (UInt8.ofNat x).toNat = x from by simp; omega]
/-- What a writer hands back: the row, grown; it lies where it lay, or in new memory. -/
def PutRet (base : Nat) (v : Value) (w : World) (l : List UInt8) (e : Ending) (w' : World) : Prop := ∃ v', e = .returned v' ∧ w'.ownsRow base 5 1 v' l.length (bv l) ∧ OwnIn w v.ownBlock.toList v' ∧ Outs v.ownBlock.toList w w'
def putV (l : List Vo) (k : Nat) : List UInt8 := numB l.length ++ (l.take k).flatMap voB
def putI (l : List Im) (k : Nat) : List UInt8 := numB l.length ++ (l.take k).flatMap imB
theorem take_snoc {α : Type} {l : List α} {k : Nat} {x : α} (h : l[k]? = some x) : l.take (k + 1) = l.take k ++ [x] := by
  rw [List.take_add_one, h]; rfl
theorem putV_succ {l : List Vo} {k : Nat} {x : Vo} (h : l[k]? = some x) : putV l (k + 1) = putV l k ++ voB x := by
  unfold putV; rw [take_snoc h, List.flatMap_append]; simp
theorem putI_succ {l : List Im} {k : Nat} {x : Im} (h : l[k]? = some x) : putI l (k + 1) = putI l k ++ imB x := by
  unfold putI; rw [take_snoc h, List.flatMap_append]; simp
theorem putV_end {l : List Vo} {k : Nat} (h : l.length ≤ k) : putV l k = numB l.length ++ l.flatMap voB := by unfold putV; rw [List.take_of_length_le h]
theorem putI_end {l : List Im} {k : Nat} (h : l.length ≤ k) : putI l k = numB l.length ++ l.flatMap imB := by unfold putI; rw [List.take_of_length_le h]
theorem flat_le {α : Type} (f : α → List UInt8) (m : Nat) : ∀ (l : List α), (∀ x ∈ l, (f x).length ≤ m) → (l.flatMap f).length ≤ l.length * m
  | [], _ => by simp
  | x :: l, h => by
    have h1 := h x (List.mem_cons_self ..)
    have h2 := flat_le f m l fun y hy => h y (List.mem_cons_of_mem _ hy)
    rw [List.flatMap_cons, List.length_append, List.length_cons, Nat.succ_mul]; omega
theorem strB_len (s : List UInt8) (h : s.length < 18446744073709551616) : (strB s).length ≤ 9 + s.length := by
  unfold strB; rw [List.length_append]; have := (numB_length s.length h).1; omega
theorem bal_len (n r : Nat) (h : n < 18446744073709551616) : (Bal.balB ⟨n, r⟩).length ≤ 10 := by
  unfold Bal.balB; rw [List.length_append]; have := (numB_length n h).1; simp; omega
theorem voB_len (v : Vo) (h : v.Fits) (hs : v.value.length ≤ 1000) : (voB v).length ≤ 1028 := by
  unfold voB
  have h1 := (numB_length v.slot h.h1).1
  have h2 := bal_len v.n v.r h.h2
  have h3 := strB_len v.value (by omega)
  rw [List.length_append, List.length_append]; omega
theorem imB_len (v : Im) (h : v.slot < 18446744073709551616) (hs : v.value.length ≤ 1000) : (imB v).length ≤ 1028 := by
  unfold imB
  have h1 := (numB_length v.slot h).1
  have h3 := strB_len v.value (by omega)
  rw [List.length_append]; omega
theorem flat_take {α : Type} (f : α → List UInt8) (l : List α) (k : Nat) : ((l.take k).flatMap f).length ≤ (l.flatMap f).length := by
  conv => rhs; rw [← List.take_append_drop k l, List.flatMap_append, List.length_append]
  omega
theorem putV_len (l : List Vo) (k : Nat) (hl : l.length ≤ 100000) (hw : (l.flatMap voB).length ≤ 400000) : (putV l k).length ≤ 2000000 := by
  unfold putV
  have h1 := (numB_length l.length (by omega)).1
  have h2 := flat_take voB l k
  rw [List.length_append]; omega
theorem putI_len (l : List Im) (k : Nat) (hl : l.length ≤ 100000) (hw : (l.flatMap imB).length ≤ 400000) : (putI l k).length ≤ 2000000 := by
  unfold putI
  have h1 := (numB_length l.length (by omega)).1
  have h2 := flat_take imB l k
  rw [List.length_append]; omega
end Go.Proofs.YteiaiilfekojfaaGreat.Msg
end
section
set_option linter.unusedVariables false
set_option linter.unusedSimpArgs false
namespace Go.Proofs.YteiaiilfekojfaaGreat.Msg
open Go.RowKit Sx Wire DrawInv
theorem own_eq {w : World} {base n : Nat} {v : Value} {xs : List Value} {l : List UInt8} (h : w.ownsRow base 5 1 v n xs) (hn : n = l.length) (hx : xs = bv l) : w.ownsRow base 5 1 v l.length (bv l) := by subst hn hx; exact h

set_option maxRecDepth 100000 in
set_option maxHeartbeats 4000000 in
theorem put_cmd (base : Nat) (v : Value) (l : List UInt8) (mk mn mr mb ms mo ca cb ck cz mc : Nat) (mv cs ct cu mt : List UInt8) (vl : List Vo) (il : List Im) (A B : Option Addr) (ka kb : Nat) (w : World) (hf : Ms.Fits ⟨mk, mn, mr, mb, ms, mo, mv, vl, il, ⟨ca, cb, ck, cs, ct, cu, cz⟩, mc, mt⟩) (hs : Ms.Small ⟨mk, mn, mr, mb, ms, mo, mv, vl, il, ⟨ca, cb, ck, cs, ct, cu, cz⟩, mc, mt⟩) (hl : l.length ≤ 1000000) (hbase : base ≤ w.heap.size) (hown : w.ownsRow base 5 1 v l.length (bv l)) : Calls Tryz.prog 110 #[v, .agg #[.int .u8 (mk : Int), .int .u64 (mn : Int), .int .u8 (mr : Int), .int .u64 (mb : Int), .int .u64 (ms : Int), .int .u8 (mo : Int), .string ⟨mv.toArray⟩, .slice A vl.length ka, .slice B il.length kb, .int .u8 (ca : Int), .int .u32 (cb : Int), .int .u8 (ck : Int), .string ⟨cs.toArray⟩, .string ⟨ct.toArray⟩, .string ⟨cu.toArray⟩, .int .u8 (cz : Int), .int .u8 (mc : Int), .string ⟨mt.toArray⟩]] w fun e w' => PutRet base v w (l ++ Pt.put .cmd ⟨mk, mn, mr, mb, ms, mo, mv, vl, il, ⟨ca, cb, ck, cs, ct, cu, cz⟩, mc, mt⟩) e w' := by
  have hv0 : OwnIn w v.ownBlock.toList v := OwnIn.refl w v
  obtain ⟨f1, f2, f3, f4, f5, f6, f7, f8, f9, f10⟩ := hf
  obtain ⟨s1, s2, s3, s4, s5, s6, s7, s8, s9, s10, s11⟩ := hs
  have hf := f9
  dsimp only at f1 f2 f3 f4 f5 f6 f7 f8 f10 s1 s2 s3 s4 s5 s6 s7 s8 s9 s10 s11
  have hfc := f9.h1
  have hfs := f9.h2
  dsimp only at hfc hfs
  refine sx_enter (n := 9) _ Tryz.func110 rfl rfl rfl (Hp.row hown) ?_
  refine SxC.seq (SxC.region ?_)
  refine SxL.new (cs := [.int .u8 (mk : Int), .int .u64 (mn : Int), .int .u8 (mr : Int), .int .u64 (mb : Int), .int .u64 (ms : Int), .int .u8 (mo : Int), .string ⟨mv.toArray⟩, .slice A vl.length ka, .slice B il.length kb, .int .u8 (ca : Int), .int .u32 (cb : Int), .int .u8 (ck : Int), .string ⟨cs.toArray⟩, .string ⟨ct.toArray⟩, .string ⟨cu.toArray⟩, .int .u8 (cz : Int), .int .u8 (mc : Int), .string ⟨mt.toArray⟩]) trivial rfl rfl (fun ρ w E H => ex_box E rfl rfl rfl) fun g1 hg1 => ?_
  refine SxL.val trivial rfl rfl (fun ρ w E H => ex_assign E rfl rfl) ?_
  refine SxL.nil (SxN.then_ (SxC.seq (SxC.region ?_)))
  refine SxL.val trivial rfl rfl (fun ρ w E H => ex_move E rfl rfl) ?_
  refine SxL.val (v := .pointer (some ⟨g1, 9, none⟩)) trivial rfl rfl (fun ρ w E H => ex_field E rfl fa_palaver_api_Msg_8 rfl rfl) ?_
  refine SxL.val trivial rfl rfl (fun ρ w E H => ex_load (part := [.int .u8 (ca : Int), .int .u32 (cb : Int), .int .u8 (ck : Int), .string ⟨cs.toArray⟩, .string ⟨ct.toArray⟩, .string ⟨cu.toArray⟩, .int .u8 (cz : Int)]) E (H.get (i := 0) rfl) rfl rfl Tryz.underlying29 rfl sz_palaver_api_Cmd rfl rfl) ?_
  refine SxL.call (σ := Value) (fun s => s) (fun s => OwnIn w [] s) (fun s => _) trivial rfl rfl (fun ρ w E => ex_call E en_palaver_cmd_Put rfl rfl) (callOwn (fun w H => cmd_own l ⟨ca, cb, ck, cs, ct, cu, cz⟩ f9 (by omega) s6 s7 s8 (H.get (i := 1) rfl) rfl rfl)) fun v8 hv8 => ?_
  refine SxL.val trivial rfl rfl (fun ρ w E H => ex_assign E rfl rfl) ?_
  refine SxL.nil (SxN.then_ (SxC.ret ?_))
  refine SxX.done (v8) (fun a w K H => res1 K rfl rfl) (fun w H => ?_)
  exact ⟨_, rfl, own_conv (own_base (H.get (i := 0) rfl) hbase) (by simp [Pt.put, voB, imB]), hv8.wid, H.toOuts _ ⟨(fun g hg => .inr (hv8.fresh g hg)), (fun g hg => by rw [List.mem_singleton.1 hg]; exact .inr hg1), (fun g hg => (hv0.in_ g hg).imp (fun h => by simp [h]) id), trivial⟩⟩

set_option maxRecDepth 100000 in
set_option maxHeartbeats 4000000 in
theorem put_name (base : Nat) (v : Value) (l : List UInt8) (mk mn mr mb ms mo ca cb ck cz mc : Nat) (mv cs ct cu mt : List UInt8) (vl : List Vo) (il : List Im) (A B : Option Addr) (ka kb : Nat) (w : World) (hf : Ms.Fits ⟨mk, mn, mr, mb, ms, mo, mv, vl, il, ⟨ca, cb, ck, cs, ct, cu, cz⟩, mc, mt⟩) (hs : Ms.Small ⟨mk, mn, mr, mb, ms, mo, mv, vl, il, ⟨ca, cb, ck, cs, ct, cu, cz⟩, mc, mt⟩) (hl : l.length ≤ 1000000) (hbase : base ≤ w.heap.size) (hown : w.ownsRow base 5 1 v l.length (bv l)) : Calls Tryz.prog 117 #[v, .agg #[.int .u8 (mk : Int), .int .u64 (mn : Int), .int .u8 (mr : Int), .int .u64 (mb : Int), .int .u64 (ms : Int), .int .u8 (mo : Int), .string ⟨mv.toArray⟩, .slice A vl.length ka, .slice B il.length kb, .int .u8 (ca : Int), .int .u32 (cb : Int), .int .u8 (ck : Int), .string ⟨cs.toArray⟩, .string ⟨ct.toArray⟩, .string ⟨cu.toArray⟩, .int .u8 (cz : Int), .int .u8 (mc : Int), .string ⟨mt.toArray⟩]] w fun e w' => PutRet base v w (l ++ Pt.put .name ⟨mk, mn, mr, mb, ms, mo, mv, vl, il, ⟨ca, cb, ck, cs, ct, cu, cz⟩, mc, mt⟩) e w' := by
  have hv0 : OwnIn w v.ownBlock.toList v := OwnIn.refl w v
  obtain ⟨f1, f2, f3, f4, f5, f6, f7, f8, f9, f10⟩ := hf
  obtain ⟨s1, s2, s3, s4, s5, s6, s7, s8, s9, s10, s11⟩ := hs
  have hf := f9
  dsimp only at f1 f2 f3 f4 f5 f6 f7 f8 f10 s1 s2 s3 s4 s5 s6 s7 s8 s9 s10 s11
  have hfc := f9.h1
  have hfs := f9.h2
  dsimp only at hfc hfs
  refine sx_enter (n := 16) _ Tryz.func117 rfl rfl rfl (Hp.row hown) ?_
  refine SxC.seq (SxC.region ?_)
  refine SxL.new (cs := [.int .u8 (mk : Int), .int .u64 (mn : Int), .int .u8 (mr : Int), .int .u64 (mb : Int), .int .u64 (ms : Int), .int .u8 (mo : Int), .string ⟨mv.toArray⟩, .slice A vl.length ka, .slice B il.length kb, .int .u8 (ca : Int), .int .u32 (cb : Int), .int .u8 (ck : Int), .string ⟨cs.toArray⟩, .string ⟨ct.toArray⟩, .string ⟨cu.toArray⟩, .int .u8 (cz : Int), .int .u8 (mc : Int), .string ⟨mt.toArray⟩]) trivial rfl rfl (fun ρ w E H => ex_box E rfl rfl rfl) fun g1 hg1 => ?_
  refine SxL.val trivial rfl rfl (fun ρ w E H => ex_assign E rfl rfl) ?_
  refine SxL.nil (SxN.then_ (SxC.seq ?_))
  refine SxC.drawnK (v.ownBlock.toList ++ []) [0] (by kernel_rfl) rfl ⟨(fun g hg => by rw [List.mem_singleton.1 hg]; exact .inr hg1), (fun g hg => (hv0.in_ g hg).imp (fun h => by simp only [List.mem_append]; simp [h]) id), trivial⟩ ?_
  refine SxA.take (i := 0) rfl (by kernel_rfl) (by kernel_rfl) (by kernel_rfl) rfl rfl (fun _ _ _ h => h) trivial (fun ρ w E H => ex_move E rfl rfl) ?_
  refine SxA.take (i := 1) (v := .pointer (some ⟨g1, 9, none⟩)) rfl (by kernel_rfl) (by kernel_rfl) (by kernel_rfl) rfl rfl (fun _ _ _ h => h) trivial (fun ρ w E H => ex_field E rfl fa_palaver_api_Msg_8 rfl rfl) ?_
  refine SxA.take (i := 2) (v := .pointer (some ⟨g1, 9, none⟩)) rfl (by kernel_rfl) (by kernel_rfl) (by kernel_rfl) rfl rfl (fun _ _ _ h => h) trivial (fun ρ w E H => ex_field E rfl fa_palaver_api_Cmd_0 rfl rfl) ?_
  refine SxA.take (i := 3) rfl (by kernel_rfl) (by kernel_rfl) (by kernel_rfl) rfl rfl (fun _ _ _ h => h) trivial (fun ρ w E H => ex_load1 E (H.get (i := 0) rfl) rfl rfl Tryz.underlying5 rfl rfl) ?_
  refine SxA.take (i := 6) (v := .pointer (some ⟨g1, 9, none⟩)) rfl (by kernel_rfl) (by kernel_rfl) (by kernel_rfl) rfl rfl (fun _ _ _ h => h) trivial (fun ρ w E H => ex_field E rfl fa_palaver_api_Msg_8 rfl rfl) ?_
  refine SxA.take (i := 7) (v := .pointer (some ⟨g1, 10, none⟩)) rfl (by kernel_rfl) (by kernel_rfl) (by kernel_rfl) rfl rfl (fun _ _ _ h => h) trivial (fun ρ w E H => ex_field E rfl fa_palaver_api_Cmd_1 rfl rfl) ?_
  refine SxA.take (i := 8) rfl (by kernel_rfl) (by kernel_rfl) (by kernel_rfl) rfl rfl (fun _ _ _ h => h) trivial (fun ρ w E H => ex_load1 E (H.get (i := 0) rfl) rfl rfl Tryz.underlying27 rfl rfl) ?_
  refine SxA.take (i := 9) (v := .int .u64 (cb : Int)) rfl (by kernel_rfl) (by kernel_rfl) (by kernel_rfl) rfl rfl (fun _ _ _ h => h) trivial (fun ρ w E H => ex_convInt E rfl Tryz.underlying27 Tryz.underlying22 rfl (by rw [IntKind.wrap_u64]; omega)) ?_
  refine SxA.ready [4] (by kernel_rfl) (by simp) ⟨?_, trivial⟩
  refine SxO.newS (cs := [.int .u8 (ca : Int)]) rfl trivial rfl rfl (fun ρ w E H => ex_buildSlice E rfl rfl Tryz.underlying103 sz_uint8 zr_uint8 rfl rfl (by kernel_rfl)) (fun g2 w hg2 H => H.ks (v.ownBlock.toList ++ []) [1] rfl ⟨(fun g hg => by rw [List.mem_singleton.1 hg]; exact .inr hg2), (fun g hg => by rw [List.mem_singleton.1 hg]; exact .inr hg1), (fun g hg => (hv0.in_ g hg).imp (fun h => by simp only [List.mem_append]; simp [h]) id), trivial⟩) fun g2 hg2 => ?_
  refine SxA.ready [5] (by kernel_rfl) (by simp) ⟨?_, trivial⟩
  refine SxO.append (i := 2) (news := [.int .u8 (ca : Int)]) rfl trivial rfl rfl rfl Tryz.underlying103 nf_uint8 rfl rfl rfl rfl hv0 rfl (fun w H => reads_cell H (i := 0) rfl rfl) (one_list rfl) (by unfold maxLen; omega) (by omega) hbase (fun A10 k10 w hv10 H => H.ks (v.ownBlock.toList ++ []) [1] rfl ⟨(fun g hg => by rw [List.mem_singleton.1 hg]; exact .inr hg2), (fun g hg => by rw [List.mem_singleton.1 hg]; exact .inr hg1), (fun g hg => (hv10.in_ g hg).imp (fun h => by simp only [List.mem_append]; simp [h]) id), trivial⟩) fun A10 k10 hv10 => ?_
  refine SxA.ready [10] (by kernel_rfl) (by simp) ⟨?_, trivial⟩
  refine SxO.call (σ := Value) (fun s => s) (fun s => OwnIn w [] s) (fun s => _) rfl trivial rfl rfl (fun ρ w E => ex_call E en_palaver_wire_Num rfl rfl) (callOwn (fun w H => num_own (l ++ [UInt8.ofNat ca]) cb (by omega) (by (try simp only [List.length_append, List.length_cons, List.length_nil]); omega) (H.get (i := 2) rfl) (by simp) (bv_snoc l ca (by omega)))) (fun v15 w hv15 H => H.ks (v.ownBlock.toList ++ []) [2] rfl ⟨(fun g hg => .inr (hv15.fresh g hg)), (fun g hg => by rw [List.mem_singleton.1 hg]; exact .inr hg2), (fun g hg => by rw [List.mem_singleton.1 hg]; exact .inr hg1), (fun g hg => (hv10.in_ g hg).imp (fun h => by simp only [List.mem_append]; simp [h]) id), trivial⟩) fun v15 hv15 => ?_
  refine SxA.take (i := 11) rfl (by kernel_rfl) (by kernel_rfl) (by kernel_rfl) rfl rfl (fun _ _ _ h => h) trivial (fun ρ w E H => ex_assign E rfl rfl) ?_
  refine SxA.done (by kernel_rfl) ?_
  refine SxN.then_ (SxC.ret ?_)
  refine SxX.done (v15) (fun a w K H => res1 K rfl rfl) (fun w H => ?_)
  exact ⟨_, rfl, own_conv (own_base (H.get (i := 0) rfl) hbase) (by simp [Pt.put, voB, imB]), hv15.wid, H.toOuts _ ⟨(fun g hg => .inr (hv15.fresh g hg)), (fun g hg => by rw [List.mem_singleton.1 hg]; exact .inr hg2), (fun g hg => by rw [List.mem_singleton.1 hg]; exact .inr hg1), (fun g hg => (hv10.in_ g hg).imp (fun h => by simp [h]) id), trivial⟩⟩

set_option maxRecDepth 100000 in
set_option maxHeartbeats 4000000 in
theorem put_reply (base : Nat) (v : Value) (l : List UInt8) (mk mn mr mb ms mo ca cb ck cz mc : Nat) (mv cs ct cu mt : List UInt8) (vl : List Vo) (il : List Im) (A B : Option Addr) (ka kb : Nat) (w : World) (hf : Ms.Fits ⟨mk, mn, mr, mb, ms, mo, mv, vl, il, ⟨ca, cb, ck, cs, ct, cu, cz⟩, mc, mt⟩) (hs : Ms.Small ⟨mk, mn, mr, mb, ms, mo, mv, vl, il, ⟨ca, cb, ck, cs, ct, cu, cz⟩, mc, mt⟩) (hl : l.length ≤ 1000000) (hbase : base ≤ w.heap.size) (hown : w.ownsRow base 5 1 v l.length (bv l)) : Calls Tryz.prog 121 #[v, .agg #[.int .u8 (mk : Int), .int .u64 (mn : Int), .int .u8 (mr : Int), .int .u64 (mb : Int), .int .u64 (ms : Int), .int .u8 (mo : Int), .string ⟨mv.toArray⟩, .slice A vl.length ka, .slice B il.length kb, .int .u8 (ca : Int), .int .u32 (cb : Int), .int .u8 (ck : Int), .string ⟨cs.toArray⟩, .string ⟨ct.toArray⟩, .string ⟨cu.toArray⟩, .int .u8 (cz : Int), .int .u8 (mc : Int), .string ⟨mt.toArray⟩]] w fun e w' => PutRet base v w (l ++ Pt.put .reply ⟨mk, mn, mr, mb, ms, mo, mv, vl, il, ⟨ca, cb, ck, cs, ct, cu, cz⟩, mc, mt⟩) e w' := by
  have hv0 : OwnIn w v.ownBlock.toList v := OwnIn.refl w v
  obtain ⟨f1, f2, f3, f4, f5, f6, f7, f8, f9, f10⟩ := hf
  obtain ⟨s1, s2, s3, s4, s5, s6, s7, s8, s9, s10, s11⟩ := hs
  have hf := f9
  dsimp only at f1 f2 f3 f4 f5 f6 f7 f8 f10 s1 s2 s3 s4 s5 s6 s7 s8 s9 s10 s11
  have hfc := f9.h1
  have hfs := f9.h2
  dsimp only at hfc hfs
  refine sx_enter (n := 15) _ Tryz.func121 rfl rfl rfl (Hp.row hown) ?_
  refine SxC.seq (SxC.region ?_)
  refine SxL.new (cs := [.int .u8 (mk : Int), .int .u64 (mn : Int), .int .u8 (mr : Int), .int .u64 (mb : Int), .int .u64 (ms : Int), .int .u8 (mo : Int), .string ⟨mv.toArray⟩, .slice A vl.length ka, .slice B il.length kb, .int .u8 (ca : Int), .int .u32 (cb : Int), .int .u8 (ck : Int), .string ⟨cs.toArray⟩, .string ⟨ct.toArray⟩, .string ⟨cu.toArray⟩, .int .u8 (cz : Int), .int .u8 (mc : Int), .string ⟨mt.toArray⟩]) trivial rfl rfl (fun ρ w E H => ex_box E rfl rfl rfl) fun g1 hg1 => ?_
  refine SxL.val trivial rfl rfl (fun ρ w E H => ex_assign E rfl rfl) ?_
  refine SxL.nil (SxN.then_ (SxC.seq ?_))
  refine SxC.drawnK (v.ownBlock.toList ++ []) [0] (by kernel_rfl) rfl ⟨(fun g hg => by rw [List.mem_singleton.1 hg]; exact .inr hg1), (fun g hg => (hv0.in_ g hg).imp (fun h => by simp only [List.mem_append]; simp [h]) id), trivial⟩ ?_
  refine SxA.take (i := 0) rfl (by kernel_rfl) (by kernel_rfl) (by kernel_rfl) rfl rfl (fun _ _ _ h => h) trivial (fun ρ w E H => ex_move E rfl rfl) ?_
  refine SxA.take (i := 1) (v := .pointer (some ⟨g1, 16, none⟩)) rfl (by kernel_rfl) (by kernel_rfl) (by kernel_rfl) rfl rfl (fun _ _ _ h => h) trivial (fun ρ w E H => ex_field E rfl fa_palaver_api_Msg_9 rfl rfl) ?_
  refine SxA.take (i := 2) (v := .pointer (some ⟨g1, 16, none⟩)) rfl (by kernel_rfl) (by kernel_rfl) (by kernel_rfl) rfl rfl (fun _ _ _ h => h) trivial (fun ρ w E H => ex_field E rfl fa_palaver_api_Reply_0 rfl rfl) ?_
  refine SxA.take (i := 3) rfl (by kernel_rfl) (by kernel_rfl) (by kernel_rfl) rfl rfl (fun _ _ _ h => h) trivial (fun ρ w E H => ex_load1 E (H.get (i := 0) rfl) rfl rfl Tryz.underlying5 rfl rfl) ?_
  refine SxA.take (i := 6) (v := .pointer (some ⟨g1, 16, none⟩)) rfl (by kernel_rfl) (by kernel_rfl) (by kernel_rfl) rfl rfl (fun _ _ _ h => h) trivial (fun ρ w E H => ex_field E rfl fa_palaver_api_Msg_9 rfl rfl) ?_
  refine SxA.take (i := 7) (v := .pointer (some ⟨g1, 17, none⟩)) rfl (by kernel_rfl) (by kernel_rfl) (by kernel_rfl) rfl rfl (fun _ _ _ h => h) trivial (fun ρ w E H => ex_field E rfl fa_palaver_api_Reply_1 rfl rfl) ?_
  refine SxA.take (i := 8) rfl (by kernel_rfl) (by kernel_rfl) (by kernel_rfl) rfl rfl (fun _ _ _ h => h) trivial (fun ρ w E H => ex_load1 E (H.get (i := 0) rfl) rfl rfl Tryz.underlying9 rfl rfl) ?_
  refine SxA.ready [4] (by kernel_rfl) (by simp) ⟨?_, trivial⟩
  refine SxO.newS (cs := [.int .u8 (mc : Int)]) rfl trivial rfl rfl (fun ρ w E H => ex_buildSlice E rfl rfl Tryz.underlying103 sz_uint8 zr_uint8 rfl rfl (by kernel_rfl)) (fun g2 w hg2 H => H.ks (v.ownBlock.toList ++ []) [1] rfl ⟨(fun g hg => by rw [List.mem_singleton.1 hg]; exact .inr hg2), (fun g hg => by rw [List.mem_singleton.1 hg]; exact .inr hg1), (fun g hg => (hv0.in_ g hg).imp (fun h => by simp only [List.mem_append]; simp [h]) id), trivial⟩) fun g2 hg2 => ?_
  refine SxA.ready [5] (by kernel_rfl) (by simp) ⟨?_, trivial⟩
  refine SxO.append (i := 2) (news := [.int .u8 (mc : Int)]) rfl trivial rfl rfl rfl Tryz.underlying103 nf_uint8 rfl rfl rfl rfl hv0 rfl (fun w H => reads_cell H (i := 0) rfl rfl) (one_list rfl) (by unfold maxLen; omega) (by omega) hbase (fun A10 k10 w hv10 H => H.ks (v.ownBlock.toList ++ []) [1] rfl ⟨(fun g hg => by rw [List.mem_singleton.1 hg]; exact .inr hg2), (fun g hg => by rw [List.mem_singleton.1 hg]; exact .inr hg1), (fun g hg => (hv10.in_ g hg).imp (fun h => by simp only [List.mem_append]; simp [h]) id), trivial⟩) fun A10 k10 hv10 => ?_
  refine SxA.ready [9] (by kernel_rfl) (by simp) ⟨?_, trivial⟩
  refine SxO.call (σ := Value) (fun s => s) (fun s => OwnIn w [] s) (fun s => _) rfl trivial rfl rfl (fun ρ w E => ex_call E en_palaver_wire_Str rfl rfl) (callOwn (fun w H => str_own (l ++ [UInt8.ofNat mc]) mt (by (try simp only [List.length_append, List.length_cons, List.length_nil]); omega) (by omega) (H.get (i := 2) rfl) (by simp) (bv_snoc l mc (by omega)))) (fun v14 w hv14 H => H.ks (v.ownBlock.toList ++ []) [2] rfl ⟨(fun g hg => .inr (hv14.fresh g hg)), (fun g hg => by rw [List.mem_singleton.1 hg]; exact .inr hg2), (fun g hg => by rw [List.mem_singleton.1 hg]; exact .inr hg1), (fun g hg => (hv10.in_ g hg).imp (fun h => by simp only [List.mem_append]; simp [h]) id), trivial⟩) fun v14 hv14 => ?_
  refine SxA.take (i := 10) rfl (by kernel_rfl) (by kernel_rfl) (by kernel_rfl) rfl rfl (fun _ _ _ h => h) trivial (fun ρ w E H => ex_assign E rfl rfl) ?_
  refine SxA.done (by kernel_rfl) ?_
  refine SxN.then_ (SxC.ret ?_)
  refine SxX.done (v14) (fun a w K H => res1 K rfl rfl) (fun w H => ?_)
  exact ⟨_, rfl, own_conv (own_base (H.get (i := 0) rfl) hbase) (by simp [Pt.put, voB, imB]), hv14.wid, H.toOuts _ ⟨(fun g hg => .inr (hv14.fresh g hg)), (fun g hg => by rw [List.mem_singleton.1 hg]; exact .inr hg2), (fun g hg => by rw [List.mem_singleton.1 hg]; exact .inr hg1), (fun g hg => (hv10.in_ g hg).imp (fun h => by simp [h]) id), trivial⟩⟩

set_option maxRecDepth 100000 in
set_option maxHeartbeats 4000000 in
theorem put_node (base : Nat) (v : Value) (l : List UInt8) (mk mn mr mb ms mo ca cb ck cz mc : Nat) (mv cs ct cu mt : List UInt8) (vl : List Vo) (il : List Im) (A B : Option Addr) (ka kb : Nat) (w : World) (hf : Ms.Fits ⟨mk, mn, mr, mb, ms, mo, mv, vl, il, ⟨ca, cb, ck, cs, ct, cu, cz⟩, mc, mt⟩) (hs : Ms.Small ⟨mk, mn, mr, mb, ms, mo, mv, vl, il, ⟨ca, cb, ck, cs, ct, cu, cz⟩, mc, mt⟩) (hl : l.length ≤ 1000000) (hbase : base ≤ w.heap.size) (hown : w.ownsRow base 5 1 v l.length (bv l)) : Calls Tryz.prog 127 #[v, .agg #[.int .u8 (mk : Int), .int .u64 (mn : Int), .int .u8 (mr : Int), .int .u64 (mb : Int), .int .u64 (ms : Int), .int .u8 (mo : Int), .string ⟨mv.toArray⟩, .slice A vl.length ka, .slice B il.length kb, .int .u8 (ca : Int), .int .u32 (cb : Int), .int .u8 (ck : Int), .string ⟨cs.toArray⟩, .string ⟨ct.toArray⟩, .string ⟨cu.toArray⟩, .int .u8 (cz : Int), .int .u8 (mc : Int), .string ⟨mt.toArray⟩]] w fun e w' => PutRet base v w (l ++ Pt.put .node ⟨mk, mn, mr, mb, ms, mo, mv, vl, il, ⟨ca, cb, ck, cs, ct, cu, cz⟩, mc, mt⟩) e w' := by
  have hv0 : OwnIn w v.ownBlock.toList v := OwnIn.refl w v
  obtain ⟨f1, f2, f3, f4, f5, f6, f7, f8, f9, f10⟩ := hf
  obtain ⟨s1, s2, s3, s4, s5, s6, s7, s8, s9, s10, s11⟩ := hs
  have hf := f9
  dsimp only at f1 f2 f3 f4 f5 f6 f7 f8 f10 s1 s2 s3 s4 s5 s6 s7 s8 s9 s10 s11
  have hfc := f9.h1
  have hfs := f9.h2
  dsimp only at hfc hfs
  refine sx_enter (n := 10) _ Tryz.func127 rfl rfl rfl (Hp.row hown) ?_
  refine SxC.seq (SxC.region ?_)
  refine SxL.new (cs := [.int .u8 (mk : Int), .int .u64 (mn : Int), .int .u8 (mr : Int), .int .u64 (mb : Int), .int .u64 (ms : Int), .int .u8 (mo : Int), .string ⟨mv.toArray⟩, .slice A vl.length ka, .slice B il.length kb, .int .u8 (ca : Int), .int .u32 (cb : Int), .int .u8 (ck : Int), .string ⟨cs.toArray⟩, .string ⟨ct.toArray⟩, .string ⟨cu.toArray⟩, .int .u8 (cz : Int), .int .u8 (mc : Int), .string ⟨mt.toArray⟩]) trivial rfl rfl (fun ρ w E H => ex_box E rfl rfl rfl) fun g1 hg1 => ?_
  refine SxL.val trivial rfl rfl (fun ρ w E H => ex_assign E rfl rfl) ?_
  refine SxL.nil (SxN.then_ (SxC.seq (SxC.region ?_)))
  refine SxL.val trivial rfl rfl (fun ρ w E H => ex_move E rfl rfl) ?_
  refine SxL.val (v := .pointer (some ⟨g1, 5, none⟩)) trivial rfl rfl (fun ρ w E H => ex_field E rfl fa_palaver_api_Msg_4 rfl rfl) ?_
  refine SxL.val trivial rfl rfl (fun ρ w E H => ex_load1 E (H.get (i := 0) rfl) rfl rfl Tryz.underlying5 rfl rfl) ?_
  refine SxL.newS (cs := [.int .u8 (mo : Int)]) trivial rfl rfl (fun ρ w E H => ex_buildSlice E rfl rfl Tryz.underlying103 sz_uint8 zr_uint8 rfl rfl (by kernel_rfl)) fun g2 hg2 => ?_
  refine SxL.append (i := 2) (news := [.int .u8 (mo : Int)]) trivial rfl rfl rfl Tryz.underlying103 nf_uint8 rfl rfl rfl rfl hv0 rfl (fun w H => reads_cell H (i := 0) rfl rfl) (one_list rfl) (by unfold maxLen; omega) (by omega) hbase fun A9 k9 hv9 => ?_
  refine SxL.val trivial rfl rfl (fun ρ w E H => ex_assign E rfl rfl) ?_
  refine SxL.nil (SxN.then_ (SxC.ret ?_))
  refine SxX.done (.slice A9 (l.length + 1) k9) (fun a w K H => res1 K rfl rfl) (fun w H => ?_)
  exact ⟨_, rfl, own_conv (own_base (own_eq (H.get (i := 2) rfl) (by simp) (bv_snoc l mo (by omega))) (Nat.le_refl _)) (by simp [Pt.put, voB, imB]), hv9, H.toOuts _ ⟨(fun g hg => by rw [List.mem_singleton.1 hg]; exact .inr hg2), (fun g hg => by rw [List.mem_singleton.1 hg]; exact .inr hg1), (fun g hg => (hv9.in_ g hg).imp (fun h => by simp [h]) id), trivial⟩⟩

set_option maxRecDepth 100000 in
set_option maxHeartbeats 4000000 in
theorem put_turn (base : Nat) (v : Value) (l : List UInt8) (mk mn mr mb ms mo ca cb ck cz mc : Nat) (mv cs ct cu mt : List UInt8) (vl : List Vo) (il : List Im) (A B : Option Addr) (ka kb : Nat) (w : World) (hf : Ms.Fits ⟨mk, mn, mr, mb, ms, mo, mv, vl, il, ⟨ca, cb, ck, cs, ct, cu, cz⟩, mc, mt⟩) (hs : Ms.Small ⟨mk, mn, mr, mb, ms, mo, mv, vl, il, ⟨ca, cb, ck, cs, ct, cu, cz⟩, mc, mt⟩) (hl : l.length ≤ 1000000) (hbase : base ≤ w.heap.size) (hown : w.ownsRow base 5 1 v l.length (bv l)) : Calls Tryz.prog 131 #[v, .agg #[.int .u8 (mk : Int), .int .u64 (mn : Int), .int .u8 (mr : Int), .int .u64 (mb : Int), .int .u64 (ms : Int), .int .u8 (mo : Int), .string ⟨mv.toArray⟩, .slice A vl.length ka, .slice B il.length kb, .int .u8 (ca : Int), .int .u32 (cb : Int), .int .u8 (ck : Int), .string ⟨cs.toArray⟩, .string ⟨ct.toArray⟩, .string ⟨cu.toArray⟩, .int .u8 (cz : Int), .int .u8 (mc : Int), .string ⟨mt.toArray⟩]] w fun e w' => PutRet base v w (l ++ Pt.put .turn ⟨mk, mn, mr, mb, ms, mo, mv, vl, il, ⟨ca, cb, ck, cs, ct, cu, cz⟩, mc, mt⟩) e w' := by
  have hv0 : OwnIn w v.ownBlock.toList v := OwnIn.refl w v
  obtain ⟨f1, f2, f3, f4, f5, f6, f7, f8, f9, f10⟩ := hf
  obtain ⟨s1, s2, s3, s4, s5, s6, s7, s8, s9, s10, s11⟩ := hs
  have hf := f9
  dsimp only at f1 f2 f3 f4 f5 f6 f7 f8 f10 s1 s2 s3 s4 s5 s6 s7 s8 s9 s10 s11
  have hfc := f9.h1
  have hfs := f9.h2
  dsimp only at hfc hfs
  refine sx_enter (n := 9) _ Tryz.func131 rfl rfl rfl (Hp.row hown) ?_
  refine SxC.seq (SxC.region ?_)
  refine SxL.new (cs := [.int .u8 (mk : Int), .int .u64 (mn : Int), .int .u8 (mr : Int), .int .u64 (mb : Int), .int .u64 (ms : Int), .int .u8 (mo : Int), .string ⟨mv.toArray⟩, .slice A vl.length ka, .slice B il.length kb, .int .u8 (ca : Int), .int .u32 (cb : Int), .int .u8 (ck : Int), .string ⟨cs.toArray⟩, .string ⟨ct.toArray⟩, .string ⟨cu.toArray⟩, .int .u8 (cz : Int), .int .u8 (mc : Int), .string ⟨mt.toArray⟩]) trivial rfl rfl (fun ρ w E H => ex_box E rfl rfl rfl) fun g1 hg1 => ?_
  refine SxL.val trivial rfl rfl (fun ρ w E H => ex_assign E rfl rfl) ?_
  refine SxL.nil (SxN.then_ (SxC.seq (SxC.region ?_)))
  refine SxL.val trivial rfl rfl (fun ρ w E H => ex_move E rfl rfl) ?_
  refine SxL.val (v := .pointer (some ⟨g1, 1, none⟩)) trivial rfl rfl (fun ρ w E H => ex_field E rfl fa_palaver_api_Msg_1 rfl rfl) ?_
  refine SxL.val trivial rfl rfl (fun ρ w E H => ex_load (part := [.int .u64 (mn : Int), .int .u8 (mr : Int)]) E (H.get (i := 0) rfl) rfl rfl Tryz.underlying24 rfl sz_palaver_api_Ballot rfl rfl) ?_
  refine SxL.call (σ := Value) (fun s => s) (fun s => OwnIn w [] s) (fun s => _) trivial rfl rfl (fun ρ w E => ex_call E en_palaver_ballot_Put rfl rfl) (callOwn (fun w H => bal_own l mn mr (by omega) (by omega) (by (try simp only [List.length_append, List.length_cons, List.length_nil]); omega) (H.get (i := 1) rfl) rfl rfl)) fun v8 hv8 => ?_
  refine SxL.val trivial rfl rfl (fun ρ w E H => ex_assign E rfl rfl) ?_
  refine SxL.nil (SxN.then_ (SxC.ret ?_))
  refine SxX.done (v8) (fun a w K H => res1 K rfl rfl) (fun w H => ?_)
  exact ⟨_, rfl, own_conv (own_base (H.get (i := 0) rfl) hbase) (by simp [Pt.put, voB, imB]), hv8.wid, H.toOuts _ ⟨(fun g hg => .inr (hv8.fresh g hg)), (fun g hg => by rw [List.mem_singleton.1 hg]; exact .inr hg1), (fun g hg => (hv0.in_ g hg).imp (fun h => by simp [h]) id), trivial⟩⟩

set_option maxRecDepth 100000 in
set_option maxHeartbeats 4000000 in
theorem put_floor (base : Nat) (v : Value) (l : List UInt8) (mk mn mr mb ms mo ca cb ck cz mc : Nat) (mv cs ct cu mt : List UInt8) (vl : List Vo) (il : List Im) (A B : Option Addr) (ka kb : Nat) (w : World) (hf : Ms.Fits ⟨mk, mn, mr, mb, ms, mo, mv, vl, il, ⟨ca, cb, ck, cs, ct, cu, cz⟩, mc, mt⟩) (hs : Ms.Small ⟨mk, mn, mr, mb, ms, mo, mv, vl, il, ⟨ca, cb, ck, cs, ct, cu, cz⟩, mc, mt⟩) (hl : l.length ≤ 1000000) (hbase : base ≤ w.heap.size) (hown : w.ownsRow base 5 1 v l.length (bv l)) : Calls Tryz.prog 143 #[v, .agg #[.int .u8 (mk : Int), .int .u64 (mn : Int), .int .u8 (mr : Int), .int .u64 (mb : Int), .int .u64 (ms : Int), .int .u8 (mo : Int), .string ⟨mv.toArray⟩, .slice A vl.length ka, .slice B il.length kb, .int .u8 (ca : Int), .int .u32 (cb : Int), .int .u8 (ck : Int), .string ⟨cs.toArray⟩, .string ⟨ct.toArray⟩, .string ⟨cu.toArray⟩, .int .u8 (cz : Int), .int .u8 (mc : Int), .string ⟨mt.toArray⟩]] w fun e w' => PutRet base v w (l ++ Pt.put .floor ⟨mk, mn, mr, mb, ms, mo, mv, vl, il, ⟨ca, cb, ck, cs, ct, cu, cz⟩, mc, mt⟩) e w' := by
  have hv0 : OwnIn w v.ownBlock.toList v := OwnIn.refl w v
  obtain ⟨f1, f2, f3, f4, f5, f6, f7, f8, f9, f10⟩ := hf
  obtain ⟨s1, s2, s3, s4, s5, s6, s7, s8, s9, s10, s11⟩ := hs
  have hf := f9
  dsimp only at f1 f2 f3 f4 f5 f6 f7 f8 f10 s1 s2 s3 s4 s5 s6 s7 s8 s9 s10 s11
  have hfc := f9.h1
  have hfs := f9.h2
  dsimp only at hfc hfs
  refine sx_enter (n := 9) _ Tryz.func143 rfl rfl rfl (Hp.row hown) ?_
  refine SxC.seq (SxC.region ?_)
  refine SxL.new (cs := [.int .u8 (mk : Int), .int .u64 (mn : Int), .int .u8 (mr : Int), .int .u64 (mb : Int), .int .u64 (ms : Int), .int .u8 (mo : Int), .string ⟨mv.toArray⟩, .slice A vl.length ka, .slice B il.length kb, .int .u8 (ca : Int), .int .u32 (cb : Int), .int .u8 (ck : Int), .string ⟨cs.toArray⟩, .string ⟨ct.toArray⟩, .string ⟨cu.toArray⟩, .int .u8 (cz : Int), .int .u8 (mc : Int), .string ⟨mt.toArray⟩]) trivial rfl rfl (fun ρ w E H => ex_box E rfl rfl rfl) fun g1 hg1 => ?_
  refine SxL.val trivial rfl rfl (fun ρ w E H => ex_assign E rfl rfl) ?_
  refine SxL.nil (SxN.then_ (SxC.seq (SxC.region ?_)))
  refine SxL.val trivial rfl rfl (fun ρ w E H => ex_move E rfl rfl) ?_
  refine SxL.val (v := .pointer (some ⟨g1, 3, none⟩)) trivial rfl rfl (fun ρ w E H => ex_field E rfl fa_palaver_api_Msg_2 rfl rfl) ?_
  refine SxL.val trivial rfl rfl (fun ρ w E H => ex_load1 E (H.get (i := 0) rfl) rfl rfl Tryz.underlying22 rfl rfl) ?_
  refine SxL.call (σ := Value) (fun s => s) (fun s => OwnIn w [] s) (fun s => _) trivial rfl rfl (fun ρ w E => ex_call E en_palaver_wire_Num rfl rfl) (callOwn (fun w H => num_own l mb (by omega) (by (try simp only [List.length_append, List.length_cons, List.length_nil]); omega) (H.get (i := 1) rfl) rfl rfl)) fun v8 hv8 => ?_
  refine SxL.val trivial rfl rfl (fun ρ w E H => ex_assign E rfl rfl) ?_
  refine SxL.nil (SxN.then_ (SxC.ret ?_))
  refine SxX.done (v8) (fun a w K H => res1 K rfl rfl) (fun w H => ?_)
  exact ⟨_, rfl, own_conv (own_base (H.get (i := 0) rfl) hbase) (by simp [Pt.put, voB, imB]), hv8.wid, H.toOuts _ ⟨(fun g hg => .inr (hv8.fresh g hg)), (fun g hg => by rw [List.mem_singleton.1 hg]; exact .inr hg1), (fun g hg => (hv0.in_ g hg).imp (fun h => by simp [h]) id), trivial⟩⟩

set_option maxRecDepth 100000 in
set_option maxHeartbeats 4000000 in
theorem put_slot (base : Nat) (v : Value) (l : List UInt8) (mk mn mr mb ms mo ca cb ck cz mc : Nat) (mv cs ct cu mt : List UInt8) (vl : List Vo) (il : List Im) (least : Nat) (A B : Option Addr) (ka kb : Nat) (w : World) (hf : Ms.Fits ⟨mk, mn, mr, mb, ms, mo, mv, vl, il, ⟨ca, cb, ck, cs, ct, cu, cz⟩, mc, mt⟩) (hs : Ms.Small ⟨mk, mn, mr, mb, ms, mo, mv, vl, il, ⟨ca, cb, ck, cs, ct, cu, cz⟩, mc, mt⟩) (hl : l.length ≤ 1000000) (hbase : base ≤ w.heap.size) (hown : w.ownsRow base 5 1 v l.length (bv l)) : Calls Tryz.prog 138 #[v, .agg #[.int .u8 (mk : Int), .int .u64 (mn : Int), .int .u8 (mr : Int), .int .u64 (mb : Int), .int .u64 (ms : Int), .int .u8 (mo : Int), .string ⟨mv.toArray⟩, .slice A vl.length ka, .slice B il.length kb, .int .u8 (ca : Int), .int .u32 (cb : Int), .int .u8 (ck : Int), .string ⟨cs.toArray⟩, .string ⟨ct.toArray⟩, .string ⟨cu.toArray⟩, .int .u8 (cz : Int), .int .u8 (mc : Int), .string ⟨mt.toArray⟩]] w fun e w' => PutRet base v w (l ++ Pt.put (.slot least) ⟨mk, mn, mr, mb, ms, mo, mv, vl, il, ⟨ca, cb, ck, cs, ct, cu, cz⟩, mc, mt⟩) e w' := by
  have hv0 : OwnIn w v.ownBlock.toList v := OwnIn.refl w v
  obtain ⟨f1, f2, f3, f4, f5, f6, f7, f8, f9, f10⟩ := hf
  obtain ⟨s1, s2, s3, s4, s5, s6, s7, s8, s9, s10, s11⟩ := hs
  have hf := f9
  dsimp only at f1 f2 f3 f4 f5 f6 f7 f8 f10 s1 s2 s3 s4 s5 s6 s7 s8 s9 s10 s11
  have hfc := f9.h1
  have hfs := f9.h2
  dsimp only at hfc hfs
  refine sx_enter (n := 9) _ Tryz.func138 rfl rfl rfl (Hp.row hown) ?_
  refine SxC.seq (SxC.region ?_)
  refine SxL.new (cs := [.int .u8 (mk : Int), .int .u64 (mn : Int), .int .u8 (mr : Int), .int .u64 (mb : Int), .int .u64 (ms : Int), .int .u8 (mo : Int), .string ⟨mv.toArray⟩, .slice A vl.length ka, .slice B il.length kb, .int .u8 (ca : Int), .int .u32 (cb : Int), .int .u8 (ck : Int), .string ⟨cs.toArray⟩, .string ⟨ct.toArray⟩, .string ⟨cu.toArray⟩, .int .u8 (cz : Int), .int .u8 (mc : Int), .string ⟨mt.toArray⟩]) trivial rfl rfl (fun ρ w E H => ex_box E rfl rfl rfl) fun g1 hg1 => ?_
  refine SxL.val trivial rfl rfl (fun ρ w E H => ex_assign E rfl rfl) ?_
  refine SxL.nil (SxN.then_ (SxC.seq (SxC.region ?_)))
  refine SxL.val trivial rfl rfl (fun ρ w E H => ex_move E rfl rfl) ?_
  refine SxL.val (v := .pointer (some ⟨g1, 4, none⟩)) trivial rfl rfl (fun ρ w E H => ex_field E rfl fa_palaver_api_Msg_3 rfl rfl) ?_
  refine SxL.val trivial rfl rfl (fun ρ w E H => ex_load1 E (H.get (i := 0) rfl) rfl rfl Tryz.underlying22 rfl rfl) ?_
  refine SxL.call (σ := Value) (fun s => s) (fun s => OwnIn w [] s) (fun s => _) trivial rfl rfl (fun ρ w E => ex_call E en_palaver_wire_Num rfl rfl) (callOwn (fun w H => num_own l ms (by omega) (by (try simp only [List.length_append, List.length_cons, List.length_nil]); omega) (H.get (i := 1) rfl) rfl rfl)) fun v8 hv8 => ?_
  refine SxL.val trivial rfl rfl (fun ρ w E H => ex_assign E rfl rfl) ?_
  refine SxL.nil (SxN.then_ (SxC.ret ?_))
  refine SxX.done (v8) (fun a w K H => res1 K rfl rfl) (fun w H => ?_)
  exact ⟨_, rfl, own_conv (own_base (H.get (i := 0) rfl) hbase) (by simp [Pt.put, voB, imB]), hv8.wid, H.toOuts _ ⟨(fun g hg => .inr (hv8.fresh g hg)), (fun g hg => by rw [List.mem_singleton.1 hg]; exact .inr hg1), (fun g hg => (hv0.in_ g hg).imp (fun h => by simp [h]) id), trivial⟩⟩

set_option maxRecDepth 100000 in
set_option maxHeartbeats 4000000 in
theorem put_value (base : Nat) (v : Value) (l : List UInt8) (mk mn mr mb ms mo ca cb ck cz mc : Nat) (mv cs ct cu mt : List UInt8) (vl : List Vo) (il : List Im) (A B : Option Addr) (ka kb : Nat) (w : World) (hf : Ms.Fits ⟨mk, mn, mr, mb, ms, mo, mv, vl, il, ⟨ca, cb, ck, cs, ct, cu, cz⟩, mc, mt⟩) (hs : Ms.Small ⟨mk, mn, mr, mb, ms, mo, mv, vl, il, ⟨ca, cb, ck, cs, ct, cu, cz⟩, mc, mt⟩) (hl : l.length ≤ 1000000) (hbase : base ≤ w.heap.size) (hown : w.ownsRow base 5 1 v l.length (bv l)) : Calls Tryz.prog 152 #[v, .agg #[.int .u8 (mk : Int), .int .u64 (mn : Int), .int .u8 (mr : Int), .int .u64 (mb : Int), .int .u64 (ms : Int), .int .u8 (mo : Int), .string ⟨mv.toArray⟩, .slice A vl.length ka, .slice B il.length kb, .int .u8 (ca : Int), .int .u32 (cb : Int), .int .u8 (ck : Int), .string ⟨cs.toArray⟩, .string ⟨ct.toArray⟩, .string ⟨cu.toArray⟩, .int .u8 (cz : Int), .int .u8 (mc : Int), .string ⟨mt.toArray⟩]] w fun e w' => PutRet base v w (l ++ Pt.put .value ⟨mk, mn, mr, mb, ms, mo, mv, vl, il, ⟨ca, cb, ck, cs, ct, cu, cz⟩, mc, mt⟩) e w' := by
  have hv0 : OwnIn w v.ownBlock.toList v := OwnIn.refl w v
  obtain ⟨f1, f2, f3, f4, f5, f6, f7, f8, f9, f10⟩ := hf
  obtain ⟨s1, s2, s3, s4, s5, s6, s7, s8, s9, s10, s11⟩ := hs
  have hf := f9
  dsimp only at f1 f2 f3 f4 f5 f6 f7 f8 f10 s1 s2 s3 s4 s5 s6 s7 s8 s9 s10 s11
  have hfc := f9.h1
  have hfs := f9.h2
  dsimp only at hfc hfs
  refine sx_enter (n := 9) _ Tryz.func152 rfl rfl rfl (Hp.row hown) ?_
  refine SxC.seq (SxC.region ?_)
  refine SxL.new (cs := [.int .u8 (mk : Int), .int .u64 (mn : Int), .int .u8 (mr : Int), .int .u64 (mb : Int), .int .u64 (ms : Int), .int .u8 (mo : Int), .string ⟨mv.toArray⟩, .slice A vl.length ka, .slice B il.length kb, .int .u8 (ca : Int), .int .u32 (cb : Int), .int .u8 (ck : Int), .string ⟨cs.toArray⟩, .string ⟨ct.toArray⟩, .string ⟨cu.toArray⟩, .int .u8 (cz : Int), .int .u8 (mc : Int), .string ⟨mt.toArray⟩]) trivial rfl rfl (fun ρ w E H => ex_box E rfl rfl rfl) fun g1 hg1 => ?_
  refine SxL.val trivial rfl rfl (fun ρ w E H => ex_assign E rfl rfl) ?_
  refine SxL.nil (SxN.then_ (SxC.seq (SxC.region ?_)))
  refine SxL.val trivial rfl rfl (fun ρ w E H => ex_move E rfl rfl) ?_
  refine SxL.val (v := .pointer (some ⟨g1, 6, none⟩)) trivial rfl rfl (fun ρ w E H => ex_field E rfl fa_palaver_api_Msg_5 rfl rfl) ?_
  refine SxL.val trivial rfl rfl (fun ρ w E H => ex_load1 E (H.get (i := 0) rfl) rfl rfl Tryz.underlying9 rfl rfl) ?_
  refine SxL.call (σ := Value) (fun s => s) (fun s => OwnIn w [] s) (fun s => _) trivial rfl rfl (fun ρ w E => ex_call E en_palaver_wire_Str rfl rfl) (callOwn (fun w H => str_own l mv (by (try simp only [List.length_append, List.length_cons, List.length_nil]); omega) (by omega) (H.get (i := 1) rfl) rfl rfl)) fun v8 hv8 => ?_
  refine SxL.val trivial rfl rfl (fun ρ w E H => ex_assign E rfl rfl) ?_
  refine SxL.nil (SxN.then_ (SxC.ret ?_))
  refine SxX.done (v8) (fun a w K H => res1 K rfl rfl) (fun w H => ?_)
  exact ⟨_, rfl, own_conv (own_base (H.get (i := 0) rfl) hbase) (by simp [Pt.put, voB, imB]), hv8.wid, H.toOuts _ ⟨(fun g hg => .inr (hv8.fresh g hg)), (fun g hg => by rw [List.mem_singleton.1 hg]; exact .inr hg1), (fun g hg => (hv0.in_ g hg).imp (fun h => by simp [h]) id), trivial⟩⟩

set_option maxRecDepth 100000 in
set_option maxHeartbeats 4000000 in
theorem put_votes (base : Nat) (v : Value) (l : List UInt8) (mk mn mr mb ms mo ca cb ck cz mc : Nat) (mv cs ct cu mt : List UInt8) (vl : List Vo) (il : List Im) (A B : Option Addr) (ka kb : Nat) (w : World) (hf : Ms.Fits ⟨mk, mn, mr, mb, ms, mo, mv, vl, il, ⟨ca, cb, ck, cs, ct, cu, cz⟩, mc, mt⟩) (hs : Ms.Small ⟨mk, mn, mr, mb, ms, mo, mv, vl, il, ⟨ca, cb, ck, cs, ct, cu, cz⟩, mc, mt⟩) (hl : l.length ≤ 1000000) (hbase : base ≤ w.heap.size) (hown : w.ownsRow base 5 1 v l.length (bv l)) (hv : Rows w A 4 voL vl) (hlo : vl ≠ [] → ∀ ad, A = some ad → ad.block < base) : Calls Tryz.prog 147 #[v, .agg #[.int .u8 (mk : Int), .int .u64 (mn : Int), .int .u8 (mr : Int), .int .u64 (mb : Int), .int .u64 (ms : Int), .int .u8 (mo : Int), .string ⟨mv.toArray⟩, .slice A vl.length ka, .slice B il.length kb, .int .u8 (ca : Int), .int .u32 (cb : Int), .int .u8 (ck : Int), .string ⟨cs.toArray⟩, .string ⟨ct.toArray⟩, .string ⟨cu.toArray⟩, .int .u8 (cz : Int), .int .u8 (mc : Int), .string ⟨mt.toArray⟩]] w fun e w' => PutRet base v w (l ++ Pt.put .votes ⟨mk, mn, mr, mb, ms, mo, mv, vl, il, ⟨ca, cb, ck, cs, ct, cu, cz⟩, mc, mt⟩) e w' := by
  have hv0 : OwnIn w v.ownBlock.toList v := OwnIn.refl w v
  obtain ⟨f1, f2, f3, f4, f5, f6, f7, f8, f9, f10⟩ := hf
  obtain ⟨s1, s2, s3, s4, s5, s6, s7, s8, s9, s10, s11⟩ := hs
  have hf := f9
  dsimp only at f1 f2 f3 f4 f5 f6 f7 f8 f10 s1 s2 s3 s4 s5 s6 s7 s8 s9 s10 s11
  have hfc := f9.h1
  have hfs := f9.h2
  dsimp only at hfc hfs
  have hdhv : vl ≠ [] → ∀ ad, A = some ad → ad.block ∉ v.ownBlock.toList := fun hn ad h hm => by have h1 := (own_lt hown _ hm).1; have h2 := hlo hn ad h; omega
  refine sx_enter (n := 32) _ Tryz.func147 rfl rfl rfl (Hp.row hown) ?_
  refine SxC.seq (SxC.region ?_)
  refine SxL.new (cs := [.int .u8 (mk : Int), .int .u64 (mn : Int), .int .u8 (mr : Int), .int .u64 (mb : Int), .int .u64 (ms : Int), .int .u8 (mo : Int), .string ⟨mv.toArray⟩, .slice A vl.length ka, .slice B il.length kb, .int .u8 (ca : Int), .int .u32 (cb : Int), .int .u8 (ck : Int), .string ⟨cs.toArray⟩, .string ⟨ct.toArray⟩, .string ⟨cu.toArray⟩, .int .u8 (cz : Int), .int .u8 (mc : Int), .string ⟨mt.toArray⟩]) trivial rfl rfl (fun ρ w E H => ex_box E rfl rfl rfl) fun g1 hg1 => ?_
  refine SxL.val trivial rfl rfl (fun ρ w E H => ex_assign E rfl rfl) ?_
  refine SxL.nil (SxN.then_ (SxC.seq (SxC.region ?_)))
  refine SxL.val trivial rfl rfl (fun ρ w E H => ex_move E rfl rfl) ?_
  refine SxL.val (v := .pointer (some ⟨g1, 7, none⟩)) trivial rfl rfl (fun ρ w E H => ex_field E rfl fa_palaver_api_Msg_6 rfl rfl) ?_
  refine SxL.val trivial rfl rfl (fun ρ w E H => ex_load1 E (H.get (i := 0) rfl) rfl rfl Tryz.underlying25 rfl rfl) ?_
  refine SxL.val (v := .int .i64 (vl.length : Int)) trivial rfl rfl (fun ρ w E H => ex_lenS E rfl Tryz.underlying25 rfl) ?_
  refine SxL.val (v := .int .u64 (vl.length : Int)) trivial rfl rfl (fun ρ w E H => ex_convInt E rfl Tryz.underlying3 Tryz.underlying22 rfl (by rw [IntKind.wrap_u64]; omega)) ?_
  refine SxL.call (σ := Value) (fun s => s) (fun s => OwnIn w [] s) (fun s => _) trivial rfl rfl (fun ρ w E => ex_call E en_palaver_wire_Num rfl rfl) (callOwn (fun w H => num_own l vl.length (by omega) (by (try simp only [List.length_append, List.length_cons, List.length_nil]); omega) (H.get (i := 1) rfl) rfl rfl)) fun v12 hv12 => ?_
  refine SxL.val trivial rfl rfl (fun ρ w E H => ex_assign E rfl rfl) ?_
  refine SxL.nil (SxN.then_ (SxC.seq (SxC.seq (SxC.region ?_))))
  refine SxL.val (v := .pointer (some ⟨g1, 7, none⟩)) trivial rfl rfl (fun ρ w E H => ex_field E rfl fa_palaver_api_Msg_6 rfl rfl) ?_
  refine SxL.val trivial rfl rfl (fun ρ w E H => ex_load1 E (H.get (i := 1) rfl) rfl rfl Tryz.underlying25 rfl rfl) ?_
  refine SxL.val (v := .int .i64 (vl.length : Int)) trivial rfl rfl (fun ρ w E H => ex_lenS E rfl Tryz.underlying25 rfl) ?_
  refine SxL.val trivial rfl rfl (fun ρ w E H => ex_move E rfl rfl) ?_
  refine SxL.nil (SxN.then_ (SxC.block ?_))
  refine SxC.hp (fun W H => H.re (i := 0) rfl (rowX [] w.heap.size 5 1 v12 ((l ++ putV vl 0).length) (bv (l ++ putV vl 0))) (rowX_loc _ _ _ _ _ _ _) rfl (fun h => own_conv (l := (l ++ numB vl.length)) (l' := (l ++ putV vl 0)) h (by simp [putV]))) ?_
  refine SxC.loop2 (fun (k : Nat) (v1 : Value) => [(0, v1), (3, .pointer (some ⟨g1, 0, none⟩)), (14, .slice A vl.length ka), (15, .int .i64 (vl.length : Int)), (16, .int .i64 (k : Int))]) (fun (k : Nat) (v1 : Value) => [rowX [] w.heap.size 5 1 v1 ((l ++ putV vl k).length) (bv (l ++ putV vl k)), cell g1 33 [.int .u8 (mk : Int), .int .u64 (mn : Int), .int .u8 (mr : Int), .int .u64 (mb : Int), .int .u64 (ms : Int), .int .u8 (mo : Int), .string ⟨mv.toArray⟩, .slice A vl.length ka, .slice B il.length kb, .int .u8 (ca : Int), .int .u32 (cb : Int), .int .u8 (ck : Int), .string ⟨cs.toArray⟩, .string ⟨ct.toArray⟩, .string ⟨cu.toArray⟩, .int .u8 (cz : Int), .int .u8 (mc : Int), .string ⟨mt.toArray⟩], rowX v.ownBlock.toList base 5 1 v l.length (bv l)]) (fun (gk : Nat) (k : Nat) (v1 : Value) => k + gk = vl.length ∧ OwnIn w [] v1) vl.length 0 v12 ⟨by omega, hv12⟩ ⟨rfl, rfl, rfl, rfl, rfl, trivial⟩ [0, 1, 2] rfl (by decide) ⟨.inl rfl, .inl rfl, .inl rfl, trivial⟩ fun gk k v1 hF => ?_
  obtain ⟨hkg, hv1⟩ := hF
  refine SxC.seq (SxC.region ?_)
  refine SxL.valB trivial rfl rfl (fun ρ w E H => ex_cmp E rfl rfl rfl rfl rfl) fun c17 hc17 => ?_
  refine SxL.nil (SxN.then_ (SxC.seq ?_))
  cases c17
  · refine SxC.condF rfl (SxC.exit (SxX.thenE (SxX.thenE (SxX.blockE (SxN.then_ (SxC.seq (SxC.region ?_)))))))
    refine SxL.val trivial rfl rfl (fun ρ w E H => ex_move E rfl rfl) ?_
    refine SxL.val trivial rfl rfl (fun ρ w E H => ex_assign E rfl rfl) ?_
    refine SxL.nil (SxN.then_ (SxC.ret ?_))
    refine SxX.done (v1) (fun a w K H => res1 K rfl rfl) (fun w H => ?_)
    exact ⟨_, rfl, own_conv (own_base (H.get (i := 0) rfl) hbase) (by rw [putV_end (by simpa [cmpB] using hc17)]; rfl), hv1.wid, H.toOuts _ ⟨(fun g hg => .inr (hv1.fresh g hg)), (fun g hg => by rw [List.mem_singleton.1 hg]; exact .inr hg1), (fun g hg => (hv0.in_ g hg).imp (fun h => by simp [h]) id), trivial⟩⟩
  · refine SxC.condT rfl (SxC.skip (SxN.then_ (SxC.seq (SxC.block (SxC.seq ?_)))))
    have hkl : k < vl.length := by simpa [cmpB] using hc17
    obtain ⟨⟨xs, xn, xr, xv⟩, hx⟩ : ∃ x, vl[k]? = some x := ⟨_, List.getElem?_eq_getElem hkl⟩
    obtain ⟨ad, rfl, -, -⟩ := hv.row hx
    have hxm := List.mem_of_getElem? hx
    have hxf := f7 _ hxm
    have hxs := s4 _ hxm
    have q1 := hxf.h1
    have q2 := hxf.h2
    have q3 := hxf.h3
    dsimp only at hxs q1 q2 q3
    have hb1 := putV_len vl k s2 s10
    have hb2 := (numB_length xs q1).1
    have hb3 := bal_len xn xr q2
    refine SxC.region ?_
    refine SxL.val (v := .pointer (some (ad.add (k * 4)))) trivial rfl rfl (fun ρ w E H => ex_index (i := k) E rfl Tryz.underlying25 sz_palaver_api_Vote rfl rfl hkl) ?_
    refine SxL.val (v := .agg #[.int .u64 (xs : Int), .int .u64 (xn : Int), .int .u8 (xr : Int), .string ⟨xv.toArray⟩]) trivial rfl rfl (fun ρ w E H => ex_loadX (cs := [.int .u64 (xs : Int), .int .u64 (xn : Int), .int .u8 (xr : Int), .string ⟨xv.toArray⟩]) E ((hv.outs (H.toOuts _ ⟨(fun g hg => .inr (hv1.fresh g hg)), (fun g hg => by rw [List.mem_singleton.1 hg]; exact .inr hg1), (fun g hg => (hv0.in_ g hg).imp (fun h => by simp [h]) id), trivial⟩) hdhv).rowA hx) rfl rfl Tryz.underlying92 rfl sz_palaver_api_Vote) ?_
    refine SxL.new (cs := [.int .u64 0, .int .u64 0, .int .u8 0, .string ⟨[].toArray⟩]) trivial rfl rfl (fun ρ w E H => ex_alloc rfl zr_palaver_api_Vote rfl) fun g2 hg2 => ?_
    refine SxL.store (i := 0) trivial rfl rfl rfl rfl rfl sz_palaver_api_Vote rfl rfl rfl ?_
    refine SxL.nil (SxN.then_ ?_)
    refine SxC.drawnK (v.ownBlock.toList ++ []) [0, 1, 2, 3] (by kernel_rfl) rfl ⟨(fun g hg => by rw [List.mem_singleton.1 hg]; exact .inr hg2), (fun g hg => .inr (hv1.fresh g hg)), (fun g hg => by rw [List.mem_singleton.1 hg]; exact .inr hg1), (fun g hg => (hv0.in_ g hg).imp (fun h => by simp only [List.mem_append]; simp [h]) id), trivial⟩ ?_
    refine SxA.take (i := 0) rfl (by kernel_rfl) (by kernel_rfl) (by kernel_rfl) rfl rfl (fun _ _ _ h => h) trivial (fun ρ w E H => ex_move E rfl rfl) ?_
    refine SxA.take (i := 1) (v := .pointer (some ⟨g2, 0, none⟩)) rfl (by kernel_rfl) (by kernel_rfl) (by kernel_rfl) rfl rfl (fun _ _ _ h => h) trivial (fun ρ w E H => ex_field E rfl fa_palaver_api_Vote_0 rfl rfl) ?_
    refine SxA.take (i := 2) rfl (by kernel_rfl) (by kernel_rfl) (by kernel_rfl) rfl rfl (fun _ _ _ h => h) trivial (fun ρ w E H => ex_load1 E (H.get (i := 0) rfl) rfl rfl Tryz.underlying22 rfl rfl) ?_
    refine SxA.take (i := 4) (v := .pointer (some ⟨g2, 1, none⟩)) rfl (by kernel_rfl) (by kernel_rfl) (by kernel_rfl) rfl rfl (fun _ _ _ h => h) trivial (fun ρ w E H => ex_field E rfl fa_palaver_api_Vote_1 rfl rfl) ?_
    refine SxA.take (i := 5) rfl (by kernel_rfl) (by kernel_rfl) (by kernel_rfl) rfl rfl (fun _ _ _ h => h) trivial (fun ρ w E H => ex_load (part := [.int .u64 (xn : Int), .int .u8 (xr : Int)]) E (H.get (i := 0) rfl) rfl rfl Tryz.underlying24 rfl sz_palaver_api_Ballot rfl rfl) ?_
    refine SxA.take (i := 7) (v := .pointer (some ⟨g2, 3, none⟩)) rfl (by kernel_rfl) (by kernel_rfl) (by kernel_rfl) rfl rfl (fun _ _ _ h => h) trivial (fun ρ w E H => ex_field E rfl fa_palaver_api_Vote_2 rfl rfl) ?_
    refine SxA.take (i := 8) rfl (by kernel_rfl) (by kernel_rfl) (by kernel_rfl) rfl rfl (fun _ _ _ h => h) trivial (fun ρ w E H => ex_load1 E (H.get (i := 0) rfl) rfl rfl Tryz.underlying9 rfl rfl) ?_
    refine SxA.ready [3] (by kernel_rfl) (by simp) ⟨?_, trivial⟩
    refine SxO.call (σ := Value) (fun s => s) (fun s => OwnIn w [] s) (fun s => _) rfl trivial rfl rfl (fun ρ w E => ex_call E en_palaver_wire_Num rfl rfl) (callOwn (fun w H => num_own (l ++ putV vl k) xs (by omega) (by (try simp only [List.length_append, List.length_cons, List.length_nil]); omega) (H.get (i := 1) rfl) rfl rfl)) (fun v23 w hv23 H => H.ks (v.ownBlock.toList ++ []) [1, 2, 3, 4] rfl ⟨(fun g hg => .inr (hv23.fresh g hg)), (fun g hg => by rw [List.mem_singleton.1 hg]; exact .inr hg2), (fun g hg => .inr (hv1.fresh g hg)), (fun g hg => by rw [List.mem_singleton.1 hg]; exact .inr hg1), (fun g hg => (hv0.in_ g hg).imp (fun h => by simp only [List.mem_append]; simp [h]) id), trivial⟩) fun v23 hv23 => ?_
    refine SxA.ready [6] (by kernel_rfl) (by simp) ⟨?_, trivial⟩
    refine SxO.call (σ := Value) (fun s => s) (fun s => OwnIn w [] s) (fun s => _) rfl trivial rfl rfl (fun ρ w E => ex_call E en_palaver_ballot_Put rfl rfl) (callOwn (fun w H => bal_own ((l ++ putV vl k) ++ numB xs) xn xr (by omega) (by omega) (by (try simp only [List.length_append, List.length_cons, List.length_nil]); omega) (H.get (i := 0) rfl) rfl rfl)) (fun v26 w hv26 H => H.ks (v.ownBlock.toList ++ []) [2, 3, 4, 5] rfl ⟨(fun g hg => .inr (hv26.fresh g hg)), (fun g hg => .inr (hv23.fresh g hg)), (fun g hg => by rw [List.mem_singleton.1 hg]; exact .inr hg2), (fun g hg => .inr (hv1.fresh g hg)), (fun g hg => by rw [List.mem_singleton.1 hg]; exact .inr hg1), (fun g hg => (hv0.in_ g hg).imp (fun h => by simp only [List.mem_append]; simp [h]) id), trivial⟩) fun v26 hv26 => ?_
    refine SxA.ready [9] (by kernel_rfl) (by simp) ⟨?_, trivial⟩
    refine SxO.call (σ := Value) (fun s => s) (fun s => OwnIn w [] s) (fun s => _) rfl trivial rfl rfl (fun ρ w E => ex_call E en_palaver_wire_Str rfl rfl) (callOwn (fun w H => str_own (((l ++ putV vl k) ++ numB xs) ++ Bal.balB ⟨xn, xr⟩) xv (by (try simp only [List.length_append, List.length_cons, List.length_nil]); omega) (by omega) (H.get (i := 0) rfl) rfl rfl)) (fun v29 w hv29 H => H.ks (v.ownBlock.toList ++ []) [3, 4, 5, 6] rfl ⟨(fun g hg => .inr (hv29.fresh g hg)), (fun g hg => .inr (hv26.fresh g hg)), (fun g hg => .inr (hv23.fresh g hg)), (fun g hg => by rw [List.mem_singleton.1 hg]; exact .inr hg2), (fun g hg => .inr (hv1.fresh g hg)), (fun g hg => by rw [List.mem_singleton.1 hg]; exact .inr hg1), (fun g hg => (hv0.in_ g hg).imp (fun h => by simp only [List.mem_append]; simp [h]) id), trivial⟩) fun v29 hv29 => ?_
    refine SxA.take (i := 10) rfl (by kernel_rfl) (by kernel_rfl) (by kernel_rfl) rfl rfl (fun _ _ _ h => h) trivial (fun ρ w E H => ex_assign E rfl rfl) ?_
    refine SxA.done (by kernel_rfl) ?_
    refine SxN.block (SxN.then_ (SxC.region ?_))
    refine SxL.val (v := .int .i64 ((k + 1 : Nat) : Int)) trivial rfl rfl (fun ρ w E H => ex_add E rfl rfl rfl (by rw [IntKind.wrap_i64]; omega)) ?_
    refine SxL.val trivial rfl rfl (fun ρ w E H => ex_move E rfl rfl) ?_
    refine SxL.nil ?_
    refine SxN.hp (fun W H => H.re (i := 0) rfl (rowX [] w.heap.size 5 1 v29 ((l ++ putV vl (k + 1)).length) (bv (l ++ putV vl (k + 1)))) (rowX_loc _ _ _ _ _ _ _) rfl (fun h => own_conv (l := ((((l ++ putV vl k) ++ numB xs) ++ Bal.balB ⟨xn, xr⟩) ++ strB xv)) (l' := (l ++ putV vl (k + 1))) h (by rw [putV_succ hx]; simp [voB, imB]))) ?_
    refine SxN.back (gk - 1) (k + 1, v29) (by omega) ⟨by omega, hv29⟩ ⟨rfl, rfl, rfl, rfl, rfl, trivial⟩ [0, 5, 6] rfl (by decide) ⟨.inl rfl, .inr (hv26.fresh), .inr (hv23.fresh), .inr (fun g hg => by rw [List.mem_singleton.1 hg]; exact hg2), .inr (hv1.fresh), .inl rfl, .inl rfl, trivial⟩

set_option maxRecDepth 100000 in
set_option maxHeartbeats 4000000 in
theorem put_items (base : Nat) (v : Value) (l : List UInt8) (mk mn mr mb ms mo ca cb ck cz mc : Nat) (mv cs ct cu mt : List UInt8) (vl : List Vo) (il : List Im) (A B : Option Addr) (ka kb : Nat) (w : World) (hf : Ms.Fits ⟨mk, mn, mr, mb, ms, mo, mv, vl, il, ⟨ca, cb, ck, cs, ct, cu, cz⟩, mc, mt⟩) (hs : Ms.Small ⟨mk, mn, mr, mb, ms, mo, mv, vl, il, ⟨ca, cb, ck, cs, ct, cu, cz⟩, mc, mt⟩) (hl : l.length ≤ 1000000) (hbase : base ≤ w.heap.size) (hown : w.ownsRow base 5 1 v l.length (bv l)) (hi : Rows w B 2 imL il) (hlo : il ≠ [] → ∀ ad, B = some ad → ad.block < base) : Calls Tryz.prog 156 #[v, .agg #[.int .u8 (mk : Int), .int .u64 (mn : Int), .int .u8 (mr : Int), .int .u64 (mb : Int), .int .u64 (ms : Int), .int .u8 (mo : Int), .string ⟨mv.toArray⟩, .slice A vl.length ka, .slice B il.length kb, .int .u8 (ca : Int), .int .u32 (cb : Int), .int .u8 (ck : Int), .string ⟨cs.toArray⟩, .string ⟨ct.toArray⟩, .string ⟨cu.toArray⟩, .int .u8 (cz : Int), .int .u8 (mc : Int), .string ⟨mt.toArray⟩]] w fun e w' => PutRet base v w (l ++ Pt.put .items ⟨mk, mn, mr, mb, ms, mo, mv, vl, il, ⟨ca, cb, ck, cs, ct, cu, cz⟩, mc, mt⟩) e w' := by
  have hv0 : OwnIn w v.ownBlock.toList v := OwnIn.refl w v
  obtain ⟨f1, f2, f3, f4, f5, f6, f7, f8, f9, f10⟩ := hf
  obtain ⟨s1, s2, s3, s4, s5, s6, s7, s8, s9, s10, s11⟩ := hs
  have hf := f9
  dsimp only at f1 f2 f3 f4 f5 f6 f7 f8 f10 s1 s2 s3 s4 s5 s6 s7 s8 s9 s10 s11
  have hfc := f9.h1
  have hfs := f9.h2
  dsimp only at hfc hfs
  have hdhi : il ≠ [] → ∀ ad, B = some ad → ad.block ∉ v.ownBlock.toList := fun hn ad h hm => by have h1 := (own_lt hown _ hm).1; have h2 := hlo hn ad h; omega
  refine sx_enter (n := 29) _ Tryz.func156 rfl rfl rfl (Hp.row hown) ?_
  refine SxC.seq (SxC.region ?_)
  refine SxL.new (cs := [.int .u8 (mk : Int), .int .u64 (mn : Int), .int .u8 (mr : Int), .int .u64 (mb : Int), .int .u64 (ms : Int), .int .u8 (mo : Int), .string ⟨mv.toArray⟩, .slice A vl.length ka, .slice B il.length kb, .int .u8 (ca : Int), .int .u32 (cb : Int), .int .u8 (ck : Int), .string ⟨cs.toArray⟩, .string ⟨ct.toArray⟩, .string ⟨cu.toArray⟩, .int .u8 (cz : Int), .int .u8 (mc : Int), .string ⟨mt.toArray⟩]) trivial rfl rfl (fun ρ w E H => ex_box E rfl rfl rfl) fun g1 hg1 => ?_
  refine SxL.val trivial rfl rfl (fun ρ w E H => ex_assign E rfl rfl) ?_
  refine SxL.nil (SxN.then_ (SxC.seq (SxC.region ?_)))
  refine SxL.val trivial rfl rfl (fun ρ w E H => ex_move E rfl rfl) ?_
  refine SxL.val (v := .pointer (some ⟨g1, 8, none⟩)) trivial rfl rfl (fun ρ w E H => ex_field E rfl fa_palaver_api_Msg_7 rfl rfl) ?_
  refine SxL.val trivial rfl rfl (fun ρ w E H => ex_load1 E (H.get (i := 0) rfl) rfl rfl Tryz.underlying26 rfl rfl) ?_
  refine SxL.val (v := .int .i64 (il.length : Int)) trivial rfl rfl (fun ρ w E H => ex_lenS E rfl Tryz.underlying26 rfl) ?_
  refine SxL.val (v := .int .u64 (il.length : Int)) trivial rfl rfl (fun ρ w E H => ex_convInt E rfl Tryz.underlying3 Tryz.underlying22 rfl (by rw [IntKind.wrap_u64]; omega)) ?_
  refine SxL.call (σ := Value) (fun s => s) (fun s => OwnIn w [] s) (fun s => _) trivial rfl rfl (fun ρ w E => ex_call E en_palaver_wire_Num rfl rfl) (callOwn (fun w H => num_own l il.length (by omega) (by (try simp only [List.length_append, List.length_cons, List.length_nil]); omega) (H.get (i := 1) rfl) rfl rfl)) fun v12 hv12 => ?_
  refine SxL.val trivial rfl rfl (fun ρ w E H => ex_assign E rfl rfl) ?_
  refine SxL.nil (SxN.then_ (SxC.seq (SxC.seq (SxC.region ?_))))
  refine SxL.val (v := .pointer (some ⟨g1, 8, none⟩)) trivial rfl rfl (fun ρ w E H => ex_field E rfl fa_palaver_api_Msg_7 rfl rfl) ?_
  refine SxL.val trivial rfl rfl (fun ρ w E H => ex_load1 E (H.get (i := 1) rfl) rfl rfl Tryz.underlying26 rfl rfl) ?_
  refine SxL.val (v := .int .i64 (il.length : Int)) trivial rfl rfl (fun ρ w E H => ex_lenS E rfl Tryz.underlying26 rfl) ?_
  refine SxL.val trivial rfl rfl (fun ρ w E H => ex_move E rfl rfl) ?_
  refine SxL.nil (SxN.then_ (SxC.block ?_))
  refine SxC.hp (fun W H => H.re (i := 0) rfl (rowX [] w.heap.size 5 1 v12 ((l ++ putI il 0).length) (bv (l ++ putI il 0))) (rowX_loc _ _ _ _ _ _ _) rfl (fun h => own_conv (l := (l ++ numB il.length)) (l' := (l ++ putI il 0)) h (by simp [putI]))) ?_
  refine SxC.loop2 (fun (k : Nat) (v1 : Value) => [(0, v1), (3, .pointer (some ⟨g1, 0, none⟩)), (14, .slice B il.length kb), (15, .int .i64 (il.length : Int)), (16, .int .i64 (k : Int))]) (fun (k : Nat) (v1 : Value) => [rowX [] w.heap.size 5 1 v1 ((l ++ putI il k).length) (bv (l ++ putI il k)), cell g1 33 [.int .u8 (mk : Int), .int .u64 (mn : Int), .int .u8 (mr : Int), .int .u64 (mb : Int), .int .u64 (ms : Int), .int .u8 (mo : Int), .string ⟨mv.toArray⟩, .slice A vl.length ka, .slice B il.length kb, .int .u8 (ca : Int), .int .u32 (cb : Int), .int .u8 (ck : Int), .string ⟨cs.toArray⟩, .string ⟨ct.toArray⟩, .string ⟨cu.toArray⟩, .int .u8 (cz : Int), .int .u8 (mc : Int), .string ⟨mt.toArray⟩], rowX v.ownBlock.toList base 5 1 v l.length (bv l)]) (fun (gk : Nat) (k : Nat) (v1 : Value) => k + gk = il.length ∧ OwnIn w [] v1) il.length 0 v12 ⟨by omega, hv12⟩ ⟨rfl, rfl, rfl, rfl, rfl, trivial⟩ [0, 1, 2] rfl (by decide) ⟨.inl rfl, .inl rfl, .inl rfl, trivial⟩ fun gk k v1 hF => ?_
  obtain ⟨hkg, hv1⟩ := hF
  refine SxC.seq (SxC.region ?_)
  refine SxL.valB trivial rfl rfl (fun ρ w E H => ex_cmp E rfl rfl rfl rfl rfl) fun c17 hc17 => ?_
  refine SxL.nil (SxN.then_ (SxC.seq ?_))
  cases c17
  · refine SxC.condF rfl (SxC.exit (SxX.thenE (SxX.thenE (SxX.blockE (SxN.then_ (SxC.seq (SxC.region ?_)))))))
    refine SxL.val trivial rfl rfl (fun ρ w E H => ex_move E rfl rfl) ?_
    refine SxL.val trivial rfl rfl (fun ρ w E H => ex_assign E rfl rfl) ?_
    refine SxL.nil (SxN.then_ (SxC.ret ?_))
    refine SxX.done (v1) (fun a w K H => res1 K rfl rfl) (fun w H => ?_)
    exact ⟨_, rfl, own_conv (own_base (H.get (i := 0) rfl) hbase) (by rw [putI_end (by simpa [cmpB] using hc17)]; rfl), hv1.wid, H.toOuts _ ⟨(fun g hg => .inr (hv1.fresh g hg)), (fun g hg => by rw [List.mem_singleton.1 hg]; exact .inr hg1), (fun g hg => (hv0.in_ g hg).imp (fun h => by simp [h]) id), trivial⟩⟩
  · refine SxC.condT rfl (SxC.skip (SxN.then_ (SxC.seq (SxC.block (SxC.seq ?_)))))
    have hkl : k < il.length := by simpa [cmpB] using hc17
    obtain ⟨⟨xs, xv⟩, hx⟩ : ∃ x, il[k]? = some x := ⟨_, List.getElem?_eq_getElem hkl⟩
    obtain ⟨ad, rfl, -, -⟩ := hi.row hx
    have hxm := List.mem_of_getElem? hx
    have q1 := f8 _ hxm
    have hxs := s5 _ hxm
    dsimp only at hxs q1
    have hb1 := putI_len il k s3 s11
    have hb2 := (numB_length xs q1).1
    refine SxC.region ?_
    refine SxL.val (v := .pointer (some (ad.add (k * 2)))) trivial rfl rfl (fun ρ w E H => ex_index (i := k) E rfl Tryz.underlying26 sz_palaver_api_Item rfl rfl hkl) ?_
    refine SxL.val (v := .agg #[.int .u64 (xs : Int), .string ⟨xv.toArray⟩]) trivial rfl rfl (fun ρ w E H => ex_loadX (cs := [.int .u64 (xs : Int), .string ⟨xv.toArray⟩]) E ((hi.outs (H.toOuts _ ⟨(fun g hg => .inr (hv1.fresh g hg)), (fun g hg => by rw [List.mem_singleton.1 hg]; exact .inr hg1), (fun g hg => (hv0.in_ g hg).imp (fun h => by simp [h]) id), trivial⟩) hdhi).rowA hx) rfl rfl Tryz.underlying94 rfl sz_palaver_api_Item) ?_
    refine SxL.new (cs := [.int .u64 0, .string ⟨[].toArray⟩]) trivial rfl rfl (fun ρ w E H => ex_alloc rfl zr_palaver_api_Item rfl) fun g2 hg2 => ?_
    refine SxL.store (i := 0) trivial rfl rfl rfl rfl rfl sz_palaver_api_Item rfl rfl rfl ?_
    refine SxL.nil (SxN.then_ ?_)
    refine SxC.drawnK (v.ownBlock.toList ++ []) [0, 1, 2, 3] (by kernel_rfl) rfl ⟨(fun g hg => by rw [List.mem_singleton.1 hg]; exact .inr hg2), (fun g hg => .inr (hv1.fresh g hg)), (fun g hg => by rw [List.mem_singleton.1 hg]; exact .inr hg1), (fun g hg => (hv0.in_ g hg).imp (fun h => by simp only [List.mem_append]; simp [h]) id), trivial⟩ ?_
    refine SxA.take (i := 0) rfl (by kernel_rfl) (by kernel_rfl) (by kernel_rfl) rfl rfl (fun _ _ _ h => h) trivial (fun ρ w E H => ex_move E rfl rfl) ?_
    refine SxA.take (i := 1) (v := .pointer (some ⟨g2, 0, none⟩)) rfl (by kernel_rfl) (by kernel_rfl) (by kernel_rfl) rfl rfl (fun _ _ _ h => h) trivial (fun ρ w E H => ex_field E rfl fa_palaver_api_Item_0 rfl rfl) ?_
    refine SxA.take (i := 2) rfl (by kernel_rfl) (by kernel_rfl) (by kernel_rfl) rfl rfl (fun _ _ _ h => h) trivial (fun ρ w E H => ex_load1 E (H.get (i := 0) rfl) rfl rfl Tryz.underlying22 rfl rfl) ?_
    refine SxA.take (i := 4) (v := .pointer (some ⟨g2, 1, none⟩)) rfl (by kernel_rfl) (by kernel_rfl) (by kernel_rfl) rfl rfl (fun _ _ _ h => h) trivial (fun ρ w E H => ex_field E rfl fa_palaver_api_Item_1 rfl rfl) ?_
    refine SxA.take (i := 5) rfl (by kernel_rfl) (by kernel_rfl) (by kernel_rfl) rfl rfl (fun _ _ _ h => h) trivial (fun ρ w E H => ex_load1 E (H.get (i := 0) rfl) rfl rfl Tryz.underlying9 rfl rfl) ?_
    refine SxA.ready [3] (by kernel_rfl) (by simp) ⟨?_, trivial⟩
    refine SxO.call (σ := Value) (fun s => s) (fun s => OwnIn w [] s) (fun s => _) rfl trivial rfl rfl (fun ρ w E => ex_call E en_palaver_wire_Num rfl rfl) (callOwn (fun w H => num_own (l ++ putI il k) xs (by omega) (by (try simp only [List.length_append, List.length_cons, List.length_nil]); omega) (H.get (i := 1) rfl) rfl rfl)) (fun v23 w hv23 H => H.ks (v.ownBlock.toList ++ []) [1, 2, 3, 4] rfl ⟨(fun g hg => .inr (hv23.fresh g hg)), (fun g hg => by rw [List.mem_singleton.1 hg]; exact .inr hg2), (fun g hg => .inr (hv1.fresh g hg)), (fun g hg => by rw [List.mem_singleton.1 hg]; exact .inr hg1), (fun g hg => (hv0.in_ g hg).imp (fun h => by simp only [List.mem_append]; simp [h]) id), trivial⟩) fun v23 hv23 => ?_
    refine SxA.ready [6] (by kernel_rfl) (by simp) ⟨?_, trivial⟩
    refine SxO.call (σ := Value) (fun s => s) (fun s => OwnIn w [] s) (fun s => _) rfl trivial rfl rfl (fun ρ w E => ex_call E en_palaver_wire_Str rfl rfl) (callOwn (fun w H => str_own ((l ++ putI il k) ++ numB xs) xv (by (try simp only [List.length_append, List.length_cons, List.length_nil]); omega) (by omega) (H.get (i := 0) rfl) rfl rfl)) (fun v26 w hv26 H => H.ks (v.ownBlock.toList ++ []) [2, 3, 4, 5] rfl ⟨(fun g hg => .inr (hv26.fresh g hg)), (fun g hg => .inr (hv23.fresh g hg)), (fun g hg => by rw [List.mem_singleton.1 hg]; exact .inr hg2), (fun g hg => .inr (hv1.fresh g hg)), (fun g hg => by rw [List.mem_singleton.1 hg]; exact .inr hg1), (fun g hg => (hv0.in_ g hg).imp (fun h => by simp only [List.mem_append]; simp [h]) id), trivial⟩) fun v26 hv26 => ?_
    refine SxA.take (i := 7) rfl (by kernel_rfl) (by kernel_rfl) (by kernel_rfl) rfl rfl (fun _ _ _ h => h) trivial (fun ρ w E H => ex_assign E rfl rfl) ?_
    refine SxA.done (by kernel_rfl) ?_
    refine SxN.block (SxN.then_ (SxC.region ?_))
    refine SxL.val (v := .int .i64 ((k + 1 : Nat) : Int)) trivial rfl rfl (fun ρ w E H => ex_add E rfl rfl rfl (by rw [IntKind.wrap_i64]; omega)) ?_
    refine SxL.val trivial rfl rfl (fun ρ w E H => ex_move E rfl rfl) ?_
    refine SxL.nil ?_
    refine SxN.hp (fun W H => H.re (i := 0) rfl (rowX [] w.heap.size 5 1 v26 ((l ++ putI il (k + 1)).length) (bv (l ++ putI il (k + 1)))) (rowX_loc _ _ _ _ _ _ _) rfl (fun h => own_conv (l := (((l ++ putI il k) ++ numB xs) ++ strB xv)) (l' := (l ++ putI il (k + 1))) h (by rw [putI_succ hx]; simp [voB, imB]))) ?_
    refine SxN.back (gk - 1) (k + 1, v26) (by omega) ⟨by omega, hv26⟩ ⟨rfl, rfl, rfl, rfl, rfl, trivial⟩ [0, 4, 5] rfl (by decide) ⟨.inl rfl, .inr (hv23.fresh), .inr (fun g hg => by rw [List.mem_singleton.1 hg]; exact hg2), .inr (hv1.fresh), .inl rfl, .inl rfl, trivial⟩
end Go.Proofs.YteiaiilfekojfaaGreat.Msg
end
section
namespace Go.Proofs.YteiaiilfekojfaaGreat.Msg
open Go.RowKit Wire Sx DrawInv

theorem rest_byte (r : Rd) : r.byte.2.rest.length ≤ r.rest.length := byte_rest (c := r.byte.1) rfl
theorem rest_num (r : Rd) : r.num.2.rest.length ≤ r.rest.length := num_rest (c := r.num.1) rfl
theorem rest_below (r : Rd) (n : Nat) : (r.below n).2.rest.length ≤ r.rest.length := below_rest (c := (r.below n).1) rfl
theorem rest_str (r : Rd) (m : Int) : (r.str m).2.rest.length ≤ r.rest.length := Cmd.str_rest (s := (r.str m).1) rfl
theorem rest_bad (r : Rd) : r.bad.rest.length ≤ r.rest.length := by unfold Rd.bad; rw [fail_rest]; exact Nat.le_refl _
theorem rest_takeB (r : Rd) : (Bal.takeB r).2.rest.length ≤ r.rest.length := by
  unfold Bal.takeB
  dsimp only
  have h1 := rest_num r
  have h2 := rest_byte r.num.2
  have h3 := rest_bad r.num.2.byte.2
  split <;> omega
theorem rest_takeC (r : Rd) : (Cmd.takeC r).2.rest.length ≤ r.rest.length := Cmd.takeC_rest r
theorem lt_num (r : Rd) : r.num.1 < 18446744073709551616 := num_lt (r' := r.num.2) rfl
theorem lt_byte (r : Rd) : r.byte.1 < 256 := byte_lt (r' := r.byte.2) rfl
theorem lt_below (r : Rd) (n : Nat) (hn : 0 < n) : (r.below n).1 < n := Cmd.below_less hn (r' := (r.below n).2) rfl
theorem num_err {r : Rd} (h : r.num.2.err = 0) : r.err = 0 := by
  by_cases hr : r.err = 0
  · exact hr
  · rw [num_failed r hr] at h; exact h
theorem takeB_err {r : Rd} (h : (Bal.takeB r).2.err = 0) : r.err = 0 ∧ r.num.2.err = 0 := by
  unfold Bal.takeB at h
  dsimp only at h
  split at h
  · have h1 := Cmd.byte_err h
    exact ⟨num_err h1, h1⟩
  · exact absurd h (Bal.bad_err _)
/-- A number that is read takes a byte at least. -/
theorem num_less {r : Rd} (h : r.num.2.err = 0) : r.num.2.rest.length < r.rest.length := by
  have h0 := num_err h
  obtain ⟨e, l⟩ := r
  obtain rfl : e = 0 := h0
  have h1 : (Rd.num ⟨0, l⟩).2 = ⟨0, (Rd.num ⟨0, l⟩).2.rest⟩ := Cmd.rd_zero h
  have h2 := num_back l (Rd.num ⟨0, l⟩).1 (Rd.num ⟨0, l⟩).2.rest (by rw [← h1])
  have h3 := (numB_length (Rd.num ⟨0, l⟩).1 (lt_num _)).2
  have h4 := congrArg List.length h2
  rw [List.length_append] at h4
  show _ < l.length
  omega
/-- What is known of a list that grows while a reader is read. -/
structure Grows (r : Rd) (n : Nat) : Prop where
  h1 : r.rest.length ≤ 100000
  h2 : n ≤ 100001
  h3 : r.err = 0 → n + r.rest.length ≤ 100000
theorem Grows.vote {r : Rd} {n : Nat} (h : Grows r n) (h0 : r.err = 0) : Grows ((Bal.takeB r.num.2).2.str 65536).2 (n + 1) := by
  have a := rest_num r
  have b := rest_takeB r.num.2
  have c := rest_str (Bal.takeB r.num.2).2 65536
  have hh := h.h3 h0
  have hh1 := h.h1
  refine ⟨by omega, by omega, fun he => ?_⟩
  have e1 := Cmd.str_err he
  have e2 := (takeB_err e1).1
  have d := num_less e2
  omega
theorem Grows.item {r : Rd} {n : Nat} (h : Grows r n) (h0 : r.err = 0) : Grows (r.num.2.str 65536).2 (n + 1) := by
  have a := rest_num r
  have c := rest_str r.num.2 65536
  have hh := h.h3 h0
  have hh1 := h.h1
  refine ⟨by omega, by omega, fun he => ?_⟩
  have e2 := Cmd.str_err he
  have d := num_less e2
  omega
theorem Grows.num {r : Rd} {n : Nat} (h : Grows r n) : Grows r.num.2 n := by
  have a := rest_num r
  have hh1 := h.h1
  exact ⟨by omega, h.h2, fun he => by have := h.h3 (num_err he); omega⟩
theorem tkV_step (n : Nat) (r : Rd) (l : List Vo) (hn : 0 < n) (h : r.err = 0) : tkV n r l = tkV (n - 1) ((Bal.takeB r.num.2).2.str 65536).2 (l ++ [⟨r.num.1, (Bal.takeB r.num.2).1.n, (Bal.takeB r.num.2).1.r, ((Bal.takeB r.num.2).2.str 65536).1⟩]) := by
  obtain ⟨m, rfl⟩ : ∃ m, n = m + 1 := ⟨n - 1, by omega⟩
  show (if r.err = 0 then _ else _) = _
  rw [if_pos h]
  rfl
theorem tkV_stop (n : Nat) (r : Rd) (l : List Vo) (h : n = 0 ∨ r.err ≠ 0) : tkV n r l = (r, l) := by
  cases n with
  | zero => rfl
  | succ m =>
    have h : r.err ≠ 0 := h.resolve_left (by omega)
    show (if r.err = 0 then _ else _) = _
    rw [if_neg h]
theorem tkI_step (n : Nat) (r : Rd) (l : List Im) (hn : 0 < n) (h : r.err = 0) : tkI n r l = tkI (n - 1) (r.num.2.str 65536).2 (l ++ [⟨r.num.1, (r.num.2.str 65536).1⟩]) := by
  obtain ⟨m, rfl⟩ : ∃ m, n = m + 1 := ⟨n - 1, by omega⟩
  show (if r.err = 0 then _ else _) = _
  rw [if_pos h]
  rfl
theorem tkI_stop (n : Nat) (r : Rd) (l : List Im) (h : n = 0 ∨ r.err ≠ 0) : tkI n r l = (r, l) := by
  cases n with
  | zero => rfl
  | succ m =>
    have h : r.err ≠ 0 := h.resolve_left (by omega)
    show (if r.err = 0 then _ else _) = _
    rw [if_neg h]
theorem btake_any (g : Nat) (r : Rd) (hl : r.rest.length < 4611686018427387904) (w : World) (h : RdAt w g r) : Calls Tryz.prog 134 #[.pointer (some ⟨g, 0, none⟩)] w fun e w' => Bal.BalRet w g (Bal.takeB r) e w' :=
  Bal.take_bal g r r.num.2 r.num.2.byte.2 r.num.1 r.num.2.byte.1 hl rfl (by have := rest_num r; omega) rfl w h
/-- Readings with what comes out as a letter. -/
def RdP (w : World) (g : Nat) (v : Value) (r : Rd) (e : Ending) (w' : World) : Prop := e = .returned v ∧ Blk w' g 157 (rdC r) ∧ w.grownBy w' (some g)
theorem byte_p {g : Nat} {r : Rd} {p : Nat × Rd} (hp : Rd.byte r = p) (hl : r.rest.length ≤ 1000000) (w : World) (h : RdAt w g r) : Calls Tryz.prog 58 #[.pointer (some ⟨g, 0, none⟩)] w fun e w' => RdP w g (.int .u8 (p.1 : Int)) p.2 e w' := by
  subst hp; exact byte_any g r (by omega) w h
theorem num_p {g : Nat} {r : Rd} {p : Nat × Rd} (hp : Rd.num r = p) (hl : r.rest.length ≤ 1000000) (w : World) (h : RdAt w g r) : Calls Tryz.prog 140 #[.pointer (some ⟨g, 0, none⟩)] w fun e w' => RdP w g (.int .u64 (p.1 : Int)) p.2 e w' := by
  subst hp; exact num_any g r (by omega) w h
theorem below_p {g : Nat} {r : Rd} {n : Nat} {p : Nat × Rd} (hp : Rd.below r n = p) (hl : r.rest.length ≤ 1000000) (w : World) (h : RdAt w g r) : Calls Tryz.prog 92 #[.pointer (some ⟨g, 0, none⟩), .int .u64 (n : Int)] w fun e w' => RdP w g (.int .u64 (p.1 : Int)) p.2 e w' := by
  subst hp; exact Below_any g r n (by omega) w h
theorem str_p {g : Nat} {r : Rd} {m : Int} {p : List UInt8 × Rd} (hp : Rd.str r m = p) (h1 : -9223372036854775808 ≤ m) (h2 : m ≤ 9223372036854775807) (hl : r.rest.length ≤ 1000000) (w : World) (h : RdAt w g r) : Calls Tryz.prog 124 #[.pointer (some ⟨g, 0, none⟩), .int .i64 m] w fun e w' => RdP w g (.string ⟨p.1.toArray⟩) p.2 e w' := by
  subst hp; exact str_any g r m h1 h2 (by omega) w h
theorem bal_p {g : Nat} {r : Rd} {p : Bal.B × Rd} (hp : Bal.takeB r = p) (hl : r.rest.length ≤ 1000000) (w : World) (h : RdAt w g r) : Calls Tryz.prog 134 #[.pointer (some ⟨g, 0, none⟩)] w fun e w' => RdP w g (.agg #[.int .u64 (p.1.n : Int), .int .u8 (p.1.r : Int)]) p.2 e w' := by
  subst hp; exact btake_any g r (by omega) w h
theorem cmd_p {g : Nat} {r : Rd} {p : Cmd.Cm × Rd} (hp : Cmd.takeC r = p) (hl : r.rest.length ≤ 1000000) (w : World) (h : RdAt w g r) : Calls Tryz.prog 113 #[.pointer (some ⟨g, 0, none⟩)] w fun e w' => RdP w g (.agg #[.int .u8 (p.1.client : Int), .int .u32 (p.1.seq : Int), .int .u8 (p.1.kind : Int), .string ⟨p.1.key.toArray⟩, .string ⟨p.1.old.toArray⟩, .string ⟨p.1.new.toArray⟩, .int .u8 (p.1.set : Int)]) p.2 e w' := by
  subst hp; exact Cmd.take_any g r hl w h
theorem rp_byte {r : Rd} {p : Nat × Rd} (hp : Rd.byte r = p) : p.2.rest.length ≤ r.rest.length := hp ▸ rest_byte r
theorem rp_num {r : Rd} {p : Nat × Rd} (hp : Rd.num r = p) : p.2.rest.length ≤ r.rest.length := hp ▸ rest_num r
theorem rp_bal {r : Rd} {p : Bal.B × Rd} (hp : Bal.takeB r = p) : p.2.rest.length ≤ r.rest.length := hp ▸ rest_takeB r
theorem Hp.trio {w : World} {g g' : Nat} {t t' : TypeId} {cs cs' : List Value} {base e sz m : Nat} {v : Value} {xs : List Value} (h : Blk w g t cs.toArray) (h' : Blk w g' t' cs'.toArray) (hne : g ≠ g') (hown : w.ownsRow base e sz v m xs) (hd : g ∉ v.ownBlock.toList) (hd' : g' ∉ v.ownBlock.toList) :
    Hp w [rowX v.ownBlock.toList base e sz v m xs, cell g t cs, cell g' t' cs'] w :=
  (Hp.duo h h' hne).know _ (rowX_loc _ _ _ _ _ _ _) (fun b hb => ⟨(own_lt hown b (by simpa [rowX] using hb)).2, fun q hq hbq => by
    have hb : b ∈ v.ownBlock.toList := by simpa [rowX] using hb
    simp only [List.mem_cons, List.not_mem_nil, or_false] at hq
    rcases hq with rfl | rfl
    · rw [List.mem_singleton.1 hbq] at hb; exact hd hb
    · rw [List.mem_singleton.1 hbq] at hb; exact hd' hb⟩) hown
end Go.Proofs.YteiaiilfekojfaaGreat.Msg
end
section
namespace Go.Proofs.YteiaiilfekojfaaGreat.Sx
open Go.RowKit

theorem en_slices_Equal_palaver_api_Item_palaver_api_Item : Enters Tryz.prog 46 := enters_of Tryz.func46 (by kernel_rfl) rfl
theorem en_slices_Equal_palaver_api_Vote_palaver_api_Vote : Enters Tryz.prog 45 := enters_of Tryz.func45 (by kernel_rfl) rfl
end Go.Proofs.YteiaiilfekojfaaGreat.Sx
end
section
namespace Go.Proofs.YteiaiilfekojfaaGreat.Sx
open Go.RowKit

theorem en_palaver_msg_Same : Enters Tryz.prog 15 := enters_of Tryz.func15 (by kernel_rfl) rfl
theorem en_palaver_msg_parts : Enters Tryz.prog 43 := enters_of Tryz.func43 (by kernel_rfl) rfl
end Go.Proofs.YteiaiilfekojfaaGreat.Sx
end
section
namespace Go.Proofs.YteiaiilfekojfaaGreat.Sx
open Go.RowKit

theorem en_palaver_wire_Reader_End : Enters Tryz.prog 59 := enters_of Tryz.func59 (by kernel_rfl) rfl
theorem en_palaver_frame_Put : Enters Tryz.prog 44 := enters_of Tryz.func44 (by kernel_rfl) rfl
theorem en_palaver_frame_Take : Enters Tryz.prog 56 := enters_of Tryz.func56 (by kernel_rfl) rfl
theorem en_palaver_msg_Check : Enters Tryz.prog 12 := enters_of Tryz.func12 (by kernel_rfl) rfl
theorem en_palaver_wire_Of : Enters Tryz.prog 57 := enters_of Tryz.func57 (by kernel_rfl) rfl
end Go.Proofs.YteiaiilfekojfaaGreat.Sx
end
section
namespace Go.Proofs.YteiaiilfekojfaaGreat.Sx
open Go.RowKit

theorem en_palaver_msg_Put : Enters Tryz.prog 13 := enters_of Tryz.func13 (by kernel_rfl) rfl
theorem en_palaver_msg_Take : Enters Tryz.prog 19 := enters_of Tryz.func19 (by kernel_rfl) rfl
end Go.Proofs.YteiaiilfekojfaaGreat.Sx
end
section
namespace Go.Proofs.YteiaiilfekojfaaGreat.Sx
open Go.RowKit

theorem en_palaver_palaverref18_Same : Enters Tryz.prog 14 := enters_of Tryz.func14 (by kernel_rfl) rfl
end Go.Proofs.YteiaiilfekojfaaGreat.Sx
end
section
set_option linter.unusedVariables false
set_option linter.unusedSimpArgs false
namespace Go.Proofs.YteiaiilfekojfaaGreat.Sx
open Go.RowKit DrawInv
section
variable {P : Program} {ops : Array Oper} {Q : Exit → Act → World → Prop} {n m : Nat} {vs : Vs} {w0 : World} {L : List Ft} {o : Oper} {rest : List Oper}
def SxI (m : Nat) (P : Program) (ops : Array Oper) (Q : Exit → Act → World → Prop) (rest : List Oper) (n : Nat) (vs : Vs) (w0 : World) (L : List Ft) : Prop := ∀ a w, Kn n vs a → Hp w0 L w → wpListIn Fence.wide m P ops Q rest a w
theorem SxC.regionI {id : Nat} {l : List Oper} (m : Nat) (h : SxI m P l.toArray Q l n vs w0 L) : SxC P (.region id l.toArray false) Q n vs w0 L := fun a w K H => wpIn_wide.1 (wpIn_region_lit (n := m) (h a w K H))
theorem SxI.nil (h : SxN Q n vs w0 L) : SxI m P ops Q [] n vs w0 L := h
theorem SxI.val {d : Nat} {v : Value} (hon : GOn ops vs o.guard) (hd : o.dst = some d) (hdn : Nat.blt d n = true) (hr : ∀ ρ w, Env vs ρ → Hp w0 L w → (execOp ρ o).run P w = .ok (.value v) w)
    (h : SxI m P ops Q rest n ((d, v) :: vs) w0 L) : SxI m P ops Q (o :: rest) n vs w0 L := fun a w K H => by
  unfold wpListIn
  rw [if_pos (hon.on K.env).wanted]
  refine ⟨fun _ _ => trivial, ?_⟩
  rw [Fence.wide_round, Oper.semAt_none, hr a.eval w K.env H, Oper.uponIn_value, hd]
  exact h _ _ (K.put hdn v) H
theorem SxI.valB {d : Nat} {b : Bool} (hon : GOn ops vs o.guard) (hd : o.dst = some d) (hdn : Nat.blt d n = true) (hr : ∀ ρ w, Env vs ρ → Hp w0 L w → (execOp ρ o).run P w = .ok (.value (.bool b)) w)
    (h : ∀ t, b = t → SxI m P ops Q rest n ((d, .bool t) :: vs) w0 L) : SxI m P ops Q (o :: rest) n vs w0 L := SxI.val hon hd hdn hr (h b rfl)
theorem SxI.off {d : Nat} (hoff : GOff ops vs o.guard) (hd : o.dst = some d) (hdn : Nat.blt d n = true) (h : SxI m P ops Q rest n ((d, undef) :: vs) w0 L) : SxI m P ops Q (o :: rest) n vs w0 L := fun a w K H => by
  unfold wpListIn
  rw [if_neg (by rw [(hoff.off K.env).wanted]; decide), hd]
  exact ⟨fun _ _ => trivial, h _ _ (K.put hdn undef) H⟩
theorem ex_yield {ρ : Operand → Value} {c : Operand} {args : List Operand} {T : Array TypeId} {xs : List Value} {l : Nat} {w w' : World} {f : FuncId} {tmps : Array Value} {assign body : Code} (E : Env vs ρ) (ho : o.op = .call { callee := .value c, args := args.toArray, argTypes := T }) (hc : opv vs c = some (.func (.yield l) #[] #[])) (hx : opvs vs args = some xs)
    (hy : (Instr.yield l xs.toArray).run P w = .ok (.round l f tmps assign body) w') : (execOp ρ o).run P w = .ok (.round l f tmps assign body) w' := by
  unfold execOp; rw [ho]
  have ha : args.toArray.map ρ = xs.toArray := by rw [List.map_toArray]; exact congrArg List.toArray (E.evs hx)
  simp only [resolve, ha, E.ev hc, Deferred.ofValue, Sem.run_bind, Sem.run_pure, Result.andThen_ok, invoke, Array.empty_append, Array.append_empty]
  exact hy
theorem SxI.yield {d l : Nat} {xs : List Value} {c : Operand} {args : List Operand} {T : Array TypeId} {R : Bool → World → Prop} (hon : GOn ops vs o.guard) (hd : o.dst = some d) (hdn : Nat.blt d n = true) (ho : o.op = .call { callee := .value c, args := args.toArray, argTypes := T }) (hc : opv vs c = some (.func (.yield l) #[] #[])) (hx : opvs vs args = some xs)
    (hy : ∀ w, Hp w0 L w → YieldAt Fence.wide (m - 1) P l xs.toArray w fun e w' => ∃ b, e = .returned (.bool b) ∧ R b w')
    (h : ∀ b w', R b w' → SxI m P ops Q rest n ((d, .bool b) :: vs) w' []) : SxI m P ops Q (o :: rest) n vs w0 L := fun a w K H => by
  obtain ⟨fn, tmps, assign, body, hy1, hy2⟩ := hy w H
  unfold wpListIn
  rw [if_pos (hon.on K.env).wanted]
  refine ⟨fun _ _ => trivial, ?_⟩
  rw [Fence.wide_round, Oper.semAt_none, ex_yield K.env ho hc hx hy1, Oper.uponIn_round]
  refine ⟨(fun h => by cases h), hy2.mono ?_⟩
  rintro e w' ⟨b, rfl, hR⟩
  show wpListIn Fence.wide m P ops Q rest (a.put o.dst _) w'
  rw [hd]
  exact h b w' hR _ _ (K.put hdn _) (Hp.start w')
def BackW {σ : Type} (n : Nat) (vF : σ → Vs) (F : Nat → σ → World → Prop) (k : Nat) (a : Act) (w : World) : Prop := ∃ k' s, k' < k ∧ F k' s w ∧ Kn n (vF s) a
theorem SxC.loopW {σ : Type} {c : Code} (vF : σ → Vs) (F : Nat → σ → World → Prop) (k0 : Nat) (s0 : σ) (h0 : ∀ w, Hp w0 L w → F k0 s0 w) (hs : Sub (vF s0) vs)
    (round : ∀ k s w1, F k s w1 → SxC P c (Exit.then (BackW n vF F k) Q) n (vF s) w1 []) : SxC P (.loop c) Q n vs w0 L := fun a w K H => by
  refine wp_loop_ghost (fun k a w => ∃ s, F k s w ∧ Kn n (vF s) a) k0 ⟨s0, h0 w H, K.sub hs⟩ ?_
  rintro k a w ⟨s, hF, K⟩
  refine wp_mono (round k s w hF a w K (Hp.start w)) fun e a w h => ?_
  cases e with
  | normal => obtain ⟨k', s', h1, h2, h3⟩ := h; exact ⟨k', h1, s', h2, h3⟩
  | _ => exact h
theorem SxN.backW {σ : Type} {vF : σ → Vs} {F : Nat → σ → World → Prop} {k : Nat} (k' : Nat) (s : σ) (hk : k' < k) (h0 : ∀ w, Hp w0 L w → F k' s w) (hs : Sub (vF s) vs) :
    SxN (Exit.then (BackW n vF F k) Q) n vs w0 L := fun a w K H => ⟨k', s, hk, h0 w H, K.sub hs⟩
end
end Go.Proofs.YteiaiilfekojfaaGreat.Sx
end
section
set_option linter.unusedVariables false
set_option linter.unusedSimpArgs false
namespace Go.Proofs.YteiaiilfekojfaaGreat.Msg
open Go.RowKit Wire Sx DrawInv

theorem toL (l : List UInt8) : (⟨l.toArray⟩ : ByteArray).toList = l := by simp
theorem nat_beq (a b : Nat) : ((a : Int) == (b : Int)) = decide (a = b) := by apply Bool.eq_iff_iff.2; simp; omega
theorem str_beq (a b : List UInt8) : ((⟨a.toArray⟩ : ByteArray).toList == (⟨b.toArray⟩ : ByteArray).toList) = decide (a = b) := by rw [toL, toL]; apply Bool.eq_iff_iff.2; simp
set_option maxRecDepth 100000 in
theorem eq_vo_n (k : Nat) (x y : Vo) (w : World) : (Op.equalIn (k + 3) 92 (.agg (voL x).toArray) (.agg (voL y).toArray)).run Tryz.prog w = .ok (((x.slot : Int) == (y.slot : Int)) && ((((x.n : Int) == (y.n : Int)) && (((x.r : Int) == (y.r : Int)) && true)) && (((⟨x.value.toArray⟩ : ByteArray).toList == (⟨y.value.toArray⟩ : ByteArray).toList) && true))) w := by
  have e1 := run_equalIn_int (P := Tryz.prog) w (k + 1) 22 .u64 .u64 (x.slot : Int) (y.slot : Int) Tryz.underlying22
  have e2 := eq_bal_n k x.n x.r y.n y.r w
  have e3 := run_equalIn_string (P := Tryz.prog) w (k + 1) 9 ⟨x.value.toArray⟩ ⟨y.value.toArray⟩ Tryz.underlying9
  obtain ⟨h1, h2⟩ := fields_of Tryz.underlying92
  rw [run_equalIn_agg w (k + 2) _ _ _ h1 (by kernel_rfl), h2]
  exact eqFields_step (by decide) (by kernel_rfl) (by kernel_rfl) e1 (eqFields_step (by decide) (by kernel_rfl) (by kernel_rfl) e2 (eqFields_step (by decide) (by kernel_rfl) (by kernel_rfl) e3 (eqFields_nil _ _ _ _ _)))
theorem eq_vo (x y : Vo) (w : World) : (Op.equal 92 (.agg (voL x).toArray) (.agg (voL y).toArray)).run Tryz.prog w = .ok (decide (x = y)) w := by
  have h := eq_vo_n 9997 x y w
  rw [nat_beq, nat_beq, nat_beq, str_beq] at h
  have e : (decide (x.slot = y.slot) && ((decide (x.n = y.n) && (decide (x.r = y.r) && true)) && (decide (x.value = y.value) && true))) = decide (x = y) := by
    obtain ⟨a, b, c, d⟩ := x
    obtain ⟨a', b', c', d'⟩ := y
    apply Bool.eq_iff_iff.2
    simp [and_assoc]
  rw [e] at h
  exact h
set_option maxRecDepth 100000 in
theorem eq_im_n (k : Nat) (x y : Im) (w : World) : (Op.equalIn (k + 2) 94 (.agg (imL x).toArray) (.agg (imL y).toArray)).run Tryz.prog w = .ok (((x.slot : Int) == (y.slot : Int)) && (((⟨x.value.toArray⟩ : ByteArray).toList == (⟨y.value.toArray⟩ : ByteArray).toList) && true)) w := by
  have e1 := run_equalIn_int (P := Tryz.prog) w k 22 .u64 .u64 (x.slot : Int) (y.slot : Int) Tryz.underlying22
  have e3 := run_equalIn_string (P := Tryz.prog) w k 9 ⟨x.value.toArray⟩ ⟨y.value.toArray⟩ Tryz.underlying9
  obtain ⟨h1, h2⟩ := fields_of Tryz.underlying94
  rw [run_equalIn_agg w (k + 1) _ _ _ h1 (by kernel_rfl), h2]
  exact eqFields_step (by decide) (by kernel_rfl) (by kernel_rfl) e1 (eqFields_step (by decide) (by kernel_rfl) (by kernel_rfl) e3 (eqFields_nil _ _ _ _ _))
theorem eq_im (x y : Im) (w : World) : (Op.equal 94 (.agg (imL x).toArray) (.agg (imL y).toArray)).run Tryz.prog w = .ok (decide (x = y)) w := by
  have h := eq_im_n 9998 x y w
  rw [nat_beq, str_beq] at h
  have e : (decide (x.slot = y.slot) && (decide (x.value = y.value) && true)) = decide (x = y) := by
    obtain ⟨a, d⟩ := x
    obtain ⟨a', d'⟩ := y
    apply Bool.eq_iff_iff.2
    simp [and_assoc]
  rw [e] at h
  exact h
set_option maxRecDepth 100000 in
theorem eq_cm_n (n : Nat) (w : World) (x y : Cmd.Cm) : (Op.equalIn (n + 2) 29 (Cmd.cmV x) (Cmd.cmV y)).run Tryz.prog w = .ok (((x.client : Int) == (y.client : Int)) && (((x.seq : Int) == (y.seq : Int)) && (((x.kind : Int) == (y.kind : Int)) && (((⟨x.key.toArray⟩ : ByteArray).toList == (⟨y.key.toArray⟩ : ByteArray).toList) && (((⟨x.old.toArray⟩ : ByteArray).toList == (⟨y.old.toArray⟩ : ByteArray).toList) && (((⟨x.new.toArray⟩ : ByteArray).toList == (⟨y.new.toArray⟩ : ByteArray).toList) && (((x.set : Int) == (y.set : Int)) && true))))))) w := by
  have e1 := run_equalIn_int (P := Tryz.prog) w n 5 .u8 .u8 (x.client : Int) (y.client : Int) Tryz.underlying5
  have e2 := run_equalIn_int (P := Tryz.prog) w n 27 .u32 .u32 (x.seq : Int) (y.seq : Int) Tryz.underlying27
  have e3 := run_equalIn_int (P := Tryz.prog) w n 5 .u8 .u8 (x.kind : Int) (y.kind : Int) Tryz.underlying5
  have e4 := run_equalIn_string (P := Tryz.prog) w n 9 ⟨x.key.toArray⟩ ⟨y.key.toArray⟩ Tryz.underlying9
  have e5 := run_equalIn_string (P := Tryz.prog) w n 9 ⟨x.old.toArray⟩ ⟨y.old.toArray⟩ Tryz.underlying9
  have e6 := run_equalIn_string (P := Tryz.prog) w n 9 ⟨x.new.toArray⟩ ⟨y.new.toArray⟩ Tryz.underlying9
  have e7 := run_equalIn_int (P := Tryz.prog) w n 5 .u8 .u8 (x.set : Int) (y.set : Int) Tryz.underlying5
  obtain ⟨h1, h2⟩ := fields_of Tryz.underlying29
  unfold Cmd.cmV Cmd.cmC
  rw [run_equalIn_agg w (n + 1) _ _ _ h1 (by kernel_rfl), h2]
  exact eqFields_step (by decide) (by kernel_rfl) (by kernel_rfl) e1 (eqFields_step (by decide) (by kernel_rfl) (by kernel_rfl) e2 (eqFields_step (by decide) (by kernel_rfl) (by kernel_rfl) e3 (eqFields_step (by decide) (by kernel_rfl) (by kernel_rfl) e4 (eqFields_step (by decide) (by kernel_rfl) (by kernel_rfl) e5 (eqFields_step (by decide) (by kernel_rfl) (by kernel_rfl) e6 (eqFields_step (by decide) (by kernel_rfl) (by kernel_rfl) e7 (eqFields_nil _ _ _ _ _)))))))
theorem eq_cm (x y : Cmd.Cm) (w : World) : (Op.equal 29 (Cmd.cmV x) (Cmd.cmV y)).run Tryz.prog w = .ok (decide (x = y)) w := by
  have h := eq_cm_n 9998 w x y
  rw [nat_beq, nat_beq, nat_beq, nat_beq, str_beq, str_beq, str_beq] at h
  have e : (decide (x.client = y.client) && (decide (x.seq = y.seq) && (decide (x.kind = y.kind) && (decide (x.key = y.key) && (decide (x.old = y.old) && (decide (x.new = y.new) && (decide (x.set = y.set) && true))))))) = decide (x = y) := by
    obtain ⟨a, b, c, d, e, f, g⟩ := x
    obtain ⟨a', b', c', d', e', f', g'⟩ := y
    apply Bool.eq_iff_iff.2
    simp
  rw [e] at h
  exact h
set_option maxRecDepth 100000 in
theorem eq_ry_n (n : Nat) (w : World) (a b : Nat) (s t : List UInt8) : (Op.equalIn (n + 2) 31 (.agg #[.int .u8 (a : Int), .string ⟨s.toArray⟩]) (.agg #[.int .u8 (b : Int), .string ⟨t.toArray⟩])).run Tryz.prog w = .ok (((a : Int) == (b : Int)) && (((⟨s.toArray⟩ : ByteArray).toList == (⟨t.toArray⟩ : ByteArray).toList) && true)) w := by
  have e1 := run_equalIn_int (P := Tryz.prog) w n 5 .u8 .u8 (a : Int) (b : Int) Tryz.underlying5
  have e2 := run_equalIn_string (P := Tryz.prog) w n 9 ⟨s.toArray⟩ ⟨t.toArray⟩ Tryz.underlying9
  obtain ⟨h1, h2⟩ := fields_of Tryz.underlying31
  rw [run_equalIn_agg w (n + 1) _ _ _ h1 (by kernel_rfl), h2]
  exact eqFields_step (by decide) (by kernel_rfl) (by kernel_rfl) e1 (eqFields_step (by decide) (by kernel_rfl) (by kernel_rfl) e2 (eqFields_nil _ _ _ _ _))
theorem eq_ry (a b : Nat) (s t : List UInt8) (w : World) : (Op.equal 31 (.agg #[.int .u8 (a : Int), .string ⟨s.toArray⟩]) (.agg #[.int .u8 (b : Int), .string ⟨t.toArray⟩])).run Tryz.prog w = .ok (decide (a = b) && decide (s = t)) w := by
  have h := eq_ry_n 9998 w a b s t
  rw [nat_beq, str_beq, Bool.and_true] at h
  exact h
end Go.Proofs.YteiaiilfekojfaaGreat.Msg
end
section
namespace Go.Proofs.YteiaiilfekojfaaGreat.Frame
open Wire

/-! ### A checksum finds a byte that turned -/
theorem xor_left_inj (n m b : Nat) (h : n ^^^ b = m ^^^ b) : n = m := by
  have h2 := congrArg (· ^^^ b) h
  simpa [Nat.xor_assoc] using h2
theorem xor_right_inj' (n m b : Nat) (h : b ^^^ n = b ^^^ m) : n = m := xor_left_inj n m b (by rw [Nat.xor_comm n, Nat.xor_comm m]; exact h)
theorem poly_bit : poly.testBit 63 = true := by decide
theorem crcStep_inj (n m : Nat) (hn : n < 18446744073709551616) (hm : m < 18446744073709551616) (h : crcStep n = crcStep m) : n = m := by
  have hb : ∀ x, x < 18446744073709551616 → (x / 2).testBit 63 = false := fun x hx => Nat.testBit_lt_two_pow (by show x / 2 < 9223372036854775808; omega)
  have hx : ∀ x, x < 18446744073709551616 → ((x / 2) ^^^ poly).testBit 63 = true := fun x hx => by rw [Nat.testBit_xor, hb x hx, poly_bit]; rfl
  unfold crcStep at h
  by_cases h1 : n % 2 = 1 <;> by_cases h2 : m % 2 = 1
  · rw [if_pos h1, if_pos h2] at h
    have := xor_left_inj _ _ _ h
    omega
  · rw [if_pos h1, if_neg h2] at h
    have := hx n hn
    rw [h, hb m hm] at this
    cases this
  · rw [if_neg h1, if_pos h2] at h
    have := hx m hm
    rw [← h, hb n hn] at this
    cases this
  · rw [if_neg h1, if_neg h2] at h
    omega
theorem crcN_inj (n m k : Nat) (hn : n < 18446744073709551616) (hm : m < 18446744073709551616) (h : crcN n k = crcN m k) : n = m := by
  induction k with
  | zero => exact h
  | succ k ih => exact ih (crcStep_inj _ _ (crcN_lt n k hn) (crcN_lt m k hm) h)
theorem crcMore_inj (l : List UInt8) : ∀ (n m : Nat), n < 18446744073709551616 → m < 18446744073709551616 → crcMore n l = crcMore m l → n = m := by
  induction l with
  | nil => intro n m _ _ h; exact h
  | cons b l ih =>
    intro n m hn hm h
    have h2 := ih _ _ (crcN_lt _ 8 (xor_byte_lt n b hn)) (crcN_lt _ 8 (xor_byte_lt m b hm)) h
    exact xor_left_inj _ _ _ (crcN_inj _ _ 8 (xor_byte_lt n b hn) (xor_byte_lt m b hm) h2)
theorem crcMore_app (n : Nat) (a b : List UInt8) : crcMore n (a ++ b) = crcMore (crcMore n a) b := by unfold crcMore; rw [List.foldl_append]
theorem cpl_inj (n m : Nat) (hn : n < 18446744073709551616) (hm : m < 18446744073709551616) (h : cpl n = cpl m) : n = m := by unfold cpl at h; omega
theorem crc_byte (p t : List UInt8) (b c : UInt8) (h : crcSum (p ++ b :: t) = crcSum (p ++ c :: t)) : b = c := by
  unfold crcSum at h
  have h0 := cpl_lt 0
  generalize cpl 0 = n at *
  have h1 := cpl_inj _ _ (crcMore_lt _ _ h0) (crcMore_lt _ _ h0) h
  rw [crcMore_app, crcMore_app] at h1
  have hp := crcMore_lt n p h0
  generalize crcMore n p = m at *
  have h2 := crcMore_inj t _ _ (crcN_lt _ 8 (xor_byte_lt m b hp)) (crcN_lt _ 8 (xor_byte_lt m c hp)) h1
  have h3 := crcN_inj _ _ 8 (xor_byte_lt m b hp) (xor_byte_lt m c hp) h2
  exact UInt8.toNat_inj.1 (xor_right_inj' _ _ _ h3)
theorem crc_set (a : List UInt8) (j : Nat) (v : UInt8) (hj : j < a.length) (hv : v ≠ a[j]) : crcSum (a.set j v) ≠ crcSum a := by
  intro h
  rw [List.set_eq_take_append_cons_drop, if_pos hj] at h
  conv at h => rhs; rw [← List.take_append_drop j a, List.drop_eq_getElem_cons hj]
  exact hv (crc_byte _ _ _ _ h)


/-- A byte of the sum or of the inside turned. -/
theorem take_turn (x : List UInt8) (h1 : 0 < x.length) (h2 : x.length ≤ 65536) (j : Nat) (hj : j < 8 + x.length) (v : UInt8) (hv : (leB 8 (crcSum x) ++ x)[j]? ≠ some v) :
    takeF (numB x.length ++ ((leB 8 (crcSum x) ++ x).set j v)) = ([], 0, 5) := by
  have h8 := leB_length 8 (crcSum x)
  have hcl := leV_leB 8 (crcSum x) (by have := crcSum_lt x; omega)
  unfold takeF
  rw [num_put_back x.length (by omega)]
  simp only
  have hl : ((leB 8 (crcSum x) ++ x).set j v).length = 8 + x.length := by rw [List.length_set, List.length_append, h8]
  rw [if_neg (by simp), if_neg (by omega), if_neg (by rw [hl]; omega)]
  by_cases h9 : j < 8
  · rw [List.getElem?_append_left (by omega)] at hv
    rw [List.set_append_left _ _ (by omega)]
    have t1 : ((leB 8 (crcSum x)).set j v ++ x).take 8 = (leB 8 (crcSum x)).set j v := List.take_left' (by rw [List.length_set, h8])
    have t2 : ((leB 8 (crcSum x)).set j v ++ x).drop 8 = x := List.drop_left' (by rw [List.length_set, h8])
    rw [t1, t2, List.take_length, if_pos ?_]
    intro he
    have hb := leB_leV ((leB 8 (crcSum x)).set j v)
    rw [List.length_set, h8, he] at hb
    apply hv
    rw [hb, List.getElem?_set_self (by omega)]
  · rw [List.getElem?_append_right (by omega), h8] at hv
    rw [List.set_append_right _ _ (by omega), h8]
    have t1 : (leB 8 (crcSum x) ++ x.set (j - 8) v).take 8 = leB 8 (crcSum x) := List.take_left' h8
    have t2 : (leB 8 (crcSum x) ++ x.set (j - 8) v).drop 8 = x.set (j - 8) v := List.drop_left' h8
    rw [t1, t2, List.take_of_length_le (by rw [List.length_set]; omega), if_pos ?_]
    rw [hcl]
    have hjx : j - 8 < x.length := by omega
    exact (crc_set x (j - 8) v hjx (fun e => hv (by rw [List.getElem?_eq_getElem hjx, e]))).symm
end Go.Proofs.YteiaiilfekojfaaGreat.Frame
end
