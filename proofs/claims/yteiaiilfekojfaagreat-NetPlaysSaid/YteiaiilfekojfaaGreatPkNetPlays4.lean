/- Texts that the proof of NetPlays leans on, put together (4 of 6). Conditions: each theorem states its own. -/
import Derived.Test.YteiaiilfekojfaaGreatPkNetPlays3
section
set_option linter.unusedVariables false
set_option linter.unusedSimpArgs false
namespace Go.Proofs.YteiaiilfekojfaaGreat.Msg
open Go.RowKit Wire

theorem KE {r : Rd} (h : r.num.2.err = 0) : r.err = 0 ∧ r.rest = BI r.num.1 ++ r.num.2.rest := by
 have h0 := Iq h
 refine ⟨h0, ?_⟩
 obtain ⟨e, l⟩ := r
 obtain rfl : e = 0 := h0
 exact Ld l (Rd.num ⟨0, l⟩).1 (Rd.num ⟨0, l⟩).2.rest (by rw [← Cmd.rd_zero h])
theorem MS {r : Rd} (h : r.byte.2.err = 0) : r.err = 0 ∧ r.rest = UInt8.ofNat r.byte.1 :: r.byte.2.rest := by
 have h0 := Cmd.byte_err h
 refine ⟨h0, ?_⟩
 obtain ⟨e, l⟩ := r
 obtain rfl : e = 0 := h0
 exact Cmd.byte_back rfl h
theorem W7 {r : Rd} {n : Nat} (h : (r.below n).2.err = 0) : r.err = 0 ∧ r.rest = BI (r.below n).1 ++ (r.below n).2.rest := by
 have h0 := Cmd.below_err h
 refine ⟨h0, ?_⟩
 obtain ⟨e, l⟩ := r
 obtain rfl : e = 0 := h0
 exact (Cmd.below_back rfl h).1
theorem OL {r : Rd} {m : Int} (h : (r.str m).2.err = 0) : r.err = 0 ∧ r.rest = CM (r.str m).1 ++ (r.str m).2.rest := by
 have h0 := Cmd.str_err h
 refine ⟨h0, ?_⟩
 obtain ⟨e, l⟩ := r
 obtain rfl : e = 0 := h0
 exact Cmd.str_back rfl h
theorem W9 {r : Rd} (h : (Bal.takeB r).2.err = 0) : r.err = 0 ∧ r.rest = Bal.balB (Bal.takeB r).1 ++ (Bal.takeB r).2.rest ∧ Bal.mayB (Bal.takeB r).1 = true := by
 have h1 := LG h
 refine ⟨h1.1, ?_⟩
 unfold Bal.takeB at h ⊢
 dsimp only at h ⊢
 by_cases hm : Bal.mayB ⟨r.num.1, r.num.2.byte.1⟩ = true
 ·rw [if_pos hm] at h ⊢
  rw [if_pos h]
  have a := KE h1.2
  have b := MS h
  refine ⟨?_, hm⟩
  unfold Bal.balB
  rw [a.2, b.2]
  simp
 ·rw [if_neg hm] at h
  exact absurd h (Bal.bad_err _)
theorem Yf {b : Prop} [Decidable b] {n r : Nat} (hn : n < 18446744073709551616) (hr : r < 256) : (if b then (⟨n, r⟩ : Bal.B) else ⟨0, 0⟩).n < 18446744073709551616 ∧ (if b then (⟨n, r⟩ : Bal.B) else ⟨0, 0⟩).r < 256 := by
 split
 ·exact ⟨hn, hr⟩
 ·exact ⟨by decide, by decide⟩
theorem KW (r : Rd) : (Bal.takeB r).1.n < 18446744073709551616 ∧ (Bal.takeB r).1.r < 256 := by
 unfold Bal.takeB
 dsimp only
 have a := J4 r
 have b := Lj r.num.2
 exact Yf a b
theorem Vf (r : Rd) (m : Nat) : (r.str (m : Int)).1.length ≤ m := Cmd.str_most (r' := (r.str (m : Int)).2) rfl
theorem Vg (r : Rd) : (r.str 65536).1.length ≤ 65536 := by
 have h := Vf r 65536
 rw [show ((65536 : Nat) : Int) = 65536 from rfl] at h
 exact h
theorem Y6 (r : Rd) : (r.str 64).1.length ≤ 1000 := by
 have h := Vf r 64
 rw [show ((64 : Nat) : Int) = 64 from rfl] at h
 omega
structure TkV (n : Nat) (r : Rd) (l : List Vo) : Prop where
 gr : Grows r l.length → Grows (tkV n r l).1 (tkV n r l).2.length
 rest : (tkV n r l).1.rest.length ≤ r.rest.length
 err : (tkV n r l).1.err = 0 → r.err = 0
 fits : (∀ v ∈ l, v.Fits ∧ v.value.length ≤ 65536) → ∀ v ∈ (tkV n r l).2, v.Fits ∧ v.value.length ≤ 65536
 back : (tkV n r l).1.err = 0 → ∃ l2, (tkV n r l).2 = l ++ l2 ∧ l2.length = n ∧ r.rest = l2.flatMap voB ++ (tkV n r l).1.rest
theorem KT (n : Nat) : ∀ (r : Rd) (l : List Vo), TkV n r l := by
 induction n with
 | zero => intro r l; exact ⟨fun h => h, Nat.le_refl _, fun h => h, fun h => h, fun h => ⟨[], by simp [tkV], rfl, by simp [tkV]⟩⟩
 | succ n ih =>
  intro r l
  by_cases h0 : r.err = 0
  ·have e := KR (n + 1) r l (by omega) h0
   simp only [Nat.add_sub_cancel] at e
   have a := F2 r
   have b := IZ r.num.2
   have c := I9 (Bal.takeB r.num.2).2 65536
   have h65 := Vg (Bal.takeB r.num.2).2
   have hgr : Grows r l.length → Grows ((Bal.takeB r.num.2).2.str 65536).2 (l.length + 1) := fun h => h.vote h0
   have hsb : ((Bal.takeB r.num.2).2.str 65536).2.err = 0 → (Bal.takeB r.num.2).2.err = 0 ∧ (Bal.takeB r.num.2).2.rest = CM ((Bal.takeB r.num.2).2.str 65536).1 ++ ((Bal.takeB r.num.2).2.str 65536).2.rest := OL
   generalize (Bal.takeB r.num.2).2.str 65536 = p at e c h65 hgr hsb
   have i := ih p.2 (l ++ [⟨r.num.1, (Bal.takeB r.num.2).1.n, (Bal.takeB r.num.2).1.r, p.1⟩])
   refine ⟨fun h => ?_, ?_, fun _ => h0, fun h => ?_, fun h => ?_⟩
   ·rw [e]; exact i.gr (by rw [List.length_append]; exact hgr h)
   ·rw [e]; have := i.rest; omega
   ·rw [e]
    refine i.fits fun v hv => ?_
    rcases List.mem_append.1 hv with hv | hv
    ·exact h v hv
    ·rw [List.mem_singleton.1 hv]
     exact ⟨⟨J4 r, (KW _).1, (KW _).2⟩, h65⟩
   ·rw [e] at h
    obtain ⟨l2, h1, h2, h3⟩ := i.back h
    have e3 := hsb (i.err h)
    have e2 := W9 e3.1
    have e1 := KE e2.1
    refine ⟨_ :: l2, by rw [e, h1, List.append_assoc]; rfl, by rw [List.length_cons, h2], ?_⟩
    rw [e, e1.2, e2.2.1, e3.2, h3, List.flatMap_cons]
    simp [voB]
  ·have e := Nb (n + 1) r l (.inr h0)
   rw [show TkV (n + 1) r l = TkV (n + 1) r l from rfl]
   exact ⟨fun h => by rw [e]; exact h, by rw [e]; exact Nat.le_refl _, fun h => by rw [e] at h; exact h, fun h => by rw [e]; exact h, fun h => by rw [e] at h; exact absurd h h0⟩
structure TkI (n : Nat) (r : Rd) (l : List Im) : Prop where
 gr : Grows r l.length → Grows (tkI n r l).1 (tkI n r l).2.length
 rest : (tkI n r l).1.rest.length ≤ r.rest.length
 err : (tkI n r l).1.err = 0 → r.err = 0
 fits : (∀ v ∈ l, v.slot < 18446744073709551616 ∧ v.value.length ≤ 65536) → ∀ v ∈ (tkI n r l).2, v.slot < 18446744073709551616 ∧ v.value.length ≤ 65536
 back : (tkI n r l).1.err = 0 → ∃ l2, (tkI n r l).2 = l ++ l2 ∧ l2.length = n ∧ r.rest = l2.flatMap imB ++ (tkI n r l).1.rest
theorem KV (n : Nat) : ∀ (r : Rd) (l : List Im), TkI n r l := by
 induction n with
 | zero => intro r l; exact ⟨fun h => h, Nat.le_refl _, fun h => h, fun h => h, fun h => ⟨[], by simp [tkI], rfl, by simp [tkI]⟩⟩
 | succ n ih =>
  intro r l
  by_cases h0 : r.err = 0
  ·have e := KU (n + 1) r l (by omega) h0
   simp only [Nat.add_sub_cancel] at e
   have a := F2 r
   have c := I9 r.num.2 65536
   have h65 := Vg r.num.2
   have hgr : Grows r l.length → Grows (r.num.2.str 65536).2 (l.length + 1) := fun h => h.item h0
   have hsb : (r.num.2.str 65536).2.err = 0 → r.num.2.err = 0 ∧ r.num.2.rest = CM (r.num.2.str 65536).1 ++ (r.num.2.str 65536).2.rest := OL
   generalize r.num.2.str 65536 = p at e c h65 hgr hsb
   have i := ih p.2 (l ++ [⟨r.num.1, p.1⟩])
   refine ⟨fun h => ?_, ?_, fun _ => h0, fun h => ?_, fun h => ?_⟩
   ·rw [e]; exact i.gr (by rw [List.length_append]; exact hgr h)
   ·rw [e]; have := i.rest; omega
   ·rw [e]
    refine i.fits fun v hv => ?_
    rcases List.mem_append.1 hv with hv | hv
    ·exact h v hv
    ·rw [List.mem_singleton.1 hv]
     exact ⟨J4 r, h65⟩
   ·rw [e] at h
    obtain ⟨l2, h1, h2, h3⟩ := i.back h
    have e3 := hsb (i.err h)
    have e1 := KE e3.1
    refine ⟨_ :: l2, by rw [e, h1, List.append_assoc]; rfl, by rw [List.length_cons, h2], ?_⟩
    rw [e, e1.2, e3.2, h3, List.flatMap_cons]
    simp [imB]
  ·have e := Nc (n + 1) r l (.inr h0)
   exact ⟨fun h => by rw [e]; exact h, by rw [e]; exact Nat.le_refl _, fun h => by rw [e] at h; exact h, fun h => by rw [e]; exact h, fun h => by rw [e] at h; exact absurd h h0⟩
theorem TC (p : Pt) (a : Ms) (r : Rd) : (p.take (a, r)).2.rest.length ≤ r.rest.length ∧ ((p.take (a, r)).2.err = 0 → r.err = 0) := by
 cases p with
 | cmd => exact ⟨QY r, fun h => (Cmd.takeC_back h).1⟩
 | name => exact ⟨Nat.le_trans (QZ _ _) (IB r), fun h => Cmd.byte_err (Cmd.below_err h)⟩
 | reply => exact ⟨Nat.le_trans (I9 _ _) (IB r), fun h => Cmd.byte_err (Cmd.str_err h)⟩
 | node => exact ⟨IB r, fun h => Cmd.byte_err h⟩
 | turn => exact ⟨IZ r, fun h => (LG h).1⟩
 | floor => exact ⟨F2 r, fun h => Iq h⟩
 | slot l => exact ⟨F2 r, fun h => Iq h⟩
 | value => exact ⟨I9 r _, fun h => Cmd.str_err h⟩
 | votes => exact ⟨Nat.le_trans (KT _ _ _).rest (F2 r), fun h => Iq ((KT _ _ _).err h)⟩
 | items => exact ⟨Nat.le_trans (KV _ _ _).rest (F2 r), fun h => Iq ((KV _ _ _).err h)⟩
theorem Grows.mono {r r' : Rd} {n : Nat} (h : Grows r n) (h1 : r'.rest.length ≤ r.rest.length) (h2 : r'.err = 0 → r.err = 0) : Grows r' n :=
 ⟨Nat.le_trans h1 h.h1, h.h2, fun e => by have := h.h3 (h2 e); omega⟩
def GG (x : Ms × Rd) : Prop := Grows x.2 x.1.votes.length ∧ Grows x.2 x.1.items.length
theorem Ni (p : Pt) (x : Ms × Rd) (h : GG x) : GG (p.take x) := by
 obtain ⟨a, r⟩ := x
 have hm := TC p a r
 have k : Grows (p.take (a, r)).2 a.votes.length ∧ Grows (p.take (a, r)).2 a.items.length := ⟨h.1.mono hm.1 hm.2, h.2.mono hm.1 hm.2⟩
 cases p with
 | votes => exact ⟨(KT _ _ _).gr h.1.num, k.2⟩
 | items => exact ⟨k.1, (KV _ _ _).gr h.2.num⟩
 | _ => exact k
structure Ok (a : Ms) : Prop where
 fits : a.Fits
 h1 : a.value.length ≤ 65536
 h4 : ∀ v ∈ a.votes, v.value.length ≤ 65536
 h5 : ∀ x ∈ a.items, x.value.length ≤ 65536
 h6 : a.cmd.key.length ≤ 1000
 h7 : a.cmd.old.length ≤ 1000
 h8 : a.cmd.new.length ≤ 1000
 h9 : a.text.length ≤ 1000
theorem Ju (r : Rd) : (Cmd.takeC r).1.key.length ≤ 1000 ∧ (Cmd.takeC r).1.old.length ≤ 1000 ∧ (Cmd.takeC r).1.new.length ≤ 1000 := by
 obtain ⟨r1, r2, r3, r4, r5, r6, r7, a, b, k, z, s, t, u, e1, e2, e3, e4, e5, e6, e7, _⟩ := Cmd.takeC_parts r
 rw [Cmd.takeC_eq e1 e2 e3 e4 e5 e6 e7]
 have h4 := Cmd.str_most (m := 16) e4
 have h5 := Cmd.str_most (m := 64) e5
 have h6 := Cmd.str_most (m := 64) e6
 by_cases h : (if Cmd.mayB ⟨a, b, k, s, t, u, z⟩ then r7 else r7.bad).err = 0
 ·rw [if_pos h]; exact ⟨by show s.length ≤ _; omega, by show t.length ≤ _; omega, by show u.length ≤ _; omega⟩
 ·rw [if_neg h]; exact ⟨by show Cmd.cm0.key.length ≤ 1000; decide, by show Cmd.cm0.old.length ≤ 1000; decide, by show Cmd.cm0.new.length ≤ 1000; decide⟩
theorem take_ok (p : Pt) (x : Ms × Rd) (h : Ok x.1) : Ok (p.take x).1 := by
 obtain ⟨a, r⟩ := x
 obtain ⟨⟨f1, f2, f3, f4, f5, f6, f7, f8, f9, f10⟩, g1, g4, g5, g6, g7, g8, g9⟩ := h
 cases p with
 | cmd => exact ⟨⟨f1, f2, f3, f4, f5, f6, f7, f8, Cmd.takeC_fits r, f10⟩, g1, g4, g5, (Ju r).1, (Ju r).2.1, (Ju r).2.2, g9⟩
 | name => exact ⟨⟨f1, f2, f3, f4, f5, f6, f7, f8, ⟨Lj r, Qb _ _ (by decide), f9.h3, f9.h4, f9.h5, f9.h6, f9.h7⟩, f10⟩, g1, g4, g5, g6, g7, g8, g9⟩
 | reply => exact ⟨⟨f1, f2, f3, f4, f5, f6, f7, f8, f9, Lj r⟩, g1, g4, g5, g6, g7, g8, Y6 r.byte.2⟩
 | node => exact ⟨⟨f1, f2, f3, f4, f5, Lj r, f7, f8, f9, f10⟩, g1, g4, g5, g6, g7, g8, g9⟩
 | turn => exact ⟨⟨f1, (KW r).1, (KW r).2, f4, f5, f6, f7, f8, f9, f10⟩, g1, g4, g5, g6, g7, g8, g9⟩
 | floor => exact ⟨⟨f1, f2, f3, J4 r, f5, f6, f7, f8, f9, f10⟩, g1, g4, g5, g6, g7, g8, g9⟩
 | slot l => exact ⟨⟨f1, f2, f3, f4, J4 r, f6, f7, f8, f9, f10⟩, g1, g4, g5, g6, g7, g8, g9⟩
 | value => exact ⟨⟨f1, f2, f3, f4, f5, f6, f7, f8, f9, f10⟩, Vg r, g4, g5, g6, g7, g8, g9⟩
 | votes =>
  have hv := (KT r.num.1 r.num.2 a.votes).fits fun v hv => ⟨f7 v hv, g4 v hv⟩
  exact ⟨⟨f1, f2, f3, f4, f5, f6, fun v hm => (hv v hm).1, f8, f9, f10⟩, g1, fun v hm => (hv v hm).2, g5, g6, g7, g8, g9⟩
 | items =>
  have hv := (KV r.num.1 r.num.2 a.items).fits fun v hv => ⟨f8 v hv, g5 v hv⟩
  exact ⟨⟨f1, f2, f3, f4, f5, f6, f7, fun v hm => (hv v hm).1, f9, f10⟩, g1, g4, fun v hm => (hv v hm).2, g6, g7, g8, g9⟩
theorem Ue (p : Pt) (a : Ms) (r : Rd) (hv : p = .votes → a.votes = []) (hi : p = .items → a.items = []) (h : (p.take (a, r)).2.err = 0) : r.err = 0 ∧ r.rest = p.put (p.take (a, r)).1 ++ (p.take (a, r)).2.rest := by
 cases p with
 | cmd => have := Cmd.takeC_back h; exact ⟨this.1, this.2.1⟩
 | name =>
  have b := W7 h
  have c := MS b.1
  refine ⟨c.1, ?_⟩
  rw [c.2, b.2]
  rfl
 | reply =>
  have b := OL h
  have c := MS b.1
  refine ⟨c.1, ?_⟩
  rw [c.2, b.2]
  rfl
 | node => have b := MS h; exact ⟨b.1, b.2⟩
 | turn => have b := W9 h; exact ⟨b.1, b.2.1⟩
 | floor => exact KE h
 | slot l => exact KE h
 | value => exact OL h
 | votes =>
  have t := KT r.num.1 r.num.2 a.votes
  obtain ⟨l2, h1, h2, h3⟩ := t.back h
  have b := KE (t.err h)
  refine ⟨b.1, ?_⟩
  show r.rest = (BI (tkV r.num.1 r.num.2 a.votes).2.length ++ (tkV r.num.1 r.num.2 a.votes).2.flatMap voB) ++ (tkV r.num.1 r.num.2 a.votes).1.rest
  rw [h1, show a.votes ++ l2 = l2 by rw [hv rfl]; rfl, h2, b.2]
  conv => lhs; rw [h3]
  simp
 | items =>
  have t := KV r.num.1 r.num.2 a.items
  obtain ⟨l2, h1, h2, h3⟩ := t.back h
  have b := KE (t.err h)
  refine ⟨b.1, ?_⟩
  show r.rest = (BI (tkI r.num.1 r.num.2 a.items).2.length ++ (tkI r.num.1 r.num.2 a.items).2.flatMap imB) ++ (tkI r.num.1 r.num.2 a.items).1.rest
  rw [h1, show a.items ++ l2 = l2 by rw [hi rfl]; rfl, h2, b.2]
  conv => lhs; rw [h3]
  simp
def Qd : Pt → Pt → Bool
 | .cmd, .cmd | .cmd, .name | .name, .cmd | .name, .name | .reply, .reply | .node, .node | .turn, .turn | .floor, .floor | .slot _, .slot _ | .value, .value | .votes, .votes | .items, .items => false
 | _, _ => true
theorem TY (p q : Pt) (h : Qd p q = true) (x : Ms × Rd) : p.put (q.take x).1 = p.put x.1 := by
 obtain ⟨a, r⟩ := x
 cases p <;> cases q <;> first | rfl | cases h
def K7 : List Pt → Bool
 | [] => true
 | p :: l => l.all (Qd p) && K7 l
theorem M5 (k : Nat) : K7 (AK k) = true := by
 by_cases h : k < 14
 ·have hd : ∀ k : Nat, k < 14 → K7 (AK k) = true := by decide
  exact hd k h
 ·have e : AK k = [] := by unfold AK; repeat rw [if_neg (by omega)]
  rw [e]; rfl
theorem PG (p : Pt) : ∀ (l : List Pt) (x : Ms × Rd), l.all (Qd p) = true → p.put (l.foldl (fun a q => q.take a) x).1 = p.put x.1
 | [], _, _ => rfl
 | q :: l, x, h => by
  rw [List.all_cons, Bool.and_eq_true] at h
  rw [List.foldl_cons, PG p l _ h.2, TY p q h.1]
theorem KF (p : Pt) (x : Ms × Rd) : (p ≠ .votes → (p.take x).1.votes = x.1.votes) ∧ (p ≠ .items → (p.take x).1.items = x.1.items) ∧ (p.take x).1.kind = x.1.kind := by
 obtain ⟨a, r⟩ := x
 cases p <;> exact ⟨fun h => by first | rfl | exact absurd rfl h, fun h => by first | rfl | exact absurd rfl h, rfl⟩
theorem Ox : ∀ (l : List Pt) (x : Ms × Rd), K7 l = true → (.votes ∈ l → x.1.votes = []) → (.items ∈ l → x.1.items = []) → (l.foldl (fun a q => q.take a) x).2.err = 0 →
  x.2.err = 0 ∧ x.2.rest = l.flatMap (fun p => p.put (l.foldl (fun a q => q.take a) x).1) ++ (l.foldl (fun a q => q.take a) x).2.rest
 | [], _, _, _, _, h => ⟨h, rfl⟩
 | p :: l, x, ha, hv, hi, h => by
  have ha : (l.all (Qd p) && K7 l) = true := ha
  rw [Bool.and_eq_true] at ha
  have hnv : p = .votes → .votes ∉ l := fun e hm => by
   subst e
   have := List.all_eq_true.1 ha.1 _ hm
   cases this
  have hni : p = .items → .items ∉ l := fun e hm => by
   subst e
   have := List.all_eq_true.1 ha.1 _ hm
   cases this
  have hk := KF p x
  obtain ⟨b1, b2⟩ := Ox l (p.take x) ha.2 (fun hm => by
   by_cases e : p = .votes
   ·exact absurd hm (hnv e)
   ·rw [hk.1 e]; exact hv (List.mem_cons_of_mem _ hm)) (fun hm => by
   by_cases e : p = .items
   ·exact absurd hm (hni e)
   ·rw [hk.2.1 e]; exact hi (List.mem_cons_of_mem _ hm)) h
  obtain ⟨c1, c2⟩ := Ue p x.1 x.2 (fun e => hv (by rw [e]; exact List.mem_cons_self ..)) (fun e => hi (by rw [e]; exact List.mem_cons_self ..)) b1
  refine ⟨c1, ?_⟩
  rw [c2, show ((p.take (x.1, x.2)).2.rest) = (p.take x).2.rest from rfl, b2, List.flatMap_cons, List.foldl_cons, PG p l _ ha.1]
  simp
theorem Ov : ∀ (l : List Pt) (x : Ms × Rd), (l.foldl (fun a q => q.take a) x).1.kind = x.1.kind
 | [], _ => rfl
 | p :: l, x => by rw [List.foldl_cons, Ov l, (KF p x).2.2]
theorem SV : ∀ (l : List Pt) (x : Ms × Rd), Ok x.1 → Ok (l.foldl (fun a q => q.take a) x).1
 | [], _, h => h
 | p :: l, x, h => SV l (p.take x) (take_ok p x h)
theorem N6 : ∀ (l : List Pt) (x : Ms × Rd), GG x → GG (l.foldl (fun a q => q.take a) x)
 | [], _, h => h
 | p :: l, x, h => N6 l (p.take x) (Ni p x h)
theorem VD (k : Nat) (hk : k < 256) : Ok (ms0 k) :=
 ⟨⟨hk, (show 0 < 18446744073709551616 by decide), (show 0 < 256 by decide), (show 0 < 18446744073709551616 by decide), (show 0 < 18446744073709551616 by decide), (show 0 < 256 by decide), (fun v h => by cases h), (fun v h => by cases h), Cmd.cm0_fits, (show 0 < 256 by decide)⟩, (show 0 ≤ 65536 by decide), (fun v h => by cases h), (fun v h => by cases h), (show 0 ≤ 1000 by decide), (show 0 ≤ 1000 by decide), (show 0 ≤ 1000 by decide), (show 0 ≤ 1000 by decide)⟩
theorem QJ (l : List Pt) (k : Nat) (r : Rd) : (F7 l k r).1.kind = k := Ov l (ms0 k, r)
theorem QK {k : Nat} {r : Rd} (h : (F7 (AK k) k r).2.err = 0) : r.err = 0 ∧ r.rest = (AK k).flatMap (fun p => p.put (F7 (AK k) k r).1) ++ (F7 (AK k) k r).2.rest :=
 Ox (AK k) (ms0 k, r) (M5 k) (fun _ => rfl) (fun _ => rfl) h
theorem Vb {k : Nat} (m : Ms) (hk : m.kind = k) : (.votes ∈ AK k → (m.votes.flatMap voB).length ≤ ((AK k).flatMap (fun p => p.put m)).length) ∧ (.items ∈ AK k → (m.items.flatMap imB).length ≤ ((AK k).flatMap (fun p => p.put m)).length) := by
 have g : ∀ (l : List Pt) (p : Pt), p ∈ l → (p.put m).length ≤ (l.flatMap (fun p => p.put m)).length := by
  intro l p hp
  obtain ⟨s, t, rfl⟩ := List.append_of_mem hp
  simp only [List.flatMap_append, List.flatMap_cons, List.length_append]
  omega
 refine ⟨fun h => Nat.le_trans ?_ (g _ _ h), fun h => Nat.le_trans ?_ (g _ _ h)⟩
 ·show _ ≤ (BI m.votes.length ++ m.votes.flatMap voB).length
  rw [List.length_append]; omega
 ·show _ ≤ (BI m.items.length ++ m.items.flatMap imB).length
  rw [List.length_append]; omega
theorem N5 : ∀ (l : List Pt) (x : Ms × Rd), (.votes ∉ l → (l.foldl (fun a q => q.take a) x).1.votes = x.1.votes) ∧ (.items ∉ l → (l.foldl (fun a q => q.take a) x).1.items = x.1.items)
 | [], _ => ⟨fun _ => rfl, fun _ => rfl⟩
 | p :: l, x => by
  have i := N5 l (p.take x)
  have k := KF p x
  refine ⟨fun h => ?_, fun h => ?_⟩
  ·rw [List.foldl_cons, i.1 (fun hm => h (List.mem_cons_of_mem _ hm)), k.1 (fun e => h (by rw [e]; exact List.mem_cons_self ..))]
  ·rw [List.foldl_cons, i.2 (fun hm => h (List.mem_cons_of_mem _ hm)), k.2.1 (fun e => h (by rw [e]; exact List.mem_cons_self ..))]
theorem P0 {k : Nat} (hk : k < 256) {r : Rd} (hr : r.rest.length ≤ 100000) (h : (F7 (AK k) k r).2.err = 0) : (F7 (AK k) k r).1.Fits ∧ (F7 (AK k) k r).1.Small := by
 have o := SV (AK k) (ms0 k, r) (VD k hk)
 have g := N6 (AK k) (ms0 k, r) ⟨⟨hr, by show 0 ≤ 100001; omega, fun _ => by show 0 + r.rest.length ≤ _; omega⟩, ⟨hr, by show 0 ≤ 100001; omega, fun _ => by show 0 + r.rest.length ≤ _; omega⟩⟩
 have b := (QK h).2
 have fl := N5 (AK k) (ms0 k, r)
 have vi := Vb (F7 (AK k) k r).1 (QJ _ _ _)
 change Ok (F7 (AK k) k r).1 at o
 change GG (F7 (AK k) k r) at g
 change (.votes ∉ AK k → (F7 (AK k) k r).1.votes = []) ∧ (.items ∉ AK k → (F7 (AK k) k r).1.items = []) at fl
 generalize F7 (AK k) k r = x at *
 have hb := congrArg List.length b
 rw [List.length_append] at hb
 have v3 := g.1.h3 h
 have i3 := g.2.h3 h
 refine ⟨o.fits, Nat.le_trans o.h1 (by decide), by omega, by omega, fun v hv => Nat.le_trans (o.h4 v hv) (by decide), fun v hv => Nat.le_trans (o.h5 v hv) (by decide), o.h6, o.h7, o.h8, o.h9, ?_, ?_⟩
 ·by_cases hm : .votes ∈ AK k
  ·have := vi.1 hm; omega
  ·rw [fl.1 hm]; simp
 ·by_cases hm : .items ∈ AK k
  ·have := vi.2 hm; omega
  ·rw [fl.2 hm]; simp
end Go.Proofs.YteiaiilfekojfaaGreat.Msg
end
section
set_option linter.unusedVariables false
set_option linter.unusedSimpArgs false
namespace Go.Proofs.YteiaiilfekojfaaGreat.Msg
open Go.RowKit Wire Sx DrawInv
def rdl (r : Rd) : List Value := [.int .i64 (r.err : Int), .string ⟨r.rest.toArray⟩]
theorem X8 {w0 : World} {L : List Ft} (l : List UInt8) : ∀ w, Hp w0 L w → Calls Tryz.prog 57 #[.string ⟨l.toArray⟩] w fun E w' => ∃ s : Nat, E = .returned (.pointer (some ⟨s, 0, none⟩)) ∧ (True ∧ ∀ g ∈ (cell s 157 (rdl ⟨0, l⟩)).fp, w0.heap.size ≤ g) ∧ Hp w0 (cell s 157 (rdl ⟨0, l⟩) :: L) w' :=
 GL (fun s : Nat => .pointer (some ⟨s, 0, none⟩)) (fun _ => True) (fun s => cell s 157 (rdl ⟨0, l⟩)) (fun _ => BR _ _ _) fun w H => (KD l w).mono fun E w' ⟨h1, h2⟩ => by
  subst h2
  have hb : Blk (w.alloc (.cells (rdC ⟨0, l⟩) 157)) w.heap.size 157 (rdC ⟨0, l⟩) := Blk.new w _ _
  exact ⟨w.heap.size, h1, trivial, fun b hm => by rw [List.mem_singleton.1 hm]; exact ⟨Nat.le_refl _, hb.lt⟩, hb, (Below.refl _ w).alloc (Nat.le_refl _) _⟩
theorem UK {w0 : World} {L R : List Ft} {P : Program} {f : Nat} {args : Array Value} {x x' : Ms × Rd} {V I : Value} {base gr g : Nat} (is : List Nat) (hp : F9 L is = some (cell gr 157 (rdl x.2) :: FB base g x.1 V I :: R)) (hn : is.Nodup) (hfr : Frs w0 is 0 L)
  (hgr : w0.heap.size ≤ gr) (hg : w0.heap.size ≤ g) (hV : OwnIn w0 [] V) (hI : OwnIn w0 [] I)
  (hc : ∀ w, Hp w0 (cell gr 157 (rdl x.2) :: FB base g x.1 V I :: R) w → gr ≠ g → Calls P f args w fun e w' => ∃ V' I', e = .returned (.tuple #[]) ∧ Blk w' gr 157 (rdC x'.2) ∧ ML base g x'.1 V' I' w' ∧ (OwnIn w V.ownBlock.toList V' ∧ OwnIn w I.ownBlock.toList I') ∧ Outs ([gr, g] ++ (V.ownBlock.toList ++ I.ownBlock.toList)) w w') :
  ∀ w, Hp w0 L w → Calls P f args w fun E w' => ∃ V' I', E = .returned (.tuple #[]) ∧ (OwnIn w0 [] V' ∧ OwnIn w0 [] I') ∧ Hp w0 (cell gr 157 (rdl x'.2) :: FB base g x'.1 V' I' :: R) w' := fun w H0 => by
 have H := H0.pick is hp hn hfr
 have hne : gr ≠ g := fun e => (List.pairwise_cons.1 H.dj).1 _ (List.mem_cons_self ..) gr (List.mem_singleton.2 rfl) (by rw [e]; exact List.mem_cons_self ..)
 refine (hc w H hne).mono fun E w' ⟨V', I', h1, h2, h3, h4, h5⟩ => ⟨V', I', h1, ⟨JR H.os.size hV h4.1, JR H.os.size hI h4.2⟩, ?_⟩
 have d1 := Hm h3.2.1 h2 (by decide)
 have d2 := Hm h3.2.2 h2 (by decide)
 have hlt : gr < w'.heap.size := Blk.lt h2
 refine H.two _ _ (h5.mono fun b hb _ => ?_) (BR _ _ _) (JV _ _ _ _ _) (fun b hb => ?_) (fun b hb => ?_) (fun b hb hb2 => ?_) (fun b hb => .inl hb) (fun b hb => .inr (E8 hg hV hI b hb)) h2 h3
 ·simp only [List.mem_append, List.mem_cons, List.not_mem_nil, or_false, cell, FB] at hb ⊢
  rcases hb with (h | h) | h | h
  ·exact .inl h
  ·exact .inr (.inl h)
  ·exact .inr (.inr (.inl h))
  ·exact .inr (.inr (.inr h))
 ·rw [List.mem_singleton.1 hb]
  exact ⟨hlt, .inl (List.mem_singleton.2 rfl)⟩
 ·rcases List.mem_cons.1 hb with rfl | hb
  ·exact ⟨Blk.lt h3.1, .inl (List.mem_cons_self ..)⟩
  ·rcases List.mem_append.1 hb with hb | hb
   ·exact ⟨(BS h3.2.1 b hb).2, (h4.1 b hb).imp (fun h => List.mem_cons_of_mem _ (List.mem_append.2 (.inl h))) id⟩
   ·exact ⟨(BS h3.2.2 b hb).2, (h4.2 b hb).imp (fun h => List.mem_cons_of_mem _ (List.mem_append.2 (.inr h))) id⟩
 ·rw [List.mem_singleton.1 hb] at hb2
  rcases List.mem_cons.1 hb2 with h | h
  ·exact hne h
  ·rcases List.mem_append.1 h with h | h
   ·exact d1 h
   ·exact d2 h
theorem Xp {s : List UInt8} {p : List UInt8 × Nat × Nat} (hp : Frame.takeF s = p) (hs : s.length ≤ 100000) (w : World) : Calls Tryz.prog 56 #[.string ⟨s.toArray⟩] w fun e w' => e = .returned (.tuple #[.string ⟨p.1.toArray⟩, .int .i64 (p.2.1 : Int), .int .i64 (p.2.2 : Int)]) ∧ Below w.heap.size w w' := by
 subst hp
 exact Frame.ftake_any s (by omega) w
theorem TD (s : List UInt8) : (Frame.takeF s).1.length ≤ 65536 := by
 unfold Frame.takeF
 dsimp only
 split
 ·simp
 ·split
  ·simp
  ·split
   ·simp
   ·split
    ·simp
    ·rename_i h _ _
     have : ¬ 65536 < (Rd.num ⟨0, s⟩).1 := fun h' => h (.inr h')
     show (List.take (Rd.num ⟨0, s⟩).1 _).length ≤ 65536
     rw [List.length_take]
     omega
theorem WO {s fi : List UInt8} {fn fe : Nat} (hF : Frame.takeF s = (fi, fn, fe)) (h : fe ≠ 0) : EX s = (ms0 0, fe) := by
 unfold EX; rw [hF]; dsimp only; rw [if_pos h]
theorem WN {s fi : List UInt8} {fn fe : Nat} (hF : Frame.takeF s = (fi, fn, fe)) (h : fe = 0) (hn : fn ≠ s.length) : EX s = (ms0 0, 4) := by
 unfold EX; rw [hF]; dsimp only; rw [if_neg (by omega), if_pos hn]
theorem MM {s fi : List UInt8} {fn fe : Nat} {k : Nat × Rd} {x : Ms × Rd} (hF : Frame.takeF s = (fi, fn, fe)) (h : fe = 0) (hn : fn = s.length) (hk : Rd.byte ⟨0, fi⟩ = k) (hx : x = F7 (AK k.1) k.1 k.2) : EX s = if x.2.end_.err = 0 ∧ C9 x.1 = true then (x.1, 0) else (ms0 0, 4) := by
 unfold EX; rw [hF]; dsimp only; rw [if_neg (by omega), if_neg (by omega), hk, ← hx]
def GM (s : List UInt8) (w : World) (e : Ending) (w' : World) : Prop := ∃ V I, e = .returned (.tuple #[.agg (msL (EX s).1 V I).toArray, .int .i64 ((EX s).2 : Int)]) ∧ w'.ownsRow w.heap.size 92 4 V (EX s).1.votes.length ((EX s).1.votes.flatMap voL) ∧ w'.ownsRow w.heap.size 94 2 I (EX s).1.items.length ((EX s).1.items.flatMap imL) ∧ Below w.heap.size w w'
theorem QI {k : Nat} {p : Pt} {kk : Nat} {r : Rd} (h : (AK kk)[k]? = some p) : F7 ((AK kk).take (k + 1)) kk r = p.take (F7 ((AK kk).take k) kk r) := by
 unfold F7; rw [D1 h, List.foldl_append]; rfl
end Go.Proofs.YteiaiilfekojfaaGreat.Msg
end
section
set_option linter.unusedVariables false
set_option linter.unusedSimpArgs false
namespace Go.Proofs.YteiaiilfekojfaaGreat.Msg
open Go.RowKit Wire

theorem S7 (s : List UInt8) (m : Nat) (h : s.length ≤ m) (hm : m < 4611686018427387904) (rest : List UInt8) : Rd.str ⟨0, CM s ++ rest⟩ (m : Int) = (s, ⟨0, rest⟩) := by
 have e : CM s ++ rest = BI s.length ++ (s ++ rest) := by unfold CM; simp
 have hmm : (max (m : Int) 0).toNat + 1 = m + 1 := by omega
 unfold Rd.str
 rw [e, hmm, Cmd.below_put_back s.length (m + 1) (by omega) (by omega)]
 simp only
 rw [Wire.take_ok _ _ (by rw [List.length_append]; omega)]
 simp
theorem LH (s : List UInt8) (h : s.length ≤ 65536) (rest : List UInt8) : Rd.str ⟨0, CM s ++ rest⟩ 65536 = (s, ⟨0, rest⟩) := by
 have h := S7 s 65536 h (by decide) rest
 rw [show ((65536 : Nat) : Int) = 65536 from rfl] at h
 exact h
theorem TF (s : List UInt8) (h : s.length ≤ 64) (rest : List UInt8) : Rd.str ⟨0, CM s ++ rest⟩ 64 = (s, ⟨0, rest⟩) := by
 have h := S7 s 64 h (by decide) rest
 rw [show ((64 : Nat) : Int) = 64 from rfl] at h
 exact h
theorem JD (x : Nat) (h : x < 256) (rest : List UInt8) : Rd.byte ⟨0, UInt8.ofNat x :: rest⟩ = (x, ⟨0, rest⟩) := Cmd.byte_nat x h rest
theorem RA {n r : Nat} (h : FD n r = true) : Bal.mayB ⟨n, r⟩ = true := by unfold FD at h; rw [Bool.and_eq_true] at h; exact h.1
theorem Tn (n r : Nat) (hn : n < 18446744073709551616) (hr : r < 256) (h : FD n r = true) (rest : List UInt8) : Bal.takeB ⟨0, Bal.balB ⟨n, r⟩ ++ rest⟩ = (⟨n, r⟩, ⟨0, rest⟩) := by
 have e : Bal.balB ⟨n, r⟩ ++ rest = BI n ++ (UInt8.ofNat r :: rest) := by simp [Bal.balB]
 have e1 := DJ n hn (UInt8.ofNat r :: rest)
 have e2 := JD r hr rest
 unfold Bal.takeB
 rw [e, e1]
 dsimp only
 rw [e2]
 dsimp only
 rw [if_pos (RA h), if_pos rfl]
theorem Sv (rest : List UInt8) : ∀ (l acc : List Vo), (∀ v ∈ l, v.Fits ∧ v.value.length ≤ 65536 ∧ FD v.n v.r = true) → tkV l.length ⟨0, l.flatMap voB ++ rest⟩ acc = (⟨0, rest⟩, acc ++ l)
 | [], acc, _ => by simp [tkV]
 | v :: l, acc, h => by
  obtain ⟨hf, hs, hg⟩ := h v (List.mem_cons_self ..)
  have e : (v :: l).flatMap voB ++ rest = BI v.slot ++ (Bal.balB ⟨v.n, v.r⟩ ++ (CM v.value ++ (l.flatMap voB ++ rest))) := by simp [voB]
  have e1 := DJ v.slot hf.h1 (Bal.balB ⟨v.n, v.r⟩ ++ (CM v.value ++ (l.flatMap voB ++ rest)))
  have e2 := Tn v.n v.r hf.h2 hf.h3 hg (CM v.value ++ (l.flatMap voB ++ rest))
  have e3 := LH v.value hs (l.flatMap voB ++ rest)
  rw [e, List.length_cons, KR _ _ _ (by omega) rfl, e1]
  simp only [e2, e3, Nat.add_sub_cancel]
  rw [Sv rest l _ fun x hx => h x (List.mem_cons_of_mem _ hx)]
  simp
theorem Sz (rest : List UInt8) : ∀ (l acc : List Im), (∀ v ∈ l, v.slot < 18446744073709551616 ∧ v.value.length ≤ 65536) → tkI l.length ⟨0, l.flatMap imB ++ rest⟩ acc = (⟨0, rest⟩, acc ++ l)
 | [], acc, _ => by simp [tkI]
 | v :: l, acc, h => by
  obtain ⟨hf, hs⟩ := h v (List.mem_cons_self ..)
  have e : (v :: l).flatMap imB ++ rest = BI v.slot ++ (CM v.value ++ (l.flatMap imB ++ rest)) := by simp [imB]
  have e1 := DJ v.slot hf (CM v.value ++ (l.flatMap imB ++ rest))
  have e3 := LH v.value hs (l.flatMap imB ++ rest)
  rw [e, List.length_cons, KU _ _ _ (by omega) rfl, e1]
  simp only [e3, Nat.add_sub_cancel]
  rw [Sz rest l _ fun x hx => h x (List.mem_cons_of_mem _ hx)]
  simp
theorem Oc : ∀ (last : Nat) (l : List Vo), ES last l = true → ∀ v ∈ l, FD v.n v.r = true
 | _, [], _, v, hv => by cases hv
 | last, x :: l, h, v, hv => by
  unfold ES at h
  simp only [Bool.and_eq_true] at h
  rcases List.mem_cons.1 hv with rfl | hv
  ·exact h.2.2.1
  ·exact Oc x.slot l h.2.2.2 v hv
theorem V5 (p : Pt) (a m : Ms) (rest : List UInt8) (hf : m.Fits) (hm : p.may m = true) (hv : p = .votes → a.votes = []) (hi : p = .items → a.items = []) (h1 : m.value.length ≤ 65536) (h4 : ∀ v ∈ m.votes, v.value.length ≤ 65536) (h5 : ∀ x ∈ m.items, x.value.length ≤ 65536) :
  p.take (a, ⟨0, p.put m ++ rest⟩) = (p.move a m, ⟨0, rest⟩) := by
 cases p with
 | cmd => have e := Cmd.takeC_put m.cmd hm hf.h9 rest; simp only [Pt.take, Pt.put, Pt.move, e]
 | name =>
  have e1 := JD m.cmd.client hf.h9.h1 (BI m.cmd.seq ++ rest)
  have e2 := Cmd.below_put_back m.cmd.seq 4294967296 hf.h9.h2 (by have := hf.h9.h2; omega) rest
  simp only [Pt.take, Pt.put, Pt.move, List.cons_append, e1, e2]
 | reply =>
  have hm : (decide (m.code ≤ 3) && decide (m.text.length ≤ 64)) = true := hm
  rw [Bool.and_eq_true] at hm
  have e1 := JD m.code hf.h10 (CM m.text ++ rest)
  have e2 := TF m.text (of_decide_eq_true hm.2) rest
  simp only [Pt.take, Pt.put, Pt.move, List.cons_append, e1, e2]
 | node =>
  have e1 := JD m.node hf.h6 rest
  simp only [Pt.take, Pt.put, Pt.move, List.cons_append, List.nil_append, e1]
 | turn => have e := Tn m.bn m.br hf.h2 hf.h3 hm rest; simp only [Pt.take, Pt.put, Pt.move, e]
 | floor => have e := DJ m.base hf.h4 rest; simp only [Pt.take, Pt.put, Pt.move, e]
 | slot l => have e := DJ m.slot hf.h5 rest; simp only [Pt.take, Pt.put, Pt.move, e]
 | value => have e := LH m.value h1 rest; simp only [Pt.take, Pt.put, Pt.move, e]
 | votes =>
  have hlen : m.votes.length < 18446744073709551616 ∨ ¬ m.votes.length < 18446744073709551616 := Decidable.em _
  rcases hlen with hlen | hlen
  ·have e1 := DJ m.votes.length hlen (m.votes.flatMap voB ++ rest)
   have e2 := Sv rest m.votes a.votes fun v h => ⟨hf.h7 v h, h4 v h, Oc 0 _ hm v h⟩
   rw [hv rfl] at e2
   simp only [Pt.take, Pt.put, Pt.move, List.append_assoc, e1, hv rfl, e2, List.nil_append]
  ·exfalso
   -- a rising row below 2^62 has fewer than 2^62 members
   have hr : ∀ (l : List Vo) (last : Nat), ES last l = true → last + l.length ≤ 4611686018427387904 ∨ l = [] := by
    intro l
    induction l with
    | nil => intro last _; exact .inr rfl
    | cons x l ih =>
     intro last h
     unfold ES at h
     simp only [Bool.and_eq_true, decide_eq_true_eq] at h
     obtain ⟨g1, g2, _, g4⟩ := h
     left
     rcases ih x.slot g4 with g | g
     ·rw [List.length_cons]; omega
     ·rw [g]; simp; omega
   rcases hr m.votes 0 hm with g | g
   ·omega
   ·rw [g] at hlen; simp at hlen
 | items =>
  have hm : (F8 0 m.items && decide (0 < m.items.length)) = true := hm
  rw [Bool.and_eq_true] at hm
  have hr : ∀ (l : List Im) (last : Nat), F8 last l = true → last + l.length ≤ 4611686018427387904 ∨ l = [] := by
   intro l
   induction l with
   | nil => intro last _; exact .inr rfl
   | cons x l ih =>
    intro last h
    unfold F8 at h
    simp only [Bool.and_eq_true, decide_eq_true_eq] at h
    obtain ⟨g1, g2, g4⟩ := h
    left
    rcases ih x.slot g4 with g | g
    ·rw [List.length_cons]; omega
    ·rw [g]; simp; omega
  have hlen : m.items.length < 18446744073709551616 := by
   rcases hr m.items 0 hm.1 with g | g
   ·omega
   ·rw [g]; decide
  have e1 := DJ m.items.length hlen (m.items.flatMap imB ++ rest)
  have e2 := Sz rest m.items a.items fun v h => ⟨hf.h8 v h, h5 v h⟩
  rw [hi rfl] at e2
  simp only [Pt.take, Pt.put, Pt.move, List.append_assoc, e1, hi rfl, e2, List.nil_append]
theorem Rt (p : Pt) (a m : Ms) : (p ≠ .votes → (p.move a m).votes = a.votes) ∧ (p ≠ .items → (p.move a m).items = a.items) := by
 cases p <;> exact ⟨fun h => by first | rfl | exact absurd rfl h, fun h => by first | rfl | exact absurd rfl h⟩
theorem Qj (m : Ms) (hf : m.Fits) (h1 : m.value.length ≤ 65536) (h4 : ∀ v ∈ m.votes, v.value.length ≤ 65536) (h5 : ∀ x ∈ m.items, x.value.length ≤ 65536) : ∀ (l : List Pt) (a : Ms) (rest : List UInt8), K7 l = true → l.all (fun p => p.may m) = true → (.votes ∈ l → a.votes = []) → (.items ∈ l → a.items = []) →
  l.foldl (fun a q => q.take a) (a, ⟨0, l.flatMap (fun p => p.put m) ++ rest⟩) = (l.foldl (fun a p => p.move a m) a, ⟨0, rest⟩)
 | [], a, rest, _, _, _, _ => rfl
 | p :: l, a, rest, ha, hm, hv, hi => by
  have ha : (l.all (Qd p) && K7 l) = true := ha
  rw [Bool.and_eq_true] at ha
  rw [List.all_cons, Bool.and_eq_true] at hm
  have e : (p :: l).flatMap (fun p => p.put m) ++ rest = p.put m ++ (l.flatMap (fun p => p.put m) ++ rest) := by rw [List.flatMap_cons, List.append_assoc]
  rw [List.foldl_cons, e, V5 p a m _ hf hm.1 (fun e => hv (by rw [e]; exact List.mem_cons_self ..)) (fun e => hi (by rw [e]; exact List.mem_cons_self ..)) h1 h4 h5, List.foldl_cons]
  have k := Rt p a m
  refine Qj m hf h1 h4 h5 l (p.move a m) rest ha.2 hm.2 (fun hq => ?_) (fun hq => ?_)
  ·by_cases e : p = .votes
   ·subst e; have := List.all_eq_true.1 ha.1 _ hq; cases this
   ·rw [k.1 e]; exact hv (List.mem_cons_of_mem _ hq)
  ·by_cases e : p = .items
   ·subst e; have := List.all_eq_true.1 ha.1 _ hq; cases this
   ·rw [k.2 e]; exact hi (List.mem_cons_of_mem _ hq)
structure Ms.Short (m : Ms) : Prop where
 h1 : m.value.length ≤ 65536
 h4 : ∀ v ∈ m.votes, v.value.length ≤ 65536
 h5 : ∀ x ∈ m.items, x.value.length ≤ 65536
theorem Q0 {m : Ms} (h : C9 m = true) : (AK m.kind).all (fun p => p.may m) = true ∧ m = M9 (AK m.kind) m ∧ AK m.kind ≠ [] := by
 unfold C9 at h
 simp only [Bool.and_eq_true, Bool.not_eq_true', decide_eq_true_eq] at h
 exact ⟨h.2.1, h.2.2, fun e => by rw [e] at h; cases h.1⟩
theorem LE (m : Ms) (hf : m.Fits) (hs : m.Short) (hc : C9 m = true) (hl : (BP m).length ≤ 65536) : EX (Frame.frameB (BP m)) = (m, 0) := by
 obtain ⟨c1, c2, _⟩ := Q0 hc
 have hF := Frame.take_put (BP m) [] (by simp [BP]) hl
 rw [List.append_nil] at hF
 have hk : Rd.byte ⟨0, BP m⟩ = (m.kind, ⟨0, (AK m.kind).flatMap (fun p => p.put m)⟩) := JD m.kind hf.h1 _
 have hx := Qj m hf hs.h1 hs.h4 hs.h5 (AK m.kind) (ms0 m.kind) [] (M5 _) c1 (fun _ => rfl) (fun _ => rfl)
 rw [List.append_nil] at hx
 have hx2 : (m, (⟨0, []⟩ : Rd)) = F7 (AK m.kind) m.kind ⟨0, (AK m.kind).flatMap (fun p => p.put m)⟩ := by
  unfold F7
  rw [hx]
  exact congrArg (fun z => (z, (⟨0, []⟩ : Rd))) c2
 rw [MM hF rfl rfl hk hx2, if_pos ⟨by show (Rd.end_ ⟨0, []⟩).err = 0; rfl, hc⟩]
theorem HO {m : Ms} (hc : C9 m = true) (hl : (BP m).length ≤ 65536) : putM m = (Frame.frameB (BP m), 0) := by unfold putM; rw [if_pos hc, if_pos hl]
structure Ms.Lim (m : Ms) : Prop where
 h1 : m.value.length ≤ 300
 h2 : m.votes.length ≤ 100
 h3 : m.items.length ≤ 100
 h4 : ∀ v ∈ m.votes, v.value.length ≤ 300
 h5 : ∀ x ∈ m.items, x.value.length ≤ 300
 h6 : m.cmd.key.length ≤ 300
 h7 : m.cmd.old.length ≤ 300
 h8 : m.cmd.new.length ≤ 300
 h9 : m.text.length ≤ 300
theorem Ms.Lim.short {m : Ms} (h : m.Lim) : m.Short := ⟨Nat.le_trans h.h1 (by decide), fun v hv => Nat.le_trans (h.h4 v hv) (by decide), fun v hv => Nat.le_trans (h.h5 v hv) (by decide)⟩
theorem Ms.Lim.small {m : Ms} (h : m.Lim) (hf : m.Fits) : m.Small := by
 have v1 := Pg voB 1028 m.votes fun v hv => WM v (hf.h7 v hv) (Nat.le_trans (h.h4 v hv) (by decide))
 have v2 := Pg imB 1028 m.items fun v hv => Xl v (hf.h8 v hv) (Nat.le_trans (h.h5 v hv) (by decide))
 have a := h.h2
 have b := h.h3
 exact ⟨Nat.le_trans h.h1 (by decide), by omega, by omega, fun v hv => Nat.le_trans (h.h4 v hv) (by decide), fun v hv => Nat.le_trans (h.h5 v hv) (by decide), Nat.le_trans h.h6 (by decide), Nat.le_trans h.h7 (by decide), Nat.le_trans h.h8 (by decide), Nat.le_trans h.h9 (by decide), by omega, by omega⟩
end Go.Proofs.YteiaiilfekojfaaGreat.Msg
end
section
set_option linter.unusedVariables false
set_option linter.unusedSimpArgs false
namespace Go.Proofs.YteiaiilfekojfaaGreat.Msg
open Go.RowKit Sx Wire DrawInv
set_option maxRecDepth 100000 in
set_option maxHeartbeats 4000000 in
theorem take_any (s : List UInt8)  (w : World) (hsl : s.length ≤ 100000) : Calls Tryz.prog 19 #[.string ⟨s.toArray⟩] w fun e w' => GM s w e w' := by
 obtain ⟨⟨fi, fn, fe⟩, hF⟩ : ∃ x, Frame.takeF s = x := ⟨_, rfl⟩
 have hfi : fi.length ≤ 65536 := by have h := TD s; rw [hF] at h; exact h
 refine A0 (n := 54) _ Tryz.func19 rfl rfl rfl (Hp.start w) (Ae (Ac ?_))
 refine zA D5 rfl fun g1 hg1 => ?_
 refine za rfl (Ad (Aa (Ae (Ac (zm rfl (Ao (v := .tuple #[.string ⟨fi.toArray⟩, .int .i64 (fn : Int), .int .i64 (fe : Int)]) trivial rfl rfl (zk Jr rfl) (fun w H => Xp hF hsl w) (zm rfl (zX (.string ⟨fi.toArray⟩) rfl (zX (.int .i64 (fn : Int)) rfl ?_)))))))))
 refine zX (.int .i64 (fe : Int)) rfl (za rfl (za rfl (za rfl (Ad (Aa (Ae (Ae (Ac (zm rfl ?_)))))))))
 refine zb rfl fun c18 hc18 => ?_
 refine Ad (Aa ?_)
 cases c18
 ·refine Ah rfl (Ax (Aa (Ae (Ae (Ac (zm rfl (zm rfl (Ag (v := .int .i64 (s.length : Int)) trivial rfl rfl (fun ρ w E H => FT E rfl Tryz.underlying9 rfl) ?_))))))))
  refine zb rfl fun c24 hc24 => ?_
  refine Ad (Aa ?_)
  cases c24
  ·refine Ah rfl (Ax (Aa (Ae (Ac (zm rfl ?_)))))
   refine AP (σ := Nat) (fun s => .pointer (some ⟨s, 0, none⟩)) (fun s => _) (fun s => _) trivial rfl rfl (zk KG rfl) (X8 fi) fun gr hgr_ => ?_
   have hgr : w.heap.size ≤ gr := hgr_.2 _ (List.mem_singleton.2 rfl)
   refine za rfl (Ad (Aa (Ae (Ac (zm rfl ?_)))))
   obtain ⟨p29, hp29⟩ : ∃ p, Rd.byte (⟨0, fi⟩ : Rd) = p := ⟨_, rfl⟩
   refine AP (σ := Unit) (fun _ => .int .u8 (p29.1 : Int)) (fun _ => True) (fun _ => _) trivial rfl rfl (zk D7 rfl) (DR (i := 0) (cell gr 157 [.int .i64 (p29.2.err : Int), .string ⟨p29.2.rest.toArray⟩]) rfl (BR _ _ _) rfl (fun w H => (Pv hp29 (by have q0 := (show (⟨0, fi⟩ : Rd).rest.length ≤ 65536 from hfi); omega) w (H.get (i := 0) rfl)).mono fun _ _ h => Ey h)) fun _ _ => ?_
   refine Ag trivial rfl rfl (fun ρ w E H => Bh (cs := [.int .u8 (p29.1 : Int), .int .u64 0, .int .u8 0, .int .u64 0, .int .u64 0, .int .u8 0, .string ⟨[].toArray⟩, .slice none 0 0, .slice none 0 0, .int .u8 0, .int .u32 0, .int .u8 0, .string ⟨[].toArray⟩, .string ⟨[].toArray⟩, .string ⟨[].toArray⟩, .int .u8 0, .int .u8 0, .string ⟨[].toArray⟩]) E rfl rfl (by kernel_rfl)) ?_
   refine zA D5 rfl fun g2 hg2 => ?_
   refine Bz (i := 0) trivial rfl rfl rfl rfl rfl Av rfl rfl rfl (Ad (Aa (Ae (Ae (Ac (zf 0 Aw rfl (zl 0 Tryz.underlying5 rfl ?_)))))))
   refine AP (σ := PS) (fun s => .slice s.A (List.length s.q) s.c) (fun s => _) (fun s => _) trivial rfl rfl (zk FM rfl) (KL p29.1) fun s hs_ => ?_
   obtain ⟨pA, pc, gb, q⟩ := s
   obtain ⟨⟨hq, hpA⟩, hpf⟩ := hs_
   dsimp only at hq hpA hpf
   refine zL Tryz.underlying95 rfl (zm rfl (Ad (Aa (AG ?_))))
   have hGG0 : GG (ms0 p29.1, p29.2) := by have q0 : p29.2.rest.length ≤ fi.length := MP hp29; exact ⟨⟨by show p29.2.rest.length ≤ _; omega, (show 0 ≤ 100001 by decide), fun _ => by show 0 + p29.2.rest.length ≤ _; omega⟩, ⟨by show p29.2.rest.length ≤ _; omega, (show 0 ≤ 100001 by decide), fun _ => by show 0 + p29.2.rest.length ≤ _; omega⟩⟩
   refine Ep (fun W H => H.re (i := 1) rfl (FB w.heap.size g2 (ms0 p29.1) (.slice none 0 0) (.slice none 0 0)) (JV _ _ _ _ _) rfl (fun h => Qa (k := p29.1) h)) ?_
   refine Kw (fun (k : Nat) (x : Ms × Rd) (V : Value) (I : Value) => [(2, .pointer (some ⟨g1, 0, none⟩)), (3, .int .i64 0), (7, .pointer (some ⟨gr, 0, none⟩)), (8, .pointer (some ⟨g2, 0, none⟩)), (33, .slice pA q.length pc), (34, .int .i64 (q.length : Int)), (35, .int .i64 (k : Int))]) (fun (k : Nat) (x : Ms × Rd) (V : Value) (I : Value) => [cell gr 157 [.int .i64 (x.2.err : Int), .string ⟨x.2.rest.toArray⟩], FB w.heap.size g2 x.1 V I, Eg gb q, cell g1 33 [.int .u8 0, .int .u64 0, .int .u8 0, .int .u64 0, .int .u64 0, .int .u8 0, .string ⟨[].toArray⟩, .slice none 0 0, .slice none 0 0, .int .u8 0, .int .u32 0, .int .u8 0, .string ⟨[].toArray⟩, .string ⟨[].toArray⟩, .string ⟨[].toArray⟩, .int .u8 0, .int .u8 0, .string ⟨[].toArray⟩]]) (fun (gk : Nat) (k : Nat) (x : Ms × Rd) (V : Value) (I : Value) => k + gk = q.length ∧ x = F7 ((AK p29.1).take k) p29.1 p29.2 ∧ GG x ∧ OwnIn w [] V ∧ OwnIn w [] I) q.length 0 (ms0 p29.1, p29.2) (.slice none 0 0) (.slice none 0 0) ⟨by omega, rfl, hGG0, F3 w, F3 w⟩ ⟨rfl, rfl, rfl, rfl, rfl, rfl, rfl, trivial⟩ [2, 1, 0, 3] rfl (by decide) ⟨.inl rfl, .inl rfl, .inl rfl, .inl rfl, trivial⟩ fun gk k x V I hF_ => ?_
   obtain ⟨hkg, hxk, hGG, hV, hI⟩ := hF_
   refine Ae (Ac ?_)
   refine zb rfl fun c36 hc36 => ?_
   refine Ad (Aa (Ae ?_))
   cases c36
   ·refine Ah rfl (Cd (AW (AW (BH (Aa (Ae (Ae ?_)))))))
    have hle : (AK p29.1).length ≤ k := by rw [← hq, List.length_map]; have h := hc36; simp [AB] at h; omega
    have hxe : x = F7 (AK p29.1) p29.1 p29.2 := by rw [hxk, List.take_of_length_le hle]
    have hk8 : p29.1 < 256 := by rw [← hp29]; exact Lj _
    have hsm : (Rd.end_ x.2).err = 0 → x.1.Fits ∧ x.1.Small := fun h => by have h0 := (Cmd.end_zero h).1; rw [hxe] at h0 ⊢; exact P0 hk8 (by have q0 : p29.2.rest.length ≤ fi.length := MP hp29; omega) h0
    refine G6 (fun W H => Bf (H.get (i := 1) rfl : (FB _ _ _ _ _).φ W).2.1) ?_
    rintro ⟨A2, k2, rfl⟩
    refine G6 (fun W H => Bf (H.get (i := 1) rfl : (FB _ _ _ _ _).φ W).2.2) ?_
    rintro ⟨B2, l2, rfl⟩
    refine Ac (zm rfl ?_)
    refine AP (σ := Unit) (fun _ => .int .i64 ((Rd.end_ x.2).err : Int)) (fun _ => True) (fun _ => _) trivial rfl rfl (zk Ic rfl) (DR (i := 0) (cell gr 157 [.int .i64 ((Rd.end_ x.2).err : Int), .string ⟨((Rd.end_ x.2).rest).toArray⟩]) rfl (BR _ _ _) rfl (fun w H => (Xy gr x.2 w (H.get (i := 0) rfl)).mono fun _ _ h => Ey h)) fun _ _ => ?_
    refine zb rfl fun c46 hc46 => ?_
    refine zm rfl ?_
    cases c46
    ·refine Ag (gK rfl) rfl rfl (fun ρ w E H => Iu (cs := msL x.1 (.slice A2 x.1.votes.length k2) (.slice B2 x.1.items.length l2)) (part := msL x.1 (.slice A2 x.1.votes.length k2) (.slice B2 x.1.items.length l2)) E ((H.get (i := 1) rfl : (FB _ _ _ _ _).φ w).1) rfl rfl Tryz.underlying33 rfl Av rfl rfl) (Ao (v := .int .i64 (if C9 x.1 then 0 else 2)) (gK rfl) rfl rfl (zk ER rfl) (fun w H => check_any x.1 A2 B2 k2 l2 w (hsm (by have h := hc46; simp [AB] at h; omega)).1 (hsm (by have h := hc46; simp [AB] at h; omega)).2 (Oo (H.get (i := 1) rfl))) ?_)
     refine zb rfl fun c50 hc50 => ?_
     refine zp rfl (Ad (Aa ?_))
     cases c50
     ·refine Ah rfl (Ax (Aa (Ae (Ac (Ag trivial rfl rfl (fun ρ w E H => Iu (cs := msL x.1 (.slice A2 x.1.votes.length k2) (.slice B2 x.1.items.length l2)) (part := msL x.1 (.slice A2 x.1.votes.length k2) (.slice B2 x.1.items.length l2)) E ((H.get (i := 1) rfl : (FB _ _ _ _ _).φ w).1) rfl rfl Tryz.underlying33 rfl Av rfl rfl) (Bz (i := 3) trivial rfl rfl rfl rfl rfl Av rfl rfl rfl (za rfl (Ad (Aa ?_)))))))))
      refine Am ?_
      refine Ai _ (fun a w K H => Ja K [.agg #[.int .u8 (x.1.kind : Int), .int .u64 (x.1.bn : Int), .int .u8 (x.1.br : Int), .int .u64 (x.1.base : Int), .int .u64 (x.1.slot : Int), .int .u8 (x.1.node : Int), .string ⟨x.1.value.toArray⟩, .slice A2 x.1.votes.length k2, .slice B2 x.1.items.length l2, .int .u8 (x.1.cmd.client : Int), .int .u32 (x.1.cmd.seq : Int), .int .u8 (x.1.cmd.kind : Int), .string ⟨x.1.cmd.key.toArray⟩, .string ⟨x.1.cmd.old.toArray⟩, .string ⟨x.1.cmd.new.toArray⟩, .int .u8 (x.1.cmd.set : Int), .int .u8 (x.1.code : Int), .string ⟨x.1.text.toArray⟩], .int .i64 0] rfl ⟨⟨_, rfl, AM (H.get (i := 3) rfl) Tryz.underlying33 rfl Av⟩, rfl, trivial⟩) (fun w H => ?_)
      have ht := MM hF (by have h := hc18; simp [AB] at h; omega) (by have h := hc24; simp [AB] at h; omega) hp29 hxe
      rw [if_pos ⟨by have h := hc46; simp [AB] at h; omega, by cases hb : C9 x.1 with | true => rfl | false => (have h := hc50; rw [hb] at h; simp [AB] at h)⟩] at ht
      unfold GM
      rw [ht]
      have hM : ML _ _ _ _ _ w := H.get (i := 1) rfl
      exact ⟨_, _, rfl, hM.2.1, hM.2.2, H.toBelow ⟨(zq hgr), (E8 hg2 hV hI), hpf, (zq hg1), trivial⟩⟩
     ·refine Ap rfl (Ae (Ac (Ag trivial rfl rfl (fun ρ w E H => Bh (cs := [.int .u8 0, .int .u64 0, .int .u8 0, .int .u64 0, .int .u64 0, .int .u8 0, .string ⟨[].toArray⟩, .slice none 0 0, .slice none 0 0, .int .u8 0, .int .u32 0, .int .u8 0, .string ⟨[].toArray⟩, .string ⟨[].toArray⟩, .string ⟨[].toArray⟩, .int .u8 0, .int .u8 0, .string ⟨[].toArray⟩]) E rfl rfl (by kernel_rfl)) (Bz (i := 3) trivial rfl rfl rfl rfl rfl Av rfl rfl rfl (za rfl (Ad (Aa (Am (Ak ?_)))))))))
      refine Ai _ (fun a w K H => Ja K [.agg #[.int .u8 0, .int .u64 0, .int .u8 0, .int .u64 0, .int .u64 0, .int .u8 0, .string ⟨[].toArray⟩, .slice none 0 0, .slice none 0 0, .int .u8 0, .int .u32 0, .int .u8 0, .string ⟨[].toArray⟩, .string ⟨[].toArray⟩, .string ⟨[].toArray⟩, .int .u8 0, .int .u8 0, .string ⟨[].toArray⟩], .int .i64 4] rfl ⟨⟨_, rfl, AM (H.get (i := 3) rfl) Tryz.underlying33 rfl Av⟩, rfl, trivial⟩) (fun w H => ?_)
      have ht := MM hF (by have h := hc18; simp [AB] at h; omega) (by have h := hc24; simp [AB] at h; omega) hp29 hxe
      rw [if_neg (fun hh => by have h := hc50; rw [hh.2] at h; simp [AB] at h)] at ht
      unfold GM
      rw [ht]
      exact ⟨.slice none 0 0, .slice none 0 0, rfl, World.ownsRow_nil _ _ _ _, World.ownsRow_nil _ _ _ _, H.toBelow ⟨(zq hgr), (E8 hg2 hV hI), hpf, (zq hg1), trivial⟩⟩
    ·refine zo rfl (zo rfl (zo rfl (zp rfl (Ad (Aa (Ap rfl (Ae (Ac (Ag trivial rfl rfl (fun ρ w E H => Bh (cs := [.int .u8 0, .int .u64 0, .int .u8 0, .int .u64 0, .int .u64 0, .int .u8 0, .string ⟨[].toArray⟩, .slice none 0 0, .slice none 0 0, .int .u8 0, .int .u32 0, .int .u8 0, .string ⟨[].toArray⟩, .string ⟨[].toArray⟩, .string ⟨[].toArray⟩, .int .u8 0, .int .u8 0, .string ⟨[].toArray⟩]) E rfl rfl (by kernel_rfl)) ?_)))))))))
     refine Bz (i := 3) trivial rfl rfl rfl rfl rfl Av rfl rfl rfl (za rfl (Ad (Aa (Am (Ak ?_)))))
     refine Ai _ (fun a w K H => Ja K [.agg #[.int .u8 0, .int .u64 0, .int .u8 0, .int .u64 0, .int .u64 0, .int .u8 0, .string ⟨[].toArray⟩, .slice none 0 0, .slice none 0 0, .int .u8 0, .int .u32 0, .int .u8 0, .string ⟨[].toArray⟩, .string ⟨[].toArray⟩, .string ⟨[].toArray⟩, .int .u8 0, .int .u8 0, .string ⟨[].toArray⟩], .int .i64 4] rfl ⟨⟨_, rfl, AM (H.get (i := 3) rfl) Tryz.underlying33 rfl Av⟩, rfl, trivial⟩) (fun w H => ?_)
     have ht := MM hF (by have h := hc18; simp [AB] at h; omega) (by have h := hc24; simp [AB] at h; omega) hp29 hxe
     rw [if_neg (fun hh => by have h := hc46; simp [AB] at h; omega)] at ht
     unfold GM
     rw [ht]
     exact ⟨.slice none 0 0, .slice none 0 0, rfl, World.ownsRow_nil _ _ _ _, World.ownsRow_nil _ _ _ _, H.toBelow ⟨(zq hgr), (E8 hg2 hV hI), hpf, (zq hg1), trivial⟩⟩
   ·refine Ap rfl (Ax (Aa (Ae (AG (Ae ?_)))))
    have hkl : k < q.length := by have h := hc36; simp [AB] at h; omega
    obtain ⟨⟨p, gc⟩, hx⟩ : ∃ x, q[k]? = some x := ⟨_, List.getElem?_eq_getElem hkl⟩
    obtain rfl := hpA (by rintro rfl; cases hx)
    have hp : (AK p29.1)[k]? = some p := by rw [← hq, List.getElem?_map, hx]; rfl
    have hql : q.length ≤ 4 := by have h := (JQ p29.1).2; rw [← hq, List.length_map] at h; exact h
    refine Ac (Ag (v := .pointer (some ((⟨gb, 0, none⟩ : Addr).add (k * 4)))) trivial rfl rfl (fun ρ w E H => BA (i := k) E rfl Tryz.underlying95 Az rfl rfl hkl) (Ag (v := .agg #[.func (.func p.putF) #[] #[], .func (.func p.takeF) #[] #[], .func (.func p.moveF) #[] #[], .func (.func p.mayF) #[] (p.cap gc).toArray]) trivial rfl rfl (fun ρ w E H => C7 (cs := [.func (.func p.putF) #[] #[], .func (.func p.takeF) #[] #[], .func (.func p.moveF) #[] #[], .func (.func p.mayF) #[] (p.cap gc).toArray]) E (LM (H.get (i := 2) rfl) hx) rfl rfl Tryz.underlying101 rfl Az) ?_))
    refine zA AY rfl fun g3 hg3 => ?_
    refine Bz (i := 0) trivial rfl rfl rfl rfl rfl Az rfl rfl rfl (Ad (Aa (Ac (zf 1 Jp rfl (zl 0 Tryz.underlying98 rfl (zm rfl ?_))))))
    refine Kv (fun _ _ => .tuple #[]) (fun V2 I2 => OwnIn w [] V2 ∧ OwnIn w [] I2) (fun V2 I2 => _) trivial rfl rfl (fun ρ w E => Lr E (Qq p) rfl rfl rfl rfl) (UK (x := x) (x' := p.take x) [1, 2, 0, 3, 4] rfl (by decide) ⟨.inl rfl, .inl rfl, .inl rfl, .inl rfl, .inl rfl, trivial⟩ hgr hg2 hV hI (fun w H hne => Ve p _ gr g2 x.2 x.1 V I w (H.get (i := 0) rfl) (H.get (i := 1) rfl) hne H.os.size hGG)) fun V2 I2 hVI => ?_
    refine Ad (AA (Aa (Ac (Ag (v := .int .i64 ((k + 1 : Nat) : Int)) trivial rfl rfl (fun ρ w E H => BQ E rfl rfl rfl (by rw [IntKind.wrap_i64]; omega)) (zm rfl (Ad ?_))))))
    refine B7 (gk - 1) (k + 1, Pt.take p x, V2, I2) (by omega) ⟨by omega, by rw [QI hp, hxk], Ni p x hGG, hVI.1, hVI.2⟩ ⟨rfl, rfl, rfl, rfl, rfl, rfl, rfl, trivial⟩ [0, 1, 3, 4] rfl (by decide) ⟨.inl rfl, .inl rfl, .inr (zq hg3), .inl rfl, .inl rfl, trivial⟩
  ·refine Ap rfl (Ae (Ac (Ag trivial rfl rfl (fun ρ w E H => Bh (cs := [.int .u8 0, .int .u64 0, .int .u8 0, .int .u64 0, .int .u64 0, .int .u8 0, .string ⟨[].toArray⟩, .slice none 0 0, .slice none 0 0, .int .u8 0, .int .u32 0, .int .u8 0, .string ⟨[].toArray⟩, .string ⟨[].toArray⟩, .string ⟨[].toArray⟩, .int .u8 0, .int .u8 0, .string ⟨[].toArray⟩]) E rfl rfl (by kernel_rfl)) (Bz (i := 0) trivial rfl rfl rfl rfl rfl Av rfl rfl rfl (za rfl (Ad (Aa (Am (Ak ?_)))))))))
   refine Ai _ (fun a w K H => Ja K [.agg #[.int .u8 0, .int .u64 0, .int .u8 0, .int .u64 0, .int .u64 0, .int .u8 0, .string ⟨[].toArray⟩, .slice none 0 0, .slice none 0 0, .int .u8 0, .int .u32 0, .int .u8 0, .string ⟨[].toArray⟩, .string ⟨[].toArray⟩, .string ⟨[].toArray⟩, .int .u8 0, .int .u8 0, .string ⟨[].toArray⟩], .int .i64 4] rfl ⟨⟨_, rfl, AM (H.get (i := 0) rfl) Tryz.underlying33 rfl Av⟩, rfl, trivial⟩) (fun w H => ?_)
   have ht : EX s = (ms0 0, 4) := WN hF (by have h := hc18; simp [AB] at h; omega) (by have h := hc24; simp [AB] at h; omega)
   unfold GM
   rw [ht]
   exact ⟨.slice none 0 0, .slice none 0 0, rfl, World.ownsRow_nil _ _ _ _, World.ownsRow_nil _ _ _ _, H.toBelow ⟨(zq hg1), trivial⟩⟩
 ·refine Ap rfl (Ae (Ac (Ag trivial rfl rfl (fun ρ w E H => Bh (cs := [.int .u8 0, .int .u64 0, .int .u8 0, .int .u64 0, .int .u64 0, .int .u8 0, .string ⟨[].toArray⟩, .slice none 0 0, .slice none 0 0, .int .u8 0, .int .u32 0, .int .u8 0, .string ⟨[].toArray⟩, .string ⟨[].toArray⟩, .string ⟨[].toArray⟩, .int .u8 0, .int .u8 0, .string ⟨[].toArray⟩]) E rfl rfl (by kernel_rfl)) (zm rfl (Bz (i := 0) trivial rfl rfl rfl rfl rfl Av rfl rfl rfl (za rfl (Ad (Aa (Am ?_)))))))))
  refine Ak ?_
  refine Ai _ (fun a w K H => Ja K [.agg #[.int .u8 0, .int .u64 0, .int .u8 0, .int .u64 0, .int .u64 0, .int .u8 0, .string ⟨[].toArray⟩, .slice none 0 0, .slice none 0 0, .int .u8 0, .int .u32 0, .int .u8 0, .string ⟨[].toArray⟩, .string ⟨[].toArray⟩, .string ⟨[].toArray⟩, .int .u8 0, .int .u8 0, .string ⟨[].toArray⟩], .int .i64 (fe : Int)] rfl ⟨⟨_, rfl, AM (H.get (i := 0) rfl) Tryz.underlying33 rfl Av⟩, rfl, trivial⟩) (fun w H => ?_)
  have ht : EX s = (ms0 0, fe) := WO hF (by have h := hc18; simp [AB] at h; omega)
  unfold GM
  rw [ht]
  exact ⟨.slice none 0 0, .slice none 0 0, rfl, World.ownsRow_nil _ _ _ _, World.ownsRow_nil _ _ _ _, H.toBelow ⟨(zq hg1), trivial⟩⟩
end Go.Proofs.YteiaiilfekojfaaGreat.Msg
end
section
set_option linter.unusedVariables false
set_option linter.unusedSimpArgs false
namespace Go.Proofs.YteiaiilfekojfaaGreat.Msg
open Go.RowKit Sx Wire DrawInv
theorem NG {w0 : World} {L : List Ft} {m : Ms} {z : Int} (s : List UInt8) (hs : s.length ≤ 100000) {e : Nat} (h : EX s = (m, e)) (hz : (e : Int) = z) : ∀ w, Hp w0 L w → Calls Tryz.prog 19 #[.string ⟨s.toArray⟩] w fun E w' => ∃ V I, E = .returned (.tuple #[.agg (msL m V I).toArray, .int .i64 z]) ∧ (OwnIn w0 [] V ∧ OwnIn w0 [] I) ∧
  Hp w0 (BU [] w0.heap.size 92 4 V m.votes.length (m.votes.flatMap voL) :: BU [] w0.heap.size 94 2 I m.items.length (m.items.flatMap imL) :: L) w' := fun w H => (take_any s w hs).mono fun E w' hT => by
 subst hz
 unfold GM at hT
 rw [h] at hT
 obtain ⟨V, I, h1, h2, h3, h4⟩ := hT
 have f1 : OwnIn w0 [] V := fun b hb => .inr (Nat.le_trans H.os.size (BS h2 b hb).1)
 have f2 : OwnIn w0 [] I := fun b hb => .inr (Nat.le_trans H.os.size (BS h3 b hb).1)
 refine ⟨V, I, h1, ⟨f1, f2⟩, ?_⟩
 have H2 := H.add h4 (BU [] w0.heap.size 94 2 I m.items.length (m.items.flatMap imL)) (BF _ _ _ _ _ _ _) (fun g hg => by
  have hg : g ∈ I.ownBlock.toList := by simpa [BU] using hg
  exact ⟨(BS h3 g hg).2, (BS h3 g hg).1⟩) (CY h3 H.os.size)
 refine H2.know _ (BF _ _ _ _ _ _ _) (fun g hg => ?_) (CY h2 H.os.size)
 have hg : g ∈ V.ownBlock.toList := by simpa [BU] using hg
 refine ⟨(BS h2 g hg).2, fun q hq hgq => ?_⟩
 rcases List.mem_cons.1 hq with rfl | hq
 ·have hgq : g ∈ I.ownBlock.toList := by simpa [BU] using hgq
  exact JS h2 h3 (by decide) g hg hgq
 ·have h5 := (H.ok q hq).2.1 g hgq
  have h6 := (BS h2 g hg).1
  omega
theorem FS (w : World) (m : Ms) (hv : m.votes = []) (hi : m.items = []) : MsRows w m none none := ⟨by rw [hv]; exact Rows.nil _ _ _ _, by rw [hi]; exact Rows.nil _ _ _ _⟩
theorem KQ : Ms.Fits (⟨4, 2, 1, 0, 5, 0, [], [], [], Cmd.cm0, 0, []⟩ : Ms) := ⟨(show 4 < 256 by decide), (show 2 < 18446744073709551616 by decide), (show 1 < 256 by decide), (show 0 < 18446744073709551616 by decide), (show 5 < 18446744073709551616 by decide), (show 0 < 256 by decide), (fun v h => by cases h), (fun v h => by cases h), Cmd.cm0_fits, (show 0 < 256 by decide)⟩
theorem wm_lim : Ms.Lim (⟨4, 2, 1, 0, 5, 0, [], [], [], Cmd.cm0, 0, []⟩ : Ms) := ⟨(show 0 ≤ 300 by decide), (show 0 ≤ 100 by decide), (show 0 ≤ 100 by decide), (fun v h => by cases h), (fun v h => by cases h), (show 0 ≤ 300 by decide), (show 0 ≤ 300 by decide), (show 0 ≤ 300 by decide), (show 0 ≤ 300 by decide)⟩
theorem PU (k : Nat) (hk : k < 256) : (ms0 k).Fits := (VD k hk).fits
theorem Xc (k : Nat) : (ms0 k).Lim := ⟨(show 0 ≤ 300 by decide), (show 0 ≤ 100 by decide), (show 0 ≤ 100 by decide), (fun v h => by cases h), (fun v h => by cases h), (show 0 ≤ 300 by decide), (show 0 ≤ 300 by decide), (show 0 ≤ 300 by decide), (show 0 ≤ 300 by decide)⟩
theorem MZ : C9 (⟨4, 2, 1, 0, 5, 0, [], [], [], Cmd.cm0, 0, []⟩ : Ms) = true := by decide
theorem L8 : BP (⟨4, 2, 1, 0, 5, 0, [], [], [], Cmd.cm0, 0, []⟩ : Ms) = [4, 2, 1, 5] := by decide
theorem Ul : C9 (ms0 0) = false := by decide
theorem XU : ∃ s : List UInt8, putM (⟨4, 2, 1, 0, 5, 0, [], [], [], Cmd.cm0, 0, []⟩ : Ms) = (s, 0) ∧ s.length = 13 ∧ s.drop 9 = [4, 2, 1, 5] ∧ EX s = ((⟨4, 2, 1, 0, 5, 0, [], [], [], Cmd.cm0, 0, []⟩ : Ms), 0) := by
 have h1 := HO MZ (by rw [L8]; decide)
 have h2 := LE _ KQ wm_lim.short MZ (by rw [L8]; decide)
 rw [L8] at h1 h2
 refine ⟨_, h1, ?_, ?_, h2⟩
 ·have h8 := Frame.leB_length 8 (Frame.crcSum [4, 2, 1, 5])
  show (BI 4 ++ (Frame.leB 8 (Frame.crcSum [4, 2, 1, 5]) ++ [4, 2, 1, 5])).length = 13
  rw [List.length_append, List.length_append, h8]
  rfl
 ·have h8 := Frame.leB_length 8 (Frame.crcSum [4, 2, 1, 5])
  show (BI 4 ++ (Frame.leB 8 (Frame.crcSum [4, 2, 1, 5]) ++ [4, 2, 1, 5])).drop 9 = _
  rw [← List.append_assoc]
  exact List.drop_left' (by rw [List.length_append, h8]; rfl)

set_option maxRecDepth 100000 in
set_option maxHeartbeats 4000000 in
theorem LC   (w : World) : Calls Tryz.prog 10 #[] w fun e w' => e = .returned (.bool true) ∧ Below w.heap.size w w' := by
 obtain ⟨sw, hwp, hwl, hwd, hwt⟩ := XU
 refine A0 (n := 49) _ Tryz.func10 rfl rfl rfl (Hp.start w) (Ae (Ac (za rfl (Ad (Aa (Ae (Ac (Ag trivial rfl rfl (fun ρ w E H => Bh (cs := [.int .u64 2, .int .u8 1]) E rfl rfl (by kernel_rfl)) (Ag trivial rfl rfl (fun ρ w E H => Bh (cs := [.int .u8 4, .int .u64 2, .int .u8 1, .int .u64 0, .int .u64 5, .int .u8 0, .string ⟨[].toArray⟩, .slice none 0 0, .slice none 0 0, .int .u8 0, .int .u32 0, .int .u8 0, .string ⟨[].toArray⟩, .string ⟨[].toArray⟩, .string ⟨[].toArray⟩, .int .u8 0, .int .u8 0, .string ⟨[].toArray⟩]) E rfl rfl (by kernel_rfl)) ?_)))))))))
 refine zA D5 rfl fun g1 hg1 => ?_
 refine Bz (i := 0) trivial rfl rfl rfl rfl rfl Av rfl rfl rfl (Ad (Aa (Ae (Ac (zw 0 Tryz.underlying33 Av rfl (Ao (v := .tuple #[.string ⟨sw.toArray⟩, .int .i64 0]) trivial rfl rfl (zk Ig rfl) (fun w H => (put_any (⟨4, 2, 1, 0, 5, 0, [], [], [], Cmd.cm0, 0, []⟩ : Ms) none none 0 0 w KQ (wm_lim.small KQ) (FS _ _ rfl rfl)).mono fun _ _ h => ⟨by rw [h.1, hwp]; rfl, h.2⟩) (zm rfl (zX (.string ⟨sw.toArray⟩) rfl (zX (.int .i64 0) rfl ?_)))))))))
 refine za rfl (za rfl (Ad (Aa (Ae (Ac (zm rfl ?_))))))
 refine Kv (fun V I => .tuple #[.agg (msL (⟨4, 2, 1, 0, 5, 0, [], [], [], Cmd.cm0, 0, []⟩ : Ms) V I).toArray, .int .i64 0]) (fun V I => OwnIn w [] V ∧ OwnIn w [] I) (fun V I => _) trivial rfl rfl (zk Hh rfl) (NG sw (by omega) hwt rfl) fun V13 I13 hVI13 => ?_
 refine CZ (fun W H => Bf (H.get (i := 0) rfl)) ?_
 rintro ⟨A13, k13, rfl⟩
 refine CZ (fun W H => Bf (H.get (i := 1) rfl)) ?_
 rintro ⟨B13, l13, rfl⟩
 refine zm rfl (zx rfl (zX (.int .i64 0) rfl ?_))
 refine zA D5 rfl fun g2 hg2 => ?_
 refine Bz (i := 0) trivial rfl rfl rfl rfl rfl Av rfl rfl rfl (za rfl (Ad (Aa (Ae (Ac (zm rfl (zc true rfl (by decide) (zm rfl (zm rfl ?_)))))))))
 refine Ag (v := .int .i64 (sw.length : Int)) (gK rfl) rfl rfl (fun ρ w E H => FT E rfl Tryz.underlying9 rfl) (zc true rfl (by rw [hwl]; decide) (zp rfl (zm rfl (zm rfl (Ag (v := .string ⟨[4, 2, 1, 5].toArray⟩) (gK rfl) rfl rfl (fun ρ w E H => RE (n := 9) (r := [4, 2, 1, 5]) E rfl Tryz.underlying9 rfl rfl (by omega) hwd) (Ag (v := .bool true) (gK rfl) rfl rfl (fun ρ w E H => MR E rfl rfl rfl (by decide)) (zp rfl (zm rfl (zm rfl ?_)))))))))
 refine zc true rfl (by decide) (zp rfl (zm rfl (zw 0 Tryz.underlying33 Av rfl (zw 3 Tryz.underlying33 Av rfl (Ao (v := .bool true) (gK rfl) rfl rfl (zk Hi rfl) (fun w H => (PC (⟨4, 2, 1, 0, 5, 0, [], [], [], Cmd.cm0, 0, []⟩ : Ms) (⟨4, 2, 1, 0, 5, 0, [], [], [], Cmd.cm0, 0, []⟩ : Ms) A13 B13 none none k13 l13 0 0 w ⟨EZ JJ (by decide) (H.get (i := 1) rfl), EZ JX (by decide) (H.get (i := 2) rfl)⟩ (FS _ _ rfl rfl) (by decide) (by decide)).mono fun _ _ h => ⟨by rw [h.1]; simp, h.2⟩) (zp rfl (zm rfl (Ag (gK rfl) rfl rfl (fun ρ w E H => Bh (cs := [.int .u8 0, .int .u64 0, .int .u8 0, .int .u64 0, .int .u64 0, .int .u8 0, .string ⟨[].toArray⟩, .slice none 0 0, .slice none 0 0, .int .u8 0, .int .u32 0, .int .u8 0, .string ⟨[].toArray⟩, .string ⟨[].toArray⟩, .string ⟨[].toArray⟩, .int .u8 0, .int .u8 0, .string ⟨[].toArray⟩]) E rfl rfl (by kernel_rfl)) (Ao (v := .int .i64 2) (gK rfl) rfl rfl (zk ER rfl) (fun w H => (check_any (ms0 0) none none 0 0 w (PU 0 (by decide)) ((Xc 0).small (PU 0 (by decide))) (FS _ _ rfl rfl)).mono fun _ _ h => ⟨by rw [h.1, Ul]; rfl, h.2⟩) ?_)))))))))
 refine zc true rfl (by decide) (zp rfl (zm rfl (zw 3 Tryz.underlying33 Av rfl (Ao (v := .int .i64 0) (gK rfl) rfl rfl (zk ER rfl) (fun w H => (check_any (⟨4, 2, 1, 0, 5, 0, [], [], [], Cmd.cm0, 0, []⟩ : Ms) none none 0 0 w KQ (wm_lim.small KQ) (FS _ _ rfl rfl)).mono fun _ _ h => ⟨by rw [h.1, MZ]; rfl, h.2⟩) (zc true rfl (by decide) (zp rfl (za rfl (Ad (Aa ?_)))))))))
 refine Am ?_
 refine Ai (.bool true) (fun a w K H => BC K rfl rfl) (fun w H => ?_)
 exact ⟨rfl, H.toBelow ⟨(zq hg2), hVI13.1.fresh, hVI13.2.fresh, (zq hg1), trivial⟩⟩
end Go.Proofs.YteiaiilfekojfaaGreat.Msg
end
section
set_option linter.unusedVariables false
set_option linter.unusedSimpArgs false
namespace Go.Proofs.YteiaiilfekojfaaGreat.Net
open Go.RowKit Sx Wire DrawInv
open Msg
def FX (bag : List Pa) (M : Df) (f t : Nat) (k : Int) : List Pa × (Nat × Nat × Ms) × Nat :=
 if BJ f t = true then (if Qu M f t = true then (bag, (0, 0, ms0 0), 13) else match Dq bag f t k with
  | none => (bag, (0, 0, ms0 0), 11)
  | some i => if (EX ((bag[i]?.map (·.bytes)).getD [])).2 ≠ 0 then (bag, (0, 0, ms0 0), (EX ((bag[i]?.map (·.bytes)).getD [])).2) else (bag.eraseIdx i, (f, t, (EX ((bag[i]?.map (·.bytes)).getD [])).1), 0))
 else (bag, (0, 0, ms0 0), 2)
def Q8 (base g gm : Nat) (V : Value) (M : Df) (r : List Pa × (Nat × Nat × Ms) × Nat) (w : World) (e : Ending) (w' : World) : Prop :=
 ∃ U I, e = .returned (.tuple #[.agg (.int .u8 (r.2.1.1 : Int) :: .int .u8 (r.2.1.2.1 : Int) :: msL r.2.1.2.2 U I).toArray, .int .i64 (r.2.2 : Int)]) ∧ K8 base g gm V r.1 M w w' ∧
  w'.ownsRow w.heap.size 92 4 U r.2.1.2.2.votes.length (r.2.1.2.2.votes.flatMap voL) ∧ w'.ownsRow w.heap.size 94 2 I r.2.1.2.2.items.length (r.2.1.2.2.items.flatMap imL) ∧
  (∀ b ∈ U.ownBlock.toList, b ∉ g :: gm :: V.ownBlock.toList) ∧ (∀ b ∈ I.ownBlock.toList, b ∉ g :: gm :: V.ownBlock.toList)
theorem IW {base g gm : Nat} {V : Value} {bag : List Pa} {M : Df} {w w' : World} {c : Nat} (h : K8 base g gm V bag M w w') : Q8 base g gm V M (bag, (0, 0, ms0 0), c) w (.returned (.tuple #[.agg #[.int .u8 0, .int .u8 0, .int .u8 0, .int .u64 0, .int .u8 0, .int .u64 0, .int .u64 0, .int .u8 0, .string ⟨[].toArray⟩, .slice none 0 0, .slice none 0 0, .int .u8 0, .int .u32 0, .int .u8 0, .string ⟨[].toArray⟩, .string ⟨[].toArray⟩, .string ⟨[].toArray⟩, .int .u8 0, .int .u8 0, .string ⟨[].toArray⟩], .int .i64 (c : Int)])) w' :=
 ⟨.slice none 0 0, .slice none 0 0, rfl, h, World.ownsRow_nil _ _ _ _, World.ownsRow_nil _ _ _ _, (fun b hb => by simp [Value.ownBlock] at hb), (fun b hb => by simp [Value.ownBlock] at hb)⟩

set_option maxRecDepth 100000 in
set_option maxHeartbeats 4000000 in
theorem take_any (base g gm : Nat) (V : Value) (bag : List Pa) (M : Df) (f t : Nat) (k : Int) (w : World) (hn : (E7 base g gm V bag M).φ w) (hb512 : bag.length ≤ 512) (hT : NU M) (hby : ∀ p ∈ bag, p.bytes.length ≤ 100000) : Calls Tryz.prog 23 #[.pointer (some ⟨g, 0, none⟩), .int .u8 (f : Int), .int .u8 (t : Int), .int .i64 (k)] w fun e w' => Q8 base g gm V M (FX bag M f t k) w e w' := by
 obtain ⟨Ab, cb, rfl⟩ := Bf hn.2.1
 have hv0 : OwnIn w (Value.slice Ab bag.length cb).ownBlock.toList (.slice Ab bag.length cb) := fun b hb => .inl hb
 refine A0 (n := 69) _ Tryz.func23 rfl rfl rfl (Le hn) (Ae (Ac ?_))
 refine zA AI rfl fun g1 hg1 => ?_
 refine za rfl (Ad (Aa (Ae (Ae (Ac (zm rfl (Ag (v := .bool false) trivial rfl rfl (fun ρ w E H => Is E rfl Tryz.underlying48 rfl rfl rfl) (Ad (Aa ?_)))))))))
 refine Ah rfl (Ax (Aa (Ae (Ae (Ac (zm rfl (zm rfl ?_)))))))
 refine CN (b := (BJ f t)) trivial rfl rfl (zk Ei rfl) (fun w H => IU f t w) fun c18 hc18 => ?_
 cases c18
 ·refine zn true rfl (Ad (Aa (Ap rfl (Ae (Ac (Ag trivial rfl rfl (fun ρ w E H => Bh (cs := [.int .u8 0, .int .u8 0, .int .u8 0, .int .u64 0, .int .u8 0, .int .u64 0, .int .u64 0, .int .u8 0, .string ⟨[].toArray⟩, .slice none 0 0, .slice none 0 0, .int .u8 0, .int .u32 0, .int .u8 0, .string ⟨[].toArray⟩, .string ⟨[].toArray⟩, .string ⟨[].toArray⟩, .int .u8 0, .int .u8 0, .string ⟨[].toArray⟩]) E rfl rfl (by kernel_rfl)) (zS 0 Aj rfl (za rfl (Ad ?_)))))))))
  refine Aa (Am (Ak ?_))
  refine Ai _ (fun a w K H => GF K [.agg #[.int .u8 0, .int .u8 0, .int .u8 0, .int .u64 0, .int .u8 0, .int .u64 0, .int .u64 0, .int .u8 0, .string ⟨[].toArray⟩, .slice none 0 0, .slice none 0 0, .int .u8 0, .int .u32 0, .int .u8 0, .string ⟨[].toArray⟩, .string ⟨[].toArray⟩, .string ⟨[].toArray⟩, .int .u8 0, .int .u8 0, .string ⟨[].toArray⟩], .int .i64 2] rfl rfl ⟨⟨_, rfl, AM (H.get (i := 0) rfl) Tryz.underlying59 rfl Aj⟩, rfl, trivial⟩) (fun w H => ?_)
  have hq : FX bag M f t k = (bag, (0, 0, ms0 0), 2) := by unfold FX; rw [if_neg (by rw [hc18]; decide)]
  rw [hq]
  exact IW ⟨_, ⟨H.get (i := 1) rfl, H.get (i := 2) rfl, H.get (i := 3) rfl⟩, hv0, H.toOuts _ ⟨(fun b hb => by rw [List.mem_singleton.1 hb]; exact .inr hg1), (fun b hb => by rw [List.mem_singleton.1 hb]; exact .inl (by simp)), (fun b hb => (hv0.in_ b hb).imp (fun h => List.mem_cons_of_mem _ (List.mem_cons_of_mem _ h)) id), (fun b hb => .inl (by rw [List.mem_singleton.1 hb]; simp)), trivial⟩⟩
 ·refine zn false rfl (Ad (Aa (Ah rfl (Ax (Aa (Ae (Ae (Ac (zm rfl ?_)))))))))
  refine zm rfl (zm rfl ?_)
  refine CN (b := (Qu M f t)) trivial rfl rfl (zk Ee rfl) (fun w H => JW base g gm _ bag M f t w ⟨H.get (i := 1) rfl, H.get (i := 2) rfl, H.get (i := 3) rfl⟩ hT) fun c24 hc24 => ?_
  refine Ad (Aa ?_)
  cases c24
  ·refine Ah rfl (Ax (Aa (Ae ?_)))
   rcases hfo : Dq bag f t k with _ | i
   ·refine Ac (zm rfl (zm rfl (zm rfl (zm rfl (Ao (v := .tuple #[.int .i64 0, .int .i64 11]) trivial rfl rfl (zk Dm rfl) (fun w H => (IJ base g gm Ab cb bag M f t k w ⟨H.get (i := 1) rfl, H.get (i := 2) rfl, H.get (i := 3) rfl⟩ hb512).mono fun _ _ h => ⟨by rw [h.1, hfo]; rfl, h.2⟩) (zm rfl (zX (.int .i64 0) rfl (zX (.int .i64 11) rfl (za rfl ?_)))))))))
    refine za rfl (Ad (Aa (Ae (Ae (Ac (zm rfl (zc true rfl (by decide) (Ad (Aa ?_)))))))))
    refine Ap rfl (Ae (Ac (Ag trivial rfl rfl (fun ρ w E H => Bh (cs := [.int .u8 0, .int .u8 0, .int .u8 0, .int .u64 0, .int .u8 0, .int .u64 0, .int .u64 0, .int .u8 0, .string ⟨[].toArray⟩, .slice none 0 0, .slice none 0 0, .int .u8 0, .int .u32 0, .int .u8 0, .string ⟨[].toArray⟩, .string ⟨[].toArray⟩, .string ⟨[].toArray⟩, .int .u8 0, .int .u8 0, .string ⟨[].toArray⟩]) E rfl rfl (by kernel_rfl)) (zm rfl (zS 0 Aj rfl (za rfl (Ad (Aa (Am ?_)))))))))
    refine Ak ?_
    refine Ai _ (fun a w K H => GF K [.agg #[.int .u8 0, .int .u8 0, .int .u8 0, .int .u64 0, .int .u8 0, .int .u64 0, .int .u64 0, .int .u8 0, .string ⟨[].toArray⟩, .slice none 0 0, .slice none 0 0, .int .u8 0, .int .u32 0, .int .u8 0, .string ⟨[].toArray⟩, .string ⟨[].toArray⟩, .string ⟨[].toArray⟩, .int .u8 0, .int .u8 0, .string ⟨[].toArray⟩], .int .i64 11] rfl rfl ⟨⟨_, rfl, AM (H.get (i := 0) rfl) Tryz.underlying59 rfl Aj⟩, rfl, trivial⟩) (fun w H => ?_)
    have hq : FX bag M f t k = (bag, (0, 0, ms0 0), 11) := by unfold FX; rw [if_pos hc18, if_neg (by rw [hc24]; decide), hfo]
    rw [hq]
    exact IW ⟨_, ⟨H.get (i := 1) rfl, H.get (i := 2) rfl, H.get (i := 3) rfl⟩, hv0, H.toOuts _ ⟨(fun b hb => by rw [List.mem_singleton.1 hb]; exact .inr hg1), (fun b hb => by rw [List.mem_singleton.1 hb]; exact .inl (by simp)), (fun b hb => (hv0.in_ b hb).imp (fun h => List.mem_cons_of_mem _ (List.mem_cons_of_mem _ h)) id), (fun b hb => .inl (by rw [List.mem_singleton.1 hb]; simp)), trivial⟩⟩
   ·obtain ⟨hil, hhas⟩ := Ib hfo
    refine Ac (zm rfl (zm rfl (zm rfl (zm rfl (Ao (v := .tuple #[.int .i64 (i : Int), .int .i64 0]) trivial rfl rfl (zk Dm rfl) (fun w H => (IJ base g gm Ab cb bag M f t k w ⟨H.get (i := 1) rfl, H.get (i := 2) rfl, H.get (i := 3) rfl⟩ hb512).mono fun _ _ h => ⟨by rw [h.1, hfo]; rfl, h.2⟩) (zm rfl (zX (.int .i64 (i : Int)) rfl (zX (.int .i64 0) rfl (za rfl ?_)))))))))
    refine za rfl (Ad (Aa (Ae (Ae (Ac (zm rfl (zc false rfl (by decide) (Ad (Aa ?_)))))))))
    refine Ah rfl (Ax (Aa (Ae ?_)))
    obtain ⟨pb, hx⟩ := Qf hhas
    have hpb := hby _ (List.mem_of_getElem? hx)
    dsimp only at hpb
    obtain ⟨⟨⟨tk, tn, tr, tb, ts, td, tv, tvl, til, ⟨xa, xb, xk, xs, xt, xu, xz⟩, tc, tx⟩, te⟩, htm⟩ : ∃ x, EX pb = x := ⟨_, rfl⟩
    have htm2 : EX ((bag[i]?.map (·.bytes)).getD []) = (⟨tk, tn, tr, tb, ts, td, tv, tvl, til, ⟨xa, xb, xk, xs, xt, xu, xz⟩, tc, tx⟩, te) := by rw [hx]; exact htm
    obtain ⟨ad, hAd⟩ : ∃ ad, Ab = some ad := by
     obtain ⟨ad, h, -, -⟩ := (EZ hn.2.1).row hx
     exact ⟨ad, h⟩
    subst hAd
    refine Ac (zm rfl (Ag (v := .pointer (some ⟨g, 0, none⟩)) trivial rfl rfl (fun ρ w E H => Be E rfl rfl) (zf 0 Bo rfl (zl 1 Tryz.underlying128 rfl (zm rfl (Ag (v := .pointer (some (ad.add (i * 3)))) trivial rfl rfl (fun ρ w E H => BA (i := i) E rfl Tryz.underlying128 Bc rfl rfl hil) (Ag (v := .pointer (some ((ad.add (i * 3)).add 2))) trivial rfl rfl (fun ρ w E H => Fb E rfl IL rfl) (Ag (v := .string ⟨pb.toArray⟩) trivial rfl rfl (fun ρ w E H => H3 E ((EZ (H.get (i := 2) rfl)).rowA hx) 2 rfl rfl rfl Tryz.underlying9 rfl) ?_))))))))
    refine Kv (fun U I => .tuple #[.agg (msL ⟨tk, tn, tr, tb, ts, td, tv, tvl, til, ⟨xa, xb, xk, xs, xt, xu, xz⟩, tc, tx⟩ U I).toArray, .int .i64 (te : Int)]) (fun U I => OwnIn w [] U ∧ OwnIn w [] I) (fun U I => _) trivial rfl rfl (zk Hh rfl) (NG pb hpb htm rfl) fun U IT hUI => ?_
    refine CZ (fun W H => Bf (H.get (i := 0) rfl)) ?_
    rintro ⟨UA, uk, rfl⟩
    refine CZ (fun W H => Bf (H.get (i := 1) rfl)) ?_
    rintro ⟨IA, ik, rfl⟩
    refine zm rfl (zx rfl (zX (.int .i64 (te : Int)) rfl ?_))
    refine zA D5 rfl fun g2 hg2 => ?_
    refine zS 0 Av rfl (za rfl (Ad (Aa (Ae (Ae (Ac (zm rfl ?_)))))))
    refine zb rfl fun c51 hc51 => ?_
    refine Ad (Aa ?_)
    cases c51
    ·refine Ah rfl (Ax (Aa (Ae (Ac (zm rfl (zm rfl (Ag (v := .pointer (some ⟨g, 0, none⟩)) trivial rfl rfl (fun ρ w E H => Be E rfl rfl) (zf 0 Bo rfl (zl 4 Tryz.underlying128 rfl ?_)))))))))
     refine zm rfl (zm rfl (Ag (v := .int .i64 ((i + 1 : Nat) : Int)) trivial rfl rfl (fun ρ w E H => BQ E rfl rfl rfl (by rw [IntKind.wrap_i64]; omega)) ?_))
     refine AP (σ := Value) (fun s => s) (fun s => OwnIn w (Value.slice (some ad) bag.length cb).ownBlock.toList s) (fun s => _) trivial rfl rfl (zk Da rfl) (Lx (i := 5) (m' := bag.length - 1) (xs' := ((bag.eraseIdx i).flatMap paL)) rfl hv0 (fun w H => Tc (H.get (i := 5) rfl) hil)) fun v62 hv62 => ?_
     rw [show bag.length - 1 = (bag.eraseIdx i).length by rw [List.length_eraseIdx, if_pos hil]]
     refine CZ (fun W H => Bf (H.get (i := 5) rfl)) ?_
     rintro ⟨A62, k62, rfl⟩
     refine Ag (v := .pointer (some ⟨g, 0, none⟩)) trivial rfl rfl (fun ρ w E H => Be E rfl rfl) (zf 0 Bo rfl (zQ 4 [.slice A62 ((bag.eraseIdx i).length) k62, .map (some gm)] E4 rfl rfl (Ad (Aa (Ae (Ac (zm rfl (zm rfl (zw 0 Tryz.underlying33 Av rfl ?_)))))))))
     refine Ag trivial rfl rfl (fun ρ w E H => Bh (cs := [.int .u8 (f : Int), .int .u8 (t : Int), .int .u8 (tk : Int), .int .u64 (tn : Int), .int .u8 (tr : Int), .int .u64 (tb : Int), .int .u64 (ts : Int), .int .u8 (td : Int), .string ⟨tv.toArray⟩, .slice UA tvl.length uk, .slice IA til.length ik, .int .u8 (xa : Int), .int .u32 (xb : Int), .int .u8 (xk : Int), .string ⟨xs.toArray⟩, .string ⟨xt.toArray⟩, .string ⟨xu.toArray⟩, .int .u8 (xz : Int), .int .u8 (tc : Int), .string ⟨tx.toArray⟩]) E rfl rfl (by kernel_rfl)) (zS 3 Aj rfl (za rfl (Ad (Aa (Am ?_)))))
     refine Ai _ (fun a w K H => GF K [.agg #[.int .u8 (f : Int), .int .u8 (t : Int), .int .u8 (tk : Int), .int .u64 (tn : Int), .int .u8 (tr : Int), .int .u64 (tb : Int), .int .u64 (ts : Int), .int .u8 (td : Int), .string ⟨tv.toArray⟩, .slice UA tvl.length uk, .slice IA til.length ik, .int .u8 (xa : Int), .int .u32 (xb : Int), .int .u8 (xk : Int), .string ⟨xs.toArray⟩, .string ⟨xt.toArray⟩, .string ⟨xu.toArray⟩, .int .u8 (xz : Int), .int .u8 (tc : Int), .string ⟨tx.toArray⟩], .int .i64 0] rfl rfl ⟨⟨_, rfl, AM (H.get (i := 3) rfl) Tryz.underlying59 rfl Aj⟩, rfl, trivial⟩) (fun w H => ?_)
     have hq : FX bag M f t k = (bag.eraseIdx i, (f, t, ⟨tk, tn, tr, tb, ts, td, tv, tvl, til, ⟨xa, xb, xk, xs, xt, xu, xz⟩, tc, tx⟩), 0) := by unfold FX; rw [if_pos hc18, if_neg (by rw [hc24]; decide), hfo]; dsimp only; rw [htm2, if_neg (by have h := hc51; simp [AB] at h; simpa using h)]
     rw [hq]
     have hlt := OY hn
     exact ⟨_, _, rfl, ⟨_, ⟨H.get (i := 4) rfl, H.get (i := 5) rfl, H.get (i := 6) rfl⟩, hv62, H.toOuts _ ⟨(fun b hb => by rw [List.mem_singleton.1 hb]; exact .inr hg2), (fun b hb => .inr (hUI.1.fresh b hb)), (fun b hb => .inr (hUI.2.fresh b hb)), (fun b hb => by rw [List.mem_singleton.1 hb]; exact .inr hg1), (fun b hb => by rw [List.mem_singleton.1 hb]; exact .inl (by simp)), (fun b hb => (hv62.in_ b hb).imp (fun h => List.mem_cons_of_mem _ (List.mem_cons_of_mem _ h)) id), (fun b hb => .inl (by rw [List.mem_singleton.1 hb]; simp)), trivial⟩⟩, H.get (i := 1) rfl, H.get (i := 2) rfl, (fun b hb hm => by have h1 := hlt b hm; have h2 := (hUI.1 b hb).elim (fun h => by cases h) id; omega), (fun b hb hm => by have h1 := hlt b hm; have h2 := (hUI.2 b hb).elim (fun h => by cases h) id; omega)⟩
    ·refine Ap rfl (Ae (Ac (Ag trivial rfl rfl (fun ρ w E H => Bh (cs := [.int .u8 0, .int .u8 0, .int .u8 0, .int .u64 0, .int .u8 0, .int .u64 0, .int .u64 0, .int .u8 0, .string ⟨[].toArray⟩, .slice none 0 0, .slice none 0 0, .int .u8 0, .int .u32 0, .int .u8 0, .string ⟨[].toArray⟩, .string ⟨[].toArray⟩, .string ⟨[].toArray⟩, .int .u8 0, .int .u8 0, .string ⟨[].toArray⟩]) E rfl rfl (by kernel_rfl)) (zm rfl (zS 3 Aj rfl (za rfl (Ad (Aa (Am ?_)))))))))
     refine Ak ?_
     refine Ai _ (fun a w K H => GF K [.agg #[.int .u8 0, .int .u8 0, .int .u8 0, .int .u64 0, .int .u8 0, .int .u64 0, .int .u64 0, .int .u8 0, .string ⟨[].toArray⟩, .slice none 0 0, .slice none 0 0, .int .u8 0, .int .u32 0, .int .u8 0, .string ⟨[].toArray⟩, .string ⟨[].toArray⟩, .string ⟨[].toArray⟩, .int .u8 0, .int .u8 0, .string ⟨[].toArray⟩], .int .i64 (te : Int)] rfl rfl ⟨⟨_, rfl, AM (H.get (i := 3) rfl) Tryz.underlying59 rfl Aj⟩, rfl, trivial⟩) (fun w H => ?_)
     have hq : FX bag M f t k = (bag, (0, 0, ms0 0), te) := by unfold FX; rw [if_pos hc18, if_neg (by rw [hc24]; decide), hfo]; dsimp only; rw [htm2, if_pos (by have h := hc51; simp [AB] at h; simpa using h)]
     rw [hq]
     exact IW ⟨_, ⟨H.get (i := 4) rfl, H.get (i := 5) rfl, H.get (i := 6) rfl⟩, hv0, H.toOuts _ ⟨(fun b hb => by rw [List.mem_singleton.1 hb]; exact .inr hg2), (fun b hb => .inr (hUI.1.fresh b hb)), (fun b hb => .inr (hUI.2.fresh b hb)), (fun b hb => by rw [List.mem_singleton.1 hb]; exact .inr hg1), (fun b hb => by rw [List.mem_singleton.1 hb]; exact .inl (by simp)), (fun b hb => (hv0.in_ b hb).imp (fun h => List.mem_cons_of_mem _ (List.mem_cons_of_mem _ h)) id), (fun b hb => .inl (by rw [List.mem_singleton.1 hb]; simp)), trivial⟩⟩
  ·refine Ap rfl (Ae (Ac (Ag trivial rfl rfl (fun ρ w E H => Bh (cs := [.int .u8 0, .int .u8 0, .int .u8 0, .int .u64 0, .int .u8 0, .int .u64 0, .int .u64 0, .int .u8 0, .string ⟨[].toArray⟩, .slice none 0 0, .slice none 0 0, .int .u8 0, .int .u32 0, .int .u8 0, .string ⟨[].toArray⟩, .string ⟨[].toArray⟩, .string ⟨[].toArray⟩, .int .u8 0, .int .u8 0, .string ⟨[].toArray⟩]) E rfl rfl (by kernel_rfl)) (zS 0 Aj rfl (za rfl (Ad (Aa (Am (Ak ?_)))))))))
   refine Ai _ (fun a w K H => GF K [.agg #[.int .u8 0, .int .u8 0, .int .u8 0, .int .u64 0, .int .u8 0, .int .u64 0, .int .u64 0, .int .u8 0, .string ⟨[].toArray⟩, .slice none 0 0, .slice none 0 0, .int .u8 0, .int .u32 0, .int .u8 0, .string ⟨[].toArray⟩, .string ⟨[].toArray⟩, .string ⟨[].toArray⟩, .int .u8 0, .int .u8 0, .string ⟨[].toArray⟩], .int .i64 13] rfl rfl ⟨⟨_, rfl, AM (H.get (i := 0) rfl) Tryz.underlying59 rfl Aj⟩, rfl, trivial⟩) (fun w H => ?_)
   have hq : FX bag M f t k = (bag, (0, 0, ms0 0), 13) := by unfold FX; rw [if_pos hc18, if_pos hc24]
   rw [hq]
   exact IW ⟨_, ⟨H.get (i := 1) rfl, H.get (i := 2) rfl, H.get (i := 3) rfl⟩, hv0, H.toOuts _ ⟨(fun b hb => by rw [List.mem_singleton.1 hb]; exact .inr hg1), (fun b hb => by rw [List.mem_singleton.1 hb]; exact .inl (by simp)), (fun b hb => (hv0.in_ b hb).imp (fun h => List.mem_cons_of_mem _ (List.mem_cons_of_mem _ h)) id), (fun b hb => .inl (by rw [List.mem_singleton.1 hb]; simp)), trivial⟩⟩
end Go.Proofs.YteiaiilfekojfaaGreat.Net
end
section
set_option linter.unusedVariables false
set_option linter.unusedSimpArgs false
namespace Go.Proofs.YteiaiilfekojfaaGreat.Net
open Go.RowKit Sx Wire DrawInv
open Msg
set_option maxRecDepth 100000 in
set_option maxHeartbeats 4000000 in
theorem Xa   (w : World) : Calls Tryz.prog 22 #[] w fun e w' => ∃ g gm, e = .returned (.pointer (some ⟨g, 0, none⟩)) ∧ (E7 w.heap.size g gm (.slice none 0 0) [] []).φ w' ∧ w.heap.size ≤ g ∧ w.heap.size ≤ gm ∧ Below w.heap.size w w' := by
 refine A0 (n := 4) _ Tryz.func22 rfl rfl rfl (Hp.start w) (Ae (Ac (za rfl (Ad (Aa (Ae (Ac ?_)))))))
 refine QA (σ := Nat) (fun s => .map (some s)) (fun s => w.heap.size ≤ s) (fun s => _) trivial rfl rfl (fun ρ w E H => Hp.newM E H I6 rfl) fun gm hgm => ?_
 refine Ag trivial rfl rfl (fun ρ w E H => Bh (cs := [.slice none 0 0, .map (some gm)]) E rfl rfl (by kernel_rfl)) ?_
 refine zB rfl fun g1 hg1 => ?_
 refine za rfl (Ad (Aa (Am ?_)))
 refine Ai (.pointer (some ⟨g1, 0, none⟩)) (fun a w K H => BC K rfl rfl) (fun w H => ?_)
 exact ⟨_, gm, rfl, ⟨H.get (i := 0) rfl, World.ownsRow_nil _ _ _ _, H.get (i := 1) rfl⟩, hg1, hgm, H.toBelow ⟨(zq hg1), (zq hgm), trivial⟩⟩

set_option maxRecDepth 100000 in
set_option maxHeartbeats 4000000 in
theorem Ji (base g gm : Nat) (V : Value) (bag : List Pa) (M : Df) (f t : Nat) (k : Int) (w : World) (hn : (E7 base g gm V bag M).φ w) (hb512 : bag.length ≤ 512) (hbase : base ≤ w.heap.size) : Calls Tryz.prog 26 #[.pointer (some ⟨g, 0, none⟩), .int .u8 (f : Int), .int .u8 (t : Int), .int .i64 (k)] w fun e w' => e = .returned (.int .i64 ((Ef bag f t k).2 : Int)) ∧ K8 base g gm V (Ef bag f t k).1 M w w' := by
 obtain ⟨Ab, cb, rfl⟩ := Bf hn.2.1
 have hv0 : OwnIn w (Value.slice Ab bag.length cb).ownBlock.toList (.slice Ab bag.length cb) := fun b hb => .inl hb
 refine A0 (n := 50) _ Tryz.func26 rfl rfl rfl (Le hn) (Ae (Ac (za rfl (Ad (Aa (Ae (Ae (Ac (zm rfl ?_)))))))))
 refine Ag (v := .bool false) trivial rfl rfl (fun ρ w E H => Is E rfl Tryz.underlying48 rfl rfl rfl) (Ad (Aa (Ah rfl (Ax (Aa (Ae (Ae (Ac (zm rfl ?_)))))))))
 refine zm rfl ?_
 refine CN (b := (BJ f t)) trivial rfl rfl (zk Ei rfl) (fun w H => IU f t w) fun c15 hc15 => ?_
 cases c15
 ·refine zn true rfl (Ad (Aa (Ap rfl (Ae (Ac (za rfl (Ad (Aa (Am ?_)))))))))
  refine Ak ?_
  refine Ai (.int .i64 2) (fun a w K H => BC K rfl rfl) (fun w H => ?_)
  have hq : Ef bag f t k = (bag, 2) := by
   unfold Ef; rw [if_neg (by rw [hc15]; decide)]
  rw [hq]
  exact ⟨rfl, ⟨_, ⟨H.get (i := 0) rfl, H.get (i := 1) rfl, H.get (i := 2) rfl⟩, hv0, H.toOuts _ ⟨(fun b hb => by rw [List.mem_singleton.1 hb]; exact .inl (by simp)), (fun b hb => (hv0.in_ b hb).imp (fun h => List.mem_cons_of_mem _ (List.mem_cons_of_mem _ h)) id), (fun b hb => .inl (by rw [List.mem_singleton.1 hb]; simp)), trivial⟩⟩⟩
 ·refine zn false rfl (Ad (Aa (Ah rfl (Ax (Aa (Ae ?_))))))
  rcases hfo : Dq bag f t k with _ | i
  ·refine Ac (zm rfl (zm rfl (zm rfl (zm rfl (Ao (v := .tuple #[.int .i64 0, .int .i64 11]) trivial rfl rfl (zk Dm rfl) (fun w H => (IJ base g gm Ab cb bag M f t k w ⟨H.get (i := 0) rfl, H.get (i := 1) rfl, H.get (i := 2) rfl⟩ hb512).mono fun _ _ h => ⟨by rw [h.1, hfo]; rfl, h.2⟩) (zm rfl (zX (.int .i64 0) rfl (zX (.int .i64 11) rfl (za rfl ?_)))))))))
   refine za rfl (Ad (Aa (Ae (Ae (Ac (zm rfl (zc true rfl (by decide) (Ad (Aa ?_)))))))))
   refine Ap rfl (Ae (Ac (zm rfl (za rfl (Ad (Aa (Am (Ak ?_))))))))
   refine Ai (.int .i64 11) (fun a w K H => BC K rfl rfl) (fun w H => ?_)
   have hq : Ef bag f t k = (bag, 11) := by
    unfold Ef; rw [if_pos hc15, hfo]
   rw [hq]
   exact ⟨rfl, ⟨_, ⟨H.get (i := 0) rfl, H.get (i := 1) rfl, H.get (i := 2) rfl⟩, hv0, H.toOuts _ ⟨(fun b hb => by rw [List.mem_singleton.1 hb]; exact .inl (by simp)), (fun b hb => (hv0.in_ b hb).imp (fun h => List.mem_cons_of_mem _ (List.mem_cons_of_mem _ h)) id), (fun b hb => .inl (by rw [List.mem_singleton.1 hb]; simp)), trivial⟩⟩⟩
  ·obtain ⟨hil, hhas⟩ := Ib hfo
   refine Ac (zm rfl (zm rfl (zm rfl (zm rfl (Ao (v := .tuple #[.int .i64 (i : Int), .int .i64 0]) trivial rfl rfl (zk Dm rfl) (fun w H => (IJ base g gm Ab cb bag M f t k w ⟨H.get (i := 0) rfl, H.get (i := 1) rfl, H.get (i := 2) rfl⟩ hb512).mono fun _ _ h => ⟨by rw [h.1, hfo]; rfl, h.2⟩) (zm rfl (zX (.int .i64 (i : Int)) rfl (zX (.int .i64 0) rfl (za rfl ?_)))))))))
   refine za rfl (Ad (Aa (Ae (Ae (Ac (zm rfl (zc false rfl (by decide) (Ad (Aa ?_)))))))))
   refine Ah rfl (Ax (Aa (Ae (Ae (Ac (zm rfl (Ag (v := .pointer (some ⟨g, 0, none⟩)) trivial rfl rfl (fun ρ w E H => Be E rfl rfl) (zf 0 Bo rfl (zl 0 Tryz.underlying128 rfl ?_)))))))))
   refine zL Tryz.underlying128 rfl ?_
   refine zb rfl fun c33 hc33 => ?_
   refine Ad (Aa ?_)
   cases c33
   ·refine Ah rfl (Ax (Aa (Ae ?_)))
    obtain ⟨pb, hx⟩ := Qf hhas
    obtain ⟨ad, hAd⟩ : ∃ ad, Ab = some ad := by
     obtain ⟨ad, h, -, -⟩ := (EZ hn.2.1).row hx
     exact ⟨ad, h⟩
    subst hAd
    refine BN ((Value.slice (some ad) bag.length cb).ownBlock.toList ++ [g, gm]) [2] (by kernel_rfl) rfl ⟨(zi (by simp)), (fun g hg => (hv0.in_ g hg).imp (fun h => by simp only [List.mem_append]; simp [h]) id), (zi (by simp)), trivial⟩ (ym 0 rfl (by kernel_rfl) zI (ym 1 rfl (by kernel_rfl) zI (yt (i := 2) (v := .pointer (some ⟨g, 0, none⟩)) (by kernel_rfl) zI rfl rfl rfl rfl (fun ρ w E H => Be E rfl rfl) (yf 3 0 Bo rfl (by kernel_rfl) zI (ym 5 rfl (by kernel_rfl) zI (yt (i := 6) (v := .pointer (some ⟨g, 0, none⟩)) (by kernel_rfl) zI rfl rfl rfl rfl (fun ρ w E H => Be E rfl rfl) (yf 7 0 Bo rfl (by kernel_rfl) zI (ym 9 rfl (by kernel_rfl) zI ?_))))))))
    refine Ed [4, 8] (by kernel_rfl) (by simp) ⟨?_, ?_, trivial⟩
    ·refine DZ rfl trivial rfl rfl (fun ρ w E H => Dl E (H.get (i := 0) rfl) rfl rfl Tryz.underlying128 rfl rfl) (yr 8 (by kernel_rfl) (DZ rfl trivial rfl rfl (fun ρ w E H => Dl E (H.get (i := 0) rfl) rfl rfl Tryz.underlying128 rfl rfl) (yt (i := 10) (v := .pointer (some (ad.add (i * 3)))) (by kernel_rfl) zI rfl rfl rfl rfl (fun ρ w E H => BA (i := i) E rfl Tryz.underlying128 Bc rfl rfl hil) (yr 11 (by kernel_rfl) (DZ (v := .agg #[.int .u8 (f : Int), .int .u8 (t : Int), .string ⟨pb.toArray⟩]) rfl trivial rfl rfl (fun ρ w E H => C7 (cs := [.int .u8 (f : Int), .int .u8 (t : Int), .string ⟨pb.toArray⟩]) E ((EZ (H.get (i := 1) rfl)).rowA hx) rfl rfl Tryz.underlying134 rfl Bc) (yr 12 (by kernel_rfl) ?_))))))
     refine Dc (cs := [.int .u8 (f : Int), .int .u8 (t : Int), .string ⟨pb.toArray⟩]) rfl trivial rfl rfl (fun ρ w E H => AV E rfl rfl Tryz.underlying128 Bc CJ rfl rfl (by kernel_rfl)) (fun g1 w hg1 H => H.ks ((Value.slice (some ad) bag.length cb).ownBlock.toList ++ [g, gm]) [3] rfl ⟨(zh hg1), (zi (by simp)), (fun g hg => (hv0.in_ g hg).imp (fun h => by simp only [List.mem_append]; simp [h]) id), (zi (by simp)), trivial⟩) fun g1 hg1 => ?_
     refine yr 13 (by kernel_rfl) ?_
     refine BZ (i := 2) (news := [.int .u8 (f : Int), .int .u8 (t : Int), .string ⟨pb.toArray⟩]) rfl trivial rfl rfl rfl Tryz.underlying128 D2 rfl rfl rfl rfl hv0 rfl (fun w H => CS H (i := 0) rfl rfl) (D4 rfl) (by unfold maxLen; omega) (by omega) hbase (fun A47 k47 w hv47 H => H.ks ((Value.slice (some ad) bag.length cb).ownBlock.toList ++ [g, gm]) [3] rfl ⟨(zh hg1), (zi (by simp)), (fun g hg => (hv47.in_ g hg).imp (fun h => by simp only [List.mem_append]; simp [h]) id), (zi (by simp)), trivial⟩) fun A47 k47 hv47 => ?_
     refine yt (i := 14) (v := .pointer (some ⟨g, 0, none⟩)) (by kernel_rfl) zI rfl rfl rfl rfl (fun ρ w E H => Be E rfl rfl) (yf 15 0 Bo rfl (by kernel_rfl) zI (yr 16 (by kernel_rfl) (Dk (j := 1) [.slice A47 (bag.length + 1) k47, .map (some gm)] rfl trivial rfl rfl rfl rfl rfl E4 rfl rfl rfl rfl (fun w H => H.ks ((Value.slice (some ad) bag.length cb).ownBlock.toList ++ [g, gm]) [3] rfl ⟨(zh hg1), (zi (by simp)), (fun g hg => (hv47.in_ g hg).imp (fun h => by simp only [List.mem_append]; simp [h]) id), (zi (by simp)), trivial⟩) (BE (by kernel_rfl) (Aa (Ae (Ep (fun W H => H.re (i := 2) rfl (BU (Value.slice (some ad) bag.length cb).ownBlock.toList base 134 3 (.slice A47 (bag.length + 1) k47) ((bag ++ [(⟨f, t, pb⟩ : Pa)]).length) ((bag ++ [(⟨f, t, pb⟩ : Pa)]).flatMap paL)) (BF _ _ _ _ _ _ _) rfl (fun h => DI h (by simp) (by simp [paL]))) (Ac (za rfl ?_)))))))))
     refine Ad (Aa (Am ?_))
     refine Ai (.int .i64 0) (fun a w K H => BC K rfl rfl) (fun w H => ?_)
     have hq : Ef bag f t k = (bag ++ [⟨f, t, pb⟩], 0) := by
      unfold Ef; rw [if_pos hc15, hfo]; dsimp only; rw [if_neg (by have h := hc33; simp [AB] at h; omega)]; rw [hx]; rfl
     rw [hq]
     exact ⟨rfl, ⟨_, ⟨H.get (i := 1) rfl, H.get (i := 2) rfl, H.get (i := 3) rfl⟩, hv47, H.toOuts _ ⟨(fun b hb => by rw [List.mem_singleton.1 hb]; exact .inr hg1), (fun b hb => by rw [List.mem_singleton.1 hb]; exact .inl (by simp)), (fun b hb => (hv47.in_ b hb).imp (fun h => List.mem_cons_of_mem _ (List.mem_cons_of_mem _ h)) id), (fun b hb => .inl (by rw [List.mem_singleton.1 hb]; simp)), trivial⟩⟩⟩
    ·refine DZ rfl trivial rfl rfl (fun ρ w E H => Dl E (H.get (i := 0) rfl) rfl rfl Tryz.underlying128 rfl rfl) (yt (i := 10) (v := .pointer (some (ad.add (i * 3)))) (by kernel_rfl) zI rfl rfl rfl rfl (fun ρ w E H => BA (i := i) E rfl Tryz.underlying128 Bc rfl rfl hil) ?_)
     refine Ed [4, 11] (by kernel_rfl) (by simp) ⟨?_, ?_, trivial⟩
     ·refine DZ rfl trivial rfl rfl (fun ρ w E H => Dl E (H.get (i := 0) rfl) rfl rfl Tryz.underlying128 rfl rfl) (yr 11 (by kernel_rfl) (DZ (v := .agg #[.int .u8 (f : Int), .int .u8 (t : Int), .string ⟨pb.toArray⟩]) rfl trivial rfl rfl (fun ρ w E H => C7 (cs := [.int .u8 (f : Int), .int .u8 (t : Int), .string ⟨pb.toArray⟩]) E ((EZ (H.get (i := 1) rfl)).rowA hx) rfl rfl Tryz.underlying134 rfl Bc) (yr 12 (by kernel_rfl) ?_)))
      refine Dc (cs := [.int .u8 (f : Int), .int .u8 (t : Int), .string ⟨pb.toArray⟩]) rfl trivial rfl rfl (fun ρ w E H => AV E rfl rfl Tryz.underlying128 Bc CJ rfl rfl (by kernel_rfl)) (fun g2 w hg2 H => H.ks ((Value.slice (some ad) bag.length cb).ownBlock.toList ++ [g, gm]) [3] rfl ⟨(zh hg2), (zi (by simp)), (fun g hg => (hv0.in_ g hg).imp (fun h => by simp only [List.mem_append]; simp [h]) id), (zi (by simp)), trivial⟩) fun g2 hg2 => ?_
      refine yr 13 (by kernel_rfl) ?_
      refine BZ (i := 2) (news := [.int .u8 (f : Int), .int .u8 (t : Int), .string ⟨pb.toArray⟩]) rfl trivial rfl rfl rfl Tryz.underlying128 D2 rfl rfl rfl rfl hv0 rfl (fun w H => CS H (i := 0) rfl rfl) (D4 rfl) (by unfold maxLen; omega) (by omega) hbase (fun A47 k47 w hv47 H => H.ks ((Value.slice (some ad) bag.length cb).ownBlock.toList ++ [g, gm]) [3] rfl ⟨(zh hg2), (zi (by simp)), (fun g hg => (hv47.in_ g hg).imp (fun h => by simp only [List.mem_append]; simp [h]) id), (zi (by simp)), trivial⟩) fun A47 k47 hv47 => ?_
      refine yt (i := 14) (v := .pointer (some ⟨g, 0, none⟩)) (by kernel_rfl) zI rfl rfl rfl rfl (fun ρ w E H => Be E rfl rfl) (yf 15 0 Bo rfl (by kernel_rfl) zI (yr 16 (by kernel_rfl) (Dk (j := 1) [.slice A47 (bag.length + 1) k47, .map (some gm)] rfl trivial rfl rfl rfl rfl rfl E4 rfl rfl rfl rfl (fun w H => H.ks ((Value.slice (some ad) bag.length cb).ownBlock.toList ++ [g, gm]) [3] rfl ⟨(zh hg2), (zi (by simp)), (fun g hg => (hv47.in_ g hg).imp (fun h => by simp only [List.mem_append]; simp [h]) id), (zi (by simp)), trivial⟩) (BE (by kernel_rfl) (Aa (Ae (Ep (fun W H => H.re (i := 2) rfl (BU (Value.slice (some ad) bag.length cb).ownBlock.toList base 134 3 (.slice A47 (bag.length + 1) k47) ((bag ++ [(⟨f, t, pb⟩ : Pa)]).length) ((bag ++ [(⟨f, t, pb⟩ : Pa)]).flatMap paL)) (BF _ _ _ _ _ _ _) rfl (fun h => DI h (by simp) (by simp [paL]))) (Ac (za rfl ?_)))))))))
      refine Ad (Aa (Am ?_))
      refine Ai (.int .i64 0) (fun a w K H => BC K rfl rfl) (fun w H => ?_)
      have hq : Ef bag f t k = (bag ++ [⟨f, t, pb⟩], 0) := by
       unfold Ef; rw [if_pos hc15, hfo]; dsimp only; rw [if_neg (by have h := hc33; simp [AB] at h; omega)]; rw [hx]; rfl
      rw [hq]
      exact ⟨rfl, ⟨_, ⟨H.get (i := 1) rfl, H.get (i := 2) rfl, H.get (i := 3) rfl⟩, hv47, H.toOuts _ ⟨(fun b hb => by rw [List.mem_singleton.1 hb]; exact .inr hg2), (fun b hb => by rw [List.mem_singleton.1 hb]; exact .inl (by simp)), (fun b hb => (hv47.in_ b hb).imp (fun h => List.mem_cons_of_mem _ (List.mem_cons_of_mem _ h)) id), (fun b hb => .inl (by rw [List.mem_singleton.1 hb]; simp)), trivial⟩⟩⟩
     ·refine DZ (v := .agg #[.int .u8 (f : Int), .int .u8 (t : Int), .string ⟨pb.toArray⟩]) rfl trivial rfl rfl (fun ρ w E H => C7 (cs := [.int .u8 (f : Int), .int .u8 (t : Int), .string ⟨pb.toArray⟩]) E ((EZ (H.get (i := 1) rfl)).rowA hx) rfl rfl Tryz.underlying134 rfl Bc) ?_
      refine Ed [4, 12] (by kernel_rfl) (by simp) ⟨?_, ?_, trivial⟩
      ·refine DZ rfl trivial rfl rfl (fun ρ w E H => Dl E (H.get (i := 0) rfl) rfl rfl Tryz.underlying128 rfl rfl) (yr 12 (by kernel_rfl) ?_)
       refine Dc (cs := [.int .u8 (f : Int), .int .u8 (t : Int), .string ⟨pb.toArray⟩]) rfl trivial rfl rfl (fun ρ w E H => AV E rfl rfl Tryz.underlying128 Bc CJ rfl rfl (by kernel_rfl)) (fun g3 w hg3 H => H.ks ((Value.slice (some ad) bag.length cb).ownBlock.toList ++ [g, gm]) [3] rfl ⟨(zh hg3), (zi (by simp)), (fun g hg => (hv0.in_ g hg).imp (fun h => by simp only [List.mem_append]; simp [h]) id), (zi (by simp)), trivial⟩) fun g3 hg3 => ?_
       refine yr 13 (by kernel_rfl) ?_
       refine BZ (i := 2) (news := [.int .u8 (f : Int), .int .u8 (t : Int), .string ⟨pb.toArray⟩]) rfl trivial rfl rfl rfl Tryz.underlying128 D2 rfl rfl rfl rfl hv0 rfl (fun w H => CS H (i := 0) rfl rfl) (D4 rfl) (by unfold maxLen; omega) (by omega) hbase (fun A47 k47 w hv47 H => H.ks ((Value.slice (some ad) bag.length cb).ownBlock.toList ++ [g, gm]) [3] rfl ⟨(zh hg3), (zi (by simp)), (fun g hg => (hv47.in_ g hg).imp (fun h => by simp only [List.mem_append]; simp [h]) id), (zi (by simp)), trivial⟩) fun A47 k47 hv47 => ?_
       refine yt (i := 14) (v := .pointer (some ⟨g, 0, none⟩)) (by kernel_rfl) zI rfl rfl rfl rfl (fun ρ w E H => Be E rfl rfl) (yf 15 0 Bo rfl (by kernel_rfl) zI (yr 16 (by kernel_rfl) (Dk (j := 1) [.slice A47 (bag.length + 1) k47, .map (some gm)] rfl trivial rfl rfl rfl rfl rfl E4 rfl rfl rfl rfl (fun w H => H.ks ((Value.slice (some ad) bag.length cb).ownBlock.toList ++ [g, gm]) [3] rfl ⟨(zh hg3), (zi (by simp)), (fun g hg => (hv47.in_ g hg).imp (fun h => by simp only [List.mem_append]; simp [h]) id), (zi (by simp)), trivial⟩) (BE (by kernel_rfl) (Aa (Ae (Ep (fun W H => H.re (i := 2) rfl (BU (Value.slice (some ad) bag.length cb).ownBlock.toList base 134 3 (.slice A47 (bag.length + 1) k47) ((bag ++ [(⟨f, t, pb⟩ : Pa)]).length) ((bag ++ [(⟨f, t, pb⟩ : Pa)]).flatMap paL)) (BF _ _ _ _ _ _ _) rfl (fun h => DI h (by simp) (by simp [paL]))) (Ac (za rfl ?_)))))))))
       refine Ad (Aa (Am ?_))
       refine Ai (.int .i64 0) (fun a w K H => BC K rfl rfl) (fun w H => ?_)
       have hq : Ef bag f t k = (bag ++ [⟨f, t, pb⟩], 0) := by
        unfold Ef; rw [if_pos hc15, hfo]; dsimp only; rw [if_neg (by have h := hc33; simp [AB] at h; omega)]; rw [hx]; rfl
       rw [hq]
       exact ⟨rfl, ⟨_, ⟨H.get (i := 1) rfl, H.get (i := 2) rfl, H.get (i := 3) rfl⟩, hv47, H.toOuts _ ⟨(fun b hb => by rw [List.mem_singleton.1 hb]; exact .inr hg3), (fun b hb => by rw [List.mem_singleton.1 hb]; exact .inl (by simp)), (fun b hb => (hv47.in_ b hb).imp (fun h => List.mem_cons_of_mem _ (List.mem_cons_of_mem _ h)) id), (fun b hb => .inl (by rw [List.mem_singleton.1 hb]; simp)), trivial⟩⟩⟩
      ·refine Dc (cs := [.int .u8 (f : Int), .int .u8 (t : Int), .string ⟨pb.toArray⟩]) rfl trivial rfl rfl (fun ρ w E H => AV E rfl rfl Tryz.underlying128 Bc CJ rfl rfl (by kernel_rfl)) (fun g4 w hg4 H => H.ks ((Value.slice (some ad) bag.length cb).ownBlock.toList ++ [g, gm]) [3] rfl ⟨(zh hg4), (zi (by simp)), (fun g hg => (hv0.in_ g hg).imp (fun h => by simp only [List.mem_append]; simp [h]) id), (zi (by simp)), trivial⟩) fun g4 hg4 => ?_
       refine yr 4 (by kernel_rfl) (DZ rfl trivial rfl rfl (fun ρ w E H => Dl E (H.get (i := 1) rfl) rfl rfl Tryz.underlying128 rfl rfl) (yr 13 (by kernel_rfl) ?_))
       refine BZ (i := 2) (news := [.int .u8 (f : Int), .int .u8 (t : Int), .string ⟨pb.toArray⟩]) rfl trivial rfl rfl rfl Tryz.underlying128 D2 rfl rfl rfl rfl hv0 rfl (fun w H => CS H (i := 0) rfl rfl) (D4 rfl) (by unfold maxLen; omega) (by omega) hbase (fun A47 k47 w hv47 H => H.ks ((Value.slice (some ad) bag.length cb).ownBlock.toList ++ [g, gm]) [3] rfl ⟨(zh hg4), (zi (by simp)), (fun g hg => (hv47.in_ g hg).imp (fun h => by simp only [List.mem_append]; simp [h]) id), (zi (by simp)), trivial⟩) fun A47 k47 hv47 => ?_
       refine yt (i := 14) (v := .pointer (some ⟨g, 0, none⟩)) (by kernel_rfl) zI rfl rfl rfl rfl (fun ρ w E H => Be E rfl rfl) (yf 15 0 Bo rfl (by kernel_rfl) zI (yr 16 (by kernel_rfl) (Dk (j := 1) [.slice A47 (bag.length + 1) k47, .map (some gm)] rfl trivial rfl rfl rfl rfl rfl E4 rfl rfl rfl rfl (fun w H => H.ks ((Value.slice (some ad) bag.length cb).ownBlock.toList ++ [g, gm]) [3] rfl ⟨(zh hg4), (zi (by simp)), (fun g hg => (hv47.in_ g hg).imp (fun h => by simp only [List.mem_append]; simp [h]) id), (zi (by simp)), trivial⟩) (BE (by kernel_rfl) (Aa (Ae (Ep (fun W H => H.re (i := 2) rfl (BU (Value.slice (some ad) bag.length cb).ownBlock.toList base 134 3 (.slice A47 (bag.length + 1) k47) ((bag ++ [(⟨f, t, pb⟩ : Pa)]).length) ((bag ++ [(⟨f, t, pb⟩ : Pa)]).flatMap paL)) (BF _ _ _ _ _ _ _) rfl (fun h => DI h (by simp) (by simp [paL]))) (Ac (za rfl ?_)))))))))
       refine Ad (Aa (Am ?_))
       refine Ai (.int .i64 0) (fun a w K H => BC K rfl rfl) (fun w H => ?_)
       have hq : Ef bag f t k = (bag ++ [⟨f, t, pb⟩], 0) := by
        unfold Ef; rw [if_pos hc15, hfo]; dsimp only; rw [if_neg (by have h := hc33; simp [AB] at h; omega)]; rw [hx]; rfl
       rw [hq]
       exact ⟨rfl, ⟨_, ⟨H.get (i := 1) rfl, H.get (i := 2) rfl, H.get (i := 3) rfl⟩, hv47, H.toOuts _ ⟨(fun b hb => by rw [List.mem_singleton.1 hb]; exact .inr hg4), (fun b hb => by rw [List.mem_singleton.1 hb]; exact .inl (by simp)), (fun b hb => (hv47.in_ b hb).imp (fun h => List.mem_cons_of_mem _ (List.mem_cons_of_mem _ h)) id), (fun b hb => .inl (by rw [List.mem_singleton.1 hb]; simp)), trivial⟩⟩⟩
   ·refine Ap rfl (Ae (Ac (za rfl (Ad (Aa (Am (Ak ?_)))))))
    refine Ai (.int .i64 7) (fun a w K H => BC K rfl rfl) (fun w H => ?_)
    have hq : Ef bag f t k = (bag, 7) := by
     unfold Ef; rw [if_pos hc15, hfo]; dsimp only; rw [if_pos (by have h := hc33; simp [AB] at h; omega)]
    rw [hq]
    exact ⟨rfl, ⟨_, ⟨H.get (i := 0) rfl, H.get (i := 1) rfl, H.get (i := 2) rfl⟩, hv0, H.toOuts _ ⟨(fun b hb => by rw [List.mem_singleton.1 hb]; exact .inl (by simp)), (fun b hb => (hv0.in_ b hb).imp (fun h => List.mem_cons_of_mem _ (List.mem_cons_of_mem _ h)) id), (fun b hb => .inl (by rw [List.mem_singleton.1 hb]; simp)), trivial⟩⟩⟩
end Go.Proofs.YteiaiilfekojfaaGreat.Net
end
section
set_option linter.unusedVariables false
set_option linter.unusedSimpArgs false
namespace Go.Proofs.YteiaiilfekojfaaGreat.Net
open Go.RowKit Sx Wire DrawInv
open Msg
set_option maxRecDepth 100000 in
set_option maxHeartbeats 4000000 in
theorem Tt (s : Nat)  (w : World) : Calls Tryz.prog 24 #[.int .u64 (s : Int)] w fun e w' => e = .returned (.agg #[.int .u8 10, .int .u64 0, .int .u8 0, .int .u64 0, .int .u64 (s : Int), .int .u8 0, .string ⟨[].toArray⟩, .slice none 0 0, .slice none 0 0, .int .u8 0, .int .u32 0, .int .u8 0, .string ⟨[].toArray⟩, .string ⟨[].toArray⟩, .string ⟨[].toArray⟩, .int .u8 0, .int .u8 0, .string ⟨[].toArray⟩]) ∧ Below w.heap.size w w' := by
 refine A0 (n := 5) _ Tryz.func24 rfl rfl rfl (Hp.start w) (Ae (Ac ?_))
 refine zA D5 rfl fun g1 hg1 => ?_
 refine Ad (Aa (Ae (Ac (zm rfl (Ag trivial rfl rfl (fun ρ w E H => Bh (cs := [.int .u8 10, .int .u64 0, .int .u8 0, .int .u64 0, .int .u64 (s : Int), .int .u8 0, .string ⟨[].toArray⟩, .slice none 0 0, .slice none 0 0, .int .u8 0, .int .u32 0, .int .u8 0, .string ⟨[].toArray⟩, .string ⟨[].toArray⟩, .string ⟨[].toArray⟩, .int .u8 0, .int .u8 0, .string ⟨[].toArray⟩]) E rfl rfl (by kernel_rfl)) (zS 0 Av rfl (Ad (Aa (Am ?_)))))))))
 refine Ai _ (fun a w K H => Ja K [.agg #[.int .u8 10, .int .u64 0, .int .u8 0, .int .u64 0, .int .u64 (s : Int), .int .u8 0, .string ⟨[].toArray⟩, .slice none 0 0, .slice none 0 0, .int .u8 0, .int .u32 0, .int .u8 0, .string ⟨[].toArray⟩, .string ⟨[].toArray⟩, .string ⟨[].toArray⟩, .int .u8 0, .int .u8 0, .string ⟨[].toArray⟩]] rfl ⟨⟨_, rfl, AM (H.get (i := 0) rfl) Tryz.underlying33 rfl Av⟩, trivial⟩) (fun w H => ?_)
 exact ⟨rfl, H.toBelow ⟨(zq hg1), trivial⟩⟩

end Go.Proofs.YteiaiilfekojfaaGreat.Net
end
section
set_option linter.unusedVariables false
set_option linter.unusedSimpArgs false
namespace Go.Proofs.YteiaiilfekojfaaGreat.Net
open Go.RowKit Sx Wire DrawInv
open Msg
theorem J2 : ∀ {L : List Ft} {i : Nat} {f q : Ft}, q ∈ putF L i f → q = f ∨ q ∈ L
 | [], _, _, _, h => by cases h
 | x :: L, 0, f, q, h => by
  rcases List.mem_cons.1 h with rfl | h
  ·exact .inl rfl
  ·exact .inr (List.mem_cons_of_mem _ h)
 | x :: L, i + 1, f, q, h => by
  rcases List.mem_cons.1 h with rfl | h
  ·exact .inr (List.mem_cons_self ..)
  ·exact (J2 h).imp id (List.mem_cons_of_mem _)
theorem FN {base g gm i f t : Nat} {k : Int} {V : Value} {bag : List Pa} {M : Df} {w0 : World} {L : List Ft} {r : List Pa × (Nat × Nat × Ms) × Nat} (hL : nth L i = some (E7 base g gm V bag M)) (hV : OwnIn w0 [] V) (hb512 : bag.length ≤ 512) (hT : NU M) (hby : ∀ p ∈ bag, p.bytes.length ≤ 100000) (hr : FX bag M f t k = r) :
  ∀ w, Hp w0 L w → Calls Tryz.prog 23 #[.pointer (some ⟨g, 0, none⟩), .int .u8 (f : Int), .int .u8 (t : Int), .int .i64 k] w fun E w' => ∃ (q : Value × Value × Value), E = .returned (.tuple #[.agg (.int .u8 (r.2.1.1 : Int) :: .int .u8 (r.2.1.2.1 : Int) :: msL r.2.1.2.2 q.2.1 q.2.2).toArray, .int .i64 (r.2.2 : Int)]) ∧ (OwnIn w0 [] q.1 ∧ OwnIn w0 [] q.2.1 ∧ OwnIn w0 [] q.2.2) ∧
   Hp w0 (BU [] w0.heap.size 92 4 q.2.1 r.2.1.2.2.votes.length (r.2.1.2.2.votes.flatMap voL) :: BU [] w0.heap.size 94 2 q.2.2 r.2.1.2.2.items.length (r.2.1.2.2.items.flatMap imL) :: putF L i (E7 base g gm q.1 r.1 M)) w' := fun w H => by
 subst hr
 refine (take_any base g gm V bag M f t k w (H.get hL) hb512 hT hby).mono ?_
 rintro E w' ⟨U, I, he, ⟨V', hn, hin, hos⟩, hU, hI, hU2, hI2⟩
 have hsz : ∀ b ∈ V'.ownBlock.toList, w0.heap.size ≤ b := fun b hb => (hin b hb).elim (fun h => (hV b h).elim (fun h => by cases h) id) (fun h => Nat.le_trans H.os.size h)
 have H1 := H.chg hL (E7 base g gm V' (FX bag M f t k).1 M) hos (GP _ _ _ _ _ _) (fun b hb => by
  rcases List.mem_cons.1 hb with rfl | hb
  ·exact ⟨Blk.lt hn.1, .inl (List.mem_cons_self ..)⟩
  rcases List.mem_cons.1 hb with rfl | hb
  ·exact ⟨hn.2.2.lt, .inl (List.mem_cons_of_mem _ (List.mem_cons_self ..))⟩
  ·exact ⟨(BS hn.2.1 b hb).2, (hin b hb).imp (fun h => List.mem_cons_of_mem _ (List.mem_cons_of_mem _ h)) id⟩) (fun b hb => by
  rcases List.mem_cons.1 hb with rfl | hb
  ·exact .inl (List.mem_cons_self ..)
  rcases List.mem_cons.1 hb with rfl | hb
  ·exact .inl (List.mem_cons_of_mem _ (List.mem_cons_self ..))
  ·exact .inr ((hV b hb).elim (fun h => by cases h) id)) hn
 have fU : OwnIn w0 [] U := fun b hb => .inr (Nat.le_trans H.os.size (BS hU b hb).1)
 have fI : OwnIn w0 [] I := fun b hb => .inr (Nat.le_trans H.os.size (BS hI b hb).1)
 have hlt := OY (H.get hL : (E7 base g gm V bag M).φ w)
 have far : ∀ b, w.heap.size ≤ b → b ∉ V'.ownBlock.toList → ∀ q ∈ putF L i (E7 base g gm V' (FX bag M f t k).1 M), b ∉ q.fp := fun b hb hbV q hq hbq => by
  rcases J2 hq with rfl | hq
  ·rcases List.mem_cons.1 hbq with rfl | hbq
   ·have := hlt b (List.mem_cons_self ..); omega
   rcases List.mem_cons.1 hbq with rfl | hbq
   ·have := hlt b (List.mem_cons_of_mem _ (List.mem_cons_self ..)); omega
   ·exact hbV hbq
  ·have := (H.ok q hq).2.1 b hbq; omega
 refine ⟨(V', U, I), he, ⟨fun b hb => .inr (hsz b hb), fU, fI⟩, ?_⟩
 have H2 := H1.know (BU [] w0.heap.size 94 2 I (FX bag M f t k).2.1.2.2.items.length ((FX bag M f t k).2.1.2.2.items.flatMap imL)) (BF _ _ _ _ _ _ _) (fun b hb => by
  have hb : b ∈ I.ownBlock.toList := by simpa [BU] using hb
  exact ⟨(BS hI b hb).2, far b (BS hI b hb).1 (JS hI hn.2.1 (by decide) b hb)⟩) (CY hI H.os.size)
 refine H2.know _ (BF _ _ _ _ _ _ _) (fun b hb => ?_) (CY hU H.os.size)
 have hb : b ∈ U.ownBlock.toList := by simpa [BU] using hb
 refine ⟨(BS hU b hb).2, fun q hq hbq => ?_⟩
 rcases List.mem_cons.1 hq with rfl | hq
 ·have hbq : b ∈ I.ownBlock.toList := by simpa [BU] using hbq
  exact JS hU hI (by decide) b hb hbq
 ·exact far b (BS hU b hb).1 (JS hU hn.2.1 (by decide) b hb) q hq hbq
end Go.Proofs.YteiaiilfekojfaaGreat.Net
end
section
set_option linter.unusedVariables false
set_option linter.unusedSimpArgs false
namespace Go.Proofs.YteiaiilfekojfaaGreat.Net
open Go.RowKit Sx Wire DrawInv
open Msg
def Ij (k : Nat) : Ms := ⟨10, 0, 0, 0, k, 0, [], [], [], Cmd.cm0, 0, []⟩
theorem NM (k : Nat) (hk : k < 18446744073709551616) : (Ij k).Fits := ⟨(show 10 < 256 by decide), (show 0 < 18446744073709551616 by decide), (show 0 < 256 by decide), (show 0 < 18446744073709551616 by decide), hk, (show 0 < 256 by decide), (fun v h => by cases h), (fun v h => by cases h), Cmd.cm0_fits, (show 0 < 256 by decide)⟩
theorem To (k : Nat) : (Ij k).Lim := ⟨(show 0 ≤ 300 by decide), (show 0 ≤ 100 by decide), (show 0 ≤ 100 by decide), (fun v h => by cases h), (fun v h => by cases h), (show 0 ≤ 300 by decide), (show 0 ≤ 300 by decide), (show 0 ≤ 300 by decide), (show 0 ≤ 300 by decide)⟩
theorem O9 (k : Nat) (hk : k ≤ 1000) : C9 (Ij k) = true := by
 simp [C9, Ij, AK, Pt.may, M9, Pt.move, ms0]
 omega
theorem KO (k : Nat) (hk : k ≤ 1000) : (BP (Ij k)).length ≤ 20 := by
 have h1 := (B0 k (by omega)).1
 have e : BP (Ij k) = UInt8.ofNat 10 :: (BI k ++ []) := rfl
 rw [e, List.length_cons, List.append_nil]
 omega
theorem XC (k : Nat) (hk : k ≤ 1000) : ∃ s : List UInt8, putM (Ij k) = (s, 0) ∧ s.length ≤ 100000 ∧ EX s = (Ij k, 0) := by
 have h1 := HO (O9 k hk) (Nat.le_trans (KO k hk) (by decide))
 have h2 := LE _ (NM k (by omega)) (To k).short (O9 k hk) (Nat.le_trans (KO k hk) (by decide))
 refine ⟨_, h1, ?_, h2⟩
 have h3 := KO k hk
 have h4 := (B0 (BP (Ij k)).length (by omega)).1
 have h5 := Frame.leB_length 8 (Frame.crcSum (BP (Ij k)))
 show (BI (BP (Ij k)).length ++ (Frame.leB 8 (Frame.crcSum (BP (Ij k))) ++ BP (Ij k))).length ≤ _
 rw [List.length_append, List.length_append, h5]
 omega
end Go.Proofs.YteiaiilfekojfaaGreat.Net
end
section
set_option linter.unusedVariables false
set_option linter.unusedSimpArgs false
namespace Go.Proofs.YteiaiilfekojfaaGreat.Net
open Go.RowKit Sx Wire DrawInv
open Msg
theorem CH {base g gm : Nat} {V : Value} {bag : List Pa} {M : Df} {w0 : World} (h1 : w0.heap.size ≤ g) (h2 : w0.heap.size ≤ gm) (hV : OwnIn w0 [] V) : ∀ b ∈ (E7 base g gm V bag M).fp, w0.heap.size ≤ b := fun b hb => by
 rcases List.mem_cons.1 hb with rfl | hb
 ·exact h1
 rcases List.mem_cons.1 hb with rfl | hb
 ·exact h2
 ·exact (hV b hb).elim (fun h => by cases h) id
theorem O5 {w0 : World} {L : List Ft} : ∀ w, Hp w0 L w → Calls Tryz.prog 22 #[] w fun E w' => ∃ s : Nat × Nat, E = .returned (.pointer (some ⟨s.1, 0, none⟩)) ∧ (w0.heap.size ≤ s.1 ∧ w0.heap.size ≤ s.2) ∧ Hp w0 (E7 w0.heap.size s.1 s.2 (.slice none 0 0) [] [] :: L) w' := fun w H => by
 refine (Xa w).mono ?_
 rintro E w' ⟨g, gm, he, hn, h1, h2, hb⟩
 refine ⟨(g, gm), he, ⟨Nat.le_trans H.os.size h1, Nat.le_trans H.os.size h2⟩, H.add hb _ (GP _ _ _ _ _ _) (fun b hb => ?_) ⟨hn.1, World.ownsRow_nil _ _ _ _, hn.2.2⟩⟩
 rcases List.mem_cons.1 hb with rfl | hb
 ·exact ⟨Blk.lt hn.1, h1⟩
 rcases List.mem_cons.1 hb with rfl | hb
 ·exact ⟨hn.2.2.lt, h2⟩
 ·simp [Value.ownBlock] at hb
theorem I7 (base g gm : Nat) (V : Value) (bag : List Pa) (M : Df) (f t : Nat) (m : Ms) (A B : Option Addr) (ka kb : Nat) (w : World) (hn : (E7 base g gm V bag M).φ w) (hb512 : bag.length ≤ 512) (hbase : base ≤ w.heap.size) (hf : m.Fits) (hs : m.Small) (hr : MsRows w m A B) :
  Calls Tryz.prog 30 #[.pointer (some ⟨g, 0, none⟩), .agg (.int .u8 (f : Int) :: .int .u8 (t : Int) :: msL m (.slice A m.votes.length ka) (.slice B m.items.length kb)).toArray] w fun e w' => e = .returned (.int .i64 ((FY bag f t m).2 : Int)) ∧ K8 base g gm V (FY bag f t m).1 M w w' := by
 obtain ⟨mk, mn, mr, mb, ms, mo, mv, vl, il, ⟨ca, cb, ck, cs, ct, cu, cz⟩, mc, mt⟩ := m
 exact Vk base g gm V bag M f t _ _ _ _ _ _ _ _ _ _ _ _ _ _ _ _ _ _ A B ka kb w hn hb512 hbase hf hs hr
theorem Su {w : World} {base k : Nat} {e : TypeId} {A : Option Addr} (h : w.ownsRow base e 4 (.slice A 0 k) 0 []) : Rows w A 4 voL [] := by
 obtain ⟨A', c', e', _, hr⟩ := ID (l := []) JJ (by decide) h
 injection e' with e1 e2 e3
 subst e1
 exact hr
theorem SQ {w : World} {base k : Nat} {e : TypeId} {A : Option Addr} (h : w.ownsRow base e 2 (.slice A 0 k) 0 []) : Rows w A 2 imL [] := by
 obtain ⟨A', c', e', _, hr⟩ := ID (l := []) JX (by decide) h
 injection e' with e1 e2 e3
 subst e1
 exact hr
end Go.Proofs.YteiaiilfekojfaaGreat.Net
end
section
set_option linter.unusedVariables false
namespace Go.Proofs.YteiaiilfekojfaaGreat.Msg
open Go.Joins Go.RowKit Go.WideShapes Go.ChangeShapes Go.Deep

structure Vx where
 slot : Nat
 n : Nat
 r : Nat
 value : List UInt8
def Vx.Fits (x : Vx) : Prop := x.slot < 18446744073709551616 ∧ x.n < 18446744073709551616 ∧ x.r < 256 ∧ x.value.length ≤ 9223372036854775807
def vxC (x : Vx) : List Value := [.int .u64 (x.slot : Int), .int .u64 (x.n : Int), .int .u8 (x.r : Int), .string ⟨x.value.toArray⟩]
set_option linter.unusedSimpArgs false in
set_option maxRecDepth 100000 in
theorem Yr {w : World} : ∀ n es, es.length = 4 → CQ Tryz.prog w n 92 es → ∃ x, Vx.Fits x ∧ es = vxC x := by
 intro n es hlen h
 match es, hlen with
 | [c0, c1, c2, c3], _ =>
  have e0 : Tryz.prog.cellsOf 24 = 2 := by kernel_rfl
  have e1 : Tryz.prog.cellsOf 9 = 1 := by kernel_rfl
  have e2 : Tryz.prog.cellsOf 22 = 1 := by kernel_rfl
  have e3 : Tryz.prog.cellsOf 5 = 1 := by kernel_rfl
  obtain ⟨m1, _, hf1⟩ := EP Tryz.underlying92 h
  have g1_0 : CQ Tryz.prog w m1 22 ((([c0, c1, c2, c3] : List Value).drop 0).take (Tryz.prog.cellsOf 22)) := hf1 0 _ rfl
  rw [e2] at g1_0
  simp only [List.drop_zero, List.drop_succ_cons, List.take_succ_cons, List.take_zero] at g1_0
  have g1_1 : CQ Tryz.prog w m1 24 ((([c0, c1, c2, c3] : List Value).drop 1).take (Tryz.prog.cellsOf 24)) := hf1 1 _ rfl
  rw [e0] at g1_1
  simp only [List.drop_zero, List.drop_succ_cons, List.take_succ_cons, List.take_zero] at g1_1
  have g1_2 : CQ Tryz.prog w m1 9 ((([c0, c1, c2, c3] : List Value).drop 3).take (Tryz.prog.cellsOf 9)) := hf1 2 _ rfl
  rw [e1] at g1_2
  simp only [List.drop_zero, List.drop_succ_cons, List.take_succ_cons, List.take_zero] at g1_2
  obtain ⟨z0, q0, w0⟩ := Du Tryz.underlying22 g1_0
  obtain rfl : c0 = _ := List.head_eq_of_cons_eq q0
  have b0 := bounds_u64 w0
  obtain ⟨x0, rfl⟩ := Int.eq_ofNat_of_zero_le b0.1
  obtain ⟨m2, _, hf2⟩ := EP Tryz.underlying24 g1_1
  have g2_0 : CQ Tryz.prog w m2 22 ((([c1, c2] : List Value).drop 0).take (Tryz.prog.cellsOf 22)) := hf2 0 _ rfl
  rw [e2] at g2_0
  simp only [List.drop_zero, List.drop_succ_cons, List.take_succ_cons, List.take_zero] at g2_0
  have g2_1 : CQ Tryz.prog w m2 5 ((([c1, c2] : List Value).drop 1).take (Tryz.prog.cellsOf 5)) := hf2 1 _ rfl
  rw [e3] at g2_1
  simp only [List.drop_zero, List.drop_succ_cons, List.take_succ_cons, List.take_zero] at g2_1
  obtain ⟨z1, q1, w1⟩ := Du Tryz.underlying22 g2_0
  obtain rfl : c1 = _ := List.head_eq_of_cons_eq q1
  have b1 := bounds_u64 w1
  obtain ⟨x1, rfl⟩ := Int.eq_ofNat_of_zero_le b1.1
  obtain ⟨z2, q2, w2⟩ := Du Tryz.underlying5 g2_1
  obtain rfl : c2 = _ := List.head_eq_of_cons_eq q2
  have b2 := bounds_u8 w2
  obtain ⟨x2, rfl⟩ := Int.eq_ofNat_of_zero_le b2.1
  obtain ⟨x3, q3, b3⟩ := Fp Tryz.underlying9 g1_2
  obtain rfl : c3 = _ := List.head_eq_of_cons_eq q3
  exact ⟨⟨x0, x1, x2, x3⟩, by simp only [Vx.Fits]; omega, rfl⟩

set_option maxRecDepth 100000 in
theorem Ys {w : World} : ∀ n es, es.length = 4 → CQ Tryz.prog w n 92 es → ∃ x : Vo, x.Fits ∧ es = voL x := by
 intro n es hl h
 obtain ⟨x, hx, he⟩ := Yr n es hl h
 simp only [Vx.Fits] at hx
 exact ⟨⟨x.slot, x.n, x.r, x.value⟩, ⟨hx.1, hx.2.1, hx.2.2.1⟩, he⟩
structure Ix where
 slot : Nat
 value : List UInt8
def Ix.Fits (x : Ix) : Prop := x.slot < 18446744073709551616 ∧ x.value.length ≤ 9223372036854775807
def ixC (x : Ix) : List Value := [.int .u64 (x.slot : Int), .string ⟨x.value.toArray⟩]
set_option linter.unusedSimpArgs false in
set_option maxRecDepth 100000 in
theorem Yu {w : World} : ∀ n es, es.length = 2 → CQ Tryz.prog w n 94 es → ∃ x, Ix.Fits x ∧ es = ixC x := by
 intro n es hlen h
 match es, hlen with
 | [c0, c1], _ =>
  have e0 : Tryz.prog.cellsOf 9 = 1 := by kernel_rfl
  have e1 : Tryz.prog.cellsOf 22 = 1 := by kernel_rfl
  obtain ⟨m1, _, hf1⟩ := EP Tryz.underlying94 h
  have g1_0 : CQ Tryz.prog w m1 22 ((([c0, c1] : List Value).drop 0).take (Tryz.prog.cellsOf 22)) := hf1 0 _ rfl
  rw [e1] at g1_0
  simp only [List.drop_zero, List.drop_succ_cons, List.take_succ_cons, List.take_zero] at g1_0
  have g1_1 : CQ Tryz.prog w m1 9 ((([c0, c1] : List Value).drop 1).take (Tryz.prog.cellsOf 9)) := hf1 1 _ rfl
  rw [e0] at g1_1
  simp only [List.drop_zero, List.drop_succ_cons, List.take_succ_cons, List.take_zero] at g1_1
  obtain ⟨z0, q0, w0⟩ := Du Tryz.underlying22 g1_0
  obtain rfl : c0 = _ := List.head_eq_of_cons_eq q0
  have b0 := bounds_u64 w0
  obtain ⟨x0, rfl⟩ := Int.eq_ofNat_of_zero_le b0.1
  obtain ⟨x1, q1, b1⟩ := Fp Tryz.underlying9 g1_1
  obtain rfl : c1 = _ := List.head_eq_of_cons_eq q1
  exact ⟨⟨x0, x1⟩, by simp only [Ix.Fits]; omega, rfl⟩

theorem Yv {w : World} : ∀ n es, es.length = 2 → CQ Tryz.prog w n 94 es → ∃ x : Im, x.slot < 18446744073709551616 ∧ es = imL x := by
 intro n es hl h
 obtain ⟨x, hx, he⟩ := Yu n es hl h
 simp only [Ix.Fits] at hx
 exact ⟨⟨x.slot, x.value⟩, hx.1, he⟩
set_option maxRecDepth 100000 in
theorem U0 {w : World} {n : Nat} {cs : List Value} (h : CQ Tryz.prog w n 25 cs) : ∃ (A : Option Addr) (c : Nat) (V : List Vo), cs = [.slice A V.length c] ∧ Rows w A 4 voL V ∧ (∀ x ∈ V, x.Fits) ∧ V.length ≤ 9223372036854775807 := by
 cases n with
 | zero => exact h.elim
 | succ n =>
  unfold CQ at h
  rw [Tryz.underlying25] at h
  have e4 : Tryz.prog.cellsOf 92 = 4 := by kernel_rfl
  rcases h with h0 | ⟨a, len, cap, h0, hl, hc, hi⟩
  ·exact ⟨none, 0, [], h0, Rows.nil _ _ _ _, by simp, by simp⟩
  ·obtain ⟨l, h1, h2, h3⟩ := OS (w := w) (sz := 4) (cells := voL) (a := a) (m := len) (Q := fun x => x.Fits) (fun i hil => by
    obtain ⟨es, e1, e2, e3⟩ := hi i hil
    obtain ⟨x, hx, he⟩ := Ys n es (by rw [e1, e4]) e2
    exact ⟨x, hx, es, he, by rw [e4] at e3; exact e3⟩) (fun x => by rw [JJ]; omega)
   exact ⟨some a, cap, l, by rw [h1]; exact h0, h3, h2, by omega⟩
set_option maxRecDepth 100000 in
theorem U1 {w : World} {n : Nat} {cs : List Value} (h : CQ Tryz.prog w n 26 cs) : ∃ (A : Option Addr) (c : Nat) (V : List Im), cs = [.slice A V.length c] ∧ Rows w A 2 imL V ∧ (∀ x ∈ V, x.slot < 18446744073709551616) ∧ V.length ≤ 9223372036854775807 := by
 cases n with
 | zero => exact h.elim
 | succ n =>
  unfold CQ at h
  rw [Tryz.underlying26] at h
  have e4 : Tryz.prog.cellsOf 94 = 2 := by kernel_rfl
  rcases h with h0 | ⟨a, len, cap, h0, hl, hc, hi⟩
  ·exact ⟨none, 0, [], h0, Rows.nil _ _ _ _, by simp, by simp⟩
  ·obtain ⟨l, h1, h2, h3⟩ := OS (w := w) (sz := 2) (cells := imL) (a := a) (m := len) (Q := fun x => x.slot < 18446744073709551616) (fun i hil => by
    obtain ⟨es, e1, e2, e3⟩ := hi i hil
    obtain ⟨x, hx, he⟩ := Yv n es (by rw [e1, e4]) e2
    exact ⟨x, hx, es, he, by rw [e4] at e3; exact e3⟩) (fun x => by rw [JX]; omega)
   exact ⟨some a, cap, l, by rw [h1]; exact h0, h3, h2, by omega⟩
set_option linter.unusedSimpArgs false in
set_option maxRecDepth 100000 in
theorem X2 {w : World} : ∀ n es, es.length = 18 → CQ Tryz.prog w n 33 es → ∃ (m : Ms) (A : Option Addr) (ka : Nat) (B : Option Addr) (kb : Nat), m.Fits ∧ MsRows w m A B ∧ (m.votes.length ≤ 9223372036854775807 ∧ m.items.length ≤ 9223372036854775807) ∧ es = msL m (.slice A m.votes.length ka) (.slice B m.items.length kb) := by
 intro n es hlen h
 match es, hlen with
 | [c0, c1, c2, c3, c4, c5, c6, c7, c8, c9, c10, c11, c12, c13, c14, c15, c16, c17], _ =>
  have e0 : Tryz.prog.cellsOf 26 = 1 := by kernel_rfl
  have e1 : Tryz.prog.cellsOf 25 = 1 := by kernel_rfl
  have e2 : Tryz.prog.cellsOf 24 = 2 := by kernel_rfl
  have e3 : Tryz.prog.cellsOf 29 = 7 := by kernel_rfl
  have e4 : Tryz.prog.cellsOf 31 = 2 := by kernel_rfl
  have e5 : Tryz.prog.cellsOf 9 = 1 := by kernel_rfl
  have e6 : Tryz.prog.cellsOf 27 = 1 := by kernel_rfl
  have e7 : Tryz.prog.cellsOf 22 = 1 := by kernel_rfl
  have e8 : Tryz.prog.cellsOf 5 = 1 := by kernel_rfl
  obtain ⟨m1, _, hf1⟩ := EP Tryz.underlying33 h
  have g1_0 : CQ Tryz.prog w m1 5 ((([c0, c1, c2, c3, c4, c5, c6, c7, c8, c9, c10, c11, c12, c13, c14, c15, c16, c17] : List Value).drop 0).take (Tryz.prog.cellsOf 5)) := hf1 0 _ rfl
  rw [e8] at g1_0
  simp only [List.drop_zero, List.drop_succ_cons, List.take_succ_cons, List.take_zero] at g1_0
  have g1_1 : CQ Tryz.prog w m1 24 ((([c0, c1, c2, c3, c4, c5, c6, c7, c8, c9, c10, c11, c12, c13, c14, c15, c16, c17] : List Value).drop 1).take (Tryz.prog.cellsOf 24)) := hf1 1 _ rfl
  rw [e2] at g1_1
  simp only [List.drop_zero, List.drop_succ_cons, List.take_succ_cons, List.take_zero] at g1_1
  have g1_2 : CQ Tryz.prog w m1 22 ((([c0, c1, c2, c3, c4, c5, c6, c7, c8, c9, c10, c11, c12, c13, c14, c15, c16, c17] : List Value).drop 3).take (Tryz.prog.cellsOf 22)) := hf1 2 _ rfl
  rw [e7] at g1_2
  simp only [List.drop_zero, List.drop_succ_cons, List.take_succ_cons, List.take_zero] at g1_2
  have g1_3 : CQ Tryz.prog w m1 22 ((([c0, c1, c2, c3, c4, c5, c6, c7, c8, c9, c10, c11, c12, c13, c14, c15, c16, c17] : List Value).drop 4).take (Tryz.prog.cellsOf 22)) := hf1 3 _ rfl
  rw [e7] at g1_3
  simp only [List.drop_zero, List.drop_succ_cons, List.take_succ_cons, List.take_zero] at g1_3
  have g1_4 : CQ Tryz.prog w m1 5 ((([c0, c1, c2, c3, c4, c5, c6, c7, c8, c9, c10, c11, c12, c13, c14, c15, c16, c17] : List Value).drop 5).take (Tryz.prog.cellsOf 5)) := hf1 4 _ rfl
  rw [e8] at g1_4
  simp only [List.drop_zero, List.drop_succ_cons, List.take_succ_cons, List.take_zero] at g1_4
  have g1_5 : CQ Tryz.prog w m1 9 ((([c0, c1, c2, c3, c4, c5, c6, c7, c8, c9, c10, c11, c12, c13, c14, c15, c16, c17] : List Value).drop 6).take (Tryz.prog.cellsOf 9)) := hf1 5 _ rfl
  rw [e5] at g1_5
  simp only [List.drop_zero, List.drop_succ_cons, List.take_succ_cons, List.take_zero] at g1_5
  have g1_6 : CQ Tryz.prog w m1 25 ((([c0, c1, c2, c3, c4, c5, c6, c7, c8, c9, c10, c11, c12, c13, c14, c15, c16, c17] : List Value).drop 7).take (Tryz.prog.cellsOf 25)) := hf1 6 _ rfl
  rw [e1] at g1_6
  simp only [List.drop_zero, List.drop_succ_cons, List.take_succ_cons, List.take_zero] at g1_6
  have g1_7 : CQ Tryz.prog w m1 26 ((([c0, c1, c2, c3, c4, c5, c6, c7, c8, c9, c10, c11, c12, c13, c14, c15, c16, c17] : List Value).drop 8).take (Tryz.prog.cellsOf 26)) := hf1 7 _ rfl
  rw [e0] at g1_7
  simp only [List.drop_zero, List.drop_succ_cons, List.take_succ_cons, List.take_zero] at g1_7
  have g1_8 : CQ Tryz.prog w m1 29 ((([c0, c1, c2, c3, c4, c5, c6, c7, c8, c9, c10, c11, c12, c13, c14, c15, c16, c17] : List Value).drop 9).take (Tryz.prog.cellsOf 29)) := hf1 8 _ rfl
  rw [e3] at g1_8
  simp only [List.drop_zero, List.drop_succ_cons, List.take_succ_cons, List.take_zero] at g1_8
  have g1_9 : CQ Tryz.prog w m1 31 ((([c0, c1, c2, c3, c4, c5, c6, c7, c8, c9, c10, c11, c12, c13, c14, c15, c16, c17] : List Value).drop 16).take (Tryz.prog.cellsOf 31)) := hf1 9 _ rfl
  rw [e4] at g1_9
  simp only [List.drop_zero, List.drop_succ_cons, List.take_succ_cons, List.take_zero] at g1_9
  obtain ⟨z0, q0, w0⟩ := Du Tryz.underlying5 g1_0
  obtain rfl : c0 = _ := List.head_eq_of_cons_eq q0
  have b0 := bounds_u8 w0
  obtain ⟨x0, rfl⟩ := Int.eq_ofNat_of_zero_le b0.1
  obtain ⟨m2, _, hf2⟩ := EP Tryz.underlying24 g1_1
  have g2_0 : CQ Tryz.prog w m2 22 ((([c1, c2] : List Value).drop 0).take (Tryz.prog.cellsOf 22)) := hf2 0 _ rfl
  rw [e7] at g2_0
  simp only [List.drop_zero, List.drop_succ_cons, List.take_succ_cons, List.take_zero] at g2_0
  have g2_1 : CQ Tryz.prog w m2 5 ((([c1, c2] : List Value).drop 1).take (Tryz.prog.cellsOf 5)) := hf2 1 _ rfl
  rw [e8] at g2_1
  simp only [List.drop_zero, List.drop_succ_cons, List.take_succ_cons, List.take_zero] at g2_1
  obtain ⟨z1, q1, w1⟩ := Du Tryz.underlying22 g2_0
  obtain rfl : c1 = _ := List.head_eq_of_cons_eq q1
  have b1 := bounds_u64 w1
  obtain ⟨x1, rfl⟩ := Int.eq_ofNat_of_zero_le b1.1
  obtain ⟨z2, q2, w2⟩ := Du Tryz.underlying5 g2_1
  obtain rfl : c2 = _ := List.head_eq_of_cons_eq q2
  have b2 := bounds_u8 w2
  obtain ⟨x2, rfl⟩ := Int.eq_ofNat_of_zero_le b2.1
  obtain ⟨z3, q3, w3⟩ := Du Tryz.underlying22 g1_2
  obtain rfl : c3 = _ := List.head_eq_of_cons_eq q3
  have b3 := bounds_u64 w3
  obtain ⟨x3, rfl⟩ := Int.eq_ofNat_of_zero_le b3.1
  obtain ⟨z4, q4, w4⟩ := Du Tryz.underlying22 g1_3
  obtain rfl : c4 = _ := List.head_eq_of_cons_eq q4
  have b4 := bounds_u64 w4
  obtain ⟨x4, rfl⟩ := Int.eq_ofNat_of_zero_le b4.1
  obtain ⟨z5, q5, w5⟩ := Du Tryz.underlying5 g1_4
  obtain rfl : c5 = _ := List.head_eq_of_cons_eq q5
  have b5 := bounds_u8 w5
  obtain ⟨x5, rfl⟩ := Int.eq_ofNat_of_zero_le b5.1
  obtain ⟨x6, q6, b6⟩ := Fp Tryz.underlying9 g1_5
  obtain rfl : c6 = _ := List.head_eq_of_cons_eq q6
  obtain ⟨A7, k7, V7, q7, r7, f7, n7⟩ := U0 g1_6
  obtain rfl : c7 = _ := List.head_eq_of_cons_eq q7
  obtain ⟨A8, k8, V8, q8, r8, f8, n8⟩ := U1 g1_7
  obtain rfl : c8 = _ := List.head_eq_of_cons_eq q8
  obtain ⟨m3, _, hf3⟩ := EP Tryz.underlying29 g1_8
  have g3_0 : CQ Tryz.prog w m3 5 ((([c9, c10, c11, c12, c13, c14, c15] : List Value).drop 0).take (Tryz.prog.cellsOf 5)) := hf3 0 _ rfl
  rw [e8] at g3_0
  simp only [List.drop_zero, List.drop_succ_cons, List.take_succ_cons, List.take_zero] at g3_0
  have g3_1 : CQ Tryz.prog w m3 27 ((([c9, c10, c11, c12, c13, c14, c15] : List Value).drop 1).take (Tryz.prog.cellsOf 27)) := hf3 1 _ rfl
  rw [e6] at g3_1
  simp only [List.drop_zero, List.drop_succ_cons, List.take_succ_cons, List.take_zero] at g3_1
  have g3_2 : CQ Tryz.prog w m3 5 ((([c9, c10, c11, c12, c13, c14, c15] : List Value).drop 2).take (Tryz.prog.cellsOf 5)) := hf3 2 _ rfl
  rw [e8] at g3_2
  simp only [List.drop_zero, List.drop_succ_cons, List.take_succ_cons, List.take_zero] at g3_2
  have g3_3 : CQ Tryz.prog w m3 9 ((([c9, c10, c11, c12, c13, c14, c15] : List Value).drop 3).take (Tryz.prog.cellsOf 9)) := hf3 3 _ rfl
  rw [e5] at g3_3
  simp only [List.drop_zero, List.drop_succ_cons, List.take_succ_cons, List.take_zero] at g3_3
  have g3_4 : CQ Tryz.prog w m3 9 ((([c9, c10, c11, c12, c13, c14, c15] : List Value).drop 4).take (Tryz.prog.cellsOf 9)) := hf3 4 _ rfl
  rw [e5] at g3_4
  simp only [List.drop_zero, List.drop_succ_cons, List.take_succ_cons, List.take_zero] at g3_4
  have g3_5 : CQ Tryz.prog w m3 9 ((([c9, c10, c11, c12, c13, c14, c15] : List Value).drop 5).take (Tryz.prog.cellsOf 9)) := hf3 5 _ rfl
  rw [e5] at g3_5
  simp only [List.drop_zero, List.drop_succ_cons, List.take_succ_cons, List.take_zero] at g3_5
  have g3_6 : CQ Tryz.prog w m3 5 ((([c9, c10, c11, c12, c13, c14, c15] : List Value).drop 6).take (Tryz.prog.cellsOf 5)) := hf3 6 _ rfl
  rw [e8] at g3_6
  simp only [List.drop_zero, List.drop_succ_cons, List.take_succ_cons, List.take_zero] at g3_6
  obtain ⟨z9, q9, w9⟩ := Du Tryz.underlying5 g3_0
  obtain rfl : c9 = _ := List.head_eq_of_cons_eq q9
  have b9 := bounds_u8 w9
  obtain ⟨x9, rfl⟩ := Int.eq_ofNat_of_zero_le b9.1
  obtain ⟨z10, q10, w10⟩ := Du Tryz.underlying27 g3_1
  obtain rfl : c10 = _ := List.head_eq_of_cons_eq q10
  have b10 := bounds_u32 w10
  obtain ⟨x10, rfl⟩ := Int.eq_ofNat_of_zero_le b10.1
  obtain ⟨z11, q11, w11⟩ := Du Tryz.underlying5 g3_2
  obtain rfl : c11 = _ := List.head_eq_of_cons_eq q11
  have b11 := bounds_u8 w11
  obtain ⟨x11, rfl⟩ := Int.eq_ofNat_of_zero_le b11.1
  obtain ⟨x12, q12, b12⟩ := Fp Tryz.underlying9 g3_3
  obtain rfl : c12 = _ := List.head_eq_of_cons_eq q12
  obtain ⟨x13, q13, b13⟩ := Fp Tryz.underlying9 g3_4
  obtain rfl : c13 = _ := List.head_eq_of_cons_eq q13
  obtain ⟨x14, q14, b14⟩ := Fp Tryz.underlying9 g3_5
  obtain rfl : c14 = _ := List.head_eq_of_cons_eq q14
  obtain ⟨z15, q15, w15⟩ := Du Tryz.underlying5 g3_6
  obtain rfl : c15 = _ := List.head_eq_of_cons_eq q15
  have b15 := bounds_u8 w15
  obtain ⟨x15, rfl⟩ := Int.eq_ofNat_of_zero_le b15.1
  obtain ⟨m4, _, hf4⟩ := EP Tryz.underlying31 g1_9
  have g4_0 : CQ Tryz.prog w m4 5 ((([c16, c17] : List Value).drop 0).take (Tryz.prog.cellsOf 5)) := hf4 0 _ rfl
  rw [e8] at g4_0
  simp only [List.drop_zero, List.drop_succ_cons, List.take_succ_cons, List.take_zero] at g4_0
  have g4_1 : CQ Tryz.prog w m4 9 ((([c16, c17] : List Value).drop 1).take (Tryz.prog.cellsOf 9)) := hf4 1 _ rfl
  rw [e5] at g4_1
  simp only [List.drop_zero, List.drop_succ_cons, List.take_succ_cons, List.take_zero] at g4_1
  obtain ⟨z16, q16, w16⟩ := Du Tryz.underlying5 g4_0
  obtain rfl : c16 = _ := List.head_eq_of_cons_eq q16
  have b16 := bounds_u8 w16
  obtain ⟨x16, rfl⟩ := Int.eq_ofNat_of_zero_le b16.1
  obtain ⟨x17, q17, b17⟩ := Fp Tryz.underlying9 g4_1
  obtain rfl : c17 = _ := List.head_eq_of_cons_eq q17
  exact ⟨⟨x0, x1, x2, x3, x4, x5, x6, V7, V8, ⟨x9, x10, x11, x12, x13, x14, x15⟩, x16, x17⟩, A7, k7, A8, k8, ⟨(show x0 < 256 by omega), (show x1 < 18446744073709551616 by omega), (show x2 < 256 by omega), (show x3 < 18446744073709551616 by omega), (show x4 < 18446744073709551616 by omega), (show x5 < 256 by omega), f7, f8, ⟨(show x9 < 256 by omega), (show x10 < 4294967296 by omega), (show x11 < 256 by omega), b12, b13, b14, (show x15 < 256 by omega)⟩, (show x16 < 256 by omega)⟩, ⟨r7, r8⟩, ⟨n7, n8⟩, rfl⟩

end Go.Proofs.YteiaiilfekojfaaGreat.Msg
end
section
set_option linter.unusedVariables false
set_option linter.unusedSimpArgs false
namespace Go.Proofs.YteiaiilfekojfaaGreat.Net
open Go.Joins Go.RowKit Go.WideShapes Go.ChangeShapes Go.Deep Msg Sx

structure Na where
 d : Nat
 f : Nat
 t : Nat
 k : Int
 m : Ms
 A : Option Addr
 ka : Nat
 B : Option Addr
 kb : Nat
def naL (x : Na) : List Value := .int .u8 (x.d : Int) :: .int .u8 (x.f : Int) :: .int .u8 (x.t : Int) :: .int .i64 x.k :: msL x.m (.slice x.A x.m.votes.length x.ka) (.slice x.B x.m.items.length x.kb)
structure Na.Ok (w : World) (x : Na) : Prop where
 d : x.d < 256
 f : x.f < 256
 t : x.t < 256
 k : -9223372036854775808 ≤ x.k ∧ x.k ≤ 9223372036854775807
 m : x.m.Fits
 r : MsRows w x.m x.A x.B
 n1 : x.m.votes.length ≤ 9223372036854775807
 n2 : x.m.items.length ≤ 9223372036854775807
theorem Xb (x : Na) : (naL x).length = 22 := rfl
set_option maxRecDepth 100000 in
theorem Yt {w : World} : ∀ n es, es.length = 22 → CQ Tryz.prog w n 55 es → ∃ x : Na, x.Ok w ∧ es = naL x := by
 intro n es hlen h
 match es, hlen with
 | [c0, c1, c2, c3, c4, c5, c6, c7, c8, c9, c10, c11, c12, c13, c14, c15, c16, c17, c18, c19, c20, c21], _ =>
  have e0 : Tryz.prog.cellsOf 5 = 1 := by kernel_rfl
  have e1 : Tryz.prog.cellsOf 3 = 1 := by kernel_rfl
  have e2 : Tryz.prog.cellsOf 33 = 18 := by kernel_rfl
  obtain ⟨m1, _, hf⟩ := EP Tryz.underlying55 h
  have g0 : CQ Tryz.prog w m1 5 ((([c0, c1, c2, c3, c4, c5, c6, c7, c8, c9, c10, c11, c12, c13, c14, c15, c16, c17, c18, c19, c20, c21] : List Value).drop 0).take (Tryz.prog.cellsOf 5)) := hf 0 _ rfl
  have g1 : CQ Tryz.prog w m1 5 ((([c0, c1, c2, c3, c4, c5, c6, c7, c8, c9, c10, c11, c12, c13, c14, c15, c16, c17, c18, c19, c20, c21] : List Value).drop 1).take (Tryz.prog.cellsOf 5)) := hf 1 _ rfl
  have g2 : CQ Tryz.prog w m1 5 ((([c0, c1, c2, c3, c4, c5, c6, c7, c8, c9, c10, c11, c12, c13, c14, c15, c16, c17, c18, c19, c20, c21] : List Value).drop 2).take (Tryz.prog.cellsOf 5)) := hf 2 _ rfl
  have g3 : CQ Tryz.prog w m1 3 ((([c0, c1, c2, c3, c4, c5, c6, c7, c8, c9, c10, c11, c12, c13, c14, c15, c16, c17, c18, c19, c20, c21] : List Value).drop 3).take (Tryz.prog.cellsOf 3)) := hf 3 _ rfl
  have g4 : CQ Tryz.prog w m1 33 ((([c0, c1, c2, c3, c4, c5, c6, c7, c8, c9, c10, c11, c12, c13, c14, c15, c16, c17, c18, c19, c20, c21] : List Value).drop 4).take (Tryz.prog.cellsOf 33)) := hf 4 _ rfl
  rw [e0] at g0 g1 g2
  rw [e1] at g3
  rw [e2] at g4
  simp only [List.drop_zero, List.drop_succ_cons, List.take_succ_cons, List.take_zero] at g0 g1 g2 g3 g4
  obtain ⟨z0, q0, w0⟩ := Du Tryz.underlying5 g0
  obtain ⟨z1, q1, w1⟩ := Du Tryz.underlying5 g1
  obtain ⟨z2, q2, w2⟩ := Du Tryz.underlying5 g2
  obtain ⟨z3, q3, w3⟩ := Du Tryz.underlying3 g3
  obtain ⟨m, A, ka, B, kb, h1, h2, h3, h4⟩ := X2 m1 _ rfl g4
  obtain rfl : c0 = _ := List.head_eq_of_cons_eq q0
  obtain rfl : c1 = _ := List.head_eq_of_cons_eq q1
  obtain rfl : c2 = _ := List.head_eq_of_cons_eq q2
  obtain rfl : c3 = _ := List.head_eq_of_cons_eq q3
  have b0 := bounds_u8 w0
  have b1 := bounds_u8 w1
  have b2 := bounds_u8 w2
  have b3 := bounds_i64 w3
  obtain ⟨x0, rfl⟩ := Int.eq_ofNat_of_zero_le b0.1
  obtain ⟨x1, rfl⟩ := Int.eq_ofNat_of_zero_le b1.1
  obtain ⟨x2, rfl⟩ := Int.eq_ofNat_of_zero_le b2.1
  refine ⟨⟨x0, x1, x2, z3, m, A, ka, B, kb⟩, ⟨(show x0 < 256 by omega), (show x1 < 256 by omega), (show x2 < 256 by omega), ⟨by dsimp only; omega, by dsimp only; omega⟩, h1, h2, h3.1, h3.2⟩, ?_⟩
  unfold naL
  dsimp only
  rw [← h4]
set_option maxRecDepth 100000 in
theorem open_nas {H : Type} {enc : TypeId × Value → H} {w : World} {base : Nat} {v : Value} {d : DataW H} {p : List MemPlace} {r : Reach} (h : DataW.Trod enc Tryz.prog w 0 (fun _ => true) true 47 v d p) (hk : Value.okWide Tryz.prog w r base 47 v) :
  ∃ (A : Option Addr) (c : Nat) (l : List Na), v = .slice A l.length c ∧ Rows w A 22 naL l ∧ (∀ x ∈ l, x.Ok w) ∧ l.length ≤ 9223372036854775807 :=
 Ui Tryz.underlying47 (by kernel_rfl) (fun x => by rw [Xb]; omega) Yt h hk
def prL (p : Nat × Nat) : List Value := [.int .u8 (p.1 : Int), .int .u8 (p.2 : Int)]
theorem Fo (p : Nat × Nat) : (prL p).length = 2 := rfl
theorem SE (p : Nat × Nat) : ∀ u ∈ prL p, u.oneCell' = true := by
 intro u hu
 simp only [prL, List.mem_cons, List.not_mem_nil, or_false] at hu
 rcases hu with rfl | rfl <;> rfl
end Go.Proofs.YteiaiilfekojfaaGreat.Net
end
section
set_option linter.unusedVariables false
set_option linter.unusedSimpArgs false
namespace Go.Proofs.YteiaiilfekojfaaGreat.Net
open Go.RowKit Sx Wire DrawInv
open Msg
structure Rl where
 src : Nat
 dst : Nat
 m : Ms
 A : Option Addr
 ka : Nat
 B : Option Addr
 kb : Nat
def rlL (x : Rl) : List Value := .int .u8 (x.src : Int) :: .int .u8 (x.dst : Int) :: msL x.m (.slice x.A x.m.votes.length x.ka) (.slice x.B x.m.items.length x.kb)
theorem IY (x : Rl) : (rlL x).length = 20 := rfl
theorem JO (x : Rl) : ∀ u ∈ rlL x, u.oneCell' = true := by
 intro u hu
 simp only [rlL, msL, List.mem_cons, List.not_mem_nil, or_false] at hu
 rcases hu with rfl | rfl | rfl | rfl | rfl | rfl | rfl | rfl | rfl | rfl | rfl | rfl | rfl | rfl | rfl | rfl | rfl | rfl | rfl | rfl <;> rfl
def paR (x : Rl) : Pa := ⟨x.src, x.dst, (putM x.m).1⟩
def CO (L : List Rl) : List Pa := L.map paR
theorem Gy (L : List Rl) : (CO L).length = L.length := List.length_map _
theorem MW (L : List Rl) (i : Nat) : (CO L)[i]? = (L[i]?).map paR := List.getElem?_map ..
theorem K6 {α β : Type} (f : α → β) : ∀ (l : List α) (i : Nat), (l.eraseIdx i).map f = (l.map f).eraseIdx i
 | [], _ => rfl
 | _ :: _, 0 => rfl
 | a :: l, i + 1 => by rw [List.eraseIdx_cons_succ, List.map_cons, List.map_cons, List.eraseIdx_cons_succ, K6 f l i]
theorem RY (L : List Rl) (i : Nat) : (CO L).eraseIdx i = CO (L.eraseIdx i) := (K6 paR L i).symm
theorem UR (L : List Rl) (x : Rl) : CO L ++ [paR x] = CO (L ++ [x]) := by unfold CO; rw [List.map_append]; rfl
theorem II (L : List Rl) (f t i : Nat) : LP (CO L) f t i = true ↔ ∃ x, L[i]? = some x ∧ x.src = f ∧ x.dst = t := by
 unfold LP
 rw [MW]
 cases L[i]? with
 | none => simp
 | some k => simp [paR, Prod.ext_iff]
def GI (cs : List (Nat × Nat)) (a b : Nat) : Bool := cs.any fun p => (decide (p.1 = a) && decide (p.2 = b)) || (decide (p.1 = b) && decide (p.2 = a))
theorem IR (cs : List (Nat × Nat)) (x y a b : Nat) : GI (cs ++ [(x, y)]) a b = (GI cs a b || ((decide (x = a) && decide (y = b)) || (decide (x = b) && decide (y = a)))) := by
 unfold GI
 rw [List.any_append]
 simp
theorem NV {α : Type} [DecidableEq α] : ∀ (M : List (α × Value)) (x : α) (i j : Nat), (DK M x i).isSome = (DK M x j).isSome
 | [], _, _, _ => rfl
 | p :: M, x, i, j => by
  unfold DK
  by_cases e : x = p.1
  ·rw [if_pos e, if_pos e]; rfl
  ·rw [if_neg e, if_neg e]; exact NV M x _ _
theorem NY {α : Type} [DecidableEq α] : ∀ (M : List (α × Value)) (x y : α) (v : Value), (DK (GX M x v) y 0).isSome = (decide (y = x) || (DK M y 0).isSome)
 | [], x, y, v => by
  unfold GX DK DK
  by_cases e : y = x
  ·rw [if_pos e]; simp [e]
  ·rw [if_neg e]; simp [e]
 | p :: M, x, y, v => by
  unfold GX
  by_cases e : x = p.1
  ·rw [if_pos e]
   unfold DK
   by_cases e2 : y = x
   ·rw [if_pos e2]; simp [e2]
   ·rw [if_neg e2, if_neg (by rw [← e]; exact e2)]; simp [e2]
  ·rw [if_neg e]
   have h := NY M x y v
   by_cases e2 : y = p.1
   ·unfold DK
    rw [if_pos e2, if_pos e2]; simp
   ·have h1 : ∀ N : List (α × Value), (DK (p :: N) y 0).isSome = (DK N y 0).isSome := fun N => by
     conv => lhs; unfold DK
     rw [if_neg e2]
     exact NV N y _ _
    rw [h1, h1, h]
theorem W4 (x y a b : Nat) : Ii a b = Ii x y ↔ (x = a ∧ y = b) ∨ (x = b ∧ y = a) := by
 unfold Ii
 rw [Prod.ext_iff]
 dsimp only
 constructor
 ·rintro ⟨h1, h2⟩
  omega
 ·rintro (⟨rfl, rfl⟩ | ⟨rfl, rfl⟩)
  ·exact ⟨rfl, rfl⟩
  ·exact ⟨Nat.min_comm _ _, Nat.max_comm _ _⟩
structure NR (bag : List Pa) (M : Df) (L : List Rl) (cs : List (Nat × Nat)) : Prop where
 bag : bag = CO L
 ok : ∀ x ∈ L, C9 x.m = true ∧ (BP x.m).length ≤ 65536 ∧ x.m.Fits ∧ x.m.Lim
 ap : ∀ x ∈ L, BJ x.src x.dst = true
 le : L.length ≤ 512
 cut : ∀ a b, Qu M a b = GI cs a b
 mt : NU M
theorem NR.start : NR [] [] [] [] := { bag := rfl, ok := nofun, ap := nofun, le := (by decide), cut := fun a b => rfl, mt := nofun }
theorem NR.bytes {bag : List Pa} {M : Df} {L : List Rl} {cs : List (Nat × Nat)} (h : NR bag M L cs) : ∀ p ∈ bag, p.bytes.length ≤ 100000 := fun p hp => by
 rw [h.bag] at hp
 obtain ⟨x, hx, rfl⟩ := List.mem_map.1 hp
 obtain ⟨h1, h2, -, -⟩ := h.ok x hx
 show (putM x.m).1.length ≤ _
 rw [HO h1 h2]
 have := (Frame.frame_len9 (BP x.m) h2).2
 show (Frame.frameB (BP x.m)).length ≤ _
 omega
theorem NR.len {bag : List Pa} {M : Df} {L : List Rl} {cs : List (Nat × Nat)} (h : NR bag M L cs) : bag.length = L.length := by rw [h.bag, Gy]
theorem NR.takes {bag : List Pa} {M : Df} {L : List Rl} {cs : List (Nat × Nat)} (h : NR bag M L cs) {x : Rl} (hx : x ∈ L) : EX (putM x.m).1 = (x.m, 0) := by
 obtain ⟨h1, h2, h3, h4⟩ := h.ok x hx
 rw [HO h1 h2]
 exact LE _ h3 h4.short h1 h2
theorem NR.erase {bag : List Pa} {M : Df} {L : List Rl} {cs : List (Nat × Nat)} (h : NR bag M L cs) (i : Nat) : NR (bag.eraseIdx i) M (L.eraseIdx i) cs :=
 { bag := by rw [h.bag, RY], ok := fun x hx => h.ok x (List.mem_of_mem_eraseIdx hx), ap := fun x hx => h.ap x (List.mem_of_mem_eraseIdx hx), le := Nat.le_trans (List.length_eraseIdx_le ..) h.le, cut := h.cut, mt := h.mt }
theorem NR.add {bag : List Pa} {M : Df} {L : List Rl} {cs : List (Nat × Nat)} (h : NR bag M L cs) {x : Rl} (hl : L.length < 512) (ho : C9 x.m = true ∧ (BP x.m).length ≤ 65536 ∧ x.m.Fits ∧ x.m.Lim) (ha : BJ x.src x.dst = true) : NR (bag ++ [paR x]) M (L ++ [x]) cs :=
 { bag := by rw [h.bag, UR], ok := fun y hy => (List.mem_append.1 hy).elim (h.ok y) (fun hy => by rw [List.mem_singleton.1 hy]; exact ho), ap := fun y hy => (List.mem_append.1 hy).elim (h.ap y) (fun hy => by rw [List.mem_singleton.1 hy]; exact ha), le := by rw [List.length_append, List.length_singleton]; omega, cut := h.cut, mt := h.mt }
theorem NR.cuts {bag : List Pa} {M : Df} {L : List Rl} {cs : List (Nat × Nat)} (h : NR bag M L cs) (x y : Nat) : NR bag (GX M (Ii x y) (.bool true)) L (cs ++ [(x, y)]) :=
 { h with
  mt := JG _ _ h.mt
  cut := fun a b => by
   unfold Qu
   rw [NY, IR]
   have h1 := h.cut a b
   unfold Qu at h1
   rw [h1, Bool.or_comm]
   congr 1
   rw [Bool.eq_iff_iff]
   simp [W4] }
theorem NR.heal {bag : List Pa} {M : Df} {L : List Rl} {cs : List (Nat × Nat)} (h : NR bag M L cs) : NR bag [] L [] := { h with cut := fun a b => rfl, mt := nofun }
theorem NR.take {bag : List Pa} {M : Df} {L : List Rl} {cs : List (Nat × Nat)} (h : NR bag M L cs) (f t : Nat) (k : Int) :
  (BJ f t = false ∧ FX bag M f t k = (bag, (0, 0, ms0 0), 2)) ∨ (BJ f t = true ∧ GI cs f t = true ∧ FX bag M f t k = (bag, (0, 0, ms0 0), 13)) ∨
  (BJ f t = true ∧ GI cs f t = false ∧ Dq (CO L) f t k = none ∧ FX bag M f t k = (bag, (0, 0, ms0 0), 11)) ∨
  (∃ (i : Nat) (x : Rl), BJ f t = true ∧ GI cs f t = false ∧ Dq (CO L) f t k = some i ∧ L[i]? = some x ∧ x.src = f ∧ x.dst = t ∧ FX bag M f t k = (bag.eraseIdx i, (f, t, x.m), 0)) := by
 unfold FX
 cases h1 : BJ f t with
 | false => exact .inl ⟨rfl, by rw [if_neg (by decide)]⟩
 | true =>
  rw [if_pos rfl, h.cut]
  cases h2 : GI cs f t with
  | true => exact .inr (.inl ⟨rfl, rfl, by rw [if_pos rfl]⟩)
  | false =>
   rw [if_neg (by decide)]
   have hb := h.bag
   cases h3 : Dq (CO L) f t k with
   | none => exact .inr (.inr (.inl ⟨rfl, rfl, rfl, by rw [hb, h3]⟩))
   | some i =>
    obtain ⟨h4, h5⟩ := Ib h3
    obtain ⟨x, hx, hs, hd⟩ := (II L f t i).1 h5
    have ht := h.takes (List.mem_of_getElem? hx)
    refine .inr (.inr (.inr ⟨i, x, rfl, rfl, rfl, hx, hs, hd, ?_⟩))
    have e : ((bag[i]?).map (·.bytes)).getD [] = (putM x.m).1 := by rw [hb, MW, hx]; rfl
    have h3' : Dq bag f t k = some i := by rw [hb]; exact h3
    rw [h3']
    dsimp only
    rw [e, ht, if_neg (fun h => h rfl)]
theorem NR.drop {bag : List Pa} {M : Df} {L : List Rl} {cs : List (Nat × Nat)} (h : NR bag M L cs) (f t : Nat) (k : Int) :
  (BJ f t = false ∧ Jm bag f t k = (bag, 2)) ∨ (BJ f t = true ∧ Dq (CO L) f t k = none ∧ Jm bag f t k = (bag, 11)) ∨ (∃ (i : Nat) (x : Rl), BJ f t = true ∧ Dq (CO L) f t k = some i ∧ L[i]? = some x ∧ Jm bag f t k = (bag.eraseIdx i, 0)) := by
 unfold Jm
 cases h1 : BJ f t with
 | false => exact .inl ⟨rfl, by rw [if_neg (by decide)]⟩
 | true =>
  rw [if_pos rfl, h.bag]
  cases h3 : Dq (CO L) f t k with
  | none => exact .inr (.inl ⟨rfl, rfl, rfl⟩)
  | some i =>
   obtain ⟨h4, h5⟩ := Ib h3
   obtain ⟨x, hx, -, -⟩ := (II L f t i).1 h5
   exact .inr (.inr ⟨i, x, rfl, rfl, hx, rfl⟩)
theorem NR.double {bag : List Pa} {M : Df} {L : List Rl} {cs : List (Nat × Nat)} (h : NR bag M L cs) (f t : Nat) (k : Int) :
  (BJ f t = false ∧ Ef bag f t k = (bag, 2)) ∨ (BJ f t = true ∧ Dq (CO L) f t k = none ∧ Ef bag f t k = (bag, 11)) ∨ (∃ i : Nat, BJ f t = true ∧ Dq (CO L) f t k = some i ∧ L.length = 512 ∧ Ef bag f t k = (bag, 7)) ∨
  (∃ (i : Nat) (x : Rl), BJ f t = true ∧ Dq (CO L) f t k = some i ∧ L.length < 512 ∧ L[i]? = some x ∧ Ef bag f t k = (bag ++ [paR x], 0)) := by
 have hle := h.le
 unfold Ef
 cases h1 : BJ f t with
 | false => exact .inl ⟨rfl, by rw [if_neg (by decide)]⟩
 | true =>
  rw [if_pos rfl, h.bag]
  cases h3 : Dq (CO L) f t k with
  | none => exact .inr (.inl ⟨rfl, rfl, rfl⟩)
  | some i =>
   obtain ⟨h4, h5⟩ := Ib h3
   obtain ⟨x, hx, -, -⟩ := (II L f t i).1 h5
   dsimp only
   rw [Gy]
   by_cases hl : 512 ≤ L.length
   ·exact .inr (.inr (.inl ⟨i, rfl, rfl, by omega, by rw [if_pos hl]⟩))
   ·refine .inr (.inr (.inr ⟨i, x, rfl, rfl, by omega, hx, ?_⟩))
    rw [if_neg hl, MW, hx]
    rfl
theorem NR.send {bag : List Pa} {M : Df} {L : List Rl} {cs : List (Nat × Nat)} (h : NR bag M L cs) (f t : Nat) (m : Ms) :
  (BJ f t = false ∧ FY bag f t m = (bag, 2)) ∨ (BJ f t = true ∧ C9 m = false ∧ FY bag f t m = (bag, 2)) ∨ (BJ f t = true ∧ C9 m = true ∧ 65536 < (BP m).length ∧ FY bag f t m = (bag, 6)) ∨
  (BJ f t = true ∧ C9 m = true ∧ (BP m).length ≤ 65536 ∧ L.length = 512 ∧ FY bag f t m = (bag, 7)) ∨ (BJ f t = true ∧ C9 m = true ∧ (BP m).length ≤ 65536 ∧ L.length < 512 ∧ FY bag f t m = (bag ++ [⟨f, t, (putM m).1⟩], 0)) := by
 have hle := h.le
 have hlen := h.len
 unfold FY
 cases h1 : BJ f t with
 | false => exact .inl ⟨rfl, by rw [if_neg (by decide)]⟩
 | true =>
  rw [if_pos rfl]
  cases h2 : C9 m with
  | false =>
   have e : putM m = ([], 2) := by unfold putM; rw [h2]; rfl
   exact .inr (.inl ⟨rfl, rfl, by rw [e]; rfl⟩)
  | true =>
   by_cases h3 : (BP m).length ≤ 65536
   ·rw [HO h2 h3, if_neg (fun h => h rfl), hlen]
    by_cases hl : 512 ≤ L.length
    ·exact .inr (.inr (.inr (.inl ⟨rfl, rfl, h3, by omega, by rw [if_pos hl]⟩)))
    ·exact .inr (.inr (.inr (.inr ⟨rfl, rfl, h3, by omega, by rw [if_neg hl]⟩)))
   ·have e : putM m = ([], 6) := by unfold putM; rw [if_pos h2, if_neg h3]
    exact .inr (.inr (.inl ⟨rfl, rfl, by omega, by rw [e]; rfl⟩))
structure SI (Q : List (Nat × Nat)) (k x y : Nat) : Prop where
 le : k ≤ Q.length
 at_ : ∀ j p, Q[j]? = some p → (j < k ↔ ltP p (x, y))
theorem SI.start (Q : List (Nat × Nat)) : SI Q 0 0 0 := ⟨Nat.zero_le _, fun j p _ => by unfold ltP; constructor <;> intro h <;> simp at h⟩
theorem SI.hit {Q : List (Nat × Nat)} {k x y : Nat} (h : SI Q k x y) (hs : Q.Pairwise ltP) (hm : (x, y) ∈ Q) : k < Q.length ∧ Q[k]? = some (x, y) ∧ SI Q (k + 1) x (y + 1) := by
 obtain ⟨j, hj⟩ := List.getElem?_of_mem hm
 have hjl := (List.getElem?_eq_some_iff.1 hj).1
 have h1 : ¬ j < k := fun hlt => R2 ((h.at_ j _ hj).1 hlt) rfl
 have h2 : ¬ k < j := fun hlt => by
  have hk : Q[k]? = some Q[k] := List.getElem?_eq_getElem (by omega)
  have h3 : ltP Q[k] (x, y) := by
   have h4 := (List.pairwise_iff_getElem.1 hs) k j (by omega) hjl hlt
   rwa [(List.getElem?_eq_some_iff.1 hj).2] at h4
  have := (h.at_ k _ hk).2 h3
  omega
 obtain rfl : j = k := by omega
 refine ⟨hjl, hj, ⟨hjl, fun i p hp => ?_⟩⟩
 have h3 := h.at_ i p hp
 have h4 : i = j → p = (x, y) := fun e => by subst e; rw [hj] at hp; exact (Option.some.inj hp).symm
 have h5 : p = (x, y) → i = j := fun e => by
  subst e
  rcases Nat.lt_trichotomy i j with hlt | he | hgt
  ·exact absurd (h3.1 hlt) (fun hl => R2 hl rfl)
  ·exact he
  ·have hil := (List.getElem?_eq_some_iff.1 hp).1
   have h6 := (List.pairwise_iff_getElem.1 hs) j i hjl hil hgt
   rw [(List.getElem?_eq_some_iff.1 hj).2, (List.getElem?_eq_some_iff.1 hp).2] at h6
   exact absurd h6 (fun hl => R2 hl rfl)
 have h6 : ltP p (x, y + 1) ↔ (ltP p (x, y) ∨ p = (x, y)) := by
  obtain ⟨p1, p2⟩ := p
  unfold ltP
  simp only [Prod.mk.injEq]
  omega
 rw [h6, ← h3]
 constructor
 ·intro hl
  rcases Nat.lt_or_ge i j with h7 | h7
  ·exact .inl h7
  ·exact .inr (h4 (by omega))
 ·rintro (h7 | h7)
  ·omega
  ·have := h5 h7; omega
theorem SI.miss {Q : List (Nat × Nat)} {k x y : Nat} (h : SI Q k x y) (hm : (x, y) ∉ Q) : SI Q k x (y + 1) := ⟨h.le, fun i p hp => by
 have h3 := h.at_ i p hp
 have h4 : p ≠ (x, y) := fun e => hm (by rw [← e]; exact List.mem_of_getElem? hp)
 rw [h3]
 obtain ⟨p1, p2⟩ := p
 unfold ltP
 simp only [ne_eq, Prod.mk.injEq] at *
 omega⟩
theorem SI.wrap {Q : List (Nat × Nat)} {k x : Nat} (h : SI Q k x 20) (hQ : ∀ p ∈ Q, p.2 < 20) : SI Q k (x + 1) 0 := ⟨h.le, fun i p hp => by
 have h3 := h.at_ i p hp
 have h4 := hQ p (List.mem_of_getElem? hp)
 rw [h3]
 unfold ltP
 simp only
 omega⟩
theorem SI.all {Q : List (Nat × Nat)} {k : Nat} (h : SI Q k 20 0) (hQ : ∀ p ∈ Q, p.1 < 20) : k = Q.length := by
 have hle := h.le
 rcases Nat.lt_or_ge k Q.length with hlt | hge
 ·exfalso
  have hk : Q[k]? = some Q[k] := List.getElem?_eq_getElem hlt
  have h2 := hQ _ (List.getElem_mem hlt)
  have := (h.at_ k _ hk).2 (.inl h2)
  omega
 ·omega
theorem Tu {a : Nat} (h : FZ a = true) : a < 20 := by
 unfold FZ at h
 simp at h
 omega
theorem NR.pairs {bag : List Pa} {M : Df} {L : List Rl} {cs : List (Nat × Nat)} (h : NR bag M L cs) {Q : List (Nat × Nat)} (hQ : PairsOf bag Q) : (∀ p ∈ Q, p.1 < 20) ∧ (∀ p ∈ Q, p.2 < 20) ∧ ∀ x y, ((x, y) ∈ Q ↔ Dq (CO L) x y 0 ≠ none) := by
 have hm : ∀ p, p ∈ Q ↔ ∃ z ∈ L, (z.src, z.dst) = p := fun p => by
  rw [hQ.mem, h.bag]
  unfold CO
  rw [List.map_map, List.mem_map]
  rfl
 have ha : ∀ p ∈ Q, p.1 < 20 ∧ p.2 < 20 := fun p hp => by
  obtain ⟨z, hz, rfl⟩ := (hm p).1 hp
  have := h.ap z hz
  unfold BJ at this
  simp only [Bool.and_eq_true] at this
  exact ⟨Tu this.1, Tu this.2.1⟩
 refine ⟨fun p hp => (ha p hp).1, fun p hp => (ha p hp).2, fun x y => ?_⟩
 rw [hm]
 constructor
 ·rintro ⟨z, hz, e⟩ hn
  obtain ⟨i, hi⟩ := List.getElem?_of_mem hz
  injection e with e1 e2
  have hb : LP (CO L) x y i = true := (II L x y i).2 ⟨z, hi, e1, e2⟩
  have hmm : i ∈ Fa (CO L) x y (CO L).length := by
   unfold Fa
   rw [List.mem_filter, List.mem_range, Gy]
   exact ⟨(List.getElem?_eq_some_iff.1 hi).1, hb⟩
  unfold Dq at hn
  rw [if_pos (by decide)] at hn
  cases hx : Fa (CO L) x y (CO L).length with
  | nil => rw [hx] at hmm; cases hmm
  | cons a l => rw [hx] at hn; cases hn
 ·intro hn
  cases hf : Dq (CO L) x y 0 with
  | none => exact absurd hf hn
  | some i =>
   obtain ⟨z, hz, h1, h2⟩ := (II L x y i).1 (Ib hf).2
   exact ⟨z, List.mem_of_getElem? hz, by rw [h1, h2]⟩
end Go.Proofs.YteiaiilfekojfaaGreat.Net
end
section
set_option linter.unusedVariables false
set_option linter.unusedSimpArgs false
set_option linter.unusedSectionVars false
namespace Go.Proofs.YteiaiilfekojfaaGreat.Sx
open Go.RowKit DrawInv
theorem ON (b i n sz : Nat) : sliced (some ⟨b, 0, none⟩) 0 i n sz = .slice (some ⟨b, 0, none⟩) i n := by
 unfold sliced
 split
 ·simp
 ·simp [Addr.add_lit]
theorem M1 (b k n cap sz : Nat) (h : k < cap) : sliced (some ⟨b, 0, none⟩) k n cap sz = .slice (some ⟨b, k * sz, none⟩) (n - k) (cap - k) := by
 unfold sliced
 rw [if_neg (by omega)]
 simp [Addr.add_lit]
section
variable {P : Program} {ρ : Operand → Value} {o : Oper} {w : World} {vs : Vs} {t e : TypeId} {x y z u : Operand} {A : Option Addr} {n cap l h m sz : Nat} {v : Value} {i : TypeInfo}
theorem SA (hi : (P.info? e).map (·.size) = some sz) : (sizeOf e).run P w = .ok sz w := by
 cases hj : P.info? e with
 | none => rw [hj] at hi; cases hi
 | some i => rw [hj] at hi; injection hi with hi; simp [sizeOf, typeInfo, hj, hi]
theorem SZ (E : Env vs ρ) (ho : o.op = .slice t x none (some z) none) (ht : P.underlying t = some (.slice e)) (hi : (P.info? e).map (·.size) = some sz) (hx : opv vs x = some (.slice A n cap)) (hz : opv vs z = some (.int .i64 (h : Int))) (h2 : h ≤ cap) (hv : sliced A 0 h cap sz = v) :
  (execOp ρ o).run P w = .ok (.value v) w := by
 subst hv
 obtain ⟨he, hee⟩ := Ko ht
 unfold execOp; rw [ho]
 have h := run_slice_h (P := P) w t A n cap he .i64 (h : Int) (by omega) (by omega)
 have hs : (sizeOf e).run P w = .ok sz w := SA hi
 simp only [Int.toNat_natCast, hee, hs, Result.andThen_ok] at h
 simp only [E.ev hx, E.ev hz, Option.map_some, Option.map_none, Instr.sliceAt, Sem.run_bind, run_underlying ht, h, Result.andThen_ok, Sem.run_pure]
theorem Ph (E : Env vs ρ) (ho : o.op = .slice t x (some y) none none) (ht : P.underlying t = some (.slice e)) (hi : (P.info? e).map (·.size) = some sz) (hx : opv vs x = some (.slice A n cap)) (hy : opv vs y = some (.int .i64 (l : Int))) (h1 : l ≤ n) (hv : sliced A l n cap sz = v) :
  (execOp ρ o).run P w = .ok (.value v) w := by
 subst hv
 obtain ⟨he, hee⟩ := Ko ht
 unfold execOp; rw [ho]
 have h := run_slice_l (P := P) w t A n cap he .i64 (l : Int) (by omega) (by omega)
 have hs : (sizeOf e).run P w = .ok sz w := SA hi
 simp only [Int.toNat_natCast, hee, hs, Result.andThen_ok] at h
 simp only [E.ev hx, E.ev hy, Option.map_some, Option.map_none, Instr.sliceAt, Sem.run_bind, run_underlying ht, h, Result.andThen_ok, Sem.run_pure]
end
theorem Vt {zs : List Value} : ∀ (n i : Nat), i < n * zs.length → ((List.replicate n zs).flatten)[i]? = zs[i % zs.length]?
 | 0, i, h => by omega
 | n + 1, i, h => by
  rw [List.replicate_succ, List.flatten_cons]
  rw [Nat.succ_mul] at h
  by_cases h1 : i < zs.length
  ·rw [List.getElem?_append_left h1, Nat.mod_eq_of_lt h1]
  ·have e := Nat.mod_eq_sub_mod (a := i) (b := zs.length) (by omega)
   rw [List.getElem?_append_right (by omega), Vt n (i - zs.length) (by omega), e]
theorem Nn {P : Program} (w : World) (t e ty : TypeId) (z : Value) (zs : List Value) (ht : P.underlying t = some (.slice e)) (hv : (P.info? e).bind (·.zero) = some z) (hz : z.cells.toList = zs) (h1 : ∀ u ∈ zs, u.oneCell' = true) (b o n c : Nat) (hn : 0 < n)
  (hc : ∀ j, j < n * zs.length → (w.cell? ⟨b, o + j, none⟩).isSome = true) (hf : ∀ j, j < n * zs.length → w.frozen? ⟨b, o + j, none⟩ = false) :
  (Builtin.clear_ #[t] ty #[.slice (some ⟨b, o, none⟩) n c]).run P w = .ok (.tuple #[]) (w.setCells b o (List.replicate n zs).flatten) := by
 have hzs : z.cells.size = zs.length := by rw [← hz]; simp
 have hfl : ((List.replicate n zs).flatten).length = n * zs.length := by simp
 have hzc : (Builtin.zeroCells z.cells n).toList = (List.replicate n zs).flatten := by
  refine List.ext_getElem? fun i => ?_
  by_cases hi : i < n * zs.length
  ·rw [Vt n i hi]
   have h0 : 0 < zs.length := by
    rcases Nat.eq_zero_or_pos zs.length with h | h
    ·rw [h] at hi; omega
    ·exact h
   have hm := Nat.mod_lt i h0
   unfold Builtin.zeroCells
   rw [Array.getElem?_toList, Array.getElem?_map, Array.getElem?_range, hzs, if_pos hi]
   have hm2 : i % zs.length < z.cells.size := by rw [hzs]; exact hm
   rw [Option.map_some, getElem!_pos z.cells _ hm2]
   have e : zs[i % zs.length]? = z.cells.toList[i % zs.length]? := by rw [hz]
   rw [e, Array.getElem?_toList, Array.getElem?_eq_getElem hm2]
  ·rw [List.getElem?_eq_none (by simp [Builtin.zeroCells, hzs]; omega), List.getElem?_eq_none (by rw [hfl]; omega)]
 have hst := run_storeCells_cells (P := P) b o ((List.replicate n zs).flatten) 0 w (by rw [hfl]; simpa using hc) (by rw [hfl]; simpa using hf) (fun u hu => by
  obtain ⟨l, hl, hu⟩ := List.mem_flatten.1 hu
  rw [List.eq_of_mem_replicate hl] at hu
  exact h1 u hu)
 simp only [Nat.add_zero] at hst
 have hzv : (zeroValue e).run P w = .ok z w := by
  cases hi : P.info? e with
  | none => rw [hi] at hv; cases hv
  | some i =>
   rw [hi] at hv
   have hz : i.zero = some z := hv
   simp [zeroValue, typeInfo, hi, hz]
 obtain ⟨m, rfl⟩ : ∃ m, n = m + 1 := ⟨n - 1, by omega⟩
 simp [Builtin.clear_, run_underlying ht, hzv, hzc, hst]
theorem Hp.clearRow {P : Program} {ρ : Operand → Value} {vs : Vs} {w0 w : World} {L : List Ft} {o : Oper} {α : Type} {cells : α → List Value} {l : List α} {y : α} {i base et sz m c c' k g t : Nat} {ex : List Nat} {x : Operand} {z : Value} (hcl : ∀ x, (cells x).length = sz) (E : Env vs ρ) (H : Hp w0 L w) (ho : o.op = .call { callee := .builtin .clear, args := #[x], argTypes := #[t] }) (ht : P.underlying t = some (.slice et)) (hv : (P.info? et).bind (·.zero) = some z) (hz : z.cells.toList = cells y) (h1 : ∀ u ∈ cells y, u.oneCell' = true)
  (hL : nth L i = some (BU ex base et sz (.slice (some ⟨g, 0, none⟩) m c) l.length (l.flatMap cells))) (hk : k < l.length) (hx : opv vs x = some (.slice (some ⟨g, k * sz, none⟩) (l.length - k) c')) :
  ∃ (_ : Unit) (w' : World), (execOp ρ o).run P w = .ok (.value (.tuple #[])) w' ∧ True ∧ Hp w0 (putF L i (BU ex base et sz (.slice (some ⟨g, 0, none⟩) m c) (l.take k ++ List.replicate (l.length - k) y).length ((l.take k ++ List.replicate (l.length - k) y).flatMap cells))) w' := by
 have hown : w.ownsRow base et sz (.slice (some ⟨g, 0, none⟩) m c) l.length (l.flatMap cells) := H.get hL
 have hl' : (l.take k ++ List.replicate (l.length - k) y).length = l.length := by simp; omega
 rcases hown.2 with ⟨h0, _⟩ | ⟨g', cap, cur, ev, hb, hh, hc1, hc2, hc3, hc4⟩
 ·cases h0
 injection ev with e1 e2 e3
 cases e1
 subst e3
 subst e2
 have hB : Blk w g et cur.toList.toArray := by rw [Array.toArray_toList]; exact hh
 have hlen : cur.toList.length = c * sz := by simpa using hc3
 have hle : l.length * sz ≤ c * sz := Nat.mul_le_mul_right _ hc1
 have hks : k * sz + (l.length - k) * sz = l.length * sz := by rw [← Nat.add_mul]; congr 1; omega
 have hfl : ((List.replicate (l.length - k) (cells y)).flatten).length = (l.length - k) * sz := by simp [hcl]
 have hr := Nn (P := P) w t et o.type z (cells y) ht hv hz h1 g (k * sz) (l.length - k) c' (by omega) (fun j hj => by
  rw [hcl] at hj
  rw [hB.cell, List.getElem?_toArray, List.getElem?_eq_getElem (by rw [hlen]; omega)]; rfl) (fun j _ => hB.frozen _)
 have hb2 : Blk (w.setCells g (k * sz) (List.replicate (l.length - k) (cells y)).flatten) g et (FP cur.toList (k * sz) (List.replicate (l.length - k) (cells y)).flatten).toArray := by rw [← La]; exact Blk.setCells _ _ hB
 have hgr := FC (g := g) (List.replicate (l.length - k) (cells y)).flatten (k * sz) (World.grownBy.refl w (some g))
 have hcur : cur.toList = l.flatMap cells ++ cur.toList.drop (l.length * sz) := by
  have := List.take_append_drop (l.length * sz) cur.toList
  rw [hc4] at this
  exact this.symm
 have hsp : l.flatMap cells = (l.take k).flatMap cells ++ (l.drop k).flatMap cells := by rw [← List.flatMap_append, List.take_append_drop]
 have htl : ((l.take k).flatMap cells).length = k * sz := by rw [flat_len hcl, List.length_take, Nat.min_eq_left (by omega)]
 have hrep : (List.replicate (l.length - k) (cells y)).flatten = (List.replicate (l.length - k) y).flatMap cells := by rw [List.flatMap_def, List.map_replicate]
 have hput : FP cur.toList (k * sz) (List.replicate (l.length - k) (cells y)).flatten = (l.take k ++ List.replicate (l.length - k) y).flatMap cells ++ cur.toList.drop (l.length * sz) := by
  have h5 := LK ((List.replicate (l.length - k) (cells y)).flatten) ((l.take k).flatMap cells) ((l.drop k).flatMap cells) (cur.toList.drop (l.length * sz)) (by rw [flat_len hcl, hfl, List.length_drop])
  rw [htl] at h5
  conv => lhs; rw [hcur]
  rw [hsp, List.append_assoc, h5, List.flatMap_append, hrep, List.append_assoc]
 have hfl2 : ((l.take k ++ List.replicate (l.length - k) y).flatMap cells).length = l.length * sz := by rw [flat_len hcl, hl']
 have hlen2 : (FP cur.toList (k * sz) (List.replicate (l.length - k) (cells y)).flatten).length = c * sz := by rw [J0, hlen]
 have hin : g ∈ (BU ex base et sz (.slice (some ⟨g, 0, none⟩) l.length c) l.length (l.flatMap cells)).fp := by simp [BU, Value.ownBlock]
 refine ⟨(), _, ?_, trivial, H.chg hL _ (Outs.of_grown hgr hin) (BF _ _ _ _ _ _ _) (fun b hb => ⟨Nat.lt_of_lt_of_le ((H.ok _ (EU hL)).2.1 b hb) hgr.size, .inl hb⟩) (fun b hb => .inl hb) ?_⟩
 ·unfold execOp
  rw [ho]
  simp [E.ev hx, resolve, invoke, builtin, hr]
 ·rw [hl']
  refine ⟨by rw [hfl2], .inr ⟨g, c, (FP cur.toList (k * sz) (List.replicate (l.length - k) (cells y)).flatten).toArray, rfl, hb, hb2, hc1, hc2, by simpa using hlen2, ?_⟩⟩
  show (FP cur.toList (k * sz) _).take _ = _
  rw [hput, List.take_left' (by rw [hfl2])]
theorem WX {w : World} {base m c sz n : Nat} {e : TypeId} {g : Nat} {xs : List Value} (h : w.ownsRow base e sz (.slice (some ⟨g, 0, none⟩) m c) n xs) : n ≤ c := by
 rcases h.2 with ⟨h0, _⟩ | ⟨g', cap, cur, ev, hb, hh, hc1, _⟩
 ·cases h0
 ·injection ev with _ _ e3
  omega
theorem V9 {α : Type} {cells : α → List Value} {w : World} {base m c sz g : Nat} {e : TypeId} {l : List α} (hcl : ∀ x, (cells x).length = sz) (h : w.ownsRow base e sz (.slice (some ⟨g, 0, none⟩) m c) l.length (l.flatMap cells)) (k : Nat) (hk : k ≤ l.length) : w.ownsRow base e sz (.slice (some ⟨g, 0, none⟩) k c) (l.take k).length ((l.take k).flatMap cells) := by
 have htl : (l.take k).length = k := by rw [List.length_take]; omega
 rcases h.2 with ⟨h0, _⟩ | ⟨g', cap, cur, ev, hb, hh, hc1, hc2, hc3, hc4⟩
 ·cases h0
 ·injection ev with e1 e2 e3
  cases e1
  subst e3
  rw [htl]
  refine ⟨by rw [flat_len hcl, htl], .inr ⟨g, c, cur, rfl, hb, hh, by omega, hc2, hc3, ?_⟩⟩
  have hle : k * sz ≤ l.length * sz := Nat.mul_le_mul_right _ hk
  rw [show cur.toList.take (k * sz) = (cur.toList.take (l.length * sz)).take (k * sz) by rw [List.take_take, Nat.min_eq_left hle], hc4]
  conv => lhs; rw [show l = l.take k ++ l.drop k from (List.take_append_drop k l).symm, List.flatMap_append]
  exact List.take_left' (by rw [flat_len hcl, htl])
theorem OT {w : World} {g a b sz : Nat} {cs : List Value} (h : RowAt w ((⟨g, 0, none⟩ : Addr).add ((a + b) * sz)) cs) : RowAt w ((⟨g, a * sz, none⟩ : Addr).add (b * sz)) cs := by
 rw [Addr.add_lit] at h ⊢
 rw [show a * sz + b * sz = 0 + (a + b) * sz by rw [Nat.add_mul]; omega]
 exact h
end Go.Proofs.YteiaiilfekojfaaGreat.Sx
end
section
set_option linter.unusedVariables false
set_option linter.unusedSimpArgs false
namespace Go.Proofs.YteiaiilfekojfaaGreat.Net
open Go.RowKit Sx Wire DrawInv
open Msg
def slL (g : Nat) : List Value := [.slice (some ⟨g, 0, none⟩) 2 2]
theorem MO (g : Nat) : (slL g).length = 1 := rfl
theorem OQ (g : Nat) : ∀ u ∈ slL g, u.oneCell' = true := fun u hu => by rw [List.mem_singleton.1 hu]; rfl
structure InnerAt (w : World) (gs : List Nat) (cs : List (Nat × Nat)) : Prop where
 len : gs.length = cs.length
 at_ : ∀ (i g : Nat) (p : Nat × Nat), gs[i]? = some g → cs[i]? = some p → Blk w g 5 #[.int .u8 (p.1 : Int), .int .u8 (p.2 : Int)]
theorem InnerAt.below {w w' : World} {gs : List Nat} {cs : List (Nat × Nat)} (h : InnerAt w gs cs) (hb : Below w.heap.size w w') : InnerAt w' gs cs := ⟨h.len, fun i g p h1 h2 => Blk.below (h.at_ i g p h1 h2) hb (Blk.lt (h.at_ i g p h1 h2))⟩
theorem InnerAt.nil (w : World) : InnerAt w [] [] := ⟨rfl, fun i g p h => by cases h⟩
theorem InnerAt.snoc {w : World} {gs : List Nat} {cs : List (Nat × Nat)} (h : InnerAt w gs cs) {g a b : Nat} (hg : Blk w g 5 #[.int .u8 (a : Int), .int .u8 (b : Int)]) : InnerAt w (gs ++ [g]) (cs ++ [(a, b)]) := by
 refine ⟨by simp [h.len], fun i g' p h1 h2 => ?_⟩
 rcases Nat.lt_trichotomy i gs.length with hi | hi | hi
 ·rw [List.getElem?_append_left hi] at h1
  rw [List.getElem?_append_left (by rw [← h.len]; exact hi)] at h2
  exact h.at_ i g' p h1 h2
 ·subst hi
  rw [List.getElem?_append_right (Nat.le_refl _), Nat.sub_self] at h1
  rw [List.getElem?_append_right (by rw [h.len]; exact Nat.le_refl _), h.len, Nat.sub_self] at h2
  cases h1
  cases h2
  exact hg
 ·rw [List.getElem?_eq_none (by simp; omega)] at h1
  cases h1
theorem TR {α : Type} {w : World} {A : Option Addr} {sz : Nat} {cells : α → List Value} {l : List α} (h : Rows w A sz cells l) (n : Nat) : Rows w A sz cells (l.take n) := fun k x hk => h k x (by
 rw [List.getElem?_take] at hk
 split at hk
 ·exact hk
 ·cases hk)
theorem TS {α : Type} {w : World} {ad : Addr} {sz n cap : Nat} {cells : α → List Value} {l : List α} (h : Rows w (some ad) sz cells l) (hn : n ≤ l.length) (hc : l.length ≤ cap) : Rows w (if cap = n then some ad else some (ad.add (n * sz))) sz cells (l.drop n) := by
 intro k x hk
 rw [List.getElem?_drop] at hk
 have hlt := (List.getElem?_eq_some_iff.1 hk).1
 rw [if_neg (by omega)]
 obtain ⟨ad', e, h1, h2⟩ := h (n + k) x hk
 cases e
 refine ⟨_, rfl, by rw [Dw]; exact h1, fun j v hv => ?_⟩
 have := h2 j v hv
 rw [add_add, show n * sz + (k * sz + j) = (n + k) * sz + j by rw [Nat.add_mul]; omega]
 exact this
theorem OP (ad : Addr) (i cap sz : Nat) : sliced (some ad) 0 i cap sz = .slice (some ad) i cap := by
 have e : ad.add 0 = ad := by unfold Addr.add; simp
 unfold sliced
 split <;> simp [e]
theorem OO (ad : Addr) (l n cap sz : Nat) : sliced (some ad) l n cap sz = .slice (if cap = l then some ad else some (ad.add (l * sz))) (n - l) (cap - l) := by
 unfold sliced
 split <;> rfl
theorem MF (L : List Rl) (i : Nat) : L.eraseIdx i = L.take i ++ L.drop (i + 1) := List.eraseIdx_eq_take_drop_succ ..
theorem V6 {w : World} {base e n c : Nat} {A : Option Addr} {L : List Rl} (h : w.ownsRow base e 20 (.slice A n c) L.length (L.flatMap rlL)) : Rows w A 20 rlL L ∧ L.length ≤ c := by
 obtain ⟨A', c', e', hc, hr⟩ := ID IY (by decide) h
 injection e' with e1 e2 e3
 subst e1 e3
 exact ⟨hr, hc⟩
theorem WV {w : World} {base e n c : Nat} {A : Option Addr} {gs : List Nat} (h : w.ownsRow base e 1 (.slice A n c) gs.length (gs.flatMap slL)) : Rows w A 1 slL gs := EY MO (by decide) h
theorem SR {bag : List Pa} {f t k : Nat} : Dq bag f t (k : Int) = (Fa bag f t bag.length)[k]? := by
 unfold Dq
 rw [if_pos (by omega), Int.toNat_natCast]
end Go.Proofs.YteiaiilfekojfaaGreat.Net
end
section
set_option linter.unusedVariables false
set_option linter.unusedSimpArgs false
namespace Go.Proofs.YteiaiilfekojfaaGreat.Net
open Go.RowKit Sx Wire DrawInv
open Msg
set_option maxRecDepth 100000 in
set_option maxHeartbeats 4000000 in
theorem Og (x : Nat)  (w : World) : Calls Tryz.prog 108 #[.int .u8 (x : Int)] w fun e w' => e = .returned (.bool (FZ x)) ∧ Below w.heap.size w w' := by
 refine A0 (n := 13) _ Tryz.func108 rfl rfl rfl (Hp.start w) (Ae (Ac (za rfl (Ad (Aa (Ae (Ac (zm rfl ?_))))))))
 refine zb rfl fun c4 hc4 => ?_
 refine zm rfl ?_
 cases c4
 ·refine zm rfl ?_
  refine zb rfl fun c7 hc7 => ?_
  refine zm rfl ?_
  cases c7
  ·refine zo rfl (zo rfl (zp rfl (zp rfl (za rfl (Ad (Aa (Am ?_)))))))
   refine Ai (.bool false) (fun a w K H => BC K rfl rfl) (fun w H => ?_)
   have hq : false = FZ x := by clear H; first | rfl | grind [AB, FZ]
   exact ⟨by rw [hq], H.toBelow trivial⟩
  ·refine zm rfl ?_
   refine zb rfl fun c10 hc10 => ?_
   refine zp rfl (zp rfl (za rfl (Ad (Aa (Am ?_)))))
   refine Ai (.bool c10) (fun a w K H => BC K rfl rfl) (fun w H => ?_)
   have hq : c10 = FZ x := by clear H; first | rfl | grind [AB, FZ]
   exact ⟨by rw [hq], H.toBelow trivial⟩
 ·refine zo rfl (zo rfl (zo rfl (zo rfl (zo rfl (zo rfl (zp rfl (za rfl (Ad (Aa ?_)))))))))
  refine Am ?_
  refine Ai (.bool true) (fun a w K H => BC K rfl rfl) (fun w H => ?_)
  have hq : true = FZ x := by clear H; first | rfl | grind [AB, FZ]
  exact ⟨by rw [hq], H.toBelow trivial⟩

set_option maxRecDepth 100000 in
set_option maxHeartbeats 4000000 in
theorem Dj (x y : Nat)  (w : World) : Calls Tryz.prog 73 #[.int .u8 (x : Int), .int .u8 (y : Int)] w fun e w' => e = .returned (.bool (BJ x y)) ∧ Below w.heap.size w w' := by
 refine A0 (n := 16) _ Tryz.func73 rfl rfl rfl (Hp.start w) (Ae (Ac (za rfl (Ad (Aa (Ae (Ac (zm rfl ?_))))))))
 refine CN (b := (FZ x)) trivial rfl rfl (zk ET rfl) (fun w H => Og x w) fun c6 hc6 => ?_
 refine zm rfl ?_
 cases c6
 ·refine zo rfl (zo rfl (zp rfl (zm rfl (zo rfl (zo rfl (zo rfl (zp rfl (za rfl (Ad ?_)))))))))
  refine Aa (Am ?_)
  refine Ai (.bool false) (fun a w K H => BC K rfl rfl) (fun w H => ?_)
  have hq : false = BJ x y := by clear H; first | rfl | grind [AB, BJ]
  exact ⟨by rw [hq], H.toBelow trivial⟩
 ·refine zm rfl ?_
  refine CN (b := (FZ y)) (gK rfl) rfl rfl (zk ET rfl) (fun w H => Og y w) fun c9 hc9 => ?_
  refine zp rfl (zm rfl ?_)
  cases c9
  ·refine zo rfl (zo rfl (zo rfl (zp rfl (za rfl (Ad (Aa (Am ?_)))))))
   refine Ai (.bool false) (fun a w K H => BC K rfl rfl) (fun w H => ?_)
   have hq : false = BJ x y := by clear H; first | rfl | grind [AB, BJ]
   exact ⟨by rw [hq], H.toBelow trivial⟩
  ·refine zm rfl (zm rfl ?_)
   refine zb rfl fun c14 hc14 => ?_
   refine zp rfl (za rfl (Ad (Aa (Am ?_))))
   refine Ai (.bool c14) (fun a w K H => BC K rfl rfl) (fun w H => ?_)
   have hq : c14 = BJ x y := by clear H; first | rfl | grind [AB, BJ]
   exact ⟨by rw [hq], H.toBelow trivial⟩

set_option maxRecDepth 100000 in
set_option maxHeartbeats 4000000 in
theorem Oe (L : List Rl) (gs : List Nat) (pp : List (Nat × Nat)) (A C : Option Addr) (kA kC : Nat) (f t : Nat) (k : Int)  (w : World) (hL : Rows w A 20 rlL L) (hcap : L.length ≤ kA) (hl5 : L.length ≤ 512) : Calls Tryz.prog 74 #[.agg #[.slice A L.length kA, .slice C gs.length kC], .int .u8 (f : Int), .int .u8 (t : Int), .int .i64 (k)] w fun e w' => ((∃ i, Dq (CO L) f t k = some i ∧ e = .returned (.int .i64 (i : Int))) ∨ (Dq (CO L) f t k = none ∧ e = .returned (.int .i64 (-1)))) ∧ Below w.heap.size w w' := by
 refine A0 (n := 42) _ Tryz.func74 rfl rfl rfl (Hp.start w) (Ae (Ac ?_))
 refine zB rfl fun g1 hg1 => ?_
 refine za rfl (Ad (Aa (Ae (Ac (za rfl (Ad (Aa (Ae (Ae ?_)))))))))
 refine Ac (za rfl (Ad (Aa (AG ?_))))
 refine Ec (fun (i : Nat) (sn : Nat) => [(1, .int .u8 (f : Int)), (2, .int .u8 (t : Int)), (3, .int .i64 (k)), (4, .pointer (some ⟨g1, 0, none⟩)), (9, .int .i64 (sn : Int)), (10, .int .i64 (i : Int))]) (fun (i : Nat) (sn : Nat) => [cell g1 78 [.slice A L.length kA, .slice C gs.length kC]]) (fun (gk : Nat) (i : Nat) (sn : Nat) => i + gk = L.length ∧ sn = (Fa (CO L) f t i).length ∧ ∀ j : Nat, j < sn → (j : Int) ≠ k) L.length 0 0 ⟨by omega, rfl, fun j hj => by omega⟩ ⟨rfl, rfl, rfl, rfl, rfl, rfl, trivial⟩ [0] rfl (by decide) ⟨.inl rfl, trivial⟩ fun gk i sn hF => ?_
 obtain ⟨hkg, hsn, hno⟩ := hF
 have hsl := N4 (CO L) f t i
 refine Ae (Ae (Ac (zm rfl (zf 0 Ba rfl (zl 0 Tryz.underlying75 rfl (zL Tryz.underlying75 rfl ?_))))))
 refine zb rfl fun c15 hc15 => ?_
 refine Ad (Aa ?_)
 cases c15
 ·refine Ah rfl (Cd (AW (AW (BH (Aa (Ae (Ac (za rfl (Ad ?_)))))))))
  refine Aa (Am ?_)
  refine Ai (.int .i64 (-1)) (fun a w K H => BC K rfl rfl) (fun w H => ?_)
  have hle : L.length ≤ i := by have h := hc15; simp [AB] at h; omega
  have hie : i = (CO L).length := by rw [Gy]; omega
  have hfo : Dq (CO L) f t k = none := N9 fun j hj => hno j (by rw [hsn, hie]; exact hj)
  exact ⟨.inr ⟨hfo, rfl⟩, H.toBelow ⟨(zq hg1), trivial⟩⟩
 ·refine Ap rfl (Ax (Aa (Ae (AG (Ae ?_)))))
  have hkl : i < L.length := by have h := hc15; simp [AB] at h; omega
  obtain ⟨⟨xs, xd, xm, xA, xka, xB, xkb⟩, hx⟩ : ∃ x, L[i]? = some x := ⟨_, List.getElem?_eq_getElem hkl⟩
  obtain ⟨ad, rfl, -, -⟩ := hL.row hx
  have hhas : LP (CO L) f t i = (decide (xs = f) && decide (xd = t)) := by unfold LP; rw [MW, hx]; show decide ((xs, xd) = (f, t)) = _; rw [Bool.eq_iff_iff]; simp
  refine Ac (zf 0 Ba rfl (zl 0 Tryz.underlying75 rfl (zm rfl (Ag (v := .pointer (some (ad.add (i * 20)))) trivial rfl rfl (fun ρ w E H => BA (i := i) E rfl Tryz.underlying75 Aj rfl rfl hkl) (Ag (v := .pointer (some (ad.add (i * 20)))) trivial rfl rfl (fun ρ w E H => FU E rfl Bv rfl) (Ag (v := .int .u8 (xs : Int)) trivial rfl rfl (fun ρ w E H => Em E ((hL.below (H.toBelow ⟨(zq hg1), trivial⟩)).rowA hx) rfl rfl rfl Tryz.underlying5 rfl) (zm rfl ?_)))))))
  refine zb rfl fun c25 hc25 => ?_
  refine zm rfl ?_
  cases c25
  ·refine zo rfl (zo rfl (zo rfl (zo rfl (zo rfl (zo rfl (zo rfl (zo rfl (zp rfl (Ad ?_)))))))))
   refine Aa (Ah rfl (Ax (AA (Aa (Ac (zm rfl (Ag (v := .int .i64 ((i + 1 : Nat) : Int)) trivial rfl rfl (fun ρ w E H => BQ E rfl rfl rfl (by rw [IntKind.wrap_i64]; omega)) (za rfl (Ad ?_)))))))))
   have hsu := Gp (CO L) f t i
   rw [if_neg (by rw [hhas]; simp [AB] at hc25; simp; omega), List.append_nil] at hsu
   refine B7 (gk - 1) (i + 1, sn) (by omega) ⟨show i + 1 + (gk - 1) = L.length by omega, show sn = _ by rw [hsu]; exact hsn, hno⟩ ⟨rfl, rfl, rfl, rfl, rfl, rfl, trivial⟩ [0] rfl (by decide) ⟨.inl rfl, trivial⟩
  ·refine zf 0 Ba rfl (zl 0 Tryz.underlying75 rfl (zm rfl (Ag (v := .pointer (some (ad.add (i * 20)))) (gK rfl) rfl rfl (fun ρ w E H => BA (i := i) E rfl Tryz.underlying75 Aj rfl rfl hkl) (Ag (v := .pointer (some ((ad.add (i * 20)).add 1))) (gK rfl) rfl rfl (fun ρ w E H => Fb E rfl Bm rfl) (Ag (v := .int .u8 (xd : Int)) (gK rfl) rfl rfl (fun ρ w E H => H3 E ((hL.below (H.toBelow ⟨(zq hg1), trivial⟩)).rowA hx) 1 rfl rfl rfl Tryz.underlying5 rfl) (zm rfl ?_))))))
   refine zb rfl fun c34 hc34 => ?_
   refine zp rfl (Ad (Aa ?_))
   cases c34
   ·refine Ah rfl (Ax (AA (Aa (Ac (zm rfl (Ag (v := .int .i64 ((i + 1 : Nat) : Int)) trivial rfl rfl (fun ρ w E H => BQ E rfl rfl rfl (by rw [IntKind.wrap_i64]; omega)) (za rfl (Ad ?_))))))))
    have hsu := Gp (CO L) f t i
    rw [if_neg (by rw [hhas]; simp [AB] at hc25 hc34; simp; omega), List.append_nil] at hsu
    refine B7 (gk - 1) (i + 1, sn) (by omega) ⟨show i + 1 + (gk - 1) = L.length by omega, show sn = _ by rw [hsu]; exact hsn, hno⟩ ⟨rfl, rfl, rfl, rfl, rfl, rfl, trivial⟩ [0] rfl (by decide) ⟨.inl rfl, trivial⟩
   ·refine Ap rfl (Ae (Ae (Ac (zm rfl (zm rfl ?_)))))
    refine zb rfl fun c38 hc38 => ?_
    refine Ad (Aa ?_)
    cases c38
    ·refine Ah rfl (Ax (Aa (Ac (zm rfl (Ag (v := .int .i64 ((sn + 1 : Nat) : Int)) trivial rfl rfl (fun ρ w E H => BQ E rfl rfl rfl (by rw [IntKind.wrap_i64]; omega)) (za rfl (Ad (AA (Aa ?_)))))))))
     refine Ac (zm rfl (Ag (v := .int .i64 ((i + 1 : Nat) : Int)) trivial rfl rfl (fun ρ w E H => BQ E rfl rfl rfl (by rw [IntKind.wrap_i64]; omega)) (za rfl (Ad ?_))))
     have hsu := Gp (CO L) f t i
     rw [if_pos (by rw [hhas]; simp [AB] at hc25 hc34; simp; omega)] at hsu
     refine B7 (gk - 1) (i + 1, sn + 1) (by omega) ⟨show i + 1 + (gk - 1) = L.length by omega, show sn + 1 = _ by rw [hsu, List.length_append, List.length_singleton]; omega, (fun j hj => (Nat.lt_or_ge j sn).elim (hno j) (fun h => by have h2 : j < sn + 1 := hj; have h3 := hc38; simp [AB] at h3; omega))⟩ ⟨rfl, rfl, rfl, rfl, rfl, rfl, trivial⟩ [0] rfl (by decide) ⟨.inl rfl, trivial⟩
    ·refine Ap rfl (Ae (Ac (zm rfl (za rfl (Ad (Aa (Am (Ak (AU ?_)))))))))
     refine Ak (Ak (AU (Ak ?_)))
     refine Ai (.int .i64 (i : Int)) (fun a w K H => BC K rfl rfl) (fun w H => ?_)
     have hsu := Gp (CO L) f t i
     rw [if_pos (by rw [hhas]; simp [AB] at hc25 hc34; simp; omega)] at hsu
     have hpre := N3 (CO L) f t ((CO L).length - (i + 1)) (i + 1)
     rw [show i + 1 + ((CO L).length - (i + 1)) = (CO L).length by rw [Gy]; omega, hsu] at hpre
     have hk : (sn : Int) = k := by have h := hc38; simpa [AB] using h
     have hfo := N8 (k := k) hpre (by rw [List.length_append, List.length_singleton]; omega) (by simp)
     rw [List.getLastD_concat] at hfo
     exact ⟨.inl ⟨i, hfo, rfl⟩, H.toBelow ⟨(zq hg1), trivial⟩⟩

theorem GE (L : List Rl) (gs : List Nat) (A C : Option Addr) (kA kC : Nat) (f t : Nat) (k : Int) (w : World) (hL : Rows w A 20 rlL L) (hcap : L.length ≤ kA) (hl5 : L.length ≤ 512) {i : Nat} (h : Dq (CO L) f t k = some i) : Calls Tryz.prog 74 #[.agg #[.slice A L.length kA, .slice C gs.length kC], .int .u8 (f : Int), .int .u8 (t : Int), .int .i64 k] w fun e w' => e = .returned (.int .i64 (i : Int)) ∧ Below w.heap.size w w' := (Oe L gs [] A C kA kC f t k w hL hcap hl5).mono fun e w' ⟨h1, h2⟩ => by
 rcases h1 with ⟨j, h3, h4⟩ | ⟨h3, h4⟩
 ·rw [h] at h3
  cases h3
  exact ⟨h4, h2⟩
 ·rw [h] at h3
  cases h3
theorem HI (L : List Rl) (gs : List Nat) (A C : Option Addr) (kA kC : Nat) (f t : Nat) (k : Int) (w : World) (hL : Rows w A 20 rlL L) (hcap : L.length ≤ kA) (hl5 : L.length ≤ 512) (h : Dq (CO L) f t k = none) : Calls Tryz.prog 74 #[.agg #[.slice A L.length kA, .slice C gs.length kC], .int .u8 (f : Int), .int .u8 (t : Int), .int .i64 k] w fun e w' => e = .returned (.int .i64 (-1)) ∧ Below w.heap.size w w' := (Oe L gs [] A C kA kC f t k w hL hcap hl5).mono fun e w' ⟨h1, h2⟩ => by
 rcases h1 with ⟨j, h3, h4⟩ | ⟨h3, h4⟩
 ·rw [h] at h3
  cases h3
 ·exact ⟨h4, h2⟩

set_option maxRecDepth 100000 in
set_option maxHeartbeats 4000000 in
theorem G9 (L : List Rl) (gs : List Nat) (pp : List (Nat × Nat)) (A C : Option Addr) (kA kC : Nat) (a b : Nat)  (w : World) (hC : Rows w C 1 slL gs) (hI : InnerAt w gs pp) (hg5 : gs.length ≤ 100000) : Calls Tryz.prog 40 #[.agg #[.slice A L.length kA, .slice C gs.length kC], .int .u8 (a : Int), .int .u8 (b : Int)] w fun e w' => e = .returned (.bool (GI pp a b)) ∧ Below w.heap.size w w' := by
 refine A0 (n := 49) _ Tryz.func40 rfl rfl rfl (Hp.start w) (Ae (Ac ?_))
 refine zB rfl fun g1 hg1 => ?_
 refine za rfl (Ad (Aa (Ae (Ae (Ac (za rfl (Ad (Aa (AG ?_)))))))))
 refine Ff (fun (i : Nat) => [(1, .int .u8 (a : Int)), (2, .int .u8 (b : Int)), (3, .pointer (some ⟨g1, 0, none⟩)), (7, .int .i64 (i : Int))]) (fun (i : Nat) => [cell g1 78 [.slice A L.length kA, .slice C gs.length kC]]) (fun (gk : Nat) (i : Nat) => i + gk = gs.length ∧ GI (pp.take i) a b = false) gs.length 0 ⟨by omega, rfl⟩ ⟨rfl, rfl, rfl, rfl, trivial⟩ [0] rfl (by decide) ⟨.inl rfl, trivial⟩ fun gk i hF => ?_
 obtain ⟨hkg, hrel⟩ := hF
 refine Ae (Ae (Ac (zm rfl (zf 1 BV rfl (zl 0 Tryz.underlying76 rfl (zL Tryz.underlying76 rfl ?_))))))
 refine zb rfl fun c14 hc14 => ?_
 refine Ad (Aa ?_)
 cases c14
 ·refine Ah rfl (Cd (AW (AW (BH (Aa (Ae (Ac (za rfl (Ad ?_)))))))))
  refine Aa (Am ?_)
  refine Ai (.bool false) (fun a w K H => BC K rfl rfl) (fun w H => ?_)
  have hq : GI pp a b = false := by have h := hc14; simp [AB] at h; have hn := hI.len; rwa [List.take_of_length_le (by omega)] at hrel
  rw [hq]
  exact ⟨rfl, H.toBelow ⟨(zq hg1), trivial⟩⟩
 ·refine Ap rfl (Ax (Aa (Ae (AG (Ae ?_)))))
  have hkl : i < gs.length := by have h := hc14; simp [AB] at h; omega
  obtain ⟨gi, hx⟩ : ∃ x, gs[i]? = some x := ⟨_, List.getElem?_eq_getElem hkl⟩
  obtain ⟨⟨xa, xb⟩, hp⟩ : ∃ x, pp[i]? = some x := ⟨_, List.getElem?_eq_getElem (by rw [← hI.len]; exact hkl)⟩
  have hgi := hI.at_ i gi (xa, xb) hx hp
  obtain ⟨ac, rfl, -, -⟩ := hC.row hx
  refine Ac (zf 1 BV rfl (zl 0 Tryz.underlying76 rfl (zm rfl (Ag (v := .pointer (some (ac.add (i * 1)))) trivial rfl rfl (fun ρ w E H => BA (i := i) E rfl Tryz.underlying76 GN rfl rfl hkl) (Ag (v := .slice (some ⟨gi, 0, none⟩) 2 2) trivial rfl rfl (fun ρ w E H => Em E ((hC.below (H.toBelow ⟨(zq hg1), trivial⟩)).rowA hx) rfl rfl rfl Tryz.underlying103 rfl) (Ag (v := .pointer (some ⟨gi, 0, none⟩)) trivial rfl rfl (fun ρ w E H => Oz (i := 0) E rfl Tryz.underlying103 DC rfl rfl (by decide) rfl) (Ag trivial rfl rfl (fun ρ w E H => Dl (cs := [.int .u8 (xa : Int), .int .u8 (xb : Int)]) E (Blk.below hgi (H.toBelow ⟨(zq hg1), trivial⟩) (Blk.lt hgi)) rfl rfl Tryz.underlying5 rfl rfl) (za rfl (Ad ?_)))))))))
  refine Aa (Ae ?_)
  have hC2 := trivial
  refine Ac (zf 1 BV rfl (zl 0 Tryz.underlying76 rfl (zm rfl (Ag (v := .pointer (some (ac.add (i * 1)))) trivial rfl rfl (fun ρ w E H => BA (i := i) E rfl Tryz.underlying76 GN rfl rfl hkl) (Ag (v := .slice (some ⟨gi, 0, none⟩) 2 2) trivial rfl rfl (fun ρ w E H => Em E ((hC.below (H.toBelow ⟨(zq hg1), trivial⟩)).rowA hx) rfl rfl rfl Tryz.underlying103 rfl) (Ag (v := .pointer (some ⟨gi, 1, none⟩)) trivial rfl rfl (fun ρ w E H => Oz (i := 1) E rfl Tryz.underlying103 DC rfl rfl (by decide) rfl) (Ag trivial rfl rfl (fun ρ w E H => Dl (cs := [.int .u8 (xa : Int), .int .u8 (xb : Int)]) E (Blk.below hgi (H.toBelow ⟨(zq hg1), trivial⟩) (Blk.lt hgi)) rfl rfl Tryz.underlying5 rfl rfl) (za rfl (Ad ?_)))))))))
  refine Aa (Ae (Ac (zm rfl (zm rfl ?_))))
  refine zb rfl fun c33 hc33 => ?_
  refine zm rfl ?_
  cases c33
  ·refine zo rfl (zo rfl (zo rfl (zp rfl (zm rfl (zm rfl (zm rfl ?_))))))
   refine zb rfl fun c42 hc42 => ?_
   refine zm rfl ?_
   cases c42
   ·refine zo rfl (zo rfl (zo rfl (zp rfl (zp rfl (Ad (Aa (Ah rfl (Ax (AA ?_)))))))))
    refine Aa (Ac (zm rfl (Ag (v := .int .i64 ((i + 1 : Nat) : Int)) trivial rfl rfl (fun ρ w E H => BQ E rfl rfl rfl (by rw [IntKind.wrap_i64]; omega)) (za rfl (Ad ?_)))))
    refine B7 (gk - 1) (i + 1) (by omega) ⟨show i + 1 + (gk - 1) = gs.length by omega, show GI (pp.take (i + 1)) a b = false by rw [Gk hp, IR, hrel, Bool.false_or]; clear hC hC2; simp [AB] at *; omega⟩ ⟨rfl, rfl, rfl, rfl, trivial⟩ [0] rfl (by decide) ⟨.inl rfl, trivial⟩
   ·refine zm rfl (zm rfl ?_)
    refine zb rfl fun c46 hc46 => ?_
    refine zp rfl (zp rfl (Ad (Aa ?_)))
    cases c46
    ·refine Ah rfl (Ax (AA (Aa (Ac (zm rfl (Ag (v := .int .i64 ((i + 1 : Nat) : Int)) trivial rfl rfl (fun ρ w E H => BQ E rfl rfl rfl (by rw [IntKind.wrap_i64]; omega)) (za rfl (Ad ?_))))))))
     refine B7 (gk - 1) (i + 1) (by omega) ⟨show i + 1 + (gk - 1) = gs.length by omega, show GI (pp.take (i + 1)) a b = false by rw [Gk hp, IR, hrel, Bool.false_or]; clear hC hC2; simp [AB] at *; omega⟩ ⟨rfl, rfl, rfl, rfl, trivial⟩ [0] rfl (by decide) ⟨.inl rfl, trivial⟩
    ·refine Ap rfl (Ae (Ac (za rfl (Ad (Aa (Am (AU (Ak (Ak ?_)))))))))
     refine AU (Ak ?_)
     refine Ai (.bool true) (fun a w K H => BC K rfl rfl) (fun w H => ?_)
     have hq : GI pp a b = true := List.any_eq_true.2 ⟨(xa, xb), List.mem_of_getElem? hp, by simp [AB] at hc33 hc42 hc46; simp; omega⟩
     rw [hq]
     exact ⟨rfl, H.toBelow ⟨(zq hg1), trivial⟩⟩
  ·refine zm rfl (zm rfl ?_)
   refine zb rfl fun c37 hc37 => ?_
   refine zp rfl (zm rfl ?_)
   cases c37
   ·refine zm rfl (zm rfl ?_)
    refine zb rfl fun c42 hc42 => ?_
    refine zm rfl ?_
    cases c42
    ·refine zo rfl (zo rfl (zo rfl (zp rfl (zp rfl (Ad (Aa (Ah rfl (Ax (AA ?_)))))))))
     refine Aa (Ac (zm rfl (Ag (v := .int .i64 ((i + 1 : Nat) : Int)) trivial rfl rfl (fun ρ w E H => BQ E rfl rfl rfl (by rw [IntKind.wrap_i64]; omega)) (za rfl (Ad ?_)))))
     refine B7 (gk - 1) (i + 1) (by omega) ⟨show i + 1 + (gk - 1) = gs.length by omega, show GI (pp.take (i + 1)) a b = false by rw [Gk hp, IR, hrel, Bool.false_or]; clear hC hC2; simp [AB] at *; omega⟩ ⟨rfl, rfl, rfl, rfl, trivial⟩ [0] rfl (by decide) ⟨.inl rfl, trivial⟩
    ·refine zm rfl (zm rfl ?_)
     refine zb rfl fun c46 hc46 => ?_
     refine zp rfl (zp rfl (Ad (Aa ?_)))
     cases c46
     ·refine Ah rfl (Ax (AA (Aa (Ac (zm rfl (Ag (v := .int .i64 ((i + 1 : Nat) : Int)) trivial rfl rfl (fun ρ w E H => BQ E rfl rfl rfl (by rw [IntKind.wrap_i64]; omega)) (za rfl (Ad ?_))))))))
      refine B7 (gk - 1) (i + 1) (by omega) ⟨show i + 1 + (gk - 1) = gs.length by omega, show GI (pp.take (i + 1)) a b = false by rw [Gk hp, IR, hrel, Bool.false_or]; clear hC hC2; simp [AB] at *; omega⟩ ⟨rfl, rfl, rfl, rfl, trivial⟩ [0] rfl (by decide) ⟨.inl rfl, trivial⟩
     ·refine Ap rfl (Ae (Ac (za rfl (Ad (Aa (Am (AU (Ak (Ak ?_)))))))))
      refine AU (Ak ?_)
      refine Ai (.bool true) (fun a w K H => BC K rfl rfl) (fun w H => ?_)
      have hq : GI pp a b = true := List.any_eq_true.2 ⟨(xa, xb), List.mem_of_getElem? hp, by simp [AB] at hc33 hc37 hc42 hc46; simp; omega⟩
      rw [hq]
      exact ⟨rfl, H.toBelow ⟨(zq hg1), trivial⟩⟩
   ·refine zo rfl (zo rfl (zo rfl (zo rfl (zo rfl (zo rfl (zo rfl (zo rfl (zp rfl (Ad ?_)))))))))
    refine Aa (Ap rfl (Ae (Ac (za rfl (Ad (Aa (Am (AU (Ak ?_)))))))))
    refine Ak (AU (Ak ?_))
    refine Ai (.bool true) (fun a w K H => BC K rfl rfl) (fun w H => ?_)
    have hq : GI pp a b = true := List.any_eq_true.2 ⟨(xa, xb), List.mem_of_getElem? hp, by simp [AB] at hc33 hc37; simp; omega⟩
    rw [hq]
    exact ⟨rfl, H.toBelow ⟨(zq hg1), trivial⟩⟩

set_option maxRecDepth 100000 in
set_option maxHeartbeats 4000000 in
theorem Nq (L : List Rl) (gs : List Nat) (pp : List (Nat × Nat)) (A C : Option Addr) (kA kC : Nat) (f t : Nat)  (w : World) (hL : Rows w A 20 rlL L) (hcap : L.length ≤ kA) (hl5 : L.length ≤ 512) : Calls Tryz.prog 38 #[.agg #[.slice A L.length kA, .slice C gs.length kC], .int .u8 (f : Int), .int .u8 (t : Int)] w fun e w' => e = .returned (.int .i64 ((Fa (CO L) f t (CO L).length).length : Int)) ∧ Below w.heap.size w w' := by
 refine A0 (n := 17) _ Tryz.func38 rfl rfl rfl (Hp.start w) (Ae (Ac ?_))
 refine zB rfl fun g1 hg1 => ?_
 refine za rfl (Ad (Aa (Ae (Ac (za rfl (Ad (Aa (Ae (AG ?_)))))))))
 refine Ff (fun (k : Nat) => [(1, .int .u8 (f : Int)), (2, .int .u8 (t : Int)), (3, .pointer (some ⟨g1, 0, none⟩)), (7, .int .i64 (k : Int))]) (fun (k : Nat) => [cell g1 78 [.slice A L.length kA, .slice C gs.length kC]]) (fun (gk : Nat) (k : Nat) => k + gk = (Fa (CO L) f t (CO L).length).length + 1 ∧ k ≤ (Fa (CO L) f t (CO L).length).length) ((Fa (CO L) f t (CO L).length).length + 1) 0 ⟨by omega, by omega⟩ ⟨rfl, rfl, rfl, rfl, trivial⟩ [0] rfl (by decide) ⟨.inl rfl, trivial⟩ fun gk k hF => ?_
 obtain ⟨hkg, hkn⟩ := hF
 have hil : (Fa (CO L) f t (CO L).length).length ≤ L.length := by have h := N4 (CO L) f t (CO L).length; rw [Gy] at h ⊢; exact h
 refine Ae (Ae ?_)
 rcases hfo : Dq (CO L) f t (k : Int) with _ | fi
 ·have hke : k = (Fa (CO L) f t (CO L).length).length := by rw [SR, List.getElem?_eq_none_iff] at hfo; omega
  refine Ac (zw 0 Tryz.underlying78 Af rfl (zm rfl (zm rfl (zm rfl (Ao (v := .int .i64 (-1)) trivial rfl rfl (zk Br rfl) (fun w H => HI L gs A C kA kC f t (k : Int) w (hL.below (H.toBelow ⟨(zq hg1), trivial⟩)) hcap hl5 hfo) (zc false rfl (by decide) (Ad (Aa (Ah rfl ?_)))))))))
  refine Cd (AW (AW (BH (Aa (Ae (Ac (zm rfl (za rfl (Ad ?_)))))))))
  refine Aa (Am ?_)
  refine Ai (.int .i64 (k : Int)) (fun a w K H => BC K rfl rfl) (fun w H => ?_)
  rw [← hke]
  exact ⟨rfl, H.toBelow ⟨(zq hg1), trivial⟩⟩
 ·have hkl : k < (Fa (CO L) f t (CO L).length).length := by rw [SR] at hfo; exact (List.getElem?_eq_some_iff.1 hfo).1
  refine Ac (zw 0 Tryz.underlying78 Af rfl (zm rfl (zm rfl (zm rfl (Ao (v := .int .i64 (fi : Int)) trivial rfl rfl (zk Br rfl) (fun w H => GE L gs A C kA kC f t (k : Int) w (hL.below (H.toBelow ⟨(zq hg1), trivial⟩)) hcap hl5 hfo) (zc true rfl (by simp [AB]) (Ad (Aa (Ap rfl ?_)))))))))
  refine Ax (Aa (AG (Ac (zm rfl (Ag (v := .int .i64 ((k + 1 : Nat) : Int)) trivial rfl rfl (fun ρ w E H => BQ E rfl rfl rfl (by rw [IntKind.wrap_i64]; omega)) (za rfl (Ad (AA ?_))))))))
  refine B7 (gk - 1) (k + 1) (by omega) ⟨show k + 1 + (gk - 1) = (Fa (CO L) f t (CO L).length).length + 1 by omega, show k + 1 ≤ _ by omega⟩ ⟨rfl, rfl, rfl, rfl, trivial⟩ [0] rfl (by decide) ⟨.inl rfl, trivial⟩
end Go.Proofs.YteiaiilfekojfaaGreat.Net
end
section
set_option linter.unusedVariables false
set_option linter.unusedSimpArgs false
namespace Go.Proofs.YteiaiilfekojfaaGreat.Net
open Go.RowKit Sx Wire DrawInv
open Msg
set_option maxRecDepth 100000 in
set_option maxHeartbeats 4000000 in
theorem OR (L : List Rl) (gs : List Nat) (ad : Addr) (C : Option Addr) (kA kC i : Nat)  (w : World) (hL : Rows w (some ad) 20 rlL L) (hcap : L.length ≤ kA) (hl5 : L.length ≤ 512) (hi : i < L.length) : Calls Tryz.prog 75 #[.agg #[.slice (some ad) L.length kA, .slice C gs.length kC], .int .i64 (i : Int)] w fun e w' => ∃ v, e = .returned (.agg #[v, .slice C gs.length kC]) ∧ w'.ownsRow w.heap.size 59 20 v (L.eraseIdx i).length ((L.eraseIdx i).flatMap rlL) ∧ Below w.heap.size w w' := by
 have hnone := F3 w 0 0
 refine A0 (n := 19) _ Tryz.func75 rfl rfl rfl (Hp.start w) (Ae (Ep (fun W H => H.nilRow 59 20) (Ac ?_)))
 refine zB rfl fun g1 hg1 => ?_
 refine zA AC rfl fun g2 hg2 => ?_
 refine Ad (Aa (Ae (BN [] [1] (by kernel_rfl) rfl ⟨(zh hg2), (zh hg1), (zj hnone.fresh), trivial⟩ (yf 0 0 Ba rfl (by kernel_rfl) zI (yl 1 0 Tryz.underlying75 rfl (by kernel_rfl) zI (ym 2 rfl (by kernel_rfl) zI (yt (i := 3) (v := .slice (some ad) i kA) (by kernel_rfl) zI rfl rfl rfl rfl (fun ρ w E H => SZ (h := i) E rfl Tryz.underlying75 Aj rfl rfl (by omega) (OP ad i kA 20)) (yf 5 0 Ba rfl (by kernel_rfl) zI (yl 6 0 Tryz.underlying75 rfl (by kernel_rfl) zI ?_)))))))))
 refine ym 7 rfl (by kernel_rfl) zI (yt (i := 8) (v := .int .i64 ((i + 1 : Nat) : Int)) (by kernel_rfl) zI rfl rfl rfl rfl (fun ρ w E H => BQ E rfl rfl rfl (by rw [IntKind.wrap_i64]; omega)) (yt (i := 9) (v := .slice (if kA = i + 1 then some ad else some (ad.add ((i + 1) * 20))) (L.length - (i + 1)) (kA - (i + 1))) (by kernel_rfl) zI rfl rfl rfl rfl (fun ρ w E H => Ph (l := i + 1) E rfl Tryz.underlying75 Aj rfl rfl (by omega) (OO ad (i + 1) L.length kA 20)) (yf 11 1 BV rfl (by kernel_rfl) zI (yl 12 0 Tryz.underlying76 rfl (by kernel_rfl) zI (yr 4 (by kernel_rfl) ?_)))))
 refine BZ (i := 2) (news := (L.take i).flatMap rlL) rfl trivial rfl rfl rfl Tryz.underlying75 Ci rfl rfl rfl rfl hnone rfl (fun W H => ⟨_, by have h := En IY (by decide) (TR (hL.below (H.toBelow ⟨(zq hg2), (zq hg1), hnone.fresh, trivial⟩)) i); rw [List.length_take, Nat.min_eq_left (Nat.le_of_lt hi)] at h; exact h⟩) (Sx.flat_one JO _) (by unfold maxLen; omega) (by omega) (Nat.le_refl _) (fun A9 k9 w hv9 H => H.ks [] [1] rfl ⟨(zh hg2), (zh hg1), (zj hv9.fresh), trivial⟩) fun A9 k9 hv9 => ?_
 refine yr 10 (by kernel_rfl) ?_
 refine BZ (i := 2) (news := (L.drop (i + 1)).flatMap rlL) rfl trivial rfl rfl rfl Tryz.underlying75 Ci rfl rfl rfl rfl hv9 rfl (fun W H => ⟨_, by have h := En IY (by decide) (TS (hL.below (H.toBelow ⟨(zq hg2), (zq hg1), hv9.fresh, trivial⟩)) (n := i + 1) (by omega) hcap); rw [List.length_drop] at h; exact h⟩) (Sx.flat_one JO _) (by unfold maxLen; omega) (by omega) (Nat.le_refl _) (fun A15 k15 w hv15 H => H.ks [] [1] rfl ⟨(zh hg2), (zh hg1), (zj hv15.fresh), trivial⟩) fun A15 k15 hv15 => ?_
 refine yt (i := 13) (by kernel_rfl) zI rfl rfl rfl rfl (fun ρ w E H => Bh (cs := [.slice A15 (0 + i + (L.length - (i + 1))) k15, .slice C gs.length kC]) E rfl rfl (by kernel_rfl)) (yr 14 (by kernel_rfl) (Dk (j := 0) [.slice A15 (0 + i + (L.length - (i + 1))) k15, .slice C gs.length kC] rfl trivial rfl rfl rfl rfl rfl Af rfl rfl rfl (DF _ _ rfl) (fun w H => H.ks [] [1] rfl ⟨(zh hg2), (zh hg1), (zj hv15.fresh), trivial⟩) (BE (by kernel_rfl) (Aa (Am ?_)))))
 refine Ai _ (fun a w K H => Ja K [.agg #[.slice A15 (0 + i + (L.length - (i + 1))) k15, .slice C gs.length kC]] rfl ⟨⟨_, rfl, AM (H.get (i := 0) rfl) Tryz.underlying78 rfl Af⟩, trivial⟩) (fun w H => ?_)
 exact ⟨_, rfl, DI (H.get (i := 2) rfl) (by rw [MF]; simp; omega) (by rw [MF]; simp), H.toBelow ⟨(zq hg2), (zq hg1), hv15.fresh, trivial⟩⟩

theorem KX (L : List Rl) (gs : List Nat) (A C : Option Addr) (kA kC i : Nat) (w : World) (hL : Rows w A 20 rlL L) (hcap : L.length ≤ kA) (hl5 : L.length ≤ 512) (hi : i < L.length) : Calls Tryz.prog 75 #[.agg #[.slice A L.length kA, .slice C gs.length kC], .int .i64 (i : Int)] w fun e w' => ∃ v, e = .returned (.agg #[v, .slice C gs.length kC]) ∧ w'.ownsRow w.heap.size 59 20 v (L.eraseIdx i).length ((L.eraseIdx i).flatMap rlL) ∧ Below w.heap.size w w' := by
 obtain ⟨x, hx⟩ : ∃ x, L[i]? = some x := ⟨_, List.getElem?_eq_getElem hi⟩
 obtain ⟨ad, rfl, -, -⟩ := hL.row hx
 exact OR L gs ad C kA kC i w hL hcap hl5 hi
theorem Q4 {w0 : World} {L : List Ft} {P : Program} {f : Nat} {args : Array Value} {e : TypeId} {sz m : Nat} {xs : List Value} (vf : Value → Value) (hc : ∀ w, Hp w0 L w → Calls P f args w fun E w' => ∃ v', E = .returned (vf v') ∧ w'.ownsRow w.heap.size e sz v' m xs ∧ Below w.heap.size w w') :
  ∀ w, Hp w0 L w → Calls P f args w fun E w' => ∃ s : Option Addr × Nat, E = .returned (vf (.slice s.1 m s.2)) ∧ OwnIn w0 [] (.slice s.1 m s.2) ∧ Hp w0 (BU [] w0.heap.size e sz (.slice s.1 m s.2) m xs :: L) w' := fun w H => (hc w H).mono fun E w' ⟨v', he, hown, hb⟩ => by
 obtain ⟨A, c, rfl⟩ := Bf hown
 exact ⟨(A, c), he, fun g hg => .inr (Nat.le_trans H.os.size (BS hown g hg).1), H.add hb _ (BF _ _ _ _ _ _ _) (fun g hg => ⟨(BS hown g (by simpa [BU] using hg)).2, (BS hown g (by simpa [BU] using hg)).1⟩) (CY hown H.os.size)⟩
theorem Q3 {w0 : World} {L : List Ft} {P : Program} {f : Nat} {args : Array Value} {e : TypeId} {sz m : Nat} {xs : List Value} (vf : Value → Value) (hc : ∀ w, Hp w0 L w → Calls P f args w fun E w' => ∃ v', E = .returned (vf v') ∧ w'.ownsRow w.heap.size e sz v' m xs ∧ Below w.heap.size w w') :
  ∀ w, Hp w0 L w → Calls P f args w fun E w' => ∃ s : Value, E = .returned (vf s) ∧ OwnIn w0 [] s ∧ Hp w0 (BU [] w0.heap.size e sz s m xs :: L) w' := fun w H => (hc w H).mono fun E w' ⟨v', he, hown, hb⟩ =>
 ⟨v', he, fun g hg => .inr (Nat.le_trans H.os.size (BS hown g hg).1), H.add hb _ (BF _ _ _ _ _ _ _) (fun g hg => ⟨(BS hown g (by simpa [BU] using hg)).2, (BS hown g (by simpa [BU] using hg)).1⟩) (CY hown H.os.size)⟩

set_option maxRecDepth 100000 in
set_option maxHeartbeats 4000000 in
theorem Vv (L : List Rl) (gs : List Nat) (pp : List (Nat × Nat)) (A C : Option Addr) (kA kC : Nat) (a b : Nat)  (w : World) (hap : BJ a b = false) : Calls Tryz.prog 35 #[.agg #[.slice A L.length kA, .slice C gs.length kC], .int .u8 (a : Int), .int .u8 (b : Int)] w fun e w' => e = .returned (.tuple #[.agg #[.slice A L.length kA, .slice C gs.length kC], .int .i64 2]) ∧ Below w.heap.size w w' := by
 refine A0 (n := 24) _ Tryz.func35 rfl rfl rfl (Hp.start w) (Ae (Ac ?_))
 refine zB rfl fun g1 hg1 => ?_
 refine zA AC rfl fun g2 hg2 => ?_
 refine za rfl (Ad (Aa (Ae (Ae (Ac (zm rfl (zm rfl (Ao (v := .bool false) trivial rfl rfl (zk AX rfl) (fun w H => (Dj a b w).mono fun _ _ h => ⟨by rw [h.1, hap], h.2⟩) (zn true rfl ?_)))))))))
 refine Ad (Aa (Ap rfl (Ae (Ac (zw 1 Tryz.underlying78 Af rfl (zS 0 Af rfl (za rfl (Ad (Aa ?_)))))))))
 refine Am (Ak ?_)
 refine Ai _ (fun a w K H => GF K [.agg #[.slice A L.length kA, .slice C gs.length kC], .int .i64 2] rfl rfl ⟨⟨_, rfl, AM (H.get (i := 0) rfl) Tryz.underlying78 rfl Af⟩, rfl, trivial⟩) (fun w H => ?_)
 exact ⟨rfl, H.toBelow ⟨(zq hg2), (zq hg1), trivial⟩⟩

set_option maxRecDepth 100000 in
set_option maxHeartbeats 4000000 in
theorem Vu (L : List Rl) (gs : List Nat) (pp : List (Nat × Nat)) (A C : Option Addr) (kA kC : Nat) (a b : Nat)  (w : World) (hap : BJ a b = true) (hC : Rows w C 1 slL gs) (hI : InnerAt w gs pp) (hg5 : gs.length ≤ 100000) : Calls Tryz.prog 35 #[.agg #[.slice A L.length kA, .slice C gs.length kC], .int .u8 (a : Int), .int .u8 (b : Int)] w fun e w' => ∃ v g, e = .returned (.tuple #[.agg #[.slice A L.length kA, v], .int .i64 0]) ∧ w'.ownsRow w.heap.size 103 1 v (gs ++ [g]).length ((gs ++ [g]).flatMap slL) ∧ Blk w' g 5 #[.int .u8 (a : Int), .int .u8 (b : Int)] ∧ w.heap.size ≤ g ∧ Below w.heap.size w w' := by
 have hnone := F3 w 0 0
 refine A0 (n := 24) _ Tryz.func35 rfl rfl rfl (Hp.start w) (Ae (Ac ?_))
 refine zB rfl fun g1 hg1 => ?_
 refine zA AC rfl fun g2 hg2 => ?_
 refine za rfl (Ad (Aa (Ae (Ae (Ac (zm rfl (zm rfl (Ao (v := .bool true) trivial rfl rfl (zk AX rfl) (fun w H => (Dj a b w).mono fun _ _ h => ⟨by rw [h.1, hap], h.2⟩) (zn false rfl ?_)))))))))
 refine Ad (Aa (Ah rfl (Ax (Aa (Ae (Ep (fun W H => H.nilRow 103 1) (BN [] [2] (by kernel_rfl) rfl ⟨(zj hnone.fresh), (zh hg2), (zh hg1), trivial⟩ (yf 0 0 Ba rfl (by kernel_rfl) zI (yl 1 0 Tryz.underlying75 rfl (by kernel_rfl) zI ?_)))))))))
 refine yf 2 1 BV rfl (by kernel_rfl) zI (yl 3 0 Tryz.underlying76 rfl (by kernel_rfl) zI (ym 5 rfl (by kernel_rfl) zI (ym 6 rfl (by kernel_rfl) zI ?_)))
 refine Ed [4, 7] (by kernel_rfl) (by simp) ⟨?_, ?_, trivial⟩
 ·refine BZ (i := 0) (news := gs.flatMap slL) rfl trivial rfl rfl rfl Tryz.underlying76 Gn rfl rfl rfl rfl hnone rfl (fun W H => ⟨_, En MO (by decide) (hC.below (H.toBelow ⟨hnone.fresh, (zq hg2), (zq hg1), trivial⟩))⟩) (Sx.flat_one OQ _) (by unfold maxLen; omega) (by omega) (Nat.le_refl _) (fun A17 k17 w hv17 H => H.ks [] [2] rfl ⟨(zj hv17.fresh), (zh hg2), (zh hg1), trivial⟩) fun A17 k17 hv17 => ?_
  refine yr 7 (by kernel_rfl) ?_
  refine Dc (cs := [.int .u8 (a : Int), .int .u8 (b : Int)]) rfl trivial rfl rfl (fun ρ w E H => AV E rfl rfl Tryz.underlying103 DC Fz rfl rfl (by kernel_rfl)) (fun g3 w hg3 H => H.ks [] [3] rfl ⟨(zh hg3), (zj hv17.fresh), (zh hg2), (zh hg1), trivial⟩) fun g3 hg3 => ?_
  refine yr 8 (by kernel_rfl) ?_
  refine Dc (cs := [.slice (some ⟨g3, 0, none⟩) 2 2]) rfl trivial rfl rfl (fun ρ w E H => AV E rfl rfl Tryz.underlying76 GN Js rfl rfl (by kernel_rfl)) (fun g4 w hg4 H => H.ks [] [4] rfl ⟨(zh hg4), (zh hg3), (zj hv17.fresh), (zh hg2), (zh hg1), trivial⟩) fun g4 hg4 => ?_
  refine yr 9 (by kernel_rfl) ?_
  refine BZ (i := 2) (news := [.slice (some ⟨g3, 0, none⟩) 2 2]) rfl trivial rfl rfl rfl Tryz.underlying76 Gn rfl rfl rfl rfl hv17 rfl (fun w H => CS H (i := 0) rfl rfl) (D4 rfl) (by unfold maxLen; omega) (by omega) (Nat.le_refl _) (fun A22 k22 w hv22 H => H.ks [] [4] rfl ⟨(zh hg4), (zh hg3), (zj hv22.fresh), (zh hg2), (zh hg1), trivial⟩) fun A22 k22 hv22 => ?_
  refine yt (i := 10) (by kernel_rfl) zI rfl rfl rfl rfl (fun ρ w E H => Bh (cs := [.slice A L.length kA, .slice A22 (0 + gs.length + 1) k22]) E rfl rfl (by kernel_rfl)) (yr 11 (by kernel_rfl) (Dk (j := 3) [.slice A L.length kA, .slice A22 (0 + gs.length + 1) k22] rfl trivial rfl rfl rfl rfl rfl Af rfl rfl rfl (DF _ _ rfl) (fun w H => H.ks [] [4] rfl ⟨(zh hg4), (zh hg3), (zj hv22.fresh), (zh hg2), (zh hg1), trivial⟩) (yA 12 rfl (by kernel_rfl) zI (BE (by kernel_rfl) (Aa (Am ?_))))))
  refine Ai _ (fun a w K H => GF K [.agg #[.slice A L.length kA, .slice A22 (0 + gs.length + 1) k22], .int .i64 0] rfl rfl ⟨⟨_, rfl, AM (H.get (i := 3) rfl) Tryz.underlying78 rfl Af⟩, rfl, trivial⟩) (fun w H => ?_)
  exact ⟨_, _, rfl, DI (H.get (i := 2) rfl) (by simp) (by simp [slL]), H.get (i := 1) rfl, hg3, H.toBelow ⟨(zq hg4), (zq hg3), hv22.fresh, (zq hg2), (zq hg1), trivial⟩⟩
 ·refine Dc (cs := [.int .u8 (a : Int), .int .u8 (b : Int)]) rfl trivial rfl rfl (fun ρ w E H => AV E rfl rfl Tryz.underlying103 DC Fz rfl rfl (by kernel_rfl)) (fun g5 w hg5 H => H.ks [] [3] rfl ⟨(zh hg5), (zj hnone.fresh), (zh hg2), (zh hg1), trivial⟩) fun g5 hg5 => ?_
  refine Ed [4, 8] (by kernel_rfl) (by simp) ⟨?_, ?_, trivial⟩
  ·refine BZ (i := 1) (news := gs.flatMap slL) rfl trivial rfl rfl rfl Tryz.underlying76 Gn rfl rfl rfl rfl hnone rfl (fun W H => ⟨_, En MO (by decide) (hC.below (H.toBelow ⟨(zq hg5), hnone.fresh, (zq hg2), (zq hg1), trivial⟩))⟩) (Sx.flat_one OQ _) (by unfold maxLen; omega) (by omega) (Nat.le_refl _) (fun A17 k17 w hv17 H => H.ks [] [3] rfl ⟨(zh hg5), (zj hv17.fresh), (zh hg2), (zh hg1), trivial⟩) fun A17 k17 hv17 => ?_
   refine yr 8 (by kernel_rfl) ?_
   refine Dc (cs := [.slice (some ⟨g5, 0, none⟩) 2 2]) rfl trivial rfl rfl (fun ρ w E H => AV E rfl rfl Tryz.underlying76 GN Js rfl rfl (by kernel_rfl)) (fun g6 w hg6 H => H.ks [] [4] rfl ⟨(zh hg6), (zh hg5), (zj hv17.fresh), (zh hg2), (zh hg1), trivial⟩) fun g6 hg6 => ?_
   refine yr 9 (by kernel_rfl) ?_
   refine BZ (i := 2) (news := [.slice (some ⟨g5, 0, none⟩) 2 2]) rfl trivial rfl rfl rfl Tryz.underlying76 Gn rfl rfl rfl rfl hv17 rfl (fun w H => CS H (i := 0) rfl rfl) (D4 rfl) (by unfold maxLen; omega) (by omega) (Nat.le_refl _) (fun A22 k22 w hv22 H => H.ks [] [4] rfl ⟨(zh hg6), (zh hg5), (zj hv22.fresh), (zh hg2), (zh hg1), trivial⟩) fun A22 k22 hv22 => ?_
   refine yt (i := 10) (by kernel_rfl) zI rfl rfl rfl rfl (fun ρ w E H => Bh (cs := [.slice A L.length kA, .slice A22 (0 + gs.length + 1) k22]) E rfl rfl (by kernel_rfl)) (yr 11 (by kernel_rfl) (Dk (j := 3) [.slice A L.length kA, .slice A22 (0 + gs.length + 1) k22] rfl trivial rfl rfl rfl rfl rfl Af rfl rfl rfl (DF _ _ rfl) (fun w H => H.ks [] [4] rfl ⟨(zh hg6), (zh hg5), (zj hv22.fresh), (zh hg2), (zh hg1), trivial⟩) (yA 12 rfl (by kernel_rfl) zI (BE (by kernel_rfl) (Aa (Am ?_))))))
   refine Ai _ (fun a w K H => GF K [.agg #[.slice A L.length kA, .slice A22 (0 + gs.length + 1) k22], .int .i64 0] rfl rfl ⟨⟨_, rfl, AM (H.get (i := 3) rfl) Tryz.underlying78 rfl Af⟩, rfl, trivial⟩) (fun w H => ?_)
   exact ⟨_, _, rfl, DI (H.get (i := 2) rfl) (by simp) (by simp [slL]), H.get (i := 1) rfl, hg5, H.toBelow ⟨(zq hg6), (zq hg5), hv22.fresh, (zq hg2), (zq hg1), trivial⟩⟩
  ·refine Dc (cs := [.slice (some ⟨g5, 0, none⟩) 2 2]) rfl trivial rfl rfl (fun ρ w E H => AV E rfl rfl Tryz.underlying76 GN Js rfl rfl (by kernel_rfl)) (fun g7 w hg7 H => H.ks [] [4] rfl ⟨(zh hg7), (zh hg5), (zj hnone.fresh), (zh hg2), (zh hg1), trivial⟩) fun g7 hg7 => ?_
   refine yr 4 (by kernel_rfl) ?_
   refine BZ (i := 2) (news := gs.flatMap slL) rfl trivial rfl rfl rfl Tryz.underlying76 Gn rfl rfl rfl rfl hnone rfl (fun W H => ⟨_, En MO (by decide) (hC.below (H.toBelow ⟨(zq hg7), (zq hg5), hnone.fresh, (zq hg2), (zq hg1), trivial⟩))⟩) (Sx.flat_one OQ _) (by unfold maxLen; omega) (by omega) (Nat.le_refl _) (fun A17 k17 w hv17 H => H.ks [] [4] rfl ⟨(zh hg7), (zh hg5), (zj hv17.fresh), (zh hg2), (zh hg1), trivial⟩) fun A17 k17 hv17 => ?_
   refine yr 9 (by kernel_rfl) ?_
   refine BZ (i := 2) (news := [.slice (some ⟨g5, 0, none⟩) 2 2]) rfl trivial rfl rfl rfl Tryz.underlying76 Gn rfl rfl rfl rfl hv17 rfl (fun w H => CS H (i := 0) rfl rfl) (D4 rfl) (by unfold maxLen; omega) (by omega) (Nat.le_refl _) (fun A22 k22 w hv22 H => H.ks [] [4] rfl ⟨(zh hg7), (zh hg5), (zj hv22.fresh), (zh hg2), (zh hg1), trivial⟩) fun A22 k22 hv22 => ?_
   refine yt (i := 10) (by kernel_rfl) zI rfl rfl rfl rfl (fun ρ w E H => Bh (cs := [.slice A L.length kA, .slice A22 (0 + gs.length + 1) k22]) E rfl rfl (by kernel_rfl)) (yr 11 (by kernel_rfl) (Dk (j := 3) [.slice A L.length kA, .slice A22 (0 + gs.length + 1) k22] rfl trivial rfl rfl rfl rfl rfl Af rfl rfl rfl (DF _ _ rfl) (fun w H => H.ks [] [4] rfl ⟨(zh hg7), (zh hg5), (zj hv22.fresh), (zh hg2), (zh hg1), trivial⟩) (yA 12 rfl (by kernel_rfl) zI (BE (by kernel_rfl) (Aa (Am ?_))))))
   refine Ai _ (fun a w K H => GF K [.agg #[.slice A L.length kA, .slice A22 (0 + gs.length + 1) k22], .int .i64 0] rfl rfl ⟨⟨_, rfl, AM (H.get (i := 3) rfl) Tryz.underlying78 rfl Af⟩, rfl, trivial⟩) (fun w H => ?_)
   exact ⟨_, _, rfl, DI (H.get (i := 2) rfl) (by simp) (by simp [slL]), H.get (i := 1) rfl, hg5, H.toBelow ⟨(zq hg7), (zq hg5), hv22.fresh, (zq hg2), (zq hg1), trivial⟩⟩

set_option maxRecDepth 100000 in
set_option maxHeartbeats 4000000 in
theorem UE (L : List Rl) (gs : List Nat) (pp : List (Nat × Nat)) (A C : Option Addr) (kA kC : Nat) (f t : Nat) (k : Int)  (w : World) (hap : BJ f t = false) : Calls Tryz.prog 34 #[.agg #[.slice A L.length kA, .slice C gs.length kC], .int .i64 0, .int .u8 (f : Int), .int .u8 (t : Int), .int .i64 (k)] w fun e w' => e = .returned (.tuple #[.agg #[.slice A L.length kA, .slice C gs.length kC], .agg #[.int .u8 0, .int .u8 0, .int .u8 0, .int .u64 0, .int .u8 0, .int .u64 0, .int .u64 0, .int .u8 0, .string ⟨[].toArray⟩, .slice none 0 0, .slice none 0 0, .int .u8 0, .int .u32 0, .int .u8 0, .string ⟨[].toArray⟩, .string ⟨[].toArray⟩, .string ⟨[].toArray⟩, .int .u8 0, .int .u8 0, .string ⟨[].toArray⟩], .int .i64 2]) ∧ Below w.heap.size w w' := by
 refine A0 (n := 75) _ Tryz.func34 rfl rfl rfl (Hp.start w) (Ae (Ac ?_))
 refine zB rfl fun g1 hg1 => ?_
 refine zA AC rfl fun g2 hg2 => ?_
 refine zA AI rfl fun g3 hg3 => ?_
 refine za rfl (Ad (Aa (Ae (Ae (Ac (zm rfl (zm rfl (Ao (v := .bool false) trivial rfl rfl (zk AX rfl) (fun w H => (Dj f t w).mono fun _ _ h => ⟨by rw [h.1, hap], h.2⟩) (zn true rfl ?_)))))))))
 refine Ad (Aa (Ap rfl (Ae (Ac (zw 2 Tryz.underlying78 Af rfl (Ag trivial rfl rfl (fun ρ w E H => Bh (cs := [.int .u8 0, .int .u8 0, .int .u8 0, .int .u64 0, .int .u8 0, .int .u64 0, .int .u64 0, .int .u8 0, .string ⟨[].toArray⟩, .slice none 0 0, .slice none 0 0, .int .u8 0, .int .u32 0, .int .u8 0, .string ⟨[].toArray⟩, .string ⟨[].toArray⟩, .string ⟨[].toArray⟩, .int .u8 0, .int .u8 0, .string ⟨[].toArray⟩]) E rfl rfl (by kernel_rfl)) (zS 1 Af rfl (zS 0 Aj rfl (za rfl ?_)))))))))
 refine Ad (Aa (Am (Ak ?_)))
 refine Ai _ (fun a w K H => GF K [.agg #[.slice A L.length kA, .slice C gs.length kC], .agg #[.int .u8 0, .int .u8 0, .int .u8 0, .int .u64 0, .int .u8 0, .int .u64 0, .int .u64 0, .int .u8 0, .string ⟨[].toArray⟩, .slice none 0 0, .slice none 0 0, .int .u8 0, .int .u32 0, .int .u8 0, .string ⟨[].toArray⟩, .string ⟨[].toArray⟩, .string ⟨[].toArray⟩, .int .u8 0, .int .u8 0, .string ⟨[].toArray⟩], .int .i64 2] rfl rfl ⟨⟨_, rfl, AM (H.get (i := 1) rfl) Tryz.underlying78 rfl Af⟩, ⟨_, rfl, AM (H.get (i := 0) rfl) Tryz.underlying59 rfl Aj⟩, rfl, trivial⟩) (fun w H => ?_)
 exact ⟨rfl, H.toBelow ⟨(zq hg3), (zq hg2), (zq hg1), trivial⟩⟩

set_option maxRecDepth 100000 in
set_option maxHeartbeats 4000000 in
theorem UB (L : List Rl) (gs : List Nat) (pp : List (Nat × Nat)) (A C : Option Addr) (kA kC : Nat) (f t : Nat) (k : Int)  (w : World) (hap : BJ f t = false) : Calls Tryz.prog 34 #[.agg #[.slice A L.length kA, .slice C gs.length kC], .int .i64 1, .int .u8 (f : Int), .int .u8 (t : Int), .int .i64 (k)] w fun e w' => e = .returned (.tuple #[.agg #[.slice A L.length kA, .slice C gs.length kC], .agg #[.int .u8 0, .int .u8 0, .int .u8 0, .int .u64 0, .int .u8 0, .int .u64 0, .int .u64 0, .int .u8 0, .string ⟨[].toArray⟩, .slice none 0 0, .slice none 0 0, .int .u8 0, .int .u32 0, .int .u8 0, .string ⟨[].toArray⟩, .string ⟨[].toArray⟩, .string ⟨[].toArray⟩, .int .u8 0, .int .u8 0, .string ⟨[].toArray⟩], .int .i64 2]) ∧ Below w.heap.size w w' := by
 refine A0 (n := 75) _ Tryz.func34 rfl rfl rfl (Hp.start w) (Ae (Ac ?_))
 refine zB rfl fun g1 hg1 => ?_
 refine zA AC rfl fun g2 hg2 => ?_
 refine zA AI rfl fun g3 hg3 => ?_
 refine za rfl (Ad (Aa (Ae (Ae (Ac (zm rfl (zm rfl (Ao (v := .bool false) trivial rfl rfl (zk AX rfl) (fun w H => (Dj f t w).mono fun _ _ h => ⟨by rw [h.1, hap], h.2⟩) (zn true rfl ?_)))))))))
 refine Ad (Aa (Ap rfl (Ae (Ac (zw 2 Tryz.underlying78 Af rfl (Ag trivial rfl rfl (fun ρ w E H => Bh (cs := [.int .u8 0, .int .u8 0, .int .u8 0, .int .u64 0, .int .u8 0, .int .u64 0, .int .u64 0, .int .u8 0, .string ⟨[].toArray⟩, .slice none 0 0, .slice none 0 0, .int .u8 0, .int .u32 0, .int .u8 0, .string ⟨[].toArray⟩, .string ⟨[].toArray⟩, .string ⟨[].toArray⟩, .int .u8 0, .int .u8 0, .string ⟨[].toArray⟩]) E rfl rfl (by kernel_rfl)) (zS 1 Af rfl (zS 0 Aj rfl (za rfl ?_)))))))))
 refine Ad (Aa (Am (Ak ?_)))
 refine Ai _ (fun a w K H => GF K [.agg #[.slice A L.length kA, .slice C gs.length kC], .agg #[.int .u8 0, .int .u8 0, .int .u8 0, .int .u64 0, .int .u8 0, .int .u64 0, .int .u64 0, .int .u8 0, .string ⟨[].toArray⟩, .slice none 0 0, .slice none 0 0, .int .u8 0, .int .u32 0, .int .u8 0, .string ⟨[].toArray⟩, .string ⟨[].toArray⟩, .string ⟨[].toArray⟩, .int .u8 0, .int .u8 0, .string ⟨[].toArray⟩], .int .i64 2] rfl rfl ⟨⟨_, rfl, AM (H.get (i := 1) rfl) Tryz.underlying78 rfl Af⟩, ⟨_, rfl, AM (H.get (i := 0) rfl) Tryz.underlying59 rfl Aj⟩, rfl, trivial⟩) (fun w H => ?_)
 exact ⟨rfl, H.toBelow ⟨(zq hg3), (zq hg2), (zq hg1), trivial⟩⟩

set_option maxRecDepth 100000 in
set_option maxHeartbeats 4000000 in
theorem U9 (L : List Rl) (gs : List Nat) (pp : List (Nat × Nat)) (A C : Option Addr) (kA kC : Nat) (f t : Nat) (k : Int)  (w : World) (hap : BJ f t = false) : Calls Tryz.prog 34 #[.agg #[.slice A L.length kA, .slice C gs.length kC], .int .i64 2, .int .u8 (f : Int), .int .u8 (t : Int), .int .i64 (k)] w fun e w' => e = .returned (.tuple #[.agg #[.slice A L.length kA, .slice C gs.length kC], .agg #[.int .u8 0, .int .u8 0, .int .u8 0, .int .u64 0, .int .u8 0, .int .u64 0, .int .u64 0, .int .u8 0, .string ⟨[].toArray⟩, .slice none 0 0, .slice none 0 0, .int .u8 0, .int .u32 0, .int .u8 0, .string ⟨[].toArray⟩, .string ⟨[].toArray⟩, .string ⟨[].toArray⟩, .int .u8 0, .int .u8 0, .string ⟨[].toArray⟩], .int .i64 2]) ∧ Below w.heap.size w w' := by
 refine A0 (n := 75) _ Tryz.func34 rfl rfl rfl (Hp.start w) (Ae (Ac ?_))
 refine zB rfl fun g1 hg1 => ?_
 refine zA AC rfl fun g2 hg2 => ?_
 refine zA AI rfl fun g3 hg3 => ?_
 refine za rfl (Ad (Aa (Ae (Ae (Ac (zm rfl (zm rfl (Ao (v := .bool false) trivial rfl rfl (zk AX rfl) (fun w H => (Dj f t w).mono fun _ _ h => ⟨by rw [h.1, hap], h.2⟩) (zn true rfl ?_)))))))))
 refine Ad (Aa (Ap rfl (Ae (Ac (zw 2 Tryz.underlying78 Af rfl (Ag trivial rfl rfl (fun ρ w E H => Bh (cs := [.int .u8 0, .int .u8 0, .int .u8 0, .int .u64 0, .int .u8 0, .int .u64 0, .int .u64 0, .int .u8 0, .string ⟨[].toArray⟩, .slice none 0 0, .slice none 0 0, .int .u8 0, .int .u32 0, .int .u8 0, .string ⟨[].toArray⟩, .string ⟨[].toArray⟩, .string ⟨[].toArray⟩, .int .u8 0, .int .u8 0, .string ⟨[].toArray⟩]) E rfl rfl (by kernel_rfl)) (zS 1 Af rfl (zS 0 Aj rfl (za rfl ?_)))))))))
 refine Ad (Aa (Am (Ak ?_)))
 refine Ai _ (fun a w K H => GF K [.agg #[.slice A L.length kA, .slice C gs.length kC], .agg #[.int .u8 0, .int .u8 0, .int .u8 0, .int .u64 0, .int .u8 0, .int .u64 0, .int .u64 0, .int .u8 0, .string ⟨[].toArray⟩, .slice none 0 0, .slice none 0 0, .int .u8 0, .int .u32 0, .int .u8 0, .string ⟨[].toArray⟩, .string ⟨[].toArray⟩, .string ⟨[].toArray⟩, .int .u8 0, .int .u8 0, .string ⟨[].toArray⟩], .int .i64 2] rfl rfl ⟨⟨_, rfl, AM (H.get (i := 1) rfl) Tryz.underlying78 rfl Af⟩, ⟨_, rfl, AM (H.get (i := 0) rfl) Tryz.underlying59 rfl Aj⟩, rfl, trivial⟩) (fun w H => ?_)
 exact ⟨rfl, H.toBelow ⟨(zq hg3), (zq hg2), (zq hg1), trivial⟩⟩

set_option maxRecDepth 100000 in
set_option maxHeartbeats 4000000 in
theorem UD (L : List Rl) (gs : List Nat) (pp : List (Nat × Nat)) (A C : Option Addr) (kA kC : Nat) (f t : Nat) (k : Int)  (w : World) (hap : BJ f t = true) (hcu : GI pp f t = true) (hC : Rows w C 1 slL gs) (hI : InnerAt w gs pp) (hg5 : gs.length ≤ 100000) : Calls Tryz.prog 34 #[.agg #[.slice A L.length kA, .slice C gs.length kC], .int .i64 0, .int .u8 (f : Int), .int .u8 (t : Int), .int .i64 (k)] w fun e w' => e = .returned (.tuple #[.agg #[.slice A L.length kA, .slice C gs.length kC], .agg #[.int .u8 0, .int .u8 0, .int .u8 0, .int .u64 0, .int .u8 0, .int .u64 0, .int .u64 0, .int .u8 0, .string ⟨[].toArray⟩, .slice none 0 0, .slice none 0 0, .int .u8 0, .int .u32 0, .int .u8 0, .string ⟨[].toArray⟩, .string ⟨[].toArray⟩, .string ⟨[].toArray⟩, .int .u8 0, .int .u8 0, .string ⟨[].toArray⟩], .int .i64 13]) ∧ Below w.heap.size w w' := by
 refine A0 (n := 75) _ Tryz.func34 rfl rfl rfl (Hp.start w) (Ae (Ac ?_))
 refine zB rfl fun g1 hg1 => ?_
 refine zA AC rfl fun g2 hg2 => ?_
 refine zA AI rfl fun g3 hg3 => ?_
 refine za rfl (Ad (Aa (Ae (Ae (Ac (zm rfl (zm rfl (Ao (v := .bool true) trivial rfl rfl (zk AX rfl) (fun w H => (Dj f t w).mono fun _ _ h => ⟨by rw [h.1, hap], h.2⟩) (zn false rfl ?_)))))))))
 refine Ad (Aa (Ah rfl (Ax (Aa (Ae (Ae (Ac (zm rfl (zc true rfl (by decide) ?_)))))))))
 refine zm rfl (zw 2 Tryz.underlying78 Af rfl (zm rfl (zm rfl (Ao (v := .bool true) (gK rfl) rfl rfl (zk Ce rfl) (fun w H => (G9 L gs pp A C kA kC f t w (hC.below (H.toBelow ⟨(zq hg3), (zq hg2), (zq hg1), trivial⟩)) (hI.below (H.toBelow ⟨(zq hg3), (zq hg2), (zq hg1), trivial⟩)) hg5).mono fun _ _ h => ⟨by rw [h.1, hcu], h.2⟩) (zp rfl (Ad (Aa (Ap rfl (Ae ?_)))))))))
 refine Ac (zw 2 Tryz.underlying78 Af rfl (Ag trivial rfl rfl (fun ρ w E H => Bh (cs := [.int .u8 0, .int .u8 0, .int .u8 0, .int .u64 0, .int .u8 0, .int .u64 0, .int .u64 0, .int .u8 0, .string ⟨[].toArray⟩, .slice none 0 0, .slice none 0 0, .int .u8 0, .int .u32 0, .int .u8 0, .string ⟨[].toArray⟩, .string ⟨[].toArray⟩, .string ⟨[].toArray⟩, .int .u8 0, .int .u8 0, .string ⟨[].toArray⟩]) E rfl rfl (by kernel_rfl)) (zS 1 Af rfl (zS 0 Aj rfl (za rfl (Ad (Aa (Am (Ak ?_)))))))))
 refine Ai _ (fun a w K H => GF K [.agg #[.slice A L.length kA, .slice C gs.length kC], .agg #[.int .u8 0, .int .u8 0, .int .u8 0, .int .u64 0, .int .u8 0, .int .u64 0, .int .u64 0, .int .u8 0, .string ⟨[].toArray⟩, .slice none 0 0, .slice none 0 0, .int .u8 0, .int .u32 0, .int .u8 0, .string ⟨[].toArray⟩, .string ⟨[].toArray⟩, .string ⟨[].toArray⟩, .int .u8 0, .int .u8 0, .string ⟨[].toArray⟩], .int .i64 13] rfl rfl ⟨⟨_, rfl, AM (H.get (i := 1) rfl) Tryz.underlying78 rfl Af⟩, ⟨_, rfl, AM (H.get (i := 0) rfl) Tryz.underlying59 rfl Aj⟩, rfl, trivial⟩) (fun w H => ?_)
 exact ⟨rfl, H.toBelow ⟨(zq hg3), (zq hg2), (zq hg1), trivial⟩⟩

set_option maxRecDepth 100000 in
set_option maxHeartbeats 4000000 in
theorem RN (L : List Rl) (gs : List Nat) (pp : List (Nat × Nat)) (A C : Option Addr) (kA kC : Nat) (f t : Nat) (k : Int)  (w : World) (hap : BJ f t = true) (hcu : GI pp f t = false) (hC : Rows w C 1 slL gs) (hI : InnerAt w gs pp) (hg5 : gs.length ≤ 100000) (hL : Rows w A 20 rlL L) (hcap : L.length ≤ kA) (hl5 : L.length ≤ 512) (hfo : Dq (CO L) f t k = none) : Calls Tryz.prog 34 #[.agg #[.slice A L.length kA, .slice C gs.length kC], .int .i64 0, .int .u8 (f : Int), .int .u8 (t : Int), .int .i64 (k)] w fun e w' => e = .returned (.tuple #[.agg #[.slice A L.length kA, .slice C gs.length kC], .agg #[.int .u8 0, .int .u8 0, .int .u8 0, .int .u64 0, .int .u8 0, .int .u64 0, .int .u64 0, .int .u8 0, .string ⟨[].toArray⟩, .slice none 0 0, .slice none 0 0, .int .u8 0, .int .u32 0, .int .u8 0, .string ⟨[].toArray⟩, .string ⟨[].toArray⟩, .string ⟨[].toArray⟩, .int .u8 0, .int .u8 0, .string ⟨[].toArray⟩], .int .i64 11]) ∧ Below w.heap.size w w' := by
 refine A0 (n := 75) _ Tryz.func34 rfl rfl rfl (Hp.start w) (Ae (Ac ?_))
 refine zB rfl fun g1 hg1 => ?_
 refine zA AC rfl fun g2 hg2 => ?_
 refine zA AI rfl fun g3 hg3 => ?_
 refine za rfl (Ad (Aa (Ae (Ae (Ac (zm rfl (zm rfl (Ao (v := .bool true) trivial rfl rfl (zk AX rfl) (fun w H => (Dj f t w).mono fun _ _ h => ⟨by rw [h.1, hap], h.2⟩) (zn false rfl ?_)))))))))
 refine Ad (Aa (Ah rfl (Ax (Aa (Ae (Ae (Ac (zm rfl (zc true rfl (by decide) ?_)))))))))
 refine zm rfl (zw 2 Tryz.underlying78 Af rfl (zm rfl (zm rfl (Ao (v := .bool false) (gK rfl) rfl rfl (zk Ce rfl) (fun w H => (G9 L gs pp A C kA kC f t w (hC.below (H.toBelow ⟨(zq hg3), (zq hg2), (zq hg1), trivial⟩)) (hI.below (H.toBelow ⟨(zq hg3), (zq hg2), (zq hg1), trivial⟩)) hg5).mono fun _ _ h => ⟨by rw [h.1, hcu], h.2⟩) (zp rfl (Ad (Aa (Ah rfl (Ax ?_)))))))))
 refine Aa (Ae (Ac (zw 2 Tryz.underlying78 Af rfl (zm rfl (zm rfl (zm rfl (Ao (v := .int .i64 (-1)) trivial rfl rfl (zk Br rfl) (fun w H => HI L gs A C kA kC f t k w (hL.below (H.toBelow ⟨(zq hg3), (zq hg2), (zq hg1), trivial⟩)) hcap hl5 hfo) (za rfl (Ad ?_)))))))))
 refine Aa (Ae (Ae (Ac (zm rfl (zc true rfl (by decide) (Ad (Aa (Ap rfl (Ae ?_)))))))))
 refine Ac (zw 2 Tryz.underlying78 Af rfl (Ag trivial rfl rfl (fun ρ w E H => Bh (cs := [.int .u8 0, .int .u8 0, .int .u8 0, .int .u64 0, .int .u8 0, .int .u64 0, .int .u64 0, .int .u8 0, .string ⟨[].toArray⟩, .slice none 0 0, .slice none 0 0, .int .u8 0, .int .u32 0, .int .u8 0, .string ⟨[].toArray⟩, .string ⟨[].toArray⟩, .string ⟨[].toArray⟩, .int .u8 0, .int .u8 0, .string ⟨[].toArray⟩]) E rfl rfl (by kernel_rfl)) (zS 1 Af rfl (zS 0 Aj rfl (za rfl (Ad (Aa (Am (Ak ?_)))))))))
 refine Ai _ (fun a w K H => GF K [.agg #[.slice A L.length kA, .slice C gs.length kC], .agg #[.int .u8 0, .int .u8 0, .int .u8 0, .int .u64 0, .int .u8 0, .int .u64 0, .int .u64 0, .int .u8 0, .string ⟨[].toArray⟩, .slice none 0 0, .slice none 0 0, .int .u8 0, .int .u32 0, .int .u8 0, .string ⟨[].toArray⟩, .string ⟨[].toArray⟩, .string ⟨[].toArray⟩, .int .u8 0, .int .u8 0, .string ⟨[].toArray⟩], .int .i64 11] rfl rfl ⟨⟨_, rfl, AM (H.get (i := 1) rfl) Tryz.underlying78 rfl Af⟩, ⟨_, rfl, AM (H.get (i := 0) rfl) Tryz.underlying59 rfl Aj⟩, rfl, trivial⟩) (fun w H => ?_)
 exact ⟨rfl, H.toBelow ⟨(zq hg3), (zq hg2), (zq hg1), trivial⟩⟩

set_option maxRecDepth 100000 in
set_option maxHeartbeats 4000000 in
theorem RL (L : List Rl) (gs : List Nat) (pp : List (Nat × Nat)) (A C : Option Addr) (kA kC : Nat) (f t : Nat) (k : Int)  (w : World) (hap : BJ f t = true) (hL : Rows w A 20 rlL L) (hcap : L.length ≤ kA) (hl5 : L.length ≤ 512) (hfo : Dq (CO L) f t k = none) : Calls Tryz.prog 34 #[.agg #[.slice A L.length kA, .slice C gs.length kC], .int .i64 1, .int .u8 (f : Int), .int .u8 (t : Int), .int .i64 (k)] w fun e w' => e = .returned (.tuple #[.agg #[.slice A L.length kA, .slice C gs.length kC], .agg #[.int .u8 0, .int .u8 0, .int .u8 0, .int .u64 0, .int .u8 0, .int .u64 0, .int .u64 0, .int .u8 0, .string ⟨[].toArray⟩, .slice none 0 0, .slice none 0 0, .int .u8 0, .int .u32 0, .int .u8 0, .string ⟨[].toArray⟩, .string ⟨[].toArray⟩, .string ⟨[].toArray⟩, .int .u8 0, .int .u8 0, .string ⟨[].toArray⟩], .int .i64 11]) ∧ Below w.heap.size w w' := by
 refine A0 (n := 75) _ Tryz.func34 rfl rfl rfl (Hp.start w) (Ae (Ac ?_))
 refine zB rfl fun g1 hg1 => ?_
 refine zA AC rfl fun g2 hg2 => ?_
 refine zA AI rfl fun g3 hg3 => ?_
 refine za rfl (Ad (Aa (Ae (Ae (Ac (zm rfl (zm rfl (Ao (v := .bool true) trivial rfl rfl (zk AX rfl) (fun w H => (Dj f t w).mono fun _ _ h => ⟨by rw [h.1, hap], h.2⟩) (zn false rfl ?_)))))))))
 refine Ad (Aa (Ah rfl (Ax (Aa (Ae (Ae (Ac (zm rfl (zc false rfl (by decide) ?_)))))))))
 refine zm rfl (zo rfl (zo rfl (zo rfl (zo rfl (zp rfl (Ad (Aa (Ah rfl (Ax ?_)))))))))
 refine Aa (Ae (Ac (zw 2 Tryz.underlying78 Af rfl (zm rfl (zm rfl (zm rfl (Ao (v := .int .i64 (-1)) trivial rfl rfl (zk Br rfl) (fun w H => HI L gs A C kA kC f t k w (hL.below (H.toBelow ⟨(zq hg3), (zq hg2), (zq hg1), trivial⟩)) hcap hl5 hfo) (za rfl (Ad ?_)))))))))
 refine Aa (Ae (Ae (Ac (zm rfl (zc true rfl (by decide) (Ad (Aa (Ap rfl (Ae ?_)))))))))
 refine Ac (zw 2 Tryz.underlying78 Af rfl (Ag trivial rfl rfl (fun ρ w E H => Bh (cs := [.int .u8 0, .int .u8 0, .int .u8 0, .int .u64 0, .int .u8 0, .int .u64 0, .int .u64 0, .int .u8 0, .string ⟨[].toArray⟩, .slice none 0 0, .slice none 0 0, .int .u8 0, .int .u32 0, .int .u8 0, .string ⟨[].toArray⟩, .string ⟨[].toArray⟩, .string ⟨[].toArray⟩, .int .u8 0, .int .u8 0, .string ⟨[].toArray⟩]) E rfl rfl (by kernel_rfl)) (zS 1 Af rfl (zS 0 Aj rfl (za rfl (Ad (Aa (Am (Ak ?_)))))))))
 refine Ai _ (fun a w K H => GF K [.agg #[.slice A L.length kA, .slice C gs.length kC], .agg #[.int .u8 0, .int .u8 0, .int .u8 0, .int .u64 0, .int .u8 0, .int .u64 0, .int .u64 0, .int .u8 0, .string ⟨[].toArray⟩, .slice none 0 0, .slice none 0 0, .int .u8 0, .int .u32 0, .int .u8 0, .string ⟨[].toArray⟩, .string ⟨[].toArray⟩, .string ⟨[].toArray⟩, .int .u8 0, .int .u8 0, .string ⟨[].toArray⟩], .int .i64 11] rfl rfl ⟨⟨_, rfl, AM (H.get (i := 1) rfl) Tryz.underlying78 rfl Af⟩, ⟨_, rfl, AM (H.get (i := 0) rfl) Tryz.underlying59 rfl Aj⟩, rfl, trivial⟩) (fun w H => ?_)
 exact ⟨rfl, H.toBelow ⟨(zq hg3), (zq hg2), (zq hg1), trivial⟩⟩

set_option maxRecDepth 100000 in
set_option maxHeartbeats 4000000 in
theorem RI (L : List Rl) (gs : List Nat) (pp : List (Nat × Nat)) (A C : Option Addr) (kA kC : Nat) (f t : Nat) (k : Int)  (w : World) (hap : BJ f t = true) (hL : Rows w A 20 rlL L) (hcap : L.length ≤ kA) (hl5 : L.length ≤ 512) (hfo : Dq (CO L) f t k = none) : Calls Tryz.prog 34 #[.agg #[.slice A L.length kA, .slice C gs.length kC], .int .i64 2, .int .u8 (f : Int), .int .u8 (t : Int), .int .i64 (k)] w fun e w' => e = .returned (.tuple #[.agg #[.slice A L.length kA, .slice C gs.length kC], .agg #[.int .u8 0, .int .u8 0, .int .u8 0, .int .u64 0, .int .u8 0, .int .u64 0, .int .u64 0, .int .u8 0, .string ⟨[].toArray⟩, .slice none 0 0, .slice none 0 0, .int .u8 0, .int .u32 0, .int .u8 0, .string ⟨[].toArray⟩, .string ⟨[].toArray⟩, .string ⟨[].toArray⟩, .int .u8 0, .int .u8 0, .string ⟨[].toArray⟩], .int .i64 11]) ∧ Below w.heap.size w w' := by
 refine A0 (n := 75) _ Tryz.func34 rfl rfl rfl (Hp.start w) (Ae (Ac ?_))
 refine zB rfl fun g1 hg1 => ?_
 refine zA AC rfl fun g2 hg2 => ?_
 refine zA AI rfl fun g3 hg3 => ?_
 refine za rfl (Ad (Aa (Ae (Ae (Ac (zm rfl (zm rfl (Ao (v := .bool true) trivial rfl rfl (zk AX rfl) (fun w H => (Dj f t w).mono fun _ _ h => ⟨by rw [h.1, hap], h.2⟩) (zn false rfl ?_)))))))))
 refine Ad (Aa (Ah rfl (Ax (Aa (Ae (Ae (Ac (zm rfl (zc false rfl (by decide) ?_)))))))))
 refine zm rfl (zo rfl (zo rfl (zo rfl (zo rfl (zp rfl (Ad (Aa (Ah rfl (Ax ?_)))))))))
 refine Aa (Ae (Ac (zw 2 Tryz.underlying78 Af rfl (zm rfl (zm rfl (zm rfl (Ao (v := .int .i64 (-1)) trivial rfl rfl (zk Br rfl) (fun w H => HI L gs A C kA kC f t k w (hL.below (H.toBelow ⟨(zq hg3), (zq hg2), (zq hg1), trivial⟩)) hcap hl5 hfo) (za rfl (Ad ?_)))))))))
 refine Aa (Ae (Ae (Ac (zm rfl (zc true rfl (by decide) (Ad (Aa (Ap rfl (Ae ?_)))))))))
 refine Ac (zw 2 Tryz.underlying78 Af rfl (Ag trivial rfl rfl (fun ρ w E H => Bh (cs := [.int .u8 0, .int .u8 0, .int .u8 0, .int .u64 0, .int .u8 0, .int .u64 0, .int .u64 0, .int .u8 0, .string ⟨[].toArray⟩, .slice none 0 0, .slice none 0 0, .int .u8 0, .int .u32 0, .int .u8 0, .string ⟨[].toArray⟩, .string ⟨[].toArray⟩, .string ⟨[].toArray⟩, .int .u8 0, .int .u8 0, .string ⟨[].toArray⟩]) E rfl rfl (by kernel_rfl)) (zS 1 Af rfl (zS 0 Aj rfl (za rfl (Ad (Aa (Am (Ak ?_)))))))))
 refine Ai _ (fun a w K H => GF K [.agg #[.slice A L.length kA, .slice C gs.length kC], .agg #[.int .u8 0, .int .u8 0, .int .u8 0, .int .u64 0, .int .u8 0, .int .u64 0, .int .u64 0, .int .u8 0, .string ⟨[].toArray⟩, .slice none 0 0, .slice none 0 0, .int .u8 0, .int .u32 0, .int .u8 0, .string ⟨[].toArray⟩, .string ⟨[].toArray⟩, .string ⟨[].toArray⟩, .int .u8 0, .int .u8 0, .string ⟨[].toArray⟩], .int .i64 11] rfl rfl ⟨⟨_, rfl, AM (H.get (i := 1) rfl) Tryz.underlying78 rfl Af⟩, ⟨_, rfl, AM (H.get (i := 0) rfl) Tryz.underlying59 rfl Aj⟩, rfl, trivial⟩) (fun w H => ?_)
 exact ⟨rfl, H.toBelow ⟨(zq hg3), (zq hg2), (zq hg1), trivial⟩⟩

set_option maxRecDepth 100000 in
set_option maxHeartbeats 4000000 in
theorem UC (L : List Rl) (gs : List Nat) (pp : List (Nat × Nat)) (A C : Option Addr) (kA kC : Nat) (f t : Nat) (k : Int) (i : Nat) (xs xd xka xkb : Nat) (xA xB : Option Addr) (mk mn mr mb ms mo ca cb ck cz mc : Nat) (mv cs ct cu mt : List UInt8) (vl : List Vo) (il : List Im)  (w : World) (hap : BJ f t = true) (hcu : GI pp f t = false) (hC : Rows w C 1 slL gs) (hI : InnerAt w gs pp) (hg5 : gs.length ≤ 100000) (hL : Rows w A 20 rlL L) (hcap : L.length ≤ kA) (hl5 : L.length ≤ 512) (hfo : Dq (CO L) f t k = some i) (hil : i < L.length) (hx : L[i]? = some (⟨xs, xd, ⟨mk, mn, mr, mb, ms, mo, mv, vl, il, ⟨ca, cb, ck, cs, ct, cu, cz⟩, mc, mt⟩, xA, xka, xB, xkb⟩ : Rl)) : Calls Tryz.prog 34 #[.agg #[.slice A L.length kA, .slice C gs.length kC], .int .i64 0, .int .u8 (f : Int), .int .u8 (t : Int), .int .i64 (k)] w fun e w' => ∃ v, e = .returned (.tuple #[.agg #[v, .slice C gs.length kC], .agg #[.int .u8 (xs : Int), .int .u8 (xd : Int), .int .u8 (mk : Int), .int .u64 (mn : Int), .int .u8 (mr : Int), .int .u64 (mb : Int), .int .u64 (ms : Int), .int .u8 (mo : Int), .string ⟨mv.toArray⟩, .slice xA vl.length xka, .slice xB il.length xkb, .int .u8 (ca : Int), .int .u32 (cb : Int), .int .u8 (ck : Int), .string ⟨cs.toArray⟩, .string ⟨ct.toArray⟩, .string ⟨cu.toArray⟩, .int .u8 (cz : Int), .int .u8 (mc : Int), .string ⟨mt.toArray⟩], .int .i64 0]) ∧ w'.ownsRow w.heap.size 59 20 v (L.eraseIdx i).length ((L.eraseIdx i).flatMap rlL) ∧ Below w.heap.size w w' := by
 refine A0 (n := 75) _ Tryz.func34 rfl rfl rfl (Hp.start w) (Ae (Ac ?_))
 refine zB rfl fun g1 hg1 => ?_
 refine zA AC rfl fun g2 hg2 => ?_
 refine zA AI rfl fun g3 hg3 => ?_
 refine za rfl (Ad (Aa (Ae (Ae (Ac (zm rfl (zm rfl (Ao (v := .bool true) trivial rfl rfl (zk AX rfl) (fun w H => (Dj f t w).mono fun _ _ h => ⟨by rw [h.1, hap], h.2⟩) (zn false rfl ?_)))))))))
 refine Ad (Aa (Ah rfl (Ax (Aa (Ae (Ae (Ac (zm rfl (zc true rfl (by decide) ?_)))))))))
 refine zm rfl (zw 2 Tryz.underlying78 Af rfl (zm rfl (zm rfl (Ao (v := .bool false) (gK rfl) rfl rfl (zk Ce rfl) (fun w H => (G9 L gs pp A C kA kC f t w (hC.below (H.toBelow ⟨(zq hg3), (zq hg2), (zq hg1), trivial⟩)) (hI.below (H.toBelow ⟨(zq hg3), (zq hg2), (zq hg1), trivial⟩)) hg5).mono fun _ _ h => ⟨by rw [h.1, hcu], h.2⟩) (zp rfl (Ad (Aa (Ah rfl (Ax ?_)))))))))
 refine Aa (Ae (Ac (zw 2 Tryz.underlying78 Af rfl (zm rfl (zm rfl (zm rfl (Ao (v := .int .i64 (i : Int)) trivial rfl rfl (zk Br rfl) (fun w H => GE L gs A C kA kC f t k w (hL.below (H.toBelow ⟨(zq hg3), (zq hg2), (zq hg1), trivial⟩)) hcap hl5 hfo) (za rfl (Ad ?_)))))))))
 refine Aa (Ae (Ae (Ac (zm rfl (zc false rfl (by simp [AB]) (Ad (Aa (Ah rfl (Ax ?_)))))))))
 refine Aa (Ae (Ae (Ac (zm rfl (zc true rfl (by decide) (Ad (Aa (Ap rfl (Ae ?_)))))))))
 obtain ⟨ad, hA, -, -⟩ := hL.row hx
 subst hA
 refine BN [] [2] (by kernel_rfl) rfl ⟨(zh hg3), (zh hg2), (zh hg1), trivial⟩ (yw 0 0 Tryz.underlying78 Af rfl (by kernel_rfl) zI (ym 1 rfl (by kernel_rfl) zI (yf 3 0 Ba rfl (by kernel_rfl) zI (yl 4 0 Tryz.underlying75 rfl (by kernel_rfl) zI (ym 5 rfl (by kernel_rfl) zI (yt (i := 6) (v := .pointer (some (ad.add (i * 20)))) (by kernel_rfl) zI rfl rfl rfl rfl (fun ρ w E H => BA (i := i) E rfl Tryz.underlying75 Aj rfl rfl hil) (yt (i := 7) (v := .agg #[.int .u8 (xs : Int), .int .u8 (xd : Int), .int .u8 (mk : Int), .int .u64 (mn : Int), .int .u8 (mr : Int), .int .u64 (mb : Int), .int .u64 (ms : Int), .int .u8 (mo : Int), .string ⟨mv.toArray⟩, .slice xA vl.length xka, .slice xB il.length xkb, .int .u8 (ca : Int), .int .u32 (cb : Int), .int .u8 (ck : Int), .string ⟨cs.toArray⟩, .string ⟨ct.toArray⟩, .string ⟨cu.toArray⟩, .int .u8 (cz : Int), .int .u8 (mc : Int), .string ⟨mt.toArray⟩]) (by kernel_rfl) zI rfl rfl rfl rfl (fun ρ w E H => C7 (cs := [.int .u8 (xs : Int), .int .u8 (xd : Int), .int .u8 (mk : Int), .int .u64 (mn : Int), .int .u8 (mr : Int), .int .u64 (mb : Int), .int .u64 (ms : Int), .int .u8 (mo : Int), .string ⟨mv.toArray⟩, .slice xA vl.length xka, .slice xB il.length xkb, .int .u8 (ca : Int), .int .u32 (cb : Int), .int .u8 (ck : Int), .string ⟨cs.toArray⟩, .string ⟨ct.toArray⟩, .string ⟨cu.toArray⟩, .int .u8 (cz : Int), .int .u8 (mc : Int), .string ⟨mt.toArray⟩]) E ((hL.below (H.os.below (Nat.le_refl _) (by simp))).rowA hx) rfl rfl Tryz.underlying59 rfl Aj) (yr 2 (by kernel_rfl) ?_))))))))
 refine G0 (σ := Option Addr × Nat) (fun s => .agg #[(.slice s.1 (L.eraseIdx i).length s.2), .slice C gs.length kC]) (fun s => OwnIn w [] (.slice s.1 (L.eraseIdx i).length s.2)) (fun s => _) rfl trivial rfl rfl (zk E5 rfl) (Q4 (fun s => .agg #[s, .slice C gs.length kC]) (fun W H => KX L gs (some ad) C kA kC i W (hL.below (H.toBelow ⟨(zq hg3), (zq hg2), (zq hg1), trivial⟩)) hcap hl5 hil)) (fun s w hvN H => H.ks [] [3] rfl ⟨(zj hvN.fresh), (zh hg3), (zh hg2), (zh hg1), trivial⟩) fun s hvN => ?_
 obtain ⟨AN, kN⟩ := s
 dsimp only at hvN
 refine yr 8 (by kernel_rfl) (Dk (j := 2) [.slice AN ((L.eraseIdx i).length) kN, .slice C gs.length kC] rfl trivial rfl rfl rfl rfl rfl Af rfl rfl rfl (DF _ _ rfl) (fun w H => H.ks [] [3] rfl ⟨(zj hvN.fresh), (zh hg3), (zh hg2), (zh hg1), trivial⟩) (yr 9 (by kernel_rfl) (Dk (j := 1) [.int .u8 (xs : Int), .int .u8 (xd : Int), .int .u8 (mk : Int), .int .u64 (mn : Int), .int .u8 (mr : Int), .int .u64 (mb : Int), .int .u64 (ms : Int), .int .u8 (mo : Int), .string ⟨mv.toArray⟩, .slice xA vl.length xka, .slice xB il.length xkb, .int .u8 (ca : Int), .int .u32 (cb : Int), .int .u8 (ck : Int), .string ⟨cs.toArray⟩, .string ⟨ct.toArray⟩, .string ⟨cu.toArray⟩, .int .u8 (cz : Int), .int .u8 (mc : Int), .string ⟨mt.toArray⟩] rfl trivial rfl rfl rfl rfl rfl Aj rfl rfl rfl (DF _ _ rfl) (fun w H => H.ks [] [3] rfl ⟨(zj hvN.fresh), (zh hg3), (zh hg2), (zh hg1), trivial⟩) (yA 10 rfl (by kernel_rfl) zI (BE (by kernel_rfl) (Aa (Am (Ak ?_))))))))
 refine Ai _ (fun a w K H => GF K [.agg #[.slice AN ((L.eraseIdx i).length) kN, .slice C gs.length kC], .agg #[.int .u8 (xs : Int), .int .u8 (xd : Int), .int .u8 (mk : Int), .int .u64 (mn : Int), .int .u8 (mr : Int), .int .u64 (mb : Int), .int .u64 (ms : Int), .int .u8 (mo : Int), .string ⟨mv.toArray⟩, .slice xA vl.length xka, .slice xB il.length xkb, .int .u8 (ca : Int), .int .u32 (cb : Int), .int .u8 (ck : Int), .string ⟨cs.toArray⟩, .string ⟨ct.toArray⟩, .string ⟨cu.toArray⟩, .int .u8 (cz : Int), .int .u8 (mc : Int), .string ⟨mt.toArray⟩], .int .i64 0] rfl rfl ⟨⟨_, rfl, AM (H.get (i := 2) rfl) Tryz.underlying78 rfl Af⟩, ⟨_, rfl, AM (H.get (i := 1) rfl) Tryz.underlying59 rfl Aj⟩, rfl, trivial⟩) (fun w H => ?_)
 exact ⟨_, rfl, H.get (i := 0) rfl, H.toBelow ⟨hvN.fresh, (zq hg3), (zq hg2), (zq hg1), trivial⟩⟩

set_option maxRecDepth 100000 in
set_option maxHeartbeats 4000000 in
theorem Wl (L : List Rl) (gs : List Nat) (pp : List (Nat × Nat)) (A C : Option Addr) (kA kC : Nat) (f t : Nat) (k : Int) (i : Nat)  (w : World) (hap : BJ f t = true) (hL : Rows w A 20 rlL L) (hcap : L.length ≤ kA) (hl5 : L.length ≤ 512) (hfo : Dq (CO L) f t k = some i) (hil : i < L.length) : Calls Tryz.prog 34 #[.agg #[.slice A L.length kA, .slice C gs.length kC], .int .i64 1, .int .u8 (f : Int), .int .u8 (t : Int), .int .i64 (k)] w fun e w' => ∃ v, e = .returned (.tuple #[.agg #[v, .slice C gs.length kC], .agg #[.int .u8 0, .int .u8 0, .int .u8 0, .int .u64 0, .int .u8 0, .int .u64 0, .int .u64 0, .int .u8 0, .string ⟨[].toArray⟩, .slice none 0 0, .slice none 0 0, .int .u8 0, .int .u32 0, .int .u8 0, .string ⟨[].toArray⟩, .string ⟨[].toArray⟩, .string ⟨[].toArray⟩, .int .u8 0, .int .u8 0, .string ⟨[].toArray⟩], .int .i64 0]) ∧ w'.ownsRow w.heap.size 59 20 v (L.eraseIdx i).length ((L.eraseIdx i).flatMap rlL) ∧ Below w.heap.size w w' := by
 refine A0 (n := 75) _ Tryz.func34 rfl rfl rfl (Hp.start w) (Ae (Ac ?_))
 refine zB rfl fun g1 hg1 => ?_
 refine zA AC rfl fun g2 hg2 => ?_
 refine zA AI rfl fun g3 hg3 => ?_
 refine za rfl (Ad (Aa (Ae (Ae (Ac (zm rfl (zm rfl (Ao (v := .bool true) trivial rfl rfl (zk AX rfl) (fun w H => (Dj f t w).mono fun _ _ h => ⟨by rw [h.1, hap], h.2⟩) (zn false rfl ?_)))))))))
 refine Ad (Aa (Ah rfl (Ax (Aa (Ae (Ae (Ac (zm rfl (zc false rfl (by decide) ?_)))))))))
 refine zm rfl (zo rfl (zo rfl (zo rfl (zo rfl (zp rfl (Ad (Aa (Ah rfl (Ax ?_)))))))))
 refine Aa (Ae (Ac (zw 2 Tryz.underlying78 Af rfl (zm rfl (zm rfl (zm rfl (Ao (v := .int .i64 (i : Int)) trivial rfl rfl (zk Br rfl) (fun w H => GE L gs A C kA kC f t k w (hL.below (H.toBelow ⟨(zq hg3), (zq hg2), (zq hg1), trivial⟩)) hcap hl5 hfo) (za rfl (Ad ?_)))))))))
 refine Aa (Ae (Ae (Ac (zm rfl (zc false rfl (by simp [AB]) (Ad (Aa (Ah rfl (Ax ?_)))))))))
 refine Aa (Ae (Ae (Ac (zm rfl (zc false rfl (by decide) (Ad (Aa (Ah rfl (Ax ?_)))))))))
 refine Aa (Ae (Ae (Ac (zm rfl (zc true rfl (by decide) (Ad (Aa (Ap rfl (Ae ?_)))))))))
 refine Ac (zw 2 Tryz.underlying78 Af rfl (zm rfl ?_))
 refine AP (σ := Option Addr × Nat) (fun s => .agg #[(.slice s.1 (L.eraseIdx i).length s.2), .slice C gs.length kC]) (fun s => OwnIn w [] (.slice s.1 (L.eraseIdx i).length s.2)) (fun s => _) trivial rfl rfl (zk E5 rfl) (Q4 (fun s => .agg #[s, .slice C gs.length kC]) (fun W H => KX L gs A C kA kC i W (hL.below (H.toBelow ⟨(zq hg3), (zq hg2), (zq hg1), trivial⟩)) hcap hl5 hil)) fun s hvN => ?_
 obtain ⟨AN, kN⟩ := s
 dsimp only at hvN
 refine Ag trivial rfl rfl (fun ρ w E H => Bh (cs := [.int .u8 0, .int .u8 0, .int .u8 0, .int .u64 0, .int .u8 0, .int .u64 0, .int .u64 0, .int .u8 0, .string ⟨[].toArray⟩, .slice none 0 0, .slice none 0 0, .int .u8 0, .int .u32 0, .int .u8 0, .string ⟨[].toArray⟩, .string ⟨[].toArray⟩, .string ⟨[].toArray⟩, .int .u8 0, .int .u8 0, .string ⟨[].toArray⟩]) E rfl rfl (by kernel_rfl)) (zS 2 Af rfl (zS 1 Aj rfl (za rfl (Ad (Aa (Am (Ak ?_)))))))
 refine Ai _ (fun a w K H => GF K [.agg #[.slice AN ((L.eraseIdx i).length) kN, .slice C gs.length kC], .agg #[.int .u8 0, .int .u8 0, .int .u8 0, .int .u64 0, .int .u8 0, .int .u64 0, .int .u64 0, .int .u8 0, .string ⟨[].toArray⟩, .slice none 0 0, .slice none 0 0, .int .u8 0, .int .u32 0, .int .u8 0, .string ⟨[].toArray⟩, .string ⟨[].toArray⟩, .string ⟨[].toArray⟩, .int .u8 0, .int .u8 0, .string ⟨[].toArray⟩], .int .i64 0] rfl rfl ⟨⟨_, rfl, AM (H.get (i := 2) rfl) Tryz.underlying78 rfl Af⟩, ⟨_, rfl, AM (H.get (i := 1) rfl) Tryz.underlying59 rfl Aj⟩, rfl, trivial⟩) (fun w H => ?_)
 exact ⟨_, rfl, H.get (i := 0) rfl, H.toBelow ⟨hvN.fresh, (zq hg3), (zq hg2), (zq hg1), trivial⟩⟩

set_option maxRecDepth 100000 in
set_option maxHeartbeats 4000000 in
theorem RJ (L : List Rl) (gs : List Nat) (pp : List (Nat × Nat)) (A C : Option Addr) (kA kC : Nat) (f t : Nat) (k : Int) (i : Nat)  (w : World) (hap : BJ f t = true) (hL : Rows w A 20 rlL L) (hcap : L.length ≤ kA) (hl5 : L.length ≤ 512) (hfo : Dq (CO L) f t k = some i) (hfu : L.length = 512) : Calls Tryz.prog 34 #[.agg #[.slice A L.length kA, .slice C gs.length kC], .int .i64 2, .int .u8 (f : Int), .int .u8 (t : Int), .int .i64 (k)] w fun e w' => e = .returned (.tuple #[.agg #[.slice A L.length kA, .slice C gs.length kC], .agg #[.int .u8 0, .int .u8 0, .int .u8 0, .int .u64 0, .int .u8 0, .int .u64 0, .int .u64 0, .int .u8 0, .string ⟨[].toArray⟩, .slice none 0 0, .slice none 0 0, .int .u8 0, .int .u32 0, .int .u8 0, .string ⟨[].toArray⟩, .string ⟨[].toArray⟩, .string ⟨[].toArray⟩, .int .u8 0, .int .u8 0, .string ⟨[].toArray⟩], .int .i64 7]) ∧ Below w.heap.size w w' := by
 refine A0 (n := 75) _ Tryz.func34 rfl rfl rfl (Hp.start w) (Ae (Ac ?_))
 refine zB rfl fun g1 hg1 => ?_
 refine zA AC rfl fun g2 hg2 => ?_
 refine zA AI rfl fun g3 hg3 => ?_
 refine za rfl (Ad (Aa (Ae (Ae (Ac (zm rfl (zm rfl (Ao (v := .bool true) trivial rfl rfl (zk AX rfl) (fun w H => (Dj f t w).mono fun _ _ h => ⟨by rw [h.1, hap], h.2⟩) (zn false rfl ?_)))))))))
 refine Ad (Aa (Ah rfl (Ax (Aa (Ae (Ae (Ac (zm rfl (zc false rfl (by decide) ?_)))))))))
 refine zm rfl (zo rfl (zo rfl (zo rfl (zo rfl (zp rfl (Ad (Aa (Ah rfl (Ax ?_)))))))))
 refine Aa (Ae (Ac (zw 2 Tryz.underlying78 Af rfl (zm rfl (zm rfl (zm rfl (Ao (v := .int .i64 (i : Int)) trivial rfl rfl (zk Br rfl) (fun w H => GE L gs A C kA kC f t k w (hL.below (H.toBelow ⟨(zq hg3), (zq hg2), (zq hg1), trivial⟩)) hcap hl5 hfo) (za rfl (Ad ?_)))))))))
 refine Aa (Ae (Ae (Ac (zm rfl (zc false rfl (by simp [AB]) (Ad (Aa (Ah rfl (Ax ?_)))))))))
 refine Aa (Ae (Ae (Ac (zm rfl (zc false rfl (by decide) (Ad (Aa (Ah rfl (Ax ?_)))))))))
 refine Aa (Ae (Ae (Ac (zm rfl (zc false rfl (by decide) (Ad (Aa (Ah rfl (Ax ?_)))))))))
 refine Aa (Ae (Ae (Ac (zf 0 Ba rfl (zl 2 Tryz.underlying75 rfl (zL Tryz.underlying75 rfl (zc true rfl (by simp [AB]; omega) (Ad (Aa ?_)))))))))
 refine Ap rfl (Ae (Ac (zw 2 Tryz.underlying78 Af rfl (Ag trivial rfl rfl (fun ρ w E H => Bh (cs := [.int .u8 0, .int .u8 0, .int .u8 0, .int .u64 0, .int .u8 0, .int .u64 0, .int .u64 0, .int .u8 0, .string ⟨[].toArray⟩, .slice none 0 0, .slice none 0 0, .int .u8 0, .int .u32 0, .int .u8 0, .string ⟨[].toArray⟩, .string ⟨[].toArray⟩, .string ⟨[].toArray⟩, .int .u8 0, .int .u8 0, .string ⟨[].toArray⟩]) E rfl rfl (by kernel_rfl)) (zS 1 Af rfl (zS 0 Aj rfl (za rfl (Ad (Aa ?_)))))))))
 refine Am (Ak ?_)
 refine Ai _ (fun a w K H => GF K [.agg #[.slice A L.length kA, .slice C gs.length kC], .agg #[.int .u8 0, .int .u8 0, .int .u8 0, .int .u64 0, .int .u8 0, .int .u64 0, .int .u64 0, .int .u8 0, .string ⟨[].toArray⟩, .slice none 0 0, .slice none 0 0, .int .u8 0, .int .u32 0, .int .u8 0, .string ⟨[].toArray⟩, .string ⟨[].toArray⟩, .string ⟨[].toArray⟩, .int .u8 0, .int .u8 0, .string ⟨[].toArray⟩], .int .i64 7] rfl rfl ⟨⟨_, rfl, AM (H.get (i := 1) rfl) Tryz.underlying78 rfl Af⟩, ⟨_, rfl, AM (H.get (i := 0) rfl) Tryz.underlying59 rfl Aj⟩, rfl, trivial⟩) (fun w H => ?_)
 exact ⟨rfl, H.toBelow ⟨(zq hg3), (zq hg2), (zq hg1), trivial⟩⟩

set_option maxRecDepth 100000 in
set_option maxHeartbeats 4000000 in
theorem U8 (L : List Rl) (gs : List Nat) (pp : List (Nat × Nat)) (A C : Option Addr) (kA kC : Nat) (f t : Nat) (k : Int) (i : Nat) (xs xd xka xkb : Nat) (xA xB : Option Addr) (mk mn mr mb ms mo ca cb ck cz mc : Nat) (mv cs ct cu mt : List UInt8) (vl : List Vo) (il : List Im)  (w : World) (hap : BJ f t = true) (hL : Rows w A 20 rlL L) (hcap : L.length ≤ kA) (hl5 : L.length ≤ 512) (hfo : Dq (CO L) f t k = some i) (hil : i < L.length) (hx : L[i]? = some (⟨xs, xd, ⟨mk, mn, mr, mb, ms, mo, mv, vl, il, ⟨ca, cb, ck, cs, ct, cu, cz⟩, mc, mt⟩, xA, xka, xB, xkb⟩ : Rl)) (hfu : L.length < 512) : Calls Tryz.prog 34 #[.agg #[.slice A L.length kA, .slice C gs.length kC], .int .i64 2, .int .u8 (f : Int), .int .u8 (t : Int), .int .i64 (k)] w fun e w' => ∃ v, e = .returned (.tuple #[.agg #[v, .slice C gs.length kC], .agg #[.int .u8 0, .int .u8 0, .int .u8 0, .int .u64 0, .int .u8 0, .int .u64 0, .int .u64 0, .int .u8 0, .string ⟨[].toArray⟩, .slice none 0 0, .slice none 0 0, .int .u8 0, .int .u32 0, .int .u8 0, .string ⟨[].toArray⟩, .string ⟨[].toArray⟩, .string ⟨[].toArray⟩, .int .u8 0, .int .u8 0, .string ⟨[].toArray⟩], .int .i64 0]) ∧ w'.ownsRow w.heap.size 59 20 v (L ++ [(⟨xs, xd, ⟨mk, mn, mr, mb, ms, mo, mv, vl, il, ⟨ca, cb, ck, cs, ct, cu, cz⟩, mc, mt⟩, xA, xka, xB, xkb⟩ : Rl)]).length ((L ++ [(⟨xs, xd, ⟨mk, mn, mr, mb, ms, mo, mv, vl, il, ⟨ca, cb, ck, cs, ct, cu, cz⟩, mc, mt⟩, xA, xka, xB, xkb⟩ : Rl)]).flatMap rlL) ∧ Below w.heap.size w w' := by
 have hnone := F3 w 0 0
 refine A0 (n := 75) _ Tryz.func34 rfl rfl rfl (Hp.start w) (Ae (Ac ?_))
 refine zB rfl fun g1 hg1 => ?_
 refine zA AC rfl fun g2 hg2 => ?_
 refine zA AI rfl fun g3 hg3 => ?_
 refine za rfl (Ad (Aa (Ae (Ae (Ac (zm rfl (zm rfl (Ao (v := .bool true) trivial rfl rfl (zk AX rfl) (fun w H => (Dj f t w).mono fun _ _ h => ⟨by rw [h.1, hap], h.2⟩) (zn false rfl ?_)))))))))
 refine Ad (Aa (Ah rfl (Ax (Aa (Ae (Ae (Ac (zm rfl (zc false rfl (by decide) ?_)))))))))
 refine zm rfl (zo rfl (zo rfl (zo rfl (zo rfl (zp rfl (Ad (Aa (Ah rfl (Ax ?_)))))))))
 refine Aa (Ae (Ac (zw 2 Tryz.underlying78 Af rfl (zm rfl (zm rfl (zm rfl (Ao (v := .int .i64 (i : Int)) trivial rfl rfl (zk Br rfl) (fun w H => GE L gs A C kA kC f t k w (hL.below (H.toBelow ⟨(zq hg3), (zq hg2), (zq hg1), trivial⟩)) hcap hl5 hfo) (za rfl (Ad ?_)))))))))
 refine Aa (Ae (Ae (Ac (zm rfl (zc false rfl (by simp [AB]) (Ad (Aa (Ah rfl (Ax ?_)))))))))
 refine Aa (Ae (Ae (Ac (zm rfl (zc false rfl (by decide) (Ad (Aa (Ah rfl (Ax ?_)))))))))
 refine Aa (Ae (Ae (Ac (zm rfl (zc false rfl (by decide) (Ad (Aa (Ah rfl (Ax ?_)))))))))
 refine Aa (Ae (Ae (Ac (zf 0 Ba rfl (zl 2 Tryz.underlying75 rfl (zL Tryz.underlying75 rfl (zc false rfl (by simp [AB]; omega) (Ad (Aa ?_)))))))))
 refine Ah rfl (Ax (Aa (Ae ?_)))
 obtain ⟨ad, hA, -, -⟩ := hL.row hx
 subst hA
 refine Ep (fun W H => H.nilRow 59 20) (BN [] [1, 3] (by kernel_rfl) rfl ⟨(zj hnone.fresh), (zh hg3), (zh hg2), (zh hg1), trivial⟩ (yf 0 0 Ba rfl (by kernel_rfl) zI (yl 1 1 Tryz.underlying75 rfl (by kernel_rfl) zI (yf 3 0 Ba rfl (by kernel_rfl) zI (yl 4 1 Tryz.underlying75 rfl (by kernel_rfl) zI (ym 5 rfl (by kernel_rfl) zI (yt (i := 6) (v := .pointer (some (ad.add (i * 20)))) (by kernel_rfl) zI rfl rfl rfl rfl (fun ρ w E H => BA (i := i) E rfl Tryz.underlying75 Aj rfl rfl hil) (yt (i := 7) (v := .agg #[.int .u8 (xs : Int), .int .u8 (xd : Int), .int .u8 (mk : Int), .int .u64 (mn : Int), .int .u8 (mr : Int), .int .u64 (mb : Int), .int .u64 (ms : Int), .int .u8 (mo : Int), .string ⟨mv.toArray⟩, .slice xA vl.length xka, .slice xB il.length xkb, .int .u8 (ca : Int), .int .u32 (cb : Int), .int .u8 (ck : Int), .string ⟨cs.toArray⟩, .string ⟨ct.toArray⟩, .string ⟨cu.toArray⟩, .int .u8 (cz : Int), .int .u8 (mc : Int), .string ⟨mt.toArray⟩]) (by kernel_rfl) zI rfl rfl rfl rfl (fun ρ w E H => C7 (cs := [.int .u8 (xs : Int), .int .u8 (xd : Int), .int .u8 (mk : Int), .int .u64 (mn : Int), .int .u8 (mr : Int), .int .u64 (mb : Int), .int .u64 (ms : Int), .int .u8 (mo : Int), .string ⟨mv.toArray⟩, .slice xA vl.length xka, .slice xB il.length xkb, .int .u8 (ca : Int), .int .u32 (cb : Int), .int .u8 (ck : Int), .string ⟨cs.toArray⟩, .string ⟨ct.toArray⟩, .string ⟨cu.toArray⟩, .int .u8 (cz : Int), .int .u8 (mc : Int), .string ⟨mt.toArray⟩]) E ((hL.below (H.os.below (Nat.le_refl _) (by simp))).rowA hx) rfl rfl Tryz.underlying59 rfl Aj) (yf 10 1 BV rfl (by kernel_rfl) zI ?_)))))))))
 refine yl 11 1 Tryz.underlying76 rfl (by kernel_rfl) zI (yt (i := 13) (by kernel_rfl) zI rfl rfl rfl rfl (fun ρ w E H => Bh (cs := [.int .u8 0, .int .u8 0, .int .u8 0, .int .u64 0, .int .u8 0, .int .u64 0, .int .u64 0, .int .u8 0, .string ⟨[].toArray⟩, .slice none 0 0, .slice none 0 0, .int .u8 0, .int .u32 0, .int .u8 0, .string ⟨[].toArray⟩, .string ⟨[].toArray⟩, .string ⟨[].toArray⟩, .int .u8 0, .int .u8 0, .string ⟨[].toArray⟩]) E rfl rfl (by kernel_rfl)) ?_)
 refine Ed [2, 8] (by kernel_rfl) (by simp) ⟨?_, ?_, trivial⟩
 ·refine BZ (i := 0) (news := L.flatMap rlL) rfl trivial rfl rfl rfl Tryz.underlying75 Ci rfl rfl rfl rfl hnone rfl (fun W H => ⟨_, En IY (by decide) (hL.below (H.toBelow ⟨hnone.fresh, (zq hg3), (zq hg2), (zq hg1), trivial⟩))⟩) (Sx.flat_one JO _) (by unfold maxLen; omega) (by omega) (Nat.le_refl _) (fun A63 k63 w hv63 H => H.ks [] [1, 3] rfl ⟨(zj hv63.fresh), (zh hg3), (zh hg2), (zh hg1), trivial⟩) fun A63 k63 hv63 => ?_
  refine yr 8 (by kernel_rfl) ?_
  refine Dc (cs := [.int .u8 (xs : Int), .int .u8 (xd : Int), .int .u8 (mk : Int), .int .u64 (mn : Int), .int .u8 (mr : Int), .int .u64 (mb : Int), .int .u64 (ms : Int), .int .u8 (mo : Int), .string ⟨mv.toArray⟩, .slice xA vl.length xka, .slice xB il.length xkb, .int .u8 (ca : Int), .int .u32 (cb : Int), .int .u8 (ck : Int), .string ⟨cs.toArray⟩, .string ⟨ct.toArray⟩, .string ⟨cu.toArray⟩, .int .u8 (cz : Int), .int .u8 (mc : Int), .string ⟨mt.toArray⟩]) rfl trivial rfl rfl (fun ρ w E H => AV E rfl rfl Tryz.underlying75 Aj AI rfl rfl (by kernel_rfl)) (fun g4 w hg4 H => H.ks [] [2, 4] rfl ⟨(zh hg4), (zj hv63.fresh), (zh hg3), (zh hg2), (zh hg1), trivial⟩) fun g4 hg4 => ?_
  refine yr 9 (by kernel_rfl) ?_
  refine BZ (i := 1) (news := [.int .u8 (xs : Int), .int .u8 (xd : Int), .int .u8 (mk : Int), .int .u64 (mn : Int), .int .u8 (mr : Int), .int .u64 (mb : Int), .int .u64 (ms : Int), .int .u8 (mo : Int), .string ⟨mv.toArray⟩, .slice xA vl.length xka, .slice xB il.length xkb, .int .u8 (ca : Int), .int .u32 (cb : Int), .int .u8 (ck : Int), .string ⟨cs.toArray⟩, .string ⟨ct.toArray⟩, .string ⟨cu.toArray⟩, .int .u8 (cz : Int), .int .u8 (mc : Int), .string ⟨mt.toArray⟩]) rfl trivial rfl rfl rfl Tryz.underlying75 Ci rfl rfl rfl rfl hv63 rfl (fun w H => CS H (i := 0) rfl rfl) (D4 rfl) (by unfold maxLen; omega) (by omega) (Nat.le_refl _) (fun A70 k70 w hv70 H => H.ks [] [2, 4] rfl ⟨(zh hg4), (zj hv70.fresh), (zh hg3), (zh hg2), (zh hg1), trivial⟩) fun A70 k70 hv70 => ?_
  refine yt (i := 12) (by kernel_rfl) zI rfl rfl rfl rfl (fun ρ w E H => Bh (cs := [.slice A70 (0 + L.length + 1) k70, .slice C gs.length kC]) E rfl rfl (by kernel_rfl)) (yr 14 (by kernel_rfl) (Dk (j := 3) [.slice A70 (0 + L.length + 1) k70, .slice C gs.length kC] rfl trivial rfl rfl rfl rfl rfl Af rfl rfl rfl (DF _ _ rfl) (fun w H => H.ks [] [2, 4] rfl ⟨(zh hg4), (zj hv70.fresh), (zh hg3), (zh hg2), (zh hg1), trivial⟩) (yr 15 (by kernel_rfl) (Dk (j := 2) [.int .u8 0, .int .u8 0, .int .u8 0, .int .u64 0, .int .u8 0, .int .u64 0, .int .u64 0, .int .u8 0, .string ⟨[].toArray⟩, .slice none 0 0, .slice none 0 0, .int .u8 0, .int .u32 0, .int .u8 0, .string ⟨[].toArray⟩, .string ⟨[].toArray⟩, .string ⟨[].toArray⟩, .int .u8 0, .int .u8 0, .string ⟨[].toArray⟩] rfl trivial rfl rfl rfl rfl rfl Aj rfl rfl rfl (DF _ _ rfl) (fun w H => H.ks [] [2, 4] rfl ⟨(zh hg4), (zj hv70.fresh), (zh hg3), (zh hg2), (zh hg1), trivial⟩) (yA 16 rfl (by kernel_rfl) zI (BE (by kernel_rfl) (Aa (Am ?_))))))))
  refine Ai _ (fun a w K H => GF K [.agg #[.slice A70 (0 + L.length + 1) k70, .slice C gs.length kC], .agg #[.int .u8 0, .int .u8 0, .int .u8 0, .int .u64 0, .int .u8 0, .int .u64 0, .int .u64 0, .int .u8 0, .string ⟨[].toArray⟩, .slice none 0 0, .slice none 0 0, .int .u8 0, .int .u32 0, .int .u8 0, .string ⟨[].toArray⟩, .string ⟨[].toArray⟩, .string ⟨[].toArray⟩, .int .u8 0, .int .u8 0, .string ⟨[].toArray⟩], .int .i64 0] rfl rfl ⟨⟨_, rfl, AM (H.get (i := 3) rfl) Tryz.underlying78 rfl Af⟩, ⟨_, rfl, AM (H.get (i := 2) rfl) Tryz.underlying59 rfl Aj⟩, rfl, trivial⟩) (fun w H => ?_)
  exact ⟨_, rfl, DI (H.get (i := 1) rfl) (by simp) (by simp [rlL, msL]), H.toBelow ⟨(zq hg4), hv70.fresh, (zq hg3), (zq hg2), (zq hg1), trivial⟩⟩
 ·refine Dc (cs := [.int .u8 (xs : Int), .int .u8 (xd : Int), .int .u8 (mk : Int), .int .u64 (mn : Int), .int .u8 (mr : Int), .int .u64 (mb : Int), .int .u64 (ms : Int), .int .u8 (mo : Int), .string ⟨mv.toArray⟩, .slice xA vl.length xka, .slice xB il.length xkb, .int .u8 (ca : Int), .int .u32 (cb : Int), .int .u8 (ck : Int), .string ⟨cs.toArray⟩, .string ⟨ct.toArray⟩, .string ⟨cu.toArray⟩, .int .u8 (cz : Int), .int .u8 (mc : Int), .string ⟨mt.toArray⟩]) rfl trivial rfl rfl (fun ρ w E H => AV E rfl rfl Tryz.underlying75 Aj AI rfl rfl (by kernel_rfl)) (fun g5 w hg5 H => H.ks [] [2, 4] rfl ⟨(zh hg5), (zj hnone.fresh), (zh hg3), (zh hg2), (zh hg1), trivial⟩) fun g5 hg5 => ?_
  refine yr 2 (by kernel_rfl) ?_
  refine BZ (i := 1) (news := L.flatMap rlL) rfl trivial rfl rfl rfl Tryz.underlying75 Ci rfl rfl rfl rfl hnone rfl (fun W H => ⟨_, En IY (by decide) (hL.below (H.toBelow ⟨(zq hg5), hnone.fresh, (zq hg3), (zq hg2), (zq hg1), trivial⟩))⟩) (Sx.flat_one JO _) (by unfold maxLen; omega) (by omega) (Nat.le_refl _) (fun A63 k63 w hv63 H => H.ks [] [2, 4] rfl ⟨(zh hg5), (zj hv63.fresh), (zh hg3), (zh hg2), (zh hg1), trivial⟩) fun A63 k63 hv63 => ?_
  refine yr 9 (by kernel_rfl) ?_
  refine BZ (i := 1) (news := [.int .u8 (xs : Int), .int .u8 (xd : Int), .int .u8 (mk : Int), .int .u64 (mn : Int), .int .u8 (mr : Int), .int .u64 (mb : Int), .int .u64 (ms : Int), .int .u8 (mo : Int), .string ⟨mv.toArray⟩, .slice xA vl.length xka, .slice xB il.length xkb, .int .u8 (ca : Int), .int .u32 (cb : Int), .int .u8 (ck : Int), .string ⟨cs.toArray⟩, .string ⟨ct.toArray⟩, .string ⟨cu.toArray⟩, .int .u8 (cz : Int), .int .u8 (mc : Int), .string ⟨mt.toArray⟩]) rfl trivial rfl rfl rfl Tryz.underlying75 Ci rfl rfl rfl rfl hv63 rfl (fun w H => CS H (i := 0) rfl rfl) (D4 rfl) (by unfold maxLen; omega) (by omega) (Nat.le_refl _) (fun A70 k70 w hv70 H => H.ks [] [2, 4] rfl ⟨(zh hg5), (zj hv70.fresh), (zh hg3), (zh hg2), (zh hg1), trivial⟩) fun A70 k70 hv70 => ?_
  refine yt (i := 12) (by kernel_rfl) zI rfl rfl rfl rfl (fun ρ w E H => Bh (cs := [.slice A70 (0 + L.length + 1) k70, .slice C gs.length kC]) E rfl rfl (by kernel_rfl)) (yr 14 (by kernel_rfl) (Dk (j := 3) [.slice A70 (0 + L.length + 1) k70, .slice C gs.length kC] rfl trivial rfl rfl rfl rfl rfl Af rfl rfl rfl (DF _ _ rfl) (fun w H => H.ks [] [2, 4] rfl ⟨(zh hg5), (zj hv70.fresh), (zh hg3), (zh hg2), (zh hg1), trivial⟩) (yr 15 (by kernel_rfl) (Dk (j := 2) [.int .u8 0, .int .u8 0, .int .u8 0, .int .u64 0, .int .u8 0, .int .u64 0, .int .u64 0, .int .u8 0, .string ⟨[].toArray⟩, .slice none 0 0, .slice none 0 0, .int .u8 0, .int .u32 0, .int .u8 0, .string ⟨[].toArray⟩, .string ⟨[].toArray⟩, .string ⟨[].toArray⟩, .int .u8 0, .int .u8 0, .string ⟨[].toArray⟩] rfl trivial rfl rfl rfl rfl rfl Aj rfl rfl rfl (DF _ _ rfl) (fun w H => H.ks [] [2, 4] rfl ⟨(zh hg5), (zj hv70.fresh), (zh hg3), (zh hg2), (zh hg1), trivial⟩) (yA 16 rfl (by kernel_rfl) zI (BE (by kernel_rfl) (Aa (Am ?_))))))))
  refine Ai _ (fun a w K H => GF K [.agg #[.slice A70 (0 + L.length + 1) k70, .slice C gs.length kC], .agg #[.int .u8 0, .int .u8 0, .int .u8 0, .int .u64 0, .int .u8 0, .int .u64 0, .int .u64 0, .int .u8 0, .string ⟨[].toArray⟩, .slice none 0 0, .slice none 0 0, .int .u8 0, .int .u32 0, .int .u8 0, .string ⟨[].toArray⟩, .string ⟨[].toArray⟩, .string ⟨[].toArray⟩, .int .u8 0, .int .u8 0, .string ⟨[].toArray⟩], .int .i64 0] rfl rfl ⟨⟨_, rfl, AM (H.get (i := 3) rfl) Tryz.underlying78 rfl Af⟩, ⟨_, rfl, AM (H.get (i := 2) rfl) Tryz.underlying59 rfl Aj⟩, rfl, trivial⟩) (fun w H => ?_)
  exact ⟨_, rfl, DI (H.get (i := 1) rfl) (by simp) (by simp [rlL, msL]), H.toBelow ⟨(zq hg5), hv70.fresh, (zq hg3), (zq hg2), (zq hg1), trivial⟩⟩
end Go.Proofs.YteiaiilfekojfaaGreat.Net
end
section
set_option linter.unusedVariables false
set_option linter.unusedSimpArgs false
namespace Go.Proofs.YteiaiilfekojfaaGreat.Msg
open Go.RowKit Wire

def Pt.ch : Pt → Nat
 | .cmd => 99
 | .name => 110
 | .reply => 114
 | .node => 111
 | .turn => 98
 | .floor => 97
 | .slot l => if l = 0 then 117 else 115
 | .value => 118
 | .votes => 116
 | .items => 105
def AO (k : Nat) : List UInt8 := (AK k).map fun p => UInt8.ofNat p.ch
def BK (s : List UInt8) (c : Nat) : Bool := s.any fun b => decide (b.toNat = c)
theorem Oi (k : Nat) (h : 14 ≤ k) : AK k = [] := by
 unfold AK
 repeat rw [if_neg (by omega)]
theorem O4 (k : Nat) (h : 14 ≤ k) : AO k = [] := by unfold AO; rw [Oi k h]; rfl
def Ha (hC hN : Bool) (c : Cmd.Cm) : Bool := (hC && !Cmd.mayB c) || (hN && (decide (3 < c.client) || (decide (c.seq < 1) || !decide (c = ⟨c.client, c.seq, 0, [], [], [], 0⟩)))) || (!hC && !hN && !decide (c = Cmd.cm0))
def NL (hR : Bool) (code : Nat) (text : List UInt8) : Bool := (hR && (decide (3 < code) || decide (64 < text.length))) || (!hR && !(decide (code = 0) && decide (text = [])))
def Jl (hO hB : Bool) (node n r : Nat) : Bool := decide (6 < node) || (!hO && decide (0 < node)) || (hB && !FD n r) || (!hB && !(decide (n = 0) && decide (r = 0)))
def Gz (hA hU hS : Bool) (base slot : Nat) : Bool := decide (4611686018427387904 < base) || decide (4611686018427387904 < slot) || (!hA && decide (0 < base)) || (!hU && !hS && decide (0 < slot)) || (hS && decide (slot < 1))
def JF (hV hT hI : Bool) (value : List UInt8) (nv ni : Nat) : Bool := (!hV && !decide (value = [])) || (!hT && decide (0 < nv)) || (hI != decide (0 < ni))
def Eb (m : Ms) : Bool :=
 let s := AO m.kind
 !decide (s = []) && !Ha (BK s 99) (BK s 110) m.cmd && !NL (BK s 114) m.code m.text && !Jl (BK s 111) (BK s 98) m.node m.bn m.br && !Gz (BK s 97) (BK s 117) (BK s 115) m.base m.slot
  && !JF (BK s 118) (BK s 116) (BK s 105) m.value m.votes.length m.items.length && ES 0 m.votes && F8 0 m.items
theorem KJ : AO 0 = [] ∧ AO 1 = [99] ∧ AO 2 = [110, 114] ∧ AO 3 = [110, 111] ∧ AO 4 = [98, 115] ∧ AO 5 = [98, 97, 117, 116] ∧ AO 6 = [98] ∧ AO 7 = [98, 115, 118] ∧ AO 8 = [98, 115] ∧ AO 9 = [105] ∧ AO 10 = [117] ∧ AO 11 = [98, 117] ∧ AO 12 = [115, 118] ∧ AO 13 = [97, 115, 118] := by decide
theorem YP {α : Type} (l : List α) : (0 < l.length) ↔ l ≠ [] := List.length_pos_iff
theorem EN (m : Ms) : Eb m = C9 m := by
 obtain ⟨mk, mn, mr, mb, ms, mo, mv, vl, il, cm, mc, mt⟩ := m
 obtain ⟨k0, k1, k2, k3, k4, k5, k6, k7, k8, k9, k10, k11, k12, k13⟩ := KJ
 have p1 : AK 1 = [.cmd] := rfl
 have p2 : AK 2 = [.name, .reply] := rfl
 have p3 : AK 3 = [.name, .node] := rfl
 have p4 : AK 4 = [.turn, .slot 1] := rfl
 have p5 : AK 5 = [.turn, .floor, .slot 0, .votes] := rfl
 have p6 : AK 6 = [.turn] := rfl
 have p7 : AK 7 = [.turn, .slot 1, .value] := rfl
 have p8 : AK 8 = [.turn, .slot 1] := rfl
 have p9 : AK 9 = [.items] := rfl
 have p10 : AK 10 = [.slot 0] := rfl
 have p11 : AK 11 = [.turn, .slot 0] := rfl
 have p12 : AK 12 = [.slot 1, .value] := rfl
 have p13 : AK 13 = [.floor, .slot 1, .value] := rfl
 rcases Nat.lt_or_ge mk 14 with h | h
 ·have hk : mk = 0 ∨ mk = 1 ∨ mk = 2 ∨ mk = 3 ∨ mk = 4 ∨ mk = 5 ∨ mk = 6 ∨ mk = 7 ∨ mk = 8 ∨ mk = 9 ∨ mk = 10 ∨ mk = 11 ∨ mk = 12 ∨ mk = 13 := by omega
  rcases hk with rfl | rfl | rfl | rfl | rfl | rfl | rfl | rfl | rfl | rfl | rfl | rfl | rfl | rfl
  ·rfl
  all_goals (
   simp only [Eb, C9, M9, ms0, *, Pt.may, Pt.move, List.foldl, List.all_cons, List.all_nil, List.isEmpty, BK, List.any_cons, List.any_nil, Ms.mk.injEq]
   apply Bool.eq_iff_iff.2
   simp [Ha, NL, Jl, Gz, JF, YP]
   grind [ES, F8, Cmd.cm0])
 ·have hp := Oi mk h
  simp [Eb, C9, AO, hp]
end Go.Proofs.YteiaiilfekojfaaGreat.Msg
end
section
set_option linter.unusedVariables false
set_option linter.unusedSimpArgs false
namespace Go.Proofs.YteiaiilfekojfaaGreat.Msg
open Go.RowKit Sx Wire DrawInv
theorem Rh (k : Nat) (h : k < 14) : ([.string ⟨[].toArray⟩, .string ⟨[99].toArray⟩, .string ⟨[110, 114].toArray⟩, .string ⟨[110, 111].toArray⟩, .string ⟨[98, 115].toArray⟩, .string ⟨[98, 97, 117, 116].toArray⟩, .string ⟨[98].toArray⟩, .string ⟨[98, 115, 118].toArray⟩, .string ⟨[98, 115].toArray⟩, .string ⟨[105].toArray⟩, .string ⟨[117].toArray⟩, .string ⟨[98, 117].toArray⟩, .string ⟨[115, 118].toArray⟩, .string ⟨[97, 115, 118].toArray⟩] : List Value)[k]? = some (.string ⟨(AO k).toArray⟩) := by
 obtain ⟨k0, k1, k2, k3, k4, k5, k6, k7, k8, k9, k10, k11, k12, k13⟩ := KJ
 have hk : k = 0 ∨ k = 1 ∨ k = 2 ∨ k = 3 ∨ k = 4 ∨ k = 5 ∨ k = 6 ∨ k = 7 ∨ k = 8 ∨ k = 9 ∨ k = 10 ∨ k = 11 ∨ k = 12 ∨ k = 13 := by omega
 rcases hk with rfl | rfl | rfl | rfl | rfl | rfl | rfl | rfl | rfl | rfl | rfl | rfl | rfl | rfl
 ·rw [k0]; rfl
 ·rw [k1]; rfl
 ·rw [k2]; rfl
 ·rw [k3]; rfl
 ·rw [k4]; rfl
 ·rw [k5]; rfl
 ·rw [k6]; rfl
 ·rw [k7]; rfl
 ·rw [k8]; rfl
 ·rw [k9]; rfl
 ·rw [k10]; rfl
 ·rw [k11]; rfl
 ·rw [k12]; rfl
 ·rw [k13]; rfl
theorem Yz {w : World} {g t k : Nat} {cs : List Value} {v : Value} (h : Blk w g t cs.toArray) (hv : cs[k]? = some v) : RowAt w ((⟨g, 0, none⟩ : Addr).add (k * 1)) [v] := fun j u hu => by
 have hj : j = 0 := by have := (List.getElem?_eq_some_iff.1 hu).1; simp at this; omega
 subst hj
 obtain rfl : v = u := by simpa using hu
 rw [Gj, Gj, Nat.zero_add, Nat.mul_one, Nat.add_zero, h.cell k]
 simpa using hv
theorem DV (k : Nat) : (AO k).length ≤ 4 := by
 rcases Nat.lt_or_ge k 14 with h | h
 ·obtain ⟨k0, k1, k2, k3, k4, k5, k6, k7, k8, k9, k10, k11, k12, k13⟩ := KJ
  have hk : k = 0 ∨ k = 1 ∨ k = 2 ∨ k = 3 ∨ k = 4 ∨ k = 5 ∨ k = 6 ∨ k = 7 ∨ k = 8 ∨ k = 9 ∨ k = 10 ∨ k = 11 ∨ k = 12 ∨ k = 13 := by omega
  rcases hk with rfl | rfl | rfl | rfl | rfl | rfl | rfl | rfl | rfl | rfl | rfl | rfl | rfl | rfl <;> decide
 ·rw [O4 k h]; simp
theorem VT (l : List UInt8) (b : UInt8) (c : Nat) : BK (l ++ [b]) c = (BK l c || decide (b.toNat = c)) := by simp [BK]
theorem Xn {l : List UInt8} {k c : Nat} {b : UInt8} (h : l[k]? = some b) (hc : b.toNat = c) : BK l c = true := List.any_eq_true.2 ⟨b, List.mem_of_getElem? h, by simpa using hc⟩
theorem X6 {k i : Nat} {p : Pt} (h : (AK k)[i]? = some p) : (AO k)[i]? = some (UInt8.ofNat p.ch) := by unfold AO; rw [List.getElem?_map, h]; rfl

set_option maxRecDepth 100000 in
set_option maxHeartbeats 4000000 in
theorem KB (k : Nat) (hk : k < 256)  (w : World) : Calls Tryz.prog 47 #[.int .u8 (k : Int)] w fun e w' => e = .returned (.string ⟨(AO k).toArray⟩) ∧ Below w.heap.size w w' := by
 refine A0 (n := 14) _ Tryz.func47 rfl rfl rfl (Hp.start w) (Ae (Ac (za rfl (Ad (Aa (Ae (Ac ?_)))))))
 refine Dx (cs := [.string ⟨[].toArray⟩, .string ⟨[99].toArray⟩, .string ⟨[110, 114].toArray⟩, .string ⟨[110, 111].toArray⟩, .string ⟨[98, 115].toArray⟩, .string ⟨[98, 97, 117, 116].toArray⟩, .string ⟨[98].toArray⟩, .string ⟨[98, 115, 118].toArray⟩, .string ⟨[98, 115].toArray⟩, .string ⟨[105].toArray⟩, .string ⟨[117].toArray⟩, .string ⟨[98, 117].toArray⟩, .string ⟨[115, 118].toArray⟩, .string ⟨[97, 115, 118].toArray⟩]) trivial rfl rfl (fun ρ w E H => AV E rfl rfl Tryz.underlying151 G8 Tz rfl rfl (by kernel_rfl)) fun g1 hg1 => ?_
 refine za rfl (Ad (Aa (Ae (Ae (Ac (zm rfl (Ag (v := .int .i64 (k : Int)) trivial rfl rfl (fun ρ w E H => DN E rfl Tryz.underlying5 Tryz.underlying3 rfl (by rw [IntKind.wrap_i64]; omega)) (zm rfl (zL Tryz.underlying151 rfl ?_)))))))))
 refine zb rfl fun c9 hc9 => ?_
 refine Ad (Aa ?_)
 cases c9
 ·refine Ah rfl (Ax (Aa (Ae ?_)))
  have hk14 : k < 14 := by have h := hc9; simp [AB] at h; omega
  have hck := Rh k hk14
  refine Ac (zm rfl (zm rfl (Ag (v := .pointer (some ((⟨g1, 0, none⟩ : Addr).add (k * 1)))) trivial rfl rfl (fun ρ w E H => BA (i := k) E rfl Tryz.underlying151 G8 rfl rfl hk14) (Ag (v := .string ⟨((AO k)).toArray⟩) trivial rfl rfl (fun ρ w E H => Em E (Yz (H.get (i := 0) rfl) hck) rfl rfl rfl Tryz.underlying9 rfl) (za rfl (Ad (Aa (Am ?_))))))))
  refine Ai (.string ⟨((AO k)).toArray⟩) (fun a w K H => BC K rfl rfl) (fun w H => ?_)
  exact ⟨rfl, H.toBelow ⟨(zq hg1), trivial⟩⟩
 ·refine Ap rfl (Ae (Ac (za rfl (Ad (Aa (Am (Ak ?_)))))))
  refine Ai (.string ⟨[].toArray⟩) (fun a w K H => BC K rfl rfl) (fun w H => ?_)
  have hq : AO k = [] := O4 k (by have h := hc9; simp [AB] at h; omega)
  exact ⟨by rw [hq], H.toBelow ⟨(zq hg1), trivial⟩⟩

set_option maxRecDepth 100000 in
set_option maxHeartbeats 4000000 in
theorem Cb (k c : Nat) (hk : k < 256)  (w : World) : Calls Tryz.prog 48 #[.int .u8 (k : Int), .int .u8 (c : Int)] w fun e w' => e = .returned (.bool (BK (AO k) c)) ∧ Below w.heap.size w w' := by
 refine A0 (n := 20) _ Tryz.func48 rfl rfl rfl (Hp.start w) (Ae (Ac (za rfl (Ad (Aa (Ae (Ac (zm rfl (Ao (v := .string ⟨((AO k)).toArray⟩) trivial rfl rfl (zk Eh rfl) (fun w H => KB k hk w) ?_)))))))))
 refine za rfl (Ad (Aa (Ae (Ae (Ac (za rfl (Ad (Aa (AG ?_)))))))))
 refine Ff (fun (i : Nat) => [(1, .int .u8 (c : Int)), (5, .string ⟨((AO k)).toArray⟩), (6, .int .i64 (i : Int))]) (fun (i : Nat) => []) (fun (gk : Nat) (i : Nat) => i + gk = (AO k).length ∧ BK ((AO k).take i) c = false) (AO k).length 0 ⟨by omega, rfl⟩ ⟨rfl, rfl, rfl, trivial⟩ [] rfl (by decide) trivial fun gk i hF => ?_
 obtain ⟨hkg, hrel⟩ := hF
 refine Ae (Ae (Ac (zm rfl (zm rfl (Ag (v := .int .i64 ((AO k).length : Int)) trivial rfl rfl (fun ρ w E H => FT E rfl Tryz.underlying9 rfl) ?_)))))
 refine zb rfl fun c12 hc12 => ?_
 refine Ad (Aa ?_)
 cases c12
 ·refine Ah rfl (Cd (AW (AW (BH (Aa (Ae (Ac (za rfl (Ad ?_)))))))))
  refine Aa (Am ?_)
  refine Ai (.bool false) (fun a w K H => BC K rfl rfl) (fun w H => ?_)
  have hq : BK (AO k) c = false := by rw [List.take_of_length_le (by have h := hc12; simp [AB] at h; omega)] at hrel; exact hrel
  exact ⟨by rw [hq], H.toBelow trivial⟩
 ·refine Ap rfl (Ax (Aa (Ae (AG (Ae ?_)))))
  have hkl : i < (AO k).length := by have h := hc12; simp [AB] at h; omega
  obtain ⟨b, hb⟩ : ∃ b, (AO k)[i]? = some b := ⟨_, List.getElem?_eq_getElem hkl⟩
  refine Ac (zm rfl (zm rfl (Ag (v := .int .u8 (b.toNat : Int)) trivial rfl rfl (fun ρ w E H => EM (n := i) (b := b) E rfl Tryz.underlying9 rfl rfl hb rfl) (zm rfl ?_))))
  refine zb rfl fun c19 hc19 => ?_
  refine Ad (Aa ?_)
  cases c19
  ·refine Ah rfl (Ax (AA (Aa (Ac (zm rfl (Ag (v := .int .i64 ((i + 1 : Nat) : Int)) trivial rfl rfl (fun ρ w E H => BQ E rfl rfl rfl (by have h := DV k; rw [IntKind.wrap_i64]; omega)) (za rfl (Ad ?_))))))))
   refine B7 (gk - 1) (i + 1) (by omega) ⟨by omega, by rw [D1 hb, VT, hrel]; have h := hc19; simp [AB] at h ⊢; omega⟩ ⟨rfl, rfl, rfl, trivial⟩ [] rfl (by decide) trivial
  ·refine Ap rfl (Ae (Ac (za rfl (Ad (Aa (Am (AU (Ak (Ak ?_)))))))))
   refine AU (Ak ?_)
   refine Ai (.bool true) (fun a w K H => BC K rfl rfl) (fun w H => ?_)
   have hq : BK (AO k) c = true := Xn hb (by have h := hc19; simp [AB] at h; omega)
   exact ⟨by rw [hq], H.toBelow trivial⟩

set_option maxRecDepth 100000 in
set_option maxHeartbeats 4000000 in
theorem LI (n r : Nat)  (w : World) : Calls Tryz.prog 50 #[.agg #[.int .u64 (n : Int), .int .u8 (r : Int)]] w fun e w' => e = .returned (.bool (FD n r)) ∧ Below w.heap.size w w' := by
 refine A0 (n := 10) _ Tryz.func50 rfl rfl rfl (Hp.start w) (Ae (Ac ?_))
 refine zB rfl fun g1 hg1 => ?_
 refine za rfl (Ad (Aa (Ae (Ac (zf 0 IM rfl (zl 0 Tryz.underlying22 rfl ?_))))))
 refine zb rfl fun c5 hc5 => ?_
 refine zm rfl ?_
 cases c5
 ·refine zo rfl (zo rfl (zp rfl (za rfl (Ad (Aa (Am ?_))))))
  refine Ai (.bool false) (fun a w K H => BC K rfl rfl) (fun w H => ?_)
  have hq : false = FD n r := by clear H; first | rfl | grind [AB, FD]
  exact ⟨by rw [hq], H.toBelow ⟨(zq hg1), trivial⟩⟩
 ·refine zw 0 Tryz.underlying24 Bi rfl ?_
  refine CN (b := (Bal.mayB ⟨n, r⟩)) (gK rfl) rfl rfl (zk Hy rfl) (fun w H => (Bal.may_any ⟨n, r⟩ w).mono fun _ _ h => ⟨h.1, h.2.below⟩) fun c8 hc8 => ?_
  refine zp rfl (za rfl (Ad (Aa (Am ?_))))
  refine Ai (.bool c8) (fun a w K H => BC K rfl rfl) (fun w H => ?_)
  have hq : c8 = FD n r := by clear H; first | rfl | grind [AB, FD]
  exact ⟨by rw [hq], H.toBelow ⟨(zq hg1), trivial⟩⟩
end Go.Proofs.YteiaiilfekojfaaGreat.Msg
end
section
namespace Go.Proofs.YteiaiilfekojfaaGreat.Cmd
open Go.RowKit Wire

def longB (c : Cm) : Bool := decide (300 < c.key.length ∨ 300 < c.old.length ∨ 300 < c.new.length)
def greatB (l : List Cm) : Bool := decide (100 < l.length) || l.any longB
def XJ (l : List Cm) (w : World) (gk : Nat) (vc : Value) (wr : World) : Prop :=
 ∃ k : Nat, k + gk = l.length ∧ vc = .int .i64 (k : Int) ∧ Hid ((l.take k).any longB = false) ∧ Below w.heap.size w wr
set_option maxRecDepth 100000 in
set_option maxHeartbeats 4000000 in
theorem great_any (l : List Cm) (hl : l.length ≤ 9223372036854775807) (A : Option Addr) (c : Nat) (w : World) (hA : Rows w A 7 cmL l) :
  Calls Tryz.prog 42 #[.slice A l.length c] w fun e w' => e = .returned (.bool (greatB l)) ∧ Below w.heap.size w w' := by
 obtain ⟨b, hb⟩ : ∃ b, b = greatB l := ⟨_, rfl⟩
 rw [← hb]
 unfold greatB at hb
 have HB := Lib.hid hb
 clear hb
 by_cases hne : 100 < l.length
 ·have e1 : (100 : Int) < (l.length : Int) := by omega
  have hbf : b = true := HB.out.trans (by rw [decide_eq_true hne]; rfl)
  subst hbf
  clear hne HB
  go_enter Tryz.func42, Tryz.ntmps42
  go_wp2
  go_ret
  exact ⟨rfl, Below.refl _ _⟩
 ·have e1 : ¬ (100 : Int) < (l.length : Int) := by omega
  have hb2 : b = l.any longB := HB.out.trans (by rw [decide_eq_false hne]; rfl)
  have HB2 := Lib.hid hb2
  clear hne HB hb2
  go_enter Tryz.func42, Tryz.ntmps42
  go_wp2_with fail
  go_loopg [3] l.length (fun gk i wr => XJ l w gk i wr)
  case atStart => exact ⟨0, by omega, rfl, rfl, Below.refl _ _⟩
  case round =>
   obtain ⟨k, hk, rfl, hT, bw⟩ := hrel
   by_cases h4 : k < l.length
   ·have hk4 : (k : Int) < (l.length : Int) := by omega
    obtain ⟨x, hx⟩ : ∃ x, l[k]? = some x := ⟨_, List.getElem?_eq_getElem h4⟩
    obtain ⟨ad, rfl, hadl, a0, a1⟩ := hA.at_ hx
    obtain ⟨xa, xb, xk, xs, xt, xu, xz⟩ := x
    have a3 : wr.cell? { block := (ad.add (k * 7)).block, off := (ad.add (k * 7)).off + 3 } = some (.string ⟨xs.toArray⟩) := (bw.cell (by show (ad.add (k * 7)).block < _; rw [Dw]; exact hadl)).trans (a1 2 _ rfl)
    have a4 : wr.cell? { block := (ad.add (k * 7)).block, off := (ad.add (k * 7)).off + 4 } = some (.string ⟨xt.toArray⟩) := (bw.cell (by show (ad.add (k * 7)).block < _; rw [Dw]; exact hadl)).trans (a1 3 _ rfl)
    have a5 : wr.cell? { block := (ad.add (k * 7)).block, off := (ad.add (k * 7)).off + 5 } = some (.string ⟨xu.toArray⟩) := (bw.cell (by show (ad.add (k * 7)).block < _; rw [Dw]; exact hadl)).trans (a1 4 _ rfl)
    have s3 := size_str xs
    have s4 := size_str xt
    have s5 := size_str xu
    clear a0 a1
    by_cases hg : 300 < xs.length ∨ 300 < xt.length ∨ 300 < xu.length
    ·have hbt : b = true := HB2.out.trans (List.any_eq_true.2 ⟨_, List.mem_of_getElem? hx, decide_eq_true hg⟩)
     subst hbt
     clear HB2 hx
     by_cases q3 : (300 : Int) < (xs.length : Int)
     ·clear hg
      go_wp2_with fail
      go_ret
      exact ⟨rfl, bw⟩
     by_cases q4 : (300 : Int) < (xt.length : Int)
     ·clear hg
      go_wp2_with fail
      go_ret
      exact ⟨rfl, bw⟩
     have q5 : (300 : Int) < (xu.length : Int) := by omega
     clear hg
     go_wp2_with fail
     go_ret
     exact ⟨rfl, bw⟩
    ·have q3 : ¬ (300 : Int) < (xs.length : Int) := by omega
     have q4 : ¬ (300 : Int) < (xt.length : Int) := by omega
     have q5 : ¬ (300 : Int) < (xu.length : Int) := by omega
     have HT2 : Hid ((l.take (k + 1)).any longB = false) := by
      have hlx : longB ⟨xa, xb, xk, xs, xt, xu, xz⟩ = false := decide_eq_false hg
      show _ = _
      rw [List.take_add_one, hx, List.any_append, hT.out]
      simp [hlx]
     clear hg hx
     go_wp2_with fail
     go_roundg (l.length - (k + 1))
     case measure => omega
     case rel => exact ⟨k + 1, by omega, by go_num, HT2, bw⟩
   ·have hk4 : ¬ (k : Int) < (l.length : Int) := by omega
    have hbt : b = false := by
     have h := hT.out
     rw [List.take_of_length_le (by omega)] at h
     exact HB2.out.trans h
    subst hbt
    go_wp2_with fail
    go_ret
    exact ⟨rfl, bw⟩
end Go.Proofs.YteiaiilfekojfaaGreat.Cmd
end
section
set_option linter.unusedVariables false
set_option linter.unusedSimpArgs false
namespace Go.Proofs.YteiaiilfekojfaaGreat.Net
open Go Go.RowKit Bal

def Rk (a b : Nat × Nat) : Int := if JC a.1 b.1 ≠ 0 then JC a.1 b.1 else JC a.2 b.2
set_option maxHeartbeats 1000000 in
theorem Uf (a1 a2 b1 b2 : Nat) (w : World) : Calls Tryz.prog 69 #[.agg #[.int .u8 (a1 : Int), .int .u8 (a2 : Int)], .agg #[.int .u8 (b1 : Int), .int .u8 (b2 : Int)]] w fun e w' => e = .returned (.int .i64 (Rk (a1, a2) (b1, b2))) ∧ Al3 w w' := by
 have H := Lib.hid (show Rk (a1, a2) (b1, b2) = if JC a1 b1 ≠ 0 then JC a1 b1 else JC a2 b2 from rfl)
 go_enter Tryz.func69, Tryz.ntmps69
 go_wp2_with fail
 go_region_held3 (fun W : World => W.cell? ⟨w.heap.size, 0, none⟩ = some (.int .u8 (a1 : Int)) ∧ W.cell? ⟨w.heap.size, 1, none⟩ = some (.int .u8 (a2 : Int)) ∧ W.cell? ⟨w.heap.size + 1, 0, none⟩ = some (.int .u8 (b1 : Int)) ∧ W.cell? ⟨w.heap.size + 1, 1, none⟩ = some (.int .u8 (b2 : Int))) (go_keep) (first
  | (go_at_call 71; refine (YQ _ _ _).mono ?_; rintro e w' ⟨rfl, rfl⟩)
  | (go_at_call 70; refine (or2 _ _ _ _ (Tf _ _ _ _ _ _).1 (Tf _ _ _ _ _ _).2).mono ?_; rintro e w' ⟨rfl, hw⟩; rw [← H.out]; subst hw))
 all_goals (go_wp2; go_ret; exact ⟨rfl, _, _, _, rfl⟩)
end Go.Proofs.YteiaiilfekojfaaGreat.Net
end
section
set_option linter.unusedVariables false
set_option linter.unusedSimpArgs false
namespace Go.Proofs.YteiaiilfekojfaaGreat.Net
open Go.RowKit Go.Shelf Go.Sort Sx Bal
theorem N7 : ∀ (l : List (Nat × Nat)) (t : Nat), t < l.length * 2 → (l.flatMap prL)[t]? = some ((prL l.toArray[t / 2]!)[t % 2]!)
 | [], t, h => by simp at h
 | a :: l, t, h => by
  rw [List.flatMap_cons]
  by_cases h0 : t < 2
  ·rw [List.getElem?_append_left (by rw [Fo]; exact h0), Nat.div_eq_of_lt h0, Nat.mod_eq_of_lt h0]
   have e : (a :: l).toArray[0]! = a := rfl
   rw [e]
   rcases (show t = 0 ∨ t = 1 by omega) with rfl | rfl <;> rfl
  ·obtain ⟨s, rfl⟩ : ∃ s, t = s + 2 := ⟨t - 2, by omega⟩
   rw [List.length_cons] at h
   have ih := N7 l s (by omega)
   rw [List.getElem?_append_right (by rw [Fo]; omega), Fo, Nat.add_sub_cancel, ih, Nat.add_mod_right, Nat.add_div_right _ (by decide)]
   have e : (a :: l).toArray[s / 2 + 1]! = l.toArray[s / 2]! := by simp
   rw [e]
theorem RB (l : List (Nat × Nat)) : (flatK prL 2 l.toArray).toList = l.flatMap prL := by
 have h1 : (flatK prL 2 l.toArray).size = l.length * 2 := by rw [size_flatK]; simp
 refine List.ext_getElem? fun t => ?_
 by_cases h : t < l.length * 2
 ·rw [N7 l t h, Array.getElem?_toList, Array.getElem?_eq_getElem (by rw [h1]; exact h), ← getElem!_pos _ t (by rw [h1]; exact h), get_flatK _ _ _ _ (by simpa using h)]
 ·rw [List.getElem?_eq_none (by rw [Array.length_toList, h1]; omega), List.getElem?_eq_none (by rw [Sx.flat_len Fo]; omega)]
theorem U3 {w : World} {base g n c : Nat} {e : TypeId} {l : List (Nat × Nat)} (h : w.ownsRow base e 2 (.slice (some ⟨g, 0, none⟩) n c) l.length (l.flatMap prL)) : HoldsK prL 2 w g 0 l.toArray := by
 rcases h.2 with ⟨h0, _⟩ | ⟨g', cap, cur, ev, hb, hh, hc1, hc2, hc3, hc4⟩
 ·cases h0
 ·injection ev with e1 e2 e3
  cases e1
  intro j hj
  rw [size_flatK, List.size_toArray] at hj
  have hle : l.length * 2 ≤ cap * 2 := Nat.mul_le_mul_right _ hc1
  have hjc : j < cur.size := by omega
  have hv : cur[j]? = some ((flatK prL 2 l.toArray)[j]!) := by
   have e2 : (cur.toList.take (l.length * 2))[j]? = (l.flatMap prL)[j]? := by rw [hc4]
   rw [List.getElem?_take, if_pos hj, Array.getElem?_toList, N7 l j hj] at e2
   rw [e2, get_flatK _ _ _ _ (by simpa using hj)]
  refine ⟨?_, ?_⟩
  ·unfold World.cell?
   rw [hh]
   simp only [Nat.zero_add]
   exact hv
  ·unfold World.frozen?
   rw [hh]
   simp
theorem Rj {w : World} {base g n c m : Nat} {e : TypeId} {l : List (Nat × Nat)} {Q : Array (Nat × Nat)} {os : Array Obj} (h : w.ownsRow base e 2 (.slice (some ⟨g, 0, none⟩) n c) l.length (l.flatMap prL)) (hq : Q.size = l.length) :
  (sortWorldK prL 2 w g 0 m Q os).ownsRow base e 2 (.slice (some ⟨g, 0, none⟩) n c) Q.toList.length (Q.toList.flatMap prL) ∧ w.grownBy (sortWorldK prL 2 w g 0 m Q os) (some g) := by
 have hF := RB Q.toList
 rw [Array.toArray_toList] at hF
 have hql : Q.toList.length = l.length := by rw [Array.length_toList, hq]
 rcases h.2 with ⟨h0, _⟩ | ⟨g', cap, cur, ev, hb, hh, hc1, hc2, hc3, hc4⟩
 ·cases h0
 ·injection ev with e1 e2 e3
  cases e1
  subst e3
  have hlt : g < w.heap.size := (Array.getElem?_eq_some_iff.1 hh).1
  have hle : l.length * 2 ≤ c * 2 := Nat.mul_le_mul_right _ hc1
  have hFs : (flatK prL 2 Q).size = l.length * 2 := by rw [size_flatK, hq]
  have hheap : (sortWorldK prL 2 w g 0 m Q os).heap = w.heap.modify g (onCells (putCells id 0 (flatK prL 2 Q))) ++ os := rfl
  have hmod : (w.heap.modify g (onCells (putCells id 0 (flatK prL 2 Q))))[g]? = some (.cells (putCells id 0 (flatK prL 2 Q) cur) e (0, 0)) := by
   rw [Array.getElem?_modify, if_pos rfl, hh]; rfl
  have hsz : (putCells id 0 (flatK prL 2 Q) cur).size = cur.size := by unfold putCells; simp
  refine ⟨⟨by rw [Sx.flat_len Fo], .inr ⟨g, c, putCells id 0 (flatK prL 2 Q) cur, by rw [hql, e2], hb, ?_, by rw [hql]; exact hc1, hc2, by rw [hsz]; exact hc3, ?_⟩⟩, ⟨rfl, rfl, rfl, ?_, fun k hk hne => ?_⟩⟩
  ·rw [hheap, Array.getElem?_append_left (by simpa using hlt)]
   exact hmod
  ·rw [hql, ← hF]
   refine List.ext_getElem? fun t => ?_
   by_cases ht : t < l.length * 2
   ·have htc : t < cur.size := by omega
    rw [List.getElem?_take, if_pos ht, Array.getElem?_toList, Array.getElem?_toList]
    unfold putCells
    rw [Array.getElem?_mapIdx, Array.getElem?_eq_getElem htc, Option.map_some, if_pos ⟨Nat.zero_le _, by rw [hFs]; omega⟩, Nat.sub_zero, Array.getElem?_eq_getElem (by rw [hFs]; exact ht)]
    rw [getElem!_pos _ t (by rw [hFs]; exact ht)]
    rfl
   ·rw [List.getElem?_take, if_neg ht, List.getElem?_eq_none (by rw [Array.length_toList, hFs]; omega)]
  ·rw [hheap, Array.size_append, Array.size_modify]; omega
  ·rw [hheap, Array.getElem?_append_left (by simpa using hk), Array.getElem?_modify, if_neg (fun e => hne (by rw [e]))]
theorem MQ (x y : Nat × Nat) : ltOf Rk x y = decide (ltP x y) := by
 obtain ⟨a1, a2⟩ := x
 obtain ⟨b1, b2⟩ := y
 have e : decide (ltP (a1, a2) (b1, b2)) = ltB ⟨a1, a2⟩ ⟨b1, b2⟩ := by
  unfold ltB
  rw [Bool.eq_iff_iff, decide_eq_true_iff]
  simp [ltP]
 rw [e, WY]
 rfl
theorem TE : SWO (ltOf Rk) where
 irrefl x := by rw [MQ, decide_eq_false_iff_not]; unfold ltP; omega
 trans x y z h1 h2 := by
  rw [MQ, decide_eq_true_eq] at *
  unfold ltP at *
  omega
 ntrans x y z h1 h2 := by
  rw [MQ, decide_eq_false_iff_not] at *
  unfold ltP at *
  omega
theorem Wu (g n : Nat) (w : World) : CmpLays Tryz.prog 69 #[] prL 2 Rk g 0 n w := fun m os dk hs x y =>
 (Uf x.1 x.2 y.1 y.2 _).mono fun e w' ⟨he, o1, o2, o3, hw⟩ => ⟨he, 1, #[o1] ++ #[o2] ++ #[o3], by
  rw [← hw, alloc_eq_grow, alloc_eq_grow, alloc_eq_grow, grow_grow, grow_grow]
  rfl⟩
theorem WT {l : List (Nat × Nat)} {Q : Array (Nat × Nat)} (h : PermIn 0 l.toArray.size l.toArray Q) : Q.size = l.length ∧ Q.toList.Perm l := by
 obtain ⟨h1, h2, h3⟩ := h
 have h1 : Q.size = l.length := by simpa using h1
 refine ⟨h1, ?_⟩
 have e1 : Q.extract 0 l.toArray.size = Q := by
  have : l.toArray.size = Q.size := by simp [h1]
  rw [this]; simp
 rw [e1] at h3
 simpa using h3
theorem TG {n : Nat} {Q : Array (Nat × Nat)} (hn : Q.size = n) (h : SortedIn (ltOf Rk) 0 n Q) : Q.toList.Pairwise (fun a b => ¬ ltP b a) := by
 rw [List.pairwise_iff_getElem]
 intro i j hi hj hij
 have hi' : i < Q.size := by simpa using hi
 have hj' : j < Q.size := by simpa using hj
 have h1 := h i j (Nat.zero_le _) hij (by omega)
 rw [MQ, decide_eq_false_iff_not, getElem!_pos Q j hj', getElem!_pos Q i hi'] at h1
 simpa using h1
end Go.Proofs.YteiaiilfekojfaaGreat.Net
end
