/- Votes, lists of them, what nodes told, and ballots as arguments, opened. Conditions: the arguments can be read. -/
import Derived.Test.YtbamfnlgapchkaaElP
import Derived.Test.YtbamfnlgapchkaaOpenRows
namespace Go.Proofs.Ytbamfnlgapchkaa.Ele
open Go.Joins Go.RowKit Go.WideShapes Go.ChangeShapes Go.Deep Bal

def Vt.Fits (x : Vt) : Prop := x.slot < 18446744073709551616 ∧ x.n < 18446744073709551616 ∧ x.r < 256 ∧ x.val.length ≤ 9223372036854775807
set_option linter.unusedSimpArgs false in
set_option maxRecDepth 100000 in
theorem dec_vt {w : World} : ∀ n es, es.length = 4 → Leafy Try.prog w n 73 es → ∃ x, Vt.Fits x ∧ es = vtL x := by
  intro n es hlen h
  match es, hlen with
  | [c0, c1, c2, c3], _ =>
    have e0 : Try.prog.cellsOf 71 = 2 := by kernel_rfl
    have e1 : Try.prog.cellsOf 9 = 1 := by kernel_rfl
    have e2 : Try.prog.cellsOf 26 = 1 := by kernel_rfl
    have e3 : Try.prog.cellsOf 5 = 1 := by kernel_rfl
    obtain ⟨m1, _, hf1⟩ := leafy_struct Try.underlying73 h
    have g1_0 : Leafy Try.prog w m1 26 ((([c0, c1, c2, c3] : List Value).drop 0).take (Try.prog.cellsOf 26)) := hf1 0 _ rfl
    rw [e2] at g1_0
    simp only [List.drop_zero, List.drop_succ_cons, List.take_succ_cons, List.take_zero] at g1_0
    have g1_1 : Leafy Try.prog w m1 71 ((([c0, c1, c2, c3] : List Value).drop 1).take (Try.prog.cellsOf 71)) := hf1 1 _ rfl
    rw [e0] at g1_1
    simp only [List.drop_zero, List.drop_succ_cons, List.take_succ_cons, List.take_zero] at g1_1
    have g1_2 : Leafy Try.prog w m1 9 ((([c0, c1, c2, c3] : List Value).drop 3).take (Try.prog.cellsOf 9)) := hf1 2 _ rfl
    rw [e1] at g1_2
    simp only [List.drop_zero, List.drop_succ_cons, List.take_succ_cons, List.take_zero] at g1_2
    obtain ⟨z0, q0, w0⟩ := leafy_int Try.underlying26 g1_0
    obtain rfl : c0 = _ := List.head_eq_of_cons_eq q0
    have b0 := bounds_u64 w0
    obtain ⟨x0, rfl⟩ := Int.eq_ofNat_of_zero_le b0.1
    obtain ⟨m2, _, hf2⟩ := leafy_struct Try.underlying71 g1_1
    have g2_0 : Leafy Try.prog w m2 26 ((([c1, c2] : List Value).drop 0).take (Try.prog.cellsOf 26)) := hf2 0 _ rfl
    rw [e2] at g2_0
    simp only [List.drop_zero, List.drop_succ_cons, List.take_succ_cons, List.take_zero] at g2_0
    have g2_1 : Leafy Try.prog w m2 5 ((([c1, c2] : List Value).drop 1).take (Try.prog.cellsOf 5)) := hf2 1 _ rfl
    rw [e3] at g2_1
    simp only [List.drop_zero, List.drop_succ_cons, List.take_succ_cons, List.take_zero] at g2_1
    obtain ⟨z1, q1, w1⟩ := leafy_int Try.underlying26 g2_0
    obtain rfl : c1 = _ := List.head_eq_of_cons_eq q1
    have b1 := bounds_u64 w1
    obtain ⟨x1, rfl⟩ := Int.eq_ofNat_of_zero_le b1.1
    obtain ⟨z2, q2, w2⟩ := leafy_int Try.underlying5 g2_1
    obtain rfl : c2 = _ := List.head_eq_of_cons_eq q2
    have b2 := bounds_u8 w2
    obtain ⟨x2, rfl⟩ := Int.eq_ofNat_of_zero_le b2.1
    obtain ⟨x3, q3, b3⟩ := leafy_string Try.underlying9 g1_2
    obtain rfl : c3 = _ := List.head_eq_of_cons_eq q3
    exact ⟨⟨x0, x1, x2, x3⟩, by simp only [Vt.Fits]; omega, rfl⟩

structure Bx where
  n : Nat
  r : Nat
def Bx.Fits (x : Bx) : Prop := x.n < 18446744073709551616 ∧ x.r < 256
def bxC (x : Bx) : List Value := [.int .u64 (x.n : Int), .int .u8 (x.r : Int)]
set_option linter.unusedSimpArgs false in
set_option maxRecDepth 100000 in
theorem dec_bx {w : World} : ∀ n es, es.length = 2 → Leafy Try.prog w n 71 es → ∃ x, Bx.Fits x ∧ es = bxC x := by
  intro n es hlen h
  match es, hlen with
  | [c0, c1], _ =>
    have e0 : Try.prog.cellsOf 26 = 1 := by kernel_rfl
    have e1 : Try.prog.cellsOf 5 = 1 := by kernel_rfl
    obtain ⟨m1, _, hf1⟩ := leafy_struct Try.underlying71 h
    have g1_0 : Leafy Try.prog w m1 26 ((([c0, c1] : List Value).drop 0).take (Try.prog.cellsOf 26)) := hf1 0 _ rfl
    rw [e0] at g1_0
    simp only [List.drop_zero, List.drop_succ_cons, List.take_succ_cons, List.take_zero] at g1_0
    have g1_1 : Leafy Try.prog w m1 5 ((([c0, c1] : List Value).drop 1).take (Try.prog.cellsOf 5)) := hf1 1 _ rfl
    rw [e1] at g1_1
    simp only [List.drop_zero, List.drop_succ_cons, List.take_succ_cons, List.take_zero] at g1_1
    obtain ⟨z0, q0, w0⟩ := leafy_int Try.underlying26 g1_0
    obtain rfl : c0 = _ := List.head_eq_of_cons_eq q0
    have b0 := bounds_u64 w0
    obtain ⟨x0, rfl⟩ := Int.eq_ofNat_of_zero_le b0.1
    obtain ⟨z1, q1, w1⟩ := leafy_int Try.underlying5 g1_1
    obtain rfl : c1 = _ := List.head_eq_of_cons_eq q1
    have b1 := bounds_u8 w1
    obtain ⟨x1, rfl⟩ := Int.eq_ofNat_of_zero_le b1.1
    exact ⟨⟨x0, x1⟩, by simp only [Bx.Fits]; omega, rfl⟩

set_option maxRecDepth 100000 in
theorem leafy_votes {w : World} {n : Nat} {cs : List Value} (h : Leafy Try.prog w n 69 cs) : ∃ (A : Option Addr) (c : Nat) (V : List Vt), cs = [.slice A V.length c] ∧ Rows w A 4 vtL V ∧ (∀ x ∈ V, x.Fits) ∧ V.length ≤ 9223372036854775807 := by
  cases n with
  | zero => exact h.elim
  | succ n =>
    unfold Leafy at h
    rw [Try.underlying69] at h
    have e4 : Try.prog.cellsOf 73 = 4 := by kernel_rfl
    rcases h with h0 | ⟨a, len, cap, h0, hl, hc, hi⟩
    · exact ⟨none, 0, [], h0, Rows.nil _ _ _ _, by simp, by simp⟩
    · obtain ⟨l, h1, h2, h3⟩ := rows_of (w := w) (sz := 4) (cells := vtL) (a := a) (m := len) (Q := Vt.Fits) (fun i hil => by
        obtain ⟨es, e1, e2, e3⟩ := hi i hil
        obtain ⟨x, hx, he⟩ := dec_vt n es (by rw [e1, e4]) e2
        exact ⟨x, hx, es, he, by rw [e4] at e3; exact e3⟩) (fun x => by rw [vtL_len]; omega)
      exact ⟨some a, cap, l, by rw [h1]; exact h0, h3, h2, by omega⟩
/-- A list of votes in memory. -/
structure VL where
  A : Option Addr
  c : Nat
  V : List Vt
def vlL (x : VL) : List Value := [.slice x.A x.V.length x.c]
def VL.Fits (w : World) (x : VL) : Prop := Rows w x.A 4 vtL x.V ∧ (∀ v ∈ x.V, v.Fits) ∧ x.V.length ≤ 9223372036854775807
set_option maxRecDepth 100000 in
theorem dec_vl {w : World} : ∀ n es, es.length = 1 → Leafy Try.prog w n 69 es → ∃ x, VL.Fits w x ∧ es = vlL x := by
  intro n es _ h
  obtain ⟨A, c, V, he, h1, h2, h3⟩ := leafy_votes h
  exact ⟨⟨A, c, V⟩, ⟨h1, h2, h3⟩, he⟩
set_option maxRecDepth 100000 in
theorem open_vls {H : Type} {enc : TypeId × Value → H} {w : World} {base : Nat} {v : Value} {d : DataW H} {p : List MemPlace} {r : Reach} (h : DataW.Trod enc Try.prog w 0 (fun _ => true) true 84 v d p) (hk : Value.okWide Try.prog w r base 84 v) :
    ∃ (A : Option Addr) (c : Nat) (l : List VL), v = .slice A l.length c ∧ Rows w A 1 vlL l ∧ (∀ x ∈ l, x.Fits w) ∧ l.length ≤ 9223372036854775807 :=
  open_rows Try.underlying84 (by kernel_rfl) (fun x => by simp [vlL]) dec_vl h hk
def u64L (x : Nat) : List Value := [.int .u64 (x : Int)]
set_option maxRecDepth 100000 in
theorem dec_u64 {w : World} : ∀ n es, es.length = 1 → Leafy Try.prog w n 26 es → ∃ x : Nat, x < 18446744073709551616 ∧ es = u64L x := by
  intro n es _ h
  obtain ⟨z, hz, hw⟩ := leafy_int Try.underlying26 h
  have hb := bounds_u64 hw
  obtain ⟨x, rfl⟩ := Int.eq_ofNat_of_zero_le hb.1
  exact ⟨x, by omega, hz⟩
set_option maxRecDepth 100000 in
theorem open_u64s {H : Type} {enc : TypeId × Value → H} {w : World} {base : Nat} {v : Value} {d : DataW H} {p : List MemPlace} {r : Reach} (h : DataW.Trod enc Try.prog w 0 (fun _ => true) true 85 v d p) (hk : Value.okWide Try.prog w r base 85 v) :
    ∃ (A : Option Addr) (c : Nat) (l : List Nat), v = .slice A l.length c ∧ Rows w A 1 u64L l ∧ (∀ x ∈ l, x < 18446744073709551616) ∧ l.length ≤ 9223372036854775807 :=
  open_rows Try.underlying85 (by kernel_rfl) (fun x => by simp [u64L]) dec_u64 h hk
set_option maxRecDepth 100000 in
theorem open_votes {H : Type} {enc : TypeId × Value → H} {w : World} {base : Nat} {v : Value} {d : DataW H} {p : List MemPlace} {r : Reach} (h : DataW.Trod enc Try.prog w 0 (fun _ => true) true 69 v d p) (hk : Value.okWide Try.prog w r base 69 v) :
    ∃ (A : Option Addr) (c : Nat) (l : List Vt), v = .slice A l.length c ∧ Rows w A 4 vtL l ∧ (∀ x ∈ l, x.Fits) ∧ l.length ≤ 9223372036854775807 :=
  open_rows Try.underlying69 (by kernel_rfl) (fun x => by rw [vtL_len]; omega) dec_vt h hk
/-- What a node told. -/
structure Td where
  node : Nat
  base : Nat
  A : Option Addr
  c : Nat
  V : List Vt
def tdL (x : Td) : List Value := [.int .u8 (x.node : Int), .int .u64 (x.base : Int), .slice x.A x.V.length x.c]
def Td.Fits (w : World) (x : Td) : Prop := x.node < 256 ∧ x.base < 18446744073709551616 ∧ Rows w x.A 4 vtL x.V ∧ (∀ v ∈ x.V, v.Fits) ∧ x.V.length ≤ 9223372036854775807
set_option maxRecDepth 100000 in
theorem dec_td {w : World} : ∀ n es, es.length = 3 → Leafy Try.prog w n 95 es → ∃ x, Td.Fits w x ∧ es = tdL x := by
  intro n es hlen h
  match es, hlen with
  | [c0, c1, c2], _ =>
    have e0 : Try.prog.cellsOf 69 = 1 := by kernel_rfl
    have e2 : Try.prog.cellsOf 26 = 1 := by kernel_rfl
    have e3 : Try.prog.cellsOf 5 = 1 := by kernel_rfl
    obtain ⟨m1, _, hf1⟩ := leafy_struct Try.underlying95 h
    have g0 : Leafy Try.prog w m1 5 ((([c0, c1, c2] : List Value).drop 0).take (Try.prog.cellsOf 5)) := hf1 0 _ rfl
    rw [e3] at g0
    have g1 : Leafy Try.prog w m1 26 ((([c0, c1, c2] : List Value).drop 1).take (Try.prog.cellsOf 26)) := hf1 1 _ rfl
    rw [e2] at g1
    have g2 : Leafy Try.prog w m1 69 ((([c0, c1, c2] : List Value).drop 2).take (Try.prog.cellsOf 69)) := hf1 2 _ rfl
    rw [e0] at g2
    simp only [List.drop_zero, List.drop_succ_cons, List.take_succ_cons, List.take_zero] at g0 g1 g2
    obtain ⟨z0, q0, w0⟩ := leafy_int Try.underlying5 g0
    obtain rfl : c0 = _ := List.head_eq_of_cons_eq q0
    have b0 := bounds_u8 w0
    obtain ⟨x0, rfl⟩ := Int.eq_ofNat_of_zero_le b0.1
    obtain ⟨z1, q1, w1⟩ := leafy_int Try.underlying26 g1
    obtain rfl : c1 = _ := List.head_eq_of_cons_eq q1
    have b1 := bounds_u64 w1
    obtain ⟨x1, rfl⟩ := Int.eq_ofNat_of_zero_le b1.1
    obtain ⟨A, c, V, he, h1, h2, h3⟩ := leafy_votes g2
    obtain rfl : c2 = _ := List.head_eq_of_cons_eq he
    exact ⟨⟨x0, x1, A, c, V⟩, ⟨by simp only; omega, by simp only; omega, h1, h2, h3⟩, rfl⟩
set_option maxRecDepth 100000 in
theorem open_tds {H : Type} {enc : TypeId × Value → H} {w : World} {base : Nat} {v : Value} {d : DataW H} {p : List MemPlace} {r : Reach} (h : DataW.Trod enc Try.prog w 0 (fun _ => true) true 89 v d p) (hk : Value.okWide Try.prog w r base 89 v) :
    ∃ (A : Option Addr) (c : Nat) (l : List Td), v = .slice A l.length c ∧ Rows w A 3 tdL l ∧ (∀ x ∈ l, x.Fits w) ∧ l.length ≤ 9223372036854775807 :=
  open_rows Try.underlying89 (by kernel_rfl) (fun x => by simp [tdL]) dec_td h hk
set_option maxRecDepth 100000 in
theorem open_td {H : Type} {enc : TypeId × Value → H} {w : World} {v : Value} {d : DataW H} {p : List MemPlace} (h : DataW.Trod enc Try.prog w 0 (fun _ => true) true 95 v d p) : ∃ x : Td, v = .agg (tdL x).toArray ∧ x.Fits w := by
  obtain ⟨n, hn⟩ := leafy_trod h
  have hlen : v.cells.toList.length = 3 := by
    obtain ⟨m, hl, _⟩ := leafy_struct Try.underlying95 hn
    rw [hl]
    kernel_rfl
  obtain ⟨x, hx, he⟩ := dec_td n _ hlen hn
  refine ⟨x, ?_, hx⟩
  cases v with
  | agg cs =>
    have e : cs.toList = _ := he
    exact congrArg Value.agg (Array.ext' e)
  | _ => simp [Value.cells] at hlen
set_option maxRecDepth 100000 in
theorem open_ballot {H : Type} {enc : TypeId × Value → H} {w : World} {v : Value} {d : DataW H} {p : List MemPlace} (h : DataW.Trod enc Try.prog w 0 (fun _ => true) true 71 v d p) : ∃ b : B, v = bV b ∧ b.n < 18446744073709551616 ∧ b.r < 256 := by
  obtain ⟨n, hn⟩ := leafy_trod h
  have hlen : v.cells.toList.length = 2 := by
    obtain ⟨m, hl, _⟩ := leafy_struct Try.underlying71 hn
    rw [hl]
    kernel_rfl
  obtain ⟨x, hx, he⟩ := dec_bx n _ hlen hn
  refine ⟨⟨x.n, x.r⟩, ?_, hx⟩
  cases v with
  | agg cs =>
    have e : cs.toList = _ := he
    exact congrArg Value.agg (Array.ext' e)
  | _ => simp [Value.cells] at hlen
end Go.Proofs.Ytbamfnlgapchkaa.Ele
