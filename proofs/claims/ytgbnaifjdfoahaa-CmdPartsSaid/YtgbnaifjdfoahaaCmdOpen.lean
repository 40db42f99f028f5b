/- Commands as arguments, opened: one by value, and a slice of them. Conditions: the arguments can be read. -/
import Derived.Test.YtgbnaifjdfoahaaCmdP
import Derived.Test.YtgbnaifjdfoahaaOpenRows
namespace Go.Proofs.Ytgbnaifjdfoahaa.Cmd
open Go.Joins Go.RowKit Go.WideShapes Go.ChangeShapes Go.Deep

structure Cx where
  client : Nat
  seq : Nat
  kind : Nat
  key : List UInt8
  old : List UInt8
  new : List UInt8
  set : Nat
def Cx.Fits (x : Cx) : Prop := x.client < 256 ∧ x.seq < 4294967296 ∧ x.kind < 256 ∧ x.key.length ≤ 9223372036854775807 ∧ x.old.length ≤ 9223372036854775807 ∧ x.new.length ≤ 9223372036854775807 ∧ x.set < 256
def cxC (x : Cx) : List Value := [.int .u8 (x.client : Int), .int .u32 (x.seq : Int), .int .u8 (x.kind : Int), .string ⟨x.key.toArray⟩, .string ⟨x.old.toArray⟩, .string ⟨x.new.toArray⟩, .int .u8 (x.set : Int)]
set_option linter.unusedSimpArgs false in
theorem dec_cx {w : World} : ∀ n es, es.length = 7 → Leafy Try.prog w n 73 es → ∃ x, Cx.Fits x ∧ es = cxC x := by
  intro n es hlen h
  match es, hlen with
  | [c0, c1, c2, c3, c4, c5, c6], _ =>
    have e0 : Try.prog.cellsOf 9 = 1 := by kernel_rfl
    have e1 : Try.prog.cellsOf 25 = 1 := by kernel_rfl
    have e2 : Try.prog.cellsOf 5 = 1 := by kernel_rfl
    obtain ⟨m1, _, hf1⟩ := leafy_struct Try.underlying73 h
    have g1_0 : Leafy Try.prog w m1 5 ((([c0, c1, c2, c3, c4, c5, c6] : List Value).drop 0).take (Try.prog.cellsOf 5)) := hf1 0 _ rfl
    rw [e2] at g1_0
    simp only [List.drop_zero, List.drop_succ_cons, List.take_succ_cons, List.take_zero] at g1_0
    have g1_1 : Leafy Try.prog w m1 25 ((([c0, c1, c2, c3, c4, c5, c6] : List Value).drop 1).take (Try.prog.cellsOf 25)) := hf1 1 _ rfl
    rw [e1] at g1_1
    simp only [List.drop_zero, List.drop_succ_cons, List.take_succ_cons, List.take_zero] at g1_1
    have g1_2 : Leafy Try.prog w m1 5 ((([c0, c1, c2, c3, c4, c5, c6] : List Value).drop 2).take (Try.prog.cellsOf 5)) := hf1 2 _ rfl
    rw [e2] at g1_2
    simp only [List.drop_zero, List.drop_succ_cons, List.take_succ_cons, List.take_zero] at g1_2
    have g1_3 : Leafy Try.prog w m1 9 ((([c0, c1, c2, c3, c4, c5, c6] : List Value).drop 3).take (Try.prog.cellsOf 9)) := hf1 3 _ rfl
    rw [e0] at g1_3
    simp only [List.drop_zero, List.drop_succ_cons, List.take_succ_cons, List.take_zero] at g1_3
    have g1_4 : Leafy Try.prog w m1 9 ((([c0, c1, c2, c3, c4, c5, c6] : List Value).drop 4).take (Try.prog.cellsOf 9)) := hf1 4 _ rfl
    rw [e0] at g1_4
    simp only [List.drop_zero, List.drop_succ_cons, List.take_succ_cons, List.take_zero] at g1_4
    have g1_5 : Leafy Try.prog w m1 9 ((([c0, c1, c2, c3, c4, c5, c6] : List Value).drop 5).take (Try.prog.cellsOf 9)) := hf1 5 _ rfl
    rw [e0] at g1_5
    simp only [List.drop_zero, List.drop_succ_cons, List.take_succ_cons, List.take_zero] at g1_5
    have g1_6 : Leafy Try.prog w m1 5 ((([c0, c1, c2, c3, c4, c5, c6] : List Value).drop 6).take (Try.prog.cellsOf 5)) := hf1 6 _ rfl
    rw [e2] at g1_6
    simp only [List.drop_zero, List.drop_succ_cons, List.take_succ_cons, List.take_zero] at g1_6
    obtain ⟨z0, q0, w0⟩ := leafy_int Try.underlying5 g1_0
    obtain rfl : c0 = _ := List.head_eq_of_cons_eq q0
    have b0 := bounds_u8 w0
    obtain ⟨x0, rfl⟩ := Int.eq_ofNat_of_zero_le b0.1
    obtain ⟨z1, q1, w1⟩ := leafy_int Try.underlying25 g1_1
    obtain rfl : c1 = _ := List.head_eq_of_cons_eq q1
    have b1 := bounds_u32 w1
    obtain ⟨x1, rfl⟩ := Int.eq_ofNat_of_zero_le b1.1
    obtain ⟨z2, q2, w2⟩ := leafy_int Try.underlying5 g1_2
    obtain rfl : c2 = _ := List.head_eq_of_cons_eq q2
    have b2 := bounds_u8 w2
    obtain ⟨x2, rfl⟩ := Int.eq_ofNat_of_zero_le b2.1
    obtain ⟨x3, q3, b3⟩ := leafy_string Try.underlying9 g1_3
    obtain rfl : c3 = _ := List.head_eq_of_cons_eq q3
    obtain ⟨x4, q4, b4⟩ := leafy_string Try.underlying9 g1_4
    obtain rfl : c4 = _ := List.head_eq_of_cons_eq q4
    obtain ⟨x5, q5, b5⟩ := leafy_string Try.underlying9 g1_5
    obtain rfl : c5 = _ := List.head_eq_of_cons_eq q5
    obtain ⟨z6, q6, w6⟩ := leafy_int Try.underlying5 g1_6
    obtain rfl : c6 = _ := List.head_eq_of_cons_eq q6
    have b6 := bounds_u8 w6
    obtain ⟨x6, rfl⟩ := Int.eq_ofNat_of_zero_le b6.1
    exact ⟨⟨x0, x1, x2, x3, x4, x5, x6⟩, by simp only [Cx.Fits]; omega, rfl⟩
theorem dec_cm {w : World} (n : Nat) (es : List Value) (hlen : es.length = 7) (h : Leafy Try.prog w n 73 es) : ∃ x : Cm, x.Fits ∧ es = cmL x := by
  obtain ⟨x, hx, he⟩ := dec_cx n es hlen h
  obtain ⟨h1, h2, h3, h4, h5, h6, h7⟩ := hx
  exact ⟨⟨x.client, x.seq, x.kind, x.key, x.old, x.new, x.set⟩, ⟨h1, h2, h3, h4, h5, h6, h7⟩, he⟩
theorem open_cmd {H : Type} {enc : TypeId × Value → H} {w : World} {v : Value} {d : DataW H} {p : List MemPlace} (h : DataW.Trod enc Try.prog w 0 (fun _ => true) true 73 v d p) : ∃ x : Cm, v = cmV x ∧ x.Fits := by
  obtain ⟨n, hn⟩ := leafy_trod h
  have hlen : v.cells.toList.length = 7 := by
    obtain ⟨m, hl, _⟩ := leafy_struct Try.underlying73 hn
    rw [hl]
    kernel_rfl
  obtain ⟨x, hx, he⟩ := dec_cm n _ hlen hn
  refine ⟨x, ?_, hx⟩
  cases v with
  | agg cs =>
    have e : cs.toList = (cmC x).toList := he
    unfold cmV
    rw [Array.toList_inj.1 e]
  | _ => simp [Value.cells] at hlen
set_option maxRecDepth 100000 in
theorem open_cmds {H : Type} {enc : TypeId × Value → H} {w : World} {base : Nat} {v : Value} {d : DataW H} {p : List MemPlace} {r : Reach} (h : DataW.Trod enc Try.prog w 0 (fun _ => true) true 71 v d p) (hk : Value.okWide Try.prog w r base 71 v) :
    ∃ (A : Option Addr) (c : Nat) (l : List Cm), v = .slice A l.length c ∧ Rows w A 7 cmL l ∧ (∀ x ∈ l, x.Fits) ∧ l.length ≤ 9223372036854775807 :=
  open_rows Try.underlying71 (by kernel_rfl) (fun x => by rw [cmL_len]; omega) dec_cm h hk
end Go.Proofs.Ytgbnaifjdfoahaa.Cmd
