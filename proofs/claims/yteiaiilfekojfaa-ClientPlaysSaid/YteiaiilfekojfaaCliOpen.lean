/- An act of a client as an argument, opened. Conditions: the argument can be read. -/
import Derived.Test.YteiaiilfekojfaaCliP
import Derived.Test.YteiaiilfekojfaaOpenRows
namespace Go.Proofs.Yteiaiilfekojfaa.Cli
open Go.Joins Go.RowKit Go.WideShapes Go.ChangeShapes Go.Deep Cmd

/-- A slice, whatever it holds. -/
def Sl (v : Value) : Prop := ∃ A n c, v = .slice A n c ∧ n ≤ 9223372036854775807
theorem Sl.one {v : Value} (h : Sl v) : v.oneCell' = true := by
  obtain ⟨_, _, _, rfl, _⟩ := h
  rfl
theorem leafy_slice {P : Program} {w : World} {n : Nat} {t e : TypeId} {cs : List Value} (ht : P.underlying t = some (.slice e)) (h : Leafy P w n t cs) : ∃ v, cs = [v] ∧ Sl v := by
  cases n with
  | zero => exact h.elim
  | succ n =>
    unfold Leafy at h
    rw [ht] at h
    rcases h with h | ⟨a, len, cap, h, hl, hc, _⟩
    · exact ⟨_, h, _, _, _, rfl, by omega⟩
    · exact ⟨_, h, _, _, _, rfl, by omega⟩
structure Ax where
  act : Nat
  xclient : Nat
  xseq : Nat
  xkind : Nat
  xkey : List UInt8
  xold : List UInt8
  xnew : List UInt8
  xset : Nat
  src : Nat
  dst : Nat
  lk : Nat
  bn : Nat
  br : Nat
  base : Nat
  slot : Nat
  node : Nat
  value : List UInt8
  votes : Value
  items : Value
  yclient : Nat
  yseq : Nat
  ykind : Nat
  ykey : List UInt8
  yold : List UInt8
  ynew : List UInt8
  yset : Nat
  code : Nat
  text : List UInt8
def Ax.Fits (x : Ax) : Prop := x.act < 256 ∧ x.xclient < 256 ∧ x.xseq < 4294967296 ∧ x.xkind < 256 ∧ x.xkey.length ≤ 9223372036854775807 ∧ x.xold.length ≤ 9223372036854775807 ∧ x.xnew.length ≤ 9223372036854775807 ∧ x.xset < 256 ∧ x.src < 256 ∧ x.dst < 256 ∧ x.lk < 256 ∧ x.bn < 18446744073709551616 ∧ x.br < 256 ∧ x.base < 18446744073709551616 ∧ x.slot < 18446744073709551616 ∧ x.node < 256 ∧ x.value.length ≤ 9223372036854775807 ∧ Sl x.votes ∧ Sl x.items ∧ x.yclient < 256 ∧ x.yseq < 4294967296 ∧ x.ykind < 256 ∧ x.ykey.length ≤ 9223372036854775807 ∧ x.yold.length ≤ 9223372036854775807 ∧ x.ynew.length ≤ 9223372036854775807 ∧ x.yset < 256 ∧ x.code < 256 ∧ x.text.length ≤ 9223372036854775807
def axC (x : Ax) : List Value := [.int .u8 (x.act : Int), .int .u8 (x.xclient : Int), .int .u32 (x.xseq : Int), .int .u8 (x.xkind : Int), .string ⟨x.xkey.toArray⟩, .string ⟨x.xold.toArray⟩, .string ⟨x.xnew.toArray⟩, .int .u8 (x.xset : Int), .int .u8 (x.src : Int), .int .u8 (x.dst : Int), .int .u8 (x.lk : Int), .int .u64 (x.bn : Int), .int .u8 (x.br : Int), .int .u64 (x.base : Int), .int .u64 (x.slot : Int), .int .u8 (x.node : Int), .string ⟨x.value.toArray⟩, x.votes, x.items, .int .u8 (x.yclient : Int), .int .u32 (x.yseq : Int), .int .u8 (x.ykind : Int), .string ⟨x.ykey.toArray⟩, .string ⟨x.yold.toArray⟩, .string ⟨x.ynew.toArray⟩, .int .u8 (x.yset : Int), .int .u8 (x.code : Int), .string ⟨x.text.toArray⟩]
set_option linter.unusedSimpArgs false in
set_option maxRecDepth 100000 in
theorem dec_ax {w : World} : ∀ n es, es.length = 28 → Leafy Try.prog w n 49 es → ∃ x, Ax.Fits x ∧ es = axC x := by
  intro n es hlen h
  match es, hlen with
  | [c0, c1, c2, c3, c4, c5, c6, c7, c8, c9, c10, c11, c12, c13, c14, c15, c16, c17, c18, c19, c20, c21, c22, c23, c24, c25, c26, c27], _ =>
    have e0 : Try.prog.cellsOf 41 = 1 := by kernel_rfl
    have e1 : Try.prog.cellsOf 40 = 1 := by kernel_rfl
    have e2 : Try.prog.cellsOf 39 = 2 := by kernel_rfl
    have e3 : Try.prog.cellsOf 36 = 7 := by kernel_rfl
    have e4 : Try.prog.cellsOf 47 = 20 := by kernel_rfl
    have e5 : Try.prog.cellsOf 45 = 18 := by kernel_rfl
    have e6 : Try.prog.cellsOf 43 = 2 := by kernel_rfl
    have e7 : Try.prog.cellsOf 9 = 1 := by kernel_rfl
    have e8 : Try.prog.cellsOf 34 = 1 := by kernel_rfl
    have e9 : Try.prog.cellsOf 37 = 1 := by kernel_rfl
    have e10 : Try.prog.cellsOf 5 = 1 := by kernel_rfl
    obtain ⟨m1, _, hf1⟩ := leafy_struct Try.underlying49 h
    have g1_0 : Leafy Try.prog w m1 5 ((([c0, c1, c2, c3, c4, c5, c6, c7, c8, c9, c10, c11, c12, c13, c14, c15, c16, c17, c18, c19, c20, c21, c22, c23, c24, c25, c26, c27] : List Value).drop 0).take (Try.prog.cellsOf 5)) := hf1 0 _ rfl
    rw [e10] at g1_0
    simp only [List.drop_zero, List.drop_succ_cons, List.take_succ_cons, List.take_zero] at g1_0
    have g1_1 : Leafy Try.prog w m1 36 ((([c0, c1, c2, c3, c4, c5, c6, c7, c8, c9, c10, c11, c12, c13, c14, c15, c16, c17, c18, c19, c20, c21, c22, c23, c24, c25, c26, c27] : List Value).drop 1).take (Try.prog.cellsOf 36)) := hf1 1 _ rfl
    rw [e3] at g1_1
    simp only [List.drop_zero, List.drop_succ_cons, List.take_succ_cons, List.take_zero] at g1_1
    have g1_2 : Leafy Try.prog w m1 47 ((([c0, c1, c2, c3, c4, c5, c6, c7, c8, c9, c10, c11, c12, c13, c14, c15, c16, c17, c18, c19, c20, c21, c22, c23, c24, c25, c26, c27] : List Value).drop 8).take (Try.prog.cellsOf 47)) := hf1 2 _ rfl
    rw [e4] at g1_2
    simp only [List.drop_zero, List.drop_succ_cons, List.take_succ_cons, List.take_zero] at g1_2
    obtain ⟨z0, q0, w0⟩ := leafy_int Try.underlying5 g1_0
    obtain rfl : c0 = _ := List.head_eq_of_cons_eq q0
    have b0 := bounds_u8 w0
    obtain ⟨x0, rfl⟩ := Int.eq_ofNat_of_zero_le b0.1
    obtain ⟨m2, _, hf2⟩ := leafy_struct Try.underlying36 g1_1
    have g2_0 : Leafy Try.prog w m2 5 ((([c1, c2, c3, c4, c5, c6, c7] : List Value).drop 0).take (Try.prog.cellsOf 5)) := hf2 0 _ rfl
    rw [e10] at g2_0
    simp only [List.drop_zero, List.drop_succ_cons, List.take_succ_cons, List.take_zero] at g2_0
    have g2_1 : Leafy Try.prog w m2 34 ((([c1, c2, c3, c4, c5, c6, c7] : List Value).drop 1).take (Try.prog.cellsOf 34)) := hf2 1 _ rfl
    rw [e8] at g2_1
    simp only [List.drop_zero, List.drop_succ_cons, List.take_succ_cons, List.take_zero] at g2_1
    have g2_2 : Leafy Try.prog w m2 5 ((([c1, c2, c3, c4, c5, c6, c7] : List Value).drop 2).take (Try.prog.cellsOf 5)) := hf2 2 _ rfl
    rw [e10] at g2_2
    simp only [List.drop_zero, List.drop_succ_cons, List.take_succ_cons, List.take_zero] at g2_2
    have g2_3 : Leafy Try.prog w m2 9 ((([c1, c2, c3, c4, c5, c6, c7] : List Value).drop 3).take (Try.prog.cellsOf 9)) := hf2 3 _ rfl
    rw [e7] at g2_3
    simp only [List.drop_zero, List.drop_succ_cons, List.take_succ_cons, List.take_zero] at g2_3
    have g2_4 : Leafy Try.prog w m2 9 ((([c1, c2, c3, c4, c5, c6, c7] : List Value).drop 4).take (Try.prog.cellsOf 9)) := hf2 4 _ rfl
    rw [e7] at g2_4
    simp only [List.drop_zero, List.drop_succ_cons, List.take_succ_cons, List.take_zero] at g2_4
    have g2_5 : Leafy Try.prog w m2 9 ((([c1, c2, c3, c4, c5, c6, c7] : List Value).drop 5).take (Try.prog.cellsOf 9)) := hf2 5 _ rfl
    rw [e7] at g2_5
    simp only [List.drop_zero, List.drop_succ_cons, List.take_succ_cons, List.take_zero] at g2_5
    have g2_6 : Leafy Try.prog w m2 5 ((([c1, c2, c3, c4, c5, c6, c7] : List Value).drop 6).take (Try.prog.cellsOf 5)) := hf2 6 _ rfl
    rw [e10] at g2_6
    simp only [List.drop_zero, List.drop_succ_cons, List.take_succ_cons, List.take_zero] at g2_6
    obtain ⟨z1, q1, w1⟩ := leafy_int Try.underlying5 g2_0
    obtain rfl : c1 = _ := List.head_eq_of_cons_eq q1
    have b1 := bounds_u8 w1
    obtain ⟨x1, rfl⟩ := Int.eq_ofNat_of_zero_le b1.1
    obtain ⟨z2, q2, w2⟩ := leafy_int Try.underlying34 g2_1
    obtain rfl : c2 = _ := List.head_eq_of_cons_eq q2
    have b2 := bounds_u32 w2
    obtain ⟨x2, rfl⟩ := Int.eq_ofNat_of_zero_le b2.1
    obtain ⟨z3, q3, w3⟩ := leafy_int Try.underlying5 g2_2
    obtain rfl : c3 = _ := List.head_eq_of_cons_eq q3
    have b3 := bounds_u8 w3
    obtain ⟨x3, rfl⟩ := Int.eq_ofNat_of_zero_le b3.1
    obtain ⟨x4, q4, b4⟩ := leafy_string Try.underlying9 g2_3
    obtain rfl : c4 = _ := List.head_eq_of_cons_eq q4
    obtain ⟨x5, q5, b5⟩ := leafy_string Try.underlying9 g2_4
    obtain rfl : c5 = _ := List.head_eq_of_cons_eq q5
    obtain ⟨x6, q6, b6⟩ := leafy_string Try.underlying9 g2_5
    obtain rfl : c6 = _ := List.head_eq_of_cons_eq q6
    obtain ⟨z7, q7, w7⟩ := leafy_int Try.underlying5 g2_6
    obtain rfl : c7 = _ := List.head_eq_of_cons_eq q7
    have b7 := bounds_u8 w7
    obtain ⟨x7, rfl⟩ := Int.eq_ofNat_of_zero_le b7.1
    obtain ⟨m3, _, hf3⟩ := leafy_struct Try.underlying47 g1_2
    have g3_0 : Leafy Try.prog w m3 5 ((([c8, c9, c10, c11, c12, c13, c14, c15, c16, c17, c18, c19, c20, c21, c22, c23, c24, c25, c26, c27] : List Value).drop 0).take (Try.prog.cellsOf 5)) := hf3 0 _ rfl
    rw [e10] at g3_0
    simp only [List.drop_zero, List.drop_succ_cons, List.take_succ_cons, List.take_zero] at g3_0
    have g3_1 : Leafy Try.prog w m3 5 ((([c8, c9, c10, c11, c12, c13, c14, c15, c16, c17, c18, c19, c20, c21, c22, c23, c24, c25, c26, c27] : List Value).drop 1).take (Try.prog.cellsOf 5)) := hf3 1 _ rfl
    rw [e10] at g3_1
    simp only [List.drop_zero, List.drop_succ_cons, List.take_succ_cons, List.take_zero] at g3_1
    have g3_2 : Leafy Try.prog w m3 45 ((([c8, c9, c10, c11, c12, c13, c14, c15, c16, c17, c18, c19, c20, c21, c22, c23, c24, c25, c26, c27] : List Value).drop 2).take (Try.prog.cellsOf 45)) := hf3 2 _ rfl
    rw [e5] at g3_2
    simp only [List.drop_zero, List.drop_succ_cons, List.take_succ_cons, List.take_zero] at g3_2
    obtain ⟨z8, q8, w8⟩ := leafy_int Try.underlying5 g3_0
    obtain rfl : c8 = _ := List.head_eq_of_cons_eq q8
    have b8 := bounds_u8 w8
    obtain ⟨x8, rfl⟩ := Int.eq_ofNat_of_zero_le b8.1
    obtain ⟨z9, q9, w9⟩ := leafy_int Try.underlying5 g3_1
    obtain rfl : c9 = _ := List.head_eq_of_cons_eq q9
    have b9 := bounds_u8 w9
    obtain ⟨x9, rfl⟩ := Int.eq_ofNat_of_zero_le b9.1
    obtain ⟨m4, _, hf4⟩ := leafy_struct Try.underlying45 g3_2
    have g4_0 : Leafy Try.prog w m4 5 ((([c10, c11, c12, c13, c14, c15, c16, c17, c18, c19, c20, c21, c22, c23, c24, c25, c26, c27] : List Value).drop 0).take (Try.prog.cellsOf 5)) := hf4 0 _ rfl
    rw [e10] at g4_0
    simp only [List.drop_zero, List.drop_succ_cons, List.take_succ_cons, List.take_zero] at g4_0
    have g4_1 : Leafy Try.prog w m4 39 ((([c10, c11, c12, c13, c14, c15, c16, c17, c18, c19, c20, c21, c22, c23, c24, c25, c26, c27] : List Value).drop 1).take (Try.prog.cellsOf 39)) := hf4 1 _ rfl
    rw [e2] at g4_1
    simp only [List.drop_zero, List.drop_succ_cons, List.take_succ_cons, List.take_zero] at g4_1
    have g4_2 : Leafy Try.prog w m4 37 ((([c10, c11, c12, c13, c14, c15, c16, c17, c18, c19, c20, c21, c22, c23, c24, c25, c26, c27] : List Value).drop 3).take (Try.prog.cellsOf 37)) := hf4 2 _ rfl
    rw [e9] at g4_2
    simp only [List.drop_zero, List.drop_succ_cons, List.take_succ_cons, List.take_zero] at g4_2
    have g4_3 : Leafy Try.prog w m4 37 ((([c10, c11, c12, c13, c14, c15, c16, c17, c18, c19, c20, c21, c22, c23, c24, c25, c26, c27] : List Value).drop 4).take (Try.prog.cellsOf 37)) := hf4 3 _ rfl
    rw [e9] at g4_3
    simp only [List.drop_zero, List.drop_succ_cons, List.take_succ_cons, List.take_zero] at g4_3
    have g4_4 : Leafy Try.prog w m4 5 ((([c10, c11, c12, c13, c14, c15, c16, c17, c18, c19, c20, c21, c22, c23, c24, c25, c26, c27] : List Value).drop 5).take (Try.prog.cellsOf 5)) := hf4 4 _ rfl
    rw [e10] at g4_4
    simp only [List.drop_zero, List.drop_succ_cons, List.take_succ_cons, List.take_zero] at g4_4
    have g4_5 : Leafy Try.prog w m4 9 ((([c10, c11, c12, c13, c14, c15, c16, c17, c18, c19, c20, c21, c22, c23, c24, c25, c26, c27] : List Value).drop 6).take (Try.prog.cellsOf 9)) := hf4 5 _ rfl
    rw [e7] at g4_5
    simp only [List.drop_zero, List.drop_succ_cons, List.take_succ_cons, List.take_zero] at g4_5
    have g4_6 : Leafy Try.prog w m4 40 ((([c10, c11, c12, c13, c14, c15, c16, c17, c18, c19, c20, c21, c22, c23, c24, c25, c26, c27] : List Value).drop 7).take (Try.prog.cellsOf 40)) := hf4 6 _ rfl
    rw [e1] at g4_6
    simp only [List.drop_zero, List.drop_succ_cons, List.take_succ_cons, List.take_zero] at g4_6
    have g4_7 : Leafy Try.prog w m4 41 ((([c10, c11, c12, c13, c14, c15, c16, c17, c18, c19, c20, c21, c22, c23, c24, c25, c26, c27] : List Value).drop 8).take (Try.prog.cellsOf 41)) := hf4 7 _ rfl
    rw [e0] at g4_7
    simp only [List.drop_zero, List.drop_succ_cons, List.take_succ_cons, List.take_zero] at g4_7
    have g4_8 : Leafy Try.prog w m4 36 ((([c10, c11, c12, c13, c14, c15, c16, c17, c18, c19, c20, c21, c22, c23, c24, c25, c26, c27] : List Value).drop 9).take (Try.prog.cellsOf 36)) := hf4 8 _ rfl
    rw [e3] at g4_8
    simp only [List.drop_zero, List.drop_succ_cons, List.take_succ_cons, List.take_zero] at g4_8
    have g4_9 : Leafy Try.prog w m4 43 ((([c10, c11, c12, c13, c14, c15, c16, c17, c18, c19, c20, c21, c22, c23, c24, c25, c26, c27] : List Value).drop 16).take (Try.prog.cellsOf 43)) := hf4 9 _ rfl
    rw [e6] at g4_9
    simp only [List.drop_zero, List.drop_succ_cons, List.take_succ_cons, List.take_zero] at g4_9
    obtain ⟨z10, q10, w10⟩ := leafy_int Try.underlying5 g4_0
    obtain rfl : c10 = _ := List.head_eq_of_cons_eq q10
    have b10 := bounds_u8 w10
    obtain ⟨x10, rfl⟩ := Int.eq_ofNat_of_zero_le b10.1
    obtain ⟨m5, _, hf5⟩ := leafy_struct Try.underlying39 g4_1
    have g5_0 : Leafy Try.prog w m5 37 ((([c11, c12] : List Value).drop 0).take (Try.prog.cellsOf 37)) := hf5 0 _ rfl
    rw [e9] at g5_0
    simp only [List.drop_zero, List.drop_succ_cons, List.take_succ_cons, List.take_zero] at g5_0
    have g5_1 : Leafy Try.prog w m5 5 ((([c11, c12] : List Value).drop 1).take (Try.prog.cellsOf 5)) := hf5 1 _ rfl
    rw [e10] at g5_1
    simp only [List.drop_zero, List.drop_succ_cons, List.take_succ_cons, List.take_zero] at g5_1
    obtain ⟨z11, q11, w11⟩ := leafy_int Try.underlying37 g5_0
    obtain rfl : c11 = _ := List.head_eq_of_cons_eq q11
    have b11 := bounds_u64 w11
    obtain ⟨x11, rfl⟩ := Int.eq_ofNat_of_zero_le b11.1
    obtain ⟨z12, q12, w12⟩ := leafy_int Try.underlying5 g5_1
    obtain rfl : c12 = _ := List.head_eq_of_cons_eq q12
    have b12 := bounds_u8 w12
    obtain ⟨x12, rfl⟩ := Int.eq_ofNat_of_zero_le b12.1
    obtain ⟨z13, q13, w13⟩ := leafy_int Try.underlying37 g4_2
    obtain rfl : c13 = _ := List.head_eq_of_cons_eq q13
    have b13 := bounds_u64 w13
    obtain ⟨x13, rfl⟩ := Int.eq_ofNat_of_zero_le b13.1
    obtain ⟨z14, q14, w14⟩ := leafy_int Try.underlying37 g4_3
    obtain rfl : c14 = _ := List.head_eq_of_cons_eq q14
    have b14 := bounds_u64 w14
    obtain ⟨x14, rfl⟩ := Int.eq_ofNat_of_zero_le b14.1
    obtain ⟨z15, q15, w15⟩ := leafy_int Try.underlying5 g4_4
    obtain rfl : c15 = _ := List.head_eq_of_cons_eq q15
    have b15 := bounds_u8 w15
    obtain ⟨x15, rfl⟩ := Int.eq_ofNat_of_zero_le b15.1
    obtain ⟨x16, q16, b16⟩ := leafy_string Try.underlying9 g4_5
    obtain rfl : c16 = _ := List.head_eq_of_cons_eq q16
    obtain ⟨x17, q17, b17⟩ := leafy_slice Try.underlying40 g4_6
    obtain rfl : c17 = _ := List.head_eq_of_cons_eq q17
    obtain ⟨x18, q18, b18⟩ := leafy_slice Try.underlying41 g4_7
    obtain rfl : c18 = _ := List.head_eq_of_cons_eq q18
    obtain ⟨m6, _, hf6⟩ := leafy_struct Try.underlying36 g4_8
    have g6_0 : Leafy Try.prog w m6 5 ((([c19, c20, c21, c22, c23, c24, c25] : List Value).drop 0).take (Try.prog.cellsOf 5)) := hf6 0 _ rfl
    rw [e10] at g6_0
    simp only [List.drop_zero, List.drop_succ_cons, List.take_succ_cons, List.take_zero] at g6_0
    have g6_1 : Leafy Try.prog w m6 34 ((([c19, c20, c21, c22, c23, c24, c25] : List Value).drop 1).take (Try.prog.cellsOf 34)) := hf6 1 _ rfl
    rw [e8] at g6_1
    simp only [List.drop_zero, List.drop_succ_cons, List.take_succ_cons, List.take_zero] at g6_1
    have g6_2 : Leafy Try.prog w m6 5 ((([c19, c20, c21, c22, c23, c24, c25] : List Value).drop 2).take (Try.prog.cellsOf 5)) := hf6 2 _ rfl
    rw [e10] at g6_2
    simp only [List.drop_zero, List.drop_succ_cons, List.take_succ_cons, List.take_zero] at g6_2
    have g6_3 : Leafy Try.prog w m6 9 ((([c19, c20, c21, c22, c23, c24, c25] : List Value).drop 3).take (Try.prog.cellsOf 9)) := hf6 3 _ rfl
    rw [e7] at g6_3
    simp only [List.drop_zero, List.drop_succ_cons, List.take_succ_cons, List.take_zero] at g6_3
    have g6_4 : Leafy Try.prog w m6 9 ((([c19, c20, c21, c22, c23, c24, c25] : List Value).drop 4).take (Try.prog.cellsOf 9)) := hf6 4 _ rfl
    rw [e7] at g6_4
    simp only [List.drop_zero, List.drop_succ_cons, List.take_succ_cons, List.take_zero] at g6_4
    have g6_5 : Leafy Try.prog w m6 9 ((([c19, c20, c21, c22, c23, c24, c25] : List Value).drop 5).take (Try.prog.cellsOf 9)) := hf6 5 _ rfl
    rw [e7] at g6_5
    simp only [List.drop_zero, List.drop_succ_cons, List.take_succ_cons, List.take_zero] at g6_5
    have g6_6 : Leafy Try.prog w m6 5 ((([c19, c20, c21, c22, c23, c24, c25] : List Value).drop 6).take (Try.prog.cellsOf 5)) := hf6 6 _ rfl
    rw [e10] at g6_6
    simp only [List.drop_zero, List.drop_succ_cons, List.take_succ_cons, List.take_zero] at g6_6
    obtain ⟨z19, q19, w19⟩ := leafy_int Try.underlying5 g6_0
    obtain rfl : c19 = _ := List.head_eq_of_cons_eq q19
    have b19 := bounds_u8 w19
    obtain ⟨x19, rfl⟩ := Int.eq_ofNat_of_zero_le b19.1
    obtain ⟨z20, q20, w20⟩ := leafy_int Try.underlying34 g6_1
    obtain rfl : c20 = _ := List.head_eq_of_cons_eq q20
    have b20 := bounds_u32 w20
    obtain ⟨x20, rfl⟩ := Int.eq_ofNat_of_zero_le b20.1
    obtain ⟨z21, q21, w21⟩ := leafy_int Try.underlying5 g6_2
    obtain rfl : c21 = _ := List.head_eq_of_cons_eq q21
    have b21 := bounds_u8 w21
    obtain ⟨x21, rfl⟩ := Int.eq_ofNat_of_zero_le b21.1
    obtain ⟨x22, q22, b22⟩ := leafy_string Try.underlying9 g6_3
    obtain rfl : c22 = _ := List.head_eq_of_cons_eq q22
    obtain ⟨x23, q23, b23⟩ := leafy_string Try.underlying9 g6_4
    obtain rfl : c23 = _ := List.head_eq_of_cons_eq q23
    obtain ⟨x24, q24, b24⟩ := leafy_string Try.underlying9 g6_5
    obtain rfl : c24 = _ := List.head_eq_of_cons_eq q24
    obtain ⟨z25, q25, w25⟩ := leafy_int Try.underlying5 g6_6
    obtain rfl : c25 = _ := List.head_eq_of_cons_eq q25
    have b25 := bounds_u8 w25
    obtain ⟨x25, rfl⟩ := Int.eq_ofNat_of_zero_le b25.1
    obtain ⟨m7, _, hf7⟩ := leafy_struct Try.underlying43 g4_9
    have g7_0 : Leafy Try.prog w m7 5 ((([c26, c27] : List Value).drop 0).take (Try.prog.cellsOf 5)) := hf7 0 _ rfl
    rw [e10] at g7_0
    simp only [List.drop_zero, List.drop_succ_cons, List.take_succ_cons, List.take_zero] at g7_0
    have g7_1 : Leafy Try.prog w m7 9 ((([c26, c27] : List Value).drop 1).take (Try.prog.cellsOf 9)) := hf7 1 _ rfl
    rw [e7] at g7_1
    simp only [List.drop_zero, List.drop_succ_cons, List.take_succ_cons, List.take_zero] at g7_1
    obtain ⟨z26, q26, w26⟩ := leafy_int Try.underlying5 g7_0
    obtain rfl : c26 = _ := List.head_eq_of_cons_eq q26
    have b26 := bounds_u8 w26
    obtain ⟨x26, rfl⟩ := Int.eq_ofNat_of_zero_le b26.1
    obtain ⟨x27, q27, b27⟩ := leafy_string Try.underlying9 g7_1
    obtain rfl : c27 = _ := List.head_eq_of_cons_eq q27
    exact ⟨⟨x0, x1, x2, x3, x4, x5, x6, x7, x8, x9, x10, x11, x12, x13, x14, x15, x16, c17, c18, x19, x20, x21, x22, x23, x24, x25, x26, x27⟩, by simp only [Ax.Fits]; exact ⟨by first | assumption | omega, by first | assumption | omega, by first | assumption | omega, by first | assumption | omega, by first | assumption | omega, by first | assumption | omega, by first | assumption | omega, by first | assumption | omega, by first | assumption | omega, by first | assumption | omega, by first | assumption | omega, by first | assumption | omega, by first | assumption | omega, by first | assumption | omega, by first | assumption | omega, by first | assumption | omega, by first | assumption | omega, by first | assumption | omega, by first | assumption | omega, by first | assumption | omega, by first | assumption | omega, by first | assumption | omega, by first | assumption | omega, by first | assumption | omega, by first | assumption | omega, by first | assumption | omega, by first | assumption | omega, by first | assumption | omega⟩, rfl⟩
/-- An act's cells, out of its command and its letter. -/
def actC (d : Nat) (c : Cm) (l : Lt) : List Value := .int .u8 (d : Int) :: ((cmC c).toList ++ (ltC l).toList)
theorem dec_act {w : World} (n : Nat) (es : List Value) (hlen : es.length = 28) (h : Leafy Try.prog w n 49 es) : ∃ (d : Nat) (c : Cm) (l : Lt), (d < 256 ∧ c.Fits ∧ l.Fits ∧ Sl l.votes ∧ Sl l.items) ∧ es = actC d c l := by
  obtain ⟨x, hx, he⟩ := dec_ax n es hlen h
  obtain ⟨h0, h1, h2, h3, h4, h5, h6, h7, h8, h9, h10, h11, h12, h13, h14, h15, h16, h17, h18, h19, h20, h21, h22, h23, h24, h25, h26, h27⟩ := hx
  exact ⟨x.act, ⟨x.xclient, x.xseq, x.xkind, x.xkey, x.xold, x.xnew, x.xset⟩, ⟨x.src, x.dst, x.lk, x.bn, x.br, x.base, x.slot, x.node, x.value, x.votes, x.items, ⟨x.yclient, x.yseq, x.ykind, x.ykey, x.yold, x.ynew, x.yset⟩, x.code, x.text⟩,
    ⟨h0, ⟨h1, h2, h3, h4, h5, h6, h7⟩, ⟨h8, h9, h10, h15, ⟨h19, h20, h21, h22, h23, h24, h25⟩, h26, h17.one, h18.one⟩, h17, h18⟩, he⟩
theorem open_act {H : Type} {enc : TypeId × Value → H} {w : World} {v : Value} {d : DataW H} {p : List MemPlace} (h : DataW.Trod enc Try.prog w 0 (fun _ => true) true 49 v d p) : ∃ (a : Nat) (c : Cm) (l : Lt), v = .agg (actC a c l).toArray ∧ a < 256 ∧ c.Fits ∧ l.Fits := by
  obtain ⟨n, hn⟩ := leafy_trod h
  have hlen : v.cells.toList.length = 28 := by
    obtain ⟨m, hl, _⟩ := leafy_struct Try.underlying49 hn
    rw [hl]
    kernel_rfl
  obtain ⟨a, c, l, hf, he⟩ := dec_act n _ hlen hn
  refine ⟨a, c, l, ?_, hf.1, hf.2.1, hf.2.2.1⟩
  cases v with
  | agg cs =>
    have e : cs.toList = actC a c l := he
    rw [← e]
  | _ => simp [Value.cells] at hlen
/-- An act, as a thing; its cells. -/
structure Ac where
  act : Nat
  x : Cm
  l : Lt
def acC (a : Ac) : List Value := actC a.act a.x a.l
structure Ac.Fits (a : Ac) : Prop where
  h1 : a.act < 256
  h2 : a.x.Fits
  h3 : a.l.Fits
  h4 : Sl a.l.votes
  h5 : Sl a.l.items
  h6 : a.l.value.length ≤ 9223372036854775807
  h7 : a.l.text.length ≤ 9223372036854775807
theorem acC_len (a : Ac) : (acC a).length = 28 := rfl
theorem dec_ac {w : World} (n : Nat) (es : List Value) (hlen : es.length = 28) (h : Leafy Try.prog w n 49 es) : ∃ x : Ac, x.Fits ∧ es = acC x := by
  obtain ⟨x, hx, he⟩ := dec_ax n es hlen h
  obtain ⟨h0, h1, h2, h3, h4, h5, h6, h7, h8, h9, h10, h11, h12, h13, h14, h15, h16, h17, h18, h19, h20, h21, h22, h23, h24, h25, h26, h27⟩ := hx
  exact ⟨⟨x.act, ⟨x.xclient, x.xseq, x.xkind, x.xkey, x.xold, x.xnew, x.xset⟩, ⟨x.src, x.dst, x.lk, x.bn, x.br, x.base, x.slot, x.node, x.value, x.votes, x.items, ⟨x.yclient, x.yseq, x.ykind, x.ykey, x.yold, x.ynew, x.yset⟩, x.code, x.text⟩⟩,
    ⟨h0, ⟨h1, h2, h3, h4, h5, h6, h7⟩, ⟨h8, h9, h10, h15, ⟨h19, h20, h21, h22, h23, h24, h25⟩, h26, h17.one, h18.one⟩, h17, h18, h16, h27⟩, he⟩
set_option maxRecDepth 100000 in
theorem open_acts {H : Type} {enc : TypeId × Value → H} {w : World} {base : Nat} {v : Value} {d : DataW H} {p : List MemPlace} {r : Reach} (h : DataW.Trod enc Try.prog w 0 (fun _ => true) true 22 v d p) (hk : Value.okWide Try.prog w r base 22 v) :
    ∃ (A : Option Addr) (c : Nat) (l : List Ac), v = .slice A l.length c ∧ Rows w A 28 acC l ∧ (∀ x ∈ l, x.Fits) ∧ l.length ≤ 9223372036854775807 :=
  open_rows Try.underlying22 (by kernel_rfl) (fun x => by rw [acC_len]; omega) dec_ac h hk
end Go.Proofs.Yteiaiilfekojfaa.Cli
