/- A table as an argument, opened. Conditions: the argument can be read. -/
import Derived.Test.YtgbnaifjdfoahaaSessTakeP
import Derived.Test.YtgbnaifjdfoahaaOpenRows
namespace Go.Proofs.Ytgbnaifjdfoahaa.Sess
open Go.Joins Go.RowKit Go.WideShapes Go.ChangeShapes Go.Deep

structure Lt where
  seq : Nat
  code : Nat
  text : List UInt8
def Lt.Fits (x : Lt) : Prop := x.seq < 4294967296 ∧ x.code < 256 ∧ x.text.length ≤ 9223372036854775807
def ltC (x : Lt) : List Value := [.int .u32 (x.seq : Int), .int .u8 (x.code : Int), .string ⟨x.text.toArray⟩]
set_option linter.unusedSimpArgs false in
theorem dec_lt {w : World} : ∀ n es, es.length = 3 → Leafy Try.prog w n 29 es → ∃ x, Lt.Fits x ∧ es = ltC x := by
  intro n es hlen h
  match es, hlen with
  | [c0, c1, c2], _ =>
    have e0 : Try.prog.cellsOf 27 = 2 := by kernel_rfl
    have e1 : Try.prog.cellsOf 9 = 1 := by kernel_rfl
    have e2 : Try.prog.cellsOf 25 = 1 := by kernel_rfl
    have e3 : Try.prog.cellsOf 5 = 1 := by kernel_rfl
    obtain ⟨m1, _, hf1⟩ := leafy_struct Try.underlying29 h
    have g1_0 : Leafy Try.prog w m1 25 ((([c0, c1, c2] : List Value).drop 0).take (Try.prog.cellsOf 25)) := hf1 0 _ rfl
    rw [e2] at g1_0
    simp only [List.drop_zero, List.drop_succ_cons, List.take_succ_cons, List.take_zero] at g1_0
    have g1_1 : Leafy Try.prog w m1 27 ((([c0, c1, c2] : List Value).drop 1).take (Try.prog.cellsOf 27)) := hf1 1 _ rfl
    rw [e0] at g1_1
    simp only [List.drop_zero, List.drop_succ_cons, List.take_succ_cons, List.take_zero] at g1_1
    obtain ⟨z0, q0, w0⟩ := leafy_int Try.underlying25 g1_0
    obtain rfl : c0 = _ := List.head_eq_of_cons_eq q0
    have b0 := bounds_u32 w0
    obtain ⟨x0, rfl⟩ := Int.eq_ofNat_of_zero_le b0.1
    obtain ⟨m2, _, hf2⟩ := leafy_struct Try.underlying27 g1_1
    have g2_0 : Leafy Try.prog w m2 5 ((([c1, c2] : List Value).drop 0).take (Try.prog.cellsOf 5)) := hf2 0 _ rfl
    rw [e3] at g2_0
    simp only [List.drop_zero, List.drop_succ_cons, List.take_succ_cons, List.take_zero] at g2_0
    have g2_1 : Leafy Try.prog w m2 9 ((([c1, c2] : List Value).drop 1).take (Try.prog.cellsOf 9)) := hf2 1 _ rfl
    rw [e1] at g2_1
    simp only [List.drop_zero, List.drop_succ_cons, List.take_succ_cons, List.take_zero] at g2_1
    obtain ⟨z1, q1, w1⟩ := leafy_int Try.underlying5 g2_0
    obtain rfl : c1 = _ := List.head_eq_of_cons_eq q1
    have b1 := bounds_u8 w1
    obtain ⟨x1, rfl⟩ := Int.eq_ofNat_of_zero_le b1.1
    obtain ⟨x2, q2, b2⟩ := leafy_string Try.underlying9 g2_1
    obtain rfl : c2 = _ := List.head_eq_of_cons_eq q2
    exact ⟨⟨x0, x1, x2⟩, by simp only [Lt.Fits]; omega, rfl⟩
def Ent.Fits (e : Ent) : Prop := e.seq < 4294967296 ∧ e.code < 256 ∧ e.text.size ≤ 9223372036854775807
set_option maxRecDepth 100000 in
theorem open_tab {H : Type} {enc : TypeId × Value → H} {w : World} {v : Value} {d : DataW H} {p : List MemPlace}
    (h : DataW.Trod enc Try.prog w 0 (fun _ => true) true 31 v d p) : ∃ t : Nat → Ent, v = tabV t ∧ ∀ c, c < 4 → (t c).Fits := by
  obtain ⟨n, hn⟩ := leafy_trod h
  cases n with
  | zero => exact hn.elim
  | succ n =>
    unfold Leafy at hn
    rw [Try.underlying31] at hn
    simp only at hn
    obtain ⟨hlen, hi⟩ := hn
    have e12 : Try.prog.cellsOf 31 = 12 := by kernel_rfl
    have e3 : Try.prog.cellsOf 29 = 3 := by kernel_rfl
    rw [e12] at hlen
    rw [e3] at hi
    have hv : ∃ cs : Array Value, v = .agg cs := by
      cases v with
      | agg cs => exact ⟨cs, rfl⟩
      | _ => simp [Value.cells] at hlen
    obtain ⟨⟨cs⟩, rfl⟩ := hv
    simp only [Value.cells] at hlen hi
    obtain ⟨x0, f0, g0⟩ := dec_lt n _ (by simp [hlen]) (hi 0 (by omega))
    obtain ⟨x1, f1, g1⟩ := dec_lt n _ (by simp [hlen]) (hi 1 (by omega))
    obtain ⟨x2, f2, g2⟩ := dec_lt n _ (by simp [hlen]) (hi 2 (by omega))
    obtain ⟨x3, f3, g3⟩ := dec_lt n _ (by simp [hlen]) (hi 3 (by omega))
    have hcs : cs = ltC x0 ++ (ltC x1 ++ (ltC x2 ++ ltC x3)) := by
      rw [← g0, ← g1, ← g2, ← g3]
      match cs, hlen with
      | [c0, c1, c2, c3, c4, c5, c6, c7, c8, c9, c10, c11], _ => rfl
    refine ⟨fun c => match c with | 0 => ⟨x0.seq, x0.code, ⟨x0.text.toArray⟩⟩ | 1 => ⟨x1.seq, x1.code, ⟨x1.text.toArray⟩⟩ | 2 => ⟨x2.seq, x2.code, ⟨x2.text.toArray⟩⟩ | _ => ⟨x3.seq, x3.code, ⟨x3.text.toArray⟩⟩, ?_, fun c hc => ?_⟩
    · subst hcs; rfl
    · rcases (show c = 0 ∨ c = 1 ∨ c = 2 ∨ c = 3 by omega) with rfl | rfl | rfl | rfl
      · exact ⟨f0.1, f0.2.1, by have := f0.2.2; simpa [ByteArray.size] using this⟩
      · exact ⟨f1.1, f1.2.1, by have := f1.2.2; simpa [ByteArray.size] using this⟩
      · exact ⟨f2.1, f2.2.1, by have := f2.2.2; simpa [ByteArray.size] using this⟩
      · exact ⟨f3.1, f3.2.1, by have := f3.2.2; simpa [ByteArray.size] using this⟩
end Go.Proofs.Ytgbnaifjdfoahaa.Sess
