/- Acts on a chain; what stays while a chain turns; chains whose tail makes a chain. Conditions: those each law names. -/
import Derived.Test.YtbamfnlgapchkaaChDuo
import Derived.Test.YtbamfnlgapchkaaChRRel
import Derived.Test.YtbamfnlgapchkaaOpenRows
namespace Go.Proofs.Ytbamfnlgapchkaa.Chn
open Go.RowKit Mem DrawInv

structure Ax where
  act : Nat
  s : Nat
  n : Nat
def Ax.Fits (x : Ax) : Prop := x.act < 256 ∧ x.s < 256 ∧ x.n < 18446744073709551616
def axC (x : Ax) : List Value := [.int .u8 (x.act : Int), .int .u8 (x.s : Int), .int .u64 (x.n : Int)]
set_option linter.unusedSimpArgs false in
set_option maxRecDepth 100000 in
theorem dec_ax {w : World} : ∀ n es, es.length = 3 → Leafy Try.prog w n 51 es → ∃ x, Ax.Fits x ∧ es = axC x := by
  intro n es hlen h
  match es, hlen with
  | [c0, c1, c2], _ =>
    have e0 : Try.prog.cellsOf 26 = 1 := by kernel_rfl
    have e1 : Try.prog.cellsOf 5 = 1 := by kernel_rfl
    obtain ⟨m1, _, hf1⟩ := leafy_struct Try.underlying51 h
    have g1_0 : Leafy Try.prog w m1 5 ((([c0, c1, c2] : List Value).drop 0).take (Try.prog.cellsOf 5)) := hf1 0 _ rfl
    rw [e1] at g1_0
    simp only [List.drop_zero, List.drop_succ_cons, List.take_succ_cons, List.take_zero] at g1_0
    have g1_1 : Leafy Try.prog w m1 5 ((([c0, c1, c2] : List Value).drop 1).take (Try.prog.cellsOf 5)) := hf1 1 _ rfl
    rw [e1] at g1_1
    simp only [List.drop_zero, List.drop_succ_cons, List.take_succ_cons, List.take_zero] at g1_1
    have g1_2 : Leafy Try.prog w m1 26 ((([c0, c1, c2] : List Value).drop 2).take (Try.prog.cellsOf 26)) := hf1 2 _ rfl
    rw [e0] at g1_2
    simp only [List.drop_zero, List.drop_succ_cons, List.take_succ_cons, List.take_zero] at g1_2
    obtain ⟨z0, q0, w0⟩ := leafy_int Try.underlying5 g1_0
    obtain rfl : c0 = _ := List.head_eq_of_cons_eq q0
    have b0 := bounds_u8 w0
    obtain ⟨x0, rfl⟩ := Int.eq_ofNat_of_zero_le b0.1
    obtain ⟨z1, q1, w1⟩ := leafy_int Try.underlying5 g1_1
    obtain rfl : c1 = _ := List.head_eq_of_cons_eq q1
    have b1 := bounds_u8 w1
    obtain ⟨x1, rfl⟩ := Int.eq_ofNat_of_zero_le b1.1
    obtain ⟨z2, q2, w2⟩ := leafy_int Try.underlying26 g1_2
    obtain rfl : c2 = _ := List.head_eq_of_cons_eq q2
    have b2 := bounds_u64 w2
    obtain ⟨x2, rfl⟩ := Int.eq_ofNat_of_zero_le b2.1
    exact ⟨⟨x0, x1, x2⟩, by simp only [Ax.Fits]; omega, rfl⟩
theorem axC_len (a : Ax) : (axC a).length = 3 := rfl
set_option maxRecDepth 100000 in
theorem open_axs {H : Type} {enc : TypeId × Value → H} {w : World} {base : Nat} {v : Value} {d : DataW H} {p : List MemPlace} {r : Reach} (h : DataW.Trod enc Try.prog w 0 (fun _ => true) true 48 v d p) (hk : Value.okWide Try.prog w r base 48 v) :
    ∃ (A : Option Addr) (c : Nat) (l : List Ax), v = .slice A l.length c ∧ Rows w A 3 axC l ∧ (∀ x ∈ l, x.Fits) ∧ l.length ≤ 9223372036854775807 :=
  open_rows Try.underlying48 (by kernel_rfl) (fun x => by rw [axC_len]; omega) dec_ax h hk
/-- Its tail makes it a chain. -/
def Wide (c : Ch) : Prop := c.low = 0 ∨ 3 ≤ c.dirs.length
theorem wide_new (s : Nat) : Wide ⟨0, [s]⟩ := .inl rfl
theorem wide_push {c : Ch} (h : Wide c) (s : Nat) : Wide (c.push s).1 := by
  unfold Ch.push
  split
  · exact h
  · split
    · exact h
    · rcases h with h | h
      · exact .inl h
      · exact .inr (by simp; omega)
theorem wide_release {c : Ch} (h : Wide c) (b : Nat) : Wide (c.release b).1 := by
  unfold Ch.release
  split
  · exact h
  · rename_i h1
    split
    · rename_i h2
      refine .inr ?_
      unfold Ch.top at h1
      simp
      omega
    · exact h
theorem wide_of {c : Ch} (hc : c.Ok) (h : Wide c) : ofOk c.top c.tail = true := by
  have hl : c.tail.length = min c.dirs.length 3 := by unfold Ch.tail; rw [List.length_drop]; omega
  have hn := hc.ne
  unfold ofOk
  rw [Bool.and_eq_true]
  refine ⟨decide_eq_true ⟨hc.up, ?_⟩, List.all_eq_true.2 fun x hx => hc.dir x (List.mem_of_mem_drop hx)⟩
  rw [hl]
  unfold Ch.top
  rcases h with h | h
  · rw [h]; omega
  · omega
theorem wide_ofCh {top : Nat} {tail : List Nat} (h : ofOk top tail = true) : Wide (ofCh top tail) ∧ (ofCh top tail).dirs.length ≤ 3 := by
  unfold ofOk at h
  rw [Bool.and_eq_true] at h
  have := of_decide_eq_true h.1
  unfold Wide ofCh
  simp only
  omega
theorem release_len (c : Ch) (b : Nat) : (c.release b).1.dirs.length ≤ c.dirs.length := by
  unfold Ch.release
  split
  · exact Nat.le_refl _
  · split
    · simp
    · exact Nat.le_refl _
/-- What stays from the world wl on: all but the chain's own, and the block k0. -/
def Stay (wl : World) (g0 : Nat) (v0 : Value) (k0 g : Nat) (v : Value) (w : World) : Prop := ∀ k, Far wl g0 v0 k → k ≠ k0 → w.heap[k]? = wl.heap[k]? ∧ Far w g v k
section
variable {wl w w' : World} {B B' g0 k0 g g' : Nat} {v0 v v' : Value} {c c' : Ch}
theorem Stay.start (wl : World) (g0 : Nat) (v0 : Value) (k0 : Nat) : Stay wl g0 v0 k0 g0 v0 wl := fun _ h _ => ⟨rfl, h⟩
theorem Stay.below (h : Stay wl g0 v0 k0 g v w) (hb : Below w.heap.size w w') : Stay wl g0 v0 k0 g v w' := fun k hk hn => ⟨(hb.block k (h k hk hn).2.lt).trans (h k hk hn).1, (h k hk hn).2.below hb⟩
theorem Stay.step (h : Stay wl g0 v0 k0 g v w) (s : QStep g v w v' w') : Stay wl g0 v0 k0 g v' w' := fun k hk hn => ⟨(s.heap (h k hk hn).2).trans (h k hk hn).1, (h k hk hn).2.step s⟩
theorem Stay.grown (h : Stay wl g0 v0 k0 g v w) (hgr : w.grownBy w' (some k0)) : Stay wl g0 v0 k0 g v w' := fun k hk hn => ⟨(hgr.block k (h k hk hn).2.lt (fun e => hn (Option.some.inj e))).trans (h k hk hn).1, ⟨Nat.lt_of_lt_of_le (h k hk hn).2.lt hgr.size, (h k hk hn).2.ne, (h k hk hn).2.nv⟩⟩
theorem ChS.far_old (q : ChS B g c v w) {r : Nat} (hr : r < B) (hB : B ≤ w.heap.size) : Far w g v r :=
  ⟨by omega, fun e => by have := q.hB; omega, fun e => by have := (q.ho.lt r e).1; omega⟩
/-- A new chain in its place. -/
theorem Stay.fresh (h : Stay wl g0 v0 k0 g v w) (q : ChS w.heap.size g' c' v' w') (hb : Below w.heap.size w w') : Stay wl g0 v0 k0 g' v' w' := fun k hk hn => ⟨(hb.block k (h k hk hn).2.lt).trans (h k hk hn).1, q.far_old (h k hk hn).2.lt hb.size⟩
theorem ChS.stay {B2 g2 : Nat} {c2 : Ch} {v2 : Value} (q : ChS B2 g2 c2 v2 wl) (h : Stay wl g0 v0 k0 g v w) (h1 : Far wl g0 v0 g2) (n1 : g2 ≠ k0) (h2 : ∀ r, v2.ownBlock = some r → Far wl g0 v0 r ∧ r ≠ k0) : ChS B2 g2 c2 v2 w :=
  ⟨(h g2 h1 n1).1.trans q.hg, own1_keep q.ho (fun r hr => (h r (h2 r hr).1 (h2 r hr).2).1), q.hB, q.ok⟩
end
end Go.Proofs.Ytbamfnlgapchkaa.Chn
