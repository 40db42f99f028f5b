/- The methods of a queue of commands as steps: what becomes of the queue, and what stays. Acts as arguments. The closed run of chapter 21's laws. Conditions: those each law names. -/
import Derived.Test.YtgpdggojajjppaaBatRP
import Derived.Test.YtgpdggojajjppaaCmdGreat
import Derived.Test.YtgpdggojajjppaaCmdSame
import Derived.Test.YtgpdggojajjppaaOpenRows
namespace Go.Proofs.Ytgpdggojajjppaa.Bat
open Go.Joins Go.RowKit Go.WideShapes Go.ChangeShapes Go.Deep Wire Cmd DrawInv

/-- A queue lies in its own memory. -/
structure QS (B g : Nat) (l : List Cm) (v : Value) (w : World) : Prop where
  hg : Blk w g 105 #[v]
  ho : w.ownsRow B 36 7 v l.length (l.flatMap cmL)
  hB : B ≤ g
structure QStep (g : Nat) (v : Value) (w : World) (v' : Value) (w' : World) : Prop where
  out : Outs (g :: v.ownBlock.toList) w w'
  new : ∀ r, v'.ownBlock = some r → v.ownBlock = some r ∨ w.heap.size ≤ r
/-- A block apart from the queue's. -/
structure Far (w : World) (g : Nat) (v : Value) (r : Nat) : Prop where
  lt : r < w.heap.size
  ne : r ≠ g
  nv : v.ownBlock ≠ some r
section
variable {B g : Nat} {l : List Cm} {v v' : Value} {w w' : World}
theorem QS.below (q : QS B g l v w) (hb : Below w.heap.size w w') : QS B g l v w' := ⟨q.hg.below hb q.hg.lt, own_below q.ho hb (fun r hr => (q.ho.lt r hr).2), q.hB⟩
theorem QStep.of_below (hb : Below w.heap.size w w') : QStep g v w v w' := ⟨Outs.of_below hb, fun _ h => .inl h⟩
theorem Far.step {r : Nat} (h : Far w g v r) (s : QStep g v w v' w') : Far w' g v' r := ⟨Nat.lt_of_lt_of_le h.lt s.out.size, h.ne, fun e => by
  rcases s.new r e with h' | h'
  · exact h.nv h'
  · have := h.lt; omega⟩
theorem Far.out {r : Nat} (h : Far w g v r) : r ∉ (g :: v.ownBlock.toList) := fun hm => by
  rcases List.mem_cons.1 hm with h' | h'
  · exact h.ne h'
  · exact h.nv (by simpa using h')
theorem Far.below {r : Nat} (h : Far w g v r) (hb : Below w.heap.size w w') : Far w' g v r := ⟨Nat.lt_of_lt_of_le h.lt hb.size, h.ne, h.nv⟩
theorem QStep.heap {r : Nat} (s : QStep g v w v' w') (h : Far w g v r) : w'.heap[r]? = w.heap[r]? := s.out.block r h.lt h.out
theorem QStep.bw {w0 : World} (s : QStep g v w v' w') (q : QS B g l v w) (bw : Below B w0 w) (hs : B ≤ w.heap.size) : Below B w0 w' :=
  bw.trans (s.out.below hs (fun k hk => by
    rcases List.mem_cons.1 hk with rfl | h'
    · exact q.hB
    · exact (q.ho.lt k (by simpa using h')).1))
theorem QStep.blk {r : Nat} {t : TypeId} {cs : Array Value} (s : QStep g v w v' w') (h : Far w g v r) (hb : Blk w r t cs) : Blk w' r t cs := (s.heap h).trans hb
theorem QStep.cell {p : Addr} (s : QStep g v w v' w') (h : Far w g v p.block) : w'.cell? p = w.cell? p := World.cell?_of_block (s.heap h)
theorem QStep.rows {A : Option Addr} {m : List Cm} (s : QStep g v w v' w') (h : Rows w A 7 cmL m) (hf : ∀ ad, A = some ad → Far w g v ad.block) : Rows w' A 7 cmL m := by
  intro k x hk
  obtain ⟨ad, rfl, hlt, h0⟩ := h k x hk
  exact ⟨ad, rfl, Nat.lt_of_lt_of_le hlt s.out.size, fun j u hu => (s.cell (by rw [block_of_add]; exact hf ad rfl)).trans (h0 j u hu)⟩
theorem far_new {r : Nat} (q : QS B g l v w) (hr : w.heap.size ≤ r) (hl : r < w'.heap.size) : Far w' g v r := ⟨hl, fun e => by have := q.hg.lt; omega, fun e => by have := (q.ho.lt r e).2; omega⟩
theorem far_own {r : Nat} {m : List Cm} {u : Value} (q : QS B g l v w) (hne : u.ownBlock ≠ v.ownBlock) (hu : w.ownsRow B 36 7 u m.length (m.flatMap cmL)) (hr : u.ownBlock = some r) : Far w g v r :=
  ⟨(hu.lt r hr).2, fun e => own_ne hu q.hg (by rw [← e]; exact hr), fun e => hne (by rw [hr, e])⟩
/-- What was told lies apart. -/
def UFar (w : World) (g : Nat) (v u : Value) : Prop := ∀ r, u.ownBlock = some r → Far w g v r
theorem UFar.step {u : Value} (h : UFar w g v u) (s : QStep g v w v' w') : UFar w' g v' u := fun r hr => (h r hr).step s
theorem UFar.below {u : Value} (h : UFar w g v u) (hb : Below w.heap.size w w') : UFar w' g v u := fun r hr => (h r hr).below hb
theorem Lies.step {u : Value} {m : List Cm} (h : Lies w B u m) (s : QStep g v w v' w') (hf : UFar w g v u) : Lies w' B u m := by
  rcases h with h | ⟨r, c, cur, rfl, hb, hk, hs, ht⟩
  · exact .inl h
  · exact .inr ⟨r, c, cur, rfl, hb, s.blk (hf r rfl) hk, hs, ht⟩
theorem Lies.below {u : Value} {m : List Cm} (h : Lies w B u m) (hb : Below w.heap.size w w') : Lies w' B u m := by
  rcases h with h | ⟨r, c, cur, rfl, hbr, hk, hs, ht⟩
  · exact .inl h
  · exact .inr ⟨r, c, cur, rfl, hbr, hk.below hb hk.lt, hs, ht⟩
theorem Lies.rows_at {u : Value} {m : List Cm} (h : Lies w B u m) : ∃ A c, u = .slice A m.length c ∧ Rows w A 7 cmL m ∧ ∀ ad, A = some ad → u.ownBlock = some ad.block ∧ B ≤ ad.block := by
  have h0 := h
  obtain ⟨A, c, rfl, hr, _⟩ := h.rows
  refine ⟨A, c, rfl, hr, fun ad e => ?_⟩
  subst e
  rcases h0 with ⟨h', _⟩ | ⟨r, c', cur, hv, hb, _⟩
  · cases h'
  · cases hv; exact ⟨rfl, hb⟩
theorem put_q (q : QS B g l v w) (hs : B ≤ w.heap.size) (hl : l.length ≤ 90000) (c : Cm) (hc : c.Fits) : Calls Try.prog 37 #[.pointer (some ⟨g, 0, none⟩), cmV c] w fun e w' => e = .returned (.int .i64 ((putQ l c).2 : Int)) ∧ ∃ v', QS B g (putQ l c).1 v' w' ∧ QStep g v w v' w' :=
  (put_any g l hl c hc B v w hs q.hg q.ho).mono fun _ _ ⟨he, v', h1, h2, h3, h4⟩ => ⟨he, v', ⟨h1, h2, q.hB⟩, ⟨h3, h4⟩⟩
theorem done_q (q : QS B g l v w) (hl : l.length ≤ 90000) (k s : Nat) : Calls Try.prog 34 #[.pointer (some ⟨g, 0, none⟩), .int .u8 (k : Int), .int .u32 (s : Int)] w fun e w' => (∃ u, e = .returned u) ∧ ∃ v', QS B g (doneQ l k s) v' w' ∧ QStep g v w v' w' :=
  (done_any g l (by omega) k s B v w q.hg q.ho).mono fun _ _ ⟨he, v', h1, h2, h3, h4⟩ => ⟨he, v', ⟨h1, h2, q.hB⟩, ⟨h3, h4⟩⟩
theorem all_q (q : QS B g l v w) (hs : B ≤ w.heap.size) (hl : l.length ≤ 90000) : Calls Try.prog 38 #[.pointer (some ⟨g, 0, none⟩)] w fun e w' => ∃ u, e = .returned u ∧ Lies w' B u l ∧ UFar w' g v u ∧ (∀ r, u.ownBlock = some r → w.heap.size ≤ r) ∧ Below w.heap.size w w' :=
  (all_any g l (by omega) B v w q.hg q.ho).mono fun _ _ ⟨u, he, h1, h2⟩ => ⟨u, he, Lies.of_own (h1.mono hs), fun r hr => far_new q (h1.lt r hr).1 (h1.lt r hr).2, fun r hr => (h1.lt r hr).1, h2⟩
theorem take_q (q : QS B g l v w) (hl : l.length ≤ 90000) (m : Int) (hm : m ≤ 9223372036854775807) : Calls Try.prog 31 #[.pointer (some ⟨g, 0, none⟩), .int .i64 m] w fun e w' => ∃ u, e = .returned u ∧ Lies w' B u (l.take (takeN l m)) ∧ ∃ v', UFar w' g v' u ∧ QS B g (l.drop (takeN l m)) v' w' ∧ QStep g v w v' w' ∧ (∀ r, u.ownBlock = some r → v.ownBlock = some r) :=
  (take_any g l (by omega) m hm B q.hB v w q.hg q.ho).mono fun _ w' ⟨u, v', he, h1, h2, h3, h4, h5, h6⟩ => ⟨u, he, h1, v', fun r hr => by
    obtain ⟨h7, h8⟩ := h2 r hr
    have h9 := q.ho.lt r h7
    exact ⟨Nat.lt_of_lt_of_le h9.2 h5.size, fun e => own_ne q.ho q.hg (by rw [h7, e]), h8⟩, ⟨h3, h4, q.hB⟩, ⟨⟨h5.os, h5.tape, h5.output, h5.size, fun k hk hn => h5.block k hk (fun e => hn (by cases e; simp))⟩, h6⟩, fun r hr => (h2 r hr).1⟩
theorem new_q (w : World) : Calls Try.prog 30 #[] w fun e w' => ∃ g, e = .returned (.pointer (some ⟨g, 0, none⟩)) ∧ QS w.heap.size g [] (.slice none 0 0) w' ∧ Below w.heap.size w w' :=
  (new_any w).mono fun _ _ ⟨he, hw⟩ => ⟨w.heap.size, he, by subst hw; exact ⟨Blk.new _ _ _, World.ownsRow_nil _ _ _ _, Nat.le_refl _⟩, by subst hw; exact (Below.refl _ w).alloc (Nat.le_refl _) _⟩
end
/-- An act on a queue. -/
structure Ba where
  act : Nat
  n : Int
  c : Cm
structure Ba.Fits (a : Ba) : Prop where
  h1 : a.act < 256
  h2 : a.n ≤ 9223372036854775807
  h3 : a.c.Fits
def baC (a : Ba) : List Value := [.int .u8 (a.act : Int), .int .i64 a.n, .int .u8 (a.c.client : Int), .int .u32 (a.c.seq : Int), .int .u8 (a.c.kind : Int), .string ⟨a.c.key.toArray⟩, .string ⟨a.c.old.toArray⟩, .string ⟨a.c.new.toArray⟩, .int .u8 (a.c.set : Int)]
theorem baC_len (a : Ba) : (baC a).length = 9 := rfl
structure Bx where
  act : Nat
  n : Int
  client : Nat
  seq : Nat
  kind : Nat
  key : List UInt8
  old : List UInt8
  new : List UInt8
  set : Nat
def Bx.Fits (x : Bx) : Prop := x.act < 256 ∧ -9223372036854775808 ≤ x.n ∧ x.n ≤ 9223372036854775807 ∧ x.client < 256 ∧ x.seq < 4294967296 ∧ x.kind < 256 ∧ x.key.length ≤ 9223372036854775807 ∧ x.old.length ≤ 9223372036854775807 ∧ x.new.length ≤ 9223372036854775807 ∧ x.set < 256
def bxC (x : Bx) : List Value := [.int .u8 (x.act : Int), .int .i64 x.n, .int .u8 (x.client : Int), .int .u32 (x.seq : Int), .int .u8 (x.kind : Int), .string ⟨x.key.toArray⟩, .string ⟨x.old.toArray⟩, .string ⟨x.new.toArray⟩, .int .u8 (x.set : Int)]
set_option linter.unusedSimpArgs false in
set_option maxRecDepth 100000 in
theorem dec_bx {w : World} : ∀ n es, es.length = 9 → Leafy Try.prog w n 73 es → ∃ x, Bx.Fits x ∧ es = bxC x := by
  intro n es hlen h
  match es, hlen with
  | [c0, c1, c2, c3, c4, c5, c6, c7, c8], _ =>
    have e0 : Try.prog.cellsOf 3 = 1 := by kernel_rfl
    have e1 : Try.prog.cellsOf 36 = 7 := by kernel_rfl
    have e2 : Try.prog.cellsOf 9 = 1 := by kernel_rfl
    have e3 : Try.prog.cellsOf 34 = 1 := by kernel_rfl
    have e4 : Try.prog.cellsOf 5 = 1 := by kernel_rfl
    obtain ⟨m1, _, hf1⟩ := leafy_struct Try.underlying73 h
    have g1_0 : Leafy Try.prog w m1 5 ((([c0, c1, c2, c3, c4, c5, c6, c7, c8] : List Value).drop 0).take (Try.prog.cellsOf 5)) := hf1 0 _ rfl
    rw [e4] at g1_0
    simp only [List.drop_zero, List.drop_succ_cons, List.take_succ_cons, List.take_zero] at g1_0
    have g1_1 : Leafy Try.prog w m1 3 ((([c0, c1, c2, c3, c4, c5, c6, c7, c8] : List Value).drop 1).take (Try.prog.cellsOf 3)) := hf1 1 _ rfl
    rw [e0] at g1_1
    simp only [List.drop_zero, List.drop_succ_cons, List.take_succ_cons, List.take_zero] at g1_1
    have g1_2 : Leafy Try.prog w m1 36 ((([c0, c1, c2, c3, c4, c5, c6, c7, c8] : List Value).drop 2).take (Try.prog.cellsOf 36)) := hf1 2 _ rfl
    rw [e1] at g1_2
    simp only [List.drop_zero, List.drop_succ_cons, List.take_succ_cons, List.take_zero] at g1_2
    obtain ⟨z0, q0, w0⟩ := leafy_int Try.underlying5 g1_0
    obtain rfl : c0 = _ := List.head_eq_of_cons_eq q0
    have b0 := bounds_u8 w0
    obtain ⟨x0, rfl⟩ := Int.eq_ofNat_of_zero_le b0.1
    obtain ⟨z1, q1, w1⟩ := leafy_int Try.underlying3 g1_1
    obtain rfl : c1 = _ := List.head_eq_of_cons_eq q1
    have b1 := bounds_i64 w1
    obtain ⟨m2, _, hf2⟩ := leafy_struct Try.underlying36 g1_2
    have g2_0 : Leafy Try.prog w m2 5 ((([c2, c3, c4, c5, c6, c7, c8] : List Value).drop 0).take (Try.prog.cellsOf 5)) := hf2 0 _ rfl
    rw [e4] at g2_0
    simp only [List.drop_zero, List.drop_succ_cons, List.take_succ_cons, List.take_zero] at g2_0
    have g2_1 : Leafy Try.prog w m2 34 ((([c2, c3, c4, c5, c6, c7, c8] : List Value).drop 1).take (Try.prog.cellsOf 34)) := hf2 1 _ rfl
    rw [e3] at g2_1
    simp only [List.drop_zero, List.drop_succ_cons, List.take_succ_cons, List.take_zero] at g2_1
    have g2_2 : Leafy Try.prog w m2 5 ((([c2, c3, c4, c5, c6, c7, c8] : List Value).drop 2).take (Try.prog.cellsOf 5)) := hf2 2 _ rfl
    rw [e4] at g2_2
    simp only [List.drop_zero, List.drop_succ_cons, List.take_succ_cons, List.take_zero] at g2_2
    have g2_3 : Leafy Try.prog w m2 9 ((([c2, c3, c4, c5, c6, c7, c8] : List Value).drop 3).take (Try.prog.cellsOf 9)) := hf2 3 _ rfl
    rw [e2] at g2_3
    simp only [List.drop_zero, List.drop_succ_cons, List.take_succ_cons, List.take_zero] at g2_3
    have g2_4 : Leafy Try.prog w m2 9 ((([c2, c3, c4, c5, c6, c7, c8] : List Value).drop 4).take (Try.prog.cellsOf 9)) := hf2 4 _ rfl
    rw [e2] at g2_4
    simp only [List.drop_zero, List.drop_succ_cons, List.take_succ_cons, List.take_zero] at g2_4
    have g2_5 : Leafy Try.prog w m2 9 ((([c2, c3, c4, c5, c6, c7, c8] : List Value).drop 5).take (Try.prog.cellsOf 9)) := hf2 5 _ rfl
    rw [e2] at g2_5
    simp only [List.drop_zero, List.drop_succ_cons, List.take_succ_cons, List.take_zero] at g2_5
    have g2_6 : Leafy Try.prog w m2 5 ((([c2, c3, c4, c5, c6, c7, c8] : List Value).drop 6).take (Try.prog.cellsOf 5)) := hf2 6 _ rfl
    rw [e4] at g2_6
    simp only [List.drop_zero, List.drop_succ_cons, List.take_succ_cons, List.take_zero] at g2_6
    obtain ⟨z2, q2, w2⟩ := leafy_int Try.underlying5 g2_0
    obtain rfl : c2 = _ := List.head_eq_of_cons_eq q2
    have b2 := bounds_u8 w2
    obtain ⟨x2, rfl⟩ := Int.eq_ofNat_of_zero_le b2.1
    obtain ⟨z3, q3, w3⟩ := leafy_int Try.underlying34 g2_1
    obtain rfl : c3 = _ := List.head_eq_of_cons_eq q3
    have b3 := bounds_u32 w3
    obtain ⟨x3, rfl⟩ := Int.eq_ofNat_of_zero_le b3.1
    obtain ⟨z4, q4, w4⟩ := leafy_int Try.underlying5 g2_2
    obtain rfl : c4 = _ := List.head_eq_of_cons_eq q4
    have b4 := bounds_u8 w4
    obtain ⟨x4, rfl⟩ := Int.eq_ofNat_of_zero_le b4.1
    obtain ⟨x5, q5, b5⟩ := leafy_string Try.underlying9 g2_3
    obtain rfl : c5 = _ := List.head_eq_of_cons_eq q5
    obtain ⟨x6, q6, b6⟩ := leafy_string Try.underlying9 g2_4
    obtain rfl : c6 = _ := List.head_eq_of_cons_eq q6
    obtain ⟨x7, q7, b7⟩ := leafy_string Try.underlying9 g2_5
    obtain rfl : c7 = _ := List.head_eq_of_cons_eq q7
    obtain ⟨z8, q8, w8⟩ := leafy_int Try.underlying5 g2_6
    obtain rfl : c8 = _ := List.head_eq_of_cons_eq q8
    have b8 := bounds_u8 w8
    obtain ⟨x8, rfl⟩ := Int.eq_ofNat_of_zero_le b8.1
    exact ⟨⟨x0, z1, x2, x3, x4, x5, x6, x7, x8⟩, by simp only [Bx.Fits]; omega, rfl⟩
theorem dec_ba {w : World} (n : Nat) (es : List Value) (hlen : es.length = 9) (h : Leafy Try.prog w n 73 es) : ∃ x : Ba, x.Fits ∧ es = baC x := by
  obtain ⟨x, hx, he⟩ := dec_bx n es hlen h
  obtain ⟨h0, _, h1, h2, h3, h4, h5, h6, h7, h8⟩ := hx
  exact ⟨⟨x.act, x.n, ⟨x.client, x.seq, x.kind, x.key, x.old, x.new, x.set⟩⟩, ⟨h0, h1, ⟨h2, h3, h4, h5, h6, h7, h8⟩⟩, he⟩
theorem open_ba {H : Type} {enc : TypeId × Value → H} {w : World} {v : Value} {d : DataW H} {p : List MemPlace} (h : DataW.Trod enc Try.prog w 0 (fun _ => true) true 73 v d p) : ∃ a : Ba, v = .agg (baC a).toArray ∧ a.Fits := by
  obtain ⟨n, hn⟩ := leafy_trod h
  have hlen : v.cells.toList.length = 9 := by
    obtain ⟨m, hl, _⟩ := leafy_struct Try.underlying73 hn
    rw [hl]
    kernel_rfl
  obtain ⟨a, hf, he⟩ := dec_ba n _ hlen hn
  refine ⟨a, ?_, hf⟩
  cases v with
  | agg cs =>
    have e : cs.toList = baC a := he
    rw [← e]
  | _ => simp [Value.cells] at hlen
set_option maxRecDepth 100000 in
theorem open_bas {H : Type} {enc : TypeId × Value → H} {w : World} {base : Nat} {v : Value} {d : DataW H} {p : List MemPlace} {r : Reach} (h : DataW.Trod enc Try.prog w 0 (fun _ => true) true 68 v d p) (hk : Value.okWide Try.prog w r base 68 v) :
    ∃ (A : Option Addr) (c : Nat) (l : List Ba), v = .slice A l.length c ∧ Rows w A 9 baC l ∧ (∀ x ∈ l, x.Fits) ∧ l.length ≤ 9223372036854775807 :=
  open_rows Try.underlying68 (by kernel_rfl) (fun x => by rw [baC_len]; omega) dec_ba h hk
/-- What great hands back. -/
inductive GrRet (ln : Nat) : Ending → Prop where
  | yes : GrRet ln (.returned (.bool true))
  | no (h : ln ≤ 200) : GrRet ln (.returned (.bool false))
set_option maxRecDepth 100000 in
set_option maxHeartbeats 4000000 in
/-- Great hands back something; if it is false, there are at most 200 acts. -/
theorem bgreat_any (l : List Ba) (ln : Nat) (hln : ln = l.length) (hl : ln ≤ 9223372036854775807) (A : Option Addr) (c : Nat) (w : World) (hA : Rows w A 9 baC l) :
    Calls Try.prog 28 #[.slice A ln c] w fun e w' => GrRet ln e ∧ Below w.heap.size w w' := by
  have HLN := Lib.hid hln
  clear hln
  by_cases h200 : 200 < ln
  · have e1 : (200 : Int) < (ln : Int) := by omega
    go_enter Try.func28, Try.ntmps28
    go_wp2
    go_ret
    exact ⟨.yes, Below.refl _ _⟩
  · have e1 : ¬ (200 : Int) < (ln : Int) := by omega
    go_enter Try.func28, Try.ntmps28
    go_wp2_with fail
    go_loopg [3] ln (fun gk i wr => ∃ k : Nat, k + gk = ln ∧ i = .int .i64 (k : Int) ∧ Below w.heap.size w wr)
    case atStart => exact ⟨0, by omega, rfl, Below.refl _ _⟩
    case round =>
      obtain ⟨k, hk, rfl, bw⟩ := hrel
      by_cases h4 : k < ln
      · have hk4 : (k : Int) < (ln : Int) := by omega
        obtain ⟨x, hx⟩ : ∃ x, l[k]? = some x := ⟨_, List.getElem?_eq_getElem (by rw [← HLN.out]; exact h4)⟩
        obtain ⟨ad, rfl, hadl, a0, a1⟩ := hA.at_ hx
        obtain ⟨xd, xn, ⟨xa, xb, xk, xs, xt, xu, xz⟩⟩ := x
        have hadb : (ad.add (k * 9)).block < w.heap.size := by rw [block_of_add]; exact hadl
        have q2 : wr.cell? { block := (ad.add (k * 9)).block, off := (ad.add (k * 9)).off + 2 } = some (.int .u8 (xa : Int)) := (bw.cell (by exact hadb)).trans (a1 1 _ rfl)
        have q3 : wr.cell? { block := (ad.add (k * 9)).block, off := (ad.add (k * 9)).off + 3 } = some (.int .u32 (xb : Int)) := (bw.cell (by exact hadb)).trans (a1 2 _ rfl)
        have q4 : wr.cell? { block := (ad.add (k * 9)).block, off := (ad.add (k * 9)).off + 4 } = some (.int .u8 (xk : Int)) := (bw.cell (by exact hadb)).trans (a1 3 _ rfl)
        have q5 : wr.cell? { block := (ad.add (k * 9)).block, off := (ad.add (k * 9)).off + 5 } = some (.string ⟨xs.toArray⟩) := (bw.cell (by exact hadb)).trans (a1 4 _ rfl)
        have q6 : wr.cell? { block := (ad.add (k * 9)).block, off := (ad.add (k * 9)).off + 6 } = some (.string ⟨xt.toArray⟩) := (bw.cell (by exact hadb)).trans (a1 5 _ rfl)
        have q7 : wr.cell? { block := (ad.add (k * 9)).block, off := (ad.add (k * 9)).off + 7 } = some (.string ⟨xu.toArray⟩) := (bw.cell (by exact hadb)).trans (a1 6 _ rfl)
        have q8 : wr.cell? { block := (ad.add (k * 9)).block, off := (ad.add (k * 9)).off + 8 } = some (.int .u8 (xz : Int)) := (bw.cell (by exact hadb)).trans (a1 7 _ rfl)
        have HGR := Lib.hid (great_any [⟨xa, xb, xk, xs, xt, xu, xz⟩] (by simp) (some ⟨wr.heap.size, 0, none⟩) 1 _ (cm_row (Blk.new wr 36 (cmC ⟨xa, xb, xk, xs, xt, xu, xz⟩))))
        have bw2 := bw.alloc bw.size (.cells (cmC ⟨xa, xb, xk, xs, xt, xu, xz⟩) 36)
        clear a0 a1 hx
        generalize greatB _ = gb at HGR
        unfold cmC at HGR bw2
        dsimp only at HGR bw2
        go_wp2_with fail
        refine HGR.out.mono ?_; rintro e w2 ⟨rfl, B2⟩
        have bz := bw2.trans (B2.mono bw2.size)
        clear HGR B2 q2 q3 q4 q5 q6 q7 q8
        cases gb
        · go_wp2_with fail
          go_roundg (ln - (k + 1))
          case measure => omega
          case rel => exact ⟨k + 1, by omega, by go_num, bz⟩
        · go_wp2_with fail
          go_ret
          exact ⟨.yes, bz⟩
      · have hk4 : ¬ (k : Int) < (ln : Int) := by omega
        go_wp2_with fail
        go_ret
        exact ⟨.no (by omega), bw⟩
theorem get_any (a s : Int) (w : World) : Calls Try.prog 52 #[.int .u8 a, .int .u32 s] w fun e w' => e = .returned (.agg #[.int .u8 a, .int .u32 s, .int .u8 1, .string ⟨#[107]⟩, .string ⟨#[]⟩, .string ⟨#[]⟩, .int .u8 0]) ∧ Below w.heap.size w w' := by
  have kn := Blk.new w 36 #[.int .u8 a, .int .u32 s, .int .u8 1, .string ⟨#[107]⟩, .string ⟨#[]⟩, .string ⟨#[]⟩, .int .u8 0]
  have HLD := Lib.hid (blk_loadVar (P := Try.prog) (ty := 36) kn Try.underlying36 rfl size_cm)
  have bn := Lib.hid (show Below w.heap.size w (w.alloc (.cells #[.int .u8 a, .int .u32 s, .int .u8 1, .string ⟨#[107]⟩, .string ⟨#[]⟩, .string ⟨#[]⟩, .int .u8 0] 36)) from (Below.refl _ w).alloc (Nat.le_refl _) _)
  clear kn
  go_enter Try.func52, Try.ntmps52
  go_wp2_with fail
  exact bodyPost_ret (v := .agg #[.int .u8 a, .int .u32 s, .int .u8 1, .string ⟨#[107]⟩, .string ⟨#[]⟩, .string ⟨#[]⟩, .int .u8 0]) (by simp [results, Try.results52, asAddr, HLD.out]) rfl ⟨rfl, bn.out⟩
theorem c_fits (a s : Nat) (ha : a < 256) (hs : s < 4294967296) : Cm.Fits ⟨a, s, 1, [107], [], [], 0⟩ := ⟨ha, hs, (show 1 < 256 by omega), (show 1 ≤ 9223372036854775807 by omega), (show 0 ≤ 9223372036854775807 by omega), (show 0 ≤ 9223372036854775807 by omega), (show 0 < 256 by omega)⟩
set_option maxRecDepth 100000 in
theorem w_put1 {B g : Nat} {v : Value} {w : World} (q : QS B g [] v w) (hs : B ≤ w.heap.size) : Calls Try.prog 37 #[.pointer (some ⟨g, 0, none⟩), .agg #[.int .u8 0, .int .u32 1, .int .u8 1, .string ⟨#[107]⟩, .string ⟨#[]⟩, .string ⟨#[]⟩, .int .u8 0]] w fun e w' => e = .returned (.int .i64 0) ∧ ∃ v', QS B g [(⟨0, 1, 1, [107], [], [], 0⟩ : Cm)] v' w' ∧ QStep g v w v' w' := by
  have h := put_q q hs (by simp) (⟨0, 1, 1, [107], [], [], 0⟩ : Cm) (c_fits _ _ (by omega) (by omega))
  have e : putQ [] (⟨0, 1, 1, [107], [], [], 0⟩ : Cm) = ([(⟨0, 1, 1, [107], [], [], 0⟩ : Cm)], 0) := by rfl
  rw [e] at h
  exact h
set_option maxRecDepth 100000 in
theorem w_put2 {B g : Nat} {v : Value} {w : World} (q : QS B g [(⟨0, 1, 1, [107], [], [], 0⟩ : Cm)] v w) (hs : B ≤ w.heap.size) : Calls Try.prog 37 #[.pointer (some ⟨g, 0, none⟩), .agg #[.int .u8 1, .int .u32 1, .int .u8 1, .string ⟨#[107]⟩, .string ⟨#[]⟩, .string ⟨#[]⟩, .int .u8 0]] w fun e w' => e = .returned (.int .i64 0) ∧ ∃ v', QS B g [(⟨0, 1, 1, [107], [], [], 0⟩ : Cm), (⟨1, 1, 1, [107], [], [], 0⟩ : Cm)] v' w' ∧ QStep g v w v' w' := by
  have h := put_q q hs (by simp) (⟨1, 1, 1, [107], [], [], 0⟩ : Cm) (c_fits _ _ (by omega) (by omega))
  have e : putQ [(⟨0, 1, 1, [107], [], [], 0⟩ : Cm)] (⟨1, 1, 1, [107], [], [], 0⟩ : Cm) = ([(⟨0, 1, 1, [107], [], [], 0⟩ : Cm), (⟨1, 1, 1, [107], [], [], 0⟩ : Cm)], 0) := by rfl
  rw [e] at h
  exact h
set_option maxRecDepth 100000 in
theorem w_put3 {B g : Nat} {v : Value} {w : World} (q : QS B g [(⟨0, 1, 1, [107], [], [], 0⟩ : Cm), (⟨1, 1, 1, [107], [], [], 0⟩ : Cm)] v w) (hs : B ≤ w.heap.size) : Calls Try.prog 37 #[.pointer (some ⟨g, 0, none⟩), .agg #[.int .u8 0, .int .u32 2, .int .u8 1, .string ⟨#[107]⟩, .string ⟨#[]⟩, .string ⟨#[]⟩, .int .u8 0]] w fun e w' => e = .returned (.int .i64 0) ∧ ∃ v', QS B g [(⟨1, 1, 1, [107], [], [], 0⟩ : Cm), (⟨0, 2, 1, [107], [], [], 0⟩ : Cm)] v' w' ∧ QStep g v w v' w' := by
  have h := put_q q hs (by simp) (⟨0, 2, 1, [107], [], [], 0⟩ : Cm) (c_fits _ _ (by omega) (by omega))
  have e : putQ [(⟨0, 1, 1, [107], [], [], 0⟩ : Cm), (⟨1, 1, 1, [107], [], [], 0⟩ : Cm)] (⟨0, 2, 1, [107], [], [], 0⟩ : Cm) = ([(⟨1, 1, 1, [107], [], [], 0⟩ : Cm), (⟨0, 2, 1, [107], [], [], 0⟩ : Cm)], 0) := by rfl
  rw [e] at h
  exact h
set_option maxRecDepth 100000 in
theorem w_put4 {B g : Nat} {v : Value} {w : World} (q : QS B g [(⟨0, 2, 1, [107], [], [], 0⟩ : Cm)] v w) (hs : B ≤ w.heap.size) : Calls Try.prog 37 #[.pointer (some ⟨g, 0, none⟩), .agg #[.int .u8 0, .int .u32 1, .int .u8 1, .string ⟨#[107]⟩, .string ⟨#[]⟩, .string ⟨#[]⟩, .int .u8 0]] w fun e w' => e = .returned (.int .i64 12) ∧ ∃ v', QS B g [(⟨0, 2, 1, [107], [], [], 0⟩ : Cm)] v' w' ∧ QStep g v w v' w' := by
  have h := put_q q hs (by simp) (⟨0, 1, 1, [107], [], [], 0⟩ : Cm) (c_fits _ _ (by omega) (by omega))
  have e : putQ [(⟨0, 2, 1, [107], [], [], 0⟩ : Cm)] (⟨0, 1, 1, [107], [], [], 0⟩ : Cm) = ([(⟨0, 2, 1, [107], [], [], 0⟩ : Cm)], 12) := by rfl
  rw [e] at h
  exact h
theorem w_take {B g : Nat} {v : Value} {w : World} (q : QS B g [(⟨1, 1, 1, [107], [], [], 0⟩ : Cm), (⟨0, 2, 1, [107], [], [], 0⟩ : Cm)] v w) : Calls Try.prog 31 #[.pointer (some ⟨g, 0, none⟩), .int .i64 1] w fun e w' => ∃ u, e = .returned u ∧ Lies w' B u [(⟨1, 1, 1, [107], [], [], 0⟩ : Cm)] ∧ ∃ v', UFar w' g v' u ∧ QS B g [(⟨0, 2, 1, [107], [], [], 0⟩ : Cm)] v' w' ∧ QStep g v w v' w' ∧ (∀ r, u.ownBlock = some r → v.ownBlock = some r) := take_q q (by simp) 1 (by omega)
theorem w_done {B g : Nat} {v : Value} {w : World} (q : QS B g [(⟨0, 2, 1, [107], [], [], 0⟩ : Cm)] v w) : Calls Try.prog 34 #[.pointer (some ⟨g, 0, none⟩), .int .u8 0, .int .u32 2] w fun e w' => (∃ u, e = .returned u) ∧ ∃ v', QS B g [] v' w' ∧ QStep g v w v' w' := done_q q (by simp) 0 2
theorem lies_one {B : Nat} {u : Value} {w : World} {c : Cm} (h : Lies w B u [c]) : ∃ r k, u = .slice (some ⟨r, 0, none⟩) 1 k ∧ (∀ (j : Nat) (x : Value), (cmL c)[j]? = some x → w.cell? ⟨r, j, none⟩ = some x) ∧ r < w.heap.size ∧ u.ownBlock = some r := by
  rcases h with ⟨_, h⟩ | ⟨r, k, cur, rfl, _, hb, hs, ht⟩
  · cases h
  · refine ⟨r, k, rfl, fun j x hx => ?_, hb.lt, rfl⟩
    have hj : j < 7 := by have := (List.getElem?_eq_some_iff.1 hx).1; rwa [cmL_len] at this
    rw [hb.cell j, ← Array.getElem?_toList]
    have : (cur.toList.take ([c].length * 7))[j]? = some x := by rw [ht]; simpa using hx
    rwa [List.getElem?_take, if_pos (by simpa using hj)] at this
set_option linter.unusedSimpArgs false in
set_option linter.unusedVariables false in
set_option maxRecDepth 100000 in
set_option maxHeartbeats 4000000 in
theorem wakes_any (w : World) : Calls Try.prog 29 #[] w fun e w' => e = .returned (.bool true) ∧ Below w.heap.size w w' := by
  go_enter Try.func29, Try.ntmps29
  go_wp2_with fail
  refine (new_q w).mono ?_; rintro e w1 ⟨g, rfl, q, bw⟩
  go_wp2_with fail
  refine (get_any 0 1 w1).mono ?_; rintro e w2 ⟨rfl, B2⟩
  have q := q.below B2
  have s := QStep.of_below (g := g) (v := (.slice none 0 0)) B2
  have bw := bw.trans (B2.mono bw.size)
  clear B2 s
  go_wp2_with fail
  refine (w_put1 q bw.size).mono ?_; rintro e w3 ⟨rfl, v3, q3, s3⟩
  have bw := s3.bw q bw bw.size
  have q := q3
  have s := s3
  clear s s3 q3
  go_wp2_with fail
  refine (get_any 1 1 _).mono ?_; rintro e w4 ⟨rfl, B4⟩
  have q := q.below B4
  have s := QStep.of_below (g := g) (v := v3) B4
  have bw := bw.trans (B4.mono bw.size)
  clear B4 s
  go_wp2_with fail
  refine (w_put2 q bw.size).mono ?_; rintro e w5 ⟨rfl, v5, q5, s5⟩
  have bw := s5.bw q bw bw.size
  have q := q5
  have s := s5
  clear s s5 q5
  go_wp2_with fail
  refine (get_any 0 2 _).mono ?_; rintro e w6 ⟨rfl, B6⟩
  have q := q.below B6
  have s := QStep.of_below (g := g) (v := v5) B6
  have bw := bw.trans (B6.mono bw.size)
  clear B6 s
  go_wp2_with fail
  refine (w_put3 q bw.size).mono ?_; rintro e w7 ⟨rfl, v7, q7, s7⟩
  have bw := s7.bw q bw bw.size
  have q := q7
  have s := s7
  clear s s7 q7
  go_wp2_with fail
  refine (w_take q).mono ?_; rintro e w8 ⟨ul, rfl, la, v8, ua, q8, s8, _⟩
  have bw := s8.bw q bw bw.size
  have q := q8
  have s := s8
  clear s s8 q8
  go_wp2_with fail
  refine (get_any 0 1 _).mono ?_; rintro e w9 ⟨rfl, B9⟩
  have q := q.below B9
  have s := QStep.of_below (g := g) (v := v8) B9
  have la := la.step s ua
  have ua := ua.step s
  have bw := bw.trans (B9.mono bw.size)
  clear B9 s
  go_wp2_with fail
  refine (w_put4 q bw.size).mono ?_; rintro e w10 ⟨rfl, v10, q10, s10⟩
  have bw := s10.bw q bw bw.size
  have q := q10
  have s := s10
  have la := la.step s ua
  have ua := ua.step s
  clear s s10 q10
  go_wp2_with fail
  refine (all_q q bw.size (by simp)).mono ?_; rintro e w11 ⟨um, rfl, lm, um', _, B11⟩
  have q := q.below B11
  have s := QStep.of_below (g := g) (v := v10) B11
  have la := la.step s ua
  have ua := ua.step s
  have bw := bw.trans (B11.mono bw.size)
  have ub := um'
  have lb := lm
  clear B11 s um' lm
  go_wp2_with fail
  refine (w_done q).mono ?_; rintro e w12 ⟨⟨ud, rfl⟩, v12, q12, s12⟩
  have bw := s12.bw q bw bw.size
  have q := q12
  have s := s12
  have la := la.step s ua
  have ua := ua.step s
  have lb := lb.step s ub
  have ub := ub.step s
  clear s s12 q12
  obtain ⟨r5, k5, rfl, c5, h5, o5⟩ := lies_one la
  obtain ⟨r7, k7, rfl, c7, h7, o7⟩ := lies_one lb
  have HB := Lib.hid (show Below w.heap.size w w12.drew from bw.drew)
  have c5 : ∀ (j : Nat) (x : Value), (cmL (⟨1, 1, 1, [107], [], [], 0⟩ : Cm))[j]? = some x → w12.drew.cell? ⟨r5, j, none⟩ = some x := c5
  have c7 : ∀ (j : Nat) (x : Value), (cmL (⟨0, 2, 1, [107], [], [], 0⟩ : Cm))[j]? = some x → w12.drew.cell? ⟨r7, j, none⟩ = some x := c7
  have q : QS w.heap.size g [] v12 w12.drew := ⟨q.hg, q.ho, q.hB⟩
  have hs : w.heap.size ≤ w12.drew.heap.size := bw.size
  clear la lb ua ub bw
  go_upto_region 7 with fail
  refine region_inv2 (by kernel_rfl) [(67, fun (v : Value) (_ : World) => ∃ A c, v = .slice A 0 c)] [(27, .int .i64 0), (28, .bool true), (29, .bool true), (30, .int .i64 0), (31, .bool true), (32, .bool true), (33, .bool true), (34, .int .i64 0), (35, .bool true), (36, .bool true), (37, .bool true), (38, .slice (some ⟨r5, 0, none⟩) 1 k5), (39, .int .i64 1), (40, .bool true), (41, .bool true), (42, .bool true), (43, .slice (some ⟨r5, 0, none⟩) 1 k5), (44, .pointer (some ⟨r5, 0, none⟩)), (45, .agg #[.int .u8 1, .int .u32 1, .int .u8 1, .string ⟨#[107]⟩, .string ⟨#[]⟩, .string ⟨#[]⟩, .int .u8 0]), (46, .agg #[.int .u8 1, .int .u32 1, .int .u8 1, .string ⟨#[107]⟩, .string ⟨#[]⟩, .string ⟨#[]⟩, .int .u8 0]), (47, .bool true), (48, .bool true), (49, .bool true), (50, .int .i64 12), (51, .bool true), (52, .bool true), (53, .bool true), (54, .slice (some ⟨r7, 0, none⟩) 1 k7), (55, .int .i64 1), (56, .bool true), (57, .bool true), (58, .bool true), (59, .slice (some ⟨r7, 0, none⟩) 1 k7), (60, .pointer (some ⟨r7, 0, none⟩)), (61, .agg #[.int .u8 0, .int .u32 2, .int .u8 1, .string ⟨#[107]⟩, .string ⟨#[]⟩, .string ⟨#[]⟩, .int .u8 0]), (62, .agg #[.int .u8 0, .int .u32 2, .int .u8 1, .string ⟨#[107]⟩, .string ⟨#[]⟩, .string ⟨#[]⟩, .int .u8 0]), (63, .bool true), (64, .bool true), (65, .bool true), (66, .pointer (some ⟨g, 0, none⟩)), (68, .int .i64 0), (69, .bool true), (70, .bool true), (0, .bool true)] (by kernel_rfl) (by kernel_rfl) rfl (by kernel_rfl) ?_ ?_ ?_
  · intro q hq
    obtain rfl := List.mem_singleton.1 hq
    exact fun v w w' h hb => h
  · refine And.intro ?_ ?_
    · intro d hd ρ W hcs bw hn hg
      cases hd
      have e2 : ρ (.tmp 2) = .int .i64 0 := hn 2 (by decide)
      clear hn hg
      refine .inl ⟨trivial, ?_⟩
      refine .inl ⟨_, W, rfl, e2, Below.refl _ _⟩
    refine And.intro ?_ ?_
    · intro d hd ρ W hcs bw hn hg
      cases hd
      have e27 : ρ (.tmp 27) = .int .i64 0 := hn 27 (by decide)
      clear hn hg
      refine .inl ⟨trivial, ?_⟩
      have hc1 := hcs.1
      refine .inl ⟨.bool true, W, ?_, rfl, Below.refl _ _⟩
      go_simp
    refine And.intro ?_ ?_
    · intro d hd ρ W hcs bw hn hg
      cases hd
      have e28 : ρ (.tmp 28) = .bool true := hn 28 (by decide)
      clear hn hg
      refine .inl ⟨trivial, ?_⟩
      refine .inl ⟨_, W, rfl, e28, Below.refl _ _⟩
    refine And.intro ?_ ?_
    · intro d hd ρ W hcs bw hn hg
      cases hd
      have eg : ρ (.tmp 29) = .bool true := hg _ _ _ _ rfl rfl rfl
      have e3 : ρ (.tmp 3) = .int .i64 0 := hn 3 (by decide)
      clear hn hg
      refine .inl ⟨⟨_, _, rfl, rfl, eg⟩, ?_⟩
      refine .inl ⟨_, W, rfl, e3, Below.refl _ _⟩
    refine And.intro ?_ ?_
    · intro d hd ρ W hcs bw hn hg
      cases hd
      have eg : ρ (.tmp 29) = .bool true := hg _ _ _ _ rfl rfl rfl
      have e30 : ρ (.tmp 30) = .int .i64 0 := hn 30 (by decide)
      clear hn hg
      refine .inl ⟨⟨_, _, rfl, rfl, eg⟩, ?_⟩
      have hc1 := hcs.1
      refine .inl ⟨.bool true, W, ?_, rfl, Below.refl _ _⟩
      go_simp
    refine And.intro ?_ ?_
    · intro d hd ρ W hcs bw hn hg
      cases hd
      have e29 : ρ (.tmp 29) = .bool true := hn 29 (by decide)
      have e31 : ρ (.tmp 31) = .bool true := hn 31 (by decide)
      clear hn hg
      refine .inl ⟨trivial, ?_⟩
      have hc1 := hcs.1
      refine .inl ⟨.bool true, W, ?_, rfl, Below.refl _ _⟩
      go_simp
    refine And.intro ?_ ?_
    · intro d hd ρ W hcs bw hn hg
      cases hd
      have e32 : ρ (.tmp 32) = .bool true := hn 32 (by decide)
      clear hn hg
      refine .inl ⟨trivial, ?_⟩
      refine .inl ⟨_, W, rfl, e32, Below.refl _ _⟩
    refine And.intro ?_ ?_
    · intro d hd ρ W hcs bw hn hg
      cases hd
      have eg : ρ (.tmp 33) = .bool true := hg _ _ _ _ rfl rfl rfl
      have e4 : ρ (.tmp 4) = .int .i64 0 := hn 4 (by decide)
      clear hn hg
      refine .inl ⟨⟨_, _, rfl, rfl, eg⟩, ?_⟩
      refine .inl ⟨_, W, rfl, e4, Below.refl _ _⟩
    refine And.intro ?_ ?_
    · intro d hd ρ W hcs bw hn hg
      cases hd
      have eg : ρ (.tmp 33) = .bool true := hg _ _ _ _ rfl rfl rfl
      have e34 : ρ (.tmp 34) = .int .i64 0 := hn 34 (by decide)
      clear hn hg
      refine .inl ⟨⟨_, _, rfl, rfl, eg⟩, ?_⟩
      have hc1 := hcs.1
      refine .inl ⟨.bool true, W, ?_, rfl, Below.refl _ _⟩
      go_simp
    refine And.intro ?_ ?_
    · intro d hd ρ W hcs bw hn hg
      cases hd
      have e33 : ρ (.tmp 33) = .bool true := hn 33 (by decide)
      have e35 : ρ (.tmp 35) = .bool true := hn 35 (by decide)
      clear hn hg
      refine .inl ⟨trivial, ?_⟩
      have hc1 := hcs.1
      refine .inl ⟨.bool true, W, ?_, rfl, Below.refl _ _⟩
      go_simp
    refine And.intro ?_ ?_
    · intro d hd ρ W hcs bw hn hg
      cases hd
      have e36 : ρ (.tmp 36) = .bool true := hn 36 (by decide)
      clear hn hg
      refine .inl ⟨trivial, ?_⟩
      refine .inl ⟨_, W, rfl, e36, Below.refl _ _⟩
    refine And.intro ?_ ?_
    · intro d hd ρ W hcs bw hn hg
      cases hd
      have eg : ρ (.tmp 37) = .bool true := hg _ _ _ _ rfl rfl rfl
      have e5 : ρ (.tmp 5) = .slice (some ⟨r5, 0, none⟩) 1 k5 := hn 5 (by decide)
      clear hn hg
      refine .inl ⟨⟨_, _, rfl, rfl, eg⟩, ?_⟩
      refine .inl ⟨_, W, rfl, e5, Below.refl _ _⟩
    refine And.intro ?_ ?_
    · intro d hd ρ W hcs bw hn hg
      cases hd
      have eg : ρ (.tmp 37) = .bool true := hg _ _ _ _ rfl rfl rfl
      have e38 : ρ (.tmp 38) = .slice (some ⟨r5, 0, none⟩) 1 k5 := hn 38 (by decide)
      clear hn hg
      refine .inl ⟨⟨_, _, rfl, rfl, eg⟩, ?_⟩
      refine .inl ⟨.int .i64 1, W, ?_, rfl, Below.refl _ _⟩
      go_simp
    refine And.intro ?_ ?_
    · intro d hd ρ W hcs bw hn hg
      cases hd
      have eg : ρ (.tmp 37) = .bool true := hg _ _ _ _ rfl rfl rfl
      have e39 : ρ (.tmp 39) = .int .i64 1 := hn 39 (by decide)
      clear hn hg
      refine .inl ⟨⟨_, _, rfl, rfl, eg⟩, ?_⟩
      have hc1 := hcs.1
      refine .inl ⟨.bool true, W, ?_, rfl, Below.refl _ _⟩
      go_simp
    refine And.intro ?_ ?_
    · intro d hd ρ W hcs bw hn hg
      cases hd
      have e37 : ρ (.tmp 37) = .bool true := hn 37 (by decide)
      have e40 : ρ (.tmp 40) = .bool true := hn 40 (by decide)
      clear hn hg
      refine .inl ⟨trivial, ?_⟩
      have hc1 := hcs.1
      refine .inl ⟨.bool true, W, ?_, rfl, Below.refl _ _⟩
      go_simp
    refine And.intro ?_ ?_
    · intro d hd ρ W hcs bw hn hg
      cases hd
      have e41 : ρ (.tmp 41) = .bool true := hn 41 (by decide)
      clear hn hg
      refine .inl ⟨trivial, ?_⟩
      refine .inl ⟨_, W, rfl, e41, Below.refl _ _⟩
    refine And.intro ?_ ?_
    · intro d hd ρ W hcs bw hn hg
      cases hd
      have eg : ρ (.tmp 42) = .bool true := hg _ _ _ _ rfl rfl rfl
      have e5 : ρ (.tmp 5) = .slice (some ⟨r5, 0, none⟩) 1 k5 := hn 5 (by decide)
      clear hn hg
      refine .inl ⟨⟨_, _, rfl, rfl, eg⟩, ?_⟩
      refine .inl ⟨_, W, rfl, e5, Below.refl _ _⟩
    refine And.intro ?_ ?_
    · intro d hd ρ W hcs bw hn hg
      cases hd
      have eg : ρ (.tmp 42) = .bool true := hg _ _ _ _ rfl rfl rfl
      have e43 : ρ (.tmp 43) = .slice (some ⟨r5, 0, none⟩) 1 k5 := hn 43 (by decide)
      clear hn hg
      refine .inl ⟨⟨_, _, rfl, rfl, eg⟩, ?_⟩
      have hc1 := hcs.1
      refine .inl ⟨.pointer (some ⟨r5, 0, none⟩), W, ?_, rfl, Below.refl _ _⟩
      go_simp
    refine And.intro ?_ ?_
    · intro d hd ρ W hcs bw hn hg
      cases hd
      have eg : ρ (.tmp 42) = .bool true := hg _ _ _ _ rfl rfl rfl
      have e44 : ρ (.tmp 44) = .pointer (some ⟨r5, 0, none⟩) := hn 44 (by decide)
      clear hn hg
      refine .inl ⟨⟨_, _, rfl, rfl, eg⟩, ?_⟩
      have z0 : W.cell? ⟨r5, 0, none⟩ = some (.int .u8 1) := (bw.cell (by exact h5)).trans (c5 0 _ rfl)
      have z1 : W.cell? ⟨r5, 1, none⟩ = some (.int .u32 1) := (bw.cell (by exact h5)).trans (c5 1 _ rfl)
      have z2 : W.cell? ⟨r5, 2, none⟩ = some (.int .u8 1) := (bw.cell (by exact h5)).trans (c5 2 _ rfl)
      have z3 : W.cell? ⟨r5, 3, none⟩ = some (.string ⟨#[107]⟩) := (bw.cell (by exact h5)).trans (c5 3 _ rfl)
      have z4 : W.cell? ⟨r5, 4, none⟩ = some (.string ⟨#[]⟩) := (bw.cell (by exact h5)).trans (c5 4 _ rfl)
      have z5 : W.cell? ⟨r5, 5, none⟩ = some (.string ⟨#[]⟩) := (bw.cell (by exact h5)).trans (c5 5 _ rfl)
      have z6 : W.cell? ⟨r5, 6, none⟩ = some (.int .u8 0) := (bw.cell (by exact h5)).trans (c5 6 _ rfl)
      refine .inl ⟨.agg #[.int .u8 1, .int .u32 1, .int .u8 1, .string ⟨#[107]⟩, .string ⟨#[]⟩, .string ⟨#[]⟩, .int .u8 0], W, ?_, rfl, Below.refl _ _⟩
      go_simp
    refine And.intro ?_ ?_
    · intro d hd ρ W hcs bw hn hg
      cases hd
      have eg : ρ (.tmp 42) = .bool true := hg _ _ _ _ rfl rfl rfl
      clear hn hg
      refine .inl ⟨⟨_, _, rfl, rfl, eg⟩, ?_⟩
      have hc1 := hcs.1
      have ef : ρ (.func 52) = .func (.func 52) #[] #[] := hcs.2 _
      refine .inr ⟨52, #[.int .u8 1, .int .u32 1], ?_, (get_any 1 1 W).mono ?_⟩
      · go_simp
      · rintro e w2 ⟨rfl, B2⟩; exact ⟨_, rfl, rfl, B2⟩
    refine And.intro ?_ ?_
    · intro d hd ρ W hcs bw hn hg
      cases hd
      have eg : ρ (.tmp 42) = .bool true := hg _ _ _ _ rfl rfl rfl
      have e45 : ρ (.tmp 45) = .agg #[.int .u8 1, .int .u32 1, .int .u8 1, .string ⟨#[107]⟩, .string ⟨#[]⟩, .string ⟨#[]⟩, .int .u8 0] := hn 45 (by decide)
      have e46 : ρ (.tmp 46) = .agg #[.int .u8 1, .int .u32 1, .int .u8 1, .string ⟨#[107]⟩, .string ⟨#[]⟩, .string ⟨#[]⟩, .int .u8 0] := hn 46 (by decide)
      clear hn hg
      refine .inl ⟨⟨_, _, rfl, rfl, eg⟩, ?_⟩
      refine .inl ⟨.bool true, W, ?_, rfl, Below.refl _ _⟩
      go_simp
    refine And.intro ?_ ?_
    · intro d hd ρ W hcs bw hn hg
      cases hd
      have e42 : ρ (.tmp 42) = .bool true := hn 42 (by decide)
      have e47 : ρ (.tmp 47) = .bool true := hn 47 (by decide)
      clear hn hg
      refine .inl ⟨trivial, ?_⟩
      have hc1 := hcs.1
      refine .inl ⟨.bool true, W, ?_, rfl, Below.refl _ _⟩
      go_simp
    refine And.intro ?_ ?_
    · intro d hd ρ W hcs bw hn hg
      cases hd
      have e48 : ρ (.tmp 48) = .bool true := hn 48 (by decide)
      clear hn hg
      refine .inl ⟨trivial, ?_⟩
      refine .inl ⟨_, W, rfl, e48, Below.refl _ _⟩
    refine And.intro ?_ ?_
    · intro d hd ρ W hcs bw hn hg
      cases hd
      have eg : ρ (.tmp 49) = .bool true := hg _ _ _ _ rfl rfl rfl
      have e6 : ρ (.tmp 6) = .int .i64 12 := hn 6 (by decide)
      clear hn hg
      refine .inl ⟨⟨_, _, rfl, rfl, eg⟩, ?_⟩
      refine .inl ⟨_, W, rfl, e6, Below.refl _ _⟩
    refine And.intro ?_ ?_
    · intro d hd ρ W hcs bw hn hg
      cases hd
      have eg : ρ (.tmp 49) = .bool true := hg _ _ _ _ rfl rfl rfl
      have e50 : ρ (.tmp 50) = .int .i64 12 := hn 50 (by decide)
      clear hn hg
      refine .inl ⟨⟨_, _, rfl, rfl, eg⟩, ?_⟩
      have hc1 := hcs.1
      refine .inl ⟨.bool true, W, ?_, rfl, Below.refl _ _⟩
      go_simp
    refine And.intro ?_ ?_
    · intro d hd ρ W hcs bw hn hg
      cases hd
      have e49 : ρ (.tmp 49) = .bool true := hn 49 (by decide)
      have e51 : ρ (.tmp 51) = .bool true := hn 51 (by decide)
      clear hn hg
      refine .inl ⟨trivial, ?_⟩
      have hc1 := hcs.1
      refine .inl ⟨.bool true, W, ?_, rfl, Below.refl _ _⟩
      go_simp
    refine And.intro ?_ ?_
    · intro d hd ρ W hcs bw hn hg
      cases hd
      have e52 : ρ (.tmp 52) = .bool true := hn 52 (by decide)
      clear hn hg
      refine .inl ⟨trivial, ?_⟩
      refine .inl ⟨_, W, rfl, e52, Below.refl _ _⟩
    refine And.intro ?_ ?_
    · intro d hd ρ W hcs bw hn hg
      cases hd
      have eg : ρ (.tmp 53) = .bool true := hg _ _ _ _ rfl rfl rfl
      have e7 : ρ (.tmp 7) = .slice (some ⟨r7, 0, none⟩) 1 k7 := hn 7 (by decide)
      clear hn hg
      refine .inl ⟨⟨_, _, rfl, rfl, eg⟩, ?_⟩
      refine .inl ⟨_, W, rfl, e7, Below.refl _ _⟩
    refine And.intro ?_ ?_
    · intro d hd ρ W hcs bw hn hg
      cases hd
      have eg : ρ (.tmp 53) = .bool true := hg _ _ _ _ rfl rfl rfl
      have e54 : ρ (.tmp 54) = .slice (some ⟨r7, 0, none⟩) 1 k7 := hn 54 (by decide)
      clear hn hg
      refine .inl ⟨⟨_, _, rfl, rfl, eg⟩, ?_⟩
      refine .inl ⟨.int .i64 1, W, ?_, rfl, Below.refl _ _⟩
      go_simp
    refine And.intro ?_ ?_
    · intro d hd ρ W hcs bw hn hg
      cases hd
      have eg : ρ (.tmp 53) = .bool true := hg _ _ _ _ rfl rfl rfl
      have e55 : ρ (.tmp 55) = .int .i64 1 := hn 55 (by decide)
      clear hn hg
      refine .inl ⟨⟨_, _, rfl, rfl, eg⟩, ?_⟩
      have hc1 := hcs.1
      refine .inl ⟨.bool true, W, ?_, rfl, Below.refl _ _⟩
      go_simp
    refine And.intro ?_ ?_
    · intro d hd ρ W hcs bw hn hg
      cases hd
      have e53 : ρ (.tmp 53) = .bool true := hn 53 (by decide)
      have e56 : ρ (.tmp 56) = .bool true := hn 56 (by decide)
      clear hn hg
      refine .inl ⟨trivial, ?_⟩
      have hc1 := hcs.1
      refine .inl ⟨.bool true, W, ?_, rfl, Below.refl _ _⟩
      go_simp
    refine And.intro ?_ ?_
    · intro d hd ρ W hcs bw hn hg
      cases hd
      have e57 : ρ (.tmp 57) = .bool true := hn 57 (by decide)
      clear hn hg
      refine .inl ⟨trivial, ?_⟩
      refine .inl ⟨_, W, rfl, e57, Below.refl _ _⟩
    refine And.intro ?_ ?_
    · intro d hd ρ W hcs bw hn hg
      cases hd
      have eg : ρ (.tmp 58) = .bool true := hg _ _ _ _ rfl rfl rfl
      have e7 : ρ (.tmp 7) = .slice (some ⟨r7, 0, none⟩) 1 k7 := hn 7 (by decide)
      clear hn hg
      refine .inl ⟨⟨_, _, rfl, rfl, eg⟩, ?_⟩
      refine .inl ⟨_, W, rfl, e7, Below.refl _ _⟩
    refine And.intro ?_ ?_
    · intro d hd ρ W hcs bw hn hg
      cases hd
      have eg : ρ (.tmp 58) = .bool true := hg _ _ _ _ rfl rfl rfl
      have e59 : ρ (.tmp 59) = .slice (some ⟨r7, 0, none⟩) 1 k7 := hn 59 (by decide)
      clear hn hg
      refine .inl ⟨⟨_, _, rfl, rfl, eg⟩, ?_⟩
      have hc1 := hcs.1
      refine .inl ⟨.pointer (some ⟨r7, 0, none⟩), W, ?_, rfl, Below.refl _ _⟩
      go_simp
    refine And.intro ?_ ?_
    · intro d hd ρ W hcs bw hn hg
      cases hd
      have eg : ρ (.tmp 58) = .bool true := hg _ _ _ _ rfl rfl rfl
      have e60 : ρ (.tmp 60) = .pointer (some ⟨r7, 0, none⟩) := hn 60 (by decide)
      clear hn hg
      refine .inl ⟨⟨_, _, rfl, rfl, eg⟩, ?_⟩
      have z0 : W.cell? ⟨r7, 0, none⟩ = some (.int .u8 0) := (bw.cell (by exact h7)).trans (c7 0 _ rfl)
      have z1 : W.cell? ⟨r7, 1, none⟩ = some (.int .u32 2) := (bw.cell (by exact h7)).trans (c7 1 _ rfl)
      have z2 : W.cell? ⟨r7, 2, none⟩ = some (.int .u8 1) := (bw.cell (by exact h7)).trans (c7 2 _ rfl)
      have z3 : W.cell? ⟨r7, 3, none⟩ = some (.string ⟨#[107]⟩) := (bw.cell (by exact h7)).trans (c7 3 _ rfl)
      have z4 : W.cell? ⟨r7, 4, none⟩ = some (.string ⟨#[]⟩) := (bw.cell (by exact h7)).trans (c7 4 _ rfl)
      have z5 : W.cell? ⟨r7, 5, none⟩ = some (.string ⟨#[]⟩) := (bw.cell (by exact h7)).trans (c7 5 _ rfl)
      have z6 : W.cell? ⟨r7, 6, none⟩ = some (.int .u8 0) := (bw.cell (by exact h7)).trans (c7 6 _ rfl)
      refine .inl ⟨.agg #[.int .u8 0, .int .u32 2, .int .u8 1, .string ⟨#[107]⟩, .string ⟨#[]⟩, .string ⟨#[]⟩, .int .u8 0], W, ?_, rfl, Below.refl _ _⟩
      go_simp
    refine And.intro ?_ ?_
    · intro d hd ρ W hcs bw hn hg
      cases hd
      have eg : ρ (.tmp 58) = .bool true := hg _ _ _ _ rfl rfl rfl
      clear hn hg
      refine .inl ⟨⟨_, _, rfl, rfl, eg⟩, ?_⟩
      have hc1 := hcs.1
      have ef : ρ (.func 52) = .func (.func 52) #[] #[] := hcs.2 _
      refine .inr ⟨52, #[.int .u8 0, .int .u32 2], ?_, (get_any 0 2 W).mono ?_⟩
      · go_simp
      · rintro e w2 ⟨rfl, B2⟩; exact ⟨_, rfl, rfl, B2⟩
    refine And.intro ?_ ?_
    · intro d hd ρ W hcs bw hn hg
      cases hd
      have eg : ρ (.tmp 58) = .bool true := hg _ _ _ _ rfl rfl rfl
      have e61 : ρ (.tmp 61) = .agg #[.int .u8 0, .int .u32 2, .int .u8 1, .string ⟨#[107]⟩, .string ⟨#[]⟩, .string ⟨#[]⟩, .int .u8 0] := hn 61 (by decide)
      have e62 : ρ (.tmp 62) = .agg #[.int .u8 0, .int .u32 2, .int .u8 1, .string ⟨#[107]⟩, .string ⟨#[]⟩, .string ⟨#[]⟩, .int .u8 0] := hn 62 (by decide)
      clear hn hg
      refine .inl ⟨⟨_, _, rfl, rfl, eg⟩, ?_⟩
      refine .inl ⟨.bool true, W, ?_, rfl, Below.refl _ _⟩
      go_simp
    refine And.intro ?_ ?_
    · intro d hd ρ W hcs bw hn hg
      cases hd
      have e58 : ρ (.tmp 58) = .bool true := hn 58 (by decide)
      have e63 : ρ (.tmp 63) = .bool true := hn 63 (by decide)
      clear hn hg
      refine .inl ⟨trivial, ?_⟩
      have hc1 := hcs.1
      refine .inl ⟨.bool true, W, ?_, rfl, Below.refl _ _⟩
      go_simp
    refine And.intro ?_ ?_
    · intro d hd ρ W hcs bw hn hg
      cases hd
      have e64 : ρ (.tmp 64) = .bool true := hn 64 (by decide)
      clear hn hg
      refine .inl ⟨trivial, ?_⟩
      refine .inl ⟨_, W, rfl, e64, Below.refl _ _⟩
    refine And.intro ?_ ?_
    · intro d hd ρ W hcs bw hn hg
      cases hd
      have eg : ρ (.tmp 65) = .bool true := hg _ _ _ _ rfl rfl rfl
      have e1 : ρ (.tmp 1) = .pointer (some ⟨g, 0, none⟩) := hn 1 (by decide)
      clear hn hg
      refine .inl ⟨⟨_, _, rfl, rfl, eg⟩, ?_⟩
      refine .inl ⟨_, W, rfl, e1, Below.refl _ _⟩
    refine And.intro ?_ ?_
    · intro d hd ρ W hcs bw hn hg
      cases hd
      have eg : ρ (.tmp 65) = .bool true := hg _ _ _ _ rfl rfl rfl
      have e66 : ρ (.tmp 66) = .pointer (some ⟨g, 0, none⟩) := hn 66 (by decide)
      clear hn hg
      refine .inl ⟨⟨_, _, rfl, rfl, eg⟩, ?_⟩
      have ef : ρ (.func 38) = .func (.func 38) #[] #[] := hcs.2 _
      refine .inr ⟨38, #[.pointer (some ⟨g, 0, none⟩)], ?_, (all_q (q.below bw) (Nat.le_trans hs bw.size) (by simp)).mono ?_⟩
      · go_simp
      · rintro e w2 ⟨u, rfl, h1, h2, _, B2⟩
        obtain ⟨A, c, rfl, _⟩ := h1.rows
        exact ⟨_, rfl, ⟨A, c, rfl⟩, B2⟩
    refine And.intro ?_ ?_
    · intro d hd ρ W hcs bw hn hg
      cases hd
      have eg : ρ (.tmp 65) = .bool true := hg _ _ _ _ rfl rfl rfl
      have e67 : (fun (v : Value) (_ : World) => ∃ A c, v = .slice A 0 c) (ρ (.tmp 67)) W := hn 67 (by decide)
      clear hn hg
      refine .inl ⟨⟨_, _, rfl, rfl, eg⟩, ?_⟩
      obtain ⟨A, c, e67⟩ := e67
      refine .inl ⟨.int .i64 0, W, ?_, rfl, Below.refl _ _⟩
      go_simp
    refine And.intro ?_ ?_
    · intro d hd ρ W hcs bw hn hg
      cases hd
      have eg : ρ (.tmp 65) = .bool true := hg _ _ _ _ rfl rfl rfl
      have e68 : ρ (.tmp 68) = .int .i64 0 := hn 68 (by decide)
      clear hn hg
      refine .inl ⟨⟨_, _, rfl, rfl, eg⟩, ?_⟩
      have hc1 := hcs.1
      refine .inl ⟨.bool true, W, ?_, rfl, Below.refl _ _⟩
      go_simp
    refine And.intro ?_ ?_
    · intro d hd ρ W hcs bw hn hg
      cases hd
      have e65 : ρ (.tmp 65) = .bool true := hn 65 (by decide)
      have e69 : ρ (.tmp 69) = .bool true := hn 69 (by decide)
      clear hn hg
      refine .inl ⟨trivial, ?_⟩
      have hc1 := hcs.1
      refine .inl ⟨.bool true, W, ?_, rfl, Below.refl _ _⟩
      go_simp
    refine And.intro ?_ ?_
    · intro d hd ρ W hcs bw hn hg
      cases hd
      have e70 : ρ (.tmp 70) = .bool true := hn 70 (by decide)
      clear hn hg
      refine .inl ⟨trivial, ?_⟩
      refine .inl ⟨_, W, rfl, e70, Below.refl _ _⟩
    trivial
  · intro a' w' hsz hdf hb hVs
    have hr : a'.eval (.tmp 0) = .bool true := hVs 0
    have bz := HB.out.trans (hb.mono hs)
    clear hVs
    go_wp2
    exact ret_slot Try.results29 hr hdf ⟨rfl, bz⟩
end Go.Proofs.Ytgpdggojajjppaa.Bat
