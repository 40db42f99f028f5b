/- What was kept, as a list that came in; whether it is great. Conditions: the list can be read. -/
import Derived.Test.YtgbnaifjdfoahaaSessW
import Derived.Test.YtgbnaifjdfoahaaOpen
import Derived.Deep.Slices
import Derived.Deep.Fields
import Derived.ChangeSame
import Derived.Lib.SmallJoins
import Derived.Deep.LoopGhost
namespace Go.Proofs.Ytgbnaifjdfoahaa.Sess
open Go.Joins Go.RowKit Go.WideShapes Go.ChangeShapes Go.Deep

structure Kp where
  client : Nat
  seq : Nat
  code : Nat
  text : ByteArray
def Kp.Fits (e : Kp) : Prop := e.client < 256 ∧ e.seq < 4294967296 ∧ e.code < 256 ∧ e.text.size ≤ maxLen
def KpAt (w : World) (ad : Addr) (e : Kp) : Prop :=
  w.cell? (ad.add 0) = some (.int .u8 (e.client : Int)) ∧ w.cell? (ad.add 1) = some (.int .u32 (e.seq : Int)) ∧ w.cell? (ad.add 2) = some (.int .u8 (e.code : Int)) ∧ w.cell? (ad.add 3) = some (.string e.text)
/-- The cells of a list of what was kept. -/
def Kepts (w : World) (A : Option Addr) (l : List Kp) : Prop :=
  ∀ k e, l[k]? = some e → ∃ ad, A = some ad ∧ ad.block < w.heap.size ∧ KpAt w (ad.add (k * 4)) e
theorem KpAt.below {w w' : World} {ad : Addr} {e : Kp} (h : KpAt w ad e) {B : Nat} (hl : ad.block < B) (hb : Below B w w') : KpAt w' ad e :=
  ⟨(hb.cell (by rw [block_of_add]; exact hl)).trans h.1, (hb.cell (by rw [block_of_add]; exact hl)).trans h.2.1, (hb.cell (by rw [block_of_add]; exact hl)).trans h.2.2.1, (hb.cell (by rw [block_of_add]; exact hl)).trans h.2.2.2⟩
theorem Kepts.below' {w w' : World} {A : Option Addr} {l : List Kp} (h : Kepts w A l) (hb : Below w.heap.size w w') : Kepts w' A l := fun k e hk => by
  obtain ⟨ad, e1, h1, h2⟩ := h k e hk
  exact ⟨ad, e1, Nat.lt_of_lt_of_le h1 hb.size, h2.below (by rw [block_of_add]; exact h1) hb⟩
/-- A cell as the walk asks for it: an offset behind an address that lies in no array of an array. -/
theorem add_form (ad : Addr) (j : Nat) : ({ block := ad.block, off := ad.off + j } : Addr) = if j = 0 then { block := ad.block, off := ad.off } else ad.add j := by
  unfold Addr.add
  by_cases h : j = 0 <;> simp [h]

section
variable {H : Type} {enc : TypeId × Value → H} {w : World} {base : Nat}
set_option maxRecDepth 100000 in
theorem open_kepts {v : Value} {d : DataW H} {p : List MemPlace} {r : Reach} (h : DataW.Trod enc Try.prog w 0 (fun _ => true) true 22 v d p) (hk : Value.okWide Try.prog w r base 22 v) :
    ∃ (A : Option Addr) (c : Nat) (l : List Kp), v = .slice A l.length c ∧ Kepts w A l ∧ (∀ b ∈ l, Kp.Fits b) ∧ l.length ≤ maxLen := by
  obtain ⟨a0, len, cap, rfl⟩ := okWide_slice Try.underlying22 hk
  obtain ⟨fuel, hf⟩ := h
  rcases open_slice Try.underlying22 hf with ⟨hcs, _⟩ | ⟨a, len', cap', m, n, D, Pl, hcs, _, hl, hm, hmm, _, hi⟩
  · simp only [Value.cells, List.cons.injEq, Value.slice.injEq, and_true] at hcs
    obtain ⟨rfl, rfl, rfl⟩ := hcs
    exact ⟨none, 0, [], rfl, (by intro k b hb; simp at hb), by simp, by simp⟩
  · simp only [Value.cells, List.cons.injEq, Value.slice.injEq, and_true] at hcs
    obtain ⟨rfl, rfl, rfl⟩ := hcs
    simp only [if_true] at hmm
    subst hmm
    have hone : ∀ k, k < m → ∃ e : Kp, Kp.Fits e ∧ KpAt w (a.add (k * 4)) e ∧ a.block < w.heap.size := by
      intro k hkm
      obtain ⟨cs', hc, ht'⟩ := hi k hkm
      have e4 : Try.prog.cellsOf 33 = 4 := by kernel_rfl
      have e2 : Try.prog.cellsOf 27 = 2 := by kernel_rfl
      have e1 : Try.prog.cellsOf 5 = 1 := by kernel_rfl
      have e3 : Try.prog.cellsOf 25 = 1 := by kernel_rfl
      have e5 : Try.prog.cellsOf 9 = 1 := by kernel_rfl
      rw [e4] at hc
      obtain ⟨ys, n', hn', hy, hlen, hyl, hfd⟩ := DataW.trod_struct Try.underlying33 ht'
      obtain ⟨_, hcl, hat⟩ := World.cells?_some hc
      rw [e4] at hlen
      match cs', hlen with
      | [c0, c1, c2, c3], _ =>
        have f0 : DataW.trod enc Try.prog w 0 (fun _ => true) true n' 5 ((([c0, c1, c2, c3] : List Value).drop 0).take (Try.prog.cellsOf 5)) = ys[0]? := hfd 0 _ rfl
        have f1 : DataW.trod enc Try.prog w 0 (fun _ => true) true n' 25 ((([c0, c1, c2, c3] : List Value).drop 1).take (Try.prog.cellsOf 25)) = ys[1]? := hfd 1 _ rfl
        have f2 : DataW.trod enc Try.prog w 0 (fun _ => true) true n' 27 ((([c0, c1, c2, c3] : List Value).drop 2).take (Try.prog.cellsOf 27)) = ys[2]? := hfd 2 _ rfl
        rw [e1] at f0
        rw [e3] at f1
        rw [e2] at f2
        simp only [List.drop_zero, List.drop_succ_cons, List.take_succ_cons, List.take_zero] at f0 f1 f2
        have g0 : ∃ y, ys[0]? = some y := ⟨_, List.getElem?_eq_getElem (by rw [hyl]; decide)⟩
        have g1 : ∃ y, ys[1]? = some y := ⟨_, List.getElem?_eq_getElem (by rw [hyl]; decide)⟩
        have g2 : ∃ y, ys[2]? = some y := ⟨_, List.getElem?_eq_getElem (by rw [hyl]; decide)⟩
        obtain ⟨y0, g0⟩ := g0
        obtain ⟨y1, g1⟩ := g1
        obtain ⟨y2, g2⟩ := g2
        obtain ⟨z0, q0, _, w0⟩ := DataW.trod_int Try.underlying5 (f0.trans g0)
        obtain ⟨z1, q1, _, w1⟩ := DataW.trod_int Try.underlying25 (f1.trans g1)
        obtain ⟨xs, n2, _, _, _, hxl, hfr⟩ := DataW.trod_struct Try.underlying27 (f2.trans g2)
        have r0 : DataW.trod enc Try.prog w 0 (fun _ => true) true n2 5 ((([c2, c3] : List Value).drop 0).take (Try.prog.cellsOf 5)) = xs[0]? := hfr 0 _ rfl
        have r1 : DataW.trod enc Try.prog w 0 (fun _ => true) true n2 9 ((([c2, c3] : List Value).drop 1).take (Try.prog.cellsOf 9)) = xs[1]? := hfr 1 _ rfl
        rw [e1] at r0
        rw [e5] at r1
        simp only [List.drop_zero, List.drop_succ_cons, List.take_succ_cons, List.take_zero] at r0 r1
        have i0 : ∃ y, xs[0]? = some y := ⟨_, List.getElem?_eq_getElem (by rw [hxl]; decide)⟩
        have i1 : ∃ y, xs[1]? = some y := ⟨_, List.getElem?_eq_getElem (by rw [hxl]; decide)⟩
        obtain ⟨v0, i0⟩ := i0
        obtain ⟨v1, i1⟩ := i1
        obtain ⟨z2, q2, _, w2⟩ := DataW.trod_int Try.underlying5 (r0.trans i0)
        obtain ⟨s, q3, _, ws⟩ := DataW.trod_string Try.underlying9 (r1.trans i1)
        obtain rfl : c0 = _ := List.head_eq_of_cons_eq q0
        obtain rfl : c1 = _ := List.head_eq_of_cons_eq q1
        obtain rfl : c2 = _ := List.head_eq_of_cons_eq q2
        obtain rfl : c3 = _ := List.head_eq_of_cons_eq q3
        have b0 := bounds_u8 w0
        have b1 := bounds_u32 w1
        have b2 := bounds_u8 w2
        obtain ⟨x0, rfl⟩ := Int.eq_ofNat_of_zero_le b0.1
        obtain ⟨x1, rfl⟩ := Int.eq_ofNat_of_zero_le b1.1
        obtain ⟨x2, rfl⟩ := Int.eq_ofNat_of_zero_le b2.1
        have h0 := hat (i := 0) (by decide)
        have h1 := hat (i := 1) (by decide)
        have h2 := hat (i := 2) (by decide)
        have h3 := hat (i := 3) (by decide)
        refine ⟨⟨x0, x1, x2, s⟩, (by simp only [Kp.Fits]; exact ⟨by omega, by omega, by omega, ws⟩), ⟨h0, h1, h2, h3⟩, ?_⟩
        have := cell_lt h0
        rwa [block_of_add, block_of_add] at this
    have key : ∀ k, k ≤ len → ∃ l : List Kp, l.length = k ∧ (∀ b ∈ l, Kp.Fits b) ∧ Kepts w (some a) l := by
      intro k
      induction k with
      | zero => intro _; exact ⟨[], rfl, by simp, (by intro k b hb; simp at hb)⟩
      | succ k ih =>
        intro hk
        obtain ⟨l, hlen, hfit, hb⟩ := ih (by omega)
        obtain ⟨e, he1, he2, he3⟩ := hone k (by omega)
        refine ⟨l ++ [e], by simp [hlen], ?_, ?_⟩
        · intro b hb
          rcases List.mem_append.1 hb with hb | hb
          · exact hfit b hb
          · obtain rfl := List.mem_singleton.1 hb
            exact he1
        · intro j b hjb
          by_cases hjk : j < l.length
          · rw [List.getElem?_append_left hjk] at hjb
            exact hb j b hjb
          · rw [List.getElem?_append_right (by omega)] at hjb
            have hj0 : j - l.length = 0 := by
              rcases Nat.eq_zero_or_pos (j - l.length) with h0 | h0
              · exact h0
              · rw [List.getElem?_eq_none (by simp; omega)] at hjb; cases hjb
            rw [hj0] at hjb
            obtain rfl := Option.some.inj hjb
            obtain rfl : j = k := by omega
            exact ⟨a, rfl, he3, he2⟩
    obtain ⟨l, hlen, hfit, hb⟩ := key len (Nat.le_refl _)
    exact ⟨some a, _, l, by rw [hlen], hb, hfit, by omega⟩
end

/-! ### Whether acts are great -/
theorem blk_cell3 {w : World} {ad : Addr} {e : Kp} (h : KpAt w ad e) :
    w.cell? ad = some (.int .u8 (e.client : Int)) ∧ w.cell? { block := ad.block, off := ad.off + 1 } = some (.int .u32 (e.seq : Int)) ∧ w.cell? { block := ad.block, off := ad.off + 2 } = some (.int .u8 (e.code : Int)) ∧ w.cell? { block := ad.block, off := ad.off + 3 } = some (.string e.text) := by
  obtain ⟨h0, h1, h2, h3⟩ := h
  have a0 : ad.add 0 = ad := by simp [Addr.add]
  have a1 := add_form ad 1
  have a2 := add_form ad 2
  have a3 := add_form ad 3
  simp only [if_neg (by decide : ¬ (1 : Nat) = 0)] at a1
  simp only [if_neg (by decide : ¬ (2 : Nat) = 0)] at a2
  simp only [if_neg (by decide : ¬ (3 : Nat) = 0)] at a3
  rw [a0] at h0
  rw [← a1] at h1
  rw [← a2] at h2
  rw [← a3] at h3
  exact ⟨h0, h1, h2, h3⟩
def GreatRet (l : List Kp) (w : World) (e : Ending) (w' : World) : Prop := (∃ b : Bool, e = .returned (.bool b) ∧ (b = false → l.length ≤ 200)) ∧ Below w.heap.size w w'
def GreatAt (l : List Kp) (w : World) (gk : Nat) (i : Value) (wr : World) : Prop :=
  ∃ k : Nat, k + gk = l.length ∧ i = .int .i64 (k : Int) ∧ Below w.heap.size w wr
set_option maxRecDepth 100000 in
set_option maxHeartbeats 2000000 in
theorem great_any (l : List Kp) (hl : l.length ≤ 9223372036854775807) (A : Option Addr) (c : Nat) (w : World) (h : Kepts w A l) :
    Calls Try.prog 15 #[.slice A l.length c] w fun e w' => GreatRet l w e w' := by
  by_cases h2 : 200 < l.length
  · go_enter Try.func15, Try.ntmps15
    go_wp2
    go_ret
    exact ⟨⟨true, rfl, by simp⟩, Below.refl _ _⟩
  · have HK := Lib.hid h
    clear h
    go_enter Try.func15, Try.ntmps15
    go_wp2_with fail
    go_loopg [3] l.length (fun gk i wr => GreatAt l w gk i wr)
    case atStart => exact ⟨0, by omega, rfl, Below.refl _ _⟩
    case round =>
      obtain ⟨k, hk, rfl, hb⟩ := hrel
      by_cases hkl : k < l.length
      · have hx : l[k]? = some l[k] := List.getElem?_eq_getElem hkl
        generalize l[k] = x at hx
        obtain ⟨ad, rfl, hlt, hat⟩ := HK.out k x hx
        have hat := blk_cell3 (hat.below (by rw [block_of_add]; exact hlt) hb)
        obtain ⟨c0, c1, c2, c3⟩ := hat
        obtain ⟨xc, xs, xk, xt⟩ := x
        have HX := Lib.hid hx
        clear hx
        by_cases h3 : 200 < xt.size
        · go_wp2_with fail
          go_ret
          exact ⟨⟨true, rfl, by simp⟩, hb⟩
        · go_wp2_with fail
          go_roundg (l.length - (k + 1))
          case measure => omega
          case rel => exact ⟨k + 1, by omega, by go_num, hb⟩
      · go_wp2_with fail
        go_ret
        exact ⟨⟨false, rfl, fun _ => by omega⟩, hb⟩
end Go.Proofs.Ytgbnaifjdfoahaa.Sess
