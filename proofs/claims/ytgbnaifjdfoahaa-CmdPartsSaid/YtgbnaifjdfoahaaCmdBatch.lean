/- Package cmd, walked: Batch. Conditions: the list can be read, its texts have at most 1,000 bytes or the list is refused. -/
import Derived.Test.YtgbnaifjdfoahaaCmdBad
import Derived.Test.YtgbnaifjdfoahaaCmdPutW
namespace Go.Proofs.Ytgbnaifjdfoahaa.Cmd
open Go.RowKit Wire

/-- A text and an error, handed back. -/
def StrErr (w : World) (p : List UInt8 × Nat) (e : Ending) (w' : World) : Prop := e = .returned (.tuple #[.string ⟨p.1.toArray⟩, .int .i64 (p.2 : Int)]) ∧ Below w.heap.size w w'
def BatchAt (l : List Cm) (w : World) (gk : Nat) (vb vi : Value) (wr : World) : Prop :=
  ∃ (k : Nat) (M : List UInt8) (B : Option Addr) (d : Nat), k + gk = l.length ∧ vi = .int .i64 (k : Int) ∧ vb = .slice B M.length d ∧ Hid (M = UInt8.ofNat l.length :: cmsB (l.take k)) ∧ Hid (M.length ≤ 1 + 400 * k) ∧ Reads wr wr.heap.size 1 B M.length (bv M) ∧ Below w.heap.size w wr
theorem oneB_len {c : Cm} (h : mayB c = true) (hf : c.Fits) : (oneB c).length ≤ 400 := by
  obtain ⟨a, b, d, e, f⟩ := may_parts h
  have q1 := hf.h2
  have e1 := (numB_length c.seq (by omega)).1
  have e2 := (numB_length c.key.length (by omega)).1
  have e3 := (numB_length c.old.length (by omega)).1
  have e4 := (numB_length c.new.length (by omega)).1
  unfold oneB strB
  simp only [List.length_cons, List.length_append, List.length_nil]
  omega
theorem RetB.s' {P : Program} {f : FuncId} {args : Array Value} {w : World} {l : List UInt8} (h : Calls P f args w fun e w' => RetB w w' e l) {R : Ending → World → Prop} (hR : ∀ e w', RetS w w' e l → R e w') : Calls P f args w R := h.mono fun e w' h => hR e w' h.s
theorem below_st {B : Nat} {a w : World} (h : Below B a w) {p : Addr} (hp : B ≤ p.block) (u : Value) : Below B a (w.setCell p u) := h.setCell hp u
set_option maxRecDepth 100000 in
set_option maxHeartbeats 4000000 in
theorem batch_any (l : List Cm) (hf : ∀ c ∈ l, c.Fits) (hl : l.length ≤ 9223372036854775807) (A : Option Addr) (c : Nat) (w : World) (hA : Rows w A 7 cmL l) :
    Calls Try.prog 41 #[.slice A l.length c] w fun e w' => StrErr w (batchC l) e w' := by
  obtain ⟨p, hp⟩ : ∃ p, p = batchC l := ⟨_, rfl⟩
  rw [← hp]
  unfold batchC at hp
  by_cases h4 : 4 < l.length
  · rw [if_pos (.inl h4)] at hp
    subst hp
    have h4i : (4 : Int) < (l.length : Int) := by omega
    clear hf
    go_enter Try.func41, Try.ntmps41
    go_wp2
    go_ret2
    exact ⟨rfl, Below.refl _ _⟩
  have h4i : ¬ (4 : Int) < (l.length : Int) := by omega
  have hC := contains_any l hf hl A c w hA
  by_cases hb : l.any (fun c => !mayB c) = true
  · rw [if_pos (.inr hb)] at hp
    subst hp
    rw [hb] at hC
    have HC := Lib.hid hC
    clear hC hf hb h4
    go_enter Try.func41, Try.ntmps41
    go_wp2_with fail
    refine HC.out.mono ?_; rintro e w2 ⟨rfl, B2⟩
    go_wp2_with fail
    go_ret2
    exact ⟨rfl, B2⟩
  rw [if_neg (fun h => h.elim h4 hb)] at hp
  have hb := Bool.not_eq_true _ ▸ hb
  rw [hb] at hC
  have hM0 : ∀ c ∈ l, mayB c = true ∧ c.Fits := fun x hx => by
    refine ⟨?_, hf x hx⟩
    cases hm : mayB x with
    | true => rfl
    | false =>
      have := (List.any_eq_true (p := fun c => !mayB c) (l := l)).2 ⟨x, hx, by rw [hm]; rfl⟩
      rw [hb] at this
      cases this
  have HM := Lib.hid hM0
  clear hM0
  have HC := Lib.hid hC
  clear hC hf hb
  by_cases hn : l = []
  · subst hn
    rw [if_pos rfl] at hp
    subst hp
    clear hA HM
    go_enter Try.func41, Try.ntmps41
    go_wp2_with fail
    refine HC.out.mono ?_; rintro e w2 ⟨rfl, B2⟩
    go_wp2_with fail
    go_ret2
    exact ⟨rfl, B2⟩
  rw [if_neg hn] at hp
  have HP := Lib.hid hp
  have hpos := List.length_pos_iff.2 hn
  have hz : ((l.length : Int) == 0) = false := beq_eq_false_iff_ne.2 (by omega)
  have hwr : IntKind.u8.wrap (l.length : Int) = (l.length : Int) := by rw [IntKind.wrap_u8]; omega
  clear hp hn
  go_enter Try.func41, Try.ntmps41
  go_wp2_with fail
  refine HC.out.mono ?_; rintro e w2 ⟨rfl, B2⟩
  have r0 := one_reads w2 (r := l.length) (by omega)
  have bw0 := B2.alloc B2.size (.cells #[.int .u8 (l.length : Int)] 5)
  go_wp2_with fail
  go_loopg [5, 25] l.length (fun gk b i wr => BatchAt l w gk b i wr)
  case atStart => exact ⟨0, [UInt8.ofNat l.length], _, _, by omega, rfl, rfl, rfl, by show _ ≤ _; simp, r0, bw0⟩
  case round =>
    clear r0 bw0
    obtain ⟨k, M, B, d, hk, rfl, rfl, hM, hln, hr, bw⟩ := hrel
    by_cases hkl : k < l.length
    · have hk4 : (k : Int) < (l.length : Int) := by omega
      obtain ⟨x, hx⟩ : ∃ x, l[k]? = some x := ⟨_, List.getElem?_eq_getElem hkl⟩
      obtain ⟨hmx, hfx⟩ := HM.out x (List.mem_of_getElem? hx)
      obtain ⟨q1, q2, q3, q4, q5⟩ := may_parts hmx
      have q6 := oneB_len hmx hfx
      have HK := Lib.hid (fun W d hW => put_any x hfx M (by have := hln.out; omega) (by omega) (by omega) (by omega) B d W hW)
      have hM2 : M ++ oneB x = UInt8.ofNat l.length :: cmsB (l.take (k + 1)) := by
        rw [hM.out, List.take_add_one, hx]
        show _ = _ :: cmsB (l.take k ++ [x])
        rw [cmsB_snoc]; rfl
      have HM2 := Lib.hid hM2
      have hln2 : (M ++ oneB x).length ≤ 1 + 400 * (k + 1) := by rw [List.length_append]; have := hln.out; omega
      have HL2 := Lib.hid hln2
      generalize oneB x = ob at *
      obtain ⟨xa, xb, xk, xs, xt, xu, xz⟩ := x
      obtain ⟨ad, rfl, a0, a1, a2, a3, a4, a5, a6⟩ := cm_cells hA hx bw
      unfold cmV cmC at HK
      dsimp only at HK
      clear hM2 hln2 hx hmx hfx q1 q2 q3 q4 q5 q6
      go_wp2_with fail
      have b1 : Below wr.heap.size wr (wr.alloc (.cells #[.int .u8 (xa : Int), .int .u32 (xb : Int), .int .u8 (xk : Int), .string ⟨xs.toArray⟩, .string ⟨xt.toArray⟩, .string ⟨xu.toArray⟩, .int .u8 (xz : Int)] 73)) := (Below.refl _ wr).alloc (Nat.le_refl _) _
      refine RetB.s' (HK.out _ d ((hr.below b1).more b1.size)) ?_
      rintro e w3 ⟨B3, d3, rfl, r3, B3w⟩
      have bw3 := bw.trans ((b1.trans (B3w.mono b1.size)).mono bw.size)
      clear a0 a1 a2 a3 a4 a5 a6 b1 B3w bw hr HK
      have HR3 := Lib.hid r3
      generalize hMM : M ++ ob = M3 at *
      clear hMM r3
      go_wp2_with fail
      go_roundg (l.length - (k + 1))
      case measure => omega
      case rel => exact ⟨k + 1, M3, B3, d3, by omega, by go_num, rfl, HM2.out, HL2.out, HR3.out, bw3⟩
    · obtain rfl : k = l.length := by omega
      have hM3 : p = (M, 0) := by rw [HP.out, hM.out, List.take_of_length_le (Nat.le_refl _)]
      subst hM3
      have hcv := conv_str Try.underlying40 Try.underlying5 Try.underlying9 d hr
      clear HM HC HP hM hln
      go_wp2_with fail
      go_ret2
      exact ⟨rfl, bw⟩
end Go.Proofs.Ytgbnaifjdfoahaa.Cmd
