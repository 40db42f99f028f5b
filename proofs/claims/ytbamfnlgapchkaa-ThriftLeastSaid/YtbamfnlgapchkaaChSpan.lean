/- What a chain tells of one slot behind the other, walked. Conditions: the chain lies in memory of its own. -/
import Derived.Test.YtbamfnlgapchkaaChX
import Derived.Test.YtbamfnlgapchkaaMemEach
namespace Go.Proofs.Ytbamfnlgapchkaa.Chn
open Go Go.RowKit Mem DrawInv

attribute [local go_sem] Oper.semAt_some
/-- These blocks lie as they lay. -/
def KpL (L : Nat → Prop) (A B : World) : Prop := ∀ i, L i → B.heap[i]? = A.heap[i]?
theorem KpL.trans {L : Nat → Prop} {A B C : World} (h : KpL L A B) (k : KpL L B C) : KpL L A C := fun i hi => (k i hi).trans (h i hi)
theorem KpL.lt {L : Nat → Prop} {A B : World} (h : KpL L A B) {i : Nat} (hi : L i) (hl : i < A.heap.size) : i < B.heap.size := by
  rcases Nat.lt_or_ge i B.heap.size with h' | h'
  · exact h'
  · have := h i hi
    rw [Array.getElem?_eq_none h', Array.getElem?_eq_getElem hl] at this
    cases this
theorem ChS.kpl {L : Nat → Prop} {B g : Nat} {c : Ch} {v : Value} {w w' : World} (q : ChS B g c v w) (hk : KpL L w w') (h1 : L g) (h2 : ∀ r, v.ownBlock = some r → L r) : ChS B g c v w' := ⟨(hk g h1).trans q.hg, own1_keep q.ho (fun r hr => hk r (h2 r hr)), q.hB, q.ok⟩
def toldTo (c : Ch) (f k : Nat) : List Nat := (List.range' f (k - f)).filterMap (atO c)
theorem told_succ (c : Ch) {f k : Nat} (h : f ≤ k) : toldTo c f (k + 1) = toldTo c f k ++ (atO c k).toList := by
  unfold toldTo
  rw [show k + 1 - f = (k - f) + 1 by omega, List.range'_1_concat, List.filterMap_append, show f + (k - f) = k by omega]
  cases hx : atO c k with
  | none => simp [hx]
  | some x => simp [hx]
theorem told_len (c : Ch) (f k : Nat) : (toldTo c f k).length ≤ k - f := by
  unfold toldTo
  exact Nat.le_trans (List.length_filterMap_le _ _) (by simp)
theorem told_known (c : Ch) (a b : Nat) : toldTo c (fromN c a) (toN c b + 1) = knownL c a b := rfl
theorem told_none (c : Ch) (f k : Nat) (h : k ≤ f) : toldTo c f k = [] := by unfold toldTo; rw [show k - f = 0 by omega]; rfl
set_option linter.unusedVariables false in
set_option maxRecDepth 100000 in
set_option maxHeartbeats 2000000 in
theorem known_in (n : Nat) {B g : Nat} {c : Ch} {v : Value} {w0 : World} (q : ChS B g c v w0) (L : Nat → Prop) (hLg : L g) (hLr : ∀ r, v.ownBlock = some r → L r) (bf bt bc f t : Nat)
    (kf : Boxed w0 bf 26 (.int .u64 (f : Int))) (kt : Boxed w0 bt 26 (.int .u64 (t : Int))) (kc : Boxed w0 bc 24 (.pointer (some ⟨g, 0, none⟩))) (h1 : L bf) (h2 : L bt) (h3 : L bc) (ht : t < 9223372036854775807) (hf : f < 18446744073709551616)
    (hnum : t + 1 - f ≤ 2000) (l : Nat) (J Jx : List Nat → World → Prop) (W : World) (hk : KpL L w0 W) (hL : ∀ i, L i → i < w0.heap.size)
    (hJ : ∀ (X Y : World) (pre : List Nat), J pre X → Below X.heap.size X Y → J pre Y)
    (hY : ∀ (pre : List Nat) (x : Nat) (W1 : World), x < 256 → J pre W1 → pre.length < 2000 → YieldAt Fence.wide (n - 1) Try.prog l #[.int .u8 (x : Int)] W1 fun e W' =>
      (e = .returned (.bool true) ∧ J (pre ++ [x]) W' ∧ KpL L W1 W') ∨ (e = .returned (.bool false) ∧ Jx (pre ++ [x]) W')) (h0 : J [] W) :
    CallsIn Fence.wide n Try.prog 89 #[.func (.yield l) #[] #[], .pointer (some ⟨bf, 0, none⟩), .pointer (some ⟨bt, 0, none⟩), .pointer (some ⟨bc, 0, none⟩)] W fun e W' => (∃ v, e = .returned v) ∧ ((∃ xs, xs = toldTo c f (t + 1) ∧ J xs W') ∨ (∃ pre, True ∧ Jx pre W')) := by
  have bf0 : Boxed W bf 26 (.int .u64 (f : Int)) := (hk bf h1).trans kf
  have cf := bf0.cell
  refine callsIn_of_wp Try.func89 rfl trivial ?_ rfl
  simp only [Try.ntmps89, List.size_toArray, List.length_cons, List.length_nil, Nat.reduceAdd, Nat.reduceSub, Array.replicate_succ, Array.replicate_zero, List.push_toArray, List.append_toArray, List.nil_append, List.cons_append]
  gi_wp2
  gi_loopw [5] (fun i wr => ∃ k : Nat, f ≤ k ∧ (k ≤ t + 1 ∨ k = f) ∧ i = .int .u64 (k : Int) ∧ J (toldTo c f k) wr ∧ KpL L w0 wr) (fun i wr => t + 1 - (intOf i).toNat)
  case atStart => exact ⟨f, Nat.le_refl _, .inr rfl, rfl, by rw [told_none c f f (Nat.le_refl _)]; exact h0, hk⟩
  case round =>
    obtain ⟨k, hfk, hkt, rfl, hJk, hkr⟩ := hrel
    have bt0 : Boxed wr bt 26 (.int .u64 (t : Int)) := (hkr bt h2).trans kt
    have bc0 : Boxed wr bc 24 (.pointer (some ⟨g, 0, none⟩)) := (hkr bc h3).trans kc
    have ct := bt0.cell
    have cc := bc0.cell
    by_cases hlt : k ≤ t
    · have hki : (k : Int) ≤ (t : Int) := by omega
      have HLT := Lib.hid hlt
      have hwk : IntKind.u64.wrap ((k : Int) + 1) = (k : Int) + 1 := by rw [IntKind.wrap_u64]; omega
      have HA := Lib.hid (at_any (q.kpl hkr hLg hLr) k (by omega))
      have hlt2 : ∀ i, L i → i < wr.heap.size := fun i hi => hkr.lt hi (hL i hi)
      cases hat : (c.at_ k).2
      · have htk : toldTo c f (k + 1) = toldTo c f k := by rw [told_succ c hfk]; unfold atO; rw [hat]; simp
        rw [hat] at HA
        have HT := Lib.hid htk
        have HJ := Lib.hid hJk
        have HK := Lib.hid hkr
        clear htk hJk hkr hat hY hnum ht hf q
        gi_wp2
        refine ⟨trivial, (fun h => by cases h), ?_⟩
        refine (callsIn_wide.2 HA.out).mono ?_; rintro e w2 ⟨rfl, B2⟩
        have hJ2 := hJ _ _ _ HJ.out B2
        have hK2 : KpL L w0 w2 := HK.out.trans (fun i hi => B2.block i (hlt2 i hi))
        gi_wp2
        refine ⟨(fun _ h => by cases h), ?_⟩
        gi_wp2
        exact ⟨⟨k + 1, by omega, .inl (by have := HLT.out; omega), by first | rfl | (congr 1) | (simp; done), by rw [HT.out]; exact hJ2, hK2⟩, by have := HLT.out; simp [intOf] at *; omega⟩
      · have htk : toldTo c f (k + 1) = toldTo c f k ++ [(c.at_ k).1] := by rw [told_succ c hfk]; unfold atO; rw [hat]; simp
        rw [hat] at HA
        have hlen := told_len c f k
        obtain ⟨x, hx⟩ : ∃ x, x = (c.at_ k).1 := ⟨_, rfl⟩
        have HX : Hid (x < 256) := by show _ < _; rw [hx]; have := at_lt q.ok k; omega
        rw [← hx] at HA htk
        have HT := Lib.hid htk
        have HJ := Lib.hid hJk
        have HK := Lib.hid hkr
        have HY := Lib.hid hY
        have HLN : Hid ((toldTo c f k).length < 2000) := by show _ < _; omega
        clear htk hJk hkr hat hY hnum ht hf q hx hlen
        gi_wp2
        refine ⟨trivial, (fun h => by cases h), ?_⟩
        refine (callsIn_wide.2 HA.out).mono ?_; rintro e w2 ⟨rfl, B2⟩
        have hJ2 := hJ _ _ _ HJ.out B2
        have hK2 : KpL L w0 w2 := HK.out.trans (fun i hi => B2.block i (hlt2 i hi))
        obtain ⟨fn, tmps, assign, body, hy, hR⟩ := HY.out _ x _ HX.out hJ2 HLN.out
        have HR := Lib.hid hR
        clear hR hJ2
        gi_wp2
        refine ⟨(fun h => by cases h), ?_⟩
        refine HR.out.mono ?_
        rintro e W3 (⟨rfl, hJ3, hK3⟩ | ⟨rfl, hJ3⟩)
        · gi_wp2
          exact ⟨⟨k + 1, by omega, .inl (by have := HLT.out; omega), by first | rfl | (congr 1) | (simp; done), by rw [HT.out]; exact hJ3, hK2.trans hK3⟩, by have := HLT.out; simp [intOf] at *; omega⟩
        · gi_wp2
          refine bodyPost_ret (results_none rfl _ _ _) rfl ?_
          exact ⟨⟨_, rfl⟩, .inr ⟨_, trivial, hJ3⟩⟩
    · have hki : ¬ (k : Int) ≤ (t : Int) := by omega
      have hend : toldTo c f k = toldTo c f (t + 1) := by
        rcases hkt with h | h
        · rw [show k = t + 1 by omega]
        · subst h; rw [told_none c k k (Nat.le_refl _), told_none c k (t + 1) (by omega)]
      have HJ := Lib.hid hJk
      have HE := Lib.hid hend
      clear hJk hend hkt hY
      gi_wp2
      go_end0
      exact ⟨⟨_, rfl⟩, .inl (by rw [← HE.out]; exact HJ.out)⟩
end Go.Proofs.Ytbamfnlgapchkaa.Chn
