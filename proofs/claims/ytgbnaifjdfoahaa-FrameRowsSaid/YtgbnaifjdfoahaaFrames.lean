/- The frames of a text, told one by one: the program's inner function, walked. Conditions: texts of at most 1,000,000 bytes. -/
import Derived.Test.YtgbnaifjdfoahaaFrameWakes
import Derived.Test.YtgbnaifjdfoahaaRangeFin
import Derived.OwnWalkIn
import Derived.TacticsInMore
import Derived.LoopNIn
import Derived.LoopIn
namespace Go.Proofs.Ytgbnaifjdfoahaa.Frame
open Go.RowKit Wire

attribute [local go_sem] Oper.semAt_some

/-- All frames of a text. -/
def framesOf (s : List UInt8) : List (Nat × List UInt8) := (splitF (s.length + 1) s 0).1
def endOf (s : List UInt8) : Nat := (splitF (s.length + 1) s 0).2.1
def whyOf (s : List UInt8) : Nat := (splitF (s.length + 1) s 0).2.2
/-- Where the reading of a text stands: what was told, and where it goes on. -/
structure SplitAt (s : List UInt8) (pre : List (Nat × List UInt8)) (at_ : Nat) : Prop where
  le : at_ ≤ s.length
  len : pre.length ≤ at_
  ex : ∃ k tl, s.length - at_ < k ∧ splitF k (s.drop at_) at_ = (tl, endOf s, whyOf s) ∧ pre ++ tl = framesOf s
theorem SplitAt.start (s : List UInt8) : SplitAt s [] 0 := ⟨Nat.zero_le _, by simp, s.length + 1, framesOf s, by omega, by unfold framesOf endOf whyOf; rfl, rfl⟩
theorem SplitAt.stop {s : List UInt8} {pre : List (Nat × List UInt8)} {at_ : Nat} (h : SplitAt s pre at_) (hat : s.length ≤ at_) : pre = framesOf s ∧ endOf s = at_ ∧ whyOf s = 0 := by
  obtain ⟨h1, _, k, tl, hk, hs, hp⟩ := h
  obtain ⟨j, rfl⟩ : ∃ j, k = j + 1 := ⟨k - 1, by omega⟩
  rw [List.drop_eq_nil_of_le hat, splitF, if_pos rfl] at hs
  simp only [Prod.mk.injEq] at hs
  obtain ⟨rfl, rfl, he⟩ := hs
  exact ⟨by rw [← hp]; simp, rfl, he.symm⟩
theorem SplitAt.bad {s : List UInt8} {pre : List (Nat × List UInt8)} {at_ e : Nat} (h : SplitAt s pre at_) (hat : at_ < s.length) (ht : (takeF (s.drop at_)).2.2 = e) (he : e ≠ 0) : pre = framesOf s ∧ endOf s = at_ ∧ whyOf s = e := by
  obtain ⟨h1, _, k, tl, hk, hs, hp⟩ := h
  obtain ⟨j, rfl⟩ : ∃ j, k = j + 1 := ⟨k - 1, by omega⟩
  have hne : s.drop at_ ≠ [] := fun h0 => by have := congrArg List.length h0; rw [List.length_drop] at this; simp at this; omega
  rw [splitF, if_neg hne, ht, if_pos he] at hs
  simp only [Prod.mk.injEq] at hs
  obtain ⟨rfl, rfl, he⟩ := hs
  exact ⟨by rw [← hp]; simp, rfl, he.symm⟩
theorem SplitAt.next {s a : List UInt8} {pre : List (Nat × List UInt8)} {at_ n : Nat} (h : SplitAt s pre at_) (hat : at_ < s.length) (ht : takeF (s.drop at_) = (a, n, 0)) :
    SplitAt s (pre ++ [(at_, a)]) (at_ + n) ∧ 10 ≤ n ∧ pre ++ [(at_, a)] <+: framesOf s := by
  obtain ⟨h1, h2, k, tl, hk, hs, hp⟩ := h
  obtain ⟨j, rfl⟩ : ∃ j, k = j + 1 := ⟨k - 1, by omega⟩
  have hne : s.drop at_ ≠ [] := fun h0 => by have := congrArg List.length h0; rw [List.length_drop] at this; simp at this; omega
  have hpos := take_pos (s.drop at_) (by rw [ht])
  rw [ht, List.length_drop] at hpos
  simp only at hpos
  rw [splitF, if_neg hne, ht, if_neg (by simp)] at hs
  simp only [Prod.mk.injEq] at hs
  rw [List.drop_drop] at hs
  obtain ⟨r, hr⟩ : ∃ r, splitF j (s.drop (at_ + n)) (at_ + n) = r := ⟨_, rfl⟩
  rw [hr] at hs
  obtain ⟨rfl, he⟩ := hs
  have hp2 : pre ++ [(at_, a)] ++ r.1 = framesOf s := by rw [← hp]; simp
  exact ⟨⟨by omega, by rw [List.length_append, List.length_singleton]; omega, j, r.1, by omega, by rw [hr, ← he], hp2⟩, hpos.1, ⟨_, hp2⟩⟩

/-- What a frame's telling hands over. -/
def encF (x : Nat × List UInt8) : Array Value := #[.int .i64 (x.1 : Int), .string ⟨x.2.toArray⟩]
/-- What stands when the loop comes round. -/
def FramesAt (s : List UInt8) (Kept : World → Prop) (J : List (Nat × List UInt8) → World → Prop) (i : Value) (wr : World) : Prop :=
  ∃ (k : Nat) (pre : List (Nat × List UInt8)), i = .int .i64 (k : Int) ∧ SplitAt s pre k ∧ Kept wr ∧ J pre wr
set_option linter.unusedSimpArgs false in
set_option maxRecDepth 100000 in
set_option maxHeartbeats 4000000 in
theorem frames_in (n : Nat) (s : List UInt8) (hs : s.length ≤ 1000000) (bs bt fst : Nat) (lst : Array Value) (l : Nat) (Kp : World → World → Prop) (J Jx : List (Nat × List UInt8) → World → Prop) (Kept : World → Prop) (Fin : World → World → Prop) (W : World)
    (est : ∀ args w, (callFunc fst args).run Try.prog w = .ok (.enter fst args) w)
    (hK : ∀ A B, Kept A → Kp A B → Kept B) (hKb : ∀ A B, Kept A → Below A.heap.size A B → Kept B) (hJ : ∀ X X' pre, J pre X → Below X.heap.size X X' → J pre X')
    (hBs : ∀ A, Kept A → A.cell? ⟨bs, 0, none⟩ = some (.string ⟨s.toArray⟩)) (hBt : ∀ A, Kept A → A.cell? ⟨bt, 0, none⟩ = some (.func (.func fst) #[] lst))
    (hStop : ∀ A, Kept A → CallsIn Fence.wide (n - 1) Try.prog fst (#[.int .i64 (endOf s : Int), .int .i64 (whyOf s : Int)] ++ lst) A fun e B => (∃ v, e = .returned v) ∧ Fin A B)
    (hY : ∀ (pre : List (Nat × List UInt8)) (x : Nat × List UInt8) (W1 : World), J pre W1 → pre ++ [x] <+: framesOf s → YieldAt Fence.wide (n - 1) Try.prog l (encF x) W1 fun e W' =>
      (e = .returned (.bool true) ∧ J (pre ++ [x]) W' ∧ Kp W1 W') ∨ (e = .returned (.bool false) ∧ Jx (pre ++ [x]) W')) (h0 : J [] W) (hk0 : Kept W) :
    CallsIn Fence.wide n Try.prog 85 #[.func (.yield l) #[] #[], .pointer (some ⟨bs, 0, none⟩), .pointer (some ⟨bt, 0, none⟩)] W fun e W' =>
      (∃ v, e = .returned v) ∧ ((∃ xs W0, xs = framesOf s ∧ J xs W0 ∧ (Kept W0 ∧ Fin W0 W')) ∨ (∃ pre, pre <+: framesOf s ∧ Jx pre W')) := by
  have hsz := size_str s
  refine callsIn_of_wp Try.func85 rfl trivial ?_ rfl
  simp only [Try.ntmps85, List.size_toArray, List.length_cons, List.length_nil, Nat.reduceAdd, Nat.reduceSub, Array.replicate_succ, Array.replicate_zero, List.push_toArray, List.append_toArray, List.nil_append, List.cons_append]
  gi_wp2
  gi_loopw [4] (fun i wr => FramesAt s Kept J i wr) (fun i wr => s.length - (intOf i).toNat)
  case atStart => exact ⟨0, [], rfl, SplitAt.start s, hk0, h0⟩
  case round =>
    obtain ⟨k, pre, rfl, hsp, hkw, hjw⟩ := hrel
    have cs := hBs wr hkw
    have ct := hBt wr hkw
    by_cases hlt : k < s.length
    · have hlt2 : (k : Int) < (s.length : Int) := by omega
      have E2 := drop_str s k
      rw [hsz] at E2
      have hdl : (s.drop k).length = s.length - k := List.length_drop
      obtain ⟨a, m, er, htk⟩ : ∃ a m er, takeF (s.drop k) = (a, m, er) := ⟨_, _, _, rfl⟩
      have hT := fun Wx => ftake_any (s.drop k) (by omega) Wx
      rw [htk] at hT
      have HT := Lib.hid hT
      by_cases her : er = 0
      · subst her
        obtain ⟨hsp2, hm, hpf⟩ := hsp.next hlt htk
        have hkm := hsp2.le
        have HSP := Lib.hid hsp2
        have HPF := Lib.hid hpf
        have HY := Lib.hid hY
        have hpl := hsp.len
        clear hT htk hsp hsp2 hpf hY h0 hk0
        gi_wp2_with (refine ⟨trivial, (fun h => by cases h), ?_⟩; gi_at_call 35; refine (callsIn_wide.2 (HT.out _)).mono ?_; rintro e w' ⟨rfl, hB1⟩; have hk1 := hKb _ _ hkw hB1; have hj1 := hJ _ _ _ hjw hB1; obtain ⟨fn, tmps, assign, body, hy, hR⟩ := HY.out pre (k, a) _ hj1 HPF.out; unfold encF at hy; have HR := Lib.hid hR; clear hR)
        refine ⟨(fun h => by cases h), ?_⟩
        refine HR.out.mono ?_
        rintro e W3 (⟨rfl, hJ3, hK3⟩ | ⟨rfl, hJ3⟩)
        · have hk3 := hK _ _ hk1 hK3
          gi_wp2
          exact ⟨⟨k + m, pre ++ [(k, a)], by go_num, HSP.out, hk3, hJ3⟩, by simp [intOf]; omega⟩
        · gi_wp2
          refine bodyPost_ret (results_none rfl _ _ _) rfl ?_
          exact ⟨⟨_, rfl⟩, .inr ⟨_, HPF.out, hJ3⟩⟩
      · have hb := hsp.bad hlt (by rw [htk]) her
        obtain ⟨hpf, hen, hwh⟩ := hb
        have hne : ((er : Int) != 0) = true := by rw [bne_iff_ne]; omega
        rw [hen, hwh] at hStop
        have HS := Lib.hid hStop
        have HPF := Lib.hid hpf
        clear hT htk hsp hpf hY h0 hk0 hStop hen hwh her
        gi_wp2_with (refine ⟨trivial, (fun h => by cases h), ?_⟩; gi_at_call 35; refine (callsIn_wide.2 (HT.out _)).mono ?_; rintro e w' ⟨rfl, hB1⟩; have hk1 := hKb _ _ hkw hB1; have hj1 := hJ _ _ _ hjw hB1; have ct := hBt _ hk1)
        refine ⟨trivial, (fun h => by cases h), ?_⟩
        refine (HS.out _ hk1).mono ?_
        rintro e B ⟨⟨v, rfl⟩, hF⟩
        gi_wp2
        refine bodyPost_ret (results_none rfl _ _ _) rfl ?_
        exact ⟨⟨_, rfl⟩, .inl ⟨pre, _, HPF.out, hj1, hk1, hF⟩⟩
    · obtain ⟨hpf, hen, hwh⟩ := hsp.stop (by omega)
      obtain rfl : k = s.length := by have := hsp.le; omega
      rw [hen, hwh, show ((0 : Nat) : Int) = 0 from rfl] at hStop
      have HS := Lib.hid hStop
      have HPF := Lib.hid hpf
      clear hsp hpf hY h0 hk0 hStop hen hwh
      gi_wp2
      refine ⟨trivial, (fun h => by cases h), ?_⟩
      refine (HS.out _ hkw).mono ?_
      rintro e B ⟨⟨v, rfl⟩, hF⟩
      gi_wp2
      go_end0
      exact ⟨⟨_, rfl⟩, .inl ⟨pre, _, HPF.out, hjw, hkw, hF⟩⟩
end Go.Proofs.Ytgbnaifjdfoahaa.Frame
