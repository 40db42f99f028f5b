/- palaverref09.Batch, walked. Conditions: the list can be read; it has at most 100 commands with texts of at most 1,000 bytes. -/
import Derived.Test.YtgbnaifjdfoahaaCmdBatch
import Derived.Test.YtgbnaifjdfoahaaCmdOne
namespace Go.Proofs.Ytgbnaifjdfoahaa.Cmd
open Go.RowKit Wire

def RefBatchAt (l : List Cm) (w : World) (gk : Nat) (vs vi : Value) (wr : World) : Prop :=
  ∃ (k : Nat) (M : List UInt8), k + gk = l.length ∧ vi = .int .i64 (k : Int) ∧ vs = .string ⟨M.toArray⟩ ∧ Hid (M = cmsB (l.take k)) ∧ Hid (M.length ≤ 4000 * k) ∧ Hid ((∀ c ∈ l.take k, mayB c = true) ∧ (0 < k → l.length ≤ 4)) ∧ Below w.heap.size w wr
theorem oneB_most {c : Cm} (hf : c.Fits) (hs : c.key.length ≤ 1000 ∧ c.old.length ≤ 1000 ∧ c.new.length ≤ 1000) : (oneB c).length ≤ 4000 := by
  have q1 := hf.h2
  have e1 := (numB_length c.seq (by omega)).1
  have e2 := (numB_length c.key.length (by omega)).1
  have e3 := (numB_length c.old.length (by omega)).1
  have e4 := (numB_length c.new.length (by omega)).1
  unfold oneB strB
  simp only [List.length_cons, List.length_append, List.length_nil]
  omega
theorem batchC_bad {l : List Cm} (h : 4 < l.length ∨ ∃ c ∈ l, mayB c = false) : batchC l = ([], 2) := by
  unfold batchC
  rw [if_pos]
  rcases h with h | ⟨c, hc, hm⟩
  · exact .inl h
  · exact .inr ((List.any_eq_true (p := fun c => !mayB c) (l := l)).2 ⟨c, hc, by rw [hm]; rfl⟩)
set_option maxRecDepth 100000 in
set_option maxHeartbeats 4000000 in
theorem refBatch_any (l : List Cm) (hf : ∀ c ∈ l, c.Fits) (hs : ∀ c ∈ l, c.key.length ≤ 1000 ∧ c.old.length ≤ 1000 ∧ c.new.length ≤ 1000) (hl : l.length ≤ 100) (A : Option Addr) (c : Nat) (w : World) (hA : Rows w A 7 cmL l) :
    Calls Try.prog 42 #[.slice A l.length c] w fun e w' => StrErr w (batchC l) e w' := by
  obtain ⟨p, hp⟩ : ∃ p, p = batchC l := ⟨_, rfl⟩
  rw [← hp]
  have HP := Lib.hid hp
  have HF := Lib.hid hf
  have HS := Lib.hid hs
  clear hp hf hs
  go_enter Try.func42, Try.ntmps42
  go_wp2_with fail
  go_loopg [4, 5] l.length (fun gk s i wr => RefBatchAt l w gk s i wr)
  case atStart => exact ⟨0, [], by omega, rfl, rfl, rfl, by show _ ≤ _; simp, ⟨fun c hc => by simp at hc, fun h => by omega⟩, Below.refl _ _⟩
  case round =>
    obtain ⟨k, M, hk, rfl, rfl, hM, hln, hall, bw⟩ := hrel
    by_cases hkl : k < l.length
    · have hk4 : (k : Int) < (l.length : Int) := by omega
      obtain ⟨x, hx⟩ : ∃ x, l[k]? = some x := ⟨_, List.getElem?_eq_getElem hkl⟩
      have hfx := HF.out x (List.mem_of_getElem? hx)
      have hsx := HS.out x (List.mem_of_getElem? hx)
      have q6 := oneB_most hfx hsx
      have HM := Lib.hid (fun W => refMay_any x W)
      have HO := Lib.hid (fun W => refOne_any x hfx hsx.1 hsx.2.1 hsx.2.2 W)
      have hbad : mayB x = false → p = ([], 2) := fun h => HP.out.trans (batchC_bad (.inr ⟨x, List.mem_of_getElem? hx, h⟩))
      have hM2 : M ++ oneB x = cmsB (l.take (k + 1)) := by
        rw [hM.out, List.take_add_one, hx]
        show _ = cmsB (l.take k ++ [x])
        rw [cmsB_snoc]
      have hall2 : mayB x = true → l.length ≤ 4 → (∀ c ∈ l.take (k + 1), mayB c = true) ∧ (0 < k + 1 → l.length ≤ 4) := fun h h4 => ⟨fun c hc => by
        rw [List.take_add_one, hx] at hc
        rcases List.mem_append.1 hc with hc | hc
        · exact hall.out.1 c hc
        · rw [show c = x from by simpa using hc]; exact h, fun _ => h4⟩
      have HM2 := Lib.hid hM2
      have hln2 : (M ++ oneB x).length ≤ 4000 * (k + 1) := by rw [List.length_append]; have := hln.out; omega
      have HL2 := Lib.hid hln2
      have HBAD := Lib.hid hbad
      have HALL := Lib.hid hall2
      have ad1 := add_str M (oneB x)
      have lt1 : ¬ (9223372036854775807 < M.length + (oneB x).length) := by rw [← List.length_append]; omega
      have sz1 := size_str M
      have sz2 := size_str (oneB x)
      generalize oneB x = ob at *
      generalize mayB x = b at *
      obtain ⟨xa, xb, xk, xs, xt, xu, xz⟩ := x
      obtain ⟨ad, hAe, a0, a1, a2, a3, a4, a5, a6⟩ := cm_cells hA hx bw
      have HX := Lib.hid hx
      subst hAe
      unfold cmV cmC at HM HO
      dsimp only at HM HO
      clear hM2 hln2 hx hfx hsx hbad hall2 q6
      go_wp2_with fail
      refine (HM.out _).mono ?_; rintro e w2 ⟨rfl, B2⟩
      have bw2 := bw.trans (B2.mono bw.size)
      cases b
      · obtain rfl := HBAD.out (by trivial)
        clear HM HO HALL HBAD a0 a1 a2 a3 a4 a5 a6
        go_wp2_with fail
        go_ret2
        exact ⟨rfl, bw2⟩
      · by_cases h4 : 4 < l.length
        · have h4i : (4 : Int) < (l.length : Int) := by omega
          have hp2 : p = ([], 2) := HP.out.trans (batchC_bad (.inl h4))
          subst hp2
          clear HM HO HALL HBAD a0 a1 a2 a3 a4 a5 a6
          go_wp2_with fail
          go_ret2
          exact ⟨rfl, bw2⟩
        · have h4i : ¬ (4 : Int) < (l.length : Int) := by omega
          have HALL2 := Lib.hid (HALL.out (by trivial) (by omega))
          clear HM HBAD HALL a0 a1 a2 a3 a4 a5 a6
          obtain ⟨ad', hAe, a0, a1, a2, a3, a4, a5, a6⟩ := cm_cells hA HX.out bw2
          obtain rfl : ad = ad' := Option.some.inj hAe
          go_wp2_with fail
          refine (HO.out _).mono ?_; rintro e w3 ⟨rfl, B3⟩
          have bw3 := bw2.trans (B3.mono bw2.size)
          clear HO a0 a1 a2 a3 a4 a5 a6 bw2 bw B2 B3
          go_wp2_with fail
          go_roundg (l.length - (k + 1))
          case measure => omega
          case rel => exact ⟨k + 1, M ++ ob, by omega, by go_num, rfl, HM2.out, HL2.out, HALL2.out, bw3⟩
    · obtain rfl : k = l.length := by omega
      have hk4 : ¬ (l.length : Int) < (l.length : Int) := by omega
      have hM3 := hM.out
      rw [List.take_of_length_le (Nat.le_refl _)] at hM3
      have hal := hall.out
      rw [List.take_of_length_le (Nat.le_refl _)] at hal
      by_cases hn : l = []
      · have hp2 : p = ([], 0) := by rw [HP.out, hn]; rfl
        have hz : ((l.length : Int) == 0) = true := by rw [hn]; rfl
        subst hp2
        clear hM3 hal hn HP HF HS hA
        go_wp2_with fail
        go_ret2
        exact ⟨rfl, bw⟩
      · have hpos := List.length_pos_iff.2 hn
        have hz : ((l.length : Int) == 0) = false := beq_eq_false_iff_ne.2 (by omega)
        have h4 := hal.2 hpos
        have hp2 : p = (UInt8.ofNat l.length :: M, 0) := by rw [HP.out, hM3]; exact batch_is h4 (fun c hc => ⟨hal.1 c hc, HF.out c hc⟩) hn
        subst hp2
        have hwr : IntKind.u8.wrap (l.length : Int) = (l.length : Int) := by rw [IntKind.wrap_u8]; omega
        have r0 := one_reads wr (r := l.length) (by omega)
        have hcv := conv_str Try.underlying40 Try.underlying5 Try.underlying9 1 r0
        have bw0 := bw.alloc bw.size (.cells #[.int .u8 (l.length : Int)] 5)
        have ad1 := add_str [UInt8.ofNat l.length] M
        have lt1 : ¬ (9223372036854775807 < 1 + M.length) := by have := hln.out; omega
        have sz1 := size_str M
        clear hM3 hal hn HP HF HS hA r0 h4 hM hln hall
        go_wp2_with fail
        go_ret2
        exact ⟨rfl, bw0⟩
end Go.Proofs.Ytgbnaifjdfoahaa.Cmd
