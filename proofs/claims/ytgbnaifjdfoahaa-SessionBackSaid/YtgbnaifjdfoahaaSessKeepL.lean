/- The document's Keep, walked; it keeps the table's. Conditions: the list can be read. -/
import Derived.Test.YtgbnaifjdfoahaaSessKept
import Derived.Deep.RegionHeld3
import Derived.Deep.RegionHeldLaw
namespace Go.Proofs.Ytgbnaifjdfoahaa.Sess
open Go.RowKit

def keepL (l : List Kp) (x : Kp) : List Kp := if (lookN (tabOf l) x.client x.seq).2.2 = 1 then l ++ [x] else l
theorem keepL_len (l : List Kp) (x : Kp) : (keepL l x).length ≤ l.length + 1 := by unfold keepL; split <;> simp
theorem info_kept : (Try.prog.info? 33).map (fun i => (i.zero, i.size, i.bytes)) = some (some (.agg #[.int .u8 0, .int .u32 0, .int .u8 0, .string ⟨#[]⟩]), 4, 32) := by kernel_rfl
def KeepRet (w : World) (A0 : Option Addr) (l : List Kp) (e : Ending) (w' : World) : Prop := ∃ (A : Option Addr) (c : Nat), e = .returned (.slice A l.length c) ∧ Rows w' A 4 kpC l ∧ (A = A0 ∨ ∀ ad, A = some ad → w.heap.size ≤ ad.block) ∧ Below w.heap.size w w'
theorem kpC_one (x : Kp) : ∀ u ∈ kpC x, u.oneCell' = true := by
  intro u hu
  unfold kpC at hu
  simp only [List.mem_cons, List.not_mem_nil, or_false] at hu
  rcases hu with rfl | rfl | rfl | rfl <;> rfl
set_option linter.unusedSimpArgs false in
set_option maxRecDepth 100000 in
set_option maxHeartbeats 8000000 in
theorem refKeep_any (l : List Kp) (hl : l.length ≤ 1000000) (x : Kp) (A : Option Addr) (cap : Nat) (w : World) (h : Rows w A 4 kpC l) :
    Calls Try.prog 20 #[.slice A l.length cap, .agg (kpA x)] w fun e w' => KeepRet w A (keepL l x) e w' := by
  obtain ⟨i0, hi, hz0, hz1, hz2⟩ := info_parts info_kept
  have hL := fun W hW => refLook_any l (by omega) x.client x.seq A cap W hW
  obtain ⟨r, hr⟩ : ∃ r, lookN (tabOf l) x.client x.seq = r := ⟨_, rfl⟩
  unfold keepL
  rw [hr] at hL ⊢
  unfold LookRet at hL
  obtain ⟨rc, rt, rw_⟩ := r
  simp only at hL ⊢
  have HL := Lib.hid hL
  have k0 := (Kg.refl w).new 33 (kpA x)
  have hR := rows_reads kpC_len (by decide) h
  have HR := Lib.hid hR
  have hr0 := h.below k0.bw
  clear hL hr hR
  obtain ⟨xc, xs, xk, xt⟩ := x
  by_cases h1 : rw_ = 1
  · rw [if_pos h1]
    subst h1
    unfold kpA at *
    go_enter Try.func20, Try.ntmps20
    go_wp2_with fail
    refine (HL.out _ hr0).mono ?_; rintro e w1 ⟨rfl, B1⟩
    have kg := (k0.below B1).alloc (.cells #[.int .u8 (rc : Int), .string rt] 27)
    have kz := (k0.below B1).i1.lt
    simp only at kz
    clear B1 k0
    go_wp2_with fail
    generalize w1.alloc (.cells #[.int .u8 (rc : Int), .string rt] 27) = w2 at *
    have kb := (kg.new 33 #[.int .u8 (xc : Int), .int .u32 (xs : Int), .int .u8 (xk : Int), .string xt]).drew
    have hsA : w.heap.size + 1 ≤ w2.drew.heap.size := kg.drew.i1.lt
    have hsB := kb.i2.lt
    have hm1 : l.length ≤ maxLen := by unfold maxLen; omega
    have hm2 : l.length + 1 ≤ maxLen := by unfold maxLen; omega
    have hm3 : l.length * 32 ≤ 140737488355328 := by omega
    have hm4 : (l.length + 1) * 32 ≤ 140737488355328 := by omega
    have hlen : (l ++ [(⟨xc, xs, xk, xt⟩ : Kp)]).length = l.length + 1 := by simp
    have HLn := Lib.hid hlen
    clear hlen
    go_region_held_law (fun W : World => W.cell? ⟨w.heap.size, 0, none⟩ = some (.int .u8 (xc : Int)) ∧ W.cell? ⟨w.heap.size, 1, none⟩ = some (.int .u32 (xs : Int)) ∧ W.cell? ⟨w.heap.size, 2, none⟩ = some (.int .u8 (xk : Int)) ∧ W.cell? ⟨w.heap.size, 3, none⟩ = some (.string xt))
      (first | exact kg.drew.i1.c4 | exact kb.i2.c4 | exact k1.i1.c4 | exact (k1.alloc _).i1.c4 | exact k1b.i2.c4 | exact k2.i1.c4)
      (first
        | (refine step_append_any _ (by rfl) (.const (.slice none 0 0)) (.tmp 19) 22 (by rfl) (w.heap.size + 1) 33 i0 _ 4 32 Try.underlying22 hi hz0 hz1 hz2 rfl (by omega) (.slice none 0 0) 0 [] (by rfl) ⟨by simp, .inl ⟨rfl, rfl⟩⟩ w.heap.size A l.length cap (l.flatMap kpC) (by rfl) (HR.out.below kg.drew.bw) (flat_one kpC_one l) (by simpa using hm1) (by simpa using hm3) hsA ?_; intro v1 w1' own1 g1 at1; simp only [Nat.zero_add, List.nil_append] at own1; have k1 := kg.drew.below ((Below.refl _ _).grown g1 (Nat.le_refl _) (by simp [Value.ownBlock])); have hs1 := k1.i1.lt; clear g1 at1)
        | (refine step_append_any _ (by rfl) (.const (.slice none 0 0)) (.tmp 19) 22 (by rfl) (w.heap.size + 1) 33 i0 _ 4 32 Try.underlying22 hi hz0 hz1 hz2 rfl (by omega) (.slice none 0 0) 0 [] (by rfl) ⟨by simp, .inl ⟨rfl, rfl⟩⟩ w.heap.size A l.length cap (l.flatMap kpC) (by rfl) (HR.out.below kb.bw) (flat_one kpC_one l) (by simpa using hm1) (by simpa using hm3) hsB ?_; intro v1 w1' own1b g1 at1; simp only [Nat.zero_add, List.nil_append] at own1b; have k1b := kb.below ((Below.refl _ _).grown g1 (Nat.le_refl _) (by simp [Value.ownBlock])); have hs1 := k1b.i2.lt; clear g1 at1)
        | (refine step_append_any _ (by rfl) (.tmp 20) (.tmp 22) 22 (by rfl) (w.heap.size + 1) 33 i0 _ 4 32 Try.underlying22 hi hz0 hz1 hz2 rfl (by omega) v1 l.length (l.flatMap kpC) (by rfl) (own1.alloc _) _ _ 1 1 (kpC ⟨xc, xs, xk, xt⟩) (by rfl) (blk_reads (x := (⟨xc, xs, xk, xt⟩ : Kp)) rfl (Blk.new _ 33 _)) (kpC_one _) hm2 hm4 (Nat.le_trans hs1 (by simp)) ?_; intro v2 w2' own2 g2 at2; have k2 := (k1.alloc _).grown g2 (fun o ho => ⟨by have := (own1.lt o ho).1; omega, fun p hp => by obtain rfl := List.mem_singleton.1 hp; have := (own1.lt o ho).1; simp only [ne_eq]; omega⟩))
        | (refine step_append_any _ (by rfl) (.tmp 20) (.tmp 22) 22 (by rfl) (w.heap.size + 1) 33 i0 _ 4 32 Try.underlying22 hi hz0 hz1 hz2 rfl (by omega) v1 l.length (l.flatMap kpC) (by rfl) own1b _ _ 1 1 (kpC ⟨xc, xs, xk, xt⟩) (by rfl) (blk_reads (x := (⟨xc, xs, xk, xt⟩ : Kp)) rfl k1b.i1) (kpC_one _) hm2 hm4 hs1 ?_; intro v2 w2' own2 g2 at2; have k2 := (k1b.tail).grown g2 (fun o ho => ⟨by have := (own1b.lt o ho).1; omega, fun p hp => by obtain rfl := List.mem_singleton.1 hp; have := (own1b.lt o ho).1; simp only [ne_eq]; omega⟩)))
    all_goals
      have hfl : (l ++ [(⟨xc, xs, xk, xt⟩ : Kp)]).flatMap kpC = l.flatMap kpC ++ kpC ⟨xc, xs, xk, xt⟩ := by simp
      rw [← hfl, ← HLn.out] at own2
      obtain ⟨A2, c2, rfl, _, hrows, hbk⟩ := own_rows_at kpC_len (by decide) own2
      clear own2 hfl
      go_wp2_with fail
      go_ret
      exact ⟨A2, c2, by simp, hrows, .inr (fun ad h => Nat.le_of_succ_le (hbk ad h)), k2.bw⟩
  · rw [if_neg h1]
    have hb : ((rw_ : Int) != 1) = true := by rw [bne_iff_ne]; omega
    unfold kpA at *
    clear h1
    go_enter Try.func20, Try.ntmps20
    go_wp2_with fail
    refine (HL.out _ hr0).mono ?_; rintro e w1 ⟨rfl, B1⟩
    have kg := k0.below B1
    go_wp2_with fail
    go_ret
    exact ⟨A, cap, rfl, h.below (kg.alloc _).bw, .inl rfl, (kg.alloc _).bw⟩
end Go.Proofs.Ytgbnaifjdfoahaa.Sess
