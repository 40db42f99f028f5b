/- What is picked is a majority, and no more than that, in plain Lean. No program in sight. No conditions. -/
import Derived.Test.YtbamfnlgapchkaaThPlaysL
namespace Go.Proofs.Ytbamfnlgapchkaa.Thr
open Mem

theorem fold_mem (L : List Nat) {x : Nat} (hL : x ∈ L) : ∀ (xs out : List Nat), (x ∈ xs ∨ x ∈ out) → x ∈ xs.foldl (ahF L) out
  | [], out, h => by rcases h with h | h; · cases h
                     · exact h
  | y :: ys, out, h => by
    rw [List.foldl_cons]
    refine fold_mem L hL ys _ ?_
    rcases h with h | h
    · rcases List.mem_cons.1 h with rfl | h
      · right
        unfold ahF
        by_cases ho : hasL out x = true
        · rw [if_neg (fun h => by rw [ho] at h; exact absurd h.2 (by decide))]; exact has_iff.1 ho
        · rw [if_pos ⟨has_iff.2 hL, by simpa using ho⟩]; simp
      · exact .inl h
    · right
      unfold ahF
      split
      · simp [h]
      · exact h
theorem out_all (c : Nat) (xs : List Nat) (h : ∀ x ∈ listN c, x ∈ xs) : (outT (listN c) xs).length = lenN c := by
  rw [← len_list]
  refine ((List.perm_ext_iff_of_nodup (out_nodup _ _) (list_nodup c)).2 fun x => ⟨out_sub _ _ x, fun hx => ?_⟩).length_eq
  exact fold_mem _ hx xs [] (.inl (h x hx))
theorem pickT_len (me c : Nat) (row : List Nat) (hc : lenN c ≠ 0) : ((outT (listN c) (allT me row c)).take (needN c)).length = needN c := by
  rw [List.length_take, out_all c _ (fun x hx => by simp [allT, hx])]
  unfold needN
  omega
theorem pick_in (me c : Nat) (row : List Nat) : ∀ x ∈ (outT (listN c) (allT me row c)).take (needN c), x ∈ listN c := fun x hx => out_sub _ _ x (List.mem_of_mem_take hx)
theorem pick_test (me c : Nat) (row : List Nat) {i : Nat} (hi : i < 7) (h : (pickN me c row).testBit i = true) : c.testBit i = true := by
  unfold pickN at h
  rw [set_test _ _ hi] at h
  exact ((mem_list c i).1 (pick_in me c row i (has_iff.1 h))).2
theorem pickN_len (me c : Nat) (row : List Nat) (hc : lenN c ≠ 0) : lenN (pickN me c row) = needN c := by
  unfold pickN
  rw [len_set ((out_nodup _ _).sublist (List.take_sublist _ _)) (fun x hx => list_lt7 c x (pick_in me c row x hx)), pickT_len me c row hc]
theorem pick_sub (me c : Nat) (row : List Nat) (hc : c < 256) : withoutN (pickN me c row) c = 0 := by
  refine eq_of_bits _ _ (without_lt _ _) (by omega) fun i hi => ?_
  rw [test_without _ _ _ hc hi, Nat.zero_testBit]
  cases h : (pickN me c row).testBit i
  · rfl
  · rw [pick_test me c row hi h]; rfl
theorem pick_both_c (me c : Nat) (row : List Nat) : bothN c (pickN me c row) = pickN me c row := by
  refine eq_of_bits _ _ (both_lt _ _) (pickN_lt _ _ _) fun i hi => ?_
  rw [test_both _ _ _ hi]
  cases h : (pickN me c row).testBit i
  · rw [Bool.and_false]
  · rw [pick_test me c row hi h]; rfl
theorem pick_major (me c : Nat) (row : List Nat) (hc : lenN c ≠ 0) : majorB c (pickN me c row) = true := by
  unfold majorB
  rw [pick_both_c, pickN_len me c row hc]
  simp
theorem pick_meet (me c : Nat) (row row2 : List Nat) (hc : lenN c ≠ 0) : bothN (pickN me c row) (pickN me c row2) ≠ 0 := fun h => by
  have := meet_one c _ _ (pick_major me c row hc) (pick_major me c row2 hc)
  rw [h] at this
  exact this (by unfold bothN lenN bt; simp)
theorem take_of_prefix {p T : List Nat} {k x : Nat} (hp : p <+: T) (hk : p.length ≤ k) (hx : x ∈ p) : x ∈ T.take k := by
  obtain ⟨t, rfl⟩ := hp
  rw [List.take_append]
  exact List.mem_append.2 (.inl (by rw [List.take_of_length_le hk]; exact hx))
theorem pick_me (me c : Nat) (row : List Nat) (hme : me < 7) : hasB (pickN me c row) me = hasB c me := by
  rw [has_bit' _ _ hme, has_bit' _ _ hme]
  cases h : c.testBit me
  · cases h2 : (pickN me c row).testBit me
    · rfl
    · rw [pick_test me c row hme h2] at h; cases h
  · unfold pickN
    rw [set_test _ _ hme]
    have hm : me ∈ listN c := (mem_list c me).2 ⟨hme, h⟩
    refine has_iff.2 (take_of_prefix (p := outT (listN c) [me]) (out_prefix (listN c) [me] (row ++ listN c)) ?_ ?_)
    · unfold outT needN; rw [List.foldl_cons, List.foldl_nil]; unfold ahF; rw [if_pos ⟨has_iff.2 hm, by simp [hasL]⟩]; simp
    · unfold outT; rw [List.foldl_cons, List.foldl_nil]; unfold ahF; rw [if_pos ⟨has_iff.2 hm, by simp [hasL]⟩]; simp
theorem both_le (a b : Nat) (hb : b < 256) : lenN (bothN a b) ≤ lenN a := by have := alg_len a b hb; omega
theorem both_comm (a b : Nat) : bothN a b = bothN b a := by unfold bothN; rw [Nat.and_comm a b]
theorem pick_least (me c : Nat) (row : List Nat) (hc0 : c < 256) (hc : lenN c ≠ 0) {n : Nat} (hn : n < 7) (h : hasB (pickN me c row) n = true) : majorB c (withoutN (pickN me c row) (ofN [n])) = false := by
  have ho : ofN [n] < 256 := by have := of_lt [n]; omega
  have h1 := alg_len (pickN me c row) (ofN [n]) ho
  rw [pickN_len me c row hc] at h1
  have h2 : lenN (bothN (pickN me c row) (ofN [n])) ≠ 0 := fun h0 => by
    have h3 := (len_zero _ (both_lt _ _)).1 h0
    have h4 := test_both (pickN me c row) (ofN [n]) n hn
    rw [h3, Nat.zero_testBit, ← has_bit' _ _ hn, h, mem_of _ _ hn] at h4
    simp at h4
  have h5 := both_le (withoutN (pickN me c row) (ofN [n])) c hc0
  unfold majorB
  rw [both_comm]
  exact decide_eq_false (by omega)
theorem pick_heard (me c : Nat) (row : List Nat) (hme : me < 7) {x : Nat} (hx : hasB c x = true) (h1 : 1 < lenN c) : hasB (pickN me c (heardT me row x)) x = true := by
  have hx7 : x < 7 := by
    rcases Nat.lt_or_ge x 7 with h | h
    · exact h
    · rw [has_big c x h] at hx; cases hx
  by_cases hm : x = me
  · subst hm; rw [pick_me _ _ _ hme]; exact hx
  have hh : heardT me row x = x :: row.filter fun y => y != x := by unfold heardT; rw [if_neg (by omega)]
  rw [has_bit' _ _ hx7] at hx ⊢
  have hxm : x ∈ listN c := (mem_list c x).2 ⟨hx7, hx⟩
  unfold pickN
  rw [set_test _ _ hx7, hh]
  refine has_iff.2 (take_of_prefix (p := outT (listN c) [me, x]) (out_prefix (listN c) [me, x] (_ ++ listN c)) ?_ (fold_mem _ hxm [me, x] [] (by simp)))
  have h2 : (outT (listN c) [me, x]).length ≤ 2 := by
    unfold outT ahF
    simp only [List.foldl_cons, List.foldl_nil]
    split <;> split <;> simp
  unfold needN
  omega
end Go.Proofs.Ytbamfnlgapchkaa.Thr
