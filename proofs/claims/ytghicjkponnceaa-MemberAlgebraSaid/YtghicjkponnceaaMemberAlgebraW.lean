/- The walk of MemberAlgebra: sets are sets. Conditions: the arguments are of their types. -/
import Derived.Test.YtghicjkponnceaaMemEach
import Derived.OpenShut
namespace Go.Proofs.Ytghicjkponnceaa.MemberAlgebraW
open Go.RowKit Mem

theorem nb {a b : Nat} (h : a = b) : ((a : Int) != (b : Int)) = false := by rw [h]; simp
theorem nb0 {a : Nat} (h : a = 0) : ((a : Int) != 0) = false := by rw [h]; rfl
theorem bb (b : Bool) : (b == b) = true := beq_self_eq_true b

set_option linter.unusedSimpArgs false in
set_option maxRecDepth 100000 in
set_option maxHeartbeats 4000000 in
theorem core (x y n : Nat) (hx : x < 256) (hy : y < 256) (hn : n < 256) (w : World) :
    Calls Try.prog 7 #[.int .u8 (x : Int), .int .u8 (y : Int), .int .u8 (n : Int)] w fun e w' => e = .returned (.bool true) ∧ Below w.heap.size w w' := by
  obtain ⟨s, hs⟩ : ∃ s, s = withN x 0 := ⟨_, rfl⟩
  obtain ⟨o, ho⟩ : ∃ o, o = withN y 0 := ⟨_, rfl⟩
  have hs1 : s < 128 := by rw [hs]; exact with_lt _ _
  have ho1 : o < 128 := by rw [ho]; exact with_lt _ _
  have hs2 : s < 256 := by omega
  have ho2 : o < 256 := by omega
  have lx : lenN s = lenN x := by rw [hs]; exact len_with0 x
  have q1 := nb (alg_split s o hs1 ho2)
  have q2 := nb0 (alg_apart s o ho2)
  have q3 := alg_len s o ho2
  have q4 := nb (alg_comm s o)
  have q5 := alg_sum s o
  have q6 := has_with s o n
  have q7 := has_both s o n
  have q8 := has_without s o n ho2
  have q9 : (((ofN (listN s) : Nat) : Int) == (s : Int)) = true := by rw [of_list s hs1]; exact beq_self_eq_true _
  have q10 := may_self s hs1
  have q11 := major_self s hs1
  have q12 := major_of s o
  have m1 := lenN_le s
  have m2 := lenN_le o
  have m3 := lenN_le (withN s o)
  have m4 := lenN_le (bothN s o)
  have m5 := lenN_le (withoutN s o)
  have l3 : (((lenN (withoutN s o) : Int) + (lenN (bothN s o) : Int)) != (lenN s : Int)) = false := by rw [← q3]; simp
  have l5 : (((lenN (withN s o) : Int) + (lenN (bothN s o) : Int)) != ((lenN s : Int) + (lenN o : Int))) = false := by
    have : ((lenN (withN s o) : Int) + (lenN (bothN s o) : Int)) = ((lenN s : Int) + (lenN o : Int)) := by omega
    rw [this]; simp
  have l11 : (((lenN x : Nat) : Int) == (lenN s : Int)) = true := by rw [lx]; exact beq_self_eq_true _
  have l10 : (mayB s s == decide (0 < lenN s)) = true := by rw [q10]; exact beq_self_eq_true _
  have bl : ∀ i ∈ listN s, i < 256 := list_lt s
  have ll : (listN s).length ≤ 7 := by rw [len_list]; exact m1
  have Q6 := Lib.hid q6
  have Q7 := Lib.hid q7
  have Q8 := Lib.hid q8
  have Q11 := Lib.hid q11
  have Q12 := Lib.hid q12
  have BL := Lib.hid bl
  have LL := Lib.hid ll
  have HS := Lib.hid hs
  have HO := Lib.hid ho
  clear q3 q5 q6 q7 q8 q10 q11 q12 lx bl ll hs ho
  cases h1 : hasB s n <;> cases h2 : hasB o n
  all_goals
    have e6 := Q6.out
    have e7 := Q7.out
    have e8 := Q8.out
    rw [h1, h2] at e6 e7 e8
    simp only [Bool.or_false, Bool.false_or, Bool.or_true, Bool.true_or, Bool.and_false, Bool.false_and, Bool.and_true, Bool.true_and, Bool.not_true, Bool.not_false, Bool.or_self, Bool.and_self] at e6 e7 e8
    go_enter Try.func7, Try.ntmps7
    go_wp2_with fail
    refine (with_any x 0 hx (by omega) _).mono ?_; rintro e w' ⟨rfl, rfl⟩
    rw [← HS.out]
    go_wp2_with fail
    refine (with_any y 0 hy (by omega) _).mono ?_; rintro e w' ⟨rfl, rfl⟩
    rw [← HO.out]
    go_wp2_with (first
      | (go_at_call 19; refine (with_any _ _ (by omega) (by omega) _).mono ?_; rintro e w' ⟨rfl, rfl⟩)
      | (go_at_call 19; refine (with_any _ _ (without_lt' _ _) (both_lt' _ _) _).mono ?_; rintro e w' ⟨rfl, rfl⟩)
      | (go_at_call 22; refine (both_any _ _ (by omega) (by omega) _).mono ?_; rintro e w' ⟨rfl, rfl⟩)
      | (go_at_call 22; refine (both_any _ _ (without_lt' _ _) (both_lt' _ _) _).mono ?_; rintro e w' ⟨rfl, rfl⟩)
      | (go_at_call 24; refine (without_any _ _ (by omega) (by omega) _).mono ?_; rintro e w' ⟨rfl, rfl⟩)
      | (go_at_call 23; refine (len_any _ (by first | omega | exact with_lt' _ _ | exact both_lt' _ _ | exact without_lt' _ _) _).mono ?_; rintro e w' ⟨rfl, rfl⟩)
      | (go_at_call 35; refine (has_any _ _ (by first | omega | exact with_lt' _ _ | exact both_lt' _ _ | exact without_lt' _ _) (by omega) _).mono ?_; rintro e w' ⟨rfl, rfl⟩))
    refine (told_all s hs2 _).mono ?_
    rintro e wA ⟨A, c, rfl, hr, hb⟩
    go_wp2_with fail
    refine (of_any _ _ _ (listN s) rfl BL.out _ (nums_reads hr) (by have := LL.out; unfold maxLen; omega)).mono ?_; rintro e w' ⟨rfl, rfl⟩
    have hB : Below w.heap.size w wA := by
      refine Below.trans ?_ (hb.mono (by simp <;> omega))
      repeat (first | exact Below.refl _ _ | refine Below.alloc ?_ (by simp <;> omega) _)
    clear hb hr
    by_cases z : lenN s = 0
    · have z1 : (((lenN s : Nat) : Int) == 0) = true := by rw [z]; rfl
      have Z := Lib.hid z
      clear z
      go_wp2_with (first
        | (go_at_call 23; refine (len_any _ (by first | omega | exact both_lt' _ _) _).mono ?_; rintro e w' ⟨rfl, rfl⟩)
        | (go_at_call 30; refine (may_any _ _ (by omega) (by omega) _).mono ?_; rintro e w' ⟨rfl, rfl⟩)
        | (go_at_call 25; refine (wakes_below _).mono ?_; rintro e w9 ⟨rfl, hb9⟩))
      go_ret
      exact ⟨rfl, hB.trans (hb9.mono hB.size)⟩
    · have z1 : (((lenN s : Nat) : Int) == 0) = false := beq_eq_false_iff_ne.2 (by omega)
      have z2 := Q11.out z
      have nd : needN s ≤ 4 := by unfold needN; omega
      by_cases y1 : lenN (bothN s o) < needN s
      · go_wp2_with (first
          | (go_at_call 21; refine (major_any _ _ (by omega) (by omega) _).mono ?_; rintro e w' ⟨rfl, rfl⟩)
          | (go_at_call 23; refine (len_any _ (by first | omega | exact both_lt' _ _) _).mono ?_; rintro e w' ⟨rfl, rfl⟩)
          | (go_at_call 32; refine (need_any _ (by omega) _).mono ?_; rintro e w' ⟨rfl, rfl⟩)
          | (go_at_call 30; refine (may_any _ _ (by omega) (by omega) _).mono ?_; rintro e w' ⟨rfl, rfl⟩)
          | (go_at_call 25; refine (wakes_below _).mono ?_; rintro e w9 ⟨rfl, hb9⟩))
        go_ret
        exact ⟨rfl, hB.trans (hb9.mono hB.size)⟩
      · have y2 := Q12.out y1
        go_wp2_with (first
          | (go_at_call 21; refine (major_any _ _ (by omega) (by omega) _).mono ?_; rintro e w' ⟨rfl, rfl⟩)
          | (go_at_call 23; refine (len_any _ (by first | omega | exact both_lt' _ _) _).mono ?_; rintro e w' ⟨rfl, rfl⟩)
          | (go_at_call 32; refine (need_any _ (by omega) _).mono ?_; rintro e w' ⟨rfl, rfl⟩)
          | (go_at_call 30; refine (may_any _ _ (by omega) (by omega) _).mono ?_; rintro e w' ⟨rfl, rfl⟩)
          | (go_at_call 25; refine (wakes_below _).mono ?_; rintro e w9 ⟨rfl, hb9⟩))
        go_ret
        exact ⟨rfl, hB.trans (hb9.mono hB.size)⟩
theorem walk (a0 : Int) (a1 : Int) (a2 : Int) (w0 : (Lit.int .u8 a0).wf = true) (w1 : (Lit.int .u8 a1).wf = true) (w2 : (Lit.int .u8 a2).wf = true) (w : World) :
    Calls Try.prog 7 #[.int .u8 a0, .int .u8 a1, .int .u8 a2] w fun e w' => e = .returned (.bool true) ∧ Below w.heap.size w w' := by
  have b0 := bounds_u8 w0
  have b1 := bounds_u8 w1
  have b2 := bounds_u8 w2
  obtain ⟨x, rfl⟩ := Int.eq_ofNat_of_zero_le b0.1
  obtain ⟨y, rfl⟩ := Int.eq_ofNat_of_zero_le b1.1
  obtain ⟨n, rfl⟩ := Int.eq_ofNat_of_zero_le b2.1
  exact core x y n (by omega) (by omega) (by omega) w
end Go.Proofs.Ytghicjkponnceaa.MemberAlgebraW
