/- The walk of MemberMeet: two majorities meet. Conditions: the arguments are of their types. -/
import Derived.Test.YtghicjkponnceaaMemWalk
import Derived.OpenShut
namespace Go.Proofs.Ytghicjkponnceaa.MemberMeetW
open Go.RowKit Mem

theorem core (s p q m : Nat) (hs : s < 256) (hp : p < 256) (hq : q < 256) (hm : m < 256) (w : World) :
    Calls Try.prog 4 #[.int .u8 (s : Int), .int .u8 (p : Int), .int .u8 (q : Int), .int .u8 (m : Int)] w fun e w' => e = .returned (.bool true) ∧ Grown w w' := by
  have hm8 : m % 8 < 256 := by omega
  have hone : ofN [m % 8] < 256 := by have := of_lt [m % 8]; omega
  have ht : withN s (ofN [m % 8]) < 256 := by have := with_lt s (ofN [m % 8]); omega
  have hpq : bothN p q < 256 := by have := both_lt p q; omega
  have hpqs : bothN (bothN p q) s < 256 := by have := both_lt (bothN p q) s; omega
  have hpqt : bothN (bothN p q) (withN s (ofN [m % 8])) < 256 := by have := both_lt (bothN p q) (withN s (ofN [m % 8])); omega
  have hqp : withoutN q p < 256 := by have := without_lt q p; omega
  have k1 := meet_one s p q
  have k2 := meet_more s (ofN [m % 8]) p q (by rw [of_one]; exact len_one _)
  have k3 := meet_not s p q hp
  have hm2 : ((m % 8 : Nat) : Int) = (m : Int) % 8 := by omega
  have HM := Lib.hid hm2
  have K1 := Lib.hid k1
  have K2 := Lib.hid k2
  have K3 := Lib.hid k3
  clear k1 k2 k3 hm2
  cases hM1 : majorB s p
  · go_enter Try.func4, Try.ntmps4
    go_wp2_with fail
    refine (of_any _ _ _ [m % 8] rfl (by simpa using hm8) _ (nums_of _ _ rfl [_] _ [m % 8] (by rw [← HM.out]; rfl)) (by unfold maxLen; simp)).mono ?_; rintro e w' ⟨rfl, rfl⟩
    go_wp2_with (first
      | (go_at_call 19; refine (with_any _ _ (by omega) (by omega) _).mono ?_; rintro e w' ⟨rfl, rfl⟩)
      | (go_at_call 21; refine (major_any _ _ (by omega) (by omega) _).mono ?_; rintro e w' ⟨rfl, rfl⟩)
      | (go_at_call 25; refine (wakes_any _).mono ?_; rintro e w' ⟨rfl, hg⟩))
    go_ret
    exact ⟨rfl, grown_trans (by repeat (first | exact Grown.refl _ | apply Grown.alloc)) hg⟩
  · have q3 := K3.out hM1
    cases hM2 : majorB s q <;> cases hM3 : majorB (withN s (ofN [m % 8])) q
    · go_enter Try.func4, Try.ntmps4
      go_wp2_with fail
      refine (of_any _ _ _ [m % 8] rfl (by simpa using hm8) _ (nums_of _ _ rfl [_] _ [m % 8] (by rw [← HM.out]; rfl)) (by unfold maxLen; simp)).mono ?_; rintro e w' ⟨rfl, rfl⟩
      go_wp2_with (first
        | (go_at_call 19; refine (with_any _ _ (by omega) (by omega) _).mono ?_; rintro e w' ⟨rfl, rfl⟩)
        | (go_at_call 21; refine (major_any _ _ (by omega) (by omega) _).mono ?_; rintro e w' ⟨rfl, rfl⟩)
        | (go_at_call 24; refine (without_any _ _ (by omega) (by omega) _).mono ?_; rintro e w' ⟨rfl, rfl⟩)
        | (go_at_call 25; refine (wakes_any _).mono ?_; rintro e w' ⟨rfl, hg⟩))
      go_ret
      exact ⟨rfl, grown_trans (by repeat (first | exact Grown.refl _ | apply Grown.alloc)) hg⟩
    · have l2 := beq_no (K2.out hM1 hM3)
      go_enter Try.func4, Try.ntmps4
      go_wp2_with fail
      refine (of_any _ _ _ [m % 8] rfl (by simpa using hm8) _ (nums_of _ _ rfl [_] _ [m % 8] (by rw [← HM.out]; rfl)) (by unfold maxLen; simp)).mono ?_; rintro e w' ⟨rfl, rfl⟩
      go_wp2_with (first
        | (go_at_call 19; refine (with_any _ _ (by omega) (by omega) _).mono ?_; rintro e w' ⟨rfl, rfl⟩)
        | (go_at_call 21; refine (major_any _ _ (by omega) (by omega) _).mono ?_; rintro e w' ⟨rfl, rfl⟩)
        | (go_at_call 22; refine (both_any _ _ (by omega) (by omega) _).mono ?_; rintro e w' ⟨rfl, rfl⟩)
        | (go_at_call 23; refine (len_any _ (by omega) _).mono ?_; rintro e w' ⟨rfl, rfl⟩)
        | (go_at_call 24; refine (without_any _ _ (by omega) (by omega) _).mono ?_; rintro e w' ⟨rfl, rfl⟩)
        | (go_at_call 25; refine (wakes_any _).mono ?_; rintro e w' ⟨rfl, hg⟩))
      go_ret
      exact ⟨rfl, grown_trans (by repeat (first | exact Grown.refl _ | apply Grown.alloc)) hg⟩
    · have l1 := beq_no (K1.out hM1 hM2)
      go_enter Try.func4, Try.ntmps4
      go_wp2_with fail
      refine (of_any _ _ _ [m % 8] rfl (by simpa using hm8) _ (nums_of _ _ rfl [_] _ [m % 8] (by rw [← HM.out]; rfl)) (by unfold maxLen; simp)).mono ?_; rintro e w' ⟨rfl, rfl⟩
      go_wp2_with (first
        | (go_at_call 19; refine (with_any _ _ (by omega) (by omega) _).mono ?_; rintro e w' ⟨rfl, rfl⟩)
        | (go_at_call 21; refine (major_any _ _ (by omega) (by omega) _).mono ?_; rintro e w' ⟨rfl, rfl⟩)
        | (go_at_call 22; refine (both_any _ _ (by omega) (by omega) _).mono ?_; rintro e w' ⟨rfl, rfl⟩)
        | (go_at_call 23; refine (len_any _ (by omega) _).mono ?_; rintro e w' ⟨rfl, rfl⟩)
        | (go_at_call 24; refine (without_any _ _ (by omega) (by omega) _).mono ?_; rintro e w' ⟨rfl, rfl⟩)
        | (go_at_call 25; refine (wakes_any _).mono ?_; rintro e w' ⟨rfl, hg⟩))
      go_ret
      exact ⟨rfl, grown_trans (by repeat (first | exact Grown.refl _ | apply Grown.alloc)) hg⟩
    · have l1 := beq_no (K1.out hM1 hM2)
      have l2 := beq_no (K2.out hM1 hM3)
      go_enter Try.func4, Try.ntmps4
      go_wp2_with fail
      refine (of_any _ _ _ [m % 8] rfl (by simpa using hm8) _ (nums_of _ _ rfl [_] _ [m % 8] (by rw [← HM.out]; rfl)) (by unfold maxLen; simp)).mono ?_; rintro e w' ⟨rfl, rfl⟩
      go_wp2_with (first
        | (go_at_call 19; refine (with_any _ _ (by omega) (by omega) _).mono ?_; rintro e w' ⟨rfl, rfl⟩)
        | (go_at_call 21; refine (major_any _ _ (by omega) (by omega) _).mono ?_; rintro e w' ⟨rfl, rfl⟩)
        | (go_at_call 22; refine (both_any _ _ (by omega) (by omega) _).mono ?_; rintro e w' ⟨rfl, rfl⟩)
        | (go_at_call 23; refine (len_any _ (by omega) _).mono ?_; rintro e w' ⟨rfl, rfl⟩)
        | (go_at_call 24; refine (without_any _ _ (by omega) (by omega) _).mono ?_; rintro e w' ⟨rfl, rfl⟩)
        | (go_at_call 25; refine (wakes_any _).mono ?_; rintro e w' ⟨rfl, hg⟩))
      go_ret
      exact ⟨rfl, grown_trans (by repeat (first | exact Grown.refl _ | apply Grown.alloc)) hg⟩

theorem walk (a0 : Int) (a1 : Int) (a2 : Int) (a3 : Int) (w0 : (Lit.int .u8 a0).wf = true) (w1 : (Lit.int .u8 a1).wf = true) (w2 : (Lit.int .u8 a2).wf = true) (w3 : (Lit.int .u8 a3).wf = true) (w : World) :
    Calls Try.prog 4 #[.int .u8 a0, .int .u8 a1, .int .u8 a2, .int .u8 a3] w fun e w' => e = .returned (.bool true) ∧ Grown w w' := by
  have b0 := bounds_u8 w0
  have b1 := bounds_u8 w1
  have b2 := bounds_u8 w2
  have b3 := bounds_u8 w3
  obtain ⟨s, rfl⟩ := Int.eq_ofNat_of_zero_le b0.1
  obtain ⟨p, rfl⟩ := Int.eq_ofNat_of_zero_le b1.1
  obtain ⟨q, rfl⟩ := Int.eq_ofNat_of_zero_le b2.1
  obtain ⟨m, rfl⟩ := Int.eq_ofNat_of_zero_le b3.1
  exact core s p q m (by omega) (by omega) (by omega) (by omega) w
end Go.Proofs.Ytghicjkponnceaa.MemberMeetW
