/- The walk of MemberSets: two sets, and majorities, are what the reference says. Conditions: the arguments are of their types. -/
import Derived.Test.YtghicjkponnceaaMemRef
import Derived.OpenShut
namespace Go.Proofs.Ytghicjkponnceaa.MemberSetsW
open Go.RowKit Mem

theorem beq_u8 {a b : Nat} (h : a = b) : ((a : Int) == (b : Int)) = true := by rw [beq_iff_eq]; omega
theorem beq_b {a b : Bool} (h : a = b) : (a == b) = true := by rw [h]; exact beq_self_eq_true b
set_option maxRecDepth 100000 in
set_option maxHeartbeats 2000000 in
theorem core (x y : Nat) (hx : x < 256) (hy : y < 256) (w : World) :
    Calls Try.prog 5 #[.int .u8 (x : Int), .int .u8 (y : Int)] w fun e w' => e = .returned (.bool true) ∧ Below w.heap.size w w' := by
  have lx := lenN_le x
  have ly := lenN_le y
  have lx2 := Lib.hid (len_list x)
  have ly2 := Lib.hid (len_list y)
  have l1 : (listN x).length ≤ 7 := by rw [len_list]; exact lx
  have l2 : (listN y).length ≤ 7 := by rw [len_list]; exact ly
  have l3 : (pickL (listN x) (listN y) true).length ≤ 7 := Nat.le_trans (List.length_filter_le _ _) l1
  have l4 : (pickL (listN x) (listN y) false).length ≤ 7 := Nat.le_trans (List.length_filter_le _ _) l1
  have e1 : ((withN x y : Int) == (setN (listN x ++ listN y) : Nat)) = true := beq_u8 (set_with x y).symm
  have e2 : ((withoutN x y : Int) == (setN (pickL (listN x) (listN y) false) : Nat)) = true := beq_u8 (set_without x y hy).symm
  have e3 : ((bothN x y : Int) == (setN (pickL (listN x) (listN y) true) : Nat)) = true := beq_u8 (set_both x y).symm
  have e4 : (majorB x y == majorL (listN x) (listN y)) = true := beq_b (major_list x y).symm
  have e5 : (mayB x y == mayL (listN x) (listN y)) = true := beq_b (may_list x y hy).symm
  have n1 : needN x ≤ 4 := by unfold needN; omega
  have n2 : (listN x).length < 2 * needN x := by rw [len_list]; unfold needN; omega
  have n3 : 2 * needN x ≤ (listN x).length + 2 := by rw [len_list]; unfold needN; omega
  obtain ⟨i0, hi, hz0, hz1, hz2⟩ := info_parts info_u8
  go_enter Try.func5, Try.ntmps5
  go_wp2_with fail
  refine (list_any x hx _).mono ?_
  rintro e w1 ⟨A1, c1, rfl, hr1, hb1⟩
  go_wp2_with fail
  refine (list_any y hy _).mono ?_
  rintro e w2 ⟨A2, c2, rfl, hr2, hb2⟩
  have r1 := (hr1.below hb2).more hb2.size
  go_wp2_with fail
  refine (pick_any _ _ _ _ _ _ (listN x) (listN y) true rfl rfl (by omega) (by omega) _ r1 hr2).mono ?_
  rintro e w3 ⟨A3, c3, rfl, hr3, hb3⟩
  have q1 := (r1.below hb3).more hb3.size
  have q2 := (hr2.below hb3).more hb3.size
  have hb03 := (hb1.trans (hb2.mono hb1.size)).trans (hb3.mono (Nat.le_trans hb1.size hb2.size))
  have hs03 := hb03.size
  go_wp2_with (first
    | (at_builtin; refine wpList_append_any _ rfl (.const (.slice none 0 0)) (.tmp 20) _ rfl w3.heap.size 5 i0 _ 1 1 Try.underlying44 hi hz0 hz1 hz2 rfl (by omega) (.slice none 0 0) 0 [] rfl ⟨by simp, .inl ⟨rfl, rfl⟩⟩ w3.heap.size A1 (listN x).length c1 ((listN x).map u8v) rfl q1 (one_u8v _) (by simp only [maxLen]; omega) (by omega) (Nat.le_refl _) ?_; intro v1 w4 hown1 hg1 hat1; have hb4 : Below w3.heap.size w3 w4 := (Below.refl _ _).grown hg1 (Nat.le_refl _) (by simp [Value.ownBlock]))
    | (at_builtin; refine wpList_append_any _ rfl (.tmp 21) (.tmp 22) _ rfl w3.heap.size 5 i0 _ 1 1 Try.underlying44 hi hz0 hz1 hz2 rfl (by omega) v1 (0 + (listN x).length) ([] ++ (listN x).map u8v) rfl hown1 w3.heap.size A2 (listN y).length c2 ((listN y).map u8v) rfl (q2.below hb4) (one_u8v _) (by simp only [maxLen]; omega) (by omega) hb4.size ?_; intro v2 w5 hown2 hg2 hat2)
    | fail)
  have hown3 : w5.ownsRow w3.heap.size 5 1 v2 (listN x ++ listN y).length ((listN x ++ listN y).map u8v) := by simpa using hown2
  have hb5 : Below w3.heap.size w3 w5 := hb4.grown hg2 hb4.size (fun k hk => (hown1.lt k hk).1)
  have hs5 := hb5.size
  obtain ⟨A5, c5, hv5, hr5⟩ := own_slice hown3
  have el : 0 + (listN x).length + (listN y).length = (listN x ++ listN y).length := by simp
  clear hown2 hg2 hat2 hown1 hg1 hat1 hown3 hb4
  subst hv5
  go_wp2_with fail
  refine (with_any x y hx hy _).mono ?_; rintro e w' ⟨rfl, rfl⟩
  go_wp2_with fail
  refine (setRef_any _ _ _ (listN x ++ listN y) (by simp) (by simp [maxLen]; omega) _ (nums_reads hr5)).mono ?_; rintro e w' ⟨rfl, rfl⟩
  go_wp2_with fail
  refine (without_any x y hx hy _).mono ?_; rintro e w' ⟨rfl, rfl⟩
  go_wp2_with fail
  have p1 := (q1.below hb5).more hb5.size
  have p2 := (q2.below hb5).more hb5.size
  have p3 := (hr3.below hb5).more hb5.size
  refine (pick_any _ _ _ _ _ _ (listN x) (listN y) false rfl rfl (by omega) (by omega) _ p1 p2).mono ?_
  rintro e w6 ⟨A6, c6, rfl, hr6, hb6⟩
  go_wp2_with fail
  refine (setRef_any _ _ _ (pickL (listN x) (listN y) false) rfl (by simp [maxLen]; omega) _ (nums_reads hr6)).mono ?_; rintro e w' ⟨rfl, rfl⟩
  go_wp2_with fail
  refine (both_any x y hx hy _).mono ?_; rintro e w' ⟨rfl, rfl⟩
  go_wp2_with fail
  refine (setRef_any _ _ _ (pickL (listN x) (listN y) true) rfl (by simp [maxLen]; omega) _ (nums_reads (p3.below hb6))).mono ?_; rintro e w' ⟨rfl, rfl⟩
  go_wp2_with fail
  refine (major_any x y hx hy _).mono ?_; rintro e w' ⟨rfl, rfl⟩
  go_wp2_with fail
  have o1 := (p1.below hb6).more hb6.size
  have o2 := (p2.below hb6).more hb6.size
  refine (majorRef_any _ _ _ _ _ _ (listN x) (listN y) rfl rfl (by omega) (by omega) _ o1 o2).mono ?_
  rintro e w7 ⟨rfl, hb7⟩
  go_wp2_with fail
  refine (may_any x y hx hy _).mono ?_; rintro e w' ⟨rfl, rfl⟩
  go_wp2_with fail
  refine (mayRef_any _ _ _ _ _ _ (listN x) (listN y) rfl rfl (by omega) (by omega) _ ((o1.below hb7).more hb7.size) ((o2.below hb7).more hb7.size)).mono ?_
  rintro e w8 ⟨rfl, hb8⟩
  go_wp2_with fail
  refine (need_any x hx _).mono ?_; rintro e w' ⟨rfl, rfl⟩
  go_wp2_with fail
  refine (need_any x hx _).mono ?_; rintro e w' ⟨rfl, rfl⟩
  go_wp2_with fail
  refine (wakes_below _).mono ?_; rintro e w9 ⟨rfl, hb9⟩
  go_wp2_with fail
  go_ret
  have s6 := hb6.size
  have s7 := hb7.size
  have s8 := hb8.size
  exact ⟨rfl, ((((hb03.trans (hb5.mono hs03)).trans (hb6.mono (by omega))).trans (hb7.mono (by omega))).trans (hb8.mono (by omega))).trans (hb9.mono (by omega))⟩
theorem walk (a0 : Int) (a1 : Int) (w0 : (Lit.int .u8 a0).wf = true) (w1 : (Lit.int .u8 a1).wf = true) (w : World) :
    Calls Try.prog 5 #[.int .u8 a0, .int .u8 a1] w fun e w' => e = .returned (.bool true) ∧ Below w.heap.size w w' := by
  have b0 := bounds_u8 w0
  have b1 := bounds_u8 w1
  obtain ⟨x, rfl⟩ := Int.eq_ofNat_of_zero_le b0.1
  obtain ⟨y, rfl⟩ := Int.eq_ofNat_of_zero_le b1.1
  exact core x y (by omega) (by omega) w
end Go.Proofs.Ytghicjkponnceaa.MemberSetsW
