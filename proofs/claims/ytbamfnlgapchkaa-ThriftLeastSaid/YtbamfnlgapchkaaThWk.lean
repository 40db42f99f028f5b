/- The closed run of chapter 22's laws; the law ThriftNil. Conditions: those each law names. -/
import Derived.Test.YtbamfnlgapchkaaThK
namespace Go.Proofs.Ytbamfnlgapchkaa.Thr
open Go Go.RowKit Mem DrawInv Chn

theorem ThS.bw {C B g me : Nat} {row row2 : List Nat} {v v' : Value} {w w' w0 : World} (q : ThS B g me row v w) (_q2 : ThS B g me row2 v' w') (s : QStep g v w v' w') (bw : Below C w0 w) (hC : C ≤ B) : Below C w0 w' :=
  bw.trans (s.out.below (by have := q.hB; have := q.hg.lt; omega) (fun r hr => by
    rcases List.mem_cons.1 hr with rfl | hr
    · exact Nat.le_trans hC q.hB
    · exact Nat.le_trans hC (q.ho.lt r (by simpa using hr)).1))
theorem of_b (l : List Nat) (hl : ∀ x ∈ l, x < 256) (hn : l.length ≤ 100) (w : World) : Calls Try.prog 47 #[.slice (some ⟨w.heap.size, 0, none⟩) l.length l.length] (w.alloc (.cells (l.map u8v).toArray 5)) fun e w' => e = .returned (.int .u8 ((ofN l : Nat) : Int)) ∧ Below w.heap.size w w' :=
  (of_any _ _ _ l rfl hl _ (nums_of _ _ rfl (l.map u8v) _ l rfl) (by unfold maxLen; omega)).mono fun _ _ ⟨h, hw⟩ => ⟨h, by rw [← hw]; exact (Below.refl _ w).alloc (Nat.le_refl _) _⟩
theorem of_034 (w : World) : Calls Try.prog 47 #[.slice (some ⟨w.heap.size, 0, none⟩) 3 3] (w.alloc (.cells #[.int .u8 0, .int .u8 3, .int .u8 4] 5)) fun e w' => e = .returned (.int .u8 25) ∧ Below w.heap.size w w' := of_b [0, 3, 4] (by decide) (by decide) w
theorem of_125 (w : World) : Calls Try.prog 47 #[.slice (some ⟨w.heap.size, 0, none⟩) 3 3] (w.alloc (.cells #[.int .u8 1, .int .u8 2, .int .u8 5] 5)) fun e w' => e = .returned (.int .u8 38) ∧ Below w.heap.size w w' := of_b [1, 2, 5] (by decide) (by decide) w
theorem of_12 (w : World) : Calls Try.prog 47 #[.slice (some ⟨w.heap.size, 0, none⟩) 2 2] (w.alloc (.cells #[.int .u8 1, .int .u8 2] 5)) fun e w' => e = .returned (.int .u8 6) ∧ Below w.heap.size w w' := of_b [1, 2] (by decide) (by decide) w
theorem w_h2 {B g : Nat} {v : Value} {w : World} (q : ThS B g 0 [] v w) (hB : B ≤ w.heap.size) : Calls Try.prog 39 #[.pointer (some ⟨g, 0, none⟩), .int .u8 2] w fun e w' => e = .returned (.tuple #[]) ∧ ∃ v', ThS B g 0 [2] v' w' ∧ QStep g v w v' w' := theard_any q hB 2
theorem w_h4 {B g : Nat} {v : Value} {w : World} (q : ThS B g 0 [2] v w) (hB : B ≤ w.heap.size) : Calls Try.prog 39 #[.pointer (some ⟨g, 0, none⟩), .int .u8 4] w fun e w' => e = .returned (.tuple #[]) ∧ ∃ v', ThS B g 0 [4, 2] v' w' ∧ QStep g v w v' w' := theard_any q hB 4
theorem w_h3 {B g : Nat} {v : Value} {w : World} (q : ThS B g 0 [4, 2] v w) (hB : B ≤ w.heap.size) : Calls Try.prog 39 #[.pointer (some ⟨g, 0, none⟩), .int .u8 3] w fun e w' => e = .returned (.tuple #[]) ∧ ∃ v', ThS B g 0 [3, 4, 2] v' w' ∧ QStep g v w v' w' := theard_any q hB 3
theorem w_p31 {B g : Nat} {v : Value} {w : World} (q : ThS B g 0 [3, 4, 2] v w) : Calls Try.prog 37 #[.pointer (some ⟨g, 0, none⟩), .int .u8 31] w fun e w' => e = .returned (.int .u8 25) ∧ Below w.heap.size w w' := by
  have h := tpick_any q (by omega) 31 (by omega)
  have e : setN ((outT (listN 31) (allT 0 [3, 4, 2] 31)).take (needN 31)) = 25 := by decide +kernel
  rw [e] at h
  exact h
theorem w_p38 {B g : Nat} {v : Value} {w : World} (q : ThS B g 0 [3, 4, 2] v w) : Calls Try.prog 37 #[.pointer (some ⟨g, 0, none⟩), .int .u8 38] w fun e w' => e = .returned (.int .u8 6) ∧ Below w.heap.size w w' := by
  have h := tpick_any q (by omega) 38 (by omega)
  have e : setN ((outT (listN 38) (allT 0 [3, 4, 2] 38)).take (needN 38)) = 6 := by decide +kernel
  rw [e] at h
  exact h
theorem w_p64 {B g : Nat} {v : Value} {w : World} (q : ThS B g 0 [3, 4, 2] v w) : Calls Try.prog 37 #[.pointer (some ⟨g, 0, none⟩), .int .u8 64] w fun e w' => e = .returned (.int .u8 64) ∧ Below w.heap.size w w' := by
  have h := tpick_any q (by omega) 64 (by omega)
  have e : setN ((outT (listN 64) (allT 0 [3, 4, 2] 64)).take (needN 64)) = 64 := by decide +kernel
  rw [e] at h
  exact h
theorem w_p0 {B g : Nat} {v : Value} {w : World} (q : ThS B g 0 [3, 4, 2] v w) : Calls Try.prog 37 #[.pointer (some ⟨g, 0, none⟩), .int .u8 0] w fun e w' => e = .returned (.int .u8 0) ∧ Below w.heap.size w w' := by
  have h := tpick_any q (by omega) 0 (by omega)
  have e : setN ((outT (listN 0) (allT 0 [3, 4, 2] 0)).take (needN 0)) = 0 := by decide +kernel
  rw [e] at h
  exact h
set_option maxRecDepth 100000 in
set_option maxHeartbeats 2000000 in
theorem wakes_any (w : World) : Calls Try.prog 34 #[] w fun e w' => e = .returned (.bool true) ∧ Below w.heap.size w w' := by
  have HW := Lib.hid (tnew_any 0 (by omega) w)
  go_enter Try.func34, Try.ntmps34
  go_wp2_with fail
  refine HW.out.mono ?_; rintro e w1 ⟨g, v, rfl, q, bw⟩
  clear HW
  go_wp2_with fail
  refine (w_h2 q bw.size).mono ?_; rintro e w2 ⟨rfl, v2, q2, s2⟩
  have bw := q.bw q2 s2 bw (Nat.le_refl _)
  go_wp2_with fail
  refine (w_h4 q2 bw.size).mono ?_; rintro e w3 ⟨rfl, v3, q3, s3⟩
  have bw := q2.bw q3 s3 bw (Nat.le_refl _)
  go_wp2_with fail
  refine (w_h3 q3 bw.size).mono ?_; rintro e w4 ⟨rfl, v4, q4, s4⟩
  have bw := q3.bw q4 s4 bw (Nat.le_refl _)
  clear q q2 q3 s2 s3 s4
  have q := q4
  clear q4
  go_wp2_with fail
  refine (w_p31 q).mono ?_; rintro e x0 ⟨rfl, B0⟩
  have q := q.below B0
  have bw := bw.trans (B0.mono bw.size)
  clear B0
  go_wp2_with fail
  refine (of_034 _).mono ?_; rintro e x1 ⟨rfl, B1⟩
  have q := q.below B1
  have bw := bw.trans (B1.mono bw.size)
  clear B1
  go_wp2_with fail
  refine (of_125 _).mono ?_; rintro e x2 ⟨rfl, B2⟩
  have q := q.below B2
  have bw := bw.trans (B2.mono bw.size)
  clear B2
  go_wp2_with fail
  refine (w_p38 q).mono ?_; rintro e x3 ⟨rfl, B3⟩
  have q := q.below B3
  have bw := bw.trans (B3.mono bw.size)
  clear B3
  go_wp2_with fail
  refine (of_12 _).mono ?_; rintro e x4 ⟨rfl, B4⟩
  have q := q.below B4
  have bw := bw.trans (B4.mono bw.size)
  clear B4
  go_wp2_with fail
  refine (w_p64 q).mono ?_; rintro e x5 ⟨rfl, B5⟩
  have q := q.below B5
  have bw := bw.trans (B5.mono bw.size)
  clear B5
  go_wp2_with fail
  refine (w_p0 q).mono ?_; rintro e x6 ⟨rfl, B6⟩
  have q := q.below B6
  have bw := bw.trans (B6.mono bw.size)
  clear B6
  go_wp2_with fail
  go_ret
  exact ⟨rfl, bw⟩
set_option maxRecDepth 100000 in
set_option maxHeartbeats 2000000 in
theorem tnil_any (x cf : Nat) (w : World) : Calls Try.prog 9 #[.int .u8 (x : Int), .int .u8 (cf : Int)] w fun e w' => e = .returned (.bool true) ∧ Below w.heap.size w w' := by
  go_enter Try.func9, Try.ntmps9
  go_wp2_with fail
  refine (theard_nil x w).mono ?_; rintro e w1 ⟨rfl, bw⟩
  go_wp2_with fail
  refine (trow_nil w1).mono ?_; rintro e w2 ⟨rfl, rfl⟩
  go_wp2_with fail
  refine (tpick_nil cf w1).mono ?_; rintro e w2 ⟨rfl, B2⟩
  have bw := bw.trans (B2.mono bw.size)
  clear B2
  go_wp2_with fail
  refine (wakes_any w2).mono ?_; rintro e w3 ⟨rfl, B3⟩
  have bw := bw.trans (B3.mono bw.size)
  go_wp2_with fail
  go_ret
  exact ⟨rfl, bw⟩
end Go.Proofs.Ytbamfnlgapchkaa.Thr
