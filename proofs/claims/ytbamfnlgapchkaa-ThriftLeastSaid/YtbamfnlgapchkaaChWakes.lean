/- The closed run of chapter 15's laws; the law ChainNil; chains that are pushed. Conditions: those each law names. -/
import Derived.Test.YtbamfnlgapchkaaChSpanL
import Derived.Test.YtbamfnlgapchkaaChY
namespace Go.Proofs.Ytbamfnlgapchkaa.Chn
open Go.RowKit Mem DrawInv

theorem w_push1 {B g : Nat} {v : Value} {w : World} (q : ChS B g (⟨0, [7]⟩ : Ch) v w) (hB : B ≤ w.heap.size) : Calls Try.prog 22 #[.pointer (some ⟨g, 0, none⟩), .int .u8 6] w fun e w' => e = .returned (.int .i64 0) ∧ ∃ v', ChS B g (⟨0, [7, 6]⟩ : Ch) v' w' ∧ QStep g v w v' w' := push_any q hB 6 (by omega) (by simp)
theorem w_push2 {B g : Nat} {v : Value} {w : World} (q : ChS B g (⟨0, [7, 6]⟩ : Ch) v w) (hB : B ≤ w.heap.size) : Calls Try.prog 22 #[.pointer (some ⟨g, 0, none⟩), .int .u8 3] w fun e w' => e = .returned (.int .i64 0) ∧ ∃ v', ChS B g (⟨0, [7, 6, 3]⟩ : Ch) v' w' ∧ QStep g v w v' w' := push_any q hB 3 (by omega) (by simp)
theorem w_at3 {B g : Nat} {v : Value} {w : World} (q : ChS B g (⟨0, [7, 6, 3]⟩ : Ch) v w) : Calls Try.prog 17 #[.pointer (some ⟨g, 0, none⟩), .int .u64 3] w fun e w' => e = .returned (.tuple #[.int .u8 7, .bool true]) ∧ Below w.heap.size w w' := at_any q 3 (by omega)
theorem w_at5 {B g : Nat} {v : Value} {w : World} (q : ChS B g (⟨0, [7, 6, 3]⟩ : Ch) v w) : Calls Try.prog 17 #[.pointer (some ⟨g, 0, none⟩), .int .u64 5] w fun e w' => e = .returned (.tuple #[.int .u8 3, .bool true]) ∧ Below w.heap.size w w' := at_any q 5 (by omega)
theorem w_at6 {B g : Nat} {v : Value} {w : World} (q : ChS B g (⟨0, [7, 6, 3]⟩ : Ch) v w) : Calls Try.prog 17 #[.pointer (some ⟨g, 0, none⟩), .int .u64 6] w fun e w' => e = .returned (.tuple #[.int .u8 0, .bool false]) ∧ Below w.heap.size w w' := at_any q 6 (by omega)
theorem w_top {B g : Nat} {v : Value} {w : World} (q : ChS B g (⟨0, [7, 6, 3]⟩ : Ch) v w) : Calls Try.prog 18 #[.pointer (some ⟨g, 0, none⟩)] w fun e w' => e = .returned (.int .u64 2) ∧ Below w.heap.size w w' := top_any q
theorem w_tail {B g : Nat} {v : Value} {w : World} (q : ChS B g (⟨0, [7, 6, 3]⟩ : Ch) v w) : Calls Try.prog 27 #[.pointer (some ⟨g, 0, none⟩)] w fun e w' => e = .returned (.string ⟨#[7, 6, 3]⟩) ∧ Below w.heap.size w w' := tail_any q
theorem w_span {B g : Nat} {v : Value} {w : World} (q : ChS B g (⟨0, [7, 6, 3]⟩ : Ch) v w) : Calls Try.prog 26 #[.pointer (some ⟨g, 0, none⟩), .int .u64 4, .int .u64 5] w fun e w' => e = .returned (.int .u8 7) ∧ Below w.heap.size w w' := by
  have h := span_any q 4 5 (by omega)
  have e : Ch.span (⟨0, [7, 6, 3]⟩ : Ch) 4 5 = 7 := by decide +kernel
  rw [e] at h
  exact h
set_option maxRecDepth 100000 in
set_option maxHeartbeats 2000000 in
theorem wakes_any (w : World) : Calls Try.prog 15 #[] w fun e w' => e = .returned (.bool true) ∧ Below w.heap.size w w' := by
  go_enter Try.func15, Try.ntmps15
  go_wp2_with fail
  refine (new_any 7 rfl w).mono ?_; rintro e w1 ⟨g, v, rfl, q, bw⟩
  go_wp2_with fail
  refine (w_push1 q bw.size).mono ?_; rintro e w2 ⟨rfl, v2, q2, s2⟩
  have bw := q.bw s2 bw (Nat.le_refl _) bw.size
  go_wp2_with fail
  refine (w_push2 q2 bw.size).mono ?_; rintro e w3 ⟨rfl, v3, q3, s3⟩
  have bw := q2.bw s3 bw (Nat.le_refl _) bw.size
  clear q q2 s2 s3
  have q := q3
  clear q3
  go_wp2_with fail
  refine (w_at3 q).mono ?_; rintro e w4 ⟨rfl, B4⟩
  have q := q.below B4
  have bw := bw.trans (B4.mono bw.size)
  clear B4
  go_wp2_with fail
  refine (w_at5 q).mono ?_; rintro e w5 ⟨rfl, B5⟩
  have q := q.below B5
  have bw := bw.trans (B5.mono bw.size)
  clear B5
  go_wp2_with fail
  refine (w_at6 q).mono ?_; rintro e w6 ⟨rfl, B6⟩
  have q := q.below B6
  have bw := bw.trans (B6.mono bw.size)
  clear B6
  go_wp2_with fail
  refine (w_top q).mono ?_; rintro e w7 ⟨rfl, B7⟩
  have q := q.below B7
  have bw := bw.trans (B7.mono bw.size)
  clear B7
  go_wp2_with fail
  refine (w_tail q).mono ?_; rintro e w8 ⟨rfl, B8⟩
  have q := q.below B8
  have bw := bw.trans (B8.mono bw.size)
  clear B8
  go_wp2_with fail
  refine (w_span q).mono ?_; rintro e w9 ⟨rfl, B9⟩
  have q := q.below B9
  have bw := bw.trans (B9.mono bw.size)
  clear B9
  go_wp2_with fail
  go_ret
  exact ⟨rfl, bw⟩
set_option maxRecDepth 100000 in
set_option maxHeartbeats 2000000 in
theorem cnil_any (s a b : Nat) (w : World) : Calls Try.prog 5 #[.int .u8 (s : Int), .int .u64 (a : Int), .int .u64 (b : Int)] w fun e w' => e = .returned (.bool true) ∧ Below w.heap.size w w' := by
  go_enter Try.func5, Try.ntmps5
  go_wp2_with fail
  refine (at_nil a w).mono ?_; rintro e w1 ⟨rfl, rfl⟩
  go_wp2_with fail
  refine (push_nil s w).mono ?_; rintro e w1 ⟨rfl, rfl⟩
  go_wp2_with fail
  refine (release_nil a w).mono ?_; rintro e w1 ⟨rfl, rfl⟩
  go_wp2_with fail
  refine (low_nil w).mono ?_; rintro e w1 ⟨rfl, rfl⟩
  go_wp2_with fail
  refine (top_nil w).mono ?_; rintro e w1 ⟨rfl, rfl⟩
  go_wp2_with fail
  refine (span_nil a b w).mono ?_; rintro e w1 ⟨rfl, bw⟩
  go_wp2_with fail
  refine (tail_nil w1).mono ?_; rintro e w2 ⟨rfl, rfl⟩
  go_wp2_with fail
  refine (copy_nil w1).mono ?_; rintro e w2 ⟨rfl, rfl⟩
  go_wp2_with fail
  refine (wakes_any w1).mono ?_; rintro e w2 ⟨rfl, B2⟩
  have bw := bw.trans (B2.mono bw.size)
  go_wp2_with fail
  go_ret
  exact ⟨rfl, bw⟩
/-- What pushed hands back. -/
def PushRet (w : World) (first : Nat) (l : List Nat) (e : Ending) (w' : World) : Prop :=
  ((first :: l).all dirB = true ∧ ∃ g v, e = .returned (.pointer (some ⟨g, 0, none⟩)) ∧ ChS w.heap.size g ⟨0, first :: l⟩ v w') ∨ ((first :: l).all dirB = false ∧ e = .returned (.pointer none))
theorem push_low {c : Ch} (hl : c.low = 0) (hn : c.dirs.length ≤ 1000) {s : Nat} (hd : dirB s = true) : c.push s = (⟨0, c.dirs ++ [s]⟩, 0) := by
  unfold Ch.push
  rw [if_neg (by rw [hd]; decide), if_neg (by unfold Ch.top; omega), hl]
theorem push_no {c : Ch} {s : Nat} (hd : dirB s = false) : c.push s = (c, 2) := by
  unfold Ch.push
  rw [if_pos hd]
set_option linter.unusedVariables false in
set_option maxRecDepth 100000 in
set_option maxHeartbeats 2000000 in
theorem pushed_any (first : Nat) (hf : first < 256) (l : List Nat) (hlt : ∀ x ∈ l, x < 256) (n : Nat) (hn : l.length = n) (hn2 : n ≤ 200) (A : Option Addr) (cp : Nat) (w : World) (hr : Reads w w.heap.size 1 A n (l.map u8v)) : Calls Try.prog 16 #[.int .u8 (first : Int), .slice A n cp] w fun e w' => PushRet w first l e w' ∧ Below w.heap.size w w' := by
  cases hd : dirB first
  · have hno : (first :: l).all dirB = false := by simp [hd]
    have HQ : Hid (∀ w', PushRet w first l (.returned (.pointer none)) w') := fun w' => .inr ⟨hno, rfl⟩
    have HNW := Lib.hid (new_bad first hf hd w)
    clear hno hd hlt hr hn
    go_enter Try.func16, Try.ntmps16
    go_wp2_with fail
    refine HNW.out.mono ?_; rintro e w1 ⟨rfl, rfl⟩
    clear HNW
    go_wp2_with fail
    go_loopg [6, 7] 1 (fun gk v6 v7 wr => v6 = .int .i64 2 ∧ v7 = .int .i64 0 ∧ wr = w)
    case atStart => exact ⟨rfl, rfl, rfl⟩
    case round =>
      obtain ⟨rfl, rfl, rfl⟩ := hrel
      by_cases h0 : (0 : Int) < (n : Int)
      · go_wp2_with fail
        go_ret
        exact ⟨HQ.out _, Below.refl _ _⟩
      · go_wp2_with fail
        go_ret
        exact ⟨HQ.out _, Below.refl _ _⟩
  have HN := Lib.hid hn
  have HLT := Lib.hid hlt
  have HD := Lib.hid hd
  have HR := Lib.hid hr
  have HNW := Lib.hid (new_any first hd w)
  clear hn hlt hd hr
  go_enter Try.func16, Try.ntmps16
  go_wp2_with fail
  refine HNW.out.mono ?_; rintro e w1 ⟨g, v1, rfl, q1, bw⟩
  clear HNW
  go_wp2_with fail
  go_loopg [6, 7] (n + 1) (fun gk v6 v7 wr => ∃ (i : Nat) (er : Nat), i + gk = n + 1 ∧ v7 = .int .i64 (i : Int) ∧ v6 = .int .i64 (er : Int) ∧ Hid ((er = 0 ∧ i ≤ n ∧ ∃ v, ChS w.heap.size g ⟨0, first :: l.take i⟩ v wr) ∨ (er = 2 ∧ l.all dirB = false)) ∧ Below w.heap.size w wr)
  case atStart => exact ⟨0, 0, by omega, rfl, rfl, .inl ⟨rfl, by omega, v1, q1⟩, bw⟩
  case round =>
    clear q1 bw
    obtain ⟨i, er, hi, rfl, rfl, HC, bw⟩ := hrel
    by_cases h4 : i < n
    · have hk4 : (i : Int) < (n : Int) := by omega
      rcases HC.out with ⟨rfl, _, v, q⟩ | ⟨rfl, hno⟩
      · obtain ⟨ad, u, rfl, hadl, hu, hcell⟩ := HR.out.at_ h4
        obtain ⟨x, hx, hux⟩ : ∃ x, l[i]? = some x ∧ u = .int .u8 (x : Int) := by
          rw [List.getElem?_map] at hu
          cases hd : l[i]? with
          | none => rw [hd] at hu; cases hu
          | some y => rw [hd] at hu; exact ⟨y, rfl, (Option.some.inj hu).symm⟩
        subst hux
        have q0 := (bw.cell (p := ad.add i) (by rw [block_of_add]; exact hadl)).trans hcell
        have hx256 := HLT.out x (List.mem_of_getElem? hx)
        have hlen : (l.take i).length ≤ i := by rw [List.length_take]; omega
        have HP := Lib.hid (push_any q bw.size x hx256 (by simp only [List.length_cons]; omega))
        cases hdx : dirB x
        · rw [push_no hdx] at HP
          have HC2 : Hid ((2 = 0 ∧ i + 1 ≤ n ∧ ∃ v, ChS w.heap.size g ⟨0, first :: l.take (i + 1)⟩ v wr) ∨ ((2 : Nat) = 2 ∧ l.all dirB = false)) := .inr ⟨rfl, by rw [List.all_eq_false]; exact ⟨x, List.mem_of_getElem? hx, by rw [hdx]; decide⟩⟩
          have hno : l.all dirB = false := by rw [List.all_eq_false]; exact ⟨x, List.mem_of_getElem? hx, by rw [hdx]; decide⟩
          have HNO := Lib.hid hno
          have HQ := Lib.hid q
          clear hu hcell hx hx256 hlen HC2 hdx hno q HC
          go_wp2_with fail
          refine HP.out.mono ?_; rintro e w2 ⟨rfl, v2, q2, s2⟩
          have bw2 := HQ.out.bw s2 bw (Nat.le_refl _) bw.size
          clear HP q2 s2 bw q0
          go_wp2_with fail
          go_roundg (n + 1 - (i + 1))
          case measure => omega
          case rel => exact ⟨i + 1, 2, by omega, by go_num, rfl, .inr ⟨rfl, HNO.out⟩, bw2⟩
        · rw [push_low rfl (by simp only [List.length_cons]; omega) hdx] at HP
          have htk : first :: l.take (i + 1) = (first :: l.take i) ++ [x] := by rw [List.take_add_one, hx]; rfl
          simp only [← htk] at HP
          have HQ := Lib.hid q
          clear hu hcell hx hx256 hlen htk hdx q HC
          go_wp2_with fail
          refine HP.out.mono ?_; rintro e w2 ⟨rfl, v2, q2, s2⟩
          have bw2 := HQ.out.bw s2 bw (Nat.le_refl _) bw.size
          have HQ2 := Lib.hid q2
          clear HP q2 s2 bw q0
          go_wp2_with fail
          go_roundg (n + 1 - (i + 1))
          case measure => omega
          case rel => exact ⟨i + 1, 0, by omega, by go_num, rfl, .inl ⟨rfl, by omega, v2, HQ2.out⟩, bw2⟩
      · have HQ : Hid (PushRet w first l (.returned (.pointer none)) wr) := .inr ⟨by rw [List.all_cons, hno, Bool.and_false], rfl⟩
        clear hno HC
        go_wp2_with fail
        go_ret
        exact ⟨HQ.out, bw⟩
    · have hk4 : ¬ (i : Int) < (n : Int) := by omega
      rcases HC.out with ⟨rfl, hin, v, q⟩ | ⟨rfl, hno⟩
      · obtain rfl : n = i := by omega
        rw [List.take_of_length_le (by rw [HN.out]; omega)] at q
        have hall : (first :: l).all dirB = true := List.all_eq_true.2 q.ok.dir
        have HQ : Hid (PushRet w first l (.returned (.pointer (some ⟨g, 0, none⟩))) wr) := .inl ⟨hall, g, v, rfl, q⟩
        clear hall q HC
        go_wp2_with fail
        go_ret
        exact ⟨HQ.out, bw⟩
      · have HQ : Hid (PushRet w first l (.returned (.pointer none)) wr) := .inr ⟨by rw [List.all_cons, hno, Bool.and_false], rfl⟩
        clear hno HC
        go_wp2_with fail
        go_ret
        exact ⟨HQ.out, bw⟩
end Go.Proofs.Ytbamfnlgapchkaa.Chn
