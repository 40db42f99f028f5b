/- Whether a command may be, as the document says it, walked. Conditions: the command is of its type. -/
import Derived.Test.YteiaiilfekojfaaCmdCheck
namespace Go.Proofs.Yteiaiilfekojfaa.Cmd
open Go.RowKit Wire

set_option maxRecDepth 100000 in
set_option maxHeartbeats 4000000 in
theorem refMay_any (c : Cm) (w : World) : Calls Try.prog 33 #[cmV c] w fun e w' => e = .returned (.bool (mayB c)) ∧ Below w.heap.size w w' := by
  obtain ⟨m, hm⟩ : ∃ m, m = mayB c := ⟨_, rfl⟩
  rw [← hm]
  unfold mayB at hm
  have hb := Blk.new w 36 (cmC c)
  unfold cmV
  unfold cmC at *
  obtain ⟨cl, sq, k, ky, od, nw, st⟩ := c
  dsimp only at *
  have hB1 : Below w.heap.size w (w.alloc (.cells #[.int .u8 (cl : Int), .int .u32 (sq : Int), .int .u8 (k : Int), .string ⟨ky.toArray⟩, .string ⟨od.toArray⟩, .string ⟨nw.toArray⟩, .int .u8 (st : Int)] 36)) := (Below.refl _ w).alloc (Nat.le_refl _) _
  have hsk := size_str ky
  have hso := size_str od
  have hsn := size_str nw
  have HM := Lib.hid hm
  clear hm
  go_enter Try.func33, Try.ntmps33
  go_upto_region 1 with fail
  generalize (w.alloc (.cells #[.int .u8 (cl : Int), .int .u32 (sq : Int), .int .u8 (k : Int), .string ⟨ky.toArray⟩, .string ⟨od.toArray⟩, .string ⟨nw.toArray⟩, .int .u8 (st : Int)] 36)) = w1 at *
  have k0 : w1.cell? ⟨w.heap.size, 0, none⟩ = some (.int .u8 (cl : Int)) := hb.cell 0
  have k1 : w1.cell? ⟨w.heap.size, 1, none⟩ = some (.int .u32 (sq : Int)) := hb.cell 1
  have k2 : w1.cell? ⟨w.heap.size, 2, none⟩ = some (.int .u8 (k : Int)) := hb.cell 2
  have k3 : w1.cell? ⟨w.heap.size, 3, none⟩ = some (.string ⟨ky.toArray⟩) := hb.cell 3
  have k4 : w1.cell? ⟨w.heap.size, 4, none⟩ = some (.string ⟨od.toArray⟩) := hb.cell 4
  have k5 : w1.cell? ⟨w.heap.size, 5, none⟩ = some (.string ⟨nw.toArray⟩) := hb.cell 5
  have k6 : w1.cell? ⟨w.heap.size, 6, none⟩ = some (.int .u8 (st : Int)) := hb.cell 6
  clear hb
  go_cut [28] (fun s wx => wx = w1 ∧ s = .bool (decide (3 < cl ∨ sq < 1 ∨ 16 < ky.length ∨ 64 < od.length ∨ 64 < nw.length)))
  case first =>
    have e : (decide (3 < (cl : Int)) || decide ((sq : Int) < 1) || decide (16 < (ky.length : Int)) || decide (64 < (od.length : Int)) || decide (64 < (nw.length : Int))) = decide (3 < cl ∨ sq < 1 ∨ 16 < ky.length ∨ 64 < od.length ∨ 64 < nw.length) := by
      rw [Bool.eq_iff_iff]; simp only [Bool.or_eq_true, decide_eq_true_iff]; omega
    by_cases h1 : 3 < (cl : Int)
    · have e : decide (3 < cl ∨ sq < 1 ∨ 16 < ky.length ∨ 64 < od.length ∨ 64 < nw.length) = true := decide_eq_true (by omega)
      go_wp2
      go_meet
      exact ⟨rfl, by rw [e]⟩
    by_cases h2 : (sq : Int) < 1
    · have e : decide (3 < cl ∨ sq < 1 ∨ 16 < ky.length ∨ 64 < od.length ∨ 64 < nw.length) = true := decide_eq_true (by omega)
      go_wp2
      go_meet
      exact ⟨rfl, by rw [e]⟩
    by_cases h3 : 16 < (ky.length : Int)
    · have e : decide (3 < cl ∨ sq < 1 ∨ 16 < ky.length ∨ 64 < od.length ∨ 64 < nw.length) = true := decide_eq_true (by omega)
      go_wp2
      go_meet
      exact ⟨rfl, by rw [e]⟩
    by_cases h4 : 64 < (od.length : Int)
    · have e : decide (3 < cl ∨ sq < 1 ∨ 16 < ky.length ∨ 64 < od.length ∨ 64 < nw.length) = true := decide_eq_true (by omega)
      go_wp2
      go_meet
      exact ⟨rfl, by rw [e]⟩
    by_cases h5 : 64 < (nw.length : Int)
    · have e : decide (3 < cl ∨ sq < 1 ∨ 16 < ky.length ∨ 64 < od.length ∨ 64 < nw.length) = true := decide_eq_true (by omega)
      go_wp2
      go_meet
      exact ⟨rfl, by rw [e]⟩
    rw [decide_eq_false h1, decide_eq_false h2, decide_eq_false h3, decide_eq_false h4, decide_eq_false h5] at e
    go_wp2
    go_meet
    exact ⟨rfl, by rw [← e]; simp [*]⟩
  case rest =>
    obtain ⟨rfl, rfl⟩ := hcut
    by_cases hd : 3 < cl ∨ sq < 1 ∨ 16 < ky.length ∨ 64 < od.length ∨ 64 < nw.length
    · have e : decide (3 < cl ∨ sq < 1 ∨ 16 < ky.length ∨ 64 < od.length ∨ 64 < nw.length) = true := decide_eq_true hd
      rw [e]
      have hmf : m = false := HM.out.trans (decide_eq_false (by omega))
      subst hmf
      clear hd
      go_wp2
      go_ret
      exact ⟨rfl, hB1⟩
    have e : decide (3 < cl ∨ sq < 1 ∨ 16 < ky.length ∨ 64 < od.length ∨ 64 < nw.length) = false := decide_eq_false hd
    rw [e]
    rcases (show k = 1 ∨ k = 2 ∨ k = 3 ∨ k = 4 ∨ k = 5 ∨ k = 0 ∨ 5 < k by omega) with rfl | rfl | rfl | rfl | rfl | rfl | h
    · by_cases eky : ky = []
      · have lky : ky.length = 0 := by rw [eky]; rfl
        have hv : m = false := HM.out.trans (decide_eq_false (by omega))
        subst hv
        clear HM
        go_wp2
        go_ret
        exact ⟨by first | rfl | simp [*], hB1⟩
      · have lky : 1 ≤ ky.length := List.length_pos_iff.2 eky
        have iky : ky.isEmpty = false := List.isEmpty_eq_false_iff.2 eky
        by_cases eod : od = []
        · have lod : od.length = 0 := by rw [eod]; rfl
          by_cases enw : nw = []
          · have lnw : nw.length = 0 := by rw [enw]; rfl
            have hv : m = ((st : Int) == 0) := HM.out.trans (by rw [Bool.eq_iff_iff, decide_eq_true_iff, beq_iff_eq]; omega)
            subst hv
            clear HM
            go_wp2
            go_ret
            exact ⟨by first | rfl | simp [*], hB1⟩
          · have lnw : 1 ≤ nw.length := List.length_pos_iff.2 enw
            have inw : nw.isEmpty = false := List.isEmpty_eq_false_iff.2 enw
            have hv : m = false := HM.out.trans (decide_eq_false (by omega))
            subst hv
            clear HM
            go_wp2
            go_ret
            exact ⟨by first | rfl | simp [*], hB1⟩
        · have lod : 1 ≤ od.length := List.length_pos_iff.2 eod
          have iod : od.isEmpty = false := List.isEmpty_eq_false_iff.2 eod
          have hv : m = false := HM.out.trans (decide_eq_false (by omega))
          subst hv
          clear HM
          go_wp2
          go_ret
          exact ⟨by first | rfl | simp [*], hB1⟩
    · by_cases eky : ky = []
      · have lky : ky.length = 0 := by rw [eky]; rfl
        have hv : m = false := HM.out.trans (decide_eq_false (by omega))
        subst hv
        clear HM
        go_wp2
        go_ret
        exact ⟨by first | rfl | simp [*], hB1⟩
      · have lky : 1 ≤ ky.length := List.length_pos_iff.2 eky
        have iky : ky.isEmpty = false := List.isEmpty_eq_false_iff.2 eky
        by_cases eod : od = []
        · have lod : od.length = 0 := by rw [eod]; rfl
          have hv : m = ((st : Int) == 0) := HM.out.trans (by rw [Bool.eq_iff_iff, decide_eq_true_iff, beq_iff_eq]; omega)
          subst hv
          clear HM
          go_wp2
          go_ret
          exact ⟨by first | rfl | simp [*], hB1⟩
        · have lod : 1 ≤ od.length := List.length_pos_iff.2 eod
          have iod : od.isEmpty = false := List.isEmpty_eq_false_iff.2 eod
          have hv : m = false := HM.out.trans (decide_eq_false (by omega))
          subst hv
          clear HM
          go_wp2
          go_ret
          exact ⟨by first | rfl | simp [*], hB1⟩
    · by_cases eky : ky = []
      · have lky : ky.length = 0 := by rw [eky]; rfl
        have hv : m = false := HM.out.trans (decide_eq_false (by omega))
        subst hv
        clear HM
        go_wp2
        go_ret
        exact ⟨by first | rfl | simp [*], hB1⟩
      · have lky : 1 ≤ ky.length := List.length_pos_iff.2 eky
        have iky : ky.isEmpty = false := List.isEmpty_eq_false_iff.2 eky
        by_cases eod : od = []
        · have lod : od.length = 0 := by rw [eod]; rfl
          by_cases enw : nw = []
          · have lnw : nw.length = 0 := by rw [enw]; rfl
            have hv : m = ((st : Int) == 0) := HM.out.trans (by rw [Bool.eq_iff_iff, decide_eq_true_iff, beq_iff_eq]; omega)
            subst hv
            clear HM
            go_wp2
            go_ret
            exact ⟨by first | rfl | simp [*], hB1⟩
          · have lnw : 1 ≤ nw.length := List.length_pos_iff.2 enw
            have inw : nw.isEmpty = false := List.isEmpty_eq_false_iff.2 enw
            have hv : m = false := HM.out.trans (decide_eq_false (by omega))
            subst hv
            clear HM
            go_wp2
            go_ret
            exact ⟨by first | rfl | simp [*], hB1⟩
        · have lod : 1 ≤ od.length := List.length_pos_iff.2 eod
          have iod : od.isEmpty = false := List.isEmpty_eq_false_iff.2 eod
          have hv : m = false := HM.out.trans (decide_eq_false (by omega))
          subst hv
          clear HM
          go_wp2
          go_ret
          exact ⟨by first | rfl | simp [*], hB1⟩
    · by_cases eky : ky = []
      · have lky : ky.length = 0 := by rw [eky]; rfl
        have hv : m = false := HM.out.trans (decide_eq_false (by omega))
        subst hv
        clear HM
        go_wp2
        go_ret
        exact ⟨by first | rfl | simp [*], hB1⟩
      · have lky : 1 ≤ ky.length := List.length_pos_iff.2 eky
        have iky : ky.isEmpty = false := List.isEmpty_eq_false_iff.2 eky
        have hv : m = ((st : Int) == 0) := HM.out.trans (by rw [Bool.eq_iff_iff, decide_eq_true_iff, beq_iff_eq]; omega)
        subst hv
        clear HM
        go_wp2
        go_ret
        exact ⟨by first | rfl | simp [*], hB1⟩
    · by_cases eky : ky = []
      · have lky : ky.length = 0 := by rw [eky]; rfl
        by_cases eod : od = []
        · have lod : od.length = 0 := by rw [eod]; rfl
          by_cases enw : nw = []
          · have lnw : nw.length = 0 := by rw [enw]; rfl
            have hv : m = true := HM.out.trans (decide_eq_true (by omega))
            subst hv
            clear HM
            go_wp2
            go_ret
            exact ⟨by first | rfl | simp [*], hB1⟩
          · have lnw : 1 ≤ nw.length := List.length_pos_iff.2 enw
            have inw : nw.isEmpty = false := List.isEmpty_eq_false_iff.2 enw
            have hv : m = false := HM.out.trans (decide_eq_false (by omega))
            subst hv
            clear HM
            go_wp2
            go_ret
            exact ⟨by first | rfl | simp [*], hB1⟩
        · have lod : 1 ≤ od.length := List.length_pos_iff.2 eod
          have iod : od.isEmpty = false := List.isEmpty_eq_false_iff.2 eod
          have hv : m = false := HM.out.trans (decide_eq_false (by omega))
          subst hv
          clear HM
          go_wp2
          go_ret
          exact ⟨by first | rfl | simp [*], hB1⟩
      · have lky : 1 ≤ ky.length := List.length_pos_iff.2 eky
        have iky : ky.isEmpty = false := List.isEmpty_eq_false_iff.2 eky
        have hv : m = false := HM.out.trans (decide_eq_false (by omega))
        subst hv
        clear HM
        go_wp2
        go_ret
        exact ⟨by first | rfl | simp [*], hB1⟩
    · have hv : m = false := HM.out.trans (decide_eq_false (by omega))
      subst hv
      clear HM
      go_wp2
      go_ret
      exact ⟨by first | rfl | simp [*], hB1⟩
    · have n1 : ((k : Int) == 1) = false := beq_eq_false_iff_ne.2 (by omega)
      have n2 : ((k : Int) == 2) = false := beq_eq_false_iff_ne.2 (by omega)
      have n3 : ((k : Int) == 3) = false := beq_eq_false_iff_ne.2 (by omega)
      have n4 : ((k : Int) == 4) = false := beq_eq_false_iff_ne.2 (by omega)
      have n5 : ((k : Int) == 5) = false := beq_eq_false_iff_ne.2 (by omega)
      have hv : m = false := HM.out.trans (decide_eq_false (by omega))
      subst hv
      clear HM
      go_wp2
      go_ret
      exact ⟨by first | rfl | simp [*], hB1⟩
end Go.Proofs.Yteiaiilfekojfaa.Cmd
