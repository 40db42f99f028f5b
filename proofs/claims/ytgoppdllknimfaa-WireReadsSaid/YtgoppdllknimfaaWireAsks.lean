/- The law WireReads walked. Conditions: the list of asks can be read. -/
import Derived.Test.YtgoppdllknimfaaWireAsked2
import Derived.Test.YtgoppdllknimfaaOpenRows
import Derived.Test.YtgoppdllknimfaaWireWakes
import Derived.Deep.LoopGhost
import Derived.Deep.DeepCutAuto
namespace Go.Proofs.Ytgoppdllknimfaa.Wire
open Go.RowKit

structure Qn where
  d : Nat
  n : Nat
  m : Int
def Qn.Fits (x : Qn) : Prop := x.d < 256 ∧ x.n < 18446744073709551616 ∧ -9223372036854775808 ≤ x.m ∧ x.m ≤ 9223372036854775807
def qnC (x : Qn) : List Value := [.int .u8 (x.d : Int), .int .u64 (x.n : Int), .int .i64 x.m]
set_option linter.unusedSimpArgs false in
theorem dec_qn {w : World} : ∀ n es, es.length = 3 → Leafy Try.prog w n 63 es → ∃ x, Qn.Fits x ∧ es = qnC x := by
  intro n es hlen h
  match es, hlen with
  | [c0, c1, c2], _ =>
    have e0 : Try.prog.cellsOf 3 = 1 := by kernel_rfl
    have e1 : Try.prog.cellsOf 23 = 1 := by kernel_rfl
    have e2 : Try.prog.cellsOf 5 = 1 := by kernel_rfl
    obtain ⟨m1, _, hf1⟩ := leafy_struct Try.underlying63 h
    have g1_0 : Leafy Try.prog w m1 5 ((([c0, c1, c2] : List Value).drop 0).take (Try.prog.cellsOf 5)) := hf1 0 _ rfl
    rw [e2] at g1_0
    simp only [List.drop_zero, List.drop_succ_cons, List.take_succ_cons, List.take_zero] at g1_0
    have g1_1 : Leafy Try.prog w m1 23 ((([c0, c1, c2] : List Value).drop 1).take (Try.prog.cellsOf 23)) := hf1 1 _ rfl
    rw [e1] at g1_1
    simp only [List.drop_zero, List.drop_succ_cons, List.take_succ_cons, List.take_zero] at g1_1
    have g1_2 : Leafy Try.prog w m1 3 ((([c0, c1, c2] : List Value).drop 2).take (Try.prog.cellsOf 3)) := hf1 2 _ rfl
    rw [e0] at g1_2
    simp only [List.drop_zero, List.drop_succ_cons, List.take_succ_cons, List.take_zero] at g1_2
    obtain ⟨z0, q0, w0⟩ := leafy_int Try.underlying5 g1_0
    obtain rfl : c0 = _ := List.head_eq_of_cons_eq q0
    have b0 := bounds_u8 w0
    obtain ⟨x0, rfl⟩ := Int.eq_ofNat_of_zero_le b0.1
    obtain ⟨z1, q1, w1⟩ := leafy_int Try.underlying23 g1_1
    obtain rfl : c1 = _ := List.head_eq_of_cons_eq q1
    have b1 := bounds_u64 w1
    obtain ⟨x1, rfl⟩ := Int.eq_ofNat_of_zero_le b1.1
    obtain ⟨z2, q2, w2⟩ := leafy_int Try.underlying3 g1_2
    obtain rfl : c2 = _ := List.head_eq_of_cons_eq q2
    have b2 := bounds_i64 w2
    exact ⟨⟨x0, x1, z2⟩, by simp only [Qn.Fits]; omega, rfl⟩

theorem run_field_err (s : ByteArray) (e : Int) (w : World) : (Instr.field 59 (.agg #[.string s, .int .i64 e]) 1).run Try.prog w = .ok (.int .i64 e) w := by kernel_rfl
/-- What holds at the head of a round. -/
def ReadsAt (l : List Qn) (s : List UInt8) (w : World) (gk : Nat) (i : Value) (wr : World) : Prop :=
  ∃ (k : Nat) (q : Rd), k + gk = l.length ∧ i = .int .i64 (k : Int) ∧ q.rest.length ≤ s.length ∧ Kg [(w.heap.size, 80, rdC q), (w.heap.size + 1, 59, drC q.doc)] w wr

set_option maxRecDepth 100000 in
set_option maxHeartbeats 8000000 in
theorem reads_any (s : List UInt8) (hs : s.length ≤ 9223372036854775807) (l : List Qn) (hl : l.length ≤ 9223372036854775807) (hf : ∀ x ∈ l, Qn.Fits x) (A : Option Addr) (c : Nat) (w : World) (h : Rows w A 3 qnC l) :
    Calls Try.prog 10 #[.string ⟨s.toArray⟩, .slice A l.length c] w fun e w' => e = .returned (.bool true) ∧ Below w.heap.size w w' := by
  have hsz := size_str s
  by_cases hs2 : 4000 < s.length
  · go_enter Try.func10, Try.ntmps10
    go_wp2_with (go_at_call 24; refine (wakes_any _).mono ?_; rintro e w' ⟨rfl, hb⟩)
    go_ret
    exact ⟨rfl, hb⟩
  by_cases hl2 : 60 < l.length
  · go_enter Try.func10, Try.ntmps10
    go_wp2_with (go_at_call 24; refine (wakes_any _).mono ?_; rintro e w' ⟨rfl, hb⟩)
    go_ret
    exact ⟨rfl, hb⟩
  go_enter Try.func10, Try.ntmps10
  go_wp2_with fail
  refine (of_any s _).mono ?_; rintro e w1 ⟨rfl, rfl⟩
  go_wp2_with fail
  go_loopg [7] l.length (fun gk i wr => ReadsAt l s w gk i wr)
  case atStart =>
    refine ⟨0, ⟨0, s⟩, by omega, rfl, Nat.le_refl _, ?_⟩
    exact (kg_two w 80 59 (rdC ⟨0, s⟩) (drC ⟨s, 0⟩)).swap
  case round =>
    obtain ⟨k, q, hk, rfl, hq, kg⟩ := hrel
    obtain ⟨ds, eq1, eq2⟩ := doc_of q
    have kg : Kg [(w.heap.size, 80, rdC q), (w.heap.size + 1, 59, #[.string ⟨ds.toArray⟩, .int .i64 (q.err : Int)])] w wr := by
      unfold drC at kg
      rw [eq1] at kg
      exact kg
    by_cases hlt : k < l.length
    · obtain ⟨x, hx⟩ : ∃ x, l[k]? = some x := ⟨_, List.getElem?_eq_getElem hlt⟩
      obtain ⟨d1, d2, d3, d4⟩ := hf x (List.mem_of_getElem? hx)
      obtain ⟨ad, rfl, hadl, a0, a1⟩ := h.at_ hx
      have a1' := a1 0
      have a2' := a1 1
      have a0 := a0 _ rfl
      have a1 := a1' _ rfl
      have a2 := a2' _ rfl
      clear a1' a2' hx
      obtain ⟨xd, xn, xm⟩ := x
      simp only at d1 d2 d3 d4 a0 a1 a2
      have hA := asked_any w.heap.size q xd xn xm d3 d4 (by omega)
      have hr' := ask_rest q xd xn xm
      generalize askR q xd xn xm = q' at *
      obtain ⟨ds', eq1', eq2'⟩ := doc_of q'
      have hS : ∀ W, Kg [(w.heap.size + 1, 59, #[.string ⟨ds.toArray⟩, .int .i64 (q.err : Int)])] w W → (W.cell? ⟨w.heap.size + 1, 0, none⟩ = some (.string ⟨ds.toArray⟩) ∧ W.cell? ⟨w.heap.size + 1, 1, none⟩ = some (.int .i64 (q.err : Int))) ∧
          W.cell? (ad.add (k * 3)) = some (.int .u8 (xd : Int)) ∧ W.cell? { block := (ad.add (k * 3)).block, off := (ad.add (k * 3)).off + 1 } = some (.int .u64 (xn : Int)) ∧ W.cell? { block := (ad.add (k * 3)).block, off := (ad.add (k * 3)).off + 2 } = some (.int .i64 xm) := fun W K => by
        have hb := K.bw
        have z := K.i1
        exact ⟨⟨z.cell 0, z.cell 1⟩, (hb.cell (by rw [block_of_add]; exact hadl)).trans a0, (hb.cell (by show (ad.add (k * 3)).block < _; rw [block_of_add]; exact hadl)).trans a1, (hb.cell (by show (ad.add (k * 3)).block < _; rw [block_of_add]; exact hadl)).trans a2⟩
      have HS := Lib.hid hS
      unfold AskRet drV drC at hA
      simp only [eq1, eq1'] at hA
      have HA := Lib.hid hA
      have kn := kg.new 59 #[.string ⟨#[]⟩, .int .i64 0]
      have hg0 := kg.i1.lt
      have hg1 := kg.i2.lt
      simp only at hg0 hg1
      have hki : (k : Int) < (l.length : Int) := by omega
      clear hS hA a0 a1 a2
      go_upto_region 8 with fail
      go_cut [8, 9] (fun s8 s9 wx => s8 = .bool true ∧ ∃ g9, s9 = .pointer (some ⟨g9, 0, none⟩) ∧ w.heap.size + 1 < g9 ∧ Kg [(g9, 59, #[.string ⟨ds'.toArray⟩, .int .i64 (q'.err : Int)]), (w.heap.size, 80, rdC q'), (w.heap.size + 1, 59, #[.string ⟨ds.toArray⟩, .int .i64 (q.err : Int)])] w wx)
      case first =>
        go_region_held3 (fun W : World => (W.cell? ⟨w.heap.size + 1, 0, none⟩ = some (.string ⟨ds.toArray⟩) ∧ W.cell? ⟨w.heap.size + 1, 1, none⟩ = some (.int .i64 (q.err : Int))) ∧
          W.cell? (ad.add (k * 3)) = some (.int .u8 (xd : Int)) ∧ W.cell? { block := (ad.add (k * 3)).block, off := (ad.add (k * 3)).off + 1 } = some (.int .u64 (xn : Int)) ∧ W.cell? { block := (ad.add (k * 3)).block, off := (ad.add (k * 3)).off + 2 } = some (.int .i64 xm))
          (first | exact HS.out _ kg.drew.tail | exact HS.out _ kn.drew.tail.tail | exact HS.out _ k3.tail | exact HS.out _ k4.tail.tail | exact HS.out _ (k4.swap.set2 (by simp; omega) (by omega)).tail.tail | exact HS.out _ (k3.new _ _).tail.tail)
          (first
            | (go_at_call 36; refine (HA.out _ kg.drew.i1 hg0).mono ?_; rintro e w3 ⟨rfl, g3⟩; have k3 := kg.drew.rd g3 (by simp) (Nat.le_refl _); clear g3)
            | (go_at_call 36; refine (HA.out _ kn.drew.i2 (by simp; omega)).mono ?_; rintro e w3 ⟨rfl, g3⟩; have k4 := kn.drew.swap.rd g3 (by simp; omega) (Nat.le_refl _); clear g3; obtain ⟨p0, p1⟩ := k4.i2.c2; obtain ⟨p2, p3⟩ := k4.i2.f2))
        all_goals
          go_wp2_with fail
          go_meet
          first
            | exact ⟨rfl, _, rfl, by omega, k4.swap.set2 (by simp; omega) (by omega)⟩
            | exact ⟨rfl, _, rfl, by have := k3.i2.lt; simp only at this; omega, k3.new _ _⟩
      case rest =>
        obtain ⟨rfl, g9, rfl, hg9, K⟩ := hcut
        clear kg kn HS HA hg0 hg1
        obtain ⟨c0, c1⟩ := K.i1.c2
        obtain ⟨d0, d1⟩ := K.i3.c2
        obtain ⟨f0, f1⟩ := K.i3.f2
        have K2 := K.tail.swap.set2 (v0 := .string ⟨ds'.toArray⟩) (v1 := .int .i64 (q'.err : Int)) (by simp) (by omega)
        have hL : ∀ (W : World), RdAt W w.heap.size q' → Calls Try.prog 35 #[.pointer (some ⟨w.heap.size, 0, none⟩)] W fun e w' => e = .returned (.int .i64 (ds'.length : Int)) ∧ W = w' := fun W h => by
          rw [eq2']
          exact left_any w.heap.size q' W h
        have HL := Lib.hid hL
        have hsd := size_str ds'
        have E1 := Lib.hid eq1'
        clear hL eq1 eq2 eq1' eq2'
        go_wp2_with fail
        clear K c0 c1 d0 d1 f0 f1
        generalize (wc.setCell ⟨w.heap.size + 1, 0, none⟩ (.string ⟨ds'.toArray⟩)).setCell ⟨w.heap.size + 1, 1, none⟩ (.int .i64 (q'.err : Int)) = w4 at *
        go_region_held3 (fun W : World => W.cell? ⟨w.heap.size + 1, 0, none⟩ = some (.string ⟨ds'.toArray⟩) ∧ W.cell? ⟨w.heap.size + 1, 1, none⟩ = some (.int .i64 (q'.err : Int)))
          (exact ⟨K2.drew.i1.cell 0, K2.drew.i1.cell 1⟩)
          (first
            | (go_at_call 33; refine (err_any w.heap.size q' _ K2.drew.i2).mono ?_; rintro e wx ⟨rfl, rfl⟩)
            | (go_at_call 35; refine (HL.out _ K2.drew.i2).mono ?_; rintro e wx ⟨rfl, rfl⟩))
        all_goals
          go_wp2_with fail
          go_roundg (l.length - (k + 1))
          case measure => omega
          case rel => exact ⟨k + 1, q', by omega, by go_num, by omega, by unfold drC; rw [E1.out]; exact K2.drew.swap⟩
    · obtain rfl : k = l.length := by omega
      have h1 := docEnd_any q.doc
      rw [doc_end, eq1] at h1
      obtain ⟨ds', eq1', eq2'⟩ := doc_of q.end_
      have h2 := fun W hW => end_any w.heap.size q W hW
      rw [eq1'] at h1
      unfold DocRet drV drC at h1
      unfold EndRet at h2
      generalize q.end_ = q' at *
      simp only at h1
      have H1 := Lib.hid h1
      have H2 := Lib.hid h2
      clear h1 h2 eq1 eq1' eq2 eq2'
      have hfe := run_field_err ⟨ds'.toArray⟩ (q'.err : Int)
      go_wp2_with fail
      go_region_held3 (fun W : World => W.cell? ⟨w.heap.size + 1, 0, none⟩ = some (.string ⟨ds.toArray⟩) ∧ W.cell? ⟨w.heap.size + 1, 1, none⟩ = some (.int .i64 (q.err : Int)))
        (first | exact ⟨kg.drew.i2.cell 0, kg.drew.i2.cell 1⟩ | exact ⟨k3.i2.cell 0, k3.i2.cell 1⟩)
        (first
          | (go_at_call 31; refine (H2.out _ kg.drew.i1).mono ?_; rintro e w3 ⟨rfl, g3⟩; have k3 := kg.drew.rd g3 (by simp) (Nat.le_refl _); clear g3)
          | (go_at_call 37; refine (H1.out _).mono ?_; rintro e w4 ⟨rfl, B4⟩; have k3 := k3.below B4; clear B4)
          | (go_at_call 24; refine (wakes_any _).mono ?_; rintro e w5 ⟨rfl, B5⟩; have k3 := k3.below B5; clear B5))
      all_goals
        go_wp2
        go_ret
        exact ⟨rfl, k3.bw⟩
end Go.Proofs.Ytgoppdllknimfaa.Wire
