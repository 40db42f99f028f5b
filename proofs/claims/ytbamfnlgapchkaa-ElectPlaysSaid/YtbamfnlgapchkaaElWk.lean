/- The closed run of chapter 19's laws; the law ElectNil. Conditions: those each law names. -/
import Derived.Test.YtbamfnlgapchkaaElA
namespace Go.Proofs.Ytbamfnlgapchkaa.Ele
open Go Go.RowKit Bal Mem DrawInv

theorem RoS.mono {B C g mg : Nat} {q : Ro} {w : World} (h : RoS B g mg q w) (hC : C ≤ B) : RoS C g mg q w := ⟨h.hg, h.hm, Nat.le_trans hC h.hB, Nat.le_trans hC h.hM, h.lw⟩
theorem RoS.bw {B g mg C : Nat} {q : Ro} {w w' w0 : World} (h : RoS B g mg q w) (o : Outs [g, mg] w w') (bw : Below C w0 w) (hC : C ≤ B) : Below C w0 w' :=
  bw.trans (o.below (by have := h.hB; have := h.hg.lt; omega) (fun r hr => by
    rcases List.mem_cons.1 hr with rfl | hr
    · exact Nat.le_trans hC h.hB
    · rw [List.mem_singleton.1 hr]; exact Nat.le_trans hC h.hM))
theorem votes_new (w : World) (t : TypeId) (V : List Vt) : Rows (w.alloc (.cells (V.flatMap vtL).toArray t)) (some ⟨w.heap.size, 0, none⟩) 4 vtL V := by
  refine reads_rows vtL_len ⟨flat_length vtL_len V, fun _ => ⟨_, rfl, by simp, fun j u hu => ?_⟩⟩
  have hb := Blk.new w t (V.flatMap vtL).toArray
  have e : (⟨w.heap.size, 0, none⟩ : Addr).add j = ⟨w.heap.size, j, none⟩ := by unfold Addr.add; by_cases h : j = 0 <;> simp [h]
  rw [e, hb.cell j]
  simpa using hu
theorem eof_any (n r : Nat) (w : World) : Calls Try.prog 52 #[.int .u64 (n : Int), .int .u8 (r : Int)] w fun e w' => e = .returned (bV ⟨n, r⟩) ∧ Below w.heap.size w w' := by
  unfold bV bC
  have b0 := below_1 w (.cells #[.int .u64 (n : Int), .int .u8 (r : Int)] 71)
  have b0 := below_1 w (.cells #[.int .u64 0, .int .u8 0] 71)
  have k0 := Blk.new w 71 #[.int .u64 0, .int .u8 0]
  obtain ⟨wA, hwA⟩ : ∃ wA, wA = w.alloc (.cells #[.int .u64 0, .int .u8 0] 71) := ⟨_, rfl⟩
  obtain ⟨ga, hga⟩ : ∃ g, g = w.heap.size := ⟨_, rfl⟩
  rw [← hwA] at b0 k0
  rw [← hga] at k0
  obtain ⟨w3, hst, k3, hg3⟩ : ∃ w3, (Instr.storeAt 71 (.pointer (some ⟨ga, 0, none⟩)) (.agg #[.int .u64 (n : Int), .int .u8 (r : Int)])).run Try.prog wA = .ok () w3 ∧ Blk w3 ga 71 #[.int .u64 (n : Int), .int .u8 (r : Int)] ∧ wA.grownBy w3 (some ga) := ⟨_, blk_store k0 rfl (by kernel_rfl) rfl, k0.setRow, grown_setRow (World.grownBy.refl _ _) (.inr rfl)⟩
  have b3 := b0.grown hg3 b0.size (fun k hk => by cases hk; rw [hga]; exact Nat.le_refl _)
  have HLD := Lib.hid (blk_loadVar (P := Try.prog) (ty := 71) k3 Try.underlying71 rfl (by kernel_rfl))
  clear k0 b0 k3 hg3
  go_enter Try.func52, Try.ntmps52
  go_upto_region 1 with fail
  rw [← hwA, ← hga]
  clear hwA hga
  go_wp2_with (refine wpList_store (by rfl) (.tmp 4) (.tmp 7) (by rfl) (by rfl) (by rfl) hst ?_)
  exact bodyPost_ret (v := .agg #[.int .u64 (n : Int), .int .u8 (r : Int)]) (by simp [results, Try.results52, asAddr, HLD.out, Act.put]) rfl ⟨rfl, b3⟩
theorem w_add {B g mg : Nat} {q : Ro} {w : World} (h : RoS B g mg q w) (hB : B ≤ w.heap.size) (node base : Nat) (hn : node < 256) (V : List Vt) (hm2 : V.length ≤ 100000) :
    Calls Try.prog 53 #[(.pointer (some ⟨g, 0, none⟩)), .int .u8 (node : Int), .int .u64 (base : Int), .slice (some ⟨w.heap.size, 0, none⟩) V.length V.length] (w.alloc (.cells (V.flatMap vtL).toArray 73)) fun e w' => e = .returned (.int .i64 ((addE q node : Nat) : Int)) ∧ RoS B g mg (q.add node base V) w' ∧ Outs [g, mg] w w' := by
  have b0 := below_1 w (.cells (V.flatMap vtL).toArray 73)
  refine (eadd_any (h.below b0) (Nat.le_trans hB b0.size) node base hn V V.length rfl hm2 (some ⟨w.heap.size, 0, none⟩) V.length (votes_new w 73 V) (fun _ ad e => ?_)).mono ?_
  · cases e
    have h1 := h.hg.lt
    have h2 := h.hm.lt
    simp
    omega
  · rintro e w' ⟨he, hr, ho⟩
    exact ⟨he, hr, (Outs.of_below b0).trans ho⟩
def V1 : List Vt := [⟨5, 1, 0, [120]⟩]
def V2 : List Vt := [⟨5, 2, 1, [121]⟩, ⟨7, 1, 0, [122]⟩]
def Q1 : Ro := (Ro.new 3 0).add 0 0 V1
def Q2 : Ro := Q1.add 1 4 V2
theorem w_new (w : World) : Calls Try.prog 51 #[.agg #[.int .u64 3, .int .u8 0]] w fun e w' => NewRo w ⟨3, 0⟩ e w' := enew_any ⟨3, 0⟩ (by decide) w
theorem w_of30 (w : World) : Calls Try.prog 52 #[.int .u64 3, .int .u8 0] w fun e w' => e = .returned (.agg #[.int .u64 3, .int .u8 0]) ∧ Below w.heap.size w w' := eof_any 3 0 w
theorem w_of10 (w : World) : Calls Try.prog 52 #[.int .u64 1, .int .u8 0] w fun e w' => e = .returned (.agg #[.int .u64 1, .int .u8 0]) ∧ Below w.heap.size w w' := eof_any 1 0 w
theorem w_of21 (w : World) : Calls Try.prog 52 #[.int .u64 2, .int .u8 1] w fun e w' => e = .returned (.agg #[.int .u64 2, .int .u8 1]) ∧ Below w.heap.size w w' := eof_any 2 1 w
section
variable {B g mg : Nat} {w : World}
theorem w_a1 (h : RoS B g mg (Ro.new 3 0) w) (hB : B ≤ w.heap.size) : Calls Try.prog 53 #[(.pointer (some ⟨g, 0, none⟩)), .int .u8 0, .int .u64 0, .slice (some ⟨w.heap.size, 0, none⟩) 1 1] (w.alloc (.cells #[.int .u64 5, .int .u64 1, .int .u8 0, .string ⟨#[120]⟩] 73)) fun e w' => e = .returned (.int .i64 0) ∧ RoS B g mg Q1 w' ∧ Outs [g, mg] w w' := w_add h hB 0 0 (by omega) V1 (by decide)
theorem w_a2 (h : RoS B g mg Q1 w) (hB : B ≤ w.heap.size) : Calls Try.prog 53 #[(.pointer (some ⟨g, 0, none⟩)), .int .u8 1, .int .u64 4, .slice (some ⟨w.heap.size, 0, none⟩) 2 2] (w.alloc (.cells #[.int .u64 5, .int .u64 2, .int .u8 1, .string ⟨#[121]⟩, .int .u64 7, .int .u64 1, .int .u8 0, .string ⟨#[122]⟩] 73)) fun e w' => e = .returned (.int .i64 0) ∧ RoS B g mg Q2 w' ∧ Outs [g, mg] w w' := w_add h hB 1 4 (by omega) V2 (by decide)
theorem w_a3 (h : RoS B g mg Q2 w) (hB : B ≤ w.heap.size) : Calls Try.prog 53 #[(.pointer (some ⟨g, 0, none⟩)), .int .u8 1, .int .u64 9, .slice none 0 0] w fun e w' => e = .returned (.int .i64 13) ∧ RoS B g mg Q2 w' ∧ Outs [g, mg] w w' := eadd_any h hB 1 9 (by omega) [] 0 rfl (by omega) none 0 (Rows.nil _ _ _ _) (fun _ ad e => by cases e)
theorem w_b5 (h : RoS B g mg Q2 w) : Calls Try.prog 55 #[(.pointer (some ⟨g, 0, none⟩)), .int .u64 5] w fun e w' => e = .returned (.tuple #[.string ⟨#[121]⟩, .bool true]) ∧ Below w.heap.size w w' := ebound_any h 5
theorem w_b6 (h : RoS B g mg Q2 w) : Calls Try.prog 55 #[(.pointer (some ⟨g, 0, none⟩)), .int .u64 6] w fun e w' => e = .returned (.tuple #[.string ⟨#[]⟩, .bool true]) ∧ Below w.heap.size w w' := ebound_any h 6
theorem w_b8 (h : RoS B g mg Q2 w) : Calls Try.prog 55 #[(.pointer (some ⟨g, 0, none⟩)), .int .u64 8] w fun e w' => e = .returned (.tuple #[.string ⟨#[]⟩, .bool false]) ∧ Below w.heap.size w w' := ebound_any h 8
theorem w_fl (h : RoS B g mg Q2 w) : Calls Try.prog 56 #[(.pointer (some ⟨g, 0, none⟩))] w fun e w' => e = .returned (.tuple #[.int .u64 4, .int .u8 1]) ∧ Below w.heap.size w w' := efloor_any h
theorem w_la (h : RoS B g mg Q2 w) : Calls Try.prog 57 #[(.pointer (some ⟨g, 0, none⟩))] w fun e w' => e = .returned (.int .u64 7) ∧ w = w' := elast_any h
theorem w_wh (h : RoS B g mg Q2 w) : Calls Try.prog 63 #[(.pointer (some ⟨g, 0, none⟩))] w fun e w' => e = .returned (.int .u8 3) ∧ w = w' := ewho_any h
theorem w_m1 (h : RoS B g mg Q2 w) : Calls Try.prog 54 #[(.pointer (some ⟨g, 0, none⟩)), .int .u64 5, .int .u8 7] w fun e w' => e = .returned (.bool true) ∧ w = w' := emay_any h 5 7 (by omega)
theorem w_m2 (h : RoS B g mg Q2 w) : Calls Try.prog 54 #[(.pointer (some ⟨g, 0, none⟩)), .int .u64 4, .int .u8 7] w fun e w' => e = .returned (.bool false) ∧ w = w' := emay_any h 4 7 (by omega)
theorem w_m3 (h : RoS B g mg Q2 w) : Calls Try.prog 54 #[(.pointer (some ⟨g, 0, none⟩)), .int .u64 5, .int .u8 31] w fun e w' => e = .returned (.bool false) ∧ w = w' := emay_any h 5 31 (by omega)
end
set_option maxRecDepth 100000 in
set_option maxHeartbeats 2000000 in
theorem wakes_any (w : World) : Calls Try.prog 50 #[] w fun e w' => e = .returned (.bool true) ∧ Below w.heap.size w w' := by
  go_enter Try.func50, Try.ntmps50
  go_wp2_with fail
  refine (w_of30 w).mono ?_; rintro e w1 ⟨rfl, bw⟩
  have HS1 := bw.size
  go_wp2_with fail
  refine (w_new w1).mono ?_; rintro e w2 hnew
  obtain ⟨g, mg, rfl, r, B2⟩ := hnew
  have bw := bw.trans (B2.mono bw.size)
  have hB : w1.heap.size ≤ w2.heap.size := B2.size
  have r := r.mono HS1
  clear B2
  go_wp2_with fail
  clear hB HS1
  refine (w_of10 _).mono ?_; rintro e x10 ⟨rfl, B10⟩
  have r := r.below B10
  have bw := bw.trans (B10.mono bw.size)
  clear B10
  go_wp2_with fail
  refine (w_a1 r bw.size).mono ?_; rintro e x11 ⟨rfl, r2, o2⟩
  have bw := r.bw o2 bw (Nat.le_refl _)
  have r := r2
  clear r2 o2
  go_wp2_with fail
  refine (w_of21 _).mono ?_; rintro e x12 ⟨rfl, B12⟩
  have r := r.below B12
  have bw := bw.trans (B12.mono bw.size)
  clear B12
  go_wp2_with fail
  refine (w_of10 _).mono ?_; rintro e x13 ⟨rfl, B13⟩
  have r := r.below B13
  have bw := bw.trans (B13.mono bw.size)
  clear B13
  go_wp2_with fail
  refine (w_a2 r bw.size).mono ?_; rintro e x14 ⟨rfl, r2, o2⟩
  have bw := r.bw o2 bw (Nat.le_refl _)
  have r := r2
  clear r2 o2
  go_wp2_with fail
  refine (w_a3 r bw.size).mono ?_; rintro e x15 ⟨rfl, r2, o2⟩
  have bw := r.bw o2 bw (Nat.le_refl _)
  have r := r2
  clear r2 o2
  go_wp2_with fail
  refine (w_b5 r).mono ?_; rintro e x16 ⟨rfl, B16⟩
  have r := r.below B16
  have bw := bw.trans (B16.mono bw.size)
  clear B16
  go_wp2_with fail
  refine (w_b6 r).mono ?_; rintro e x17 ⟨rfl, B17⟩
  have r := r.below B17
  have bw := bw.trans (B17.mono bw.size)
  clear B17
  go_wp2_with fail
  refine (w_b8 r).mono ?_; rintro e x18 ⟨rfl, B18⟩
  have r := r.below B18
  have bw := bw.trans (B18.mono bw.size)
  clear B18
  go_wp2_with fail
  refine (w_fl r).mono ?_; rintro e x19 ⟨rfl, B19⟩
  have r := r.below B19
  have bw := bw.trans (B19.mono bw.size)
  clear B19
  go_wp2_with fail
  refine (w_la r).mono ?_; rintro e x20 ⟨rfl, rfl⟩
  go_wp2_with fail
  refine (w_wh r).mono ?_; rintro e x21 ⟨rfl, rfl⟩
  go_wp2_with fail
  refine (w_m1 r).mono ?_; rintro e x22 ⟨rfl, rfl⟩
  go_wp2_with fail
  refine (w_m2 r).mono ?_; rintro e x23 ⟨rfl, rfl⟩
  go_wp2_with fail
  refine (w_m3 r).mono ?_; rintro e x24 ⟨rfl, rfl⟩
  go_wp2_with fail
  go_ret
  exact ⟨rfl, bw⟩
end Go.Proofs.Ytbamfnlgapchkaa.Ele
