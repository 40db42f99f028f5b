/- The closed run of chapter 12's laws, walked: it is true; and whether acts are great. Conditions: none. -/
import Derived.Test.YtgbnaifjdfoahaaSess
import Derived.Test.YtgbnaifjdfoahaaKeep
import Derived.Deep.RegionHeld3
import Derived.Deep.DeepCutAuto
namespace Go.Proofs.Ytgbnaifjdfoahaa.Sess
open Go.RowKit

def t0 : Nat → Ent := fun _ => ⟨0, 0, noText⟩
def x1 : Ent := ⟨3, 0, ⟨#[120]⟩⟩
def t1 : Nat → Ent := fun i => if i = 1 then x1 else t0 i
def z12 : Array Value := #[.int .u32 0, .int .u8 0, .string ⟨#[]⟩, .int .u32 0, .int .u8 0, .string ⟨#[]⟩, .int .u32 0, .int .u8 0, .string ⟨#[]⟩, .int .u32 0, .int .u8 0, .string ⟨#[]⟩]
def o12 : Array Value := #[.int .u32 0, .int .u8 0, .string ⟨#[]⟩, .int .u32 3, .int .u8 0, .string ⟨#[120]⟩, .int .u32 0, .int .u8 0, .string ⟨#[]⟩, .int .u32 0, .int .u8 0, .string ⟨#[]⟩]
theorem look_a (w : World) : Calls Try.prog 17 #[.agg z12, .int .u8 1, .int .u32 3] w fun e w' => e = .returned (.tuple #[.agg #[.int .u8 0, .string ⟨#[]⟩], .int .u8 1]) ∧ Below w.heap.size w w' := look_any t0 1 3 w
theorem look_b (w : World) : Calls Try.prog 17 #[.agg o12, .int .u8 1, .int .u32 3] w fun e w' => e = .returned (.tuple #[.agg #[.int .u8 0, .string ⟨#[120]⟩], .int .u8 2]) ∧ Below w.heap.size w w' := look_any t1 1 3 w
theorem look_c (w : World) : Calls Try.prog 17 #[.agg o12, .int .u8 1, .int .u32 2] w fun e w' => e = .returned (.tuple #[.agg #[.int .u8 3, .string ⟨#[]⟩], .int .u8 3]) ∧ Below w.heap.size w w' := look_any t1 1 2 w
theorem keep_a (w : World) : Calls Try.prog 19 #[.agg z12, .int .u8 1, .int .u32 3, .agg #[.int .u8 0, .string ⟨#[120]⟩]] w fun e w' => e = .returned (.agg o12) ∧ Below w.heap.size w w' := keep_any t0 1 x1 w
theorem keep_b (w : World) : Calls Try.prog 19 #[.agg o12, .int .u8 1, .int .u32 2, .agg #[.int .u8 0, .string ⟨#[]⟩]] w fun e w' => e = .returned (.agg o12) ∧ Below w.heap.size w w' := keep_any t1 1 ⟨2, 0, noText⟩ w

theorem neq_oz (w : World) : (Op.equalIn 10000 31 (.agg o12) (.agg z12)).run Try.prog w = .ok false w := by kernel_rfl
theorem eq_oo (w : World) : (Op.equalIn 10000 31 (.agg o12) (.agg o12)).run Try.prog w = .ok true w := by kernel_rfl
set_option maxRecDepth 100000 in
set_option maxHeartbeats 8000000 in
theorem wakes12_any (w : World) : Calls Try.prog 16 #[] w fun e w' => e = .returned (.bool true) ∧ Below w.heap.size w w' := by
  have K1 := Lib.hid look_a
  have K2 := Lib.hid look_b
  have K3 := Lib.hid look_c
  have K4 := Lib.hid keep_a
  have K5 := Lib.hid keep_b
  have k := (Kg.refl w).new 31 z12
  unfold z12 o12 at *
  go_enter Try.func16, Try.ntmps16
  go_wp2_with fail
  refine (K1.out _).mono ?_; rintro e w1 ⟨rfl, B1⟩
  have k := (k.below B1)
  obtain ⟨a0, a1, a2, a3, a4, a5, a6, a7, a8, a9, a10, a11⟩ := k.i1.c12
  have s1 := k.i1.lt
  dsimp only at s1
  have n1 : ¬ w.heap.size = w1.heap.size := by omega
  clear B1
  go_wp2_with fail
  refine (K4.out _).mono ?_; rintro e w2 ⟨rfl, B2⟩
  have k := (k.alloc _).below B2
  clear a0 a1 a2 a3 a4 a5 a6 a7 a8 a9 a10 a11 B2 s1 n1
  have k := k.new 31 #[.int .u32 0, .int .u8 0, .string ⟨#[]⟩, .int .u32 3, .int .u8 0, .string ⟨#[120]⟩, .int .u32 0, .int .u8 0, .string ⟨#[]⟩, .int .u32 0, .int .u8 0, .string ⟨#[]⟩]
  go_wp2_with fail
  refine (K2.out _).mono ?_; rintro e w3 ⟨rfl, B3⟩
  have k := k.below B3
  obtain ⟨a0, a1, a2, a3, a4, a5, a6, a7, a8, a9, a10, a11⟩ := k.i1.c12
  have s1 := k.i1.lt
  dsimp only at s1
  have n1 : ¬ w2.heap.size = w3.heap.size := by omega
  clear B3
  have k := k.new 27 #[.int .u8 0, .string ⟨#[120]⟩]
  go_wp2_with fail
  refine (K3.out _).mono ?_; rintro e w4 ⟨rfl, B4⟩
  have k := k.below B4
  clear a0 a1 a2 a3 a4 a5 a6 a7 a8 a9 a10 a11 B4 s1 n1
  have k := (k.new 27 #[.int .u8 3, .string ⟨#[]⟩]).drew
  go_upto_region 6 with fail
  have E1 := neq_oz
  have E2 := eq_oo
  unfold o12 at E1 E2
  unfold z12 at E1
  go_region_held3 (fun W : World => W.cell? ⟨w3.heap.size, 0, none⟩ = some (.int .u8 0) ∧ W.cell? ⟨w3.heap.size, 1, none⟩ = some (.string ⟨#[120]⟩) ∧ W.cell? ⟨w4.heap.size, 0, none⟩ = some (.int .u8 3) ∧ W.cell? ⟨w4.heap.size, 1, none⟩ = some (.string ⟨#[]⟩) ∧ W.cell? ⟨w2.heap.size, 0, none⟩ = some (.int .u32 0) ∧ W.cell? ⟨w2.heap.size, 1, none⟩ = some (.int .u8 0) ∧ W.cell? ⟨w2.heap.size, 2, none⟩ = some (.string ⟨#[]⟩) ∧ W.cell? ⟨w2.heap.size, 3, none⟩ = some (.int .u32 3) ∧ W.cell? ⟨w2.heap.size, 4, none⟩ = some (.int .u8 0) ∧ W.cell? ⟨w2.heap.size, 5, none⟩ = some (.string ⟨#[120]⟩) ∧ W.cell? ⟨w2.heap.size, 6, none⟩ = some (.int .u32 0) ∧ W.cell? ⟨w2.heap.size, 7, none⟩ = some (.int .u8 0) ∧ W.cell? ⟨w2.heap.size, 8, none⟩ = some (.string ⟨#[]⟩) ∧ W.cell? ⟨w2.heap.size, 9, none⟩ = some (.int .u32 0) ∧ W.cell? ⟨w2.heap.size, 10, none⟩ = some (.int .u8 0) ∧ W.cell? ⟨w2.heap.size, 11, none⟩ = some (.string ⟨#[]⟩) ∧ W.cell? ⟨w.heap.size, 0, none⟩ = some (.int .u32 0) ∧ W.cell? ⟨w.heap.size, 1, none⟩ = some (.int .u8 0) ∧ W.cell? ⟨w.heap.size, 2, none⟩ = some (.string ⟨#[]⟩) ∧ W.cell? ⟨w.heap.size, 3, none⟩ = some (.int .u32 0) ∧ W.cell? ⟨w.heap.size, 4, none⟩ = some (.int .u8 0) ∧ W.cell? ⟨w.heap.size, 5, none⟩ = some (.string ⟨#[]⟩) ∧ W.cell? ⟨w.heap.size, 6, none⟩ = some (.int .u32 0) ∧ W.cell? ⟨w.heap.size, 7, none⟩ = some (.int .u8 0) ∧ W.cell? ⟨w.heap.size, 8, none⟩ = some (.string ⟨#[]⟩) ∧ W.cell? ⟨w.heap.size, 9, none⟩ = some (.int .u32 0) ∧ W.cell? ⟨w.heap.size, 10, none⟩ = some (.int .u8 0) ∧ W.cell? ⟨w.heap.size, 11, none⟩ = some (.string ⟨#[]⟩)) (exact ⟨k.i2.cell 0, k.i2.cell 1, k.i1.cell 0, k.i1.cell 1, k.i3.cell 0, k.i3.cell 1, k.i3.cell 2, k.i3.cell 3, k.i3.cell 4, k.i3.cell 5, k.i3.cell 6, k.i3.cell 7, k.i3.cell 8, k.i3.cell 9, k.i3.cell 10, k.i3.cell 11, k.i4.cell 0, k.i4.cell 1, k.i4.cell 2, k.i4.cell 3, k.i4.cell 4, k.i4.cell 5, k.i4.cell 6, k.i4.cell 7, k.i4.cell 8, k.i4.cell 9, k.i4.cell 10, k.i4.cell 11⟩)
    (first | (go_at_call 19; refine (K5.out _).mono ?_; rintro e w5 ⟨rfl, B5⟩; have k := k.below B5; clear B5))
  all_goals
    go_wp2
    go_ret
    exact ⟨rfl, k.bw⟩
end Go.Proofs.Ytgbnaifjdfoahaa.Sess
