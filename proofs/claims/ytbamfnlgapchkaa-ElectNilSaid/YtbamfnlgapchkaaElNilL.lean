/- The law ElectNil, walked. Conditions: none. -/
import Derived.Test.YtbamfnlgapchkaaElWk
namespace Go.Proofs.Ytbamfnlgapchkaa.Ele
open Go Go.RowKit Bal Mem DrawInv

set_option maxRecDepth 100000 in
set_option maxHeartbeats 2000000 in
theorem enil_any (node base slot : Nat) (A : Option Addr) (n c : Nat) (w : World) : Calls Try.prog 14 #[.agg #[.int .u8 (node : Int), .int .u64 (base : Int), .slice A n c], .int .u64 (slot : Int)] w fun e w' => e = .returned (.bool true) ∧ Below w.heap.size w w' := by
  have b0 := below_1 w (.cells #[.int .u8 (node : Int), .int .u64 (base : Int), .slice A n c] 95)
  have k0 := Blk.new w 95 #[.int .u8 (node : Int), .int .u64 (base : Int), .slice A n c]
  obtain ⟨wA, hwA⟩ : ∃ wA, w.alloc (.cells #[.int .u8 (node : Int), .int .u64 (base : Int), .slice A n c] 95) = wA := ⟨_, rfl⟩
  obtain ⟨ga, hga⟩ : ∃ g, w.heap.size = g := ⟨_, rfl⟩
  rw [hwA] at b0 k0
  rw [hga] at k0
  have HW := Lib.hid (And.intro hwA hga)
  have HBA := Lib.hid (eballot_nil wA)
  unfold bV bC at HBA
  dsimp only at HBA
  have z0 : wA.cell? ⟨ga, 0, none⟩ = some (.int .u8 (node : Int)) := k0.cell 0
  have z1 : wA.cell? ⟨ga, 1, none⟩ = some (.int .u64 (base : Int)) := k0.cell 1
  have z2 : wA.cell? ⟨ga, 2, none⟩ = some (.slice A n c) := k0.cell 2
  clear hwA hga k0
  go_enter Try.func14, Try.ntmps14
  go_upto_region 1 with fail
  rw [HW.out.1, HW.out.2]
  clear HW
  go_wp2_with fail
  refine (efloor_nil wA).mono ?_; rintro e w1 ⟨rfl, rfl⟩
  go_wp2_with fail
  refine (ebound_nil slot wA).mono ?_; rintro e w1 ⟨rfl, rfl⟩
  go_wp2_with fail
  refine (eadd_nil node base (.slice A n c) wA).mono ?_; rintro e w1 ⟨rfl, B1⟩
  have bw := b0.trans (B1.mono b0.size)
  have HBA := Lib.hid (eballot_nil w1)
  unfold bV bC at HBA
  dsimp only at HBA
  clear z0 z1 z2 B1 b0
  go_wp2_with fail
  refine HBA.out.mono ?_; rintro e w2 ⟨rfl, B2⟩
  have bw := bw.trans (B2.mono bw.size)
  clear HBA B2
  go_wp2_with fail
  refine (ewho_nil w2).mono ?_; rintro e w3 ⟨rfl, rfl⟩
  go_wp2_with fail
  refine (elast_nil w2).mono ?_; rintro e w3 ⟨rfl, rfl⟩
  go_wp2_with fail
  refine (emay_nil slot 127 w2).mono ?_; rintro e w3 ⟨rfl, rfl⟩
  go_wp2_with fail
  refine (wakes_any w2).mono ?_; rintro e w3 ⟨rfl, B3⟩
  have bw := bw.trans (B3.mono bw.size)
  go_wp2_with fail
  go_ret
  exact ⟨rfl, bw⟩
end Go.Proofs.Ytbamfnlgapchkaa.Ele
