/- The law BatchNil walked. Conditions: the argument can be read. -/
import Derived.Test.YtgpdggojajjppaaBatS
namespace Go.Proofs.Ytgpdggojajjppaa.Bat
open Go.RowKit Wire Cmd

set_option linter.unusedSimpArgs false in
set_option maxRecDepth 100000 in
set_option maxHeartbeats 4000000 in
theorem bnil_any (a : Ba) (w : World) : Calls Try.prog 8 #[.agg (baC a).toArray] w fun e w' => e = .returned (.bool true) ∧ Below w.heap.size w w' := by
  obtain ⟨xd, xn, ⟨xa, xb, xk, xs, xt, xu, xz⟩⟩ := a
  have HP : Hid (∀ W, Calls Try.prog 37 #[.pointer none, .agg #[.int .u8 (xa : Int), .int .u32 (xb : Int), .int .u8 (xk : Int), .string ⟨xs.toArray⟩, .string ⟨xt.toArray⟩, .string ⟨xu.toArray⟩, .int .u8 (xz : Int)]] W fun e w' => e = .returned (.int .i64 1) ∧ Below W.heap.size W w') := fun W => put_nil ⟨xa, xb, xk, xs, xt, xu, xz⟩ W
  rw [show (baC ⟨xd, xn, ⟨xa, xb, xk, xs, xt, xu, xz⟩⟩).toArray = #[.int .u8 (xd : Int), .int .i64 xn, .int .u8 (xa : Int), .int .u32 (xb : Int), .int .u8 (xk : Int), .string ⟨xs.toArray⟩, .string ⟨xt.toArray⟩, .string ⟨xu.toArray⟩, .int .u8 (xz : Int)] from rfl]
  have ba := Blk.new w 73 #[.int .u8 (xd : Int), .int .i64 xn, .int .u8 (xa : Int), .int .u32 (xb : Int), .int .u8 (xk : Int), .string ⟨xs.toArray⟩, .string ⟨xt.toArray⟩, .string ⟨xu.toArray⟩, .int .u8 (xz : Int)]
  have bw : Below w.heap.size w (w.alloc (.cells #[.int .u8 (xd : Int), .int .i64 xn, .int .u8 (xa : Int), .int .u32 (xb : Int), .int .u8 (xk : Int), .string ⟨xs.toArray⟩, .string ⟨xt.toArray⟩, .string ⟨xu.toArray⟩, .int .u8 (xz : Int)] 73)) := (Below.refl _ w).alloc (Nat.le_refl _) _
  go_enter Try.func8, Try.ntmps8
  go_upto_region 2 with fail
  obtain ⟨g, hg⟩ : ∃ g, g = w.heap.size := ⟨_, rfl⟩
  rw [← hg] at ba ⊢
  generalize w.alloc (.cells #[.int .u8 (xd : Int), .int .i64 xn, .int .u8 (xa : Int), .int .u32 (xb : Int), .int .u8 (xk : Int), .string ⟨xs.toArray⟩, .string ⟨xt.toArray⟩, .string ⟨xu.toArray⟩, .int .u8 (xz : Int)] 73) = w1 at *
  clear hg
  have q2 := ba.cell 2
  have q3 := ba.cell 3
  have q4 := ba.cell 4
  have q5 := ba.cell 5
  have q6 := ba.cell 6
  have q7 := ba.cell 7
  have q8 := ba.cell 8
  go_wp2_with fail
  refine (done_nil xa xb w1).mono ?_; rintro e w2 ⟨⟨u, rfl⟩, rfl⟩
  go_wp2_with fail
  refine (HP.out w1).mono ?_; rintro e w2 ⟨rfl, B2⟩
  have ba := ba.below B2 ba.lt
  have bw := bw.trans (B2.mono bw.size)
  have z1 := ba.cell 1
  clear q2 q3 q4 q5 q6 q7 q8 HP B2
  go_wp2_with fail
  refine (take_nil xn w2).mono ?_; rintro e w3 ⟨rfl, rfl⟩
  go_wp2_with fail
  refine (all_nil w2).mono ?_; rintro e w3 ⟨rfl, rfl⟩
  go_wp2_with fail
  refine (wakes_any w2).mono ?_; rintro e w3 ⟨rfl, B3⟩
  have bw := bw.trans (B3.mono bw.size)
  clear z1 ba B3
  go_wp2_with fail
  go_ret
  exact ⟨rfl, bw⟩
end Go.Proofs.Ytgpdggojajjppaa.Bat
