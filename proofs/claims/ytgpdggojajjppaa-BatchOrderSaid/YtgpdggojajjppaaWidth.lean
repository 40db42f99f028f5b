/- Package wire's width, walked. Conditions: the argument is of its type. -/
import Derived.Test.YtgpdggojajjppaaWirePure
import Derived.Test.YtgpdggojajjppaaLen64
import Derived.WalkKit
namespace Go.Proofs.Ytgpdggojajjppaa.Wire
open Go.RowKit

theorem width_any (n : Nat) (hn : n < 18446744073709551616) (w : World) :
    Calls Try.prog 140 #[.int .u64 (n : Int)] w fun e w' => e = .returned (.int .i64 (widthN n : Nat)) ∧ w = w' := by
  have hl := Lib.bitLen_le n 64 (by omega) (by simpa using hn)
  go_enter Try.func140, Try.ntmps140
  go_wp2_with fail
  refine (len64_any _ _ (by omega) (by omega)).mono ?_; rintro e w' ⟨rfl, rfl⟩
  rw [Int.toNat_natCast]
  go_wp2_with fail
  go_ret
  exact ⟨congrArg Ending.returned (congrArg (Value.int IntKind.i64) (by unfold widthN; omega)), rfl⟩
end Go.Proofs.Ytgpdggojajjppaa.Wire
