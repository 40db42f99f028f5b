/- Package wire's width, walked. Conditions: the argument is of its type. -/
import Derived.WalkKit
import Derived.Test.YteiaiilfekojfaaGreatQNetOrderWirePure
import Derived.Test.YteiaiilfekojfaaGreatLen64
namespace Go.Proofs.YteiaiilfekojfaaGreat.Wire
open Go.RowKit

theorem width_any (n : Nat) (hn : n < 18446744073709551616) (w : World) :
    Calls Tryz.prog 161 #[.int .u64 (n : Int)] w fun e w' => e = .returned (.int .i64 (widthN n : Nat)) ∧ w = w' := by
  have hl := Lib.bitLen_le n 64 (by omega) (by simpa using hn)
  go_enter Tryz.func161, Tryz.ntmps161
  go_wp2_with fail
  refine (len64_any _ _ (by omega) (by omega)).mono ?_; rintro e w' ⟨rfl, rfl⟩
  rw [Int.toNat_natCast]
  go_wp2_with fail
  go_ret
  exact ⟨congrArg Ending.returned (congrArg (Value.int IntKind.i64) (by unfold widthN; omega)), rfl⟩
end Go.Proofs.YteiaiilfekojfaaGreat.Wire
