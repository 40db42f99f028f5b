/- The checksum, the program's and the document's, walked. Conditions: the arguments are of their types. -/
import Derived.Test.YteiaiilfekojfaaGreatProg
import Derived.WalkKit
import Derived.Deep.LoopGhost
import Derived.Lib.Zigzag
import Derived.Test.YteiaiilfekojfaaGreatQNetOrderBase
import Derived.Test.YteiaiilfekojfaaGreatQNetOrderWire
namespace Go.Proofs.YteiaiilfekojfaaGreat.Frame
open Go.RowKit Wire

def poly : Nat := 14514072000185962306
def crcStep (n : Nat) : Nat := if n % 2 = 1 then (n / 2) ^^^ poly else n / 2
def crcN (n : Nat) : Nat → Nat
  | 0 => n
  | k + 1 => crcStep (crcN n k)
theorem crcStep_lt (n : Nat) (h : n < 18446744073709551616) : crcStep n < 18446744073709551616 := by
  unfold crcStep
  split
  · exact Nat.xor_lt_two_pow (n := 64) (by omega) (by decide)
  · omega
theorem crcN_lt (n k : Nat) (h : n < 18446744073709551616) : crcN n k < 18446744073709551616 := by
  induction k with
  | zero => exact h
  | succ k ih => exact crcStep_lt _ ih
theorem and_one (n : Nat) (h : n < 18446744073709551616) : bits .and .u64 (n : Int) 1 = ((n % 2 : Nat) : Int) := by
  have e : n &&& 1 = n % 2 := Nat.and_one_is_mod n
  rw [← e]
  exact u64_and_nat n 1 h (by omega)
theorem xor_poly (n : Nat) (h : n < 18446744073709551616) : bits .xor .u64 ((n : Int) / 2) 14514072000185962306 = (((n / 2) ^^^ poly : Nat) : Int) := by
  have e : (n : Int) / 2 = ((n / 2 : Nat) : Int) := by omega
  rw [e]
  exact u64_xor_nat (n / 2) poly (by omega) (by decide)
def EightAt (n : Nat) (w : World) (gk : Nat) (v i : Value) (wr : World) : Prop := ∃ k : Nat, k + gk = 8 ∧ i = .int .i64 (k : Int) ∧ v = .int .u64 (crcN n k : Int) ∧ wr = w
set_option linter.unusedSimpArgs false in
set_option maxRecDepth 100000 in
set_option maxHeartbeats 2000000 in
theorem eight_any (n : Nat) (hn : n < 18446744073709551616) (w : World) :
    Calls Tryz.prog 181 #[.int .u64 (n : Int)] w fun e w' => e = .returned (.int .u64 (crcN n 8 : Int)) ∧ w' = w := by
  go_enter Tryz.func181, Tryz.ntmps181
  go_wp2_with fail
  go_loopg [0, 4] 8 (fun gk v i wr => EightAt n w gk v i wr)
  case atStart => exact ⟨0, by omega, rfl, rfl, rfl⟩
  case round =>
    obtain ⟨k, hk, rfl, rfl, rfl⟩ := hrel
    have hlt := crcN_lt n k hn
    have hs : crcN n (k + 1) = crcStep (crcN n k) := rfl
    generalize hm : crcN n k = m at *
    have HM := Lib.hid hm
    clear hm
    have HS := Lib.hid hs
    clear hs
    by_cases h8 : k < 8
    · have hk8 : (k : Int) < 8 := by omega
      have h1 := and_one m hlt
      have m0 : (0 : Int) ≤ (m : Int) := by omega
      have m1 : (m : Int) < 18446744073709551616 := by omega
      by_cases h2 : m % 2 = 1
      · rw [h2] at h1
        have h4 := Lib.hid (xor_poly m hlt)
        have h5 : crcStep m = (m / 2) ^^^ poly := by unfold crcStep; rw [if_pos h2]
        have H5 := Lib.hid h5
        clear h5
        go_wp2_with fail
        go_roundg (8 - (k + 1))
        case measure => omega
        case rel => exact ⟨k + 1, by omega, by go_num, by rw [HS.out, H5.out, h4.out], rfl⟩
      · have h3 : m % 2 = 0 := by omega
        rw [h3] at h1
        have h5 : crcStep m = m / 2 := by unfold crcStep; rw [if_neg h2]
        have H5 := Lib.hid h5
        clear h5
        go_wp2_with fail
        go_roundg (8 - (k + 1))
        case measure => omega
        case rel => exact ⟨k + 1, by omega, by go_num, by rw [HS.out, H5.out]; simp, rfl⟩
    · obtain rfl : k = 8 := by omega
      go_wp2_with fail
      go_ret
      exact ⟨by rw [HM.out]; rfl, rfl⟩
/-! ### More, Sum -/
def crcMore (n : Nat) (l : List UInt8) : Nat := l.foldl (fun n b => crcN (n ^^^ b.toNat) 8) n
theorem crcMore_take (n : Nat) (l : List UInt8) (k : Nat) (b : UInt8) (h : l[k]? = some b) : crcMore n (l.take (k + 1)) = crcN (crcMore n (l.take k) ^^^ b.toNat) 8 := by
  unfold crcMore
  rw [List.take_add_one, h]
  simp
theorem xor_byte_lt (n : Nat) (b : UInt8) (h : n < 18446744073709551616) : n ^^^ b.toNat < 18446744073709551616 := Nat.xor_lt_two_pow (n := 64) h (Nat.lt_trans b.toNat_lt (by decide))
theorem crcMore_lt (n : Nat) (l : List UInt8) (h : n < 18446744073709551616) : crcMore n l < 18446744073709551616 := by
  unfold crcMore
  induction l generalizing n with
  | nil => exact h
  | cons b l ih => exact ih _ (crcN_lt _ 8 (xor_byte_lt n b h))
def MoreAt (n : Nat) (l : List UInt8) (w : World) (gk : Nat) (v i : Value) (wr : World) : Prop := ∃ k : Nat, k + gk = l.length ∧ i = .int .i64 (k : Int) ∧ v = .int .u64 (crcMore n (l.take k) : Int) ∧ wr = w
@[irreducible] def cpl (n : Nat) : Nat := 18446744073709551615 - n
theorem cpl_lt (n : Nat) : cpl n < 18446744073709551616 := by unfold cpl; omega
theorem xor_max (n : Nat) (h : n < 18446744073709551616) : bits .xor .u64 IntKind.u64.max (n : Int) = ((cpl n : Nat) : Int) := by
  have e : IntKind.u64.max = ((18446744073709551615 : Nat) : Int) := by rfl
  rw [e, u64_xor_nat 18446744073709551615 n (by omega) h]
  have e2 := Lib.xor_ones64 n (by omega)
  unfold cpl
  exact congrArg _ e2
theorem xor_byte (n : Nat) (b : UInt8) (h : n < 18446744073709551616) : bits .xor .u64 (n : Int) (IntKind.u64.wrap (b.toNat : Int)) = ((n ^^^ b.toNat : Nat) : Int) := by
  have hb := b.toNat_lt
  rw [IntKind.wrap_u64, show ((b.toNat : Int) % 18446744073709551616) = (b.toNat : Int) by omega]
  exact u64_xor_nat n b.toNat h (by omega)
set_option linter.unusedSimpArgs false in
set_option maxRecDepth 100000 in
set_option maxHeartbeats 2000000 in
theorem more_any (n : Nat) (hn : n < 18446744073709551616) (l : List UInt8) (hl : l.length < 4611686018427387904) (w : World) :
    Calls Tryz.prog 162 #[.int .u64 (n : Int), .string ⟨l.toArray⟩] w fun e w' => e = .returned (.int .u64 (cpl (crcMore (cpl n) l) : Int)) ∧ w' = w := by
  have hsz := size_str l
  have HX := Lib.hid (xor_max n hn)
  have hM := cpl_lt n
  clear hn
  generalize cpl n = N at *
  have HML := Lib.hid (fun k => crcMore_lt N (l.take k) hM)
  clear hM
  go_enter Tryz.func162, Tryz.ntmps162
  go_wp2_with fail
  go_loopg [5, 11] l.length (fun gk v i wr => MoreAt N l w gk v i wr)
  case atStart => exact ⟨0, by omega, rfl, by rw [HX.out]; rfl, rfl⟩
  case round =>
    obtain ⟨k, hk, rfl, rfl, rfl⟩ := hrel
    have hlt := HML.out k
    by_cases h8 : k < l.length
    · have hk8 : (k : Int) < (l.length : Int) := by omega
      have hk0 : (0 : Int) ≤ (k : Int) := by omega
      obtain ⟨b, hb⟩ : ∃ b, l[k]? = some b := ⟨_, List.getElem?_eq_getElem h8⟩
      have hs := crcMore_take N l k b hb
      have hzz : k < (ByteArray.mk l.toArray).size := by rw [size_str]; exact h8
      have hix : (ByteArray.mk l.toArray)[k] = b := by
        have q := index_str l k b hb
        rw [getElem?_pos (ByteArray.mk l.toArray) k hzz] at q
        exact Option.some.inj q
      generalize crcMore N (l.take k) = m at *
      have hx := xor_byte m b hlt
      have hxl := xor_byte_lt m b hlt
      have HS := Lib.hid hs
      have HC := Lib.hid (fun W => eight_any (m ^^^ b.toNat) hxl W)
      clear hs hxl hlt hb
      generalize m ^^^ b.toNat = y at *
      generalize crcN y 8 = z at *
      go_wp2_with fail
      refine (HC.out _).mono ?_; rintro e w1 ⟨rfl, rfl⟩
      go_wp2_with fail
      go_roundg (l.length - (k + 1))
      case measure => omega
      case rel => exact ⟨k + 1, by omega, by go_num, by rw [HS.out], rfl⟩
    · obtain rfl : k = l.length := by omega
      have hx := xor_max _ hlt
      have ht : l.take l.length = l := List.take_length
      rw [ht] at hx hlt
      have HT := Lib.hid ht
      clear hlt ht
      go_wp2_with fail
      go_ret
      exact ⟨by rw [HT.out]; first | rfl | (simp only [Array.getD]; rw [← hx]; rfl), rfl⟩
end Go.Proofs.YteiaiilfekojfaaGreat.Frame
