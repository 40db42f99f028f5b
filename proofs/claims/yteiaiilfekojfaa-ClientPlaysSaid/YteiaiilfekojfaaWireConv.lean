/- Conversions of bytes to a text, as steps of a drawn region. Conditions: the bytes can be read. -/
import Derived.Test.YteiaiilfekojfaaWireRef
import Derived.Test.YteiaiilfekojfaaKeep
namespace Go.Proofs.Yteiaiilfekojfaa.Wire
open Go.RowKit

/-- A conversion of bytes to a text, where a drawn region carries it out. -/
theorem upon_conv {P : Program} {w : World} {o : Oper} {a : Act} {K : Act → World → Prop} {Q : Exit → Act → World → Prop} {src dst e : TypeId}
    (hs : P.underlying src = some (.slice e)) (he : P.underlying e = some (.int .u8)) (hd : P.underlying dst = some .string)
    {B : Nat} {A : Option Addr} {n c : Nat} {l : List UInt8} (hr : Reads w B 1 A n (bv l)) (h : K (a.put o.dst (.string ⟨l.toArray⟩)) w) :
    Oper.upon P o a K Q ((Sem.run P (convert src dst (.slice A n c)) w).andThen fun a w' => Result.ok (Next.value a) w') := by
  rw [conv_str hs he hd c hr]
  exact h

theorem one_reads (W : World) {r : Nat} (hb : r < 256) : Reads (W.alloc (.cells #[.int .u8 (r : Int)] 5)) (W.alloc (.cells #[.int .u8 (r : Int)] 5)).heap.size 1 (some ⟨W.heap.size, 0, none⟩) 1 (bv [UInt8.ofNat r]) := by
  have hv : bv [UInt8.ofNat r] = [.int .u8 (r : Int)] := by
    show [Value.int .u8 ((UInt8.ofNat r).toNat : Int)] = _
    rw [UInt8.toNat_ofNat', Nat.mod_eq_of_lt (by omega)]
  rw [hv]
  exact Reads.of_own (own_new (base := 0) 5 _ (Nat.zero_le _))
theorem one_reads2 (w : World) (o : Obj) {r : Nat} (hb : r < 256) : Reads ((w.alloc o).alloc (.cells #[.int .u8 (r : Int)] 5)) ((w.alloc o).alloc (.cells #[.int .u8 (r : Int)] 5)).heap.size 1 (some ⟨w.heap.size + 1, 0, none⟩) 1 (bv [UInt8.ofNat r]) := by
  have h := one_reads (w.alloc o) hb
  have e : (w.alloc o).heap.size = w.heap.size + 1 := by simp
  rw [e] at h
  exact h
end Go.Proofs.Yteiaiilfekojfaa.Wire
