/- Conversions of bytes to a text, as steps of a drawn region. Conditions: the bytes can be read. -/
import Derived.Test.YteiaiilfekojfaaGreatQTakesAWireRef
import Derived.Test.YteiaiilfekojfaaGreatQTakesAKeep
namespace Go.Proofs.YteiaiilfekojfaaGreat.Wire
open Go.RowKit

/-- A conversion of bytes to a text, where a drawn region carries it out. -/
theorem upon_conv {P : Program} {w : World} {o : Oper} {a : Act} {K : Act → World → Prop} {Q : Exit → Act → World → Prop} {src dst e : TypeId}
    (hs : P.underlying src = some (.slice e)) (he : P.underlying e = some (.int .u8)) (hd : P.underlying dst = some .string)
    {B : Nat} {A : Option Addr} {n c : Nat} {l : List UInt8} (hr : Reads w B 1 A n (bv l)) (h : K (a.put o.dst (.string ⟨l.toArray⟩)) w) :
    Oper.upon P o a K Q ((Sem.run P (convert src dst (.slice A n c)) w).andThen fun a w' => Result.ok (Next.value a) w') := by
  rw [conv_str hs he hd c hr]
  exact h

end Go.Proofs.YteiaiilfekojfaaGreat.Wire
