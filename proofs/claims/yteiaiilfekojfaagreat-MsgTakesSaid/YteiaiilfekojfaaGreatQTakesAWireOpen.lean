/- Bytes and texts as arguments, opened. Conditions: the arguments can be read. -/
import Derived.Test.YteiaiilfekojfaaGreatQTakesAWirePut
import Derived.ChangeSlices
import Derived.OpenShut
import Derived.Test.YteiaiilfekojfaaGreatQTakesABase
namespace Go.Proofs.YteiaiilfekojfaaGreat.Wire
open Go.RowKit

theorem open_text {H : Type} {enc : TypeId × Value → H} {P : Program} {w : World} {base : Nat} {t : TypeId} {v : Value} {d : DataW H} {p : List MemPlace} {r : Reach} (ht : P.underlying t = some .string)
    (h : DataW.Trod enc P w 0 (fun _ => true) true t v d p) (hk : Value.okWide P w r base t v) : ∃ s : List UInt8, v = .string ⟨s.toArray⟩ ∧ s.length ≤ 9223372036854775807 := by
  obtain ⟨s, rfl, _, _, ws⟩ := ChangeMaps.open_string ht hk h
  obtain ⟨⟨s⟩⟩ := s
  exact ⟨s, rfl, by have := ws; unfold maxLen at this; have e : (ByteArray.mk s.toArray).size = s.length := by simp [ByteArray.size]
                    rw [e] at this; omega⟩
end Go.Proofs.YteiaiilfekojfaaGreat.Wire
