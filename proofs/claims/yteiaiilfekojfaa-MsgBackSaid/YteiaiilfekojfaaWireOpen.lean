/- Bytes and texts as arguments, opened. Conditions: the arguments can be read. -/
import Derived.Test.YteiaiilfekojfaaWirePut
import Derived.Test.YteiaiilfekojfaaOpen
namespace Go.Proofs.Yteiaiilfekojfaa.Wire
open Go.RowKit

theorem nats_u8 : ∀ (zs : List Int), (∀ n ∈ zs, (Lit.int .u8 n).wf = true) → ∃ l : List UInt8, zs.map (Value.int .u8) = bv l ∧ l.length = zs.length
  | [], _ => ⟨[], rfl, rfl⟩
  | z :: zs, h => by
    obtain ⟨l, hl, hn⟩ := nats_u8 zs (fun n hn => h n (List.mem_cons_of_mem _ hn))
    have hb := bounds_u8 (h z (List.mem_cons_self ..))
    obtain ⟨x, rfl⟩ := Int.eq_ofNat_of_zero_le hb.1
    refine ⟨UInt8.ofNat x :: l, ?_, by simp [hn]⟩
    have hx : (UInt8.ofNat x).toNat = x := by simp; omega
    have hv : byteV (UInt8.ofNat x) = .int .u8 (x : Int) := by unfold byteV; rw [hx]
    simp only [List.map_cons, hl, bv, hv]
theorem open_bytes {H : Type} {enc : TypeId × Value → H} {P : Program} {w : World} {base : Nat} {t e : TypeId} {v : Value} {d : DataW H} {p : List MemPlace} {r : Reach} (ht : P.underlying t = some (.slice e)) (he : P.underlying e = some (.int .u8)) (hc : P.cellsOf e = 1)
    (h : DataW.Trod enc P w 0 (fun _ => true) true t v d p) (hk : Value.okWide P w r base t v) :
    ∃ (A : Option Addr) (c : Nat) (l : List UInt8), v = .slice A l.length c ∧ Reads w w.heap.size 1 A l.length (bv l) ∧ l.length ≤ 9223372036854775807 := by
  obtain ⟨A, c, zs, rfl, hr, hz, hl, hm⟩ := open_ints_list ht he hc h hk
  obtain ⟨l, h1, h2⟩ := nats_u8 zs hz
  rw [h1, ← h2] at hr
  exact ⟨A, c, l, by rw [h2], hr, by unfold maxLen at hm; omega⟩
theorem open_text {H : Type} {enc : TypeId × Value → H} {P : Program} {w : World} {base : Nat} {t : TypeId} {v : Value} {d : DataW H} {p : List MemPlace} {r : Reach} (ht : P.underlying t = some .string)
    (h : DataW.Trod enc P w 0 (fun _ => true) true t v d p) (hk : Value.okWide P w r base t v) : ∃ s : List UInt8, v = .string ⟨s.toArray⟩ ∧ s.length ≤ 9223372036854775807 := by
  obtain ⟨s, rfl, _, _, ws⟩ := ChangeMaps.open_string ht hk h
  obtain ⟨⟨s⟩⟩ := s
  exact ⟨s, rfl, by have := ws; unfold maxLen at this; have e : (ByteArray.mk s.toArray).size = s.length := by simp [ByteArray.size]
                    rw [e] at this; omega⟩
end Go.Proofs.Yteiaiilfekojfaa.Wire
