/- Slices of bytes and texts as arguments, opened as lists of numbers below 256. Conditions: the arguments can be read. -/
import Derived.Test.YtbamfnlgapchkaaOpen
import Derived.Test.YtbamfnlgapchkaaMemRef
namespace Go.Proofs.Ytbamfnlgapchkaa
open Go.RowKit Go.WideShapes Go.ChangeShapes Mem
variable {H : Type} {enc : TypeId × Value → H} {w : World} {base : Nat} {v : Value} {d : DataW H} {p : List MemPlace} {r : Reach}

set_option maxRecDepth 100000 in
theorem open_u8s (h : DataW.Trod enc Try.prog w 0 (fun _ => true) true 22 v d p) (hk : Value.okWide Try.prog w r base 22 v) :
    ∃ (A : Option Addr) (c : Nat) (l : List Nat), v = .slice A l.length c ∧ Reads w w.heap.size 1 A l.length (l.map u8v) ∧ (∀ x ∈ l, x < 256) ∧ l.length ≤ 9223372036854775807 := by
  obtain ⟨A, c, zs, rfl, hr, hf, hc, hm⟩ := open_ints_list Try.underlying22 Try.underlying5 (by kernel_rfl) h hk
  obtain ⟨l, rfl, hl⟩ := nats_of_u8 zs hf
  rw [List.map_map, List.length_map] at hr
  refine ⟨A, c, l, by rw [List.length_map], hr, hl, ?_⟩
  rw [List.length_map] at hc
  unfold maxLen at hm
  omega
set_option maxRecDepth 100000 in
theorem open_str (h : DataW.Trod enc Try.prog w 0 (fun _ => true) true 9 v d p) (hk : Value.okWide Try.prog w r base 9 v) :
    ∃ l : List UInt8, v = .string ⟨l.toArray⟩ ∧ l.length ≤ 9223372036854775807 := by
  obtain ⟨s, rfl, _, _, ws⟩ := ChangeMaps.open_string Try.underlying9 hk h
  obtain ⟨⟨s⟩⟩ := s
  refine ⟨s, rfl, ?_⟩
  have := ws
  unfold maxLen at this
  have e : (ByteArray.mk s.toArray).size = s.length := by simp [ByteArray.size]
  rw [e] at this
  omega
end Go.Proofs.Ytbamfnlgapchkaa
