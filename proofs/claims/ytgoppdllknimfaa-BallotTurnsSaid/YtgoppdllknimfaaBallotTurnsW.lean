/- The walk of BallotTurns, its arguments opened. Conditions: the arguments can be read. -/
import Derived.Test.YtgoppdllknimfaaBalTurns
namespace Go.Proofs.Ytgoppdllknimfaa.BallotTurnsW
open Go.RowKit Bal

theorem walk {H : Type} {enc : TypeId × Value → H} (W : World) (base : Nat) (v0 : Value) (d0 : DataW H) (p0 : List MemPlace) (v1 : Value) (d1 : DataW H) (p1 : List MemPlace) (v2 : Value) (d2 : DataW H) (p2 : List MemPlace)
    (h0 : DataW.Trod enc Try.prog W 0 (fun _ => true) true 25 v0 d0 p0) (h1 : DataW.Trod enc Try.prog W 0 (fun _ => true) true 37 v1 d1 p1) (h2 : DataW.Trod enc Try.prog W 0 (fun _ => true) true 23 v2 d2 p2)
    (k0 : Value.okWide Try.prog W .any base 25 v0) (k1 : Value.okWide Try.prog W .any base 37 v1) (k2 : Value.okWide Try.prog W .any base 23 v2)
    (_l0 : ∀ x ∈ p0, x.block < W.heap.size) (_l1 : ∀ x ∈ p1, x.block < W.heap.size) (_l2 : ∀ x ∈ p2, x.block < W.heap.size) :
    Calls Try.prog 5 #[v0, v1, v2] W fun e w' => e = .returned (.bool true) ∧ Below W.heap.size W w' := by
  obtain ⟨b, rfl, fb⟩ := open_bal h0 k0
  obtain ⟨A, c, zs, rfl, hr, hz, hl, hm⟩ := open_ints_list Try.underlying37 Try.underlying5 (by rfl) h1 k1
  obtain ⟨l, rfl, h8⟩ := nats_of_u8 zs hz
  obtain ⟨a2, rfl, _, _, w2⟩ := ChangeShapes.open_int Try.underlying23 k2 h2
  have b2 := bounds_u64 w2
  obtain ⟨n, rfl⟩ := Int.eq_ofNat_of_zero_le b2.1
  rw [List.length_map] at hr hl ⊢
  rw [List.map_map] at hr
  exact turns_any b fb l (by unfold maxLen at hm; omega) h8 A c n W hr
end Go.Proofs.Ytgoppdllknimfaa.BallotTurnsW
