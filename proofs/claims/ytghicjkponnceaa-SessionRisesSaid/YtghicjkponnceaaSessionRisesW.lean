/- The walk of SessionRises, its arguments opened. Conditions: the arguments can be read. -/
import Derived.Test.YtghicjkponnceaaSessRises
namespace Go.Proofs.Ytghicjkponnceaa.SessionRisesW
open Go.RowKit Sess Go.Joins Go.WideShapes Go.ChangeShapes

set_option maxRecDepth 100000 in
theorem walk {H : Type} {enc : TypeId × Value → H} (W : World) (base : Nat) (v0 : Value) (d0 : DataW H) (p0 : List MemPlace) (v1 : Value) (d1 : DataW H) (p1 : List MemPlace) (v2 : Value) (d2 : DataW H) (p2 : List MemPlace) (v3 : Value) (d3 : DataW H) (p3 : List MemPlace)
    (h0 : DataW.Trod enc Try.prog W 0 (fun _ => true) true 22 v0 d0 p0) (h1 : DataW.Trod enc Try.prog W 0 (fun _ => true) true 5 v1 d1 p1) (h2 : DataW.Trod enc Try.prog W 0 (fun _ => true) true 23 v2 d2 p2) (h3 : DataW.Trod enc Try.prog W 0 (fun _ => true) true 25 v3 d3 p3)
    (k0 : Value.okWide Try.prog W .any base 22 v0) (k1 : Value.okWide Try.prog W .any base 5 v1) (k2 : Value.okWide Try.prog W .any base 23 v2) (k3 : Value.okWide Try.prog W .any base 25 v3)
    (_l0 : ∀ x ∈ p0, x.block < W.heap.size) (_l1 : ∀ x ∈ p1, x.block < W.heap.size) (_l2 : ∀ x ∈ p2, x.block < W.heap.size) (_l3 : ∀ x ∈ p3, x.block < W.heap.size) :
    Calls Try.prog 3 #[v0, v1, v2, v3] W fun e w' => e = .returned (.bool true) ∧ Below W.heap.size W w' := by
  obtain ⟨A, c, l, rfl, hb, hf, hl⟩ := open_kepts h0 k0
  obtain ⟨a1, rfl, _, _, w1⟩ := ChangeShapes.open_int Try.underlying5 k1 h1
  obtain ⟨a2, rfl, _, _, w2⟩ := ChangeShapes.open_int Try.underlying23 k2 h2
  obtain ⟨u0, u1, y0, y1, n, rfl, _, _, t0, t1⟩ := open_agg2 Try.underlying25 (by kernel_rfl) (by kernel_rfl) k3 h3
  obtain ⟨z0, e0, _, q0⟩ := DataW.trod_int Try.underlying5 t0
  obtain ⟨s, e1, _, _⟩ := DataW.trod_string Try.underlying9 t1
  obtain rfl : u0 = _ := List.head_eq_of_cons_eq e0
  obtain rfl : u1 = _ := List.head_eq_of_cons_eq e1
  have b1 := bounds_u8 w1
  have b2 := bounds_u32 w2
  have b3 := bounds_u8 q0
  obtain ⟨x1, rfl⟩ := Int.eq_ofNat_of_zero_le b1.1
  obtain ⟨x2, rfl⟩ := Int.eq_ofNat_of_zero_le b2.1
  obtain ⟨x3, rfl⟩ := Int.eq_ofNat_of_zero_le b3.1
  exact rises_any l (by unfold maxLen at hl; omega) hf x1 x2 x3 s (by omega) A c W hb
end Go.Proofs.Ytghicjkponnceaa.SessionRisesW
