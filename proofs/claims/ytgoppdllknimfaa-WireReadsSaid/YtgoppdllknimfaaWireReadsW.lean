/- The walk of WireReads, its arguments opened. Conditions: the arguments can be read. -/
import Derived.Test.YtgoppdllknimfaaWireAsks
import Derived.Test.YtgoppdllknimfaaWireOpen
namespace Go.Proofs.Ytgoppdllknimfaa.WireReadsW
open Go.RowKit Wire

theorem walk {H : Type} {enc : TypeId × Value → H} (W : World) (base : Nat) (v0 : Value) (d0 : DataW H) (p0 : List MemPlace) (v1 : Value) (d1 : DataW H) (p1 : List MemPlace)
    (h0 : DataW.Trod enc Try.prog W 0 (fun _ => true) true 9 v0 d0 p0) (h1 : DataW.Trod enc Try.prog W 0 (fun _ => true) true 57 v1 d1 p1)
    (k0 : Value.okWide Try.prog W .any base 9 v0) (k1 : Value.okWide Try.prog W .any base 57 v1)
    (_l0 : ∀ x ∈ p0, x.block < W.heap.size) (_l1 : ∀ x ∈ p1, x.block < W.heap.size) :
    Calls Try.prog 10 #[v0, v1] W fun e w' => e = .returned (.bool true) ∧ Below W.heap.size W w' := by
  obtain ⟨s, rfl, hs⟩ := open_text Try.underlying9 h0 k0
  obtain ⟨A, c, l, rfl, hr, hf, hl⟩ := open_rows (cells := qnC) (Q := Qn.Fits) Try.underlying57 (by kernel_rfl) (by intro x; simp [qnC]) dec_qn h1 k1
  exact reads_any s hs l hl hf A c W hr
end Go.Proofs.Ytgoppdllknimfaa.WireReadsW
