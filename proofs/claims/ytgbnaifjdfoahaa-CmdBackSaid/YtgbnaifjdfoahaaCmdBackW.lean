/- The walk of CmdBack, its arguments opened. Conditions: the arguments can be read. -/
import Derived.Test.YtgbnaifjdfoahaaCmdBackL
import Derived.Test.YtgbnaifjdfoahaaCmdOpen
import Derived.Test.YtgbnaifjdfoahaaWireOpen
namespace Go.Proofs.Ytgbnaifjdfoahaa.CmdBackW
open Go.RowKit Wire Cmd

set_option maxRecDepth 100000 in
theorem walk {H : Type} {enc : TypeId × Value → H} (W : World) (base : Nat) (v0 : Value) (d0 : DataW H) (p0 : List MemPlace) (v1 : Value) (d1 : DataW H) (p1 : List MemPlace) (v2 : Value) (d2 : DataW H) (p2 : List MemPlace)
    (h0 : DataW.Trod enc Try.prog W 0 (fun _ => true) true 71 v0 d0 p0) (h1 : DataW.Trod enc Try.prog W 0 (fun _ => true) true 71 v1 d1 p1) (h2 : DataW.Trod enc Try.prog W 0 (fun _ => true) true 9 v2 d2 p2)
    (k0 : Value.okWide Try.prog W .any base 71 v0) (k1 : Value.okWide Try.prog W .any base 71 v1) (k2 : Value.okWide Try.prog W .any base 9 v2)
    (_l0 : ∀ x ∈ p0, x.block < W.heap.size) (_l1 : ∀ x ∈ p1, x.block < W.heap.size) (_l2 : ∀ x ∈ p2, x.block < W.heap.size) :
    Calls Try.prog 12 #[v0, v1, v2] W fun e w' => e = .returned (.bool true) ∧ Below W.heap.size W w' := by
  obtain ⟨A, ca, l, rfl, hA, hf, hl⟩ := Cmd.open_cmds h0 k0
  obtain ⟨B, cb, m, rfl, hB, hg, hm⟩ := Cmd.open_cmds h1 k1
  obtain ⟨s, rfl, hs⟩ := open_text Try.underlying9 h2 k2
  exact cback_any l m hf hg hl hm s hs A B ca cb W hA hB
end Go.Proofs.Ytgbnaifjdfoahaa.CmdBackW
