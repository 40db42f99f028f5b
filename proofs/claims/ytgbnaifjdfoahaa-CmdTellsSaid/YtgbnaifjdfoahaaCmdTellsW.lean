/- The walk of CmdTells, its arguments opened. Conditions: the arguments can be read. -/
import Derived.Test.YtgbnaifjdfoahaaCmdTellsL
import Derived.Test.YtgbnaifjdfoahaaCmdOpen
import Derived.Test.YtgbnaifjdfoahaaWireOpen
namespace Go.Proofs.Ytgbnaifjdfoahaa.CmdTellsW
open Go.RowKit Wire Cmd

set_option maxRecDepth 100000 in
theorem walk {H : Type} {enc : TypeId × Value → H} (W : World) (base : Nat) (v0 : Value) (d0 : DataW H) (p0 : List MemPlace) (v1 : Value) (d1 : DataW H) (p1 : List MemPlace) (v2 : Value) (d2 : DataW H) (p2 : List MemPlace)
    (h0 : DataW.Trod enc Try.prog W 0 (fun _ => true) true 71 v0 d0 p0) (h1 : DataW.Trod enc Try.prog W 0 (fun _ => true) true 73 v1 d1 p1) (h2 : DataW.Trod enc Try.prog W 0 (fun _ => true) true 40 v2 d2 p2)
    (k0 : Value.okWide Try.prog W .any base 71 v0) (k1 : Value.okWide Try.prog W .any base 73 v1) (k2 : Value.okWide Try.prog W .any base 40 v2)
    (_l0 : ∀ x ∈ p0, x.block < W.heap.size) (_l1 : ∀ x ∈ p1, x.block < W.heap.size) (_l2 : ∀ x ∈ p2, x.block < W.heap.size) :
    Calls Try.prog 11 #[v0, v1, v2] W fun e w' => e = .returned (.bool true) ∧ Below W.heap.size W w' := by
  obtain ⟨A, ca, l, rfl, hA, hf, hl⟩ := Cmd.open_cmds h0 k0
  obtain ⟨a, rfl, ha⟩ := Cmd.open_cmd h1
  obtain ⟨A2, c2, ahead, rfl, hr, hh⟩ := open_bytes Try.underlying40 Try.underlying5 (by kernel_rfl) h2 k2
  exact ctells_any l hf hl a ha ahead (by omega) A A2 ca c2 W hA hr
end Go.Proofs.Ytgbnaifjdfoahaa.CmdTellsW
