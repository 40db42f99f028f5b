/- Ballots as bytes: the document's Bytes, Take of nil, the law BallotBytes walked. Conditions: the bytes that came in can be read. -/
import Derived.Test.YteiaiilfekojfaaGreatQPutsAWireDocNum
import Derived.Test.YteiaiilfekojfaaGreatQPutsABalTake
import Derived.Test.YteiaiilfekojfaaGreatQPutsABalPut
import Derived.Test.YteiaiilfekojfaaGreatQPutsAWireDocStr
import Derived.Test.YteiaiilfekojfaaGreatQPutsAWireConv
namespace Go.Proofs.YteiaiilfekojfaaGreat.Bal
open Go.RowKit Wire

set_option maxRecDepth 100000 in
set_option maxHeartbeats 4000000 in
theorem refBytes_any (b : B) (hn : b.n < 18446744073709551616) (hb : b.r < 256) (w : World) : Calls Tryz.prog 55 #[bV b] w fun e w' => RetStr w (balB b) e w' := by
  have k := (Kg.refl w).new 24 (bC b)
  have ad := add_str (numB b.n) [UInt8.ofNat b.r]
  have ln1 := (numB_length b.n hn).1
  have lt1 : ¬ (9223372036854775807 < (numB b.n).length + 1) := by omega
  have ra := one_reads2 w (.cells (bC b) 24) hb
  clear ln1
  have hw2 := fun o => (below_2 w (.cells (bC b) 24) o).drew
  unfold bV
  unfold balB
  unfold bC at *
  go_enter Tryz.func55, Tryz.ntmps55
  go_wp2_with fail
  go_region_held_law (fun W : World => W.cell? ⟨w.heap.size, 0, none⟩ = some (.int .u64 (b.n : Int)) ∧ W.cell? ⟨w.heap.size, 1, none⟩ = some (.int .u8 (b.r : Int))) (first | exact ⟨k.drew.i1.cell 0, k.drew.i1.cell 1⟩ | exact ⟨k.i1.cell 0, k.i1.cell 1⟩ | exact ⟨(k.alloc _).i1.cell 0, (k.alloc _).i1.cell 1⟩ | exact ⟨(k.alloc _).drew.i1.cell 0, (k.alloc _).drew.i1.cell 1⟩)
    (first
      | (go_simp; go_at_call 52; refine (refNum_any b.n hn _).mono ?_; rintro e w2 ⟨rfl, B2⟩; have k2 := k.drew.below B2; have k := k2)
      | (go_simp; go_at_call 52; refine (refNum_any b.n hn _).mono ?_; rintro e w2 ⟨rfl, B2⟩; have k2 := (k.alloc _).drew.below B2; have k := k2)
      | (refine upon_conv (l := [UInt8.ofNat b.r]) Tryz.underlying103 Tryz.underlying5 Tryz.underlying9 (one_reads _ hb) ?_)
      | (refine upon_conv (l := [UInt8.ofNat b.r]) Tryz.underlying103 Tryz.underlying5 Tryz.underlying9 ra.drew ?_)
      | (refine upon_conv (l := [UInt8.ofNat b.r]) Tryz.underlying103 Tryz.underlying5 Tryz.underlying9 (ra.drew.below B2) ?_))
  all_goals
    go_wp2
    go_ret
    first | exact ⟨rfl, k.bw⟩ | exact ⟨rfl, (k.alloc _).bw⟩ | exact ⟨rfl, (k.alloc _).drew.bw⟩

end Go.Proofs.YteiaiilfekojfaaGreat.Bal
