/- Ballots as bytes: the document's Bytes, Take of nil, the law BallotBytes walked. Conditions: the bytes that came in can be read. -/
import Derived.Test.YtgoppdllknimfaaBalDoc
import Derived.Test.YtgoppdllknimfaaBalPut
import Derived.Test.YtgoppdllknimfaaWireDocStr
import Derived.Test.YtgoppdllknimfaaWireConv
namespace Go.Proofs.Ytgoppdllknimfaa.Bal
open Go.RowKit Wire

set_option maxRecDepth 100000 in
set_option maxHeartbeats 4000000 in
theorem refBytes_any (b : B) (hn : b.n < 18446744073709551616) (hb : b.r < 256) (w : World) : Calls Try.prog 41 #[bV b] w fun e w' => RetStr w (balB b) e w' := by
  have k := (Kg.refl w).new 25 (bC b)
  have ad := add_str (numB b.n) [UInt8.ofNat b.r]
  have ln1 := (numB_length b.n hn).1
  have lt1 : ¬ (9223372036854775807 < (numB b.n).length + 1) := by omega
  have ra := one_reads2 w (.cells (bC b) 25) hb
  clear ln1
  have hw2 := fun o => (below_2 w (.cells (bC b) 25) o).drew
  unfold bV
  unfold balB
  unfold bC at *
  go_enter Try.func41, Try.ntmps41
  go_wp2_with fail
  go_region_held_law (fun W : World => W.cell? ⟨w.heap.size, 0, none⟩ = some (.int .u64 (b.n : Int)) ∧ W.cell? ⟨w.heap.size, 1, none⟩ = some (.int .u8 (b.r : Int))) (first | exact ⟨k.drew.i1.cell 0, k.drew.i1.cell 1⟩ | exact ⟨k.i1.cell 0, k.i1.cell 1⟩ | exact ⟨(k.alloc _).i1.cell 0, (k.alloc _).i1.cell 1⟩ | exact ⟨(k.alloc _).drew.i1.cell 0, (k.alloc _).drew.i1.cell 1⟩)
    (first
      | (go_simp; go_at_call 26; refine (refNum_any b.n hn _).mono ?_; rintro e w2 ⟨rfl, B2⟩; have k2 := k.drew.below B2; have k := k2)
      | (go_simp; go_at_call 26; refine (refNum_any b.n hn _).mono ?_; rintro e w2 ⟨rfl, B2⟩; have k2 := (k.alloc _).drew.below B2; have k := k2)
      | (refine upon_conv (l := [UInt8.ofNat b.r]) Try.underlying37 Try.underlying5 Try.underlying9 (one_reads _ hb) ?_)
      | (refine upon_conv (l := [UInt8.ofNat b.r]) Try.underlying37 Try.underlying5 Try.underlying9 ra.drew ?_)
      | (refine upon_conv (l := [UInt8.ofNat b.r]) Try.underlying37 Try.underlying5 Try.underlying9 (ra.drew.below B2) ?_))
  all_goals
    go_wp2
    go_ret
    first | exact ⟨rfl, k.bw⟩ | exact ⟨rfl, (k.alloc _).bw⟩ | exact ⟨rfl, (k.alloc _).drew.bw⟩

set_option maxRecDepth 100000 in
set_option maxHeartbeats 4000000 in
theorem take_nil (w : World) : Calls Try.prog 42 #[.pointer none] w fun e w' => e = .returned (.agg #[.int .u64 0, .int .u8 0]) ∧ Below w.heap.size w w' := by
  have k := (Kg.refl w).new 25 #[.int .u64 0, .int .u8 0]
  have hc := check_any ⟨0, 0⟩
  have e0 : chkN ⟨0, 0⟩ = 0 := by decide
  rw [e0] at hc
  have HK := Lib.hid hc
  clear hc e0
  unfold bV bC at HK
  simp only [Int.cast_ofNat_Int] at HK
  go_enter Try.func42, Try.ntmps42
  go_wp2_with fail
  refine (num_nil _).mono ?_; rintro e w' ⟨rfl, rfl⟩
  go_wp2_with fail
  refine (byte_nil _).mono ?_; rintro e w' ⟨rfl, rfl⟩
  go_wp2_with fail
  refine (HK.out _).mono ?_; rintro e w4 ⟨rfl, B4⟩
  have k := (k.new 25 #[.int .u64 0, .int .u8 0]).below (Al1.below B4)
  go_wp2_with fail
  refine (err_nil _).mono ?_; rintro e w' ⟨rfl, rfl⟩
  obtain ⟨c0, c1⟩ := k.i2.c2
  obtain ⟨f0, f1⟩ := k.i2.f2
  go_wp2_with fail
  have kk := k.tail.set2 (v0 := .int .u64 0) (v1 := .int .u8 0) (by simp) (Nat.le_refl _)
  obtain ⟨y0, y1⟩ := kk.i1.c2
  refine bodyPost_ret (v := .agg #[.int .u64 0, .int .u8 0]) (by simp [results, Try.results42, go_sem, y0, y1]) rfl ⟨rfl, kk.bw⟩
end Go.Proofs.Ytgoppdllknimfaa.Bal
