/- The closed run of chapter 07's laws, walked: it is true. Conditions: none. -/
import Derived.Test.YtgoppdllknimfaaBalPut
import Derived.Test.YtgoppdllknimfaaWireWakes
import Derived.Deep.RegionHeldLaw
namespace Go.Proofs.Ytgoppdllknimfaa.Bal
open Go.RowKit Wire

theorem of_lit (n r : Int) (w : World) : Calls Try.prog 23 #[.int .u64 n, .int .u8 r] w fun e w' => e = .returned (.agg #[.int .u64 n, .int .u8 r]) ∧ Below w.heap.size w w' := by
  go_enter Try.func23, Try.ntmps23
  go_wp2
  refine bodyPost_ret (v := .agg #[.int .u64 n, .int .u8 r]) (by simp [results, Try.results23, go_sem]) rfl ⟨rfl, below_1 _ _⟩
theorem turn_lit (b : B) (node : Nat) (hb : b.n < 18446744073709551616) (x : B) (h : turnN b node = (x, 0)) (w : World) (n r k : Int) (hn : n = b.n) (hr : r = b.r) (hk : k = node) (y z : Int) (hy : y = x.n) (hz : z = x.r) :
    Calls Try.prog 15 #[.agg #[.int .u64 n, .int .u8 r], .int .u8 k] w fun e w' => e = .returned (.tuple #[.agg #[.int .u64 y, .int .u8 z], .int .i64 0]) ∧ Below w.heap.size w w' := by
  subst hn hr hk hy hz
  have := turn_any b node hb w
  unfold TurnRet at this
  rw [h] at this
  exact this

theorem below_lit (w : World) : Calls Try.prog 19 #[.agg #[.int .u64 1, .int .u8 6], .agg #[.int .u64 2, .int .u8 0]] w fun e w' => e = .returned (.bool true) ∧ Below w.heap.size w w' :=
  (below_any ⟨1, 6⟩ ⟨2, 0⟩ w).mono fun _ _ h => ⟨h.1, h.2.below⟩
def triple : Array Value := #[.int .u64 1, .int .u8 1, .int .u64 1, .int .u8 3, .int .u64 1, .int .u8 2]
theorem top_lit (w : World) (t : TypeId) : Calls Try.prog 21 #[.slice (some ⟨w.heap.size, 0, none⟩) 3 3] (w.alloc (.cells triple t)) fun e w' => e = .returned (.agg #[.int .u64 1, .int .u8 3]) ∧ Below (w.alloc (.cells triple t)).heap.size (w.alloc (.cells triple t)) w' := by
  have hb := Blk.new w t triple
  refine (top_any [⟨1, 1⟩, ⟨1, 3⟩, ⟨1, 2⟩] (by decide) (some ⟨w.heap.size, 0, none⟩) 3 (w.alloc (.cells triple t)) ?_)
  intro k b hk
  refine ⟨_, rfl, by simp, ?_⟩
  match k, hk with
  | 0, hk => obtain rfl := Option.some.inj hk; exact ⟨hb.cell 0, hb.cell 1⟩
  | 1, hk => obtain rfl := Option.some.inj hk; exact ⟨hb.cell 2, hb.cell 3⟩
  | 2, hk => obtain rfl := Option.some.inj hk; exact ⟨hb.cell 4, hb.cell 5⟩
theorem put_lit (w : World) : Calls Try.prog 40 #[.slice none 0 0, .agg #[.int .u64 5, .int .u8 3]] w fun e w' => RetS w w' e [5, 3] :=
  put_any none 0 [] ⟨5, 3⟩ (by decide) (by decide) (by decide) w Reads.none_

/-- What stays of the three turns. -/
def Sx (g1 g3 g5 : Nat) (W : World) : Prop :=
  W.cell? ⟨g1, 0, none⟩ = some (.int .u64 1) ∧ W.cell? ⟨g1, 1, none⟩ = some (.int .u8 2) ∧ W.cell? ⟨g3, 0, none⟩ = some (.int .u64 3) ∧ W.cell? ⟨g3, 1, none⟩ = some (.int .u8 2) ∧
    W.cell? ⟨g5, 0, none⟩ = some (.int .u64 4) ∧ W.cell? ⟨g5, 1, none⟩ = some (.int .u8 1)
structure Kx (g1 g3 g5 : Nat) (w W : World) : Prop where
  bw : Below w.heap.size w W
  l1 : g1 < W.heap.size
  l3 : g3 < W.heap.size
  l5 : g5 < W.heap.size
  s : Sx g1 g3 g5 W
theorem Kx.below {g1 g3 g5 : Nat} {w W W' : World} (k : Kx g1 g3 g5 w W) (hb : Below W.heap.size W W') : Kx g1 g3 g5 w W' where
  bw := k.bw.trans (hb.mono k.bw.size)
  l1 := Nat.lt_of_lt_of_le k.l1 hb.size
  l3 := Nat.lt_of_lt_of_le k.l3 hb.size
  l5 := Nat.lt_of_lt_of_le k.l5 hb.size
  s := ⟨(hb.cell k.l1).trans k.s.1, (hb.cell k.l1).trans k.s.2.1, (hb.cell k.l3).trans k.s.2.2.1, (hb.cell k.l3).trans k.s.2.2.2.1, (hb.cell k.l5).trans k.s.2.2.2.2.1, (hb.cell k.l5).trans k.s.2.2.2.2.2⟩
theorem Kx.alloc {g1 g3 g5 : Nat} {w W : World} (k : Kx g1 g3 g5 w W) (o : Obj) : Kx g1 g3 g5 w (W.alloc o) := k.below (below_1 W o)

set_option maxRecDepth 100000 in
set_option maxHeartbeats 8000000 in
theorem wakes7_any (w : World) : Calls Try.prog 14 #[] w fun e w' => e = .returned (.bool true) ∧ Below w.heap.size w w' := by
  go_enter Try.func14, Try.ntmps14
  go_wp2_with fail
  refine (turn_lit ⟨0, 0⟩ 2 (by decide) ⟨1, 2⟩ (by decide) _ 0 0 2 rfl rfl rfl 1 2 rfl rfl).mono ?_; rintro e w1 ⟨rfl, B1⟩
  go_wp2_with fail
  refine (of_lit 3 1 _).mono ?_; rintro e w2 ⟨rfl, B2⟩
  go_wp2_with fail
  refine (turn_lit ⟨3, 1⟩ 2 (by decide) ⟨3, 2⟩ (by decide) _ 3 1 2 rfl rfl rfl 3 2 rfl rfl).mono ?_; rintro e w3 ⟨rfl, B3⟩
  go_wp2_with fail
  refine (of_lit 3 1 _).mono ?_; rintro e w4 ⟨rfl, B4⟩
  go_wp2_with fail
  refine (turn_lit ⟨3, 1⟩ 1 (by decide) ⟨4, 1⟩ (by decide) _ 3 1 1 rfl rfl rfl 4 1 rfl rfl).mono ?_; rintro e w5 ⟨rfl, B5⟩
  go_wp2_with fail
  have b1 := Blk.new w1 25 #[.int .u64 1, .int .u8 2]
  have b3 := Blk.new w3 25 #[.int .u64 3, .int .u8 2]
  have b5 := Blk.new w5 25 #[.int .u64 4, .int .u8 1]
  have b1' := ((((b1.below B2 b1.lt).below B3 (Nat.lt_of_lt_of_le b1.lt B2.size)).alloc (.cells #[.int .u64 3, .int .u8 2] 25)))
  have b1'' := ((b1'.below B4 b1'.lt).below B5 (Nat.lt_of_lt_of_le b1'.lt B4.size)).alloc (.cells #[.int .u64 4, .int .u8 1] 25)
  have b3'' := ((b3.below B4 b3.lt).below B5 (Nat.lt_of_lt_of_le b3.lt B4.size)).alloc (.cells #[.int .u64 4, .int .u8 1] 25)
  have bw1 := (below_1 w1 (.cells #[.int .u64 1, .int .u8 2] 25))
  have bw3 := (below_1 w3 (.cells #[.int .u64 3, .int .u8 2] 25))
  have bw5 := (below_1 w5 (.cells #[.int .u64 4, .int .u8 1] 25))
  have c1 := B1.trans (bw1.mono B1.size)
  have c2 := c1.trans (B2.mono c1.size)
  have c3 := c2.trans (B3.mono c2.size)
  have c3' := c3.trans (bw3.mono c3.size)
  have c4 := c3'.trans (B4.mono c3'.size)
  have c5 := c4.trans (B5.mono c4.size)
  have c6 := c5.trans (bw5.mono c5.size)
  have k : Kx w1.heap.size w3.heap.size w5.heap.size w (w5.alloc (.cells #[.int .u64 4, .int .u8 1] 25)).drew :=
    ⟨c6.drew, b1''.lt, b3''.lt, b5.lt, b1''.cell 0, b1''.cell 1, b3''.cell 0, b3''.cell 1, b5.cell 0, b5.cell 1⟩
  clear b1 b3 b5 b1' b1'' b3'' bw1 bw3 bw5 c1 c2 c3 c3' c4 c5 c6 B1 B2 B3 B4 B5
  generalize (w5.alloc (.cells #[.int .u64 4, .int .u8 1] 25)) = w6 at *
  generalize w1.heap.size = g1 at *
  generalize w3.heap.size = g3 at *
  generalize w5.heap.size = g5 at *
  go_region_held_law (fun W : World => W.cell? ⟨g1, 0, none⟩ = some (.int .u64 1) ∧ W.cell? ⟨g1, 1, none⟩ = some (.int .u8 2) ∧ W.cell? ⟨g3, 0, none⟩ = some (.int .u64 3) ∧ W.cell? ⟨g3, 1, none⟩ = some (.int .u8 2) ∧
    W.cell? ⟨g5, 0, none⟩ = some (.int .u64 4) ∧ W.cell? ⟨g5, 1, none⟩ = some (.int .u8 1)) (first | exact k.s | exact (k.alloc _).s) (first
    | (go_at_call 23; refine (of_lit _ _ _).mono ?_; rintro e w7 ⟨rfl, B7⟩; have k := k.below B7)
    | (go_at_call 19; refine (below_lit _).mono ?_; rintro e w7 ⟨rfl, B7⟩; have k := k.below B7)
    | (go_at_call 21; refine (top_lit _ _).mono ?_; rintro e w7 ⟨rfl, B7⟩; have k := (k.alloc _).below B7)
    | (go_at_call 40; refine (put_lit _).mono ?_; rintro e w7 ⟨Ab, cb, rfl, rb, B7⟩; have k := k.below B7; have hcv := conv_str (n := 2) Try.underlying37 Try.underlying5 Try.underlying9 cb rb))
  all_goals
    go_wp2
    go_ret
    exact ⟨rfl, k.bw⟩
end Go.Proofs.Ytgoppdllknimfaa.Bal
