/- The walk of BallotCalls: ballots, their order and turns are what the document says. Conditions: the arguments are of their types; the list can be read. -/
import Derived.Test.YtgoppdllknimfaaBalWakes
import Derived.Test.YtgoppdllknimfaaBalRefTop
import Derived.Test.YtgoppdllknimfaaBalOpen
import Derived.Deep.RegionHeldLaw
namespace Go.Proofs.Ytgoppdllknimfaa.Bal
open Go.RowKit

/-- What stays of blocks of ballots. -/
structure Kb (L : List (Nat × Array Value)) (w W : World) : Prop where
  bw : Below w.heap.size w W
  at_ : ∀ p ∈ L, Blk W p.1 25 p.2
theorem Kb.below {L : List (Nat × Array Value)} {w W W' : World} (k : Kb L w W) (hb : Below W.heap.size W W') : Kb L w W' where
  bw := k.bw.trans (hb.mono k.bw.size)
  at_ := fun p hp => (k.at_ p hp).below hb (k.at_ p hp).lt
theorem Kb.alloc {L : List (Nat × Array Value)} {w W : World} (k : Kb L w W) (o : Obj) : Kb L w (W.alloc o) := k.below (below_1 W o)
theorem Kb.drew {L : List (Nat × Array Value)} {w W : World} (k : Kb L w W) : Kb L w W.drew := ⟨k.bw.drew, fun p hp => (k.at_ p hp).drew⟩
theorem Kb.new {L : List (Nat × Array Value)} {w W : World} (k : Kb L w W) (cs : Array Value) : Kb ((W.heap.size, cs) :: L) w (W.alloc (.cells cs 25)) where
  bw := (k.alloc _).bw
  at_ := by
    intro p hp
    rcases List.mem_cons.1 hp with rfl | hp
    · exact Blk.new W _ cs
    · exact (k.at_ p hp).alloc _
theorem Kb.refl (w : World) : Kb [] w w := ⟨Below.refl _ w, by simp⟩
theorem Kb.i1 {a : Nat × Array Value} {L : List (Nat × Array Value)} {w W : World} (k : Kb (a :: L) w W) : Blk W a.1 25 a.2 := k.at_ a (by simp)
theorem Kb.i2 {a b : Nat × Array Value} {L : List (Nat × Array Value)} {w W : World} (k : Kb (b :: a :: L) w W) : Blk W a.1 25 a.2 := k.at_ a (by simp)
theorem Kb.i3 {a b c : Nat × Array Value} {L : List (Nat × Array Value)} {w W : World} (k : Kb (c :: b :: a :: L) w W) : Blk W a.1 25 a.2 := k.at_ a (by simp)
theorem Kb.i4 {a b c d : Nat × Array Value} {L : List (Nat × Array Value)} {w W : World} (k : Kb (d :: c :: b :: a :: L) w W) : Blk W a.1 25 a.2 := k.at_ a (by simp)
def At4 (g1 g2 g3 g4 : Nat) (c1 c2 c3 c4 : Array Value) (W : World) : Prop :=
  W.cell? ⟨g1, 0, none⟩ = c1[0]? ∧ W.cell? ⟨g1, 1, none⟩ = c1[1]? ∧ W.cell? ⟨g2, 0, none⟩ = c2[0]? ∧ W.cell? ⟨g2, 1, none⟩ = c2[1]? ∧
    W.cell? ⟨g3, 0, none⟩ = c3[0]? ∧ W.cell? ⟨g3, 1, none⟩ = c3[1]? ∧ W.cell? ⟨g4, 0, none⟩ = c4[0]? ∧ W.cell? ⟨g4, 1, none⟩ = c4[1]?
theorem Kb.at4 {g1 g2 g3 g4 : Nat} {c1 c2 c3 c4 : Array Value} {w W : World} (k : Kb [(g4, c4), (g3, c3), (g2, c2), (g1, c1)] w W) : At4 g1 g2 g3 g4 c1 c2 c3 c4 W :=
  ⟨(k.at_ (g1, c1) (by simp)).cell 0, (k.at_ (g1, c1) (by simp)).cell 1, (k.at_ (g2, c2) (by simp)).cell 0, (k.at_ (g2, c2) (by simp)).cell 1, (k.at_ (g3, c3) (by simp)).cell 0, (k.at_ (g3, c3) (by simp)).cell 1, (k.at_ (g4, c4) (by simp)).cell 0, (k.at_ (g4, c4) (by simp)).cell 1⟩

set_option maxRecDepth 100000 in
set_option maxHeartbeats 8000000 in
theorem calls_any (l : List B) (hl : l.length ≤ 9223372036854775807) (a b : B) (ha : Fits a) (node : Nat) (A : Option Addr) (c : Nat) (w : World) (h : Balls w A l) :
    Calls Try.prog 3 #[.slice A l.length c, bV a, bV b, .int .u8 (node : Int)] w fun e w' => e = .returned (.bool true) ∧ Below w.heap.size w w' := by
  by_cases hb2 : 100 < l.length
  · have k := Kb.refl w
    obtain ⟨an, ar⟩ := a
    obtain ⟨bn, br⟩ := b
    have k := (k.new #[.int .u64 (an : Int), .int .u8 (ar : Int)]).new #[.int .u64 (bn : Int), .int .u8 (br : Int)]
    go_enter Try.func3, Try.ntmps3
    unfold bV bC at *
    go_wp2_with fail
    refine (wakes7_any _).mono ?_; rintro e w' ⟨rfl, hb⟩
    have k := k.below hb
    go_wp2
    go_ret
    exact ⟨rfl, k.bw⟩
  have T1 := turn_any a node ha.1
  have T2 := refTurn_any a node ha.1
  have M := may_any a
  have C := check_any a
  have L1 := below_any a b
  have L2 := refBelow_any a b
  have P1 := top_any l (by omega) A c
  have P2 := refTop_any l (by omega) A c
  have hc := chk_of a
  generalize turnN a node = p at T1 T2
  generalize ltB a b = lt at L1 L2
  generalize topN l = t at P1 P2
  generalize chkN a = ck at C hc
  generalize mayB a = m at M hc
  clear ha
  obtain ⟨an, ar⟩ := a
  obtain ⟨bn, br⟩ := b
  obtain ⟨⟨xn, xr⟩, xe⟩ := p
  obtain ⟨tn, tr⟩ := t
  have k := ((Kb.refl w).new #[.int .u64 (an : Int), .int .u8 (ar : Int)]).new #[.int .u64 (bn : Int), .int .u8 (br : Int)]
  have e1 : (w.alloc (.cells #[.int .u64 (an : Int), .int .u8 (ar : Int)] 25)).heap.size = w.heap.size + 1 := by simp
  rw [e1] at k
  clear e1
  have K := Lib.hid (And.intro T1 (And.intro T2 (And.intro M (And.intro C (And.intro L1 (And.intro L2 (And.intro P1 P2)))))))
  have HB := Lib.hid h
  clear T1 T2 M C L1 L2 P1 P2 h
  have HC := Lib.hid hc
  clear hc
  unfold TurnRet bV bC at *
  go_enter Try.func3, Try.ntmps3
  go_wp2_with fail
  refine (K.out.1 _).mono ?_; rintro e w1 ⟨rfl, B1⟩
  have k := k.below B1
  have qa0 := k.i2.cell 0
  have qa1 := k.i2.cell 1
  have s1 := k.i2.lt
  dsimp only at s1
  have n1 : ¬ w.heap.size = w1.heap.size := by omega
  simp at qa0 qa1
  have k := k.new #[.int .u64 (xn : Int), .int .u8 (xr : Int)]
  clear B1
  go_wp2_with fail
  refine (K.out.2.1 _).mono ?_; rintro e w2 ⟨rfl, B2⟩
  have k := k.below B2
  clear qa0 qa1
  have qa0 := k.i3.cell 0
  have qa1 := k.i3.cell 1
  have s2 := k.i3.lt
  dsimp only at s2
  have n2 : ¬ w.heap.size = w2.heap.size := by omega
  simp at qa0 qa1
  have k := k.new #[.int .u64 (xn : Int), .int .u8 (xr : Int)]
  clear B2
  go_wp2_with fail
  refine (K.out.2.2.1 _).mono ?_; rintro e w3 ⟨rfl, B3⟩
  have k := k.below (Al1.below B3)
  clear qa0 qa1 n1 n2 s1 s2 B3
  generalize w1.heap.size = g3 at *
  generalize w2.heap.size = g4 at *
  have hck : ck = if m = true then 0 else 2 := by
    cases m
    · rw [HC.out.2 rfl]; rfl
    · rw [HC.out.1 rfl]; rfl
  have HK := Lib.hid hck
  clear hck
  cases m
  all_goals
    obtain rfl := HK.out
    have k := k.drew
    simp only [if_true, if_false, Bool.false_eq_true] at K
    go_wp2_with fail
    go_region_held_law (fun W : World => W.cell? ⟨w.heap.size, 0, none⟩ = some (.int .u64 (an : Int)) ∧ W.cell? ⟨w.heap.size, 1, none⟩ = some (.int .u8 (ar : Int)) ∧ W.cell? ⟨w.heap.size + 1, 0, none⟩ = some (.int .u64 (bn : Int)) ∧ W.cell? ⟨w.heap.size + 1, 1, none⟩ = some (.int .u8 (br : Int)) ∧
      W.cell? ⟨g3, 0, none⟩ = some (.int .u64 (xn : Int)) ∧ W.cell? ⟨g3, 1, none⟩ = some (.int .u8 (xr : Int)) ∧ W.cell? ⟨g4, 0, none⟩ = some (.int .u64 (xn : Int)) ∧ W.cell? ⟨g4, 1, none⟩ = some (.int .u8 (xr : Int))) (exact k.at4) (first
      | (go_at_call 18; refine (K.out.2.2.2.1 _).mono ?_; rintro e w7 ⟨rfl, B7⟩; have k := k.below (Al1.below B7); clear B7)
      | (go_at_call 19; refine (K.out.2.2.2.2.1 _).mono ?_; rintro e w7 ⟨rfl, B7⟩; have k := k.below (Al5.below B7); clear B7)
      | (go_at_call 20; refine (K.out.2.2.2.2.2.1 _).mono ?_; rintro e w7 ⟨rfl, B7⟩; have k := k.below (Al2.below B7); clear B7)
      | (go_at_call 21; refine (K.out.2.2.2.2.2.2.1 _ (HB.out.below k.bw)).mono ?_; rintro e w7 ⟨rfl, B7⟩; have k := k.below B7; clear B7)
      | (go_at_call 22; refine (K.out.2.2.2.2.2.2.2 _ (HB.out.below k.bw)).mono ?_; rintro e w7 ⟨rfl, B7⟩; have k := k.below B7; clear B7)
      | (go_at_call 14; refine (wakes7_any _).mono ?_; rintro e w7 ⟨rfl, B7⟩; have k := k.below B7; clear B7))
    all_goals
      go_wp2
      go_ret
      exact ⟨rfl, k.bw⟩
end Go.Proofs.Ytgoppdllknimfaa.Bal
