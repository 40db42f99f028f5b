/- Whether a table is alike what was kept, walked: the table of what was kept is. Conditions: the list can be read. -/
import Derived.Test.YtgbnaifjdfoahaaSessKept
import Derived.Deep.RegionHeld3
namespace Go.Proofs.Ytgbnaifjdfoahaa.Sess
open Go.RowKit

def AlikeAt (l : List Kp) (w : World) (gk : Nat) (i : Value) (wr : World) : Prop :=
  ∃ k : Nat, k + gk = 4 ∧ i = .int .i64 (k : Int) ∧ Kg [(w.heap.size, 31, tabC (tabOf l))] w wr
set_option linter.unusedSimpArgs false in
set_option maxRecDepth 100000 in
set_option maxHeartbeats 8000000 in
theorem alike_any (l : List Kp) (hl : l.length ≤ 9223372036854775807) (A : Option Addr) (cap : Nat) (w : World) (h : Rows w A 4 kpC l) :
    Calls Try.prog 21 #[tabV (tabOf l), .slice A l.length cap] w fun e w' => e = .returned (.bool true) ∧ Below w.heap.size w w' := by
  have k0 := (Kg.refl w).new 31 (tabC (tabOf l))
  have hL := fun c W hW => refLast_any l hl c A cap W hW
  have HL := Lib.hid hL
  clear hL
  unfold tabV
  go_enter Try.func21, Try.ntmps21
  go_wp2_with fail
  go_loopg [5] 4 (fun gk i wr => AlikeAt l w gk i wr)
  case atStart => exact ⟨0, by omega, rfl, k0⟩
  case round =>
    clear k0
    obtain ⟨k, hk, rfl, kg⟩ := hrel
    have s1 := kg.i1.lt
    simp only at s1
    have hr := h.below kg.bw
    unfold tabC at kg
    obtain ⟨a0, a1, a2, a3, a4, a5, a6, a7, a8, a9, a10, a11⟩ := kg.i1.c12
    by_cases h4 : k < 4
    · match k, h4 with
      | 0, _ =>
        have h1 := HL.out 0 _ hr
        unfold kpA at h1
        have e : tabOf l 0 = ⟨(lastL l 0).seq, (lastL l 0).code, (lastL l 0).text⟩ := rfl
        rw [e] at a0 a1 a2
        have KG := Lib.hid kg
        clear kg
        generalize lastL l 0 = o at *
        obtain ⟨oc, os, ok, ot⟩ := o
        simp only at h1 a0 a1 a2
        have H1 := Lib.hid h1
        clear h1 e a3 a4 a5 a6 a7 a8 a9 a10 a11
        go_wp2_with fail
        refine H1.out.mono ?_; rintro e w1 ⟨rfl, B1⟩
        have b0 := (B1.cell (p := ⟨w.heap.size, 0, none⟩) s1).trans a0
        have b1 := (B1.cell (p := ⟨w.heap.size, 1, none⟩) s1).trans a1
        have b2 := (B1.cell (p := ⟨w.heap.size, 2, none⟩) s1).trans a2
        have K := (KG.out.below B1).new 33 #[.int .u8 (oc : Int), .int .u32 (os : Int), .int .u8 (ok : Int), .string ot]
        have sz := B1.size
        have hne : ¬ w.heap.size = w1.heap.size := by omega
        obtain ⟨d0, d1, d2, d3⟩ := K.i1.c4
        have K := K.drew
        clear a0 a1 a2 B1
        go_wp2_with fail
        go_region_held3 (fun W : World => (W.cell? ⟨w.heap.size, 0, none⟩ = some (.int .u32 (os : Int)) ∧ W.cell? ⟨w.heap.size, 1, none⟩ = some (.int .u8 (ok : Int)) ∧ W.cell? ⟨w.heap.size, 2, none⟩ = some (.string ot)) ∧ W.cell? ⟨w1.heap.size, 1, none⟩ = some (.int .u32 (os : Int)) ∧ W.cell? ⟨w1.heap.size, 2, none⟩ = some (.int .u8 (ok : Int)) ∧ W.cell? ⟨w1.heap.size, 3, none⟩ = some (.string ot))
          (exact ⟨⟨(World.cell?_alloc_lt w1 _ ⟨w.heap.size, 0, none⟩ (by show w.heap.size < _; omega)).trans b0, (World.cell?_alloc_lt w1 _ ⟨w.heap.size, 1, none⟩ (by show w.heap.size < _; omega)).trans b1, (World.cell?_alloc_lt w1 _ ⟨w.heap.size, 2, none⟩ (by show w.heap.size < _; omega)).trans b2⟩, d1, d2, d3⟩) (fail)
        all_goals
          go_wp2_with fail
          go_roundg (4 - 1)
          case measure => omega
          case rel => exact ⟨1, by omega, by go_num, K.tail⟩
      | 1, _ =>
        have h1 := HL.out 1 _ hr
        unfold kpA at h1
        have e : tabOf l 1 = ⟨(lastL l 1).seq, (lastL l 1).code, (lastL l 1).text⟩ := rfl
        rw [e] at a3 a4 a5
        have KG := Lib.hid kg
        clear kg
        generalize lastL l 1 = o at *
        obtain ⟨oc, os, ok, ot⟩ := o
        simp only at h1 a3 a4 a5
        have H1 := Lib.hid h1
        clear h1 e a0 a1 a2 a6 a7 a8 a9 a10 a11
        go_wp2_with fail
        refine H1.out.mono ?_; rintro e w1 ⟨rfl, B1⟩
        have b0 := (B1.cell (p := ⟨w.heap.size, 3, none⟩) s1).trans a3
        have b1 := (B1.cell (p := ⟨w.heap.size, 4, none⟩) s1).trans a4
        have b2 := (B1.cell (p := ⟨w.heap.size, 5, none⟩) s1).trans a5
        have K := (KG.out.below B1).new 33 #[.int .u8 (oc : Int), .int .u32 (os : Int), .int .u8 (ok : Int), .string ot]
        have sz := B1.size
        have hne : ¬ w.heap.size = w1.heap.size := by omega
        obtain ⟨d0, d1, d2, d3⟩ := K.i1.c4
        have K := K.drew
        clear a3 a4 a5 B1
        go_wp2_with fail
        go_region_held3 (fun W : World => (W.cell? ⟨w.heap.size, 3, none⟩ = some (.int .u32 (os : Int)) ∧ W.cell? ⟨w.heap.size, 4, none⟩ = some (.int .u8 (ok : Int)) ∧ W.cell? ⟨w.heap.size, 5, none⟩ = some (.string ot)) ∧ W.cell? ⟨w1.heap.size, 1, none⟩ = some (.int .u32 (os : Int)) ∧ W.cell? ⟨w1.heap.size, 2, none⟩ = some (.int .u8 (ok : Int)) ∧ W.cell? ⟨w1.heap.size, 3, none⟩ = some (.string ot))
          (exact ⟨⟨(World.cell?_alloc_lt w1 _ ⟨w.heap.size, 3, none⟩ (by show w.heap.size < _; omega)).trans b0, (World.cell?_alloc_lt w1 _ ⟨w.heap.size, 4, none⟩ (by show w.heap.size < _; omega)).trans b1, (World.cell?_alloc_lt w1 _ ⟨w.heap.size, 5, none⟩ (by show w.heap.size < _; omega)).trans b2⟩, d1, d2, d3⟩) (fail)
        all_goals
          go_wp2_with fail
          go_roundg (4 - 2)
          case measure => omega
          case rel => exact ⟨2, by omega, by go_num, K.tail⟩
      | 2, _ =>
        have h1 := HL.out 2 _ hr
        unfold kpA at h1
        have e : tabOf l 2 = ⟨(lastL l 2).seq, (lastL l 2).code, (lastL l 2).text⟩ := rfl
        rw [e] at a6 a7 a8
        have KG := Lib.hid kg
        clear kg
        generalize lastL l 2 = o at *
        obtain ⟨oc, os, ok, ot⟩ := o
        simp only at h1 a6 a7 a8
        have H1 := Lib.hid h1
        clear h1 e a0 a1 a2 a3 a4 a5 a9 a10 a11
        go_wp2_with fail
        refine H1.out.mono ?_; rintro e w1 ⟨rfl, B1⟩
        have b0 := (B1.cell (p := ⟨w.heap.size, 6, none⟩) s1).trans a6
        have b1 := (B1.cell (p := ⟨w.heap.size, 7, none⟩) s1).trans a7
        have b2 := (B1.cell (p := ⟨w.heap.size, 8, none⟩) s1).trans a8
        have K := (KG.out.below B1).new 33 #[.int .u8 (oc : Int), .int .u32 (os : Int), .int .u8 (ok : Int), .string ot]
        have sz := B1.size
        have hne : ¬ w.heap.size = w1.heap.size := by omega
        obtain ⟨d0, d1, d2, d3⟩ := K.i1.c4
        have K := K.drew
        clear a6 a7 a8 B1
        go_wp2_with fail
        go_region_held3 (fun W : World => (W.cell? ⟨w.heap.size, 6, none⟩ = some (.int .u32 (os : Int)) ∧ W.cell? ⟨w.heap.size, 7, none⟩ = some (.int .u8 (ok : Int)) ∧ W.cell? ⟨w.heap.size, 8, none⟩ = some (.string ot)) ∧ W.cell? ⟨w1.heap.size, 1, none⟩ = some (.int .u32 (os : Int)) ∧ W.cell? ⟨w1.heap.size, 2, none⟩ = some (.int .u8 (ok : Int)) ∧ W.cell? ⟨w1.heap.size, 3, none⟩ = some (.string ot))
          (exact ⟨⟨(World.cell?_alloc_lt w1 _ ⟨w.heap.size, 6, none⟩ (by show w.heap.size < _; omega)).trans b0, (World.cell?_alloc_lt w1 _ ⟨w.heap.size, 7, none⟩ (by show w.heap.size < _; omega)).trans b1, (World.cell?_alloc_lt w1 _ ⟨w.heap.size, 8, none⟩ (by show w.heap.size < _; omega)).trans b2⟩, d1, d2, d3⟩) (fail)
        all_goals
          go_wp2_with fail
          go_roundg (4 - 3)
          case measure => omega
          case rel => exact ⟨3, by omega, by go_num, K.tail⟩
      | 3, _ =>
        have h1 := HL.out 3 _ hr
        unfold kpA at h1
        have e : tabOf l 3 = ⟨(lastL l 3).seq, (lastL l 3).code, (lastL l 3).text⟩ := rfl
        rw [e] at a9 a10 a11
        have KG := Lib.hid kg
        clear kg
        generalize lastL l 3 = o at *
        obtain ⟨oc, os, ok, ot⟩ := o
        simp only at h1 a9 a10 a11
        have H1 := Lib.hid h1
        clear h1 e a0 a1 a2 a3 a4 a5 a6 a7 a8
        go_wp2_with fail
        refine H1.out.mono ?_; rintro e w1 ⟨rfl, B1⟩
        have b0 := (B1.cell (p := ⟨w.heap.size, 9, none⟩) s1).trans a9
        have b1 := (B1.cell (p := ⟨w.heap.size, 10, none⟩) s1).trans a10
        have b2 := (B1.cell (p := ⟨w.heap.size, 11, none⟩) s1).trans a11
        have K := (KG.out.below B1).new 33 #[.int .u8 (oc : Int), .int .u32 (os : Int), .int .u8 (ok : Int), .string ot]
        have sz := B1.size
        have hne : ¬ w.heap.size = w1.heap.size := by omega
        obtain ⟨d0, d1, d2, d3⟩ := K.i1.c4
        have K := K.drew
        clear a9 a10 a11 B1
        go_wp2_with fail
        go_region_held3 (fun W : World => (W.cell? ⟨w.heap.size, 9, none⟩ = some (.int .u32 (os : Int)) ∧ W.cell? ⟨w.heap.size, 10, none⟩ = some (.int .u8 (ok : Int)) ∧ W.cell? ⟨w.heap.size, 11, none⟩ = some (.string ot)) ∧ W.cell? ⟨w1.heap.size, 1, none⟩ = some (.int .u32 (os : Int)) ∧ W.cell? ⟨w1.heap.size, 2, none⟩ = some (.int .u8 (ok : Int)) ∧ W.cell? ⟨w1.heap.size, 3, none⟩ = some (.string ot))
          (exact ⟨⟨(World.cell?_alloc_lt w1 _ ⟨w.heap.size, 9, none⟩ (by show w.heap.size < _; omega)).trans b0, (World.cell?_alloc_lt w1 _ ⟨w.heap.size, 10, none⟩ (by show w.heap.size < _; omega)).trans b1, (World.cell?_alloc_lt w1 _ ⟨w.heap.size, 11, none⟩ (by show w.heap.size < _; omega)).trans b2⟩, d1, d2, d3⟩) (fail)
        all_goals
          go_wp2_with fail
          go_roundg (4 - 4)
          case measure => omega
          case rel => exact ⟨4, by omega, by go_num, K.tail⟩
    · obtain rfl : k = 4 := by omega
      go_wp2_with fail
      go_ret
      exact ⟨rfl, kg.bw⟩
end Go.Proofs.Ytgbnaifjdfoahaa.Sess
