/- Package ballot, walked: Top, and the document's. Conditions: the arguments are of their types; a list is one that can be read. -/
import Derived.Test.YtgoppdllknimfaaBalTurn
namespace Go.Proofs.Ytgoppdllknimfaa.Bal
open Go.RowKit

def topN (l : List B) : B := l.foldl (fun t b => if ltB t b then b else t) ⟨0, 0⟩
theorem topN_snoc (l : List B) (b : B) : topN (l ++ [b]) = if ltB (topN l) b then b else topN l := by unfold topN; rw [List.foldl_append]; rfl
theorem take_snoc {α : Type} (l : List α) (k : Nat) (x : α) (h : l[k]? = some x) : l.take (k + 1) = l.take k ++ [x] := by
  rw [List.take_add_one, h]; rfl
/-- The cells of a list of ballots. -/
def balCells (l : List B) : List Value := l.flatMap fun b => [.int .u64 (b.n : Int), .int .u8 (b.r : Int)]
def Balls (w : World) (A : Option Addr) (l : List B) : Prop :=
  ∀ k b, l[k]? = some b → ∃ ad, A = some ad ∧ ad.block < w.heap.size ∧ w.cell? (ad.add (k * 2)) = some (.int .u64 (b.n : Int)) ∧ w.cell? (ad.add (k * 2 + 1)) = some (.int .u8 (b.r : Int))
theorem Balls.below {w w' : World} {A : Option Addr} {l : List B} (h : Balls w A l) (hb : Below w.heap.size w w') : Balls w' A l := by
  intro k b hk
  obtain ⟨ad, e, hl, h0, h1⟩ := h k b hk
  exact ⟨ad, e, Nat.lt_of_lt_of_le hl hb.size, (hb.cell (by rw [block_of_add]; exact hl)).trans h0, (hb.cell (by rw [block_of_add]; exact hl)).trans h1⟩
theorem add_next (ad : Addr) (n : Nat) : ({ block := (ad.add n).block, off := (ad.add n).off + 1 } : Addr) = ad.add (n + 1) := by
  unfold Addr.add
  by_cases h : n = 0 <;> simp [h, Nat.add_assoc]
/-- What holds at the head of a round of Top's loop. -/
def TopAt (l : List B) (w : World) (i : Value) (wr : World) : Prop :=
  ∃ k : Nat, k ≤ l.length ∧ i = .int .i64 (k : Int) ∧ Blk wr (w.heap.size + 1) 25 (bC (topN (l.take k))) ∧ Blk wr w.heap.size 25 (bC ⟨0, 0⟩) ∧ Below w.heap.size w wr

set_option maxRecDepth 100000 in
set_option maxHeartbeats 2000000 in
theorem top_any (l : List B) (hl : l.length ≤ 1000) (A : Option Addr) (c : Nat) (w : World) (h : Balls w A l) :
    Calls Try.prog 21 #[.slice A l.length c] w fun e w' => e = .returned (bV (topN l)) ∧ Below w.heap.size w w' := by
  go_enter Try.func21, Try.ntmps21
  go_wp2
  go_loopw [8] (fun i wr => TopAt l w i wr) (fun i _ => l.length - (intOf i).toNat)
  case atStart =>
    have hB := below_2 w (.cells (bC ⟨0, 0⟩) 25) (.cells (bC ⟨0, 0⟩) 25)
    refine ⟨0, by omega, rfl, ?_, ?_, hB⟩
    · have := Blk.new (w.alloc (.cells (bC ⟨0, 0⟩) 25)) 25 (bC ⟨0, 0⟩)
      have e : (w.alloc (.cells (bC ⟨0, 0⟩) 25)).heap.size = w.heap.size + 1 := by simp
      rw [e] at this
      exact this
    · exact (Blk.new w 25 (bC ⟨0, 0⟩)).alloc _
  case round =>
    obtain ⟨k, hk, rfl, hT, hR, hB⟩ := hrel
    generalize ht : topN (l.take k) = t at *
    have t0 := hT.cell 0
    have t1 := hT.cell 1
    have f0 := hT.frozen 0
    have f1 := hT.frozen 1
    have q0 := hR.cell 0
    have q1 := hR.cell 1
    have r0 := hR.frozen 0
    have r1 := hR.frozen 1
    simp [bC] at t0 t1 q0 q1
    have s1 := hT.lt
    have s0 := hR.lt
    have n0 : ¬ w.heap.size + 1 = wr.heap.size := by omega
    have n1 : ¬ w.heap.size = wr.heap.size := by omega
    by_cases hlt : k < l.length
    · obtain ⟨ad, rfl, hlb, c0, c1⟩ := h k l[k] (List.getElem?_eq_getElem hlt)
      have c0' := (hB.cell (by rw [block_of_add]; exact hlb)).trans c0
      have c1' := (hB.cell (by rw [block_of_add]; exact hlb)).trans c1
      have c2' := c1'
      rw [← add_next] at c2'
      clear c1 c0
      generalize hb : l[k] = b at *
      go_wp2_with fail
      refine (below_any t b _).mono ?_; rintro e w5 ⟨rfl, hal⟩
      have hb5 : Below (wr.alloc (.cells (bC b) 25)).heap.size (wr.alloc (.cells (bC b) 25)) w5 := hal.below
      clear hal
      have hz : (wr.alloc (.cells (bC b) 25)).heap.size = wr.heap.size + 1 := by simp
      rw [hz] at hb5
      have hT5 := (hT.alloc (.cells (bC b) 25)).below hb5 (by omega)
      have hR5 := (hR.alloc (.cells (bC b) 25)).below hb5 (by omega)
      have hX5 := (Blk.new wr 25 (bC b)).below hb5 (by omega)
      have hB5 := (hB.alloc hB.size (.cells (bC b) 25)).trans (hb5.mono (by omega))
      clear hz hb5 c0' c1' c2' t0 t1 q0 q1 r0 r1 f0 f1
      have x0 := hX5.cell 0
      have x1 := hX5.cell 1
      simp [bC] at x0 x1
      have t0 := hT5.cell 0
      have t1 := hT5.cell 1
      simp [bC] at t0 t1
      have f0 := hT5.frozen 0
      have f1 := hT5.frozen 1
      have hS := topN_snoc (l.take k) b
      rw [← take_snoc l k b (by rw [List.getElem?_eq_getElem hlt, hb]), ht] at hS
      have HS := Lib.hid hS
      have HT := Lib.hid (hT5.set_ 0 (.int .u64 (b.n : Int)) |>.set_ 1 (.int .u8 (b.r : Int)))
      have HR := Lib.hid ((hR5.far (p := ⟨w.heap.size + 1, 0, none⟩) (by simp) (.int .u64 (b.n : Int))).far (p := ⟨w.heap.size + 1, 1, none⟩) (by simp) (.int .u8 (b.r : Int)))
      have HB := Lib.hid ((hB5.setCell (p := ⟨w.heap.size + 1, 0, none⟩) (by simp) (.int .u64 (b.n : Int))).setCell (p := ⟨w.heap.size + 1, 1, none⟩) (by simp) (.int .u8 (b.r : Int)))
      have HT0 := Lib.hid hT5
      have HR0 := Lib.hid hR5
      have HB0 := Lib.hid hB5
      clear hS hT5 hR5 hB5 hT hR hB
      cases hlt2 : ltB t b
      · have H := Lib.hid hlt2
        clear hlt2
        go_wp2
        exact ⟨⟨k + 1, by omega, by go_num, by rw [HS.out, H.out]; exact HT0.out, HR0.out, HB0.out⟩, by simp [intOf]; omega⟩
      · have H := Lib.hid hlt2
        clear hlt2
        go_wp2
        exact ⟨⟨k + 1, by omega, by go_num, by rw [HS.out, H.out]; exact HT.out, HR.out, HB.out⟩, by simp [intOf]; omega⟩
    · have hk2 : k = l.length := by omega
      have ht2 : topN l = t := by rw [← ht, hk2, List.take_length]
      have H := Lib.hid ht2
      have HB := Lib.hid ((hB.setCell (p := ⟨w.heap.size, 0, none⟩) (by simp) (.int .u64 (t.n : Int))).setCell (p := ⟨w.heap.size, 1, none⟩) (by simp) (.int .u8 (t.r : Int)))
      have y0 := (hR.set_ 0 (.int .u64 (t.n : Int))).cell 0
      have y1 := ((hR.set_ 0 (.int .u64 (t.n : Int))).set_ 1 (.int .u8 (t.r : Int))).cell 1
      simp [bC] at y0 y1
      have Y0 := Lib.hid y0
      have Y1 := Lib.hid y1
      clear ht2 ht hk2 y0 y1
      go_wp2
      rw [H.out]
      have y0 := Y0.out
      have y1 := Y1.out
      refine bodyPost_ret (v := bV t) (by simp [results, Try.results21, go_sem, bV, bC, y0, y1]) rfl ⟨rfl, HB.out⟩
end Go.Proofs.Ytgoppdllknimfaa.Bal
