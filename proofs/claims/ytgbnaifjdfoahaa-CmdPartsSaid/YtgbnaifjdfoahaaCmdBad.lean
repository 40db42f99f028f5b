/- Package cmd, walked: whether one of a list of commands may not be (the closure of Batch, slices.IndexFunc and slices.ContainsFunc on it). Conditions: the list can be read. -/
import Derived.Test.YtgbnaifjdfoahaaCmdLaw
import Derived.Test.YtgbnaifjdfoahaaOpenRows
import Derived.Test.YtgbnaifjdfoahaaRowsReads
import Derived.Deep.LoopGhost
namespace Go.Proofs.Ytgbnaifjdfoahaa.Cmd
open Go.RowKit Wire

theorem bad_any (c : Cm) (hc : c.Fits) (w : World) : Calls Try.prog 73 #[cmV c] w fun e w' => e = .returned (.bool (!mayB c)) ∧ Below w.heap.size w w' := by
  have HK := Lib.hid (fun W => check_any c hc W)
  have kb := Blk.new w 73 (cmC c)
  have hB1 := Lib.hid (show Below w.heap.size w (w.alloc (.cells (cmC c) 73)) from (Below.refl _ w).alloc (Nat.le_refl _) _)
  obtain ⟨xa, xb, xk, xs, xt, xu, xz⟩ := c
  generalize mayB ⟨xa, xb, xk, xs, xt, xu, xz⟩ = b at *
  unfold cmV at *
  unfold cmC at *
  dsimp only at *
  go_enter Try.func73, Try.ntmps73
  go_wp2_with fail
  refine (HK.out _).mono ?_; rintro e w2 ⟨rfl, B2⟩
  have bw := hB1.out.trans (B2.mono hB1.out.size)
  cases b
  · clear HK hB1 kb B2
    go_wp2
    go_ret
    exact ⟨rfl, bw⟩
  · clear HK hB1 kb B2
    go_wp2
    go_ret
    exact ⟨rfl, bw⟩

/-- The cells of a command in a list, as they lie. -/
theorem cm_cells {w wr : World} {A : Option Addr} {l : List Cm} {k : Nat} {xa xb xk xz : Nat} {xs xt xu : List UInt8} (hA : Rows w A 7 cmL l) (hx : l[k]? = some ⟨xa, xb, xk, xs, xt, xu, xz⟩) (bw : Below w.heap.size w wr) :
    ∃ ad, A = some ad ∧ wr.cell? (ad.add (k * 7)) = some (.int .u8 (xa : Int)) ∧ wr.cell? { block := (ad.add (k * 7)).block, off := (ad.add (k * 7)).off + 1 } = some (.int .u32 (xb : Int)) ∧
      wr.cell? { block := (ad.add (k * 7)).block, off := (ad.add (k * 7)).off + 2 } = some (.int .u8 (xk : Int)) ∧ wr.cell? { block := (ad.add (k * 7)).block, off := (ad.add (k * 7)).off + 3 } = some (.string ⟨xs.toArray⟩) ∧
      wr.cell? { block := (ad.add (k * 7)).block, off := (ad.add (k * 7)).off + 4 } = some (.string ⟨xt.toArray⟩) ∧ wr.cell? { block := (ad.add (k * 7)).block, off := (ad.add (k * 7)).off + 5 } = some (.string ⟨xu.toArray⟩) ∧
      wr.cell? { block := (ad.add (k * 7)).block, off := (ad.add (k * 7)).off + 6 } = some (.int .u8 (xz : Int)) := by
  obtain ⟨ad, rfl, hadl, a0, a1⟩ := hA.at_ hx
  have hl : (ad.add (k * 7)).block < w.heap.size := by rw [block_of_add]; exact hadl
  have f : ∀ (o : Nat) (v : Value), w.cell? { block := (ad.add (k * 7)).block, off := o } = some v → wr.cell? { block := (ad.add (k * 7)).block, off := o } = some v := fun o v h => (bw.cell (show ({ block := (ad.add (k * 7)).block, off := o } : Addr).block < w.heap.size from hl)).trans h
  exact ⟨ad, rfl, (bw.cell hl).trans (a0 _ rfl), f _ _ (a1 0 _ rfl), f _ _ (a1 1 _ rfl), f _ _ (a1 2 _ rfl), f _ _ (a1 3 _ rfl), f _ _ (a1 4 _ rfl), f _ _ (a1 5 _ rfl)⟩
def BadAt (l : List Cm) (w : World) (gk : Nat) (vc : Value) (wr : World) : Prop :=
  ∃ k : Nat, k + gk = l.length ∧ vc = .int .i64 (k : Int) ∧ Hid ((l.take k).any (fun c => !mayB c) = false) ∧ Below w.heap.size w wr
set_option maxRecDepth 100000 in
set_option maxHeartbeats 4000000 in
theorem index_any (l : List Cm) (hf : ∀ c ∈ l, c.Fits) (hl : l.length ≤ 9223372036854775807) (A : Option Addr) (c : Nat) (w : World) (hA : Rows w A 7 cmL l) :
    Calls Try.prog 86 #[.slice A l.length c, .func (.func 73) #[] #[]] w fun e w' => (∃ i : Int, e = .returned (.int .i64 i) ∧ decide (0 ≤ i) = l.any (fun c => !mayB c)) ∧ Below w.heap.size w w' := by
  have HF := Lib.hid hf
  clear hf
  go_enter Try.func86, Try.ntmps86
  go_wp2_with fail
  go_loopg [8] l.length (fun gk i wr => BadAt l w gk i wr)
  case atStart => exact ⟨0, by omega, rfl, rfl, Below.refl _ _⟩
  case round =>
    obtain ⟨k, hk, rfl, hT, bw⟩ := hrel
    by_cases h4 : k < l.length
    · have hk4 : (k : Int) < (l.length : Int) := by omega
      obtain ⟨x, hx⟩ : ∃ x, l[k]? = some x := ⟨_, List.getElem?_eq_getElem h4⟩
      have hxf := HF.out x (List.mem_of_getElem? hx)
      have HK := Lib.hid (fun W => bad_any x hxf W)
      have hT2 : ∀ b, mayB x = b → (l.take (k + 1)).any (fun c => !mayB c) = !b := fun b hb => by
        rw [List.take_add_one, hx, List.any_append, hT.out]
        simp [hb]
      have hany : mayB x = false → l.any (fun c => !mayB c) = true := fun hb => List.any_eq_true.2 ⟨x, List.mem_of_getElem? hx, by rw [hb]; rfl⟩
      obtain ⟨xa, xb, xk, xs, xt, xu, xz⟩ := x
      obtain ⟨ad, rfl, a0, a1, a2, a3, a4, a5, a6⟩ := cm_cells hA hx bw
      generalize mayB ⟨xa, xb, xk, xs, xt, xu, xz⟩ = b at *
      unfold cmV cmC at HK
      dsimp only at HK
      have HT2 := Lib.hid hT2
      have HAN := Lib.hid hany
      clear hT2 hany hx hxf
      go_wp2_with fail
      refine (HK.out _).mono ?_; rintro e w2 ⟨rfl, B2⟩
      have bw2 := bw.trans (B2.mono bw.size)
      clear HK a0 a1 a2 a3 a4 a5 a6 B2 bw
      cases b
      · go_wp2_with fail
        go_ret
        exact ⟨⟨_, rfl, (decide_eq_true (by omega)).trans (HAN.out (by trivial)).symm⟩, bw2⟩
      · go_wp2_with fail
        go_roundg (l.length - (k + 1))
        case measure => omega
        case rel => exact ⟨k + 1, by omega, by go_num, HT2.out _ rfl, bw2⟩
    · have hk4 : ¬ (k : Int) < (l.length : Int) := by omega
      have hT2 : l.any (fun c => !mayB c) = false := by
        have h := hT.out
        rw [List.take_of_length_le (by omega)] at h
        exact h
      have HT2 := Lib.hid hT2
      clear hT2
      go_wp2_with fail
      go_ret
      exact ⟨⟨_, rfl, (decide_eq_false (by omega)).trans HT2.out.symm⟩, bw⟩
theorem contains_any (l : List Cm) (hf : ∀ c ∈ l, c.Fits) (hl : l.length ≤ 9223372036854775807) (A : Option Addr) (c : Nat) (w : World) (hA : Rows w A 7 cmL l) :
    Calls Try.prog 74 #[.slice A l.length c, .func (.func 73) #[] #[]] w fun e w' => e = .returned (.bool (l.any (fun c => !mayB c))) ∧ Below w.heap.size w w' := by
  have hI := index_any l hf hl A c w hA
  generalize l.any (fun c => !mayB c) = b at *
  have HI := Lib.hid hI
  clear hf hI
  go_enter Try.func74, Try.ntmps74
  go_wp2_with fail
  refine HI.out.mono ?_; rintro e w2 ⟨⟨i, rfl, hi⟩, B2⟩
  clear HI
  by_cases h0 : 0 ≤ i
  · go_wp2
    go_ret
    exact ⟨by rw [← hi]; simp [h0], B2⟩
  · go_wp2
    go_ret
    exact ⟨by rw [← hi]; simp, B2⟩
end Go.Proofs.Ytgbnaifjdfoahaa.Cmd
