/- The law CmdParts walked. Conditions: the argument can be read. -/
import Derived.Test.YtgbnaifjdfoahaaCmdWakes
import Derived.Test.YtgbnaifjdfoahaaInvB
import Derived.Deep.DeepCutAuto
import Derived.Deep.LoopGhost
namespace Go.Proofs.Ytgbnaifjdfoahaa.Cmd
open Go.RowKit Wire DrawInv

/-- A block that is made of the cells of a list, read as that list. -/
theorem blk_rows {w : World} {g : Nat} {t : TypeId} {cs : Array Value} {l : List Cm} (h : Blk w g t cs) (he : cs.toList = l.flatMap cmL) : Rows w (some ⟨g, 0, none⟩) 7 cmL l := by
  refine reads_rows cmL_len ⟨flat_length cmL_len l, fun _ => ⟨_, rfl, h.lt, fun j u hu => ?_⟩⟩
  have e : (⟨g, 0, none⟩ : Addr).add j = ⟨g, j, none⟩ := by unfold Addr.add; by_cases hj : j = 0 <;> simp [hj]
  rw [e, h.cell j, ← Array.getElem?_toList, he]
  exact hu
def z65 : List UInt8 := List.replicate 65 0
def badX (c : Cm) : List Cm := [{ c with client := 4 }, { c with seq := 0 }, { c with kind := 0 }, { c with kind := 6 }, { c with key := List.replicate 17 0 }, { c with old := z65 }, { c with new := z65 }, { c with key := if c.kind = 5 then [107] else [] }]
theorem badX_not (c : Cm) : ∀ x ∈ badX c, mayB x = false := by
  intro x hx
  have hz : z65.length = 65 := by decide
  have h17 : (List.replicate 17 (0 : UInt8)).length = 17 := by decide
  obtain ⟨cl, sq, k, ky, od, nw, st⟩ := c
  unfold badX at hx
  simp only [List.mem_cons, List.not_mem_nil, or_false] at hx
  rcases hx with rfl | rfl | rfl | rfl | rfl | rfl | rfl | rfl <;> unfold mayB <;> refine decide_eq_false ?_ <;> simp only [hz, h17]
  all_goals first | omega | (split <;> simp only [List.length_cons, List.length_nil] <;> omega)
theorem badX_fits {c : Cm} (h : c.Fits) : ∀ x ∈ badX c, x.Fits := by
  intro x hx
  have hz : z65.length = 65 := by decide
  have h17 : (List.replicate 17 (0 : UInt8)).length = 17 := by decide
  obtain ⟨h1, h2, h3, h4, h5, h6, h7⟩ := h
  obtain ⟨cl, sq, k, ky, od, nw, st⟩ := c
  simp only at h1 h2 h3 h4 h5 h6 h7
  unfold badX at hx
  simp only [List.mem_cons, List.not_mem_nil, or_false] at hx
  rcases hx with rfl | rfl | rfl | rfl | rfl | rfl | rfl | rfl <;> refine ⟨?_, ?_, ?_, ?_, ?_, ?_, ?_⟩ <;> simp only [hz, h17] <;> first | omega | (split <;> decide)
theorem may_set {c : Cm} (h : mayB c = true) : mayB { c with set := 1 } = decide (c.kind = 5) := by
  obtain ⟨cl, sq, k, ky, od, nw, st⟩ := c
  unfold mayB at *
  have h := of_decide_eq_true h
  simp only at h ⊢
  by_cases hk : k = 5
  · rw [decide_eq_true hk]; exact decide_eq_true (by omega)
  · rw [decide_eq_false hk]; exact decide_eq_false (by omega)
theorem may_old {c : Cm} (h : mayB c = true) : mayB { c with old := [111] } = decide (c.kind = 4) := by
  obtain ⟨cl, sq, k, ky, od, nw, st⟩ := c
  unfold mayB at *
  have h := of_decide_eq_true h
  simp only [List.length_cons, List.length_nil] at h ⊢
  by_cases hk : k = 4
  · rw [decide_eq_true hk]; exact decide_eq_true (by omega)
  · rw [decide_eq_false hk]; exact decide_eq_false (by omega)
theorem may_new {c : Cm} (h : mayB c = true) : mayB { c with new := [110] } = decide (c.kind = 4 ∨ c.kind = 2) := by
  obtain ⟨cl, sq, k, ky, od, nw, st⟩ := c
  unfold mayB at *
  have h := of_decide_eq_true h
  simp only [List.length_cons, List.length_nil] at h ⊢
  by_cases hk : k = 4 ∨ k = 2
  · rw [decide_eq_true hk]; exact decide_eq_true (by omega)
  · rw [decide_eq_false hk]; exact decide_eq_false (by omega)
theorem gx_cells {w wr : World} {g : Nat} {l : List Cm} {k : Nat} {x : Cm} (hA : Rows w (some ⟨g, 0, none⟩) 7 cmL l) (hx : l[k]? = some x) (bw : Below w.heap.size w wr) (j : Nat) (v : Value) (hv : (cmL x)[j]? = some v) : wr.cell? ⟨g, k * 7 + j, none⟩ = some v := by
  obtain ⟨ad, e, hl, h⟩ := hA k x hx
  obtain rfl := Option.some.inj e
  have e : (⟨g, 0, none⟩ : Addr).add (k * 7 + j) = ⟨g, k * 7 + j, none⟩ := by
    generalize k * 7 + j = n
    unfold Addr.add
    by_cases hj : n = 0 <;> simp [hj]
  have h0 := h j v hv
  rw [e] at h0
  exact (bw.cell (show ({ block := g, off := k * 7 + j } : Addr).block < w.heap.size from hl)).trans h0
def PartsAt (wc : World) (gk : Nat) (vi : Value) (wr : World) : Prop :=
  ∃ k : Nat, k + gk = 8 ∧ vi = .int .i64 (k : Int) ∧ Below wc.heap.size wc wr
theorem badX_len (c : Cm) : (badX c).length = 8 := rfl
set_option linter.unusedSimpArgs false in
set_option maxRecDepth 100000 in
set_option maxHeartbeats 16000000 in
theorem cparts_any (c : Cm) (hc : c.Fits) (w : World) : Calls Try.prog 13 #[cmV c] w fun e w' => e = .returned (.bool true) ∧ Below w.heap.size w w' := by
  have HCK := Lib.hid (fun W => check_any c hc W)
  have kb := Blk.new w 73 (cmC c)
  have hB1 : Below w.heap.size w (w.alloc (.cells (cmC c) 73)) := (Below.refl _ w).alloc (Nat.le_refl _) _
  by_cases hm : mayB c = true
  rotate_left
  · have hm := Bool.not_eq_true _ ▸ hm
    rw [hm] at HCK
    have hb := fun (A : Option Addr) (cc : Nat) W hA => batch_any [c] (fun x hx => by rw [List.mem_singleton.1 hx]; exact hc) (by simp) A cc W hA
    have eb : batchC [c] = ([], 2) := by unfold batchC; rw [if_pos]; exact .inr (by simp [hm])
    rw [eb] at hb
    have HB := Lib.hid hb
    have HR := Lib.hid (fun (W : World) (g : Nat) (h : Blk W g 73 (cmC c)) => rows_one h)
    clear hb eb hm
    obtain ⟨xa, xb, xk, xs, xt, xu, xz⟩ := c
    generalize mayB ⟨xa, xb, xk, xs, xt, xu, xz⟩ = b at *
    unfold cmV at *
    unfold cmC at *
    dsimp only at *
    go_enter Try.func13, Try.ntmps13
    go_wp2_with fail
    refine (HCK.out _).mono ?_; rintro e w2 ⟨rfl, B2⟩
    have kb2 := kb.below B2 kb.lt
    have bw2 := hB1.trans (B2.mono hB1.size)
    clear kb hB1 B2 HCK
    have q0 := kb2.cell 0
    have q1 := kb2.cell 1
    have q2 := kb2.cell 2
    have q3 := kb2.cell 3
    have q4 := kb2.cell 4
    have q5 := kb2.cell 5
    have q6 := kb2.cell 6
    go_wp2_with fail
    have kn := Blk.new w2 73 #[.int .u8 (xa : Int), .int .u32 (xb : Int), .int .u8 (xk : Int), .string ⟨xs.toArray⟩, .string ⟨xt.toArray⟩, .string ⟨xu.toArray⟩, .int .u8 (xz : Int)]
    have b2 := bw2.alloc bw2.size (.cells #[.int .u8 (xa : Int), .int .u32 (xb : Int), .int .u8 (xk : Int), .string ⟨xs.toArray⟩, .string ⟨xt.toArray⟩, .string ⟨xu.toArray⟩, .int .u8 (xz : Int)] 73)
    refine (HB.out _ _ _ (HR.out _ _ kn)).mono ?_; rintro e w3 ⟨rfl, B3⟩
    have b3 := b2.trans (B3.mono b2.size)
    clear HB HR kn b2 bw2 B3 q0 q1 q2 q3 q4 q5 q6 kb2
    go_wp2_with fail
    refine (wakes_any _).mono ?_; rintro e wz ⟨rfl, Bz⟩
    have bwz := b3.trans (Bz.mono b3.size)
    go_wp2_with fail
    go_ret
    exact ⟨rfl, bwz⟩
  rw [hm] at HCK
  have HBX := Lib.hid (badX_not c)
  have HFX := Lib.hid (badX_fits hc)
  have HCKs := Lib.hid (fun (x : Cm) hx W => check_any x hx W)
  have e5 := may_set hm
  have e4 := may_old hm
  have e42 := may_new hm
  have hk2 := hc.h3
  have HC5 := Lib.hid (fun W => check_any { c with set := 1 } ⟨hc.h1, hc.h2, hc.h3, hc.h4, hc.h5, hc.h6, (show 1 < 256 by omega)⟩ W)
  have HC4 := Lib.hid (fun W => check_any { c with old := [111] } ⟨hc.h1, hc.h2, hc.h3, hc.h4, (show 1 ≤ 9223372036854775807 by omega), hc.h6, hc.h7⟩ W)
  have HC42 := Lib.hid (fun W => check_any { c with new := [110] } ⟨hc.h1, hc.h2, hc.h3, hc.h4, hc.h5, (show 1 ≤ 9223372036854775807 by omega), hc.h7⟩ W)
  rw [e5] at HC5
  rw [e4] at HC4
  rw [e42] at HC42
  clear e5 e4 e42 hm hc
  obtain ⟨xa, xb, xk, xs, xt, xu, xz⟩ := c
  generalize mayB ⟨xa, xb, xk, xs, xt, xu, xz⟩ = b at *
  unfold cmV at HCK HC5 HC4 HC42 ⊢
  unfold cmC at HCK HC5 HC4 HC42 kb hB1 ⊢
  dsimp only at HCK HC5 HC4 HC42 hk2
  have hmk : ∀ W : World, (Instr.makeSlice 40 (.int .i64 65) (.int .i64 65)).run Try.prog W = .ok (.slice (some ⟨W.heap.size, 0, none⟩) 65 65) (W.alloc (.cells (bv z65).toArray 5)) := fun W => by
    obtain ⟨i0, hi, hz0, hz1, hz2⟩ := info_parts info_u8
    have h := run_make_rowN (P := Try.prog) 40 5 i0 (.int .u8 0) Try.underlying40 hi hz0 .i64 .i64 65 65 (by decide) (by rw [hz2]; decide) (by decide) W
    rw [hz1] at h
    have e : madeCells (Value.int .u8 0).cells (65 * 1) = (bv z65).toArray := Array.toList_inj.1 ((toList_madeCells_one (.int .u8 0) 65).trans (by
      show List.replicate 65 _ = bv z65
      unfold bv z65
      rw [List.map_replicate]
      rfl))
    rw [e] at h
    exact h
  go_enter Try.func13, Try.ntmps13
  go_wp2_with fail
  refine (HCK.out _).mono ?_; rintro e w2 ⟨rfl, B2⟩
  have kb2 := kb.below B2 kb.lt
  have bw2 := hB1.trans (B2.mono hB1.size)
  clear kb hB1 B2 HCK
  have kz := Blk.new w2 5 (bv z65).toArray
  have b3 : Below w2.heap.size w2 (w2.alloc (.cells (bv z65).toArray 5)) := (Below.refl _ w2).alloc (Nat.le_refl _) _
  have kb3 := kb2.below b3 kb2.lt
  have bw3 := bw2.trans (b3.mono bw2.size)
  have rz : Reads (w2.alloc (.cells (bv z65).toArray 5)) (w2.alloc (.cells (bv z65).toArray 5)).heap.size 1 (some ⟨w2.heap.size, 0, none⟩) z65.length (bv z65) := by
    refine ⟨by decide, fun _ => ⟨_, rfl, kz.lt, fun j u hu => ?_⟩⟩
    have e : (⟨w2.heap.size, 0, none⟩ : Addr).add j = ⟨w2.heap.size, j, none⟩ := by unfold Addr.add; by_cases hj : j = 0 <;> simp [hj]
    rw [e, kz.cell j]
    simpa using hu
  have hz : z65.length = 65 := by decide
  have hcv := conv_str Try.underlying40 Try.underlying5 Try.underlying9 65 rz
  rw [hz] at hcv
  have sz := size_str z65
  rw [hz] at sz
  obtain ⟨k17, hk17⟩ : ∃ k, k = List.replicate 17 (0 : UInt8) := ⟨_, rfl⟩
  have HK17 := Lib.hid hk17
  have h17 : ∀ W, (Instr.slice 9 (.string ⟨z65.toArray⟩) none (some (.int .i64 17)) none).run Try.prog W = .ok (.string ⟨k17.toArray⟩) W := fun W => by
    rw [run_slice_string_h W 9 ⟨z65.toArray⟩ Try.underlying9 .i64 17 (by omega) (by rw [sz]; omega)]
    have e : (17 : Int).toNat = 17 := rfl
    rw [e, take_str, hk17]
    rfl
  clear kz rz hz kb2 bw2 b3 hk17
  go_upto_region 5 with fail
  clear hcv hmk
  generalize w2.alloc (.cells (bv z65).toArray 5) = w3 at *
  have q0 := kb3.cell 0
  have q1 := kb3.cell 1
  have q2 := kb3.cell 2
  have q3 := kb3.cell 3
  have q4 := kb3.cell 4
  have q5 := kb3.cell 5
  have q6 := kb3.cell 6
  have hgx := kb3.lt
  go_upto_region 6 with fail
  obtain ⟨cs0, hcs0⟩ : ∃ cs0 : Array Value, cs0 = #[.int .u8 (xa : Int), .int .u32 (xb : Int), .int .u8 (xk : Int), .string ⟨xs.toArray⟩, .string ⟨xt.toArray⟩, .string ⟨xu.toArray⟩, .int .u8 (xz : Int), .int .u8 (xa : Int), .int .u32 (xb : Int), .int .u8 (xk : Int), .string ⟨xs.toArray⟩, .string ⟨xt.toArray⟩, .string ⟨xu.toArray⟩, .int .u8 (xz : Int), .int .u8 (xa : Int), .int .u32 (xb : Int), .int .u8 (xk : Int), .string ⟨xs.toArray⟩, .string ⟨xt.toArray⟩, .string ⟨xu.toArray⟩, .int .u8 (xz : Int), .int .u8 (xa : Int), .int .u32 (xb : Int), .int .u8 (xk : Int), .string ⟨xs.toArray⟩, .string ⟨xt.toArray⟩, .string ⟨xu.toArray⟩, .int .u8 (xz : Int), .int .u8 (xa : Int), .int .u32 (xb : Int), .int .u8 (xk : Int), .string ⟨xs.toArray⟩, .string ⟨xt.toArray⟩, .string ⟨xu.toArray⟩, .int .u8 (xz : Int), .int .u8 (xa : Int), .int .u32 (xb : Int), .int .u8 (xk : Int), .string ⟨xs.toArray⟩, .string ⟨xt.toArray⟩, .string ⟨xu.toArray⟩, .int .u8 (xz : Int), .int .u8 (xa : Int), .int .u32 (xb : Int), .int .u8 (xk : Int), .string ⟨xs.toArray⟩, .string ⟨xt.toArray⟩, .string ⟨xu.toArray⟩, .int .u8 (xz : Int), .int .u8 (xa : Int), .int .u32 (xb : Int), .int .u8 (xk : Int), .string ⟨xs.toArray⟩, .string ⟨xt.toArray⟩, .string ⟨xu.toArray⟩, .int .u8 (xz : Int)] := ⟨_, rfl⟩
  have kx0 := Blk.new w3 73 cs0
  have n0 : cs0.size = 56 := by rw [hcs0]; rfl
  have HS0 := Lib.hid hcs0
  have kc0 := kb3.alloc (.cells cs0 73)
  have bx0 := bw3.alloc bw3.size (.cells cs0 73)
  rw [← hcs0]
  obtain ⟨gx, hgxe⟩ : ∃ gx, gx = w3.heap.size := ⟨_, rfl⟩
  rw [← hgxe] at kx0 hgx ⊢
  have hwx : w.heap.size ≤ gx := Nat.le_of_lt hgx
  have hgn : w.heap.size ≠ gx := Nat.ne_of_lt hgx
  generalize w3.alloc (.cells cs0 73) = wb0 at *
  clear hcs0 hgxe kb3 bw3 q0 q1 q2 q3 q4 q5 q6
  obtain ⟨u0, hu0⟩ : ∃ u, cs0[0]? = some u := ⟨_, Array.getElem?_eq_getElem (by omega)⟩
  have x0 : wb0.cell? ⟨gx, 0, none⟩ = some u0 := (kx0.cell 0).trans hu0
  have y0 := kx0.frozen 0
  have kx1 := kx0.set_ 0 (.int .u8 4)
  have kc1 := kc0.far (p := ⟨gx, 0, none⟩) hgn (.int .u8 4)
  have bx1 := bx0.setCell (p := ⟨gx, 0, none⟩) hwx (.int .u8 4)
  obtain ⟨cs1, hcs1⟩ : ∃ cs : Array Value, cs = cs0.setIfInBounds 0 (.int .u8 4) := ⟨_, rfl⟩
  rw [← hcs1] at kx1
  have n1 : cs1.size = 56 := by rw [hcs1, Array.size_setIfInBounds]; exact n0
  have HS1 := Lib.hid hcs1
  clear hcs1 hu0 kx0 kc0 bx0 n0
  go_upto_region 7 with fail
  generalize wb0.setCell ⟨gx, 0, none⟩ (.int .u8 4) = wb1 at *
  clear x0 y0
  obtain ⟨u1, hu1⟩ : ∃ u, cs1[8]? = some u := ⟨_, Array.getElem?_eq_getElem (by omega)⟩
  have x1 : wb1.cell? ⟨gx, 8, none⟩ = some u1 := (kx1.cell 8).trans hu1
  have y1 := kx1.frozen 8
  have kx2 := kx1.set_ 8 (.int .u32 0)
  have kc2 := kc1.far (p := ⟨gx, 8, none⟩) hgn (.int .u32 0)
  have bx2 := bx1.setCell (p := ⟨gx, 8, none⟩) hwx (.int .u32 0)
  obtain ⟨cs2, hcs2⟩ : ∃ cs : Array Value, cs = cs1.setIfInBounds 8 (.int .u32 0) := ⟨_, rfl⟩
  rw [← hcs2] at kx2
  have n2 : cs2.size = 56 := by rw [hcs2, Array.size_setIfInBounds]; exact n1
  have HS2 := Lib.hid hcs2
  clear hcs2 hu1 kx1 kc1 bx1 n1
  go_upto_region 8 with fail
  generalize wb1.setCell ⟨gx, 8, none⟩ (.int .u32 0) = wb2 at *
  clear x1 y1
  obtain ⟨u2, hu2⟩ : ∃ u, cs2[16]? = some u := ⟨_, Array.getElem?_eq_getElem (by omega)⟩
  have x2 : wb2.cell? ⟨gx, 16, none⟩ = some u2 := (kx2.cell 16).trans hu2
  have y2 := kx2.frozen 16
  have kx3 := kx2.set_ 16 (.int .u8 0)
  have kc3 := kc2.far (p := ⟨gx, 16, none⟩) hgn (.int .u8 0)
  have bx3 := bx2.setCell (p := ⟨gx, 16, none⟩) hwx (.int .u8 0)
  obtain ⟨cs3, hcs3⟩ : ∃ cs : Array Value, cs = cs2.setIfInBounds 16 (.int .u8 0) := ⟨_, rfl⟩
  rw [← hcs3] at kx3
  have n3 : cs3.size = 56 := by rw [hcs3, Array.size_setIfInBounds]; exact n2
  have HS3 := Lib.hid hcs3
  clear hcs3 hu2 kx2 kc2 bx2 n2
  go_upto_region 9 with fail
  generalize wb2.setCell ⟨gx, 16, none⟩ (.int .u8 0) = wb3 at *
  clear x2 y2
  obtain ⟨u3, hu3⟩ : ∃ u, cs3[23]? = some u := ⟨_, Array.getElem?_eq_getElem (by omega)⟩
  have x3 : wb3.cell? ⟨gx, 23, none⟩ = some u3 := (kx3.cell 23).trans hu3
  have y3 := kx3.frozen 23
  have kx4 := kx3.set_ 23 (.int .u8 6)
  have kc4 := kc3.far (p := ⟨gx, 23, none⟩) hgn (.int .u8 6)
  have bx4 := bx3.setCell (p := ⟨gx, 23, none⟩) hwx (.int .u8 6)
  obtain ⟨cs4, hcs4⟩ : ∃ cs : Array Value, cs = cs3.setIfInBounds 23 (.int .u8 6) := ⟨_, rfl⟩
  rw [← hcs4] at kx4
  have n4 : cs4.size = 56 := by rw [hcs4, Array.size_setIfInBounds]; exact n3
  have HS4 := Lib.hid hcs4
  clear hcs4 hu3 kx3 kc3 bx3 n3
  go_upto_region 10 with fail
  generalize wb3.setCell ⟨gx, 23, none⟩ (.int .u8 6) = wb4 at *
  clear x3 y3
  obtain ⟨u4, hu4⟩ : ∃ u, cs4[31]? = some u := ⟨_, Array.getElem?_eq_getElem (by omega)⟩
  have x4 : wb4.cell? ⟨gx, 31, none⟩ = some u4 := (kx4.cell 31).trans hu4
  have y4 := kx4.frozen 31
  have kx5 := kx4.set_ 31 (.string ⟨k17.toArray⟩)
  have kc5 := kc4.far (p := ⟨gx, 31, none⟩) hgn (.string ⟨k17.toArray⟩)
  have bx5 := bx4.setCell (p := ⟨gx, 31, none⟩) hwx (.string ⟨k17.toArray⟩)
  obtain ⟨cs5, hcs5⟩ : ∃ cs : Array Value, cs = cs4.setIfInBounds 31 (.string ⟨k17.toArray⟩) := ⟨_, rfl⟩
  rw [← hcs5] at kx5
  have n5 : cs5.size = 56 := by rw [hcs5, Array.size_setIfInBounds]; exact n4
  have HS5 := Lib.hid hcs5
  clear hcs5 hu4 kx4 kc4 bx4 n4
  go_upto_region 11 with fail
  generalize wb4.setCell ⟨gx, 31, none⟩ (.string ⟨k17.toArray⟩) = wb5 at *
  clear x4 y4
  obtain ⟨u5, hu5⟩ : ∃ u, cs5[39]? = some u := ⟨_, Array.getElem?_eq_getElem (by omega)⟩
  have x5 : wb5.cell? ⟨gx, 39, none⟩ = some u5 := (kx5.cell 39).trans hu5
  have y5 := kx5.frozen 39
  have kx6 := kx5.set_ 39 (.string ⟨z65.toArray⟩)
  have kc6 := kc5.far (p := ⟨gx, 39, none⟩) hgn (.string ⟨z65.toArray⟩)
  have bx6 := bx5.setCell (p := ⟨gx, 39, none⟩) hwx (.string ⟨z65.toArray⟩)
  obtain ⟨cs6, hcs6⟩ : ∃ cs : Array Value, cs = cs5.setIfInBounds 39 (.string ⟨z65.toArray⟩) := ⟨_, rfl⟩
  rw [← hcs6] at kx6
  have n6 : cs6.size = 56 := by rw [hcs6, Array.size_setIfInBounds]; exact n5
  have HS6 := Lib.hid hcs6
  clear hcs6 hu5 kx5 kc5 bx5 n5
  go_upto_region 12 with fail
  generalize wb5.setCell ⟨gx, 39, none⟩ (.string ⟨z65.toArray⟩) = wb6 at *
  clear x5 y5
  obtain ⟨u6, hu6⟩ : ∃ u, cs6[47]? = some u := ⟨_, Array.getElem?_eq_getElem (by omega)⟩
  have x6 : wb6.cell? ⟨gx, 47, none⟩ = some u6 := (kx6.cell 47).trans hu6
  have y6 := kx6.frozen 47
  have kx7 := kx6.set_ 47 (.string ⟨z65.toArray⟩)
  have kc7 := kc6.far (p := ⟨gx, 47, none⟩) hgn (.string ⟨z65.toArray⟩)
  have bx7 := bx6.setCell (p := ⟨gx, 47, none⟩) hwx (.string ⟨z65.toArray⟩)
  obtain ⟨cs7, hcs7⟩ : ∃ cs : Array Value, cs = cs6.setIfInBounds 47 (.string ⟨z65.toArray⟩) := ⟨_, rfl⟩
  rw [← hcs7] at kx7
  have n7 : cs7.size = 56 := by rw [hcs7, Array.size_setIfInBounds]; exact n6
  have HS7 := Lib.hid hcs7
  clear hcs7 hu6 kx6 kc6 bx6 n6
  go_upto_region 13 with fail
  generalize wb6.setCell ⟨gx, 47, none⟩ (.string ⟨z65.toArray⟩) = wb7 at *
  clear x6 y6
  obtain ⟨u7, hu7⟩ : ∃ u, cs7[52]? = some u := ⟨_, Array.getElem?_eq_getElem (by omega)⟩
  have x7 : wb7.cell? ⟨gx, 52, none⟩ = some u7 := (kx7.cell 52).trans hu7
  have y7 := kx7.frozen 52
  have kx8 := kx7.set_ 52 (.string ⟨#[]⟩)
  have kc8 := kc7.far (p := ⟨gx, 52, none⟩) hgn (.string ⟨#[]⟩)
  have bx8 := bx7.setCell (p := ⟨gx, 52, none⟩) hwx (.string ⟨#[]⟩)
  obtain ⟨cs8, hcs8⟩ : ∃ cs : Array Value, cs = cs7.setIfInBounds 52 (.string ⟨#[]⟩) := ⟨_, rfl⟩
  rw [← hcs8] at kx8
  have n8 : cs8.size = 56 := by rw [hcs8, Array.size_setIfInBounds]; exact n7
  have HS8 := Lib.hid hcs8
  clear hcs8 hu7 kx7 kc7 bx7 n7
  go_upto_region 14 with fail
  generalize wb7.setCell ⟨gx, 52, none⟩ (.string ⟨#[]⟩) = wb8 at *
  clear x7 y7
  have hx8 : cs8[52]? = some (.string ⟨#[]⟩) := by rw [HS8.out]; exact Array.getElem?_setIfInBounds_self_of_lt (by have := n8; rw [HS8.out, Array.size_setIfInBounds] at this; omega)
  have x8 : wb8.cell? ⟨gx, 52, none⟩ = some (.string ⟨#[]⟩) := (kx8.cell 52).trans hx8
  have y8 := kx8.frozen 52
  have kx9 := kx8.set_ 52 (.string ⟨#[107]⟩)
  have kc9 := kc8.far (p := ⟨gx, 52, none⟩) hgn (.string ⟨#[107]⟩)
  have bx9 := bx8.setCell (p := ⟨gx, 52, none⟩) hwx (.string ⟨#[107]⟩)
  have k2 := kc8.cell 2
  have hall8 : cs8 = ((((((((#[.int .u8 (xa : Int), .int .u32 (xb : Int), .int .u8 (xk : Int), .string ⟨xs.toArray⟩, .string ⟨xt.toArray⟩, .string ⟨xu.toArray⟩, .int .u8 (xz : Int), .int .u8 (xa : Int), .int .u32 (xb : Int), .int .u8 (xk : Int), .string ⟨xs.toArray⟩, .string ⟨xt.toArray⟩, .string ⟨xu.toArray⟩, .int .u8 (xz : Int), .int .u8 (xa : Int), .int .u32 (xb : Int), .int .u8 (xk : Int), .string ⟨xs.toArray⟩, .string ⟨xt.toArray⟩, .string ⟨xu.toArray⟩, .int .u8 (xz : Int), .int .u8 (xa : Int), .int .u32 (xb : Int), .int .u8 (xk : Int), .string ⟨xs.toArray⟩, .string ⟨xt.toArray⟩, .string ⟨xu.toArray⟩, .int .u8 (xz : Int), .int .u8 (xa : Int), .int .u32 (xb : Int), .int .u8 (xk : Int), .string ⟨xs.toArray⟩, .string ⟨xt.toArray⟩, .string ⟨xu.toArray⟩, .int .u8 (xz : Int), .int .u8 (xa : Int), .int .u32 (xb : Int), .int .u8 (xk : Int), .string ⟨xs.toArray⟩, .string ⟨xt.toArray⟩, .string ⟨xu.toArray⟩, .int .u8 (xz : Int), .int .u8 (xa : Int), .int .u32 (xb : Int), .int .u8 (xk : Int), .string ⟨xs.toArray⟩, .string ⟨xt.toArray⟩, .string ⟨xu.toArray⟩, .int .u8 (xz : Int), .int .u8 (xa : Int), .int .u32 (xb : Int), .int .u8 (xk : Int), .string ⟨xs.toArray⟩, .string ⟨xt.toArray⟩, .string ⟨xu.toArray⟩, .int .u8 (xz : Int)] : Array Value).setIfInBounds 0 (.int .u8 4)).setIfInBounds 8 (.int .u32 0)).setIfInBounds 16 (.int .u8 0)).setIfInBounds 23 (.int .u8 6)).setIfInBounds 31 (.string ⟨(List.replicate 17 (0 : UInt8)).toArray⟩)).setIfInBounds 39 (.string ⟨z65.toArray⟩)).setIfInBounds 47 (.string ⟨z65.toArray⟩)).setIfInBounds 52 (.string ⟨#[]⟩) := by
    rw [HS8.out, HS7.out, HS6.out, HS5.out, HS4.out, HS3.out, HS2.out, HS1.out, HS0.out, HK17.out]
  have HALL := Lib.hid hall8
  obtain ⟨X, hX⟩ : ∃ X, X = badX ⟨xa, xb, xk, xs, xt, xu, xz⟩ := ⟨_, rfl⟩
  have hX8 : X.length = 8 := by rw [hX]; exact badX_len _
  have HX := Lib.hid hX
  rw [← hX] at HBX HFX
  clear HS0 HS1 HS2 HS3 HS4 HS5 HS6 HS7 HS8 hall8 hx8 hX h17 HK17
  go_upto_if 66 with fail
  go_cut [] (fun wx => Rows wx (some ⟨gx, 0, none⟩) 7 cmL X ∧ Blk wx w.heap.size 73 #[.int .u8 (xa : Int), .int .u32 (xb : Int), .int .u8 (xk : Int), .string ⟨xs.toArray⟩, .string ⟨xt.toArray⟩, .string ⟨xu.toArray⟩, .int .u8 (xz : Int)] ∧ Below w.heap.size w wx)
  case first =>
    by_cases h5 : xk = 5
    · have hb5 : ((xk : Int) == 5) = true := by rw [h5]; rfl
      have he : (cs8.setIfInBounds 52 (.string ⟨#[107]⟩)).toList = X.flatMap cmL := by
        rw [HALL.out, HX.out]
        unfold badX
        rw [if_pos h5]
        rfl
      have HRR := Lib.hid (blk_rows kx9 he)
      clear HALL HX kx8 kc8 bx8 he h5 kx9
      go_wp2_with fail
      go_meet
      exact ⟨HRR.out, kc9, bx9⟩
    · have hb5 : ((xk : Int) == 5) = false := beq_eq_false_iff_ne.2 (by omega)
      have he : cs8.toList = X.flatMap cmL := by
        rw [HALL.out, HX.out]
        unfold badX
        rw [if_neg h5]
        rfl
      have HRR := Lib.hid (blk_rows kx8 he)
      clear HALL HX kx8 kx9 kc9 bx9 he h5
      go_wp2_with fail
      go_meet
      exact ⟨HRR.out, kc8, bx8⟩
  case rest =>
  obtain ⟨rX, kc, bw⟩ := hcut
  clear HALL HX kx8 kx9 kc9 bx9 x8 y8 kc8 bx8 k2 n8
  have HRX := Lib.hid rX
  have HKC := Lib.hid kc
  have HBW := Lib.hid bw
  clear rX kc bw
  go_wp2_with fail
  go_loopg [7] 8 (fun gk i wr => PartsAt wc gk i wr)
  case atStart => exact ⟨0, by omega, rfl, Below.refl _ _⟩
  case round =>
  obtain ⟨k, hk, rfl, bwr⟩ := hrel
  by_cases h8 : k < 8
  · have h8i : (k : Int) < 8 := by omega
    obtain ⟨x, hx⟩ : ∃ x, X[k]? = some x := ⟨_, List.getElem?_eq_getElem (by omega)⟩
    have hmx := HBX.out x (List.mem_of_getElem? hx)
    have hfx := HFX.out x (List.mem_of_getElem? hx)
    have HK := Lib.hid (fun W => HCKs.out x hfx W)
    rw [hmx] at HK
    obtain ⟨ya, yb, yk, ys, yt, yu, yz⟩ := x
    have a0 : wr.cell? ⟨gx, k * 7, none⟩ = some (.int .u8 (ya : Int)) := gx_cells HRX.out hx bwr 0 _ rfl
    have a1 := gx_cells HRX.out hx bwr 1 (.int .u32 (yb : Int)) rfl
    have a2 := gx_cells HRX.out hx bwr 2 (.int .u8 (yk : Int)) rfl
    have a3 := gx_cells HRX.out hx bwr 3 (.string ⟨ys.toArray⟩) rfl
    have a4 := gx_cells HRX.out hx bwr 4 (.string ⟨yt.toArray⟩) rfl
    have a5 := gx_cells HRX.out hx bwr 5 (.string ⟨yu.toArray⟩) rfl
    have a6 := gx_cells HRX.out hx bwr 6 (.int .u8 (yz : Int)) rfl
    unfold cmV cmC at HK
    dsimp only at HK
    clear hx hmx hfx
    go_wp2_with fail
    refine (HK.out _).mono ?_; rintro e w9 ⟨rfl, B9⟩
    have bwr9 := bwr.trans (B9.mono bwr.size)
    clear HK a0 a1 a2 a3 a4 a5 a6 B9 bwr
    go_wp2_with fail
    go_roundg (8 - (k + 1))
    case measure => omega
    case rel => exact ⟨k + 1, by omega, by go_num, bwr9⟩
  · obtain rfl : k = 8 := by omega
    have kc := HKC.out.below bwr HKC.out.lt
    have bw := HBW.out.trans (bwr.mono HBW.out.size)
    clear bwr HRX HKC HBW HBX HFX HCKs
    have q0 := kc.cell 0
    have q1 := kc.cell 1
    have q2 := kc.cell 2
    have q3 := kc.cell 3
    have q4 := kc.cell 4
    have q5 := kc.cell 5
    have q6 := kc.cell 6
    have hlt0 := kc.lt
    go_upto_region 22 with fail
    have kn := Blk.new wr 73 #[.int .u8 (xa : Int), .int .u32 (xb : Int), .int .u8 (xk : Int), .string ⟨xs.toArray⟩, .string ⟨xt.toArray⟩, .string ⟨xu.toArray⟩, .int .u8 (xz : Int)]
    have kc' := kc.alloc (.cells #[.int .u8 (xa : Int), .int .u32 (xb : Int), .int .u8 (xk : Int), .string ⟨xs.toArray⟩, .string ⟨xt.toArray⟩, .string ⟨xu.toArray⟩, .int .u8 (xz : Int)] 73)
    have bw' := bw.alloc bw.size (.cells #[.int .u8 (xa : Int), .int .u32 (xb : Int), .int .u8 (xk : Int), .string ⟨xs.toArray⟩, .string ⟨xt.toArray⟩, .string ⟨xu.toArray⟩, .int .u8 (xz : Int)] 73)
    have hwb := bw.size
    obtain ⟨g0, hg0⟩ : ∃ g, g = wr.heap.size := ⟨_, rfl⟩
    rw [← hg0] at kn hlt0 hwb ⊢
    generalize wr.alloc (.cells #[.int .u8 (xa : Int), .int .u32 (xb : Int), .int .u8 (xk : Int), .string ⟨xs.toArray⟩, .string ⟨xt.toArray⟩, .string ⟨xu.toArray⟩, .int .u8 (xz : Int)] 73) = wn0 at *
    clear kc bw q0 q1 q2 q3 q4 q5 q6 hg0 
    have x9 := kn.cell 6
    have y9 := kn.frozen 6
    have ky0 := kn.set_ 6 (.int .u8 1)
    simp only [List.setIfInBounds_toArray, List.set_cons_zero, List.set_cons_succ] at ky0
    have kc := kc'.far (p := ⟨g0, 6, none⟩) (Nat.ne_of_lt hlt0) (.int .u8 1)
    have bw := bw'.setCell (p := ⟨g0, 6, none⟩) hwb (.int .u8 1)
    go_upto_region 23 with fail
    generalize wn0.setCell ⟨g0, 6, none⟩ (.int .u8 1) = ws0 at *
    clear kc' bw' kn x9 y9 hlt0 hwb 
    have q0 := kc.cell 0
    have q1 := kc.cell 1
    have q2 := kc.cell 2
    have q3 := kc.cell 3
    have q4 := kc.cell 4
    have q5 := kc.cell 5
    have q6 := kc.cell 6
    have hlt1 := kc.lt
    go_upto_region 24 with fail
    have kn := Blk.new ws0 73 #[.int .u8 (xa : Int), .int .u32 (xb : Int), .int .u8 (xk : Int), .string ⟨xs.toArray⟩, .string ⟨xt.toArray⟩, .string ⟨xu.toArray⟩, .int .u8 (xz : Int)]
    have kc' := kc.alloc (.cells #[.int .u8 (xa : Int), .int .u32 (xb : Int), .int .u8 (xk : Int), .string ⟨xs.toArray⟩, .string ⟨xt.toArray⟩, .string ⟨xu.toArray⟩, .int .u8 (xz : Int)] 73)
    have bw' := bw.alloc bw.size (.cells #[.int .u8 (xa : Int), .int .u32 (xb : Int), .int .u8 (xk : Int), .string ⟨xs.toArray⟩, .string ⟨xt.toArray⟩, .string ⟨xu.toArray⟩, .int .u8 (xz : Int)] 73)
    have ky0' := ky0.alloc (.cells #[.int .u8 (xa : Int), .int .u32 (xb : Int), .int .u8 (xk : Int), .string ⟨xs.toArray⟩, .string ⟨xt.toArray⟩, .string ⟨xu.toArray⟩, .int .u8 (xz : Int)] 73)
    have hltg0 := ky0.lt
    have hwb := bw.size
    obtain ⟨g1, hg1⟩ : ∃ g, g = ws0.heap.size := ⟨_, rfl⟩
    rw [← hg1] at kn hlt1 hwb hltg0 ⊢
    generalize ws0.alloc (.cells #[.int .u8 (xa : Int), .int .u32 (xb : Int), .int .u8 (xk : Int), .string ⟨xs.toArray⟩, .string ⟨xt.toArray⟩, .string ⟨xu.toArray⟩, .int .u8 (xz : Int)] 73) = wn1 at *
    clear kc bw q0 q1 q2 q3 q4 q5 q6 hg1 ky0
    have x9 := kn.cell 4
    have y9 := kn.frozen 4
    have ky1 := kn.set_ 4 (.string ⟨#[111]⟩)
    simp only [List.setIfInBounds_toArray, List.set_cons_zero, List.set_cons_succ] at ky1
    have kc := kc'.far (p := ⟨g1, 4, none⟩) (Nat.ne_of_lt hlt1) (.string ⟨#[111]⟩)
    have bw := bw'.setCell (p := ⟨g1, 4, none⟩) hwb (.string ⟨#[111]⟩)
    have ky0 := ky0'.far (p := ⟨g1, 4, none⟩) (Nat.ne_of_lt hltg0) (.string ⟨#[111]⟩)
    go_upto_region 25 with fail
    generalize wn1.setCell ⟨g1, 4, none⟩ (.string ⟨#[111]⟩) = ws1 at *
    clear kc' bw' kn x9 y9 hlt1 hwb ky0' hltg0
    have q0 := kc.cell 0
    have q1 := kc.cell 1
    have q2 := kc.cell 2
    have q3 := kc.cell 3
    have q4 := kc.cell 4
    have q5 := kc.cell 5
    have q6 := kc.cell 6
    have hlt2 := kc.lt
    go_upto_region 26 with fail
    have kn := Blk.new ws1 73 #[.int .u8 (xa : Int), .int .u32 (xb : Int), .int .u8 (xk : Int), .string ⟨xs.toArray⟩, .string ⟨xt.toArray⟩, .string ⟨xu.toArray⟩, .int .u8 (xz : Int)]
    have kc' := kc.alloc (.cells #[.int .u8 (xa : Int), .int .u32 (xb : Int), .int .u8 (xk : Int), .string ⟨xs.toArray⟩, .string ⟨xt.toArray⟩, .string ⟨xu.toArray⟩, .int .u8 (xz : Int)] 73)
    have bw' := bw.alloc bw.size (.cells #[.int .u8 (xa : Int), .int .u32 (xb : Int), .int .u8 (xk : Int), .string ⟨xs.toArray⟩, .string ⟨xt.toArray⟩, .string ⟨xu.toArray⟩, .int .u8 (xz : Int)] 73)
    have ky0' := ky0.alloc (.cells #[.int .u8 (xa : Int), .int .u32 (xb : Int), .int .u8 (xk : Int), .string ⟨xs.toArray⟩, .string ⟨xt.toArray⟩, .string ⟨xu.toArray⟩, .int .u8 (xz : Int)] 73)
    have ky1' := ky1.alloc (.cells #[.int .u8 (xa : Int), .int .u32 (xb : Int), .int .u8 (xk : Int), .string ⟨xs.toArray⟩, .string ⟨xt.toArray⟩, .string ⟨xu.toArray⟩, .int .u8 (xz : Int)] 73)
    have hltg0 := ky0.lt
    have hltg1 := ky1.lt
    have hwb := bw.size
    obtain ⟨g2, hg2⟩ : ∃ g, g = ws1.heap.size := ⟨_, rfl⟩
    rw [← hg2] at kn hlt2 hwb hltg0 hltg1 ⊢
    generalize ws1.alloc (.cells #[.int .u8 (xa : Int), .int .u32 (xb : Int), .int .u8 (xk : Int), .string ⟨xs.toArray⟩, .string ⟨xt.toArray⟩, .string ⟨xu.toArray⟩, .int .u8 (xz : Int)] 73) = wn2 at *
    clear kc bw q0 q1 q2 q3 q4 q5 q6 hg2 ky0 ky1
    have x9 := kn.cell 5
    have y9 := kn.frozen 5
    have ky2 := kn.set_ 5 (.string ⟨#[110]⟩)
    simp only [List.setIfInBounds_toArray, List.set_cons_zero, List.set_cons_succ] at ky2
    have kc := kc'.far (p := ⟨g2, 5, none⟩) (Nat.ne_of_lt hlt2) (.string ⟨#[110]⟩)
    have bw := bw'.setCell (p := ⟨g2, 5, none⟩) hwb (.string ⟨#[110]⟩)
    have ky0 := ky0'.far (p := ⟨g2, 5, none⟩) (Nat.ne_of_lt hltg0) (.string ⟨#[110]⟩)
    have ky1 := ky1'.far (p := ⟨g2, 5, none⟩) (Nat.ne_of_lt hltg1) (.string ⟨#[110]⟩)
    go_upto_region 27 with fail
    generalize wn2.setCell ⟨g2, 5, none⟩ (.string ⟨#[110]⟩) = ws2 at *
    clear kc' bw' kn x9 y9 hlt2 hwb ky0' hltg0 ky1' hltg1
    obtain ⟨b5, hb5⟩ : ∃ b, b = decide (xk = 5) := ⟨_, rfl⟩
    have h5 : ((xk : Int) == 5) = b5 := by
      rw [hb5]
      by_cases h : xk = 5
      · rw [decide_eq_true h, h]; rfl
      · rw [decide_eq_false h]; exact beq_eq_false_iff_ne.2 (by omega)
    rw [← hb5] at HC5
    obtain ⟨e5, he5⟩ : ∃ e : Int, e = if b5 = true then 0 else 2 := ⟨_, rfl⟩
    have q5 : (e5 == 0) = b5 := by rw [he5]; cases b5 <;> rfl
    rw [← he5] at HC5
    clear hb5 he5
    have kcd := kc.drew
    have kyd0 := ky0.drew
    have kyd1 := ky1.drew
    have kyd2 := ky2.drew
    have HBW2 := Lib.hid bw.drew
    clear kc ky0 ky1 ky2 bw
    by_cases h4 : xk = 4
    · have h4i : ((xk : Int) == 4) = true := by rw [h4]; rfl
      have d4 : decide (xk = 4) = true := decide_eq_true h4
      have d42 : decide (xk = 4 ∨ xk = 2) = true := decide_eq_true (.inl h4)
      rw [d4] at HC4
      rw [d42] at HC42
      rw [if_pos rfl] at HC4 HC42
      clear d4 d42 h4
      refine region_inv2 (by kernel_rfl) [] [(88, .agg #[.int .u8 (xa : Int), .int .u32 (xb : Int), .int .u8 (xk : Int), .string ⟨xs.toArray⟩, .string ⟨xt.toArray⟩, .string ⟨xu.toArray⟩, .int .u8 1]), (89, .int .i64 e5), (90, .bool b5), (91, .pointer (some ⟨w.heap.size, 2, none⟩)), (92, .int .u8 (xk : Int)), (93, .bool b5), (94, .bool true), (95, .bool true), (96, .agg #[.int .u8 (xa : Int), .int .u32 (xb : Int), .int .u8 (xk : Int), .string ⟨xs.toArray⟩, .string ⟨#[111]⟩, .string ⟨xu.toArray⟩, .int .u8 (xz : Int)]), (97, .int .i64 0), (98, .bool true), (99, .pointer (some ⟨w.heap.size, 2, none⟩)), (100, .int .u8 (xk : Int)), (101, .bool true), (102, .bool true), (103, .bool true), (104, .bool true), (105, .agg #[.int .u8 (xa : Int), .int .u32 (xb : Int), .int .u8 (xk : Int), .string ⟨xs.toArray⟩, .string ⟨xt.toArray⟩, .string ⟨#[110]⟩, .int .u8 (xz : Int)]), (106, .int .i64 0), (107, .bool true), (108, .pointer (some ⟨w.heap.size, 2, none⟩)), (109, .int .u8 (xk : Int)), (110, .bool true), (111, .bool true), (112, undef), (113, undef), (114, undef), (115, .bool true), (116, .bool true), (117, .bool true), (118, .bool true), (119, .bool true), (120, .bool true), (2, .bool true)] (by kernel_rfl) (by kernel_rfl) rfl (by kernel_rfl) ?_ ?_ ?_
      · intro q hq; cases hq
      · refine And.intro ?_ ?_
        · intro d hd ρ W hcs bw hn hg
          cases hd
          refine .inl ⟨trivial, ?_⟩
          have e8 : ρ (.tmp 8) = .pointer (some ⟨g0, 0, none⟩) := hn 8 (by decide)
          clear hn hg
          have z0 : W.cell? ⟨g0, 0, none⟩ = some (.int .u8 (xa : Int)) := (kyd0.below bw kyd0.lt).cell 0
          have z1 : W.cell? ⟨g0, 1, none⟩ = some (.int .u32 (xb : Int)) := (kyd0.below bw kyd0.lt).cell 1
          have z2 : W.cell? ⟨g0, 2, none⟩ = some (.int .u8 (xk : Int)) := (kyd0.below bw kyd0.lt).cell 2
          have z3 : W.cell? ⟨g0, 3, none⟩ = some (.string ⟨xs.toArray⟩) := (kyd0.below bw kyd0.lt).cell 3
          have z4 : W.cell? ⟨g0, 4, none⟩ = some (.string ⟨xt.toArray⟩) := (kyd0.below bw kyd0.lt).cell 4
          have z5 : W.cell? ⟨g0, 5, none⟩ = some (.string ⟨xu.toArray⟩) := (kyd0.below bw kyd0.lt).cell 5
          have z6 : W.cell? ⟨g0, 6, none⟩ = some (.int .u8 1) := (kyd0.below bw kyd0.lt).cell 6
          refine .inl ⟨.agg #[.int .u8 (xa : Int), .int .u32 (xb : Int), .int .u8 (xk : Int), .string ⟨xs.toArray⟩, .string ⟨xt.toArray⟩, .string ⟨xu.toArray⟩, .int .u8 1], W, ?_, rfl, Below.refl _ _⟩
          go_simp
        refine And.intro ?_ ?_
        · intro d hd ρ W hcs bw hn hg
          cases hd
          refine .inl ⟨trivial, ?_⟩
          have e88 : ρ (.tmp 88) = .agg #[.int .u8 (xa : Int), .int .u32 (xb : Int), .int .u8 (xk : Int), .string ⟨xs.toArray⟩, .string ⟨xt.toArray⟩, .string ⟨xu.toArray⟩, .int .u8 1] := hn 88 (by decide)
          clear hn hg
          have ef : ρ (.func 43) = .func (.func 43) #[] #[] := hcs.2 _
          refine .inr ⟨43, #[.agg #[.int .u8 (xa : Int), .int .u32 (xb : Int), .int .u8 (xk : Int), .string ⟨xs.toArray⟩, .string ⟨xt.toArray⟩, .string ⟨xu.toArray⟩, .int .u8 1]], ?_, (HC5.out W).mono ?_⟩
          · go_simp
          · rintro e w2 ⟨rfl, B2⟩; exact ⟨_, rfl, rfl, B2⟩
        refine And.intro ?_ ?_
        · intro d hd ρ W hcs bw hn hg
          cases hd
          refine .inl ⟨trivial, ?_⟩
          have e89 : ρ (.tmp 89) = .int .i64 e5 := hn 89 (by decide)
          clear hn hg
          refine .inl ⟨.bool b5, W, ?_, rfl, Below.refl _ _⟩
          have hc1 := hcs.1
          go_simp
        refine And.intro ?_ ?_
        · intro d hd ρ W hcs bw hn hg
          cases hd
          refine .inl ⟨trivial, ?_⟩
          have e1 : ρ (.tmp 1) = .pointer (some ⟨w.heap.size, 0, none⟩) := hn 1 (by decide)
          clear hn hg
          refine .inl ⟨.pointer (some ⟨w.heap.size, 2, none⟩), W, ?_, rfl, Below.refl _ _⟩
          go_simp
        refine And.intro ?_ ?_
        · intro d hd ρ W hcs bw hn hg
          cases hd
          refine .inl ⟨trivial, ?_⟩
          have e91 : ρ (.tmp 91) = .pointer (some ⟨w.heap.size, 2, none⟩) := hn 91 (by decide)
          clear hn hg
          have z2 : W.cell? ⟨w.heap.size, 2, none⟩ = some (.int .u8 (xk : Int)) := (kcd.below bw kcd.lt).cell 2
          refine .inl ⟨.int .u8 (xk : Int), W, ?_, rfl, Below.refl _ _⟩
          go_simp
        refine And.intro ?_ ?_
        · intro d hd ρ W hcs bw hn hg
          cases hd
          refine .inl ⟨trivial, ?_⟩
          have e92 : ρ (.tmp 92) = .int .u8 (xk : Int) := hn 92 (by decide)
          clear hn hg
          refine .inl ⟨.bool b5, W, ?_, rfl, Below.refl _ _⟩
          have hc1 := hcs.1
          go_simp
        refine And.intro ?_ ?_
        · intro d hd ρ W hcs bw hn hg
          cases hd
          refine .inl ⟨trivial, ?_⟩
          have e90 : ρ (.tmp 90) = .bool b5 := hn 90 (by decide)
          have e93 : ρ (.tmp 93) = .bool b5 := hn 93 (by decide)
          clear hn hg
          refine .inl ⟨.bool true, W, ?_, rfl, Below.refl _ _⟩
          go_simp
        refine And.intro ?_ ?_
        · intro d hd ρ W hcs bw hn hg
          cases hd
          refine .inl ⟨trivial, ?_⟩
          have e94 : ρ (.tmp 94) = .bool true := hn 94 (by decide)
          clear hn hg
          refine .inl ⟨_, W, rfl, e94, Below.refl _ _⟩
        refine And.intro ?_ ?_
        · intro d hd ρ W hcs bw hn hg
          cases hd
          have eg : ρ (.tmp 95) = .bool true := hg _ _ _ _ rfl rfl rfl
          refine .inl ⟨⟨_, _, rfl, rfl, eg⟩, ?_⟩
          have e9 : ρ (.tmp 9) = .pointer (some ⟨g1, 0, none⟩) := hn 9 (by decide)
          clear hn hg
          have z0 : W.cell? ⟨g1, 0, none⟩ = some (.int .u8 (xa : Int)) := (kyd1.below bw kyd1.lt).cell 0
          have z1 : W.cell? ⟨g1, 1, none⟩ = some (.int .u32 (xb : Int)) := (kyd1.below bw kyd1.lt).cell 1
          have z2 : W.cell? ⟨g1, 2, none⟩ = some (.int .u8 (xk : Int)) := (kyd1.below bw kyd1.lt).cell 2
          have z3 : W.cell? ⟨g1, 3, none⟩ = some (.string ⟨xs.toArray⟩) := (kyd1.below bw kyd1.lt).cell 3
          have z4 : W.cell? ⟨g1, 4, none⟩ = some (.string ⟨#[111]⟩) := (kyd1.below bw kyd1.lt).cell 4
          have z5 : W.cell? ⟨g1, 5, none⟩ = some (.string ⟨xu.toArray⟩) := (kyd1.below bw kyd1.lt).cell 5
          have z6 : W.cell? ⟨g1, 6, none⟩ = some (.int .u8 (xz : Int)) := (kyd1.below bw kyd1.lt).cell 6
          refine .inl ⟨.agg #[.int .u8 (xa : Int), .int .u32 (xb : Int), .int .u8 (xk : Int), .string ⟨xs.toArray⟩, .string ⟨#[111]⟩, .string ⟨xu.toArray⟩, .int .u8 (xz : Int)], W, ?_, rfl, Below.refl _ _⟩
          go_simp
        refine And.intro ?_ ?_
        · intro d hd ρ W hcs bw hn hg
          cases hd
          have eg : ρ (.tmp 95) = .bool true := hg _ _ _ _ rfl rfl rfl
          refine .inl ⟨⟨_, _, rfl, rfl, eg⟩, ?_⟩
          have e96 : ρ (.tmp 96) = .agg #[.int .u8 (xa : Int), .int .u32 (xb : Int), .int .u8 (xk : Int), .string ⟨xs.toArray⟩, .string ⟨#[111]⟩, .string ⟨xu.toArray⟩, .int .u8 (xz : Int)] := hn 96 (by decide)
          clear hn hg
          have ef : ρ (.func 43) = .func (.func 43) #[] #[] := hcs.2 _
          refine .inr ⟨43, #[.agg #[.int .u8 (xa : Int), .int .u32 (xb : Int), .int .u8 (xk : Int), .string ⟨xs.toArray⟩, .string ⟨#[111]⟩, .string ⟨xu.toArray⟩, .int .u8 (xz : Int)]], ?_, (HC4.out W).mono ?_⟩
          · go_simp
          · rintro e w2 ⟨rfl, B2⟩; exact ⟨_, rfl, rfl, B2⟩
        refine And.intro ?_ ?_
        · intro d hd ρ W hcs bw hn hg
          cases hd
          have eg : ρ (.tmp 95) = .bool true := hg _ _ _ _ rfl rfl rfl
          refine .inl ⟨⟨_, _, rfl, rfl, eg⟩, ?_⟩
          have e97 : ρ (.tmp 97) = .int .i64 0 := hn 97 (by decide)
          clear hn hg
          refine .inl ⟨.bool true, W, ?_, rfl, Below.refl _ _⟩
          have hc1 := hcs.1
          go_simp
        refine And.intro ?_ ?_
        · intro d hd ρ W hcs bw hn hg
          cases hd
          have eg : ρ (.tmp 95) = .bool true := hg _ _ _ _ rfl rfl rfl
          refine .inl ⟨⟨_, _, rfl, rfl, eg⟩, ?_⟩
          have e1 : ρ (.tmp 1) = .pointer (some ⟨w.heap.size, 0, none⟩) := hn 1 (by decide)
          clear hn hg
          refine .inl ⟨.pointer (some ⟨w.heap.size, 2, none⟩), W, ?_, rfl, Below.refl _ _⟩
          go_simp
        refine And.intro ?_ ?_
        · intro d hd ρ W hcs bw hn hg
          cases hd
          have eg : ρ (.tmp 95) = .bool true := hg _ _ _ _ rfl rfl rfl
          refine .inl ⟨⟨_, _, rfl, rfl, eg⟩, ?_⟩
          have e99 : ρ (.tmp 99) = .pointer (some ⟨w.heap.size, 2, none⟩) := hn 99 (by decide)
          clear hn hg
          have z2 : W.cell? ⟨w.heap.size, 2, none⟩ = some (.int .u8 (xk : Int)) := (kcd.below bw kcd.lt).cell 2
          refine .inl ⟨.int .u8 (xk : Int), W, ?_, rfl, Below.refl _ _⟩
          go_simp
        refine And.intro ?_ ?_
        · intro d hd ρ W hcs bw hn hg
          cases hd
          have eg : ρ (.tmp 95) = .bool true := hg _ _ _ _ rfl rfl rfl
          refine .inl ⟨⟨_, _, rfl, rfl, eg⟩, ?_⟩
          have e100 : ρ (.tmp 100) = .int .u8 (xk : Int) := hn 100 (by decide)
          clear hn hg
          refine .inl ⟨.bool true, W, ?_, rfl, Below.refl _ _⟩
          have hc1 := hcs.1
          go_simp
        refine And.intro ?_ ?_
        · intro d hd ρ W hcs bw hn hg
          cases hd
          have eg : ρ (.tmp 95) = .bool true := hg _ _ _ _ rfl rfl rfl
          refine .inl ⟨⟨_, _, rfl, rfl, eg⟩, ?_⟩
          have e98 : ρ (.tmp 98) = .bool true := hn 98 (by decide)
          have e101 : ρ (.tmp 101) = .bool true := hn 101 (by decide)
          clear hn hg
          refine .inl ⟨.bool true, W, ?_, rfl, Below.refl _ _⟩
          go_simp
        refine And.intro ?_ ?_
        · intro d hd ρ W hcs bw hn hg
          cases hd
          refine .inl ⟨trivial, ?_⟩
          have e95 : ρ (.tmp 95) = .bool true := hn 95 (by decide)
          have e102 : ρ (.tmp 102) = .bool true := hn 102 (by decide)
          clear hn hg
          refine .inl ⟨.bool true, W, ?_, rfl, Below.refl _ _⟩
          have hc1 := hcs.1
          go_simp
        refine And.intro ?_ ?_
        · intro d hd ρ W hcs bw hn hg
          cases hd
          refine .inl ⟨trivial, ?_⟩
          have e103 : ρ (.tmp 103) = .bool true := hn 103 (by decide)
          clear hn hg
          refine .inl ⟨_, W, rfl, e103, Below.refl _ _⟩
        refine And.intro ?_ ?_
        · intro d hd ρ W hcs bw hn hg
          cases hd
          have eg : ρ (.tmp 104) = .bool true := hg _ _ _ _ rfl rfl rfl
          refine .inl ⟨⟨_, _, rfl, rfl, eg⟩, ?_⟩
          have e10 : ρ (.tmp 10) = .pointer (some ⟨g2, 0, none⟩) := hn 10 (by decide)
          clear hn hg
          have z0 : W.cell? ⟨g2, 0, none⟩ = some (.int .u8 (xa : Int)) := (kyd2.below bw kyd2.lt).cell 0
          have z1 : W.cell? ⟨g2, 1, none⟩ = some (.int .u32 (xb : Int)) := (kyd2.below bw kyd2.lt).cell 1
          have z2 : W.cell? ⟨g2, 2, none⟩ = some (.int .u8 (xk : Int)) := (kyd2.below bw kyd2.lt).cell 2
          have z3 : W.cell? ⟨g2, 3, none⟩ = some (.string ⟨xs.toArray⟩) := (kyd2.below bw kyd2.lt).cell 3
          have z4 : W.cell? ⟨g2, 4, none⟩ = some (.string ⟨xt.toArray⟩) := (kyd2.below bw kyd2.lt).cell 4
          have z5 : W.cell? ⟨g2, 5, none⟩ = some (.string ⟨#[110]⟩) := (kyd2.below bw kyd2.lt).cell 5
          have z6 : W.cell? ⟨g2, 6, none⟩ = some (.int .u8 (xz : Int)) := (kyd2.below bw kyd2.lt).cell 6
          refine .inl ⟨.agg #[.int .u8 (xa : Int), .int .u32 (xb : Int), .int .u8 (xk : Int), .string ⟨xs.toArray⟩, .string ⟨xt.toArray⟩, .string ⟨#[110]⟩, .int .u8 (xz : Int)], W, ?_, rfl, Below.refl _ _⟩
          go_simp
        refine And.intro ?_ ?_
        · intro d hd ρ W hcs bw hn hg
          cases hd
          have eg : ρ (.tmp 104) = .bool true := hg _ _ _ _ rfl rfl rfl
          refine .inl ⟨⟨_, _, rfl, rfl, eg⟩, ?_⟩
          have e105 : ρ (.tmp 105) = .agg #[.int .u8 (xa : Int), .int .u32 (xb : Int), .int .u8 (xk : Int), .string ⟨xs.toArray⟩, .string ⟨xt.toArray⟩, .string ⟨#[110]⟩, .int .u8 (xz : Int)] := hn 105 (by decide)
          clear hn hg
          have ef : ρ (.func 43) = .func (.func 43) #[] #[] := hcs.2 _
          refine .inr ⟨43, #[.agg #[.int .u8 (xa : Int), .int .u32 (xb : Int), .int .u8 (xk : Int), .string ⟨xs.toArray⟩, .string ⟨xt.toArray⟩, .string ⟨#[110]⟩, .int .u8 (xz : Int)]], ?_, (HC42.out W).mono ?_⟩
          · go_simp
          · rintro e w2 ⟨rfl, B2⟩; exact ⟨_, rfl, rfl, B2⟩
        refine And.intro ?_ ?_
        · intro d hd ρ W hcs bw hn hg
          cases hd
          have eg : ρ (.tmp 104) = .bool true := hg _ _ _ _ rfl rfl rfl
          refine .inl ⟨⟨_, _, rfl, rfl, eg⟩, ?_⟩
          have e106 : ρ (.tmp 106) = .int .i64 0 := hn 106 (by decide)
          clear hn hg
          refine .inl ⟨.bool true, W, ?_, rfl, Below.refl _ _⟩
          have hc1 := hcs.1
          go_simp
        refine And.intro ?_ ?_
        · intro d hd ρ W hcs bw hn hg
          cases hd
          have eg : ρ (.tmp 104) = .bool true := hg _ _ _ _ rfl rfl rfl
          refine .inl ⟨⟨_, _, rfl, rfl, eg⟩, ?_⟩
          have e1 : ρ (.tmp 1) = .pointer (some ⟨w.heap.size, 0, none⟩) := hn 1 (by decide)
          clear hn hg
          refine .inl ⟨.pointer (some ⟨w.heap.size, 2, none⟩), W, ?_, rfl, Below.refl _ _⟩
          go_simp
        refine And.intro ?_ ?_
        · intro d hd ρ W hcs bw hn hg
          cases hd
          have eg : ρ (.tmp 104) = .bool true := hg _ _ _ _ rfl rfl rfl
          refine .inl ⟨⟨_, _, rfl, rfl, eg⟩, ?_⟩
          have e108 : ρ (.tmp 108) = .pointer (some ⟨w.heap.size, 2, none⟩) := hn 108 (by decide)
          clear hn hg
          have z2 : W.cell? ⟨w.heap.size, 2, none⟩ = some (.int .u8 (xk : Int)) := (kcd.below bw kcd.lt).cell 2
          refine .inl ⟨.int .u8 (xk : Int), W, ?_, rfl, Below.refl _ _⟩
          go_simp
        refine And.intro ?_ ?_
        · intro d hd ρ W hcs bw hn hg
          cases hd
          have eg : ρ (.tmp 104) = .bool true := hg _ _ _ _ rfl rfl rfl
          refine .inl ⟨⟨_, _, rfl, rfl, eg⟩, ?_⟩
          have e109 : ρ (.tmp 109) = .int .u8 (xk : Int) := hn 109 (by decide)
          clear hn hg
          refine .inl ⟨.bool true, W, ?_, rfl, Below.refl _ _⟩
          have hc1 := hcs.1
          go_simp
        refine And.intro ?_ ?_
        · intro d hd ρ W hcs bw hn hg
          cases hd
          have eg : ρ (.tmp 104) = .bool true := hg _ _ _ _ rfl rfl rfl
          refine .inl ⟨⟨_, _, rfl, rfl, eg⟩, ?_⟩
          have e110 : ρ (.tmp 110) = .bool true := hn 110 (by decide)
          clear hn hg
          refine .inl ⟨_, W, rfl, e110, Below.refl _ _⟩
        refine And.intro ?_ ?_
        · intro d hd ρ W hcs bw hn hg
          cases hd
          have eg : ρ (.tmp 111) = .bool true := hg _ _ _ _ rfl rfl rfl
          exact .inr ⟨⟨_, _, _, rfl, rfl, eg, by decide⟩, rfl⟩
        refine And.intro ?_ ?_
        · intro d hd ρ W hcs bw hn hg
          cases hd
          have eg : ρ (.tmp 111) = .bool true := hg _ _ _ _ rfl rfl rfl
          exact .inr ⟨⟨_, _, _, rfl, rfl, eg, by decide⟩, rfl⟩
        refine And.intro ?_ ?_
        · intro d hd ρ W hcs bw hn hg
          cases hd
          have eg : ρ (.tmp 111) = .bool true := hg _ _ _ _ rfl rfl rfl
          exact .inr ⟨⟨_, _, _, rfl, rfl, eg, by decide⟩, rfl⟩
        refine And.intro ?_ ?_
        · intro d hd ρ W hcs bw hn hg
          cases hd
          have eg : ρ (.tmp 104) = .bool true := hg _ _ _ _ rfl rfl rfl
          refine .inl ⟨⟨_, _, rfl, rfl, eg⟩, ?_⟩
          have e111 : ρ (.tmp 111) = .bool true := hn 111 (by decide)
          have e114 : ρ (.tmp 114) = undef := hn 114 (by decide)
          clear hn hg
          refine .inl ⟨.bool true, W, ?_, rfl, Below.refl _ _⟩
          have hc1 := hcs.1
          go_simp
        refine And.intro ?_ ?_
        · intro d hd ρ W hcs bw hn hg
          cases hd
          have eg : ρ (.tmp 104) = .bool true := hg _ _ _ _ rfl rfl rfl
          refine .inl ⟨⟨_, _, rfl, rfl, eg⟩, ?_⟩
          have e107 : ρ (.tmp 107) = .bool true := hn 107 (by decide)
          have e115 : ρ (.tmp 115) = .bool true := hn 115 (by decide)
          clear hn hg
          refine .inl ⟨.bool true, W, ?_, rfl, Below.refl _ _⟩
          go_simp
        refine And.intro ?_ ?_
        · intro d hd ρ W hcs bw hn hg
          cases hd
          refine .inl ⟨trivial, ?_⟩
          have e104 : ρ (.tmp 104) = .bool true := hn 104 (by decide)
          have e116 : ρ (.tmp 116) = .bool true := hn 116 (by decide)
          clear hn hg
          refine .inl ⟨.bool true, W, ?_, rfl, Below.refl _ _⟩
          have hc1 := hcs.1
          go_simp
        refine And.intro ?_ ?_
        · intro d hd ρ W hcs bw hn hg
          cases hd
          refine .inl ⟨trivial, ?_⟩
          have e117 : ρ (.tmp 117) = .bool true := hn 117 (by decide)
          clear hn hg
          refine .inl ⟨_, W, rfl, e117, Below.refl _ _⟩
        refine And.intro ?_ ?_
        · intro d hd ρ W hcs bw hn hg
          cases hd
          have eg : ρ (.tmp 118) = .bool true := hg _ _ _ _ rfl rfl rfl
          refine .inl ⟨⟨_, _, rfl, rfl, eg⟩, ?_⟩
          clear hn hg
          have ef : ρ (.func 40) = .func (.func 40) #[] #[] := hcs.2 _
          refine .inr ⟨40, #[], ?_, (wakes_any W).mono ?_⟩
          · go_simp
          · rintro e w2 ⟨rfl, B2⟩; exact ⟨_, rfl, rfl, B2⟩
        refine And.intro ?_ ?_
        · intro d hd ρ W hcs bw hn hg
          cases hd
          refine .inl ⟨trivial, ?_⟩
          have e118 : ρ (.tmp 118) = .bool true := hn 118 (by decide)
          have e119 : ρ (.tmp 119) = .bool true := hn 119 (by decide)
          clear hn hg
          refine .inl ⟨.bool true, W, ?_, rfl, Below.refl _ _⟩
          have hc1 := hcs.1
          go_simp
        refine And.intro ?_ ?_
        · intro d hd ρ W hcs bw hn hg
          cases hd
          refine .inl ⟨trivial, ?_⟩
          have e120 : ρ (.tmp 120) = .bool true := hn 120 (by decide)
          clear hn hg
          refine .inl ⟨_, W, rfl, e120, Below.refl _ _⟩
        trivial
      · intro a' w' hsz hdf hb hVs
        have hr : a'.eval (.tmp 2) = .bool true := hVs 2
        have bwz := HBW2.out.trans (hb.mono HBW2.out.size)
        clear hVs
        go_wp2
        exact ret_slot Try.results13 hr hdf ⟨rfl, bwz⟩
    · have h4i : ((xk : Int) == 4) = false := beq_eq_false_iff_ne.2 (by omega)
      have d4 : decide (xk = 4) = false := decide_eq_false h4
      obtain ⟨b2, hb2⟩ : ∃ b, b = decide (xk = 2) := ⟨_, rfl⟩
      have h2 : ((xk : Int) == 2) = b2 := by
        rw [hb2]
        by_cases h : xk = 2
        · rw [decide_eq_true h, h]; rfl
        · rw [decide_eq_false h]; exact beq_eq_false_iff_ne.2 (by omega)
      have d42 : decide (xk = 4 ∨ xk = 2) = b2 := by
        rw [hb2]
        by_cases h : xk = 2
        · rw [decide_eq_true h]; exact decide_eq_true (.inr h)
        · rw [decide_eq_false h]; exact decide_eq_false (by omega)
      rw [d4] at HC4
      rw [d42] at HC42
      rw [if_neg (by decide)] at HC4
      obtain ⟨e2, he2⟩ : ∃ e : Int, e = if b2 = true then 0 else 2 := ⟨_, rfl⟩
      have q2 : (e2 == 0) = b2 := by rw [he2]; cases b2 <;> rfl
      rw [← he2] at HC42
      clear d4 d42 h4 hb2 he2
      refine region_inv2 (by kernel_rfl) [] [(88, .agg #[.int .u8 (xa : Int), .int .u32 (xb : Int), .int .u8 (xk : Int), .string ⟨xs.toArray⟩, .string ⟨xt.toArray⟩, .string ⟨xu.toArray⟩, .int .u8 1]), (89, .int .i64 e5), (90, .bool b5), (91, .pointer (some ⟨w.heap.size, 2, none⟩)), (92, .int .u8 (xk : Int)), (93, .bool b5), (94, .bool true), (95, .bool true), (96, .agg #[.int .u8 (xa : Int), .int .u32 (xb : Int), .int .u8 (xk : Int), .string ⟨xs.toArray⟩, .string ⟨#[111]⟩, .string ⟨xu.toArray⟩, .int .u8 (xz : Int)]), (97, .int .i64 2), (98, .bool false), (99, .pointer (some ⟨w.heap.size, 2, none⟩)), (100, .int .u8 (xk : Int)), (101, .bool false), (102, .bool true), (103, .bool true), (104, .bool true), (105, .agg #[.int .u8 (xa : Int), .int .u32 (xb : Int), .int .u8 (xk : Int), .string ⟨xs.toArray⟩, .string ⟨xt.toArray⟩, .string ⟨#[110]⟩, .int .u8 (xz : Int)]), (106, .int .i64 e2), (107, .bool b2), (108, .pointer (some ⟨w.heap.size, 2, none⟩)), (109, .int .u8 (xk : Int)), (110, .bool false), (111, .bool false), (112, .pointer (some ⟨w.heap.size, 2, none⟩)), (113, .int .u8 (xk : Int)), (114, .bool b2), (115, .bool b2), (116, .bool true), (117, .bool true), (118, .bool true), (119, .bool true), (120, .bool true), (2, .bool true)] (by kernel_rfl) (by kernel_rfl) rfl (by kernel_rfl) ?_ ?_ ?_
      · intro q hq; cases hq
      · refine And.intro ?_ ?_
        · intro d hd ρ W hcs bw hn hg
          cases hd
          refine .inl ⟨trivial, ?_⟩
          have e8 : ρ (.tmp 8) = .pointer (some ⟨g0, 0, none⟩) := hn 8 (by decide)
          clear hn hg
          have z0 : W.cell? ⟨g0, 0, none⟩ = some (.int .u8 (xa : Int)) := (kyd0.below bw kyd0.lt).cell 0
          have z1 : W.cell? ⟨g0, 1, none⟩ = some (.int .u32 (xb : Int)) := (kyd0.below bw kyd0.lt).cell 1
          have z2 : W.cell? ⟨g0, 2, none⟩ = some (.int .u8 (xk : Int)) := (kyd0.below bw kyd0.lt).cell 2
          have z3 : W.cell? ⟨g0, 3, none⟩ = some (.string ⟨xs.toArray⟩) := (kyd0.below bw kyd0.lt).cell 3
          have z4 : W.cell? ⟨g0, 4, none⟩ = some (.string ⟨xt.toArray⟩) := (kyd0.below bw kyd0.lt).cell 4
          have z5 : W.cell? ⟨g0, 5, none⟩ = some (.string ⟨xu.toArray⟩) := (kyd0.below bw kyd0.lt).cell 5
          have z6 : W.cell? ⟨g0, 6, none⟩ = some (.int .u8 1) := (kyd0.below bw kyd0.lt).cell 6
          refine .inl ⟨.agg #[.int .u8 (xa : Int), .int .u32 (xb : Int), .int .u8 (xk : Int), .string ⟨xs.toArray⟩, .string ⟨xt.toArray⟩, .string ⟨xu.toArray⟩, .int .u8 1], W, ?_, rfl, Below.refl _ _⟩
          go_simp
        refine And.intro ?_ ?_
        · intro d hd ρ W hcs bw hn hg
          cases hd
          refine .inl ⟨trivial, ?_⟩
          have e88 : ρ (.tmp 88) = .agg #[.int .u8 (xa : Int), .int .u32 (xb : Int), .int .u8 (xk : Int), .string ⟨xs.toArray⟩, .string ⟨xt.toArray⟩, .string ⟨xu.toArray⟩, .int .u8 1] := hn 88 (by decide)
          clear hn hg
          have ef : ρ (.func 43) = .func (.func 43) #[] #[] := hcs.2 _
          refine .inr ⟨43, #[.agg #[.int .u8 (xa : Int), .int .u32 (xb : Int), .int .u8 (xk : Int), .string ⟨xs.toArray⟩, .string ⟨xt.toArray⟩, .string ⟨xu.toArray⟩, .int .u8 1]], ?_, (HC5.out W).mono ?_⟩
          · go_simp
          · rintro e w2 ⟨rfl, B2⟩; exact ⟨_, rfl, rfl, B2⟩
        refine And.intro ?_ ?_
        · intro d hd ρ W hcs bw hn hg
          cases hd
          refine .inl ⟨trivial, ?_⟩
          have e89 : ρ (.tmp 89) = .int .i64 e5 := hn 89 (by decide)
          clear hn hg
          refine .inl ⟨.bool b5, W, ?_, rfl, Below.refl _ _⟩
          have hc1 := hcs.1
          go_simp
        refine And.intro ?_ ?_
        · intro d hd ρ W hcs bw hn hg
          cases hd
          refine .inl ⟨trivial, ?_⟩
          have e1 : ρ (.tmp 1) = .pointer (some ⟨w.heap.size, 0, none⟩) := hn 1 (by decide)
          clear hn hg
          refine .inl ⟨.pointer (some ⟨w.heap.size, 2, none⟩), W, ?_, rfl, Below.refl _ _⟩
          go_simp
        refine And.intro ?_ ?_
        · intro d hd ρ W hcs bw hn hg
          cases hd
          refine .inl ⟨trivial, ?_⟩
          have e91 : ρ (.tmp 91) = .pointer (some ⟨w.heap.size, 2, none⟩) := hn 91 (by decide)
          clear hn hg
          have z2 : W.cell? ⟨w.heap.size, 2, none⟩ = some (.int .u8 (xk : Int)) := (kcd.below bw kcd.lt).cell 2
          refine .inl ⟨.int .u8 (xk : Int), W, ?_, rfl, Below.refl _ _⟩
          go_simp
        refine And.intro ?_ ?_
        · intro d hd ρ W hcs bw hn hg
          cases hd
          refine .inl ⟨trivial, ?_⟩
          have e92 : ρ (.tmp 92) = .int .u8 (xk : Int) := hn 92 (by decide)
          clear hn hg
          refine .inl ⟨.bool b5, W, ?_, rfl, Below.refl _ _⟩
          have hc1 := hcs.1
          go_simp
        refine And.intro ?_ ?_
        · intro d hd ρ W hcs bw hn hg
          cases hd
          refine .inl ⟨trivial, ?_⟩
          have e90 : ρ (.tmp 90) = .bool b5 := hn 90 (by decide)
          have e93 : ρ (.tmp 93) = .bool b5 := hn 93 (by decide)
          clear hn hg
          refine .inl ⟨.bool true, W, ?_, rfl, Below.refl _ _⟩
          go_simp
        refine And.intro ?_ ?_
        · intro d hd ρ W hcs bw hn hg
          cases hd
          refine .inl ⟨trivial, ?_⟩
          have e94 : ρ (.tmp 94) = .bool true := hn 94 (by decide)
          clear hn hg
          refine .inl ⟨_, W, rfl, e94, Below.refl _ _⟩
        refine And.intro ?_ ?_
        · intro d hd ρ W hcs bw hn hg
          cases hd
          have eg : ρ (.tmp 95) = .bool true := hg _ _ _ _ rfl rfl rfl
          refine .inl ⟨⟨_, _, rfl, rfl, eg⟩, ?_⟩
          have e9 : ρ (.tmp 9) = .pointer (some ⟨g1, 0, none⟩) := hn 9 (by decide)
          clear hn hg
          have z0 : W.cell? ⟨g1, 0, none⟩ = some (.int .u8 (xa : Int)) := (kyd1.below bw kyd1.lt).cell 0
          have z1 : W.cell? ⟨g1, 1, none⟩ = some (.int .u32 (xb : Int)) := (kyd1.below bw kyd1.lt).cell 1
          have z2 : W.cell? ⟨g1, 2, none⟩ = some (.int .u8 (xk : Int)) := (kyd1.below bw kyd1.lt).cell 2
          have z3 : W.cell? ⟨g1, 3, none⟩ = some (.string ⟨xs.toArray⟩) := (kyd1.below bw kyd1.lt).cell 3
          have z4 : W.cell? ⟨g1, 4, none⟩ = some (.string ⟨#[111]⟩) := (kyd1.below bw kyd1.lt).cell 4
          have z5 : W.cell? ⟨g1, 5, none⟩ = some (.string ⟨xu.toArray⟩) := (kyd1.below bw kyd1.lt).cell 5
          have z6 : W.cell? ⟨g1, 6, none⟩ = some (.int .u8 (xz : Int)) := (kyd1.below bw kyd1.lt).cell 6
          refine .inl ⟨.agg #[.int .u8 (xa : Int), .int .u32 (xb : Int), .int .u8 (xk : Int), .string ⟨xs.toArray⟩, .string ⟨#[111]⟩, .string ⟨xu.toArray⟩, .int .u8 (xz : Int)], W, ?_, rfl, Below.refl _ _⟩
          go_simp
        refine And.intro ?_ ?_
        · intro d hd ρ W hcs bw hn hg
          cases hd
          have eg : ρ (.tmp 95) = .bool true := hg _ _ _ _ rfl rfl rfl
          refine .inl ⟨⟨_, _, rfl, rfl, eg⟩, ?_⟩
          have e96 : ρ (.tmp 96) = .agg #[.int .u8 (xa : Int), .int .u32 (xb : Int), .int .u8 (xk : Int), .string ⟨xs.toArray⟩, .string ⟨#[111]⟩, .string ⟨xu.toArray⟩, .int .u8 (xz : Int)] := hn 96 (by decide)
          clear hn hg
          have ef : ρ (.func 43) = .func (.func 43) #[] #[] := hcs.2 _
          refine .inr ⟨43, #[.agg #[.int .u8 (xa : Int), .int .u32 (xb : Int), .int .u8 (xk : Int), .string ⟨xs.toArray⟩, .string ⟨#[111]⟩, .string ⟨xu.toArray⟩, .int .u8 (xz : Int)]], ?_, (HC4.out W).mono ?_⟩
          · go_simp
          · rintro e w2 ⟨rfl, B2⟩; exact ⟨_, rfl, rfl, B2⟩
        refine And.intro ?_ ?_
        · intro d hd ρ W hcs bw hn hg
          cases hd
          have eg : ρ (.tmp 95) = .bool true := hg _ _ _ _ rfl rfl rfl
          refine .inl ⟨⟨_, _, rfl, rfl, eg⟩, ?_⟩
          have e97 : ρ (.tmp 97) = .int .i64 2 := hn 97 (by decide)
          clear hn hg
          refine .inl ⟨.bool false, W, ?_, rfl, Below.refl _ _⟩
          have hc1 := hcs.1
          go_simp
        refine And.intro ?_ ?_
        · intro d hd ρ W hcs bw hn hg
          cases hd
          have eg : ρ (.tmp 95) = .bool true := hg _ _ _ _ rfl rfl rfl
          refine .inl ⟨⟨_, _, rfl, rfl, eg⟩, ?_⟩
          have e1 : ρ (.tmp 1) = .pointer (some ⟨w.heap.size, 0, none⟩) := hn 1 (by decide)
          clear hn hg
          refine .inl ⟨.pointer (some ⟨w.heap.size, 2, none⟩), W, ?_, rfl, Below.refl _ _⟩
          go_simp
        refine And.intro ?_ ?_
        · intro d hd ρ W hcs bw hn hg
          cases hd
          have eg : ρ (.tmp 95) = .bool true := hg _ _ _ _ rfl rfl rfl
          refine .inl ⟨⟨_, _, rfl, rfl, eg⟩, ?_⟩
          have e99 : ρ (.tmp 99) = .pointer (some ⟨w.heap.size, 2, none⟩) := hn 99 (by decide)
          clear hn hg
          have z2 : W.cell? ⟨w.heap.size, 2, none⟩ = some (.int .u8 (xk : Int)) := (kcd.below bw kcd.lt).cell 2
          refine .inl ⟨.int .u8 (xk : Int), W, ?_, rfl, Below.refl _ _⟩
          go_simp
        refine And.intro ?_ ?_
        · intro d hd ρ W hcs bw hn hg
          cases hd
          have eg : ρ (.tmp 95) = .bool true := hg _ _ _ _ rfl rfl rfl
          refine .inl ⟨⟨_, _, rfl, rfl, eg⟩, ?_⟩
          have e100 : ρ (.tmp 100) = .int .u8 (xk : Int) := hn 100 (by decide)
          clear hn hg
          refine .inl ⟨.bool false, W, ?_, rfl, Below.refl _ _⟩
          have hc1 := hcs.1
          go_simp
        refine And.intro ?_ ?_
        · intro d hd ρ W hcs bw hn hg
          cases hd
          have eg : ρ (.tmp 95) = .bool true := hg _ _ _ _ rfl rfl rfl
          refine .inl ⟨⟨_, _, rfl, rfl, eg⟩, ?_⟩
          have e98 : ρ (.tmp 98) = .bool false := hn 98 (by decide)
          have e101 : ρ (.tmp 101) = .bool false := hn 101 (by decide)
          clear hn hg
          refine .inl ⟨.bool true, W, ?_, rfl, Below.refl _ _⟩
          go_simp
        refine And.intro ?_ ?_
        · intro d hd ρ W hcs bw hn hg
          cases hd
          refine .inl ⟨trivial, ?_⟩
          have e95 : ρ (.tmp 95) = .bool true := hn 95 (by decide)
          have e102 : ρ (.tmp 102) = .bool true := hn 102 (by decide)
          clear hn hg
          refine .inl ⟨.bool true, W, ?_, rfl, Below.refl _ _⟩
          have hc1 := hcs.1
          go_simp
        refine And.intro ?_ ?_
        · intro d hd ρ W hcs bw hn hg
          cases hd
          refine .inl ⟨trivial, ?_⟩
          have e103 : ρ (.tmp 103) = .bool true := hn 103 (by decide)
          clear hn hg
          refine .inl ⟨_, W, rfl, e103, Below.refl _ _⟩
        refine And.intro ?_ ?_
        · intro d hd ρ W hcs bw hn hg
          cases hd
          have eg : ρ (.tmp 104) = .bool true := hg _ _ _ _ rfl rfl rfl
          refine .inl ⟨⟨_, _, rfl, rfl, eg⟩, ?_⟩
          have e10 : ρ (.tmp 10) = .pointer (some ⟨g2, 0, none⟩) := hn 10 (by decide)
          clear hn hg
          have z0 : W.cell? ⟨g2, 0, none⟩ = some (.int .u8 (xa : Int)) := (kyd2.below bw kyd2.lt).cell 0
          have z1 : W.cell? ⟨g2, 1, none⟩ = some (.int .u32 (xb : Int)) := (kyd2.below bw kyd2.lt).cell 1
          have z2 : W.cell? ⟨g2, 2, none⟩ = some (.int .u8 (xk : Int)) := (kyd2.below bw kyd2.lt).cell 2
          have z3 : W.cell? ⟨g2, 3, none⟩ = some (.string ⟨xs.toArray⟩) := (kyd2.below bw kyd2.lt).cell 3
          have z4 : W.cell? ⟨g2, 4, none⟩ = some (.string ⟨xt.toArray⟩) := (kyd2.below bw kyd2.lt).cell 4
          have z5 : W.cell? ⟨g2, 5, none⟩ = some (.string ⟨#[110]⟩) := (kyd2.below bw kyd2.lt).cell 5
          have z6 : W.cell? ⟨g2, 6, none⟩ = some (.int .u8 (xz : Int)) := (kyd2.below bw kyd2.lt).cell 6
          refine .inl ⟨.agg #[.int .u8 (xa : Int), .int .u32 (xb : Int), .int .u8 (xk : Int), .string ⟨xs.toArray⟩, .string ⟨xt.toArray⟩, .string ⟨#[110]⟩, .int .u8 (xz : Int)], W, ?_, rfl, Below.refl _ _⟩
          go_simp
        refine And.intro ?_ ?_
        · intro d hd ρ W hcs bw hn hg
          cases hd
          have eg : ρ (.tmp 104) = .bool true := hg _ _ _ _ rfl rfl rfl
          refine .inl ⟨⟨_, _, rfl, rfl, eg⟩, ?_⟩
          have e105 : ρ (.tmp 105) = .agg #[.int .u8 (xa : Int), .int .u32 (xb : Int), .int .u8 (xk : Int), .string ⟨xs.toArray⟩, .string ⟨xt.toArray⟩, .string ⟨#[110]⟩, .int .u8 (xz : Int)] := hn 105 (by decide)
          clear hn hg
          have ef : ρ (.func 43) = .func (.func 43) #[] #[] := hcs.2 _
          refine .inr ⟨43, #[.agg #[.int .u8 (xa : Int), .int .u32 (xb : Int), .int .u8 (xk : Int), .string ⟨xs.toArray⟩, .string ⟨xt.toArray⟩, .string ⟨#[110]⟩, .int .u8 (xz : Int)]], ?_, (HC42.out W).mono ?_⟩
          · go_simp
          · rintro e w2 ⟨rfl, B2⟩; exact ⟨_, rfl, rfl, B2⟩
        refine And.intro ?_ ?_
        · intro d hd ρ W hcs bw hn hg
          cases hd
          have eg : ρ (.tmp 104) = .bool true := hg _ _ _ _ rfl rfl rfl
          refine .inl ⟨⟨_, _, rfl, rfl, eg⟩, ?_⟩
          have e106 : ρ (.tmp 106) = .int .i64 e2 := hn 106 (by decide)
          clear hn hg
          refine .inl ⟨.bool b2, W, ?_, rfl, Below.refl _ _⟩
          have hc1 := hcs.1
          go_simp
        refine And.intro ?_ ?_
        · intro d hd ρ W hcs bw hn hg
          cases hd
          have eg : ρ (.tmp 104) = .bool true := hg _ _ _ _ rfl rfl rfl
          refine .inl ⟨⟨_, _, rfl, rfl, eg⟩, ?_⟩
          have e1 : ρ (.tmp 1) = .pointer (some ⟨w.heap.size, 0, none⟩) := hn 1 (by decide)
          clear hn hg
          refine .inl ⟨.pointer (some ⟨w.heap.size, 2, none⟩), W, ?_, rfl, Below.refl _ _⟩
          go_simp
        refine And.intro ?_ ?_
        · intro d hd ρ W hcs bw hn hg
          cases hd
          have eg : ρ (.tmp 104) = .bool true := hg _ _ _ _ rfl rfl rfl
          refine .inl ⟨⟨_, _, rfl, rfl, eg⟩, ?_⟩
          have e108 : ρ (.tmp 108) = .pointer (some ⟨w.heap.size, 2, none⟩) := hn 108 (by decide)
          clear hn hg
          have z2 : W.cell? ⟨w.heap.size, 2, none⟩ = some (.int .u8 (xk : Int)) := (kcd.below bw kcd.lt).cell 2
          refine .inl ⟨.int .u8 (xk : Int), W, ?_, rfl, Below.refl _ _⟩
          go_simp
        refine And.intro ?_ ?_
        · intro d hd ρ W hcs bw hn hg
          cases hd
          have eg : ρ (.tmp 104) = .bool true := hg _ _ _ _ rfl rfl rfl
          refine .inl ⟨⟨_, _, rfl, rfl, eg⟩, ?_⟩
          have e109 : ρ (.tmp 109) = .int .u8 (xk : Int) := hn 109 (by decide)
          clear hn hg
          refine .inl ⟨.bool false, W, ?_, rfl, Below.refl _ _⟩
          have hc1 := hcs.1
          go_simp
        refine And.intro ?_ ?_
        · intro d hd ρ W hcs bw hn hg
          cases hd
          have eg : ρ (.tmp 104) = .bool true := hg _ _ _ _ rfl rfl rfl
          refine .inl ⟨⟨_, _, rfl, rfl, eg⟩, ?_⟩
          have e110 : ρ (.tmp 110) = .bool false := hn 110 (by decide)
          clear hn hg
          refine .inl ⟨_, W, rfl, e110, Below.refl _ _⟩
        refine And.intro ?_ ?_
        · intro d hd ρ W hcs bw hn hg
          cases hd
          have eg : ρ (.tmp 111) = .bool false := hg _ _ _ _ rfl rfl rfl
          refine .inl ⟨⟨_, _, rfl, rfl, eg⟩, ?_⟩
          have e1 : ρ (.tmp 1) = .pointer (some ⟨w.heap.size, 0, none⟩) := hn 1 (by decide)
          clear hn hg
          refine .inl ⟨.pointer (some ⟨w.heap.size, 2, none⟩), W, ?_, rfl, Below.refl _ _⟩
          go_simp
        refine And.intro ?_ ?_
        · intro d hd ρ W hcs bw hn hg
          cases hd
          have eg : ρ (.tmp 111) = .bool false := hg _ _ _ _ rfl rfl rfl
          refine .inl ⟨⟨_, _, rfl, rfl, eg⟩, ?_⟩
          have e112 : ρ (.tmp 112) = .pointer (some ⟨w.heap.size, 2, none⟩) := hn 112 (by decide)
          clear hn hg
          have z2 : W.cell? ⟨w.heap.size, 2, none⟩ = some (.int .u8 (xk : Int)) := (kcd.below bw kcd.lt).cell 2
          refine .inl ⟨.int .u8 (xk : Int), W, ?_, rfl, Below.refl _ _⟩
          go_simp
        refine And.intro ?_ ?_
        · intro d hd ρ W hcs bw hn hg
          cases hd
          have eg : ρ (.tmp 111) = .bool false := hg _ _ _ _ rfl rfl rfl
          refine .inl ⟨⟨_, _, rfl, rfl, eg⟩, ?_⟩
          have e113 : ρ (.tmp 113) = .int .u8 (xk : Int) := hn 113 (by decide)
          clear hn hg
          refine .inl ⟨.bool b2, W, ?_, rfl, Below.refl _ _⟩
          have hc1 := hcs.1
          go_simp
        refine And.intro ?_ ?_
        · intro d hd ρ W hcs bw hn hg
          cases hd
          have eg : ρ (.tmp 104) = .bool true := hg _ _ _ _ rfl rfl rfl
          refine .inl ⟨⟨_, _, rfl, rfl, eg⟩, ?_⟩
          have e111 : ρ (.tmp 111) = .bool false := hn 111 (by decide)
          have e114 : ρ (.tmp 114) = .bool b2 := hn 114 (by decide)
          clear hn hg
          refine .inl ⟨.bool b2, W, ?_, rfl, Below.refl _ _⟩
          have hc1 := hcs.1
          go_simp
        refine And.intro ?_ ?_
        · intro d hd ρ W hcs bw hn hg
          cases hd
          have eg : ρ (.tmp 104) = .bool true := hg _ _ _ _ rfl rfl rfl
          refine .inl ⟨⟨_, _, rfl, rfl, eg⟩, ?_⟩
          have e107 : ρ (.tmp 107) = .bool b2 := hn 107 (by decide)
          have e115 : ρ (.tmp 115) = .bool b2 := hn 115 (by decide)
          clear hn hg
          refine .inl ⟨.bool true, W, ?_, rfl, Below.refl _ _⟩
          go_simp
        refine And.intro ?_ ?_
        · intro d hd ρ W hcs bw hn hg
          cases hd
          refine .inl ⟨trivial, ?_⟩
          have e104 : ρ (.tmp 104) = .bool true := hn 104 (by decide)
          have e116 : ρ (.tmp 116) = .bool true := hn 116 (by decide)
          clear hn hg
          refine .inl ⟨.bool true, W, ?_, rfl, Below.refl _ _⟩
          have hc1 := hcs.1
          go_simp
        refine And.intro ?_ ?_
        · intro d hd ρ W hcs bw hn hg
          cases hd
          refine .inl ⟨trivial, ?_⟩
          have e117 : ρ (.tmp 117) = .bool true := hn 117 (by decide)
          clear hn hg
          refine .inl ⟨_, W, rfl, e117, Below.refl _ _⟩
        refine And.intro ?_ ?_
        · intro d hd ρ W hcs bw hn hg
          cases hd
          have eg : ρ (.tmp 118) = .bool true := hg _ _ _ _ rfl rfl rfl
          refine .inl ⟨⟨_, _, rfl, rfl, eg⟩, ?_⟩
          clear hn hg
          have ef : ρ (.func 40) = .func (.func 40) #[] #[] := hcs.2 _
          refine .inr ⟨40, #[], ?_, (wakes_any W).mono ?_⟩
          · go_simp
          · rintro e w2 ⟨rfl, B2⟩; exact ⟨_, rfl, rfl, B2⟩
        refine And.intro ?_ ?_
        · intro d hd ρ W hcs bw hn hg
          cases hd
          refine .inl ⟨trivial, ?_⟩
          have e118 : ρ (.tmp 118) = .bool true := hn 118 (by decide)
          have e119 : ρ (.tmp 119) = .bool true := hn 119 (by decide)
          clear hn hg
          refine .inl ⟨.bool true, W, ?_, rfl, Below.refl _ _⟩
          have hc1 := hcs.1
          go_simp
        refine And.intro ?_ ?_
        · intro d hd ρ W hcs bw hn hg
          cases hd
          refine .inl ⟨trivial, ?_⟩
          have e120 : ρ (.tmp 120) = .bool true := hn 120 (by decide)
          clear hn hg
          refine .inl ⟨_, W, rfl, e120, Below.refl _ _⟩
        trivial
      · intro a' w' hsz hdf hb hVs
        have hr : a'.eval (.tmp 2) = .bool true := hVs 2
        have bwz := HBW2.out.trans (hb.mono HBW2.out.size)
        clear hVs
        go_wp2
        exact ret_slot Try.results13 hr hdf ⟨rfl, bwz⟩
end Go.Proofs.Ytgbnaifjdfoahaa.Cmd
