/- Package cmd, walked: Take of no reader. Conditions: none. -/
import Derived.Test.YtgbnaifjdfoahaaCmdTake
namespace Go.Proofs.Ytgbnaifjdfoahaa.Cmd
open Go.RowKit Wire

structure Tn (w w1 : World) : Prop where
  bw : Below w.heap.size w w1
  z : Blk w1 w.heap.size 73 #[.int .u8 0, .int .u32 0, .int .u8 0, .string ⟨#[]⟩, .string ⟨#[]⟩, .string ⟨#[]⟩, .int .u8 0]
  x : Blk w1 (w.heap.size + 1) 73 #[.int .u8 0, .int .u32 0, .int .u8 0, .string ⟨#[]⟩, .string ⟨#[]⟩, .string ⟨#[]⟩, .int .u8 0]
theorem Tn.put {w w1 : World} (h : Tn w w1) (j : Nat) (v : Value) (e : (#[.int .u8 0, .int .u32 0, .int .u8 0, .string ⟨#[]⟩, .string ⟨#[]⟩, .string ⟨#[]⟩, .int .u8 0] : Array Value).setIfInBounds j v = #[.int .u8 0, .int .u32 0, .int .u8 0, .string ⟨#[]⟩, .string ⟨#[]⟩, .string ⟨#[]⟩, .int .u8 0]) : Tn w (w1.setCell ⟨w.heap.size + 1, j, none⟩ v) :=
  ⟨h.bw.setCell (by simp) v, h.z.far (by simp) v, (congrArg (fun a => Blk (w1.setCell ⟨w.heap.size + 1, j, none⟩ v) (w.heap.size + 1) 73 a) e).mp (h.x.set_ j v)⟩
theorem Tn.below {w w1 w2 : World} (h : Tn w w1) (hb : Below w1.heap.size w1 w2) : Tn w w2 :=
  ⟨h.bw.trans (hb.mono h.bw.size), h.z.below hb h.z.lt, h.x.below hb h.x.lt⟩
theorem Tn.start (w : World) : Tn w ((w.alloc (.cells #[.int .u8 0, .int .u32 0, .int .u8 0, .string ⟨#[]⟩, .string ⟨#[]⟩, .string ⟨#[]⟩, .int .u8 0] 73)).alloc (.cells #[.int .u8 0, .int .u32 0, .int .u8 0, .string ⟨#[]⟩, .string ⟨#[]⟩, .string ⟨#[]⟩, .int .u8 0] 73)) :=
  ⟨((Below.refl _ w).alloc (Nat.le_refl _) _).alloc (by simp) _, (Blk.new w _ _).alloc _, by have := Blk.new (w.alloc (.cells #[.int .u8 0, .int .u32 0, .int .u8 0, .string ⟨#[]⟩, .string ⟨#[]⟩, .string ⟨#[]⟩, .int .u8 0] 73)) 73 #[.int .u8 0, .int .u32 0, .int .u8 0, .string ⟨#[]⟩, .string ⟨#[]⟩, .string ⟨#[]⟩, .int .u8 0]; simpa using this⟩
theorem may_zero : mayB cm0 = false := by decide
set_option linter.unusedSimpArgs false in
set_option maxRecDepth 100000 in
set_option maxHeartbeats 8000000 in
theorem take_nil (w : World) : Calls Try.prog 50 #[.pointer none] w fun e w' => e = .returned (cmV cm0) ∧ Below w.heap.size w w' := by
  have hck := fun W => check_any cm0 ⟨by decide, by decide, by decide, by decide, by decide, by decide, by decide⟩ W
  rw [may_zero] at hck
  unfold cmV cmC cm0 at hck
  simp only [Int.cast_ofNat_Int, if_false, Bool.false_eq_true] at hck
  have HK := Lib.hid hck
  have K := Tn.start w
  clear hck
  go_enter Try.func50, Try.ntmps50
  go_upto_region 2 with fail
  generalize ((w.alloc (.cells #[.int .u8 0, .int .u32 0, .int .u8 0, .string ⟨#[]⟩, .string ⟨#[]⟩, .string ⟨#[]⟩, .int .u8 0] 73)).alloc (.cells #[.int .u8 0, .int .u32 0, .int .u8 0, .string ⟨#[]⟩, .string ⟨#[]⟩, .string ⟨#[]⟩, .int .u8 0] 73)) = w0 at *
  go_wp2_with fail
  refine (byte_nil _).mono ?_; rintro e v1 ⟨rfl, rfl⟩
  have c1 := K.x.cell 0
  have f1 := K.x.frozen 0
  simp at c1
  have K' := K.put 0 (.int .u8 0) rfl
  go_upto_region 3 with fail
  clear c1 f1 K
  have K := K'
  clear K'
  generalize w0.setCell ⟨w.heap.size + 1, 0, none⟩ (.int .u8 0) = w1 at *
  go_wp2_with fail
  refine (Below_nil 4294967296 _).mono ?_; rintro e v2 ⟨rfl, rfl⟩
  have c1 := K.x.cell 1
  have f1 := K.x.frozen 1
  simp at c1
  have K' := K.put 1 (.int .u32 0) rfl
  go_upto_region 4 with fail
  clear c1 f1 K
  have K := K'
  clear K'
  generalize w1.setCell ⟨w.heap.size + 1, 1, none⟩ (.int .u32 0) = w2 at *
  go_wp2_with fail
  refine (byte_nil _).mono ?_; rintro e v3 ⟨rfl, rfl⟩
  have c1 := K.x.cell 2
  have f1 := K.x.frozen 2
  simp at c1
  have K' := K.put 2 (.int .u8 0) rfl
  go_upto_region 5 with fail
  clear c1 f1 K
  have K := K'
  clear K'
  generalize w2.setCell ⟨w.heap.size + 1, 2, none⟩ (.int .u8 0) = w3 at *
  go_wp2_with fail
  refine (str_nil 16 (by decide) (by decide) _).mono ?_; rintro e v4 ⟨rfl, rfl⟩
  have c1 := K.x.cell 3
  have f1 := K.x.frozen 3
  simp at c1
  have K' := K.put 3 (.string ⟨#[]⟩) rfl
  go_upto_region 6 with fail
  clear c1 f1 K
  have K := K'
  clear K'
  generalize w3.setCell ⟨w.heap.size + 1, 3, none⟩ (.string ⟨#[]⟩) = w4 at *
  go_wp2_with fail
  refine (str_nil 64 (by decide) (by decide) _).mono ?_; rintro e v5 ⟨rfl, rfl⟩
  have c1 := K.x.cell 4
  have f1 := K.x.frozen 4
  simp at c1
  have K' := K.put 4 (.string ⟨#[]⟩) rfl
  go_upto_region 7 with fail
  clear c1 f1 K
  have K := K'
  clear K'
  generalize w4.setCell ⟨w.heap.size + 1, 4, none⟩ (.string ⟨#[]⟩) = w5 at *
  go_wp2_with fail
  refine (str_nil 64 (by decide) (by decide) _).mono ?_; rintro e v6 ⟨rfl, rfl⟩
  have c1 := K.x.cell 5
  have f1 := K.x.frozen 5
  simp at c1
  have K' := K.put 5 (.string ⟨#[]⟩) rfl
  go_upto_region 8 with fail
  clear c1 f1 K
  have K := K'
  clear K'
  generalize w5.setCell ⟨w.heap.size + 1, 5, none⟩ (.string ⟨#[]⟩) = w6 at *
  go_wp2_with fail
  refine (byte_nil _).mono ?_; rintro e v7 ⟨rfl, rfl⟩
  have c1 := K.x.cell 6
  have f1 := K.x.frozen 6
  simp at c1
  have K' := K.put 6 (.int .u8 0) rfl
  go_upto_region 9 with fail
  clear c1 f1 K
  have K := K'
  clear K'
  generalize w6.setCell ⟨w.heap.size + 1, 6, none⟩ (.int .u8 0) = w7 at *
  have x0 := K.x.cell 0
  have x1 := K.x.cell 1
  have x2 := K.x.cell 2
  have x3 := K.x.cell 3
  have x4 := K.x.cell 4
  have x5 := K.x.cell 5
  have x6 := K.x.cell 6
  simp at x0 x1 x2 x3 x4 x5 x6
  go_wp2_with fail
  refine (HK.out _).mono ?_; rintro e w8 ⟨rfl, B8⟩
  have K' := K.below B8
  clear K B8 x0 x1 x2 x3 x4 x5 x6
  have K := K'
  clear K' HK
  go_wp2_with fail
  refine (bad_nil _).mono ?_; rintro e w9 ⟨⟨v, rfl⟩, rfl⟩
  go_wp2_with fail
  refine (err_nil _).mono ?_; rintro e w10 ⟨rfl, rfl⟩
  have f0 := K.z.frozen 0
  have f1 := K.z.frozen 1
  have f2 := K.z.frozen 2
  have f3 := K.z.frozen 3
  have f4 := K.z.frozen 4
  have f5 := K.z.frozen 5
  have f6 := K.z.frozen 6
  have c0 := K.z.cell 0
  have c1 := K.z.cell 1
  have c2 := K.z.cell 2
  have c3 := K.z.cell 3
  have c4 := K.z.cell 4
  have c5 := K.z.cell 5
  have c6 := K.z.cell 6
  simp at c0 c1 c2 c3 c4 c5 c6
  have HZ := Lib.hid (((((((K.z.set_ 0 (.int .u8 0)).set_ 1 (.int .u32 0)).set_ 2 (.int .u8 0)).set_ 3 (.string ⟨#[]⟩)).set_ 4 (.string ⟨#[]⟩)).set_ 5 (.string ⟨#[]⟩)).set_ 6 (.int .u8 0))
  have HB := Lib.hid (((((((K.bw.setCell (p := ⟨w.heap.size, 0, none⟩) (Nat.le_refl _) (.int .u8 0)).setCell (p := ⟨w.heap.size, 1, none⟩) (Nat.le_refl _) (.int .u32 0)).setCell (p := ⟨w.heap.size, 2, none⟩) (Nat.le_refl _) (.int .u8 0)).setCell (p := ⟨w.heap.size, 3, none⟩) (Nat.le_refl _) (.string ⟨#[]⟩)).setCell (p := ⟨w.heap.size, 4, none⟩) (Nat.le_refl _) (.string ⟨#[]⟩)).setCell (p := ⟨w.heap.size, 5, none⟩) (Nat.le_refl _) (.string ⟨#[]⟩)).setCell (p := ⟨w.heap.size, 6, none⟩) (Nat.le_refl _) (.int .u8 0))
  clear K
  go_wp2_with fail
  have y0 := HZ.out.cell 0
  have y1 := HZ.out.cell 1
  have y2 := HZ.out.cell 2
  have y3 := HZ.out.cell 3
  have y4 := HZ.out.cell 4
  have y5 := HZ.out.cell 5
  have y6 := HZ.out.cell 6
  simp at y0 y1 y2 y3 y4 y5 y6
  refine bodyPost_ret (v := cmV cm0) (by simp [results, Try.results50, go_sem, cmV, cmC, cm0, y0, y1, y2, y3, y4, y5, y6]) rfl ⟨rfl, HB.out⟩
end Go.Proofs.Ytgbnaifjdfoahaa.Cmd
