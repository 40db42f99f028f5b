/- The closed run of the laws about commands. No conditions. -/
import Derived.Test.YtgbnaifjdfoahaaCmdBatch
import Derived.Test.YtgbnaifjdfoahaaCmdParse
import Derived.Test.YtgbnaifjdfoahaaInv
namespace Go.Proofs.Ytgbnaifjdfoahaa.Cmd
open Go.RowKit Wire DrawInv

theorem rows_one {w : World} {g : Nat} {t : TypeId} {x : Cm} (h : Blk w g t (cmC x)) : Rows w (some ⟨g, 0, none⟩) 7 cmL [x] := by
  have hr : Reads w w.heap.size 7 (some ⟨g, 0, none⟩) 1 (cmL x) := blk_reads (cells := cmL) (x := x) rfl h
  exact reads_rows (l := [x]) cmL_len (by simpa using hr)
set_option linter.unusedSimpArgs false in
set_option maxRecDepth 100000 in
set_option maxHeartbeats 8000000 in
theorem wakes_any (w : World) : Calls Try.prog 40 #[] w fun e w' => e = .returned (.bool true) ∧ Below w.heap.size w w' := by
  have hf0 : ∀ c ∈ [(⟨1, 2, 2, [97], [], [120], 0⟩ : Cm)], c.Fits := fun c hc => by
    obtain rfl := List.mem_singleton.1 hc
    exact ⟨by decide, by decide, by decide, by decide, by decide, by decide, by decide⟩
  have HBA := Lib.hid (fun (A : Option Addr) (c : Nat) W hA => batch_any [(⟨1, 2, 2, [97], [], [120], 0⟩ : Cm)] hf0 (by decide) A c W hA)
  have eb : batchC [(⟨1, 2, 2, [97], [], [120], 0⟩ : Cm)] = ([1, 1, 2, 2, 1, 97, 0, 1, 120, 0], 0) := by decide
  rw [eb] at HBA
  have HPA := Lib.hid (fun W => parse_any [1, 1, 2, 2, 1, 97, 0, 1, 120, 0] (by decide) W)
  have ep : parseC [1, 1, 2, 2, 1, 97, 0, 1, 120, 0] = ([(⟨1, 2, 2, [97], [], [120], 0⟩ : Cm)], 0) := by decide
  rw [ep] at HPA
  have HK0 := Lib.hid (fun W => check_any (⟨1, 2, 2, [97], [], [120], 0⟩ : Cm) (hf0 _ (by simp)) W)
  have HK1 := Lib.hid (fun W => check_any cm0 cm0_fits W)
  have em0 : (if mayB (⟨1, 2, 2, [97], [], [120], 0⟩ : Cm) = true then (0 : Int) else 2) = 0 := by decide
  have em1 : (if mayB cm0 = true then (0 : Int) else 2) = 2 := by decide
  rw [em0] at HK0
  rw [em1] at HK1
  have kb := Blk.new w 73 (cmC (⟨1, 2, 2, [97], [], [120], 0⟩ : Cm))
  have hB1 : Below w.heap.size w (w.alloc (.cells (cmC (⟨1, 2, 2, [97], [], [120], 0⟩ : Cm)) 73)) := (Below.refl _ w).alloc (Nat.le_refl _) _
  have kn := Blk.new (w.alloc (.cells (cmC (⟨1, 2, 2, [97], [], [120], 0⟩ : Cm)) 73)) 73 (cmC (⟨1, 2, 2, [97], [], [120], 0⟩ : Cm))
  have hR := rows_one kn
  have kb2 := kb.alloc (.cells (cmC (⟨1, 2, 2, [97], [], [120], 0⟩ : Cm)) 73)
  have hB2 := hB1.alloc hB1.size (.cells (cmC (⟨1, 2, 2, [97], [], [120], 0⟩ : Cm)) 73)
  have es : (w.alloc (.cells (cmC (⟨1, 2, 2, [97], [], [120], 0⟩ : Cm)) 73)).heap.size = w.heap.size + 1 := by simp
  rw [es] at hR
  clear kn hf0 es eb ep em0 em1 kb hB1
  have HR := Lib.hid hR
  have HB2 := Lib.hid hB2
  have HKB := Lib.hid kb2
  clear hR hB2 kb2
  unfold cmV at *
  unfold cmC cm0 at *
  go_enter Try.func40, Try.ntmps40
  go_wp2_with fail
  refine (HBA.out _ _ _ HR.out).mono ?_; rintro e w2 ⟨rfl, B2⟩
  have hB3 := HB2.out.trans (B2.mono HB2.out.size)
  have kb3 := HKB.out.below B2 HKB.out.lt
  clear HBA HR B2 HB2 HKB
  go_wp2_with fail
  refine (HPA.out _).mono ?_; rintro e w3 ⟨A, c1, rfl, hR3, B3⟩
  have hB4 := hB3.trans (B3.mono hB3.size)
  have kb4 := kb3.below B3 kb3.lt
  obtain ⟨ad, rfl, hla', a0', a1'⟩ := hR3.at_ (k := 0) (x := (⟨1, 2, 2, [97], [], [120], 0⟩ : Cm)) rfl
  clear kb3 hB3 B3 HPA hR3
  go_upto_region 4 with fail
  have hla : ad.block < w3.drew.heap.size := hla'
  have hlt : w.heap.size < w3.drew.heap.size := kb4.lt
  have k0 : w3.drew.cell? ⟨w.heap.size, 0, none⟩ = some (.int .u8 1) := kb4.cell 0
  have k1 : w3.drew.cell? ⟨w.heap.size, 1, none⟩ = some (.int .u32 2) := kb4.cell 1
  have k2 : w3.drew.cell? ⟨w.heap.size, 2, none⟩ = some (.int .u8 2) := kb4.cell 2
  have k3 : w3.drew.cell? ⟨w.heap.size, 3, none⟩ = some (.string ⟨#[97]⟩) := kb4.cell 3
  have k4 : w3.drew.cell? ⟨w.heap.size, 4, none⟩ = some (.string ⟨#[]⟩) := kb4.cell 4
  have k5 : w3.drew.cell? ⟨w.heap.size, 5, none⟩ = some (.string ⟨#[120]⟩) := kb4.cell 5
  have k6 : w3.drew.cell? ⟨w.heap.size, 6, none⟩ = some (.int .u8 0) := kb4.cell 6
  have a0 : w3.drew.cell? ad = some (.int .u8 1) := a0' _ rfl
  have a1 : w3.drew.cell? { block := ad.block, off := ad.off + 1 } = some (.int .u32 2) := a1' 0 _ rfl
  have a2 : w3.drew.cell? { block := ad.block, off := ad.off + 2 } = some (.int .u8 2) := a1' 1 _ rfl
  have a3 : w3.drew.cell? { block := ad.block, off := ad.off + 3 } = some (.string ⟨#[97]⟩) := a1' 2 _ rfl
  have a4 : w3.drew.cell? { block := ad.block, off := ad.off + 4 } = some (.string ⟨#[]⟩) := a1' 3 _ rfl
  have a5 : w3.drew.cell? { block := ad.block, off := ad.off + 5 } = some (.string ⟨#[120]⟩) := a1' 4 _ rfl
  have a6 : w3.drew.cell? { block := ad.block, off := ad.off + 6 } = some (.int .u8 0) := a1' 5 _ rfl
  clear a0' a1' hla'
  refine region_inv2 (by kernel_rfl) [] [(18, .agg #[.int .u8 1, .int .u32 2, .int .u8 2, .string ⟨#[97]⟩, .string ⟨#[]⟩, .string ⟨#[120]⟩, .int .u8 0]), (19, .int .i64 0), (20, .bool true), (21, .bool true), (22, .int .i64 0), (23, .bool true), (24, .bool true), (25, .bool true), (26, .string ⟨#[1, 1, 2, 2, 1, 97, 0, 1, 120, 0]⟩), (27, .bool true), (28, .bool true), (29, .bool true), (30, .int .i64 0), (31, .bool true), (32, .bool true), (33, .bool true), (34, .slice (some ad) 1 c1), (35, .int .i64 1), (36, .bool true), (37, .bool true), (38, .bool true), (39, .slice (some ad) 1 c1), (40, .pointer (some ad)), (41, .agg #[.int .u8 1, .int .u32 2, .int .u8 2, .string ⟨#[97]⟩, .string ⟨#[]⟩, .string ⟨#[120]⟩, .int .u8 0]), (42, .agg #[.int .u8 1, .int .u32 2, .int .u8 2, .string ⟨#[97]⟩, .string ⟨#[]⟩, .string ⟨#[120]⟩, .int .u8 0]), (43, .bool true), (44, .bool true), (45, .bool true), (46, .agg #[.int .u8 0, .int .u32 0, .int .u8 0, .string ⟨#[]⟩, .string ⟨#[]⟩, .string ⟨#[]⟩, .int .u8 0]), (47, .int .i64 2), (48, .bool true), (49, .bool true), (0, .bool true)] (by kernel_rfl) (by kernel_rfl) rfl (by kernel_rfl) ?_ ?_ ?_
  · intro q hq; cases hq
  · refine And.intro ?_ ?_
    · intro d hd ρ W hcs bw hn hg
      cases hd
      refine .inl ⟨trivial, ?_⟩
      have e1 : ρ (.tmp 1) = .pointer (some ⟨w.heap.size, 0, none⟩) := hn 1 (by decide)
      clear hn hg
      have x0 : W.cell? ⟨w.heap.size, 0, none⟩ = some (.int .u8 1) := (bw.cell (show (⟨w.heap.size, 0, none⟩ : Addr).block < _ from hlt)).trans k0
      have x1 : W.cell? ⟨w.heap.size, 1, none⟩ = some (.int .u32 2) := (bw.cell (show (⟨w.heap.size, 1, none⟩ : Addr).block < _ from hlt)).trans k1
      have x2 : W.cell? ⟨w.heap.size, 2, none⟩ = some (.int .u8 2) := (bw.cell (show (⟨w.heap.size, 2, none⟩ : Addr).block < _ from hlt)).trans k2
      have x3 : W.cell? ⟨w.heap.size, 3, none⟩ = some (.string ⟨#[97]⟩) := (bw.cell (show (⟨w.heap.size, 3, none⟩ : Addr).block < _ from hlt)).trans k3
      have x4 : W.cell? ⟨w.heap.size, 4, none⟩ = some (.string ⟨#[]⟩) := (bw.cell (show (⟨w.heap.size, 4, none⟩ : Addr).block < _ from hlt)).trans k4
      have x5 : W.cell? ⟨w.heap.size, 5, none⟩ = some (.string ⟨#[120]⟩) := (bw.cell (show (⟨w.heap.size, 5, none⟩ : Addr).block < _ from hlt)).trans k5
      have x6 : W.cell? ⟨w.heap.size, 6, none⟩ = some (.int .u8 0) := (bw.cell (show (⟨w.heap.size, 6, none⟩ : Addr).block < _ from hlt)).trans k6
      refine .inl ⟨.agg #[.int .u8 1, .int .u32 2, .int .u8 2, .string ⟨#[97]⟩, .string ⟨#[]⟩, .string ⟨#[120]⟩, .int .u8 0], W, ?_, rfl, Below.refl _ _⟩
      go_simp
    refine And.intro ?_ ?_
    · intro d hd ρ W hcs bw hn hg
      cases hd
      refine .inl ⟨trivial, ?_⟩
      have e18 : ρ (.tmp 18) = .agg #[.int .u8 1, .int .u32 2, .int .u8 2, .string ⟨#[97]⟩, .string ⟨#[]⟩, .string ⟨#[120]⟩, .int .u8 0] := hn 18 (by decide)
      clear hn hg
      have ef : ρ (.func 43) = .func (.func 43) #[] #[] := hcs.2 _
      refine .inr ⟨43, #[.agg #[.int .u8 1, .int .u32 2, .int .u8 2, .string ⟨#[97]⟩, .string ⟨#[]⟩, .string ⟨#[120]⟩, .int .u8 0]], ?_, (HK0.out W).mono ?_⟩
      · go_simp
      · rintro e w2 ⟨rfl, B2⟩; exact ⟨_, rfl, rfl, B2⟩
    refine And.intro ?_ ?_
    · intro d hd ρ W hcs bw hn hg
      cases hd
      refine .inl ⟨trivial, ?_⟩
      have e19 : ρ (.tmp 19) = .int .i64 0 := hn 19 (by decide)
      clear hn hg
      refine .inl ⟨.bool true, W, ?_, rfl, Below.refl _ _⟩
      have hc1 := hcs.1
      go_simp
    refine And.intro ?_ ?_
    · intro d hd ρ W hcs bw hn hg
      cases hd
      refine .inl ⟨trivial, ?_⟩
      have e20 : ρ (.tmp 20) = .bool true := hn 20 (by decide)
      clear hn hg
      refine .inl ⟨_, W, rfl, e20, Below.refl _ _⟩
    refine And.intro ?_ ?_
    · intro d hd ρ W hcs bw hn hg
      cases hd
      have eg : ρ (.tmp 21) = .bool true := hg _ _ _ _ rfl rfl rfl
      refine .inl ⟨⟨_, _, rfl, rfl, eg⟩, ?_⟩
      have e3 : ρ (.tmp 3) = .int .i64 0 := hn 3 (by decide)
      clear hn hg
      refine .inl ⟨_, W, rfl, e3, Below.refl _ _⟩
    refine And.intro ?_ ?_
    · intro d hd ρ W hcs bw hn hg
      cases hd
      have eg : ρ (.tmp 21) = .bool true := hg _ _ _ _ rfl rfl rfl
      refine .inl ⟨⟨_, _, rfl, rfl, eg⟩, ?_⟩
      have e22 : ρ (.tmp 22) = .int .i64 0 := hn 22 (by decide)
      clear hn hg
      refine .inl ⟨.bool true, W, ?_, rfl, Below.refl _ _⟩
      have hc1 := hcs.1
      go_simp
    refine And.intro ?_ ?_
    · intro d hd ρ W hcs bw hn hg
      cases hd
      refine .inl ⟨trivial, ?_⟩
      have e21 : ρ (.tmp 21) = .bool true := hn 21 (by decide)
      have e23 : ρ (.tmp 23) = .bool true := hn 23 (by decide)
      clear hn hg
      refine .inl ⟨.bool true, W, ?_, rfl, Below.refl _ _⟩
      have hc1 := hcs.1
      go_simp
    refine And.intro ?_ ?_
    · intro d hd ρ W hcs bw hn hg
      cases hd
      refine .inl ⟨trivial, ?_⟩
      have e24 : ρ (.tmp 24) = .bool true := hn 24 (by decide)
      clear hn hg
      refine .inl ⟨_, W, rfl, e24, Below.refl _ _⟩
    refine And.intro ?_ ?_
    · intro d hd ρ W hcs bw hn hg
      cases hd
      have eg : ρ (.tmp 25) = .bool true := hg _ _ _ _ rfl rfl rfl
      refine .inl ⟨⟨_, _, rfl, rfl, eg⟩, ?_⟩
      have e2 : ρ (.tmp 2) = .string ⟨#[1, 1, 2, 2, 1, 97, 0, 1, 120, 0]⟩ := hn 2 (by decide)
      clear hn hg
      refine .inl ⟨_, W, rfl, e2, Below.refl _ _⟩
    refine And.intro ?_ ?_
    · intro d hd ρ W hcs bw hn hg
      cases hd
      have eg : ρ (.tmp 25) = .bool true := hg _ _ _ _ rfl rfl rfl
      refine .inl ⟨⟨_, _, rfl, rfl, eg⟩, ?_⟩
      have e26 : ρ (.tmp 26) = .string ⟨#[1, 1, 2, 2, 1, 97, 0, 1, 120, 0]⟩ := hn 26 (by decide)
      clear hn hg
      refine .inl ⟨.bool true, W, ?_, rfl, Below.refl _ _⟩
      have hc1 := hcs.1
      go_simp
    refine And.intro ?_ ?_
    · intro d hd ρ W hcs bw hn hg
      cases hd
      refine .inl ⟨trivial, ?_⟩
      have e25 : ρ (.tmp 25) = .bool true := hn 25 (by decide)
      have e27 : ρ (.tmp 27) = .bool true := hn 27 (by decide)
      clear hn hg
      refine .inl ⟨.bool true, W, ?_, rfl, Below.refl _ _⟩
      have hc1 := hcs.1
      go_simp
    refine And.intro ?_ ?_
    · intro d hd ρ W hcs bw hn hg
      cases hd
      refine .inl ⟨trivial, ?_⟩
      have e28 : ρ (.tmp 28) = .bool true := hn 28 (by decide)
      clear hn hg
      refine .inl ⟨_, W, rfl, e28, Below.refl _ _⟩
    refine And.intro ?_ ?_
    · intro d hd ρ W hcs bw hn hg
      cases hd
      have eg : ρ (.tmp 29) = .bool true := hg _ _ _ _ rfl rfl rfl
      refine .inl ⟨⟨_, _, rfl, rfl, eg⟩, ?_⟩
      have e5 : ρ (.tmp 5) = .int .i64 0 := hn 5 (by decide)
      clear hn hg
      refine .inl ⟨_, W, rfl, e5, Below.refl _ _⟩
    refine And.intro ?_ ?_
    · intro d hd ρ W hcs bw hn hg
      cases hd
      have eg : ρ (.tmp 29) = .bool true := hg _ _ _ _ rfl rfl rfl
      refine .inl ⟨⟨_, _, rfl, rfl, eg⟩, ?_⟩
      have e30 : ρ (.tmp 30) = .int .i64 0 := hn 30 (by decide)
      clear hn hg
      refine .inl ⟨.bool true, W, ?_, rfl, Below.refl _ _⟩
      have hc1 := hcs.1
      go_simp
    refine And.intro ?_ ?_
    · intro d hd ρ W hcs bw hn hg
      cases hd
      refine .inl ⟨trivial, ?_⟩
      have e29 : ρ (.tmp 29) = .bool true := hn 29 (by decide)
      have e31 : ρ (.tmp 31) = .bool true := hn 31 (by decide)
      clear hn hg
      refine .inl ⟨.bool true, W, ?_, rfl, Below.refl _ _⟩
      have hc1 := hcs.1
      go_simp
    refine And.intro ?_ ?_
    · intro d hd ρ W hcs bw hn hg
      cases hd
      refine .inl ⟨trivial, ?_⟩
      have e32 : ρ (.tmp 32) = .bool true := hn 32 (by decide)
      clear hn hg
      refine .inl ⟨_, W, rfl, e32, Below.refl _ _⟩
    refine And.intro ?_ ?_
    · intro d hd ρ W hcs bw hn hg
      cases hd
      have eg : ρ (.tmp 33) = .bool true := hg _ _ _ _ rfl rfl rfl
      refine .inl ⟨⟨_, _, rfl, rfl, eg⟩, ?_⟩
      have e4 : ρ (.tmp 4) = .slice (some ad) 1 c1 := hn 4 (by decide)
      clear hn hg
      refine .inl ⟨_, W, rfl, e4, Below.refl _ _⟩
    refine And.intro ?_ ?_
    · intro d hd ρ W hcs bw hn hg
      cases hd
      have eg : ρ (.tmp 33) = .bool true := hg _ _ _ _ rfl rfl rfl
      refine .inl ⟨⟨_, _, rfl, rfl, eg⟩, ?_⟩
      have e34 : ρ (.tmp 34) = .slice (some ad) 1 c1 := hn 34 (by decide)
      clear hn hg
      refine .inl ⟨.int .i64 1, W, ?_, rfl, Below.refl _ _⟩
      go_simp
    refine And.intro ?_ ?_
    · intro d hd ρ W hcs bw hn hg
      cases hd
      have eg : ρ (.tmp 33) = .bool true := hg _ _ _ _ rfl rfl rfl
      refine .inl ⟨⟨_, _, rfl, rfl, eg⟩, ?_⟩
      have e35 : ρ (.tmp 35) = .int .i64 1 := hn 35 (by decide)
      clear hn hg
      refine .inl ⟨.bool true, W, ?_, rfl, Below.refl _ _⟩
      have hc1 := hcs.1
      go_simp
    refine And.intro ?_ ?_
    · intro d hd ρ W hcs bw hn hg
      cases hd
      refine .inl ⟨trivial, ?_⟩
      have e33 : ρ (.tmp 33) = .bool true := hn 33 (by decide)
      have e36 : ρ (.tmp 36) = .bool true := hn 36 (by decide)
      clear hn hg
      refine .inl ⟨.bool true, W, ?_, rfl, Below.refl _ _⟩
      have hc1 := hcs.1
      go_simp
    refine And.intro ?_ ?_
    · intro d hd ρ W hcs bw hn hg
      cases hd
      refine .inl ⟨trivial, ?_⟩
      have e37 : ρ (.tmp 37) = .bool true := hn 37 (by decide)
      clear hn hg
      refine .inl ⟨_, W, rfl, e37, Below.refl _ _⟩
    refine And.intro ?_ ?_
    · intro d hd ρ W hcs bw hn hg
      cases hd
      have eg : ρ (.tmp 38) = .bool true := hg _ _ _ _ rfl rfl rfl
      refine .inl ⟨⟨_, _, rfl, rfl, eg⟩, ?_⟩
      have e4 : ρ (.tmp 4) = .slice (some ad) 1 c1 := hn 4 (by decide)
      clear hn hg
      refine .inl ⟨_, W, rfl, e4, Below.refl _ _⟩
    refine And.intro ?_ ?_
    · intro d hd ρ W hcs bw hn hg
      cases hd
      have eg : ρ (.tmp 38) = .bool true := hg _ _ _ _ rfl rfl rfl
      refine .inl ⟨⟨_, _, rfl, rfl, eg⟩, ?_⟩
      have e39 : ρ (.tmp 39) = .slice (some ad) 1 c1 := hn 39 (by decide)
      clear hn hg
      refine .inl ⟨.pointer (some ad), W, ?_, rfl, Below.refl _ _⟩
      have hc1 := hcs.1
      go_simp
    refine And.intro ?_ ?_
    · intro d hd ρ W hcs bw hn hg
      cases hd
      have eg : ρ (.tmp 38) = .bool true := hg _ _ _ _ rfl rfl rfl
      refine .inl ⟨⟨_, _, rfl, rfl, eg⟩, ?_⟩
      have e40 : ρ (.tmp 40) = .pointer (some ad) := hn 40 (by decide)
      clear hn hg
      have y0 : W.cell? ad = some (.int .u8 1) := (bw.cell (show (ad : Addr).block < _ from hla)).trans a0
      have y1 : W.cell? { block := ad.block, off := ad.off + 1 } = some (.int .u32 2) := (bw.cell (show ({ block := ad.block, off := ad.off + 1 } : Addr).block < _ from hla)).trans a1
      have y2 : W.cell? { block := ad.block, off := ad.off + 2 } = some (.int .u8 2) := (bw.cell (show ({ block := ad.block, off := ad.off + 2 } : Addr).block < _ from hla)).trans a2
      have y3 : W.cell? { block := ad.block, off := ad.off + 3 } = some (.string ⟨#[97]⟩) := (bw.cell (show ({ block := ad.block, off := ad.off + 3 } : Addr).block < _ from hla)).trans a3
      have y4 : W.cell? { block := ad.block, off := ad.off + 4 } = some (.string ⟨#[]⟩) := (bw.cell (show ({ block := ad.block, off := ad.off + 4 } : Addr).block < _ from hla)).trans a4
      have y5 : W.cell? { block := ad.block, off := ad.off + 5 } = some (.string ⟨#[120]⟩) := (bw.cell (show ({ block := ad.block, off := ad.off + 5 } : Addr).block < _ from hla)).trans a5
      have y6 : W.cell? { block := ad.block, off := ad.off + 6 } = some (.int .u8 0) := (bw.cell (show ({ block := ad.block, off := ad.off + 6 } : Addr).block < _ from hla)).trans a6
      refine .inl ⟨.agg #[.int .u8 1, .int .u32 2, .int .u8 2, .string ⟨#[97]⟩, .string ⟨#[]⟩, .string ⟨#[120]⟩, .int .u8 0], W, ?_, rfl, Below.refl _ _⟩
      go_simp
    refine And.intro ?_ ?_
    · intro d hd ρ W hcs bw hn hg
      cases hd
      have eg : ρ (.tmp 38) = .bool true := hg _ _ _ _ rfl rfl rfl
      refine .inl ⟨⟨_, _, rfl, rfl, eg⟩, ?_⟩
      have e1 : ρ (.tmp 1) = .pointer (some ⟨w.heap.size, 0, none⟩) := hn 1 (by decide)
      clear hn hg
      have x0 : W.cell? ⟨w.heap.size, 0, none⟩ = some (.int .u8 1) := (bw.cell (show (⟨w.heap.size, 0, none⟩ : Addr).block < _ from hlt)).trans k0
      have x1 : W.cell? ⟨w.heap.size, 1, none⟩ = some (.int .u32 2) := (bw.cell (show (⟨w.heap.size, 1, none⟩ : Addr).block < _ from hlt)).trans k1
      have x2 : W.cell? ⟨w.heap.size, 2, none⟩ = some (.int .u8 2) := (bw.cell (show (⟨w.heap.size, 2, none⟩ : Addr).block < _ from hlt)).trans k2
      have x3 : W.cell? ⟨w.heap.size, 3, none⟩ = some (.string ⟨#[97]⟩) := (bw.cell (show (⟨w.heap.size, 3, none⟩ : Addr).block < _ from hlt)).trans k3
      have x4 : W.cell? ⟨w.heap.size, 4, none⟩ = some (.string ⟨#[]⟩) := (bw.cell (show (⟨w.heap.size, 4, none⟩ : Addr).block < _ from hlt)).trans k4
      have x5 : W.cell? ⟨w.heap.size, 5, none⟩ = some (.string ⟨#[120]⟩) := (bw.cell (show (⟨w.heap.size, 5, none⟩ : Addr).block < _ from hlt)).trans k5
      have x6 : W.cell? ⟨w.heap.size, 6, none⟩ = some (.int .u8 0) := (bw.cell (show (⟨w.heap.size, 6, none⟩ : Addr).block < _ from hlt)).trans k6
      refine .inl ⟨.agg #[.int .u8 1, .int .u32 2, .int .u8 2, .string ⟨#[97]⟩, .string ⟨#[]⟩, .string ⟨#[120]⟩, .int .u8 0], W, ?_, rfl, Below.refl _ _⟩
      go_simp
    refine And.intro ?_ ?_
    · intro d hd ρ W hcs bw hn hg
      cases hd
      have eg : ρ (.tmp 38) = .bool true := hg _ _ _ _ rfl rfl rfl
      refine .inl ⟨⟨_, _, rfl, rfl, eg⟩, ?_⟩
      have e41 : ρ (.tmp 41) = .agg #[.int .u8 1, .int .u32 2, .int .u8 2, .string ⟨#[97]⟩, .string ⟨#[]⟩, .string ⟨#[120]⟩, .int .u8 0] := hn 41 (by decide)
      have e42 : ρ (.tmp 42) = .agg #[.int .u8 1, .int .u32 2, .int .u8 2, .string ⟨#[97]⟩, .string ⟨#[]⟩, .string ⟨#[120]⟩, .int .u8 0] := hn 42 (by decide)
      clear hn hg
      refine .inl ⟨.bool true, W, ?_, rfl, Below.refl _ _⟩
      go_simp
    refine And.intro ?_ ?_
    · intro d hd ρ W hcs bw hn hg
      cases hd
      refine .inl ⟨trivial, ?_⟩
      have e38 : ρ (.tmp 38) = .bool true := hn 38 (by decide)
      have e43 : ρ (.tmp 43) = .bool true := hn 43 (by decide)
      clear hn hg
      refine .inl ⟨.bool true, W, ?_, rfl, Below.refl _ _⟩
      have hc1 := hcs.1
      go_simp
    refine And.intro ?_ ?_
    · intro d hd ρ W hcs bw hn hg
      cases hd
      refine .inl ⟨trivial, ?_⟩
      have e44 : ρ (.tmp 44) = .bool true := hn 44 (by decide)
      clear hn hg
      refine .inl ⟨_, W, rfl, e44, Below.refl _ _⟩
    refine And.intro ?_ ?_
    · intro d hd ρ W hcs bw hn hg
      cases hd
      have eg : ρ (.tmp 45) = .bool true := hg _ _ _ _ rfl rfl rfl
      refine .inl ⟨⟨_, _, rfl, rfl, eg⟩, ?_⟩
      clear hn hg
      refine .inl ⟨.agg #[.int .u8 0, .int .u32 0, .int .u8 0, .string ⟨#[]⟩, .string ⟨#[]⟩, .string ⟨#[]⟩, .int .u8 0], W, ?_, rfl, Below.refl _ _⟩
      go_simp
    refine And.intro ?_ ?_
    · intro d hd ρ W hcs bw hn hg
      cases hd
      have eg : ρ (.tmp 45) = .bool true := hg _ _ _ _ rfl rfl rfl
      refine .inl ⟨⟨_, _, rfl, rfl, eg⟩, ?_⟩
      have e46 : ρ (.tmp 46) = .agg #[.int .u8 0, .int .u32 0, .int .u8 0, .string ⟨#[]⟩, .string ⟨#[]⟩, .string ⟨#[]⟩, .int .u8 0] := hn 46 (by decide)
      clear hn hg
      have ef : ρ (.func 43) = .func (.func 43) #[] #[] := hcs.2 _
      refine .inr ⟨43, #[.agg #[.int .u8 0, .int .u32 0, .int .u8 0, .string ⟨#[]⟩, .string ⟨#[]⟩, .string ⟨#[]⟩, .int .u8 0]], ?_, (HK1.out W).mono ?_⟩
      · go_simp
      · rintro e w2 ⟨rfl, B2⟩; exact ⟨_, rfl, rfl, B2⟩
    refine And.intro ?_ ?_
    · intro d hd ρ W hcs bw hn hg
      cases hd
      have eg : ρ (.tmp 45) = .bool true := hg _ _ _ _ rfl rfl rfl
      refine .inl ⟨⟨_, _, rfl, rfl, eg⟩, ?_⟩
      have e47 : ρ (.tmp 47) = .int .i64 2 := hn 47 (by decide)
      clear hn hg
      refine .inl ⟨.bool true, W, ?_, rfl, Below.refl _ _⟩
      have hc1 := hcs.1
      go_simp
    refine And.intro ?_ ?_
    · intro d hd ρ W hcs bw hn hg
      cases hd
      refine .inl ⟨trivial, ?_⟩
      have e45 : ρ (.tmp 45) = .bool true := hn 45 (by decide)
      have e48 : ρ (.tmp 48) = .bool true := hn 48 (by decide)
      clear hn hg
      refine .inl ⟨.bool true, W, ?_, rfl, Below.refl _ _⟩
      have hc1 := hcs.1
      go_simp
    refine And.intro ?_ ?_
    · intro d hd ρ W hcs bw hn hg
      cases hd
      refine .inl ⟨trivial, ?_⟩
      have e49 : ρ (.tmp 49) = .bool true := hn 49 (by decide)
      clear hn hg
      refine .inl ⟨_, W, rfl, e49, Below.refl _ _⟩
    trivial
  · intro a' w' hsz hdf hb hVs
    have hr : a'.eval (.tmp 0) = .bool true := hVs 0
    have bw := hB4.drew.trans (hb.mono hB4.drew.size)
    clear hVs
    go_wp2
    exact ret_slot Try.results40 hr hdf ⟨rfl, bw⟩
end Go.Proofs.Ytgbnaifjdfoahaa.Cmd
