/- Does a chain tell what the document says? walked. Conditions: the chain lies in memory of its own; the reference's list can be read. -/
import Derived.Test.YtbamfnlgapchkaaChRSpan
import Derived.Test.YtbamfnlgapchkaaChRTail
import Derived.Test.YtbamfnlgapchkaaChROf
import Derived.Test.YtbamfnlgapchkaaChWakes
namespace Go.Proofs.Ytbamfnlgapchkaa.Chn
open Go.RowKit Mem DrawInv

set_option linter.unusedVariables false in
set_option linter.unusedSimpArgs false in
set_option maxRecDepth 100000 in
set_option maxHeartbeats 2000000 in
theorem alike_any {B g : Nat} {c : Ch} {v : Value} {w : World} (q : ChS B g c v w) (A : Option Addr) (u : Value) (h : RefC w c A u) (a b : Nat) (ha64 : a < 18446744073709551616) (hb64 : b < 18446744073709551616) : Calls Try.prog 23 #[.pointer (some ⟨g, 0, none⟩), u, .int .u64 (a : Int), .int .u64 (b : Int)] w fun e w' => e = .returned (.bool true) ∧ Below w.heap.size w w' := by
  have hup := q.ok.up
  have hne := q.ok.ne
  obtain ⟨t, ht⟩ : ∃ t, t = c.top := ⟨_, rfl⟩
  obtain ⟨lo, hlo⟩ : ∃ lo, lo = c.low := ⟨_, rfl⟩
  obtain ⟨sp, hsp⟩ : ∃ s, s = c.span a b := ⟨_, rfl⟩
  obtain ⟨tl, htl⟩ : ∃ s, s = (⟨(Byt.by8 c.tail).toArray⟩ : ByteArray) := ⟨_, rfl⟩
  have hlot : lo ≤ t := by rw [hlo, ht]; unfold Ch.top; omega
  have HAT := Lib.hid (fun (s : Nat) (hs : s < 18446744073709551616) (W : World) (hb : Below w.heap.size w W) => at_any (q.below hb) s hs)
  have HRAT := Lib.hid (fun (s : Nat) (hs : s < 18446744073709551616) (W : World) (hb : Below w.heap.size w W) => rat_any c q.ok A u s hs W (h.below hb))
  have HRT := Lib.hid (fun (W : World) (hb : Below w.heap.size w W) => rtop_any c q.ok.ne q.ok.up q.ok.len A u W (h.below hb))
  have HTP := Lib.hid (fun (W : World) (hb : Below w.heap.size w W) => top_any (q.below hb))
  have HLW := Lib.hid (fun (W : World) (hb : Below w.heap.size w W) => low_any (q.below hb))
  have HTL := Lib.hid (fun (W : World) (hb : Below w.heap.size w W) => tail_any (q.below hb))
  have HRTL := Lib.hid (fun (W : World) (hb : Below w.heap.size w W) => rtail_any c q.ok A u W (h.below hb))
  have HSP := Lib.hid (fun (W : World) (hb : Below w.heap.size w W) => span_any (q.below hb) a b ha64)
  have HRSP := Lib.hid (fun (W : World) (hb : Below w.heap.size w W) => rspan_any c q.ok A u a b ha64 hb64 W (h.below hb))
  rw [← ht] at HRT HTP hup
  rw [← hlo] at HLW
  rw [← hsp] at HSP HRSP
  rw [← htl] at HTL HRTL
  clear ht hsp htl
  obtain ⟨cp, rfl, _, _⟩ := h
  obtain ⟨n, hn⟩ : ∃ n, n = c.dirs.length := ⟨_, rfl⟩
  rw [← hn, ← hlo] at HRT HRAT HRTL HRSP
  rw [← hn, ← hlo]
  obtain ⟨gx, hgx⟩ : ∃ g, g = w.heap.size := ⟨_, rfl⟩
  have kx := Blk.new w 36 #[.int .u64 (lo : Int), .slice A n cp]
  have bA : Below w.heap.size w (w.alloc (.cells #[.int .u64 (lo : Int), .slice A n cp] 36)) := (Below.refl _ w).alloc (Nat.le_refl _) _
  rw [← hgx] at kx
  have H64 := Lib.hid ha64
  clear hn hlo q hne ha64 hb64
  go_enter Try.func23, Try.ntmps23
  go_upto_region 1 with fail
  rw [← hgx]
  clear hgx
  generalize w.alloc (.cells #[.int .u64 (lo : Int), .slice A n cp] 36) = wA at *
  have kd := kx.drew
  have bd : Below w.heap.size w wA.drew := bA.drew
  clear kx bA
  refine region_inv2 (by kernel_rfl) [] [(19, .pointer (some ⟨g, 0, none⟩)), (20, .int .u64 (lo : Int)), (21, .pointer (some ⟨gx, 0, none⟩)), (22, .int .u64 (lo : Int)), (23, .bool false), (24, .bool false), (25, .pointer (some ⟨g, 0, none⟩)), (26, .int .u64 (t : Int)), (27, .agg #[.int .u64 (lo : Int), .slice A n cp]), (28, .int .u64 (t : Int)), (29, .bool false), (30, .bool false), (31, .bool false), (32, .pointer (some ⟨g, 0, none⟩)), (33, .string tl), (34, .agg #[.int .u64 (lo : Int), .slice A n cp]), (35, .string tl), (36, .bool false), (37, .bool false), (38, .bool false), (39, .pointer (some ⟨g, 0, none⟩)), (40, .int .u64 (a : Int)), (41, .int .u64 (b : Int)), (42, .int .u8 (sp : Int)), (43, .agg #[.int .u64 (lo : Int), .slice A n cp]), (44, .int .u64 (a : Int)), (45, .int .u64 (b : Int)), (46, .int .u8 (sp : Int)), (47, .bool false), (48, .bool false)] (by kernel_rfl) (by kernel_rfl) rfl (by kernel_rfl) ?_ ?_ ?_
  · intro q hq; cases hq
  · refine And.intro ?_ ?_
    · intro d hd ρ W hcs bw hn hg
      cases hd
      have e0 : ρ (.tmp 0) = .pointer (some ⟨g, 0, none⟩) := hn 0 (by decide)
      clear hn hg
      refine .inl ⟨trivial, ?_⟩
      refine .inl ⟨_, W, rfl, e0, Below.refl _ _⟩
    refine And.intro ?_ ?_
    · intro d hd ρ W hcs bw hn hg
      cases hd
      have e19 : ρ (.tmp 19) = .pointer (some ⟨g, 0, none⟩) := hn 19 (by decide)
      clear hn hg
      refine .inl ⟨trivial, ?_⟩
      have ef : ρ (.func 25) = .func (.func 25) #[] #[] := hcs.2 _
      refine .inr ⟨25, #[.pointer (some ⟨g, 0, none⟩)], ?_, (HLW.out W (bd.trans (bw.mono bd.size))).mono ?_⟩
      · go_simp
      · rintro e w2 ⟨rfl, rfl⟩; exact ⟨_, rfl, rfl, Below.refl _ _⟩
    refine And.intro ?_ ?_
    · intro d hd ρ W hcs bw hn hg
      cases hd
      have e5 : ρ (.tmp 5) = .pointer (some ⟨gx, 0, none⟩) := hn 5 (by decide)
      clear hn hg
      refine .inl ⟨trivial, ?_⟩
      refine .inl ⟨.pointer (some ⟨gx, 0, none⟩), W, ?_, rfl, Below.refl _ _⟩
      go_simp
    refine And.intro ?_ ?_
    · intro d hd ρ W hcs bw hn hg
      cases hd
      have e21 : ρ (.tmp 21) = .pointer (some ⟨gx, 0, none⟩) := hn 21 (by decide)
      clear hn hg
      refine .inl ⟨trivial, ?_⟩
      have z0 : W.cell? ⟨gx, 0, none⟩ = some (.int .u64 (lo : Int)) := (Blk.below kd bw (Blk.lt kd)).cell 0
      refine .inl ⟨.int .u64 (lo : Int), W, ?_, rfl, Below.refl _ _⟩
      go_simp
    refine And.intro ?_ ?_
    · intro d hd ρ W hcs bw hn hg
      cases hd
      have e20 : ρ (.tmp 20) = .int .u64 (lo : Int) := hn 20 (by decide)
      have e22 : ρ (.tmp 22) = .int .u64 (lo : Int) := hn 22 (by decide)
      clear hn hg
      refine .inl ⟨trivial, ?_⟩
      refine .inl ⟨.bool false, W, ?_, rfl, Below.refl _ _⟩
      go_simp
    refine And.intro ?_ ?_
    · intro d hd ρ W hcs bw hn hg
      cases hd
      have e23 : ρ (.tmp 23) = .bool false := hn 23 (by decide)
      clear hn hg
      refine .inl ⟨trivial, ?_⟩
      refine .inl ⟨_, W, rfl, e23, Below.refl _ _⟩
    refine And.intro ?_ ?_
    · intro d hd ρ W hcs bw hn hg
      cases hd
      have eg : ρ (.tmp 24) = .bool false := hg _ _ _ _ rfl rfl rfl
      have e0 : ρ (.tmp 0) = .pointer (some ⟨g, 0, none⟩) := hn 0 (by decide)
      clear hn hg
      refine .inl ⟨⟨_, _, rfl, rfl, eg⟩, ?_⟩
      refine .inl ⟨_, W, rfl, e0, Below.refl _ _⟩
    refine And.intro ?_ ?_
    · intro d hd ρ W hcs bw hn hg
      cases hd
      have eg : ρ (.tmp 24) = .bool false := hg _ _ _ _ rfl rfl rfl
      have e25 : ρ (.tmp 25) = .pointer (some ⟨g, 0, none⟩) := hn 25 (by decide)
      clear hn hg
      refine .inl ⟨⟨_, _, rfl, rfl, eg⟩, ?_⟩
      have ef : ρ (.func 18) = .func (.func 18) #[] #[] := hcs.2 _
      refine .inr ⟨18, #[.pointer (some ⟨g, 0, none⟩)], ?_, (HTP.out W (bd.trans (bw.mono bd.size))).mono ?_⟩
      · go_simp
      · rintro e w2 ⟨rfl, B2⟩; exact ⟨_, rfl, rfl, B2⟩
    refine And.intro ?_ ?_
    · intro d hd ρ W hcs bw hn hg
      cases hd
      have eg : ρ (.tmp 24) = .bool false := hg _ _ _ _ rfl rfl rfl
      have e5 : ρ (.tmp 5) = .pointer (some ⟨gx, 0, none⟩) := hn 5 (by decide)
      clear hn hg
      refine .inl ⟨⟨_, _, rfl, rfl, eg⟩, ?_⟩
      have z0 : W.cell? ⟨gx, 0, none⟩ = some (.int .u64 (lo : Int)) := (Blk.below kd bw (Blk.lt kd)).cell 0
      have z1 : W.cell? ⟨gx, 1, none⟩ = some (.slice A n cp) := (Blk.below kd bw (Blk.lt kd)).cell 1
      refine .inl ⟨.agg #[.int .u64 (lo : Int), .slice A n cp], W, ?_, rfl, Below.refl _ _⟩
      go_simp
    refine And.intro ?_ ?_
    · intro d hd ρ W hcs bw hn hg
      cases hd
      have eg : ρ (.tmp 24) = .bool false := hg _ _ _ _ rfl rfl rfl
      have e27 : ρ (.tmp 27) = .agg #[.int .u64 (lo : Int), .slice A n cp] := hn 27 (by decide)
      clear hn hg
      refine .inl ⟨⟨_, _, rfl, rfl, eg⟩, ?_⟩
      have ef : ρ (.func 32) = .func (.func 32) #[] #[] := hcs.2 _
      refine .inr ⟨32, #[.agg #[.int .u64 (lo : Int), .slice A n cp]], ?_, (HRT.out W (bd.trans (bw.mono bd.size))).mono ?_⟩
      · go_simp
      · rintro e w2 ⟨rfl, B2⟩; exact ⟨_, rfl, rfl, B2⟩
    refine And.intro ?_ ?_
    · intro d hd ρ W hcs bw hn hg
      cases hd
      have eg : ρ (.tmp 24) = .bool false := hg _ _ _ _ rfl rfl rfl
      have e26 : ρ (.tmp 26) = .int .u64 (t : Int) := hn 26 (by decide)
      have e28 : ρ (.tmp 28) = .int .u64 (t : Int) := hn 28 (by decide)
      clear hn hg
      refine .inl ⟨⟨_, _, rfl, rfl, eg⟩, ?_⟩
      refine .inl ⟨.bool false, W, ?_, rfl, Below.refl _ _⟩
      go_simp
    refine And.intro ?_ ?_
    · intro d hd ρ W hcs bw hn hg
      cases hd
      have e24 : ρ (.tmp 24) = .bool false := hn 24 (by decide)
      have e29 : ρ (.tmp 29) = .bool false := hn 29 (by decide)
      clear hn hg
      refine .inl ⟨trivial, ?_⟩
      have hc1 := hcs.1
      refine .inl ⟨.bool false, W, ?_, rfl, Below.refl _ _⟩
      go_simp
    refine And.intro ?_ ?_
    · intro d hd ρ W hcs bw hn hg
      cases hd
      have e30 : ρ (.tmp 30) = .bool false := hn 30 (by decide)
      clear hn hg
      refine .inl ⟨trivial, ?_⟩
      refine .inl ⟨_, W, rfl, e30, Below.refl _ _⟩
    refine And.intro ?_ ?_
    · intro d hd ρ W hcs bw hn hg
      cases hd
      have eg : ρ (.tmp 31) = .bool false := hg _ _ _ _ rfl rfl rfl
      have e0 : ρ (.tmp 0) = .pointer (some ⟨g, 0, none⟩) := hn 0 (by decide)
      clear hn hg
      refine .inl ⟨⟨_, _, rfl, rfl, eg⟩, ?_⟩
      refine .inl ⟨_, W, rfl, e0, Below.refl _ _⟩
    refine And.intro ?_ ?_
    · intro d hd ρ W hcs bw hn hg
      cases hd
      have eg : ρ (.tmp 31) = .bool false := hg _ _ _ _ rfl rfl rfl
      have e32 : ρ (.tmp 32) = .pointer (some ⟨g, 0, none⟩) := hn 32 (by decide)
      clear hn hg
      refine .inl ⟨⟨_, _, rfl, rfl, eg⟩, ?_⟩
      have ef : ρ (.func 27) = .func (.func 27) #[] #[] := hcs.2 _
      refine .inr ⟨27, #[.pointer (some ⟨g, 0, none⟩)], ?_, (HTL.out W (bd.trans (bw.mono bd.size))).mono ?_⟩
      · go_simp
      · rintro e w2 ⟨rfl, B2⟩; exact ⟨_, rfl, rfl, B2⟩
    refine And.intro ?_ ?_
    · intro d hd ρ W hcs bw hn hg
      cases hd
      have eg : ρ (.tmp 31) = .bool false := hg _ _ _ _ rfl rfl rfl
      have e5 : ρ (.tmp 5) = .pointer (some ⟨gx, 0, none⟩) := hn 5 (by decide)
      clear hn hg
      refine .inl ⟨⟨_, _, rfl, rfl, eg⟩, ?_⟩
      have z0 : W.cell? ⟨gx, 0, none⟩ = some (.int .u64 (lo : Int)) := (Blk.below kd bw (Blk.lt kd)).cell 0
      have z1 : W.cell? ⟨gx, 1, none⟩ = some (.slice A n cp) := (Blk.below kd bw (Blk.lt kd)).cell 1
      refine .inl ⟨.agg #[.int .u64 (lo : Int), .slice A n cp], W, ?_, rfl, Below.refl _ _⟩
      go_simp
    refine And.intro ?_ ?_
    · intro d hd ρ W hcs bw hn hg
      cases hd
      have eg : ρ (.tmp 31) = .bool false := hg _ _ _ _ rfl rfl rfl
      have e34 : ρ (.tmp 34) = .agg #[.int .u64 (lo : Int), .slice A n cp] := hn 34 (by decide)
      clear hn hg
      refine .inl ⟨⟨_, _, rfl, rfl, eg⟩, ?_⟩
      have ef : ρ (.func 33) = .func (.func 33) #[] #[] := hcs.2 _
      refine .inr ⟨33, #[.agg #[.int .u64 (lo : Int), .slice A n cp]], ?_, (HRTL.out W (bd.trans (bw.mono bd.size))).mono ?_⟩
      · go_simp
      · rintro e w2 ⟨rfl, B2⟩; exact ⟨_, rfl, rfl, B2⟩
    refine And.intro ?_ ?_
    · intro d hd ρ W hcs bw hn hg
      cases hd
      have eg : ρ (.tmp 31) = .bool false := hg _ _ _ _ rfl rfl rfl
      have e33 : ρ (.tmp 33) = .string tl := hn 33 (by decide)
      have e35 : ρ (.tmp 35) = .string tl := hn 35 (by decide)
      clear hn hg
      refine .inl ⟨⟨_, _, rfl, rfl, eg⟩, ?_⟩
      refine .inl ⟨.bool false, W, ?_, rfl, Below.refl _ _⟩
      go_simp
    refine And.intro ?_ ?_
    · intro d hd ρ W hcs bw hn hg
      cases hd
      have e31 : ρ (.tmp 31) = .bool false := hn 31 (by decide)
      have e36 : ρ (.tmp 36) = .bool false := hn 36 (by decide)
      clear hn hg
      refine .inl ⟨trivial, ?_⟩
      have hc1 := hcs.1
      refine .inl ⟨.bool false, W, ?_, rfl, Below.refl _ _⟩
      go_simp
    refine And.intro ?_ ?_
    · intro d hd ρ W hcs bw hn hg
      cases hd
      have e37 : ρ (.tmp 37) = .bool false := hn 37 (by decide)
      clear hn hg
      refine .inl ⟨trivial, ?_⟩
      refine .inl ⟨_, W, rfl, e37, Below.refl _ _⟩
    refine And.intro ?_ ?_
    · intro d hd ρ W hcs bw hn hg
      cases hd
      have eg : ρ (.tmp 38) = .bool false := hg _ _ _ _ rfl rfl rfl
      have e0 : ρ (.tmp 0) = .pointer (some ⟨g, 0, none⟩) := hn 0 (by decide)
      clear hn hg
      refine .inl ⟨⟨_, _, rfl, rfl, eg⟩, ?_⟩
      refine .inl ⟨_, W, rfl, e0, Below.refl _ _⟩
    refine And.intro ?_ ?_
    · intro d hd ρ W hcs bw hn hg
      cases hd
      have eg : ρ (.tmp 38) = .bool false := hg _ _ _ _ rfl rfl rfl
      have e2 : ρ (.tmp 2) = .int .u64 (a : Int) := hn 2 (by decide)
      clear hn hg
      refine .inl ⟨⟨_, _, rfl, rfl, eg⟩, ?_⟩
      refine .inl ⟨_, W, rfl, e2, Below.refl _ _⟩
    refine And.intro ?_ ?_
    · intro d hd ρ W hcs bw hn hg
      cases hd
      have eg : ρ (.tmp 38) = .bool false := hg _ _ _ _ rfl rfl rfl
      have e3 : ρ (.tmp 3) = .int .u64 (b : Int) := hn 3 (by decide)
      clear hn hg
      refine .inl ⟨⟨_, _, rfl, rfl, eg⟩, ?_⟩
      refine .inl ⟨_, W, rfl, e3, Below.refl _ _⟩
    refine And.intro ?_ ?_
    · intro d hd ρ W hcs bw hn hg
      cases hd
      have eg : ρ (.tmp 38) = .bool false := hg _ _ _ _ rfl rfl rfl
      have e39 : ρ (.tmp 39) = .pointer (some ⟨g, 0, none⟩) := hn 39 (by decide)
      have e40 : ρ (.tmp 40) = .int .u64 (a : Int) := hn 40 (by decide)
      have e41 : ρ (.tmp 41) = .int .u64 (b : Int) := hn 41 (by decide)
      clear hn hg
      refine .inl ⟨⟨_, _, rfl, rfl, eg⟩, ?_⟩
      have ef : ρ (.func 26) = .func (.func 26) #[] #[] := hcs.2 _
      refine .inr ⟨26, #[.pointer (some ⟨g, 0, none⟩), .int .u64 (a : Int), .int .u64 (b : Int)], ?_, (HSP.out W (bd.trans (bw.mono bd.size))).mono ?_⟩
      · go_simp
      · rintro e w2 ⟨rfl, B2⟩; exact ⟨_, rfl, rfl, B2⟩
    refine And.intro ?_ ?_
    · intro d hd ρ W hcs bw hn hg
      cases hd
      have eg : ρ (.tmp 38) = .bool false := hg _ _ _ _ rfl rfl rfl
      have e5 : ρ (.tmp 5) = .pointer (some ⟨gx, 0, none⟩) := hn 5 (by decide)
      clear hn hg
      refine .inl ⟨⟨_, _, rfl, rfl, eg⟩, ?_⟩
      have z0 : W.cell? ⟨gx, 0, none⟩ = some (.int .u64 (lo : Int)) := (Blk.below kd bw (Blk.lt kd)).cell 0
      have z1 : W.cell? ⟨gx, 1, none⟩ = some (.slice A n cp) := (Blk.below kd bw (Blk.lt kd)).cell 1
      refine .inl ⟨.agg #[.int .u64 (lo : Int), .slice A n cp], W, ?_, rfl, Below.refl _ _⟩
      go_simp
    refine And.intro ?_ ?_
    · intro d hd ρ W hcs bw hn hg
      cases hd
      have eg : ρ (.tmp 38) = .bool false := hg _ _ _ _ rfl rfl rfl
      have e2 : ρ (.tmp 2) = .int .u64 (a : Int) := hn 2 (by decide)
      clear hn hg
      refine .inl ⟨⟨_, _, rfl, rfl, eg⟩, ?_⟩
      refine .inl ⟨_, W, rfl, e2, Below.refl _ _⟩
    refine And.intro ?_ ?_
    · intro d hd ρ W hcs bw hn hg
      cases hd
      have eg : ρ (.tmp 38) = .bool false := hg _ _ _ _ rfl rfl rfl
      have e3 : ρ (.tmp 3) = .int .u64 (b : Int) := hn 3 (by decide)
      clear hn hg
      refine .inl ⟨⟨_, _, rfl, rfl, eg⟩, ?_⟩
      refine .inl ⟨_, W, rfl, e3, Below.refl _ _⟩
    refine And.intro ?_ ?_
    · intro d hd ρ W hcs bw hn hg
      cases hd
      have eg : ρ (.tmp 38) = .bool false := hg _ _ _ _ rfl rfl rfl
      have e43 : ρ (.tmp 43) = .agg #[.int .u64 (lo : Int), .slice A n cp] := hn 43 (by decide)
      have e44 : ρ (.tmp 44) = .int .u64 (a : Int) := hn 44 (by decide)
      have e45 : ρ (.tmp 45) = .int .u64 (b : Int) := hn 45 (by decide)
      clear hn hg
      refine .inl ⟨⟨_, _, rfl, rfl, eg⟩, ?_⟩
      have ef : ρ (.func 72) = .func (.func 72) #[] #[] := hcs.2 _
      refine .inr ⟨72, #[.agg #[.int .u64 (lo : Int), .slice A n cp], .int .u64 (a : Int), .int .u64 (b : Int)], ?_, (HRSP.out W (bd.trans (bw.mono bd.size))).mono ?_⟩
      · go_simp
      · rintro e w2 ⟨rfl, B2⟩; exact ⟨_, rfl, rfl, B2⟩
    refine And.intro ?_ ?_
    · intro d hd ρ W hcs bw hn hg
      cases hd
      have eg : ρ (.tmp 38) = .bool false := hg _ _ _ _ rfl rfl rfl
      have e42 : ρ (.tmp 42) = .int .u8 (sp : Int) := hn 42 (by decide)
      have e46 : ρ (.tmp 46) = .int .u8 (sp : Int) := hn 46 (by decide)
      clear hn hg
      refine .inl ⟨⟨_, _, rfl, rfl, eg⟩, ?_⟩
      refine .inl ⟨.bool false, W, ?_, rfl, Below.refl _ _⟩
      go_simp
    refine And.intro ?_ ?_
    · intro d hd ρ W hcs bw hn hg
      cases hd
      have e38 : ρ (.tmp 38) = .bool false := hn 38 (by decide)
      have e47 : ρ (.tmp 47) = .bool false := hn 47 (by decide)
      clear hn hg
      refine .inl ⟨trivial, ?_⟩
      have hc1 := hcs.1
      refine .inl ⟨.bool false, W, ?_, rfl, Below.refl _ _⟩
      go_simp
    trivial
  · intro a' w' hsz hdf hb hVs
    have q48 : a'.eval (.tmp 48) = .bool false := hVs 48
    have ha := slot_over_seg 19 30 [] rfl (by kernel_rfl) (of_decide_eq_true (by kernel_rfl)) hsz hdf hVs
    clear hVs hsz hdf
    rw [show List.range' 19 30 = [19, 20, 21, 22, 23, 24, 25, 26, 27, 28, 29, 30, 31, 32, 33, 34, 35, 36, 37, 38, 39, 40, 41, 42, 43, 44, 45, 46, 47, 48] from rfl] at ha
    simp only [List.take_succ_cons, List.take_zero, List.drop_succ_cons, List.drop_zero, List.map_cons, List.map_nil, List.cons_append, List.nil_append, List.foldl_cons, List.foldl_nil, List.set_cons_zero, List.set_cons_succ, q48] at ha
    clear q48
    generalize a'.eval (.tmp 19) = x19 at ha
    generalize a'.eval (.tmp 20) = x20 at ha
    generalize a'.eval (.tmp 21) = x21 at ha
    generalize a'.eval (.tmp 22) = x22 at ha
    generalize a'.eval (.tmp 23) = x23 at ha
    generalize a'.eval (.tmp 24) = x24 at ha
    generalize a'.eval (.tmp 25) = x25 at ha
    generalize a'.eval (.tmp 26) = x26 at ha
    generalize a'.eval (.tmp 27) = x27 at ha
    generalize a'.eval (.tmp 28) = x28 at ha
    generalize a'.eval (.tmp 29) = x29 at ha
    generalize a'.eval (.tmp 30) = x30 at ha
    generalize a'.eval (.tmp 31) = x31 at ha
    generalize a'.eval (.tmp 32) = x32 at ha
    generalize a'.eval (.tmp 33) = x33 at ha
    generalize a'.eval (.tmp 34) = x34 at ha
    generalize a'.eval (.tmp 35) = x35 at ha
    generalize a'.eval (.tmp 36) = x36 at ha
    generalize a'.eval (.tmp 37) = x37 at ha
    generalize a'.eval (.tmp 38) = x38 at ha
    generalize a'.eval (.tmp 39) = x39 at ha
    generalize a'.eval (.tmp 40) = x40 at ha
    generalize a'.eval (.tmp 41) = x41 at ha
    generalize a'.eval (.tmp 42) = x42 at ha
    generalize a'.eval (.tmp 43) = x43 at ha
    generalize a'.eval (.tmp 44) = x44 at ha
    generalize a'.eval (.tmp 45) = x45 at ha
    generalize a'.eval (.tmp 46) = x46 at ha
    generalize a'.eval (.tmp 47) = x47 at ha
    subst ha
    have bw := bd.trans (hb.mono bd.size)
    have kx := kd.below hb kd.lt
    clear hb kd bd
    obtain ⟨wB, hwB⟩ : ∃ W : World, W = w' := ⟨_, rfl⟩
    rw [← hwB] at bw kx ⊢
    clear hwB
    obtain ⟨m, hm⟩ : ∃ m, m = lo - 2 := ⟨_, rfl⟩
    have HM := Lib.hid hm
    have x0 := kx.cell 0
    have x1 := kx.cell 1
    clear hm
    go_upto_if 51 with fail
    go_cut [9] (fun s9 wx => s9 = .int .u64 (m : Int) ∧ wx = wB)
    case first =>
      clear kx bw
      by_cases h2 : 2 < lo
      · have h2i : (2 : Int) < (lo : Int) := by omega
        have hw1 : IntKind.u64.wrap ((lo : Int) - 2) = (m : Int) := by rw [IntKind.wrap_u64, HM.out]; omega
        go_wp2_with fail
        go_meet
        exact ⟨rfl, rfl⟩
      · have h2i : ¬ (2 : Int) < (lo : Int) := by omega
        have hz : Hid ((0 : Int) = (m : Int)) := by show _ = _; rw [HM.out]; omega
        go_wp2_with fail
        go_meet
        exact ⟨by rw [hz.out], rfl⟩
    case rest =>
      obtain ⟨rfl, rfl⟩ := hcut
      clear x0 x1
      have hmt : m ≤ t := by have := HM.out; omega
      have hw1 : IntKind.u64.wrap ((t : Int) + 5) = (t : Int) + 5 := by rw [IntKind.wrap_u64]; omega
      have hw2 : IntKind.u64.wrap ((m : Int) + 400) = (m : Int) + 400 := by rw [IntKind.wrap_u64]; omega
      go_wp2_with fail
      go_loopg [10] (t + 6 - m) (fun gk v10 wr => ∃ s : Nat, s + gk = t + 6 ∧ m ≤ s ∧ v10 = .int .u64 (s : Int) ∧ Below w.heap.size w wr ∧ Blk wr gx 36 #[.int .u64 (lo : Int), .slice A n cp])
      case atStart => exact ⟨m, by omega, Nat.le_refl _, rfl, bw, kx⟩
      case round =>
        clear bw kx
        obtain ⟨s, hs, hms, rfl, bw, kx⟩ := hrel
        have x0 := kx.cell 0
        have x1 := kx.cell 1
        have HR := Lib.hid (HRT.out wr bw)
        by_cases h4 : s ≤ t + 5 ∧ s ≤ m + 400
        · have h4i : (s : Int) ≤ (t : Int) + 5 := by omega
          have h5i : (s : Int) ≤ (m : Int) + 400 := by omega
          have hs64 : s < 18446744073709551616 := by omega
          have hw3 : IntKind.u64.wrap ((s : Int) + 1) = (s : Int) + 1 := by rw [IntKind.wrap_u64]; omega
          obtain ⟨x, y, hxy⟩ : ∃ x y, c.at_ s = (x, y) := ⟨_, _, rfl⟩
          have HA := Lib.hid (fun W hb => HAT.out s hs64 W hb)
          have HB := Lib.hid (fun W hb => HRAT.out s hs64 W hb)
          rw [hxy] at HA HB
          clear hxy hs64
          go_wp2_with fail
          refine HR.out.mono ?_; rintro e w2 ⟨rfl, B2⟩
          have bw2 := bw.trans (B2.mono bw.size)
          have kx2 := kx.below B2 kx.lt
          have HA2 := Lib.hid (HA.out w2 bw2)
          clear x0 x1 bw kx B2 HR HA
          go_wp2_with fail
          refine HA2.out.mono ?_; rintro e w3 ⟨rfl, B3⟩
          have bw3 := bw2.trans (B3.mono bw2.size)
          have kx3 := kx2.below B3 kx2.lt
          have HB2 := Lib.hid (HB.out w3 bw3)
          have x0 := kx3.cell 0
          have x1 := kx3.cell 1
          clear bw2 kx2 B3 HA2 HB
          go_wp2_with fail
          refine HB2.out.mono ?_; rintro e w4 ⟨rfl, B4⟩
          have bw4 := bw3.trans (B4.mono bw3.size)
          have kx4 := kx3.below B4 kx3.lt
          clear x0 x1 bw3 kx3 B4 HB2
          go_wp2_with fail
          go_roundg (t + 6 - (s + 1))
          case measure => omega
          case rel => exact ⟨s + 1, by omega, by omega, by go_num, bw4, kx4⟩
        · have HX := Lib.hid (HAT.out a H64.out)
          have HY := Lib.hid (HRAT.out a H64.out)
          obtain ⟨x, y, hxy⟩ : ∃ x y, c.at_ a = (x, y) := ⟨_, _, rfl⟩
          rw [hxy] at HX HY
          clear hxy
          by_cases h5 : s ≤ t + 5
          · have h4i : (s : Int) ≤ (t : Int) + 5 := by omega
            have h5i : ¬ (s : Int) ≤ (m : Int) + 400 := by omega
            clear h4 h5
            go_wp2_with fail
            refine HR.out.mono ?_; rintro e w2 ⟨rfl, B2⟩
            have bw2 := bw.trans (B2.mono bw.size)
            have kx2 := kx.below B2 kx.lt
            have HX2 := Lib.hid (HX.out w2 bw2)
            clear x0 x1 bw kx B2 HR HX
            go_wp2_with fail
            refine HX2.out.mono ?_; rintro e w3 ⟨rfl, B3⟩
            have bw3 := bw2.trans (B3.mono bw2.size)
            have kx3 := kx2.below B3 kx2.lt
            have HY2 := Lib.hid (HY.out w3 bw3)
            have x0 := kx3.cell 0
            have x1 := kx3.cell 1
            clear bw2 kx2 B3 HX2 HY
            go_wp2_with fail
            refine HY2.out.mono ?_; rintro e w4 ⟨rfl, B4⟩
            have bw4 := bw3.trans (B4.mono bw3.size)
            clear x0 x1 bw3 kx3 B4 HY2
            go_wp2_with fail
            go_ret
            exact ⟨by simp, bw4⟩
          · have h4i : ¬ (s : Int) ≤ (t : Int) + 5 := by omega
            clear h4 h5
            go_wp2_with fail
            refine HR.out.mono ?_; rintro e w2 ⟨rfl, B2⟩
            have bw2 := bw.trans (B2.mono bw.size)
            have kx2 := kx.below B2 kx.lt
            have HX2 := Lib.hid (HX.out w2 bw2)
            clear x0 x1 bw kx B2 HR HX
            go_wp2_with fail
            refine HX2.out.mono ?_; rintro e w3 ⟨rfl, B3⟩
            have bw3 := bw2.trans (B3.mono bw2.size)
            have kx3 := kx2.below B3 kx2.lt
            have HY2 := Lib.hid (HY.out w3 bw3)
            have x0 := kx3.cell 0
            have x1 := kx3.cell 1
            clear bw2 kx2 B3 HX2 HY
            go_wp2_with fail
            refine HY2.out.mono ?_; rintro e w4 ⟨rfl, B4⟩
            have bw4 := bw3.trans (B4.mono bw3.size)
            clear x0 x1 bw3 kx3 B4 HY2
            go_wp2_with fail
            go_ret
            exact ⟨by simp, bw4⟩
end Go.Proofs.Ytbamfnlgapchkaa.Chn
