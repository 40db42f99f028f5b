/- Package cmd, walked: Take. Conditions: the reader's block holds it; its bytes are fewer than 2^62. -/
import Derived.Test.YteiaiilfekojfaaGreatQNetOrderCmdCheck
import Derived.Test.YteiaiilfekojfaaGreatQNetOrderWireNum
import Derived.Test.YteiaiilfekojfaaGreatQNetOrderWireWakes
namespace Go.Proofs.YteiaiilfekojfaaGreat.Cmd
open Go.RowKit Wire

def cm0 : Cm := ⟨0, 0, 0, [], [], [], 0⟩
/-- What is read as a command, and the reader behind it. -/
def takeC (r : Rd) : Cm × Rd :=
  let a := r.byte
  let b := a.2.below 4294967296
  let k := b.2.byte
  let s := k.2.str 16
  let t := s.2.str 64
  let u := t.2.str 64
  let z := u.2.byte
  let c : Cm := ⟨a.1, b.1, k.1, s.1, t.1, u.1, z.1⟩
  let q := if mayB c then z.2 else z.2.bad
  (if q.err = 0 then c else cm0, q)
def CmRet (w : World) (g : Nat) (p : Cm × Rd) (e : Ending) (w' : World) : Prop := e = .returned (cmV p.1) ∧ RdGo w g p.2 w'
theorem byte_is {g : Nat} {r : Rd} {p : Nat × Rd} (e : r.byte = p) (hl : r.rest.length < 4611686018427387904) (w : World) (h : RdAt w g r) :
    Calls Tryz.prog 58 #[.pointer (some ⟨g, 0, none⟩)] w fun e w' => ByteRet w g p e w' := e ▸ byte_any g r hl w h
theorem below_is {g : Nat} {r : Rd} {n : Nat} {p : Nat × Rd} (e : r.below n = p) (hl : r.rest.length < 4611686018427387904) (w : World) (h : RdAt w g r) :
    Calls Tryz.prog 92 #[.pointer (some ⟨g, 0, none⟩), .int .u64 (n : Int)] w fun e w' => NumRet w g p e w' := e ▸ Below_any g r n hl w h
theorem go_bel {w w1 w2 : World} {g : Nat} {r : Rd} (h : RdGo w g r w1) (hb : Below w1.heap.size w1 w2) : RdGo w g r w2 :=
  ⟨Blk.below h.1 hb (Blk.lt h.1), grown_step h.2 (only_of_below hb (some g))⟩
theorem go_put {w w1 : World} {g : Nat} {r : Rd} (h : RdGo w g r w1) (hg : g < w.heap.size) {p : Addr} (hp : w.heap.size ≤ p.block) (u : Value) : RdGo w g r (w1.setCell p u) :=
  ⟨Blk.far h.1 (by omega) u, only_setCell h.2 (.inr hp) u⟩
theorem bad_err (r : Rd) : r.bad.err ≠ 0 := by
  unfold Rd.bad Rd.fail
  by_cases h : r.err = 0
  · rw [if_pos h]; simp
  · rw [if_neg h]; exact h
/-- Where a walk of Take stands: the reader, the result's cells, the command's cells. -/
structure Tk (w : World) (g : Nat) (r : Rd) (w1 : World) (cs : Array Value) : Prop where
  go : RdGo w g r w1
  z : Blk w1 w.heap.size 29 #[.int .u8 0, .int .u32 0, .int .u8 0, .string ⟨#[]⟩, .string ⟨#[]⟩, .string ⟨#[]⟩, .int .u8 0]
  x : Blk w1 (w.heap.size + 1) 29 cs
  lt : g < w.heap.size
theorem Tk.read {w w1 w2 : World} {g : Nat} {r r' : Rd} {cs : Array Value} (h : Tk w g r w1 cs) (k : RdGo w1 g r' w2) : Tk w g r' w2 cs :=
  ⟨h.go.trans k, h.z.grown k.2 (by have := h.lt; simp; omega), h.x.grown k.2 (by have := h.lt; simp; omega), h.lt⟩
theorem Tk.put {w w1 : World} {g : Nat} {r : Rd} {cs : Array Value} (h : Tk w g r w1 cs) (j : Nat) (v : Value) {cs' : Array Value} (e : cs.setIfInBounds j v = cs') : Tk w g r (w1.setCell ⟨w.heap.size + 1, j, none⟩ v) cs' :=
  ⟨go_put h.go h.lt (by simp) v, h.z.far (by simp) v, e ▸ h.x.set_ j v, h.lt⟩
theorem Tk.below {w w1 w2 : World} {g : Nat} {r : Rd} {cs : Array Value} (h : Tk w g r w1 cs) (hb : Below w1.heap.size w1 w2) : Tk w g r w2 cs :=
  ⟨go_bel h.go hb, h.z.below hb h.z.lt, h.x.below hb h.x.lt, h.lt⟩
theorem Tk.start {w : World} {g : Nat} {r : Rd} (h : RdAt w g r) : Tk w g r ((w.alloc (.cells #[.int .u8 0, .int .u32 0, .int .u8 0, .string ⟨#[]⟩, .string ⟨#[]⟩, .string ⟨#[]⟩, .int .u8 0] 29)).alloc (.cells #[.int .u8 0, .int .u32 0, .int .u8 0, .string ⟨#[]⟩, .string ⟨#[]⟩, .string ⟨#[]⟩, .int .u8 0] 29)) #[.int .u8 0, .int .u32 0, .int .u8 0, .string ⟨#[]⟩, .string ⟨#[]⟩, .string ⟨#[]⟩, .int .u8 0] :=
  ⟨⟨Blk.alloc (Blk.alloc h _) _, only_alloc (only_alloc (World.grownBy.refl w _) _) _⟩, (Blk.new w _ _).alloc _, by have := Blk.new (w.alloc (.cells #[.int .u8 0, .int .u32 0, .int .u8 0, .string ⟨#[]⟩, .string ⟨#[]⟩, .string ⟨#[]⟩, .int .u8 0] 29)) 29 #[.int .u8 0, .int .u32 0, .int .u8 0, .string ⟨#[]⟩, .string ⟨#[]⟩, .string ⟨#[]⟩, .int .u8 0]; simpa using this, Blk.lt h⟩

set_option linter.unusedSimpArgs false in
set_option maxRecDepth 100000 in
set_option maxHeartbeats 8000000 in
theorem take_cmd (g : Nat) (r r1 r2 r3 r4 r5 r6 r7 : Rd) (a b k z : Nat) (s t u : List UInt8) (hf : Cm.Fits (⟨a, b, k, s, t, u, z⟩ : Cm)) (hl : r.rest.length < 4611686018427387904) (hl1 : r1.rest.length < 4611686018427387904) (hl2 : r2.rest.length < 4611686018427387904) (hl3 : r3.rest.length < 4611686018427387904) (hl4 : r4.rest.length < 4611686018427387904) (hl5 : r5.rest.length < 4611686018427387904) (hl6 : r6.rest.length < 4611686018427387904)
    (e1 : r.byte = (a, r1)) (e2 : r1.below 4294967296 = (b, r2)) (e3 : r2.byte = (k, r3)) (e4 : r3.str 16 = (s, r4)) (e5 : r4.str 64 = (t, r5)) (e6 : r5.str 64 = (u, r6)) (e7 : r6.byte = (z, r7)) (w : World) (h : RdAt w g r) :
    Calls Tryz.prog 113 #[.pointer (some ⟨g, 0, none⟩)] w fun e w' => CmRet w g (takeC r) e w' := by
  have et : takeC r = (if (if mayB (⟨a, b, k, s, t, u, z⟩ : Cm) then r7 else r7.bad).err = 0 then (⟨a, b, k, s, t, u, z⟩ : Cm) else cm0, if mayB (⟨a, b, k, s, t, u, z⟩ : Cm) then r7 else r7.bad) := by unfold takeC; rw [e1]; simp only; rw [e2]; simp only; rw [e3]; simp only; rw [e4]; simp only; rw [e5]; simp only; rw [e6]; simp only; rw [e7]
  rw [et]
  obtain ⟨p, hp⟩ : ∃ p : Cm × Rd, p = (if (if mayB (⟨a, b, k, s, t, u, z⟩ : Cm) then r7 else r7.bad).err = 0 then (⟨a, b, k, s, t, u, z⟩ : Cm) else cm0, if mayB (⟨a, b, k, s, t, u, z⟩ : Cm) then r7 else r7.bad) := ⟨_, rfl⟩
  rw [← hp]
  have P := Lib.hid hp
  have HE1 := Lib.hid e1
  have HE2 := Lib.hid e2
  have HE3 := Lib.hid e3
  have HE4 := Lib.hid e4
  have HE5 := Lib.hid e5
  have HE6 := Lib.hid e6
  have HE7 := Lib.hid e7
  have hb2 : b < 4294967296 := hf.h2
  have hck := fun W => check_any (⟨a, b, k, s, t, u, z⟩ : Cm) hf W
  have HK := Lib.hid hck
  clear hck
  have K := Tk.start h
  clear et e1 e2 e3 e4 e5 e6 e7 h hp
  go_enter Tryz.func113, Tryz.ntmps113
  go_upto_region 2 with fail
  generalize ((w.alloc (.cells #[.int .u8 0, .int .u32 0, .int .u8 0, .string ⟨#[]⟩, .string ⟨#[]⟩, .string ⟨#[]⟩, .int .u8 0] 29)).alloc (.cells #[.int .u8 0, .int .u32 0, .int .u8 0, .string ⟨#[]⟩, .string ⟨#[]⟩, .string ⟨#[]⟩, .int .u8 0] 29)) = w0 at *
  go_wp2_with fail
  refine (byte_is HE1.out hl _ K.go.1).mono ?_; rintro e v1 ⟨rfl, g1⟩
  have K' := K.read g1
  clear K g1
  have K := K'
  clear K'
  have c1 := K.x.cell 0
  have f1 := K.x.frozen 0
  simp at c1
  have K' := K.put 0 (.int .u8 (a : Int)) (cs' := #[.int .u8 (a : Int), .int .u32 0, .int .u8 0, .string ⟨#[]⟩, .string ⟨#[]⟩, .string ⟨#[]⟩, .int .u8 0]) rfl
  go_upto_region 3 with fail
  clear c1 f1 K
  have K := K'
  clear K'
  generalize v1.setCell ⟨w.heap.size + 1, 0, none⟩ (.int .u8 (a : Int)) = w1 at *
  go_wp2_with fail
  refine (below_is HE2.out hl1 _ K.go.1).mono ?_; rintro e v2 ⟨rfl, g1⟩
  have K' := K.read g1
  clear K g1
  have K := K'
  clear K'
  have c1 := K.x.cell 1
  have f1 := K.x.frozen 1
  simp at c1
  have K' := K.put 1 (.int .u32 (b : Int)) (cs' := #[.int .u8 (a : Int), .int .u32 (b : Int), .int .u8 0, .string ⟨#[]⟩, .string ⟨#[]⟩, .string ⟨#[]⟩, .int .u8 0]) rfl
  go_upto_region 4 with fail
  clear c1 f1 K
  have K := K'
  clear K'
  generalize v2.setCell ⟨w.heap.size + 1, 1, none⟩ (.int .u32 (b : Int)) = w2 at *
  go_wp2_with fail
  refine (byte_is HE3.out hl2 _ K.go.1).mono ?_; rintro e v3 ⟨rfl, g1⟩
  have K' := K.read g1
  clear K g1
  have K := K'
  clear K'
  have c1 := K.x.cell 2
  have f1 := K.x.frozen 2
  simp at c1
  have K' := K.put 2 (.int .u8 (k : Int)) (cs' := #[.int .u8 (a : Int), .int .u32 (b : Int), .int .u8 (k : Int), .string ⟨#[]⟩, .string ⟨#[]⟩, .string ⟨#[]⟩, .int .u8 0]) rfl
  go_upto_region 5 with fail
  clear c1 f1 K
  have K := K'
  clear K'
  generalize v3.setCell ⟨w.heap.size + 1, 2, none⟩ (.int .u8 (k : Int)) = w3 at *
  go_wp2_with fail
  refine (str_eq HE4.out (by decide) (by decide) hl3 _ K.go.1).mono ?_; rintro e v4 ⟨rfl, g1⟩
  have K' := K.read g1
  clear K g1
  have K := K'
  clear K'
  have c1 := K.x.cell 3
  have f1 := K.x.frozen 3
  simp at c1
  have K' := K.put 3 (.string ⟨s.toArray⟩) (cs' := #[.int .u8 (a : Int), .int .u32 (b : Int), .int .u8 (k : Int), .string ⟨s.toArray⟩, .string ⟨#[]⟩, .string ⟨#[]⟩, .int .u8 0]) rfl
  go_upto_region 6 with fail
  clear c1 f1 K
  have K := K'
  clear K'
  generalize v4.setCell ⟨w.heap.size + 1, 3, none⟩ (.string ⟨s.toArray⟩) = w4 at *
  go_wp2_with fail
  refine (str_eq HE5.out (by decide) (by decide) hl4 _ K.go.1).mono ?_; rintro e v5 ⟨rfl, g1⟩
  have K' := K.read g1
  clear K g1
  have K := K'
  clear K'
  have c1 := K.x.cell 4
  have f1 := K.x.frozen 4
  simp at c1
  have K' := K.put 4 (.string ⟨t.toArray⟩) (cs' := #[.int .u8 (a : Int), .int .u32 (b : Int), .int .u8 (k : Int), .string ⟨s.toArray⟩, .string ⟨t.toArray⟩, .string ⟨#[]⟩, .int .u8 0]) rfl
  go_upto_region 7 with fail
  clear c1 f1 K
  have K := K'
  clear K'
  generalize v5.setCell ⟨w.heap.size + 1, 4, none⟩ (.string ⟨t.toArray⟩) = w5 at *
  go_wp2_with fail
  refine (str_eq HE6.out (by decide) (by decide) hl5 _ K.go.1).mono ?_; rintro e v6 ⟨rfl, g1⟩
  have K' := K.read g1
  clear K g1
  have K := K'
  clear K'
  have c1 := K.x.cell 5
  have f1 := K.x.frozen 5
  simp at c1
  have K' := K.put 5 (.string ⟨u.toArray⟩) (cs' := #[.int .u8 (a : Int), .int .u32 (b : Int), .int .u8 (k : Int), .string ⟨s.toArray⟩, .string ⟨t.toArray⟩, .string ⟨u.toArray⟩, .int .u8 0]) rfl
  go_upto_region 8 with fail
  clear c1 f1 K
  have K := K'
  clear K'
  generalize v6.setCell ⟨w.heap.size + 1, 5, none⟩ (.string ⟨u.toArray⟩) = w6 at *
  go_wp2_with fail
  refine (byte_is HE7.out hl6 _ K.go.1).mono ?_; rintro e v7 ⟨rfl, g1⟩
  have K' := K.read g1
  clear K g1
  have K := K'
  clear K'
  have c1 := K.x.cell 6
  have f1 := K.x.frozen 6
  simp at c1
  have K' := K.put 6 (.int .u8 (z : Int)) (cs' := #[.int .u8 (a : Int), .int .u32 (b : Int), .int .u8 (k : Int), .string ⟨s.toArray⟩, .string ⟨t.toArray⟩, .string ⟨u.toArray⟩, .int .u8 (z : Int)]) rfl
  go_upto_region 9 with fail
  clear c1 f1 K
  have K := K'
  clear K'
  generalize v7.setCell ⟨w.heap.size + 1, 6, none⟩ (.int .u8 (z : Int)) = w7 at *
  have x0 := K.x.cell 0
  have x1 := K.x.cell 1
  have x2 := K.x.cell 2
  have x3 := K.x.cell 3
  have x4 := K.x.cell 4
  have x5 := K.x.cell 5
  have x6 := K.x.cell 6
  simp at x0 x1 x2 x3 x4 x5 x6
  unfold cmV cmC at HK
  dsimp only at HK
  generalize mayB (⟨a, b, k, s, t, u, z⟩ : Cm) = m at *
  go_wp2_with fail
  refine (HK.out _).mono ?_; rintro e w8 ⟨rfl, B8⟩
  have K' := K.below B8
  clear K B8 x0 x1 x2 x3 x4 x5 x6
  have K := K'
  clear K' HK HE1 HE2 HE3 HE4 HE5 HE6 HE7
  cases m
  · go_wp2_with fail
    refine (bad_any g r7 _ K.go.1).mono ?_; rintro e w9 ⟨⟨v, rfl⟩, g9⟩
    have K' := K.read g9
    clear K g9
    go_wp2_with fail
    refine (err_any g r7.bad _ K'.go.1).mono ?_; rintro e w10 ⟨rfl, rfl⟩
    have ne : ((r7.bad.err : Int) != 0) = true := by have := bad_err r7; rw [bne_iff_ne]; omega
    have hp : p = (cm0, r7.bad) := by rw [P.out]; simp [bad_err r7]
    have HP := Lib.hid hp
    clear hp P
    have f0 := K'.z.frozen 0
    have f1 := K'.z.frozen 1
    have f2 := K'.z.frozen 2
    have f3 := K'.z.frozen 3
    have f4 := K'.z.frozen 4
    have f5 := K'.z.frozen 5
    have f6 := K'.z.frozen 6
    have c0 := K'.z.cell 0
    have c1 := K'.z.cell 1
    have c2 := K'.z.cell 2
    have c3 := K'.z.cell 3
    have c4 := K'.z.cell 4
    have c5 := K'.z.cell 5
    have c6 := K'.z.cell 6
    simp at c0 c1 c2 c3 c4 c5 c6
    have HZ := Lib.hid (((((((K'.z.set_ 0 (.int .u8 0)).set_ 1 (.int .u32 0)).set_ 2 (.int .u8 0)).set_ 3 (.string ⟨#[]⟩)).set_ 4 (.string ⟨#[]⟩)).set_ 5 (.string ⟨#[]⟩)).set_ 6 (.int .u8 0))
    have HG := Lib.hid (go_put (go_put (go_put (go_put (go_put (go_put (go_put K'.go K'.lt (p := ⟨w.heap.size, 0, none⟩) (Nat.le_refl _) (.int .u8 0)) K'.lt (p := ⟨w.heap.size, 1, none⟩) (Nat.le_refl _) (.int .u32 0)) K'.lt (p := ⟨w.heap.size, 2, none⟩) (Nat.le_refl _) (.int .u8 0)) K'.lt (p := ⟨w.heap.size, 3, none⟩) (Nat.le_refl _) (.string ⟨#[]⟩)) K'.lt (p := ⟨w.heap.size, 4, none⟩) (Nat.le_refl _) (.string ⟨#[]⟩)) K'.lt (p := ⟨w.heap.size, 5, none⟩) (Nat.le_refl _) (.string ⟨#[]⟩)) K'.lt (p := ⟨w.heap.size, 6, none⟩) (Nat.le_refl _) (.int .u8 0))
    clear K'
    go_wp2_with fail
    have y0 := HZ.out.cell 0
    have y1 := HZ.out.cell 1
    have y2 := HZ.out.cell 2
    have y3 := HZ.out.cell 3
    have y4 := HZ.out.cell 4
    have y5 := HZ.out.cell 5
    have y6 := HZ.out.cell 6
    simp at y0 y1 y2 y3 y4 y5 y6
    refine bodyPost_ret (v := cmV cm0) (by simp [results, Tryz.results113, go_sem, cmV, cmC, cm0, y0, y1, y2, y3, y4, y5, y6]) rfl ?_
    rw [HP.out]
    exact ⟨rfl, HG.out⟩
  · go_wp2_with fail
    refine (err_any g r7 _ K.go.1).mono ?_; rintro e w10 ⟨rfl, rfl⟩
    by_cases h0 : r7.err = 0
    · have ne : ((r7.err : Int) != 0) = false := by rw [h0]; rfl
      have hp : p = ((⟨a, b, k, s, t, u, z⟩ : Cm), r7) := by rw [P.out]; simp [h0]
      have HP := Lib.hid hp
      clear hp P h0
      have x0 := K.x.cell 0
      have x1 := K.x.cell 1
      have x2 := K.x.cell 2
      have x3 := K.x.cell 3
      have x4 := K.x.cell 4
      have x5 := K.x.cell 5
      have x6 := K.x.cell 6
      simp at x0 x1 x2 x3 x4 x5 x6
      have f0 := K.z.frozen 0
      have f1 := K.z.frozen 1
      have f2 := K.z.frozen 2
      have f3 := K.z.frozen 3
      have f4 := K.z.frozen 4
      have f5 := K.z.frozen 5
      have f6 := K.z.frozen 6
      have c0 := K.z.cell 0
      have c1 := K.z.cell 1
      have c2 := K.z.cell 2
      have c3 := K.z.cell 3
      have c4 := K.z.cell 4
      have c5 := K.z.cell 5
      have c6 := K.z.cell 6
      simp at c0 c1 c2 c3 c4 c5 c6
      have HZ := Lib.hid (((((((K.z.set_ 0 (.int .u8 (a : Int))).set_ 1 (.int .u32 (b : Int))).set_ 2 (.int .u8 (k : Int))).set_ 3 (.string ⟨s.toArray⟩)).set_ 4 (.string ⟨t.toArray⟩)).set_ 5 (.string ⟨u.toArray⟩)).set_ 6 (.int .u8 (z : Int)))
      have HG := Lib.hid (go_put (go_put (go_put (go_put (go_put (go_put (go_put K.go K.lt (p := ⟨w.heap.size, 0, none⟩) (Nat.le_refl _) (.int .u8 (a : Int))) K.lt (p := ⟨w.heap.size, 1, none⟩) (Nat.le_refl _) (.int .u32 (b : Int))) K.lt (p := ⟨w.heap.size, 2, none⟩) (Nat.le_refl _) (.int .u8 (k : Int))) K.lt (p := ⟨w.heap.size, 3, none⟩) (Nat.le_refl _) (.string ⟨s.toArray⟩)) K.lt (p := ⟨w.heap.size, 4, none⟩) (Nat.le_refl _) (.string ⟨t.toArray⟩)) K.lt (p := ⟨w.heap.size, 5, none⟩) (Nat.le_refl _) (.string ⟨u.toArray⟩)) K.lt (p := ⟨w.heap.size, 6, none⟩) (Nat.le_refl _) (.int .u8 (z : Int)))
      clear K
      go_wp2_with fail
      have y0 := HZ.out.cell 0
      have y1 := HZ.out.cell 1
      have y2 := HZ.out.cell 2
      have y3 := HZ.out.cell 3
      have y4 := HZ.out.cell 4
      have y5 := HZ.out.cell 5
      have y6 := HZ.out.cell 6
      simp at y0 y1 y2 y3 y4 y5 y6
      refine bodyPost_ret (v := cmV (⟨a, b, k, s, t, u, z⟩ : Cm)) (by simp [results, Tryz.results113, go_sem, cmV, cmC, cm0, y0, y1, y2, y3, y4, y5, y6]) rfl ?_
      rw [HP.out]
      exact ⟨rfl, HG.out⟩
    · have ne : ((r7.err : Int) != 0) = true := by rw [bne_iff_ne]; omega
      have hp : p = (cm0, r7) := by rw [P.out]; simp [h0]
      have HP := Lib.hid hp
      clear hp P h0
      have f0 := K.z.frozen 0
      have f1 := K.z.frozen 1
      have f2 := K.z.frozen 2
      have f3 := K.z.frozen 3
      have f4 := K.z.frozen 4
      have f5 := K.z.frozen 5
      have f6 := K.z.frozen 6
      have c0 := K.z.cell 0
      have c1 := K.z.cell 1
      have c2 := K.z.cell 2
      have c3 := K.z.cell 3
      have c4 := K.z.cell 4
      have c5 := K.z.cell 5
      have c6 := K.z.cell 6
      simp at c0 c1 c2 c3 c4 c5 c6
      have HZ := Lib.hid (((((((K.z.set_ 0 (.int .u8 0)).set_ 1 (.int .u32 0)).set_ 2 (.int .u8 0)).set_ 3 (.string ⟨#[]⟩)).set_ 4 (.string ⟨#[]⟩)).set_ 5 (.string ⟨#[]⟩)).set_ 6 (.int .u8 0))
      have HG := Lib.hid (go_put (go_put (go_put (go_put (go_put (go_put (go_put K.go K.lt (p := ⟨w.heap.size, 0, none⟩) (Nat.le_refl _) (.int .u8 0)) K.lt (p := ⟨w.heap.size, 1, none⟩) (Nat.le_refl _) (.int .u32 0)) K.lt (p := ⟨w.heap.size, 2, none⟩) (Nat.le_refl _) (.int .u8 0)) K.lt (p := ⟨w.heap.size, 3, none⟩) (Nat.le_refl _) (.string ⟨#[]⟩)) K.lt (p := ⟨w.heap.size, 4, none⟩) (Nat.le_refl _) (.string ⟨#[]⟩)) K.lt (p := ⟨w.heap.size, 5, none⟩) (Nat.le_refl _) (.string ⟨#[]⟩)) K.lt (p := ⟨w.heap.size, 6, none⟩) (Nat.le_refl _) (.int .u8 0))
      clear K
      go_wp2_with fail
      have y0 := HZ.out.cell 0
      have y1 := HZ.out.cell 1
      have y2 := HZ.out.cell 2
      have y3 := HZ.out.cell 3
      have y4 := HZ.out.cell 4
      have y5 := HZ.out.cell 5
      have y6 := HZ.out.cell 6
      simp at y0 y1 y2 y3 y4 y5 y6
      refine bodyPost_ret (v := cmV cm0) (by simp [results, Tryz.results113, go_sem, cmV, cmC, cm0, y0, y1, y2, y3, y4, y5, y6]) rfl ?_
      rw [HP.out]
      exact ⟨rfl, HG.out⟩
end Go.Proofs.YteiaiilfekojfaaGreat.Cmd
