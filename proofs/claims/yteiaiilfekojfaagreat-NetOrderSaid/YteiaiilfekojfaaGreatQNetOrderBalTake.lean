/- Package ballot, walked: Take. Conditions: the reader's block holds it; its bytes are fewer than 2^62. -/
import Derived.Test.YteiaiilfekojfaaGreatQNetOrderBalLaw
namespace Go.Proofs.YteiaiilfekojfaaGreat.Bal
open Go.RowKit Wire

def takeB (r : Rd) : B × Rd :=
  let p := r.num
  let q := p.2.byte
  let s := if mayB ⟨p.1, q.1⟩ then q.2 else q.2.bad
  (if s.err = 0 then ⟨p.1, q.1⟩ else ⟨0, 0⟩, s)
def BalRet (w : World) (g : Nat) (p : B × Rd) (e : Ending) (w' : World) : Prop := e = .returned (bV p.1) ∧ RdGo w g p.2 w'
theorem byte_eq {g : Nat} {r : Rd} {p : Nat × Rd} (e : r.byte = p) (hl : r.rest.length < 4611686018427387904) (w : World) (h : RdAt w g r) :
    Calls Tryz.prog 58 #[.pointer (some ⟨g, 0, none⟩)] w fun e w' => ByteRet w g p e w' := e ▸ byte_any g r hl w h
theorem go_below {w w1 w2 : World} {g : Nat} {r : Rd} (h : RdGo w g r w1) (hb : Below w1.heap.size w1 w2) : RdGo w g r w2 :=
  ⟨Blk.below h.1 hb (Blk.lt h.1), grown_step h.2 (only_of_below hb (some g))⟩
theorem go_set {w w1 : World} {g : Nat} {r : Rd} (h : RdGo w g r w1) (hg : g < w.heap.size) {p : Addr} (hp : w.heap.size ≤ p.block) (u : Value) : RdGo w g r (w1.setCell p u) :=
  ⟨Blk.far h.1 (by omega) u, only_setCell h.2 (.inr hp) u⟩
theorem bad_err (r : Rd) : r.bad.err ≠ 0 := by
  unfold Rd.bad Rd.fail
  by_cases h : r.err = 0
  · rw [if_pos h]; simp
  · rw [if_neg h]; exact h

set_option linter.unusedSimpArgs false in
set_option maxRecDepth 100000 in
set_option maxHeartbeats 4000000 in
theorem take_bal (g : Nat) (r r1 r2 : Rd) (n c : Nat) (hl : r.rest.length < 4611686018427387904) (e1 : r.num = (n, r1)) (hl1 : r1.rest.length < 4611686018427387904) (e2 : r1.byte = (c, r2)) (w : World) (h : RdAt w g r) :
    Calls Tryz.prog 134 #[.pointer (some ⟨g, 0, none⟩)] w fun e w' => BalRet w g (takeB r) e w' := by
  have et : takeB r = (if (if mayB ⟨n, c⟩ then r2 else r2.bad).err = 0 then ⟨n, c⟩ else ⟨0, 0⟩, if mayB ⟨n, c⟩ then r2 else r2.bad) := by unfold takeB; rw [e1]; simp only; rw [e2]
  rw [et]
  obtain ⟨p, hp⟩ : ∃ p : B × Rd, p = (if (if mayB ⟨n, c⟩ then r2 else r2.bad).err = 0 then ⟨n, c⟩ else ⟨0, 0⟩, if mayB ⟨n, c⟩ then r2 else r2.bad) := ⟨_, rfl⟩
  rw [← hp]
  have P := Lib.hid hp
  have hgl := Blk.lt h
  have HE1 := Lib.hid e1
  have HE2 := Lib.hid e2
  have HR := Lib.hid h
  clear et e1 e2 h hp
  have o0 : w.grownBy (w.alloc (.cells #[.int .u64 0, .int .u8 0] 24)) (some g) := only_alloc (World.grownBy.refl w _) _
  go_enter Tryz.func134, Tryz.ntmps134
  go_wp2_with fail
  refine (num_eq HE1.out hl _ (Blk.alloc HR.out _)).mono ?_; rintro e w1 ⟨rfl, g1⟩
  have hz1 := (Blk.new w 24 #[.int .u64 0, .int .u8 0]).grown g1.2 (by simp; omega)
  have G1 : RdGo w g r1 w1 := ⟨g1.1, grown_step o0 g1.2⟩
  clear g1
  go_wp2_with fail
  refine (byte_eq HE2.out hl1 _ G1.1).mono ?_; rintro e w2 ⟨rfl, g2⟩
  have hz2 := hz1.grown g2.2 (by simp; omega)
  have G2 := G1.trans g2
  have sz2 := hz2.lt
  have G3 := go_below G2 (below_1 w2 (.cells #[.int .u64 (n : Int), .int .u8 (c : Int)] 24))
  have hz3 := hz2.alloc (.cells #[.int .u64 (n : Int), .int .u8 (c : Int)] 24)
  have hx3 := Blk.new w2 24 #[.int .u64 (n : Int), .int .u8 (c : Int)]
  clear g2 hz1 hz2 G1 G2
  have hc := chk_of ⟨n, c⟩
  have hck := check_any ⟨n, c⟩
  generalize chkN ⟨n, c⟩ = ck at hc hck
  have HC := Lib.hid hc
  have HK := Lib.hid hck
  clear hc hck
  unfold bV bC at *
  go_wp2_with fail
  refine (HK.out _).mono ?_; rintro e w4 ⟨rfl, B4⟩
  have b4 := Al1.below B4
  have G4 := go_below G3 b4
  have hz4 := hz3.below b4 hz3.lt
  have hx4 := hx3.below b4 hx3.lt
  clear G3 hz3 hx3 B4 b4
  generalize mayB ⟨n, c⟩ = m at *
  cases m
  · obtain rfl := HC.out.2 rfl
    go_wp2_with fail
    refine (bad_any g r2 _ G4.1).mono ?_; rintro e w5 ⟨⟨v, rfl⟩, g5⟩
    have G5 := G4.trans g5
    have hz5 := hz4.grown g5.2 (by simp; omega)
    clear g5 G4 hz4 hx4
    go_wp2_with fail
    refine (err_any g r2.bad _ G5.1).mono ?_; rintro e w6 ⟨rfl, rfl⟩
    have ne : ((r2.bad.err : Int) != 0) = true := by have := bad_err r2; rw [bne_iff_ne]; omega
    have hp : p = (⟨0, 0⟩, r2.bad) := by rw [P.out]; simp [bad_err r2]
    have HP := Lib.hid hp
    clear hp P
    have f0 := hz5.frozen 0
    have f1 := hz5.frozen 1
    have c0 := hz5.cell 0
    have c1 := hz5.cell 1
    simp at c0 c1
    have HZ := Lib.hid ((hz5.set_ 0 (.int .u64 0)).set_ 1 (.int .u8 0))
    have HG := Lib.hid (go_set (go_set G5 hgl (p := ⟨w.heap.size, 0, none⟩) (Nat.le_refl _) (.int .u64 0)) hgl (p := ⟨w.heap.size, 1, none⟩) (Nat.le_refl _) (.int .u8 0))
    clear G5 hz5
    go_wp2_with fail
    have y0 := HZ.out.cell 0
    have y1 := HZ.out.cell 1
    simp at y0 y1
    refine bodyPost_ret (v := bV ⟨0, 0⟩) (by simp [results, Tryz.results134, go_sem, bV, bC, y0, y1]) rfl ?_
    rw [HP.out]
    exact ⟨rfl, HG.out⟩
  · obtain rfl := HC.out.1 rfl
    go_wp2_with fail
    refine (err_any g r2 _ G4.1).mono ?_; rintro e w6 ⟨rfl, rfl⟩
    by_cases h0 : r2.err = 0
    · have ne : ((r2.err : Int) != 0) = false := by rw [h0]; rfl
      have hp : p = (⟨n, c⟩, r2) := by rw [P.out]; simp [h0]
      have HP := Lib.hid hp
      clear hp P h0
      have x0 := hx4.cell 0
      have x1 := hx4.cell 1
      simp at x0 x1
      clear hx4
      have f0 := hz4.frozen 0
      have f1 := hz4.frozen 1
      have c0 := hz4.cell 0
      have c1 := hz4.cell 1
      simp at c0 c1
      have HZ := Lib.hid ((hz4.set_ 0 (.int .u64 (n : Int))).set_ 1 (.int .u8 (c : Int)))
      have HG := Lib.hid (go_set (go_set G4 hgl (p := ⟨w.heap.size, 0, none⟩) (Nat.le_refl _) (.int .u64 (n : Int))) hgl (p := ⟨w.heap.size, 1, none⟩) (Nat.le_refl _) (.int .u8 (c : Int)))
      clear G4 hz4
      go_wp2_with fail
      have y0 := HZ.out.cell 0
      have y1 := HZ.out.cell 1
      simp at y0 y1
      refine bodyPost_ret (v := bV ⟨n, c⟩) (by simp [results, Tryz.results134, go_sem, bV, bC, y0, y1]) rfl ?_
      rw [HP.out]
      exact ⟨rfl, HG.out⟩
    · have ne : ((r2.err : Int) != 0) = true := by rw [bne_iff_ne]; omega
      have hp : p = (⟨0, 0⟩, r2) := by rw [P.out]; simp [h0]
      have HP := Lib.hid hp
      clear hp P h0 hx4
      have f0 := hz4.frozen 0
      have f1 := hz4.frozen 1
      have c0 := hz4.cell 0
      have c1 := hz4.cell 1
      simp at c0 c1
      have HZ := Lib.hid ((hz4.set_ 0 (.int .u64 0)).set_ 1 (.int .u8 0))
      have HG := Lib.hid (go_set (go_set G4 hgl (p := ⟨w.heap.size, 0, none⟩) (Nat.le_refl _) (.int .u64 0)) hgl (p := ⟨w.heap.size, 1, none⟩) (Nat.le_refl _) (.int .u8 0))
      clear G4 hz4
      go_wp2_with fail
      have y0 := HZ.out.cell 0
      have y1 := HZ.out.cell 1
      simp at y0 y1
      refine bodyPost_ret (v := bV ⟨0, 0⟩) (by simp [results, Tryz.results134, go_sem, bV, bC, y0, y1]) rfl ?_
      rw [HP.out]
      exact ⟨rfl, HG.out⟩
end Go.Proofs.YteiaiilfekojfaaGreat.Bal
