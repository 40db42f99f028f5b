/- The document's Parse, walked. Conditions: the bytes are at most 1,000,000. -/
import Derived.Test.YtgbnaifjdfoahaaCmdParse
namespace Go.Proofs.Ytgbnaifjdfoahaa.Cmd
open Go.RowKit Wire

theorem doc_fresh (s : List UInt8) : Rd.doc ⟨0, s⟩ = ⟨s, 0⟩ := rfl
theorem own_bel {w w' : World} {base : Nat} {e : TypeId} {size n : Nat} {v : Value} {xs : List Value} (h : w.ownsRow base e size v n xs) (hb : Below w.heap.size w w') : w'.ownsRow base e size v n xs := by
  have hlt := h.lt
  refine ⟨h.1, ?_⟩
  rcases h.2 with h0 | ⟨g, cap, cur, rfl, hg, hh, rest⟩
  · exact .inl h0
  · exact .inr ⟨g, cap, cur, rfl, hg, (hb.block g (hlt g rfl).2).trans hh, rest⟩
def RParseAt (r : Rd) (n g : Nat) (w : World) (gk : Nat) (vl vc : Value) (wr : World) : Prop :=
  ∃ (k : Nat) (l : List Cm) (A : Option Addr) (c : Nat) (q : Rd) (d : Dr), k + gk = n ∧ vc = .int .i64 (k : Int) ∧ vl = .slice A l.length c ∧ Hid (l = lsN r k) ∧ Hid (l.length = k) ∧ Hid (q = rdN r k) ∧ q.rest.length ≤ 1000000 ∧ Hid (q.doc = d) ∧ wr.ownsRow (g + 1) 73 7 (.slice A l.length c) l.length (l.flatMap cmL) ∧
    Blk wr g 48 #[.string ⟨d.s.toArray⟩, .int .i64 (d.e : Int)] ∧ Below w.heap.size w wr
set_option linter.unusedSimpArgs false in
set_option maxRecDepth 100000 in
set_option maxHeartbeats 8000000 in
theorem refParse_any (s : List UInt8) (hl : s.length ≤ 1000000) (w : World) :
    Calls Try.prog 49 #[.string ⟨s.toArray⟩] w fun e w' => ParseRet w (parseC s).1 (parseC s).2 e w' := by
  obtain ⟨i0, hi, hz0, hz1, hz2⟩ := info_parts info_cmd
  obtain ⟨p, hp⟩ : ∃ p, p = parseC s := ⟨_, rfl⟩
  rw [← hp]
  unfold parseC at hp
  have HI := Lib.hid (And.intro hi (And.intro hz0 (And.intro hz1 hz2)))
  clear hi hz0 hz1 hz2
  by_cases h0 : s = []
  · rw [if_pos h0] at hp
    subst h0
    subst hp
    go_enter Try.func49, Try.ntmps49
    go_wp2
    go_ret2
    exact ⟨none, 0, rfl, Rows.nil _ _ _ _, Below.refl _ _⟩
  rw [if_neg h0] at hp
  have hie : s.isEmpty = false := List.isEmpty_eq_false_iff.2 h0
  obtain ⟨n, r1, e1⟩ : ∃ n r1, Rd.byte ⟨0, s⟩ = (n, r1) := ⟨_, _, rfl⟩
  rw [e1] at hp
  simp only at hp
  have hn := byte_lt e1
  have hr1 := Nat.le_trans (byte_rest e1) hl
  obtain ⟨d1, hd1⟩ : ∃ d1, r1.doc = d1 := ⟨_, rfl⟩
  have hby := fun W => docByte_is e1 hl W
  rw [doc_fresh, hd1] at hby
  unfold drV drC at hby
  simp only [Int.cast_ofNat_Int] at hby
  have HP := Lib.hid hp
  have HB := Lib.hid hby
  have HD := Lib.hid hd1
  clear hp e1 hby hd1
  go_enter Try.func49, Try.ntmps49
  go_wp2_with fail
  refine (HB.out _).mono ?_; rintro e w1 ⟨rfl, B1⟩
  have kd := Blk.new w1 48 #[.string ⟨d1.s.toArray⟩, .int .i64 (d1.e : Int)]
  have bw1 := ((Below.refl _ w).trans B1).alloc B1.size (.cells #[.string ⟨d1.s.toArray⟩, .int .i64 (d1.e : Int)] 48)
  have hg := B1.size
  have hgz : w1.heap.size + 1 ≤ (w1.alloc (.cells #[.string ⟨d1.s.toArray⟩, .int .i64 (d1.e : Int)] 48)).heap.size := by simp
  clear B1
  go_upto_region 4 with fail
  generalize w1.alloc (.cells #[.string ⟨d1.s.toArray⟩, .int .i64 (d1.e : Int)] 48) = wa at *
  generalize w1.heap.size = g at *
  by_cases hb : n = 0 ∨ 4 < n
  · have hp2 : p = ([], 4) := by rw [HP.out, if_pos hb]
    subst hp2
    by_cases hn0 : n = 0
    · subst hn0
      clear hb HP
      go_wp2
      go_ret2
      exact ⟨none, 0, rfl, Rows.nil _ _ _ _, bw1⟩
    · have b0 : ¬ (n : Int) < 1 := by omega
      have b4 : (4 : Int) < (n : Int) := by omega
      clear hb HP hn0
      go_wp2
      go_ret2
      exact ⟨none, 0, rfl, Rows.nil _ _ _ _, bw1⟩
  have b0 : ¬ (n : Int) < 1 := by omega
  have b4 : ¬ (4 : Int) < (n : Int) := by omega
  have hn4 : n ≤ 4 := by omega
  have hp2 := HP.out
  rw [if_neg hb] at hp2
  have HP2 := Lib.hid hp2
  clear hp2 HP hb
  go_wp2_with fail
  go_loopg [6, 7] n (fun gk l i wr => RParseAt r1 n g w gk l i wr)
  case atStart => exact ⟨0, [], none, 0, r1, d1, by omega, rfl, rfl, rfl, rfl, rfl, hr1, HD, ⟨by simp, .inl ⟨rfl, rfl⟩⟩, kd, bw1⟩
  case round =>
    clear kd bw1 HD hgz
    obtain ⟨k, l, A, c, q, d, hk, rfl, rfl, hL, hlen, hQ, hql, hD, own, kd, bw⟩ := hrel
    by_cases h4 : k < n
    · have hk4 : (k : Int) < (n : Int) := by omega
      have hls : lsN r1 (k + 1) = lsN r1 k ++ [(takeC (rdN r1 k)).1] := rfl
      have hrs : rdN r1 (k + 1) = (takeC (rdN r1 k)).2 := rfl
      rw [← hQ.out] at hls hrs
      rw [← hL.out] at hls
      have HLS := Lib.hid hls
      have HRS := Lib.hid hrs
      have htr := Nat.le_trans (takeC_rest q) hql
      have ht := fun W => refTake_any q hql W
      rw [hD.out] at ht
      generalize takeC q = tc at *
      obtain ⟨⟨xa, xb, xk, xs, xt, xu, xz⟩, q'⟩ := tc
      simp only at htr
      obtain ⟨d', hd'⟩ : ∃ d', q'.doc = d' := ⟨_, rfl⟩
      simp only [hd'] at ht
      unfold drV drC cmV cmC at ht
      dsimp only at ht
      have HT := Lib.hid ht
      have HD' := Lib.hid hd'
      have HLT := own.lt
      clear hls hrs hL hQ ht hD hd'
      have c0 : wr.cell? ⟨g, 0, none⟩ = some (.string ⟨d.s.toArray⟩) := kd.cell 0
      have c1 : wr.cell? ⟨g, 1, none⟩ = some (.int .i64 (d.e : Int)) := kd.cell 1
      have hgl := kd.lt
      go_wp2_with fail
      refine (HT.out _).mono ?_; rintro e w2 ⟨rfl, B2⟩
      have bw2 := bw.trans (B2.mono bw.size)
      have own2 := own_bel own B2
      have kd2 := kd.below B2 hgl
      have hgl2 := Nat.lt_of_lt_of_le hgl B2.size
      clear own kd bw B2 c0 c1 HLT
      have kx := (Blk.new w2 73 #[.int .u8 (xa : Int), .int .u32 (xb : Int), .int .u8 (xk : Int), .string ⟨xs.toArray⟩, .string ⟨xt.toArray⟩, .string ⟨xu.toArray⟩, .int .u8 (xz : Int)]).alloc (.cells #[.string ⟨d'.s.toArray⟩, .int .i64 (d'.e : Int)] 48)
      have kr : Blk ((w2.alloc (.cells #[.int .u8 (xa : Int), .int .u32 (xb : Int), .int .u8 (xk : Int), .string ⟨xs.toArray⟩, .string ⟨xt.toArray⟩, .string ⟨xu.toArray⟩, .int .u8 (xz : Int)] 73)).alloc (.cells #[.string ⟨d'.s.toArray⟩, .int .i64 (d'.e : Int)] 48)) (w2.heap.size + 1) 48 #[.string ⟨d'.s.toArray⟩, .int .i64 (d'.e : Int)] := by have := Blk.new (w2.alloc (.cells #[.int .u8 (xa : Int), .int .u32 (xb : Int), .int .u8 (xk : Int), .string ⟨xs.toArray⟩, .string ⟨xt.toArray⟩, .string ⟨xu.toArray⟩, .int .u8 (xz : Int)] 73)) 48 #[.string ⟨d'.s.toArray⟩, .int .i64 (d'.e : Int)]; simpa using this
      have own3 := (own2.alloc (.cells #[.int .u8 (xa : Int), .int .u32 (xb : Int), .int .u8 (xk : Int), .string ⟨xs.toArray⟩, .string ⟨xt.toArray⟩, .string ⟨xu.toArray⟩, .int .u8 (xz : Int)] 73)).alloc (.cells #[.string ⟨d'.s.toArray⟩, .int .i64 (d'.e : Int)] 48)
      have kd3 := (kd2.alloc (.cells #[.int .u8 (xa : Int), .int .u32 (xb : Int), .int .u8 (xk : Int), .string ⟨xs.toArray⟩, .string ⟨xt.toArray⟩, .string ⟨xu.toArray⟩, .int .u8 (xz : Int)] 73)).alloc (.cells #[.string ⟨d'.s.toArray⟩, .int .i64 (d'.e : Int)] 48)
      have bw3 := (bw2.alloc bw2.size (.cells #[.int .u8 (xa : Int), .int .u32 (xb : Int), .int .u8 (xk : Int), .string ⟨xs.toArray⟩, .string ⟨xt.toArray⟩, .string ⟨xu.toArray⟩, .int .u8 (xz : Int)] 73)).alloc (Nat.le_trans bw2.size (by simp)) (.cells #[.string ⟨d'.s.toArray⟩, .int .i64 (d'.e : Int)] 48)
      have hg1 : g ≠ w2.heap.size := by omega
      have hg2 : g ≠ w2.heap.size + 1 := by omega
      go_upto_region 11 with fail
      generalize (w2.alloc (.cells #[.int .u8 (xa : Int), .int .u32 (xb : Int), .int .u8 (xk : Int), .string ⟨xs.toArray⟩, .string ⟨xt.toArray⟩, .string ⟨xu.toArray⟩, .int .u8 (xz : Int)] 73)).alloc (.cells #[.string ⟨d'.s.toArray⟩, .int .i64 (d'.e : Int)] 48) = w3 at *
      clear own2 kd2 bw2
      have r0 : w3.cell? ⟨w2.heap.size + 1, 0, none⟩ = some (.string ⟨d'.s.toArray⟩) := kr.cell 0
      have r1 : w3.cell? ⟨w2.heap.size + 1, 1, none⟩ = some (.int .i64 (d'.e : Int)) := kr.cell 1
      have f0 := kd3.frozen 0
      have f1 := kd3.frozen 1
      have c0 : w3.cell? ⟨g, 0, none⟩ = some (.string ⟨d.s.toArray⟩) := kd3.cell 0
      have c1 : w3.cell? ⟨g, 1, none⟩ = some (.int .i64 (d.e : Int)) := kd3.cell 1
      have own4 := ownsRow_setCell_below (ownsRow_setCell_below own3 (a := ⟨g, 0, none⟩) (by show g < _; omega) (.string ⟨d'.s.toArray⟩)) (a := ⟨g, 1, none⟩) (by show g < _; omega) (.int .i64 (d'.e : Int))
      have kd4 := (kd3.set_ 0 (.string ⟨d'.s.toArray⟩)).set_ 1 (.int .i64 (d'.e : Int))
      have kx4 := (kx.far (p := ⟨g, 0, none⟩) (Ne.symm hg1) (.string ⟨d'.s.toArray⟩)).far (p := ⟨g, 1, none⟩) (Ne.symm hg1) (.int .i64 (d'.e : Int))
      have bw4 := (bw3.setCell (p := ⟨g, 0, none⟩) hg (.string ⟨d'.s.toArray⟩)).setCell (p := ⟨g, 1, none⟩) hg (.int .i64 (d'.e : Int))
      go_upto_region 12 with fail
      generalize (w3.setCell ⟨g, 0, none⟩ (.string ⟨d'.s.toArray⟩)).setCell ⟨g, 1, none⟩ (.int .i64 (d'.e : Int)) = w4 at *
      clear own3 kd3 kx bw3 r0 r1 f0 f1 c0 c1 kr
      have kd5 : Blk w4 g 48 #[.string ⟨d'.s.toArray⟩, .int .i64 (d'.e : Int)] := kd4
      have x0 : w4.cell? ⟨w2.heap.size, 0, none⟩ = some (.int .u8 (xa : Int)) := kx4.cell 0
      have x1 : w4.cell? ⟨w2.heap.size, 1, none⟩ = some (.int .u32 (xb : Int)) := kx4.cell 1
      have x2 : w4.cell? ⟨w2.heap.size, 2, none⟩ = some (.int .u8 (xk : Int)) := kx4.cell 2
      have x3 : w4.cell? ⟨w2.heap.size, 3, none⟩ = some (.string ⟨xs.toArray⟩) := kx4.cell 3
      have x4 : w4.cell? ⟨w2.heap.size, 4, none⟩ = some (.string ⟨xt.toArray⟩) := kx4.cell 4
      have x5 : w4.cell? ⟨w2.heap.size, 5, none⟩ = some (.string ⟨xu.toArray⟩) := kx4.cell 5
      have x6 : w4.cell? ⟨w2.heap.size, 6, none⟩ = some (.int .u8 (xz : Int)) := kx4.cell 6
      have HNN := Lib.hid (show some g ≠ (Value.slice A l.length c).ownBlock from fun he => by have := own4.lt _ he.symm; omega)
      have HNE := Lib.hid (show ∀ o, (Value.slice A l.length c).ownBlock = some o → w.heap.size ≤ o from fun o ho => by have := own4.lt o ho; omega)
      have kn := Blk.new w4 73 #[.int .u8 (xa : Int), .int .u32 (xb : Int), .int .u8 (xk : Int), .string ⟨xs.toArray⟩, .string ⟨xt.toArray⟩, .string ⟨xu.toArray⟩, .int .u8 (xz : Int)]
      have hm1 : l.length + 1 ≤ maxLen := by have := hlen.out; unfold maxLen; omega
      have hm2 : (l.length + 1) * 72 ≤ 140737488355328 := by have := hlen.out; omega
      have szz : g + 1 ≤ (w4.alloc (.cells #[.int .u8 (xa : Int), .int .u32 (xb : Int), .int .u8 (xk : Int), .string ⟨xs.toArray⟩, .string ⟨xt.toArray⟩, .string ⟨xu.toArray⟩, .int .u8 (xz : Int)] 73)).heap.size := Nat.le_trans kd5.lt (by simp)
      have kda := kd5.alloc (.cells #[.int .u8 (xa : Int), .int .u32 (xb : Int), .int .u8 (xk : Int), .string ⟨xs.toArray⟩, .string ⟨xt.toArray⟩, .string ⟨xu.toArray⟩, .int .u8 (xz : Int)] 73)
      have bwa := bw4.alloc bw4.size (.cells #[.int .u8 (xa : Int), .int .u32 (xb : Int), .int .u8 (xk : Int), .string ⟨xs.toArray⟩, .string ⟨xt.toArray⟩, .string ⟨xu.toArray⟩, .int .u8 (xz : Int)] 73)
      clear kd4 kx4
      go_wp2_with (at_builtin; go_must (refine wpList_append_any _ rfl (.tmp 36) (.tmp 38) _ rfl (g + 1) 73 i0 _ 7 72 Try.underlying71 HI.out.1 HI.out.2.1 HI.out.2.2.1 HI.out.2.2.2 rfl (by omega) (.slice A l.length c) l.length (l.flatMap cmL) rfl (own4.alloc _) _ _ 1 1 (cmL (⟨xa, xb, xk, xs, xt, xu, xz⟩ : Cm)) rfl (blk_reads (x := (⟨xa, xb, xk, xs, xt, xu, xz⟩ : Cm)) rfl kn) (cmL_one _) hm1 hm2 szz ?_); intro v1 w5 own1 g3 at3; have kd6 := Blk.grown kda g3 HNN.out; have bw6 := bwa.grown g3 bwa.size HNE.out; clear at3 g3)
      have hfl : (l ++ [(⟨xa, xb, xk, xs, xt, xu, xz⟩ : Cm)]).flatMap cmL = l.flatMap cmL ++ cmL (⟨xa, xb, xk, xs, xt, xu, xz⟩ : Cm) := by simp
      have hln : l.length + 1 = (l ++ [(⟨xa, xb, xk, xs, xt, xu, xz⟩ : Cm)]).length := by simp
      rw [← hfl, hln] at own1
      obtain ⟨A2, c2, rfl, _⟩ := own_rows_at cmL_len (by decide) own1
      have hlk : Hid ((l ++ [(⟨xa, xb, xk, xs, xt, xu, xz⟩ : Cm)]).length = k + 1) := by show _ = _; rw [← hln, hlen.out]
      clear hfl hln
      go_roundg (n - (k + 1))
      case measure => omega
      case rel => exact ⟨k + 1, l ++ [(⟨xa, xb, xk, xs, xt, xu, xz⟩ : Cm)], A2, c2, q', d', by omega, by go_num, rfl, by show _ = _; rw [HLS.out], hlk, by show _ = _; rw [HRS.out], htr, HD', own1, kd6, bw6⟩
    · obtain rfl : k = n := by omega
      obtain ⟨de, hde⟩ : ∃ de, q.end_.doc = de := ⟨_, rfl⟩
      have hend := fun W => docEnd_any q.doc W
      rw [doc_end, hD.out, hde] at hend
      have herr := doc_err q.end_
      rw [hde] at herr
      unfold DocRet drV drC at hend
      have HEND := Lib.hid hend
      have HERR := Lib.hid herr
      have hp2 := HP2.out
      rw [← hQ.out, ← hL.out, ← herr] at hp2
      have HP3 := Lib.hid hp2
      have c0 : wr.cell? ⟨g, 0, none⟩ = some (.string ⟨d.s.toArray⟩) := kd.cell 0
      have c1 : wr.cell? ⟨g, 1, none⟩ = some (.int .i64 (d.e : Int)) := kd.cell 1
      have hgl := kd.lt
      clear hlen hend herr hp2 HP2 hQ hL hD hde
      go_wp2_with fail
      refine (HEND.out _).mono ?_; rintro e w2 ⟨rfl, B2⟩
      have bw2 := bw.trans (B2.mono bw.size)
      have own2 := own_bel own B2
      have kd2 := kd.below B2 hgl
      clear own kd bw B2 c0 c1
      have f0 := kd2.frozen 0
      have f1 := kd2.frozen 1
      have c0 : w2.cell? ⟨g, 0, none⟩ = some (.string ⟨d.s.toArray⟩) := kd2.cell 0
      have c1 : w2.cell? ⟨g, 1, none⟩ = some (.int .i64 (d.e : Int)) := kd2.cell 1
      have own4 := ownsRow_setCell_below (ownsRow_setCell_below own2 (a := ⟨g, 0, none⟩) (by show g < _; omega) (.string ⟨de.s.toArray⟩)) (a := ⟨g, 1, none⟩) (by show g < _; omega) (.int .i64 (de.e : Int))
      have kd4 := (kd2.set_ 0 (.string ⟨de.s.toArray⟩)).set_ 1 (.int .i64 (de.e : Int))
      have bw4 := (bw2.setCell (p := ⟨g, 0, none⟩) hg (.string ⟨de.s.toArray⟩)).setCell (p := ⟨g, 1, none⟩) hg (.int .i64 (de.e : Int))
      go_upto_region 14 with fail
      generalize (w2.setCell ⟨g, 0, none⟩ (.string ⟨de.s.toArray⟩)).setCell ⟨g, 1, none⟩ (.int .i64 (de.e : Int)) = w4 at *
      clear own2 kd2 bw2 f0 f1 c0 c1
      have e1 : w4.cell? ⟨g, 1, none⟩ = some (.int .i64 (de.e : Int)) := kd4.cell 1
      obtain ⟨A2, c2, hv, _, hr, _⟩ := own_rows_at cmL_len (by decide) own4
      obtain ⟨rfl, rfl⟩ : A2 = A ∧ c2 = c := by cases hv; exact ⟨rfl, rfl⟩
      clear own4 hv kd4
      by_cases he : de.e = 0
      · have ne : ((de.e : Int) != 0) = false := by rw [he]; rfl
        have hp4 : p = (l, 0) := by rw [HP3.out, if_neg (fun h => h he)]
        subst hp4
        go_wp2_with fail
        go_ret2
        exact ⟨A2, c2, rfl, hr, bw4⟩
      · have ne : ((de.e : Int) != 0) = true := by rw [bne_iff_ne]; omega
        have hp4 : p = ([], de.e) := by rw [HP3.out, if_pos he]
        subst hp4
        go_wp2_with fail
        go_region_held3 (fun W : World => W.cell? ⟨g, 1, none⟩ = some (.int .i64 (de.e : Int))) (first | go_keep | exact e1) (fail)
        all_goals
          go_wp2_with fail
          go_ret2
          exact ⟨none, 0, rfl, Rows.nil _ _ _ _, bw4.drew⟩
end Go.Proofs.Ytgbnaifjdfoahaa.Cmd
