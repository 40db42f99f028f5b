/- A table read from bytes, walked: the document's Take. Conditions: the bytes are at most 1,000,000. -/
import Derived.Test.YtgbnaifjdfoahaaSessTakeP
import Derived.Test.YtgbnaifjdfoahaaSessKeepL
import Derived.Test.YtgbnaifjdfoahaaWireDocStrW
import Derived.Test.YtgbnaifjdfoahaaKeepN
import Derived.Test.YtgbnaifjdfoahaaKeepR
import Derived.Deep.DeepCutAuto
import Derived.Deep.LoopGhost
import Derived.OneCell
namespace Go.Proofs.Ytgbnaifjdfoahaa.Sess
open Go.RowKit Wire

theorem own_below {w w' : World} {base : Nat} {e : TypeId} {size n : Nat} {v : Value} {xs : List Value} (h : w.ownsRow base e size v n xs) (hb : Below w.heap.size w w') : w'.ownsRow base e size v n xs := by
  have hlt := h.lt
  refine ⟨h.1, ?_⟩
  rcases h.2 with h0 | ⟨g, cap, cur, rfl, hg, hh, rest⟩
  · exact .inl h0
  · exact .inr ⟨g, cap, cur, rfl, hg, (hb.block g (hlt g rfl).2).trans hh, rest⟩
theorem doc_short (r : Rd) : (r.doc).s.length ≤ r.rest.length := by
  rw [doc_left]; unfold Rd.left; split
  · omega
  · exact Nat.le_refl _
theorem doc_parts (r : Rd) (hl : r.rest.length ≤ 1000000) : ∃ n c t r1 r2 r3 d d1 d2 d3 d4 e e1 e2 e3 e4, r.below 4294967296 = (n, r1) ∧ r1.byte = (c, r2) ∧ r2.str 64 = (t, r3) ∧ r.doc = ⟨d, e⟩ ∧ r1.doc = ⟨d1, e1⟩ ∧ r2.doc = ⟨d2, e2⟩ ∧ r3.doc = ⟨d3, e3⟩ ∧ r3.bad.doc = ⟨d4, e4⟩ ∧
    (∀ W : World, Calls Try.prog 61 #[.agg #[.string ⟨d.toArray⟩, .int .i64 (e : Int)], .int .u64 4294967296] W fun E W' => E = .returned (.tuple #[.int .u64 (n : Int), .agg #[.string ⟨d1.toArray⟩, .int .i64 (e1 : Int)]]) ∧ Below W.heap.size W W') ∧
    (∀ W : World, Calls Try.prog 62 #[.agg #[.string ⟨d1.toArray⟩, .int .i64 (e1 : Int)]] W fun E W' => E = .returned (.tuple #[.int .u8 (c : Int), .agg #[.string ⟨d2.toArray⟩, .int .i64 (e2 : Int)]]) ∧ Below W.heap.size W W') ∧
    (∀ W : World, Calls Try.prog 63 #[.agg #[.string ⟨d2.toArray⟩, .int .i64 (e2 : Int)], .int .i64 64] W fun E W' => E = .returned (.tuple #[.string ⟨t.toArray⟩, .agg #[.string ⟨d3.toArray⟩, .int .i64 (e3 : Int)]]) ∧ Below W.heap.size W W') ∧
    (∀ W : World, Calls Try.prog 64 #[.agg #[.string ⟨d3.toArray⟩, .int .i64 (e3 : Int)]] W fun E W' => E = .returned (.agg #[.string ⟨d4.toArray⟩, .int .i64 (e4 : Int)]) ∧ Below W.heap.size W W') := by
  obtain ⟨n, c, t, r1, r2, r3, h1, h2, h3⟩ := parts r
  have l1 := Nat.le_trans (below_rest h1) hl
  have l2 := Nat.le_trans (byte_rest h2) l1
  have ln := num_rest (r := r2) (c := r2.num.1) (r' := r2.num.2) rfl
  have s0 := doc_short r
  have s1 := doc_short r1
  have s2 := doc_short r2
  have s2n := doc_short r2.num.2
  have a1 := doc_below r 4294967296
  have a2 := doc_byte r1
  have a3 := doc_str r2 64
  have a4 := doc_bad r3
  have a5 := doc_num r2
  rw [h1] at a1
  rw [h2] at a2
  rw [h3] at a3
  refine ⟨n, c, t, r1, r2, r3, r.doc.s, r1.doc.s, r2.doc.s, r3.doc.s, r3.bad.doc.s, r.doc.e, r1.doc.e, r2.doc.e, r3.doc.e, r3.bad.doc.e, h1, h2, h3, rfl, rfl, rfl, rfl, rfl, fun W => ?_, fun W => ?_, fun W => ?_, fun W => ?_⟩
  · have q := docBelow_any r.doc 4294967296 (by omega) W
    rw [a1] at q
    exact q
  · have q := docByte_any r1.doc (by omega) W
    rw [a2] at q
    exact q
  · have q := docStr_any r2.doc 64 (by omega) (by omega) (by omega) (by rw [a5]; simp only; omega) W
    rw [a3] at q
    exact q
  · have q := docBad_any r3.doc W
    rw [a4] at q
    exact q
def RTakeAt (q : Rd) (w : World) (gk : Nat) (vl vc : Value) (wr : World) : Prop :=
  ∃ (k : Nat) (l : List Kp) (A : Option Addr) (c : Nat) (d : List UInt8) (e : Nat), k + gk = 4 ∧ vc = .int .i64 (k : Int) ∧ vl = .slice A l.length c ∧ Hid (l = listK q k) ∧ Hid ((rdK q k).doc = ⟨d, e⟩) ∧ wr.ownsRow (w.heap.size + 2) 33 4 (.slice A l.length c) l.length (l.flatMap kpC) ∧
    Kg [(w.heap.size, 48, #[.string ⟨d.toArray⟩, .int .i64 (e : Int)]), (w.heap.size + 1, 48, #[.string ⟨#[]⟩, .int .i64 0])] w wr
def RTakeRet (w : World) (q : Rd) (e : Ending) (w' : World) : Prop := ∃ (A : Option Addr) (c : Nat), e = .returned (.tuple #[.slice A (takeL q).length c, drV (rdK q 4).doc]) ∧ Rows w' A 4 kpC (takeL q) ∧ Below w.heap.size w w'
set_option linter.unusedSimpArgs false in
set_option maxRecDepth 100000 in
set_option maxHeartbeats 8000000 in
theorem refTake_any (q : Rd) (hl : q.rest.length ≤ 1000000) (w : World) :
    Calls Try.prog 26 #[drV q.doc] w fun e w' => RTakeRet w q e w' := by
  obtain ⟨i0, hi, hz0, hz1, hz2⟩ := info_parts info_kept
  obtain ⟨d0, e0, hd0⟩ : ∃ d e, q.doc = ⟨d, e⟩ := ⟨_, _, rfl⟩
  rw [hd0]
  have HD0 := Lib.hid hd0
  clear hd0
  unfold drV drC
  simp only
  have k0 := (kgn2 w 48 48 #[.string ⟨d0.toArray⟩, .int .i64 (e0 : Int)] #[.string ⟨#[]⟩, .int .i64 0]).swap
  have HI := Lib.hid (And.intro hi (And.intro hz0 (And.intro hz1 hz2)))
  clear hi hz0 hz1 hz2
  go_enter Try.func26, Try.ntmps26
  go_wp2_with fail
  go_loopg [4, 5] 4 (fun gk l i wr => RTakeAt q w gk l i wr)
  case atStart => exact ⟨0, [], none, 0, d0, e0, by omega, rfl, rfl, rfl, HD0, ⟨by simp, .inl ⟨rfl, rfl⟩⟩, k0⟩
  case round =>
    clear k0 HD0
    obtain ⟨k, l, A, c, d, e, hk, rfl, rfl, hL, hD, own, kg⟩ := hrel
    have s1 := kg.i2.lt
    simp only at s1
    by_cases h4 : k < 4
    · have hk4 : (k : Int) < 4 := by omega
      have hx0 : (0 : Int) ≤ (k : Int) := by omega
      have hx1 : (k : Int) < 256 := by omega
      have hlr := Nat.le_trans (rdK_rest q k) hl
      have hlen := listK_len q k
      rw [← hL.out] at hlen
      have hls : listK q (k + 1) = if (entK q k).seq = 0 then listK q k else listK q k ++ [kpK q k] := rfl
      have hrs : rdK q (k + 1) = (stepR (rdK q k)).2 := rfl
      unfold kpK entK at hls
      rw [← hL.out] at hls
      clear hL
      generalize rdK q k = r at *
      obtain ⟨n, cc, t, r1, r2, r3, dd, d1, d2, d3, d4, ee, e1, e2, e3, e4, p1, p2, p3, q0, q1, q2, q3, q4, C1, C2, C3, C4⟩ := doc_parts r hlr
      obtain ⟨rfl, rfl⟩ := Dr.mk.inj (q0.symm.trans hD.out)
      clear hD q0
      have hm := midR_eq p1 p2 p3
      have hn := below_lt (by omega) p1
      have hc := byte_lt p2
      unfold stepR at hls hrs
      rw [hm] at hls hrs
      have HC1 := Lib.hid C1
      have HC2 := Lib.hid C2
      have HC3 := Lib.hid C3
      have HC4 := Lib.hid C4
      have Q1 := Lib.hid q1
      have Q2 := Lib.hid q2
      have Q3 := Lib.hid q3
      have Q4 := Lib.hid q4
      have HLS := Lib.hid hls
      have HRS := Lib.hid hrs
      clear hls hrs C1 C2 C3 C4 q1 q2 q3 q4 hm p1 p2 p3 hlr
      obtain ⟨c0, c1⟩ := kg.i1.c2
      obtain ⟨f0, f1⟩ := kg.i1.f2
      simp only at c0 c1 f0 f1
      go_wp2_with fail
      refine (HC1.out _).mono ?_; rintro e w1 ⟨rfl, B1⟩
      have kg1 := kg.below B1
      have own1 := own_below own B1
      have sz := kg1.i2.lt
      simp only at sz
      go_upto_region 6 with fail
      have kga := (kg1.new 48 #[.string ⟨d1.toArray⟩, .int .i64 (e1 : Int)]).swap
      have own1 := own1.alloc (.cells #[.string ⟨d1.toArray⟩, .int .i64 (e1 : Int)] 48)
      generalize w1.alloc (.cells #[.string ⟨d1.toArray⟩, .int .i64 (e1 : Int)] 48) = wa at *
      obtain ⟨c0, c1⟩ := kga.i1.c2
      obtain ⟨f0, f1⟩ := kga.i1.f2
      obtain ⟨b0, b1⟩ := kga.i2.c2
      simp only at c0 c1 f0 f1 b0 b1
      have kg2 := kga.set2 (v0 := .string ⟨d1.toArray⟩) (v1 := .int .i64 (e1 : Int)) (by simp; omega) (Nat.le_refl _)
      have own2 := (ownsRow_setCell_below (ownsRow_setCell_below own1 (a := ⟨w.heap.size, 0, none⟩) (by show w.heap.size < _; omega) (.string ⟨d1.toArray⟩)) (a := ⟨w.heap.size, 1, none⟩) (by show w.heap.size < _; omega) (.int .i64 (e1 : Int)))
      clear kg kg1 kga own own1 B1
      by_cases h0 : n = 0
      · have hb : ((n : Int) == 0) = true := by rw [h0]; rfl
        have H0 := Lib.hid h0
        clear h0
        go_wp2_with fail
        go_roundg (4 - (k + 1))
        case measure => omega
        case rel =>
          have e1' := HLS.out
          have e2' := HRS.out
          rw [if_pos H0.out] at e1' e2'
          exact ⟨k + 1, l, A, c, d1, e1, by omega, by go_num, rfl, e1'.symm, by show _ = _; rw [e2']; exact Q1.out, own2, kg2.sub (by simp)⟩
      · have hb : ((n : Int) == 0) = false := beq_eq_false_iff_ne.2 (by omega)
        have e1' := HLS.out
        have e2' := HRS.out
        rw [if_neg h0] at e1' e2'
        simp only at e1' e2'
        rw [if_neg h0] at e1'
        have HLS := Lib.hid e1'
        have HRS := Lib.hid e2'
        clear e1' e2' h0
        have x1 : (0 : Int) ≤ (n : Int) := by omega
        have x2 : (n : Int) < 4294967296 := by omega
        have kg2 := kg2.sub (L' := [(w.heap.size, 48, #[.string ⟨d1.toArray⟩, .int .i64 (e1 : Int)]), (w.heap.size + 1, 48, #[.string ⟨#[]⟩, .int .i64 0])]) (by simp)
        go_upto_region 8 with fail
        clear c0 c1 f0 f1 b0 b1
        generalize (wa.setCell ⟨w.heap.size, 0, none⟩ (.string ⟨d1.toArray⟩)).setCell ⟨w.heap.size, 1, none⟩ (.int .i64 (e1 : Int)) = wb at *
        have szb := kg2.i2.lt
        simp only at szb
        have hlt2 := own2.lt
        have HLT := Lib.hid hlt2
        clear hlt2
        have kg3 := kg2.new 33 #[.int .u8 (k : Int), .int .u32 (n : Int), .int .u8 0, .string ⟨#[]⟩]
        have own3 := own2.alloc (.cells #[.int .u8 (k : Int), .int .u32 (n : Int), .int .u8 0, .string ⟨#[]⟩] 33)
        go_upto_region 9 with fail
        clear x1 x2 hx0 hx1
        generalize wb.alloc (.cells #[.int .u8 (k : Int), .int .u32 (n : Int), .int .u8 0, .string ⟨#[]⟩] 33) = wc at *
        obtain ⟨a0, a1⟩ := kg3.i2.c2
        simp only at a0 a1
        go_wp2_with fail
        refine (HC2.out _).mono ?_; rintro e w2 ⟨rfl, B2⟩
        have kg4 := kg3.below B2
        have own4 := own_below own3 B2
        obtain ⟨c0, c1, c2, c3⟩ := kg4.i1.c4
        obtain ⟨f0, f1, f2, f3⟩ := kg4.i1.f4
        obtain ⟨b0, b1⟩ := kg4.i2.c2
        obtain ⟨g0, g1⟩ := kg4.i2.f2
        simp only at c0 c1 c2 c3 f0 f1 f2 f3 b0 b1 g0 g1
        have kg5 : Kg [(wb.heap.size, 33, #[.int .u8 (k : Int), .int .u32 (n : Int), .int .u8 (cc : Int), .string ⟨#[]⟩]), (w.heap.size, 48, #[.string ⟨d2.toArray⟩, .int .i64 (e2 : Int)]), (w.heap.size + 1, 48, #[.string ⟨#[]⟩, .int .i64 0])] w _ := ((kg4.set_ (i := 2) (by simp; omega) (by omega) (.int .u8 (cc : Int))).swap.set2 (v0 := .string ⟨d2.toArray⟩) (v1 := .int .i64 (e2 : Int)) (by simp; omega) (Nat.le_refl _)).swap
        have own5 := ownsRow_setCell_below (ownsRow_setCell_below (ownsRow_setCell_other own4 (a := ⟨wb.heap.size, 2, none⟩) (fun h => absurd (HLT.out _ h).2 (Nat.lt_irrefl _)) (.int .u8 (cc : Int))) (a := ⟨w.heap.size, 0, none⟩) (by show w.heap.size < _; omega) (.string ⟨d2.toArray⟩)) (a := ⟨w.heap.size, 1, none⟩) (by show w.heap.size < _; omega) (.int .i64 (e2 : Int))
        clear a0 a1 kg2 kg3 kg4 own2 own3 own4 B2
        go_upto_region 10 with fail
        clear c0 c1 c2 c3 f0 f1 f2 f3 b0 b1 g0 g1
        generalize ((w2.setCell ⟨wb.heap.size, 2, none⟩ (.int .u8 (cc : Int))).setCell ⟨w.heap.size, 0, none⟩ (.string ⟨d2.toArray⟩)).setCell ⟨w.heap.size, 1, none⟩ (.int .i64 (e2 : Int)) = wd at *
        obtain ⟨a0, a1⟩ := kg5.i2.c2
        simp only at a0 a1
        go_wp2_with fail
        refine (HC3.out _).mono ?_; rintro e w3 ⟨rfl, B3⟩
        have kg6 := kg5.below B3
        have own6 := own_below own5 B3
        obtain ⟨c0, c1, c2, c3⟩ := kg6.i1.c4
        obtain ⟨f0, f1, f2, f3⟩ := kg6.i1.f4
        obtain ⟨b0, b1⟩ := kg6.i2.c2
        obtain ⟨g0, g1⟩ := kg6.i2.f2
        simp only at c0 c1 c2 c3 f0 f1 f2 f3 b0 b1 g0 g1
        have kg7 : Kg [(wb.heap.size, 33, #[.int .u8 (k : Int), .int .u32 (n : Int), .int .u8 (cc : Int), .string ⟨t.toArray⟩]), (w.heap.size, 48, #[.string ⟨d3.toArray⟩, .int .i64 (e3 : Int)]), (w.heap.size + 1, 48, #[.string ⟨#[]⟩, .int .i64 0])] w _ := ((kg6.set_ (i := 3) (by simp; omega) (by omega) (.string ⟨t.toArray⟩)).swap.set2 (v0 := .string ⟨d3.toArray⟩) (v1 := .int .i64 (e3 : Int)) (by simp; omega) (Nat.le_refl _)).swap
        have own7 := ownsRow_setCell_below (ownsRow_setCell_below (ownsRow_setCell_other own6 (a := ⟨wb.heap.size, 3, none⟩) (fun h => absurd (HLT.out _ h).2 (Nat.lt_irrefl _)) (.string ⟨t.toArray⟩)) (a := ⟨w.heap.size, 0, none⟩) (by show w.heap.size < _; omega) (.string ⟨d3.toArray⟩)) (a := ⟨w.heap.size, 1, none⟩) (by show w.heap.size < _; omega) (.int .i64 (e3 : Int))
        clear a0 a1 kg5 kg6 own5 own6 B3
        go_upto_region 11 with fail
        clear c0 c1 c2 c3 f0 f1 f2 f3 b0 b1 g0 g1
        generalize ((w3.setCell ⟨wb.heap.size, 3, none⟩ (.string ⟨t.toArray⟩)).setCell ⟨w.heap.size, 0, none⟩ (.string ⟨d3.toArray⟩)).setCell ⟨w.heap.size, 1, none⟩ (.int .i64 (e3 : Int)) = we at *
        obtain ⟨a0, a1, a2, a3⟩ := kg7.i1.c4
        simp only at a0 a1 a2 a3
        go_upto_if 43 with fail
        go_cut [] (fun wx => ∃ (d : List UInt8) (e : Nat), Hid ((rdK q (k + 1)).doc = ⟨d, e⟩) ∧ wx.ownsRow (w.heap.size + 2) 33 4 (.slice A l.length c) l.length (l.flatMap kpC) ∧ Kg [(wb.heap.size, 33, #[.int .u8 (k : Int), .int .u32 (n : Int), .int .u8 (cc : Int), .string ⟨t.toArray⟩]), (w.heap.size, 48, #[.string ⟨d.toArray⟩, .int .i64 (e : Int)]), (w.heap.size + 1, 48, #[.string ⟨#[]⟩, .int .i64 0])] w wx)
        case first =>
          by_cases h0 : 3 < cc
          · have e2' := HRS.out
            rw [if_pos h0] at e2'
            have HR := Lib.hid (show (rdK q (k + 1)).doc = ⟨d4, e4⟩ by rw [e2']; exact Q4.out)
            have h0 : 3 < (cc : Int) := by omega
            obtain ⟨b0, b1⟩ := kg7.i2.c2
            simp only at b0 b1
            clear e2'
            go_wp2_with fail
            refine (HC4.out _).mono ?_; rintro e w4 ⟨rfl, B4⟩
            have kg8 := (kg7.below B4).swap
            have own8 := own_below own7 B4
            obtain ⟨b0, b1⟩ := kg8.i1.c2
            obtain ⟨g0, g1⟩ := kg8.i1.f2
            simp only at b0 b1 g0 g1
            have kg9 := (kg8.set2 (v0 := .string ⟨d4.toArray⟩) (v1 := .int .i64 (e4 : Int)) (by simp; omega) (Nat.le_refl _)).swap
            have own9 := ownsRow_setCell_below (ownsRow_setCell_below own8 (a := ⟨w.heap.size, 0, none⟩) (by show w.heap.size < _; omega) (.string ⟨d4.toArray⟩)) (a := ⟨w.heap.size, 1, none⟩) (by show w.heap.size < _; omega) (.int .i64 (e4 : Int))
            clear kg7 kg8 own7 own8 B4
            go_wp2_with fail
            go_meet
            exact ⟨d4, e4, HR, own9, kg9⟩
          · have e2' := HRS.out
            rw [if_neg h0] at e2'
            have HR := Lib.hid (show (rdK q (k + 1)).doc = ⟨d3, e3⟩ by rw [e2']; exact Q3.out)
            have h0 : ¬ 3 < (cc : Int) := by omega
            clear e2'
            go_wp2_with fail
            go_meet
            exact ⟨d3, e3, HR, own7, kg7⟩
        case rest =>
          clear kg7 own7 a0 a1 a2 a3
          obtain ⟨d, e, HR, own, kg⟩ := hcut
          obtain ⟨a0, a1, a2, a3⟩ := kg.i1.c4
          simp only at a0 a1 a2 a3
          have kgn := kg.new 33 #[.int .u8 (k : Int), .int .u32 (n : Int), .int .u8 (cc : Int), .string ⟨t.toArray⟩]
          have szc := kg.i3.lt
          simp only at szc
          have hm1 : l.length + 1 ≤ maxLen := by unfold maxLen; omega
          have hm2 : (l.length + 1) * 32 ≤ 140737488355328 := by omega
          go_wp2_with (at_builtin; go_must (refine wpList_append_any _ rfl (.tmp 46) (.tmp 48) _ rfl (w.heap.size + 2) 33 i0 _ 4 32 Try.underlying22 HI.out.1 HI.out.2.1 HI.out.2.2.1 HI.out.2.2.2 rfl (by omega) (.slice A l.length c) l.length (l.flatMap kpC) rfl (own.alloc _) _ _ 1 1 (kpC ⟨k, n, cc, ⟨t.toArray⟩⟩) rfl (blk_reads (x := (⟨k, n, cc, ⟨t.toArray⟩⟩ : Kp)) rfl kgn.i1) (kpC_one _) hm1 hm2 (Nat.le_trans szc (by simp)) ?_); intro v1 w1' own1 g1 at1; have kg3 := (kgn.tail).grown g1 (fun o ho => ⟨Nat.le_trans (Nat.le_add_right _ 2) (own.lt o ho).1, fun p hp => by have q1 := own.lt o ho; have q2 := HLT.out o ho; simp only [List.mem_cons] at hp; rcases hp with rfl | rfl | rfl | hp <;> simp only [ne_eq] <;> first | omega | exact absurd hp (by simp)⟩); clear at1 g1)
          have hfl : (l ++ [(⟨k, n, cc, ⟨t.toArray⟩⟩ : Kp)]).flatMap kpC = l.flatMap kpC ++ kpC ⟨k, n, cc, ⟨t.toArray⟩⟩ := by simp
          have hln : l.length + 1 = (l ++ [(⟨k, n, cc, ⟨t.toArray⟩⟩ : Kp)]).length := by simp
          rw [← hfl, hln] at own1
          obtain ⟨A2, c2, rfl, _⟩ := own_rows_at kpC_len (by decide) own1
          rw [← HLS.out] at own1
          rw [← HLS.out]
          clear hfl hln
          go_roundg (4 - (k + 1))
          case measure => omega
          case rel => exact ⟨k + 1, listK q (k + 1), A2, c2, d, e, by omega, by go_num, by rw [HLS.out], rfl, HR, own1, kg3.tail⟩
    · obtain rfl : k = 4 := by omega
      have he := doc_err (rdK q 4)
      rw [hD.out] at he
      simp only at he
      obtain ⟨c0, c1⟩ := kg.i1.c2
      obtain ⟨b0, b1⟩ := kg.i2.c2
      obtain ⟨g0, g1⟩ := kg.i2.f2
      simp only at c0 c1 b0 b1 g0 g1
      have hdv : drV (rdK q 4).doc = .agg #[.string ⟨d.toArray⟩, .int .i64 (e : Int)] := by rw [hD.out]; rfl
      have HDV := Lib.hid hdv
      have KS := (kg.swap.set2 (v0 := .string ⟨d.toArray⟩) (v1 := .int .i64 (e : Int)) (by simp) (by omega))
      have z0 := (kg.swap.set_ (i := 0) (by simp) (by omega) (.string ⟨d.toArray⟩)).i1.cell 0
      obtain ⟨y0, y1⟩ := KS.i1.c2
      simp at z0
      simp only at y0 y1
      by_cases h0 : e = 0
      · have hb : ((e : Int) != 0) = false := by rw [h0]; rfl
        have hT : takeL q = l := by unfold takeL; rw [if_pos (by omega), ← hL.out]
        have HT := Lib.hid hT
        obtain ⟨A2, c2, hv, _, hr, hbk⟩ := own_rows_at kpC_len (by decide) own
        obtain ⟨rfl, rfl⟩ : A2 = A ∧ c2 = c := by cases hv; exact ⟨rfl, rfl⟩
        have hne : ∀ ad, A2 = some ad → ad.block ≠ w.heap.size + 1 := fun ad h => by have := hbk ad h; omega
        have HRR := Lib.hid (Rows.setCell (Rows.setCell hr (p := ⟨w.heap.size + 1, 0, none⟩) hne (.string ⟨d.toArray⟩)) (p := ⟨w.heap.size + 1, 1, none⟩) hne (.int .i64 (e : Int)))
        clear he h0 hT hdv hD hL hv hr hbk hne own
        go_wp2_with fail
        go_region_held3 (fun W : World => W.cell? ⟨w.heap.size, 0, none⟩ = some (.string ⟨d.toArray⟩) ∧ W.cell? ⟨w.heap.size, 1, none⟩ = some (.int .i64 (e : Int)))
          (first | exact ⟨c0, c1⟩ | exact ⟨kg.drew.i1.cell 0, kg.drew.i1.cell 1⟩ | exact ⟨KS.i2.cell 0, KS.i2.cell 1⟩) (fail)
        all_goals
          go_wp2_with fail
          refine bodyPost_ret (v := .tuple #[.slice A2 l.length c2, .agg #[.string ⟨d.toArray⟩, .int .i64 (e : Int)]]) (by simp [results, Try.results26, go_sem, y0, y1, z0]) rfl ?_
          unfold RTakeRet
          rw [HT.out, HDV.out]
          exact ⟨A2, c2, rfl, HRR.out, KS.drew.bw⟩
      · have hb : ((e : Int) != 0) = true := by rw [bne_iff_ne]; omega
        have hT : takeL q = [] := by unfold takeL; rw [if_neg (by omega)]
        have HT := Lib.hid hT
        clear he h0 hT hdv hD hL own
        go_wp2_with fail
        go_region_held3 (fun W : World => W.cell? ⟨w.heap.size, 0, none⟩ = some (.string ⟨d.toArray⟩) ∧ W.cell? ⟨w.heap.size, 1, none⟩ = some (.int .i64 (e : Int)))
          (first | exact ⟨c0, c1⟩ | exact ⟨kg.drew.i1.cell 0, kg.drew.i1.cell 1⟩ | exact ⟨KS.i2.cell 0, KS.i2.cell 1⟩) (fail)
        all_goals
          go_wp2_with fail
          refine bodyPost_ret (v := .tuple #[.slice none 0 0, .agg #[.string ⟨d.toArray⟩, .int .i64 (e : Int)]]) (by simp [results, Try.results26, go_sem, y0, y1, z0]) rfl ?_
          unfold RTakeRet
          rw [HT.out, HDV.out]
          exact ⟨none, 0, rfl, fun k x hk => by simp at hk, KS.drew.bw⟩
end Go.Proofs.Ytgbnaifjdfoahaa.Sess
