/- Package cmd, walked: Parse. Conditions: the bytes are at most 1,000,000. -/
import Derived.Test.YtgbnaifjdfoahaaCmdP
import Derived.Test.YtgbnaifjdfoahaaRowsReads
import Derived.Deep.LoopGhost
namespace Go.Proofs.Ytgbnaifjdfoahaa.Cmd
open Go.RowKit Wire

theorem info_cmd : (Try.prog.info? 73).map (fun i => (i.zero, i.size, i.bytes)) = some (some (.agg #[.int .u8 0, .int .u32 0, .int .u8 0, .string ⟨#[]⟩, .string ⟨#[]⟩, .string ⟨#[]⟩, .int .u8 0]), 7, 72) := by kernel_rfl
/-- Commands and an error, handed back. -/
def ParseRet (w : World) (l : List Cm) (err : Nat) (e : Ending) (w' : World) : Prop := ∃ (A : Option Addr) (c : Nat), e = .returned (.tuple #[.slice A l.length c, .int .i64 (err : Int)]) ∧ Rows w' A 7 cmL l ∧ Below w.heap.size w w'
def ParseAt (r : Rd) (n : Nat) (w : World) (gk : Nat) (vl vc : Value) (wr : World) : Prop :=
  ∃ (k : Nat) (l : List Cm) (A : Option Addr) (c : Nat) (q : Rd), k + gk = n ∧ vc = .int .u8 (k : Int) ∧ vl = .slice A l.length c ∧ Hid (l = lsN r k) ∧ Hid (l.length = k) ∧ Hid (q = rdN r k) ∧ q.rest.length ≤ 1000000 ∧ wr.ownsRow (w.heap.size + 1) 73 7 (.slice A l.length c) l.length (l.flatMap cmL) ∧
    RdAt wr w.heap.size q ∧ Below w.heap.size w wr
set_option linter.unusedSimpArgs false in
set_option maxRecDepth 100000 in
set_option maxHeartbeats 8000000 in
theorem parse_any (s : List UInt8) (hl : s.length ≤ 1000000) (w : World) :
    Calls Try.prog 48 #[.string ⟨s.toArray⟩] w fun e w' => ParseRet w (parseC s).1 (parseC s).2 e w' := by
  obtain ⟨i0, hi, hz0, hz1, hz2⟩ := info_parts info_cmd
  obtain ⟨p, hp⟩ : ∃ p, p = parseC s := ⟨_, rfl⟩
  rw [← hp]
  unfold parseC at hp
  have HI := Lib.hid (And.intro hi (And.intro hz0 (And.intro hz1 hz2)))
  clear hi hz0 hz1 hz2
  by_cases h0 : s = []
  · rw [if_pos h0] at hp
    subst h0
    subst hp
    go_enter Try.func48, Try.ntmps48
    go_wp2
    go_ret2
    exact ⟨none, 0, rfl, Rows.nil _ _ _ _, Below.refl _ _⟩
  rw [if_neg h0] at hp
  have hie : s.isEmpty = false := List.isEmpty_eq_false_iff.2 h0
  obtain ⟨n, r1, e1⟩ : ∃ n r1, Rd.byte ⟨0, s⟩ = (n, r1) := ⟨_, _, rfl⟩
  rw [e1] at hp
  simp only at hp
  have hn := byte_lt e1
  have hr1 := Nat.le_trans (byte_rest e1) hl
  have HP := Lib.hid hp
  have HE := Lib.hid e1
  clear hp e1
  have ra : RdAt (w.alloc (.cells (rdC ⟨0, s⟩) 98)) w.heap.size ⟨0, s⟩ := Blk.new w _ _
  have ba : Below w.heap.size w (w.alloc (.cells (rdC ⟨0, s⟩) 98)) := (Below.refl _ w).alloc (Nat.le_refl _) _
  go_enter Try.func48, Try.ntmps48
  go_wp2_with fail
  refine (of_any s w).mono ?_; rintro e wa ⟨rfl, rfl⟩
  generalize w.alloc (.cells (rdC ⟨0, s⟩) 98) = wa at *
  go_wp2_with fail
  refine (byte_is HE.out (by simp only; omega) _ ra).mono ?_; rintro e w1 ⟨rfl, g1⟩
  have bw1 : Below w.heap.size w w1 := ba.grown g1.2 ba.size (fun k hk => by cases hk; exact Nat.le_refl _)
  have rd1 := g1.1
  clear ra ba g1
  by_cases hb : n = 0 ∨ 4 < n
  · have hp2 : p = ([], 4) := by rw [HP.out, if_pos hb]
    subst hp2
    by_cases hn0 : n = 0
    · subst hn0
      clear hb HP HE
      go_wp2
      go_ret2
      exact ⟨none, 0, rfl, Rows.nil _ _ _ _, bw1⟩
    · have b0 : ((n : Int) == 0) = false := beq_eq_false_iff_ne.2 (by omega)
      have b4 : (4 : Int) < (n : Int) := by omega
      clear hb HP HE hn0
      go_wp2
      go_ret2
      exact ⟨none, 0, rfl, Rows.nil _ _ _ _, bw1⟩
  have b0 : ((n : Int) == 0) = false := beq_eq_false_iff_ne.2 (by omega)
  have b4 : ¬ (4 : Int) < (n : Int) := by omega
  have hn4 : n ≤ 4 := by omega
  have hp2 := HP.out
  rw [if_neg hb] at hp2
  have HP2 := Lib.hid hp2
  clear hp2 HP hb HE
  go_wp2_with fail
  go_loopg [6, 21] n (fun gk l i wr => ParseAt r1 n w gk l i wr)
  case atStart => exact ⟨0, [], none, 0, r1, by omega, rfl, rfl, rfl, rfl, rfl, hr1, ⟨by simp, .inl ⟨rfl, rfl⟩⟩, rd1, bw1⟩
  case round =>
    clear rd1 bw1
    obtain ⟨k, l, A, c, q, hk, rfl, rfl, hL, hlen, hQ, hql, own, rd, bw⟩ := hrel
    by_cases h4 : k < n
    · have hk4 : (k : Int) < (n : Int) := by omega
      have hk5 : (0 : Int) ≤ (k : Int) + 1 := by omega
      have hk6 : (k : Int) + 1 < 256 := by omega
      have hls : lsN r1 (k + 1) = lsN r1 k ++ [(takeC (rdN r1 k)).1] := rfl
      have hrs : rdN r1 (k + 1) = (takeC (rdN r1 k)).2 := rfl
      rw [← hQ.out] at hls hrs
      rw [← hL.out] at hls
      have HLS := Lib.hid hls
      have HRS := Lib.hid hrs
      have htr := Nat.le_trans (takeC_rest q) hql
      have ht := take_any w.heap.size q hql
      generalize takeC q = tc at *
      obtain ⟨⟨xa, xb, xk, xs, xt, xu, xz⟩, q'⟩ := tc
      simp only at htr
      have HT := Lib.hid ht
      clear hls hrs hL hQ ht
      go_wp2_with fail
      refine (HT.out _ rd).mono ?_; rintro e w2 ⟨rfl, g2⟩
      have bw2 : Below w.heap.size w w2 := bw.grown g2.2 bw.size (fun k hk => by cases hk; exact Nat.le_refl _)
      have own2 := own_grown own g2.2 (fun g hg => by cases hg; omega)
      have rd2 := g2.1
      have HNE := Lib.hid (show ∀ g, (Value.slice A l.length c).ownBlock = some g → w.heap.size ≤ g ∧ some w.heap.size ≠ (Value.slice A l.length c).ownBlock from fun g hg => by have := own2.lt g hg; exact ⟨by omega, by rw [hg]; intro he; injection he with he; omega⟩)
      have HNN := Lib.hid (show some w.heap.size ≠ (Value.slice A l.length c).ownBlock from fun he => by have := own2.lt _ he.symm; omega)
      clear own rd bw g2
      unfold cmV cmC
      dsimp only
      have kn := Blk.new w2 73 #[.int .u8 (xa : Int), .int .u32 (xb : Int), .int .u8 (xk : Int), .string ⟨xs.toArray⟩, .string ⟨xt.toArray⟩, .string ⟨xu.toArray⟩, .int .u8 (xz : Int)]
      have hm1 : l.length + 1 ≤ maxLen := by have := hlen.out; unfold maxLen; omega
      have hm2 : (l.length + 1) * 72 ≤ 140737488355328 := by have := hlen.out; omega
      have sz := Blk.lt rd2
      have szz : w.heap.size + 1 ≤ (w2.alloc (.cells #[.int .u8 (xa : Int), .int .u32 (xb : Int), .int .u8 (xk : Int), .string ⟨xs.toArray⟩, .string ⟨xt.toArray⟩, .string ⟨xu.toArray⟩, .int .u8 (xz : Int)] 73)).heap.size := Nat.le_trans sz (by simp)
      have rda := Blk.alloc rd2 (.cells #[.int .u8 (xa : Int), .int .u32 (xb : Int), .int .u8 (xk : Int), .string ⟨xs.toArray⟩, .string ⟨xt.toArray⟩, .string ⟨xu.toArray⟩, .int .u8 (xz : Int)] 73)
      have bwa := bw2.alloc bw2.size (.cells #[.int .u8 (xa : Int), .int .u32 (xb : Int), .int .u8 (xk : Int), .string ⟨xs.toArray⟩, .string ⟨xt.toArray⟩, .string ⟨xu.toArray⟩, .int .u8 (xz : Int)] 73)
      go_wp2_with (at_builtin; go_must (refine wpList_append_any _ rfl (.tmp 23) (.tmp 26) _ rfl (w.heap.size + 1) 73 i0 _ 7 72 Try.underlying71 HI.out.1 HI.out.2.1 HI.out.2.2.1 HI.out.2.2.2 rfl (by omega) (.slice A l.length c) l.length (l.flatMap cmL) rfl (own2.alloc _) _ _ 1 1 (cmL (⟨xa, xb, xk, xs, xt, xu, xz⟩ : Cm)) rfl (blk_reads (x := (⟨xa, xb, xk, xs, xt, xu, xz⟩ : Cm)) rfl kn) (cmL_one _) hm1 hm2 szz ?_); intro v1 w3 own1 g3 at3; have rd3 := Blk.grown rda g3 HNN.out; have bw3 := bwa.grown g3 bwa.size (fun k hk => (HNE.out k hk).1); clear at3 g3)
      have hfl : (l ++ [(⟨xa, xb, xk, xs, xt, xu, xz⟩ : Cm)]).flatMap cmL = l.flatMap cmL ++ cmL (⟨xa, xb, xk, xs, xt, xu, xz⟩ : Cm) := by simp
      have hln : l.length + 1 = (l ++ [(⟨xa, xb, xk, xs, xt, xu, xz⟩ : Cm)]).length := by simp
      rw [← hfl, hln] at own1
      obtain ⟨A2, c2, rfl, _⟩ := own_rows_at cmL_len (by decide) own1
      have hlk : Hid ((l ++ [(⟨xa, xb, xk, xs, xt, xu, xz⟩ : Cm)]).length = k + 1) := by show _ = _; rw [← hln, hlen.out]
      clear hfl hln
      go_roundg (n - (k + 1))
      case measure => omega
      case rel => exact ⟨k + 1, l ++ [(⟨xa, xb, xk, xs, xt, xu, xz⟩ : Cm)], A2, c2, q', by omega, by go_num, rfl, by show _ = _; rw [HLS.out], hlk, by show _ = _; rw [HRS.out], htr, own1, rd3, bw3⟩
    · obtain rfl : k = n := by omega
      clear hlen
      go_wp2_with fail
      refine (end_any w.heap.size q _ rd).mono ?_; rintro e w2 ⟨rfl, g2⟩
      have bw2 : Below w.heap.size w w2 := bw.grown g2.2 bw.size (fun k hk => by cases hk; exact Nat.le_refl _)
      have own2 := own_grown own g2.2 (fun g hg => by cases hg; omega)
      obtain ⟨A2, c2, hv, _, hr, _⟩ := own_rows_at cmL_len (by decide) own2
      obtain ⟨rfl, rfl⟩ : A2 = A ∧ c2 = c := by cases hv; exact ⟨rfl, rfl⟩
      have hp2 := HP2.out
      rw [← hQ.out, ← hL.out] at hp2
      clear own own2 hv rd bw g2 hQ hL HP2
      by_cases he : q.end_.err = 0
      · have ne : ((q.end_.err : Int) != 0) = false := by rw [he]; rfl
        rw [if_neg (fun h => h he)] at hp2
        subst hp2
        go_wp2_with fail
        go_ret2
        exact ⟨A2, c2, rfl, hr, bw2⟩
      · have ne : ((q.end_.err : Int) != 0) = true := by rw [bne_iff_ne]; omega
        rw [if_pos he] at hp2
        subst hp2
        go_wp2_with fail
        go_ret2
        exact ⟨none, 0, rfl, Rows.nil _ _ _ _, bw2⟩
end Go.Proofs.Ytgbnaifjdfoahaa.Cmd
