/- Numbers and texts put as bytes, walked. Conditions: the bytes that came in can be read, and are fewer than 2^40. -/
import Derived.Test.YteiaiilfekojfaaGreatProg
import Derived.WalkKit
import Derived.Outline
import Derived.Laws.CopyOwn
import Derived.Lib.AppendStr
import Derived.Deep.DeepMust
import Derived.Laws.ShiftsVarLaws
import Derived.Test.YteiaiilfekojfaaGreatQNetOrderBase
import Derived.Test.YteiaiilfekojfaaGreatQNetOrderWidth
namespace Go.Proofs.YteiaiilfekojfaaGreat.Wire
open Go.RowKit

def byteV (b : UInt8) : Value := .int .u8 (b.toNat : Int)
def bv (l : List UInt8) : List Value := l.map byteV
theorem bv_one (l : List UInt8) : ∀ u ∈ bv l, u.oneCell' = true := by
  intro u hu
  obtain ⟨b, _, rfl⟩ := List.mem_map.1 hu
  rfl
theorem bv_length (l : List UInt8) : (bv l).length = l.length := List.length_map ..
theorem bv_append (a b : List UInt8) : bv (a ++ b) = bv a ++ bv b := List.map_append
theorem bv_str (l : List UInt8) : Lib.strCells ⟨l.toArray⟩ = bv l := rfl
theorem info_u8 : (Tryz.prog.info? 5).map (fun i => (i.zero, i.size, i.bytes)) = some (some (.int .u8 0), 1, 1) := by kernel_rfl
theorem size_u8 : (Tryz.prog.info? 5).map (·.size) = some 1 := by kernel_rfl
/-- A call hands back bytes, in new memory or nil; what lay stays. -/
def RetB (w w' : World) (e : Ending) (l : List UInt8) : Prop :=
  ∃ v, e = .returned v ∧ w'.ownsRow w.heap.size 5 1 v l.length (bv l) ∧ Below w.heap.size w w'
theorem own_slice1 {w : World} {base : Nat} {e : TypeId} {v : Value} {n : Nat} {xs : List Value} (h : w.ownsRow base e 1 v n xs) : ∃ A c, v = .slice A n c ∧ Reads w w.heap.size 1 A n xs := by
  have h' := h
  rcases h.2 with ⟨rfl, rfl⟩ | ⟨g, cap, cur, rfl, _⟩
  · obtain rfl : xs = [] := List.eq_nil_of_length_eq_zero (by simpa using h.1)
    exact ⟨none, 0, rfl, Reads.none_⟩
  · exact ⟨_, _, rfl, Reads.of_own h'⟩
theorem own_step {w wr w1 : World} {base : Nat} {e : TypeId} {size : Nat} {v : Value} {n : Nat} {xs : List Value} {o : Obj} (hown : wr.ownsRow base e size v n xs) (hB : Below base w wr) (hbase : base ≤ wr.heap.size) (hg : (wr.alloc o).grownBy w1 v.ownBlock) : Below base w w1 :=
  (hB.alloc hbase o).grown hg (by simp; omega) (fun k hk => (hown.lt k hk).1)
theorem made_length (z : Array Value) (n : Nat) : (madeCells z n).toList.length = n := by rw [Array.length_toList, size_madeCells]
theorem splice_take {L cs : List Value} (_h : cs.length ≤ L.length) : (splice L 0 cs).take cs.length = cs := by simp [splice]
theorem own_of_splice {w : World} {g base n c : Nat} {L cs : List Value} {t : TypeId} (hb : base ≤ g) (h : w.heap[g]? = some (.cells (splice L 0 cs).toArray t (0, 0))) (hn : cs.length = n) (hL : L.length = c) (hc : n ≤ c) (hm : c ≤ maxLen) :
    w.ownsRow base t 1 (.slice (some ⟨g, 0, none⟩) n c) n cs := by
  refine ⟨by omega, .inr ⟨g, c, _, rfl, hb, h, hc, hm, ?_, ?_⟩⟩
  · have := length_splice L 0 cs (by omega)
    simp; omega
  · have := splice_take (L := L) (cs := cs) (by omega)
    rw [hn] at this
    simpa using this

theorem byte_shift (x m : Nat) : ((x : Int) / 2 ^ (8 * m) % 256) = ((UInt8.ofNat (x / 256 ^ m)).toNat : Int) := by
  rw [UInt8.toNat_ofNat', show (256 : Nat) ^ m = 2 ^ (8 * m) from by rw [show (256 : Nat) = 2 ^ 8 from rfl, ← Nat.pow_mul]]
  generalize hp : (2 : Nat) ^ (8 * m) = q
  have : (2 : Int) ^ (8 * m) = ((q : Nat) : Int) := by rw [← hp]; simp
  rw [this]
  omega

/-- What holds at the head of a round: what is put so far, and the bytes that are still to come, make the whole. -/
def PutAt (w : World) (l : List UInt8) (x : Nat) (v i : Value) (wr : World) : Prop :=
  ∃ (j : Nat) (pre : List UInt8), j ≤ 8 ∧ i = .int .i64 ((j : Int) - 1) ∧ Hid (pre ++ beB j x = l ++ numB x) ∧ pre.length ≤ l.length + 9 ∧ wr.ownsRow w.heap.size 5 1 v pre.length (bv pre) ∧ Below w.heap.size w wr

set_option maxRecDepth 100000 in
set_option maxHeartbeats 4000000 in
theorem num_put (A : Option Addr) (c : Nat) (l : List UInt8) (x : Nat) (hx : x < 18446744073709551616) (hl : l.length ≤ 1099511627776) (w : World) (hr : Reads w w.heap.size 1 A l.length (bv l)) :
    Calls Tryz.prog 88 #[.slice A l.length c, .int .u64 (x : Int)] w fun e w' => RetB w w' e (l ++ numB x) := by
  obtain ⟨i0, hi, hz0, hz1, hz2⟩ := info_parts info_u8
  have hbl := bv_length l
  obtain ⟨cs, hcs⟩ : ∃ cs, cs = bv l := ⟨_, rfl⟩
  rw [← hcs] at hr hbl
  have hmk := fun W => run_make_rowN (P := Tryz.prog) 103 5 i0 (.int .u8 0) Tryz.underlying103 hi hz0 .i64 .i64 l.length (l.length + 9) (by omega) (by rw [hz2]; omega) (by omega) W
  rw [hz1, Nat.mul_one] at hmk
  have e9 : (((l.length + 9 : Nat)) : Int) = (l.length : Int) + 9 := by omega
  rw [e9] at hmk
  have HC := Lib.hid hcs
  have P1 : Hid ((w.alloc (.cells (madeCells #[.int .u8 0] (l.length + 9)) 5)).heap[w.heap.size]? = some (.cells (madeCells #[.int .u8 0] (l.length + 9)).toList.toArray 5 (0, 0))) := by
    show _ = _
    rw [Array.toArray_toList]; exact heap_alloc_new w _
  have P2 : Hid (cs.length = Nat.min l.length l.length) := by show _ = _; rw [hbl]; exact (Nat.min_self _).symm
  have P3 : Hid (0 < cs.length → some (⟨w.heap.size, 0, none⟩ : Addr) = some ⟨w.heap.size, 0, none⟩ ∧ ∃ ad, A = some ad ∧ ∀ (j : Nat) v, cs[j]? = some v → (w.alloc (.cells (madeCells #[.int .u8 0] (l.length + 9)) 5)).cell? (ad.add j) = some v) := by
    intro h0
    obtain ⟨ad, hA, _, hcell⟩ := (hr.alloc (Nat.le_refl _) _).2 (by omega)
    exact ⟨rfl, ad, hA, hcell⟩
  have P4 : Hid (0 + cs.length ≤ (madeCells #[.int .u8 0] (l.length + 9)).toList.length) := by show _ ≤ _; rw [made_length]; omega
  have P5 : Hid (∀ v ∈ cs, v.oneCell' = true) := by rw [hcs]; exact bv_one l
  have P6 : Hid (Below w.heap.size w (w.alloc (.cells (madeCells #[.int .u8 0] (l.length + 9)) 5))) := (Below.refl _ w).alloc (Nat.le_refl _) _
  have HL := Lib.hid hbl
  clear hcs hr e9 hbl
  by_cases h8 : x < 248
  · go_enter Tryz.func88, Tryz.ntmps88
    go_wp2_with (first
      | (with_reducible refine wpList_copy_splice rfl (.tmp 14) (.tmp 15) _ _ rfl 5 Tryz.underlying103 size_u8 _ _ _ _ _ _ rfl rfl w.heap.size 0 (madeCells #[.int .u8 0] (l.length + 9)).toList 5 P1.out cs P2.out P3.out P4.out P5.out w.heap.size w P6.out (Nat.le_refl _) ?_; intro w1 hsp hb1; have hown1 := own_of_splice (Nat.le_refl _) hsp.out HL.out (made_length _ _) (by omega) (by unfold maxLen; omega))
      | (at_builtin; go_must (refine wpList_append_own _ rfl (.tmp 19) (.tmp 22) 103 rfl w.heap.size 5 i0 (.int .u8 0) 1 1 Tryz.underlying103 hi hz0 hz1 hz2 rfl (by decide) _ _ _ rfl (hown1.alloc _) ⟨w1.heap.size, 0, none⟩ 1 1 [.int .u8 (x : Int)] rfl rfl (cell_one_new _ _ _) (by simp [Value.oneCell']) (by unfold maxLen; omega) (by omega) (by have := hb1.size; simp; omega) ?_); intro v' w2 hown' hgrow _))
    go_ret
    have hB2 := own_step hown1 hb1 hb1.size hgrow
    refine ⟨v', rfl, ?_, hB2⟩
    have e1 : numB x = [UInt8.ofNat x] := by unfold numB; rw [if_pos h8]
    have e2 : bv (l ++ [UInt8.ofNat x]) = cs ++ [.int .u8 (x : Int)] := by
      rw [bv_append, ← HC.out]
      congr 1
      show [Value.int .u8 ((UInt8.ofNat x).toNat : Int)] = _
      rw [UInt8.toNat_ofNat', Nat.mod_eq_of_lt (by omega)]
    rw [e1, e2, List.length_append]
    exact hown'
  · have hw := width_bounds x (by omega) hx
    obtain ⟨k, hk⟩ : ∃ k, k = widthN x := ⟨_, rfl⟩
    have hk1 : 1 ≤ k := by omega
    have hk8 : k ≤ 8 := by omega
    have HW : Hid (∀ W : World, Calls Tryz.prog 161 #[.int .u64 (x : Int)] W fun e w' => e = .returned (.int .i64 (k : Nat)) ∧ W = w') := fun W => by rw [hk]; exact width_any x hx W
    have HK := Lib.hid hk
    clear hw hk
    go_enter Tryz.func88, Tryz.ntmps88
    go_wp2_with (first
      | (go_at_call 161; refine (HW.out _).mono ?_; rintro e w' ⟨rfl, rfl⟩)
      | (with_reducible refine wpList_copy_splice rfl (.tmp 14) (.tmp 15) _ _ rfl 5 Tryz.underlying103 size_u8 _ _ _ _ _ _ rfl rfl w.heap.size 0 (madeCells #[.int .u8 0] (l.length + 9)).toList 5 P1.out cs P2.out P3.out P4.out P5.out w.heap.size w P6.out (Nat.le_refl _) ?_; intro w1 hsp hb1; have hown1 := own_of_splice (Nat.le_refl _) hsp.out HL.out (made_length _ _) (by omega) (by unfold maxLen; omega))
      | (at_builtin; go_must (refine wpList_append_own _ rfl (.tmp 26) (.tmp 30) 103 rfl w.heap.size 5 i0 (.int .u8 0) 1 1 Tryz.underlying103 hi hz0 hz1 hz2 rfl (by decide) _ _ _ rfl (hown1.alloc _) ⟨w1.heap.size, 0, none⟩ 1 1 [.int .u8 (247 + (k : Int))] rfl rfl (cell_one_new _ _ _) (by simp [Value.oneCell']) (by unfold maxLen; omega) (by omega) (by have := hb1.size; simp; omega) ?_); intro v' w2 hown' hgrow _))
    have hB2 := own_step hown1 hb1 hb1.size hgrow
    go_loopw [5, 7] (fun v i wr => PutAt w l x v i wr) (fun _ i _ => (intOf i + 1).toNat)
    case atStart =>
      have e1 : numB x = UInt8.ofNat (247 + k) :: beB k x := by unfold numB; rw [if_neg h8, ← HK.out]
      have e2 : bv (l ++ [UInt8.ofNat (247 + k)]) = cs ++ [.int .u8 (247 + (k : Int))] := by
        rw [bv_append, ← HC.out]
        congr 1
        show [Value.int .u8 ((UInt8.ofNat (247 + k)).toNat : Int)] = _
        rw [UInt8.toNat_ofNat', Nat.mod_eq_of_lt (by omega)]
        rfl
      exact ⟨k, l ++ [UInt8.ofNat (247 + k)], hk8, rfl, by show _ = _; rw [e1]; simp, by simp, by rw [e2, List.length_append]; exact hown', hB2⟩
    case round =>
      obtain ⟨j, pre, hj, rfl, hpre, hpl, hown, hB⟩ := hrel
      clear hB2 hown' hgrow hb1 hsp
      by_cases hj0 : j = 0
      · subst hj0
        go_wp2
        go_ret
        exact ⟨_, rfl, by rw [← hpre.out]; simpa [beB] using hown, hB⟩
      · obtain ⟨m, rfl⟩ : ∃ m, j = m + 1 := ⟨j - 1, by omega⟩
        have em : (((m + 1 : Nat)) : Int) - 1 = (m : Int) := by omega
        rw [em]
        clear em hj0
        have hp2 : pre.length + 1 ≤ l.length + 9 := by
          have h := congrArg List.length hpre.out
          rw [List.length_append, List.length_append, beB_length] at h
          have := (numB_length x hx).1
          omega
        go_wp2_with (at_builtin; go_must (refine wpList_append_own _ rfl (.tmp 38) (.tmp 44) 103 rfl w.heap.size 5 i0 (.int .u8 0) 1 1 Tryz.underlying103 hi hz0 hz1 hz2 rfl (by decide) _ _ _ rfl (hown.alloc _) ⟨wr.heap.size, 0, none⟩ 1 1 [.int .u8 ((x : Int) / 2 ^ (8 * m) % 256)] rfl rfl (cell_one_new _ _ _) (by simp [Value.oneCell']) (by unfold maxLen; omega) (by omega) (by have := hB.size; simp; omega) ?_); intro v3 w3 hown3 hgrow3 _)
        have hB3 := own_step hown hB hB.size hgrow3
        refine ⟨⟨m, pre ++ [UInt8.ofNat (x / 256 ^ m)], by omega, rfl, ?_, by rw [List.length_append, List.length_singleton]; exact hp2, ?_, hB3⟩, by simp [intOf]⟩
        · show _ = _
          rw [← hpre.out, beB]; simp
        · rw [List.length_append, bv_append]
          show w3.ownsRow _ _ _ _ _ (bv pre ++ [Value.int .u8 ((UInt8.ofNat (x / 256 ^ m)).toNat : Int)])
          rw [← byte_shift]
          exact hown3

theorem str_put (A : Option Addr) (c : Nat) (l s : List UInt8) (hl : l.length ≤ 1000000000) (hs : s.length ≤ 1000000000) (w : World) (hr : Reads w w.heap.size 1 A l.length (bv l)) :
    Calls Tryz.prog 122 #[.slice A l.length c, .string ⟨s.toArray⟩] w fun e w' => RetB w w' e (l ++ strB s) := by
  obtain ⟨i0, hi, hz0, hz1, hz2⟩ := info_parts info_u8
  have hsz : (ByteArray.mk s.toArray).size = s.length := by simp [ByteArray.size]
  have hN := Lib.hid (num_put A c l s.length (by omega) (by omega) w hr)
  have hn9 := (numB_length s.length (by omega)).1
  obtain ⟨m, hm⟩ : ∃ m, m = (l ++ numB s.length).length := ⟨_, rfl⟩
  have hm2 : m ≤ l.length + 9 := by rw [hm, List.length_append]; omega
  have HM := Lib.hid hm
  clear hm hr
  go_enter Tryz.func122, Tryz.ntmps122
  go_wp2_with fail
  refine hN.out.mono ?_; rintro e w1 ⟨v, rfl, hown, hB⟩
  rw [← HM.out] at hown
  go_wp2_with (at_builtin; go_must (refine Lib.wpList_append_own_string _ rfl (.tmp 9) (.tmp 10) 103 9 rfl w.heap.size 5 i0 Tryz.underlying103 Tryz.underlying9 hi hz0 hz1 hz2 v m (bv (l ++ numB s.length)) rfl hown ⟨s.toArray⟩ rfl (by rw [hsz]; unfold maxLen; omega) (by rw [hsz]; omega) hB.size ?_); intro v2 w2 hown2 hgrow2 _)
  go_ret
  refine ⟨v2, rfl, ?_, hB.grown hgrow2 hB.size (fun k hk => (hown.lt k hk).1)⟩
  rw [bv_str, hsz] at hown2
  have e1 : l ++ strB s = (l ++ numB s.length) ++ s := by unfold strB; simp
  rw [e1, List.length_append, ← HM.out, bv_append]
  exact hown2
end Go.Proofs.YteiaiilfekojfaaGreat.Wire
