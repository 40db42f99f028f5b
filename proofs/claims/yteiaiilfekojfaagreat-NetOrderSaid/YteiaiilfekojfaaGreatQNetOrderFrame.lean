/- A frame behind bytes, the program's and the document's, walked. Conditions: the bytes that came in can be read. -/
import Derived.Deep.RegionHeld3
import Derived.Deep.RegionHeldLaw
import Derived.Test.YteiaiilfekojfaaGreatQNetOrderFrameP
import Derived.Test.YteiaiilfekojfaaGreatQNetOrderWireRef
import Derived.Test.YteiaiilfekojfaaGreatQNetOrderKeep
namespace Go.Proofs.YteiaiilfekojfaaGreat.Frame
open Go.RowKit Wire

theorem sum_any (l : List UInt8) (hl : l.length < 4611686018427387904) (w : World) :
    Calls Tryz.prog 89 #[.string ⟨l.toArray⟩] w fun e w' => e = .returned (.int .u64 (crcSum l : Int)) ∧ w' = w := by
  have HC := Lib.hid (fun W => more_any 0 (by omega) l hl W)
  have hc : crcSum l = cpl (crcMore (cpl 0) l) := rfl
  rw [hc]
  generalize cpl (crcMore (cpl 0) l) = z at *
  go_enter Tryz.func89, Tryz.ntmps89
  go_wp2_with fail
  refine (HC.out _).mono ?_; rintro e w1 ⟨rfl, rfl⟩
  go_wp2_with fail
  go_ret
  exact ⟨rfl, rfl⟩
/-- A call hands back bytes of its own, and an error. -/
def RetP (w w' : World) (e : Ending) (l : List UInt8) (err : Nat) : Prop :=
  ∃ v, e = .returned (.tuple #[v, .int .i64 (err : Int)]) ∧ w'.ownsRow w.heap.size 5 1 v l.length (bv l) ∧ Below w.heap.size w w'
theorem fput_bad (A : Option Addr) (c : Nat) (l s : List UInt8) (hl : l.length ≤ 1000000000) (hs : s.length = 0 ∨ 65536 < s.length) (w : World) (hr : Reads w w.heap.size 1 A l.length (bv l)) :
    Calls Tryz.prog 44 #[.slice A l.length c, .string ⟨s.toArray⟩] w fun e w' => RetP w w' e l 6 := by
  obtain ⟨i0, hi, hz0, hz1, hz2⟩ := info_parts info_u8
  have hsz := size_str s
  have hbo := bv_one l
  by_cases h0 : s.length = 0
  · have hb : ((s.length : Int) == 0) = true := by rw [h0]; rfl
    clear h0 hs
    go_enter Tryz.func44, Tryz.ntmps44
    go_wp2_with (at_builtin; go_must (refine wpList_append_any _ rfl (.const (.slice none 0 0)) (.tmp 17) _ rfl w.heap.size 5 i0 (.int .u8 0) 1 1 Tryz.underlying103 hi hz0 hz1 hz2 rfl (by omega) (.slice none 0 0) 0 [] rfl (World.ownsRow_nil _ _ _ _) w.heap.size A l.length c (bv l) rfl hr hbo (by simp only [maxLen]; omega) (by omega) (Nat.le_refl _) ?_); intro v1 w1 hown1 hg1 hat1)
    go_ret2
    rw [Nat.zero_add, List.nil_append] at hown1
    exact ⟨_, rfl, hown1, (Below.refl _ w).grown hg1 (Nat.le_refl _) (fun k hk => by cases hk)⟩
  · have hb : ((s.length : Int) == 0) = false := beq_eq_false_iff_ne.2 (by omega)
    have h1 : (65536 : Int) < (s.length : Int) := by omega
    clear h0 hs
    go_enter Tryz.func44, Tryz.ntmps44
    go_wp2_with (at_builtin; go_must (refine wpList_append_any _ rfl (.const (.slice none 0 0)) (.tmp 17) _ rfl w.heap.size 5 i0 (.int .u8 0) 1 1 Tryz.underlying103 hi hz0 hz1 hz2 rfl (by omega) (.slice none 0 0) 0 [] rfl (World.ownsRow_nil _ _ _ _) w.heap.size A l.length c (bv l) rfl hr hbo (by simp only [maxLen]; omega) (by omega) (Nat.le_refl _) ?_); intro v1 w1 hown1 hg1 hat1)
    go_ret2
    rw [Nat.zero_add, List.nil_append] at hown1
    exact ⟨_, rfl, hown1, (Below.refl _ w).grown hg1 (Nat.le_refl _) (fun k hk => by cases hk)⟩

/-- What holds at the head of a round: what is put so far, and the bytes that are still to come, make the whole. -/
def SumAt (w : World) (l : List UInt8) (x : Nat) (gk : Nat) (v i : Value) (wr : World) : Prop :=
  ∃ (k : Nat) (pre : List UInt8), k + gk = 8 ∧ i = .int .i64 (k : Int) ∧ Hid (pre ++ leB gk (x / 256 ^ k) = l ++ leB 8 x) ∧ pre.length = l.length + k ∧ wr.ownsRow w.heap.size 5 1 v pre.length (bv pre) ∧ Below w.heap.size w wr
set_option maxRecDepth 100000 in
set_option maxHeartbeats 4000000 in
theorem fput_ok (A : Option Addr) (c : Nat) (l s : List UInt8) (hl : l.length ≤ 1000000000) (h1 : 0 < s.length) (h2 : s.length ≤ 65536) (w : World) (hr : Reads w w.heap.size 1 A l.length (bv l)) :
    Calls Tryz.prog 44 #[.slice A l.length c, .string ⟨s.toArray⟩] w fun e w' => RetP w w' e (l ++ frameB s) 0 := by
  obtain ⟨i0, hi, hz0, hz1, hz2⟩ := info_parts info_u8
  have hsz := size_str s
  have hb : ((s.length : Int) == 0) = false := beq_eq_false_iff_ne.2 (by omega)
  have h3 : ¬ (65536 : Int) < (s.length : Int) := by omega
  have HN := Lib.hid (num_put A c l s.length (by omega) (by omega) w hr)
  have hn9 := (numB_length s.length (by omega)).1
  have HS := Lib.hid (fun W => sum_any s (by omega) W)
  have hx := crcSum_lt s
  have HF : Hid (l ++ frameB s = (l ++ numB s.length) ++ leB 8 (crcSum s) ++ s) := by show _ = _; unfold frameB; simp
  generalize crcSum s = x at *
  have hml : (l ++ numB s.length).length ≤ l.length + 9 := by rw [List.length_append]; omega
  generalize l ++ numB s.length = m at *
  clear hr hn9
  go_enter Tryz.func44, Tryz.ntmps44
  go_wp2_with fail
  refine HN.out.mono ?_; rintro e w1 ⟨v, rfl, hown, hB⟩
  go_wp2_with fail
  refine (HS.out _).mono ?_; rintro e w2 ⟨rfl, rfl⟩
  go_wp2_with fail
  go_loopg [6, 26] 8 (fun gk v i wr => SumAt w m x gk v i wr)
  case atStart => exact ⟨0, m, by omega, rfl, by show _ = _; simp, by omega, hown, hB⟩
  case round =>
    clear hown hB
    obtain ⟨k, pre, hk, rfl, hpre, hpl, hown, hB⟩ := hrel
    by_cases h8 : k < 8
    · obtain ⟨j, rfl⟩ : ∃ j, gk = j + 1 := ⟨gk - 1, by omega⟩
      have hk8 : (k : Int) < 8 := by omega
      go_wp2_with (at_builtin; go_must (refine wpList_append_own _ rfl (.tmp 29) (.tmp 35) 103 rfl w.heap.size 5 i0 (.int .u8 0) 1 1 Tryz.underlying103 hi hz0 hz1 hz2 rfl (by decide) _ _ _ rfl (hown.alloc _) ⟨wr.heap.size, 0, none⟩ 1 1 [.int .u8 ((x : Int) / 2 ^ (8 * k) % 256)] rfl rfl (cell_one_new _ _ _) (by simp [Value.oneCell']) (by unfold maxLen; omega) (by omega) (by have := hB.size; simp; omega) ?_); intro v3 w3 hown3 hgrow3 _)
      have hB3 := own_step hown hB hB.size hgrow3
      go_roundg j
      case measure => omega
      case rel =>
        refine ⟨k + 1, pre ++ [UInt8.ofNat (x / 256 ^ k)], by omega, by go_num, ?_, by rw [List.length_append, List.length_singleton]; omega, ?_, hB3⟩
        · show _ = _
          rw [← hpre.out, leB, Nat.pow_succ, ← Nat.div_div_eq_div_mul]; simp
        · rw [List.length_append, bv_append]
          show w3.ownsRow _ _ _ _ _ (bv pre ++ [Value.int .u8 ((UInt8.ofNat (x / 256 ^ k)).toNat : Int)])
          rw [← byte_shift]
          exact hown3
    · obtain rfl : k = 8 := by omega
      obtain rfl : gk = 0 := by omega
      have hp2 : Hid (pre = m ++ leB 8 x) := by
        have := hpre.out
        rw [leB, List.append_nil] at this
        exact this
      go_wp2_with (at_builtin; go_must (refine Lib.wpList_append_own_string _ rfl (.tmp 38) (.tmp 39) 103 9 rfl w.heap.size 5 i0 Tryz.underlying103 Tryz.underlying9 hi hz0 hz1 hz2 _ pre.length (bv pre) rfl hown ⟨s.toArray⟩ rfl (by rw [hsz]; unfold maxLen; omega) (by rw [hsz]; omega) hB.size ?_); intro v2 w2 hown2 hgrow2 _)
      go_ret2
      refine ⟨v2, rfl, ?_, hB.grown hgrow2 hB.size (fun k hk => (hown.lt k hk).1)⟩
      rw [bv_str, hsz] at hown2
      rw [HF.out, ← hp2.out, List.length_append, bv_append]
      exact hown2

end Go.Proofs.YteiaiilfekojfaaGreat.Frame
