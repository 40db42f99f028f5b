/- The reference's numbers and texts as bytes, walked: the same bytes. Conditions: the arguments are of their types. -/
import Derived.Deep.DeepMust
import Derived.Test.YteiaiilfekojfaaGreatQPutsAWireWakes
namespace Go.Proofs.YteiaiilfekojfaaGreat.Wire
open Go.RowKit

theorem own_new {w : World} {base : Nat} (t : TypeId) (v : Value) (hb : base ≤ w.heap.size) : (w.alloc (.cells #[v] t)).ownsRow base t 1 (.slice (some ⟨w.heap.size, 0, none⟩) 1 1) 1 [v] :=
  ⟨rfl, .inr ⟨w.heap.size, 1, #[v], rfl, hb, heap_alloc_new w _, Nat.le_refl _, by decide, rfl, rfl⟩⟩
theorem own_append {w w1 : World} {base : Nat} {v : Value} {t : TypeId} (hB : base ≤ w.heap.size) (hg : (w.alloc (.cells #[v] t)).grownBy w1 (some w.heap.size)) {w0 : World} (h : Below base w0 w) : Below base w0 w1 :=
  (h.alloc hB _).grown hg (by simp; omega) (fun k hk => by cases hk; exact hB)

/-- What holds at the head of a round of the reference's loop. -/
def DigAt (x : Nat) (w : World) (nv v : Value) (wr : World) : Prop :=
  ∃ j m : Nat, Hid (m = x / 256 ^ j) ∧ m < 18446744073709551616 ∧ j ≤ 8 ∧ Hid (j = 0 ∨ 256 ^ (j - 1) ≤ x) ∧ nv = .int .u64 (m : Int) ∧ wr.ownsRow w.heap.size 5 1 v j (bv (beB j x)) ∧ Below w.heap.size w wr
theorem dig_next {x j m : Nat} (hx : x < 18446744073709551616) (h : Hid (m = x / 256 ^ j)) (h0 : 0 < m) : j + 1 ≤ 8 ∧ Hid (m / 256 = x / 256 ^ (j + 1)) ∧ Hid (j + 1 = 0 ∨ 256 ^ (j + 1 - 1) ≤ x) ∧ m / 256 < 18446744073709551616 := by
  have h1 := h.out
  have hp : 0 < 256 ^ j := Nat.pow_pos (by omega)
  have hle : 256 ^ j ≤ x := by
    rcases Nat.lt_or_ge x (256 ^ j) with hl | hl
    · rw [Nat.div_eq_of_lt hl] at h1; omega
    · exact hl
  have h8 : (256 : Nat) ^ 8 = 18446744073709551616 := by decide
  refine ⟨?_, ?_, .inr hle, ?_⟩
  · have hlt : 256 ^ j < 256 ^ 8 := by omega
    exact (Nat.pow_lt_pow_iff_right (a := 256) (by omega)).1 hlt
  · show _ = _
    rw [h1, Nat.pow_succ, ← Nat.div_div_eq_div_mul]
  · have : x / 256 ^ j ≤ x := Nat.div_le_self _ _
    omega
theorem dig_done {x j : Nat} (hx : x < 18446744073709551616) (hx8 : 248 ≤ x) (h : Hid (0 = x / 256 ^ j)) (hj : Hid (j = 0 ∨ 256 ^ (j - 1) ≤ x)) : widthN x = j := by
  have h1 := h.out
  have hp : 0 < 256 ^ j := Nat.pow_pos (by omega)
  have hlt : x < 256 ^ j := by
    rcases Nat.lt_or_ge x (256 ^ j) with hl | hl
    · exact hl
    · have := Nat.div_pos hl hp; omega
  rcases hj.out with h0 | hle
  · subst h0; simp at hlt; omega
  · rcases Nat.eq_zero_or_pos j with h0 | h0
    · subst h0; simp at hlt; omega
    · exact width_unique x j (by omega) hx (by omega) hle hlt
theorem byte_mod (m : Nat) : Value.int .u8 ((m : Int) % 256) = byteV (UInt8.ofNat m) := by
  unfold byteV
  rw [UInt8.toNat_ofNat']
  rfl
theorem half256 (m : Nat) : ((m : Int) / 256) = ((m / 256 : Nat) : Int) := by omega

def RetStr (w : World) (l : List UInt8) (e : Ending) (w' : World) : Prop := e = .returned (.string ⟨l.toArray⟩) ∧ Below w.heap.size w w'
set_option maxRecDepth 100000 in
set_option maxHeartbeats 4000000 in
theorem refNum_any (x : Nat) (hx : x < 18446744073709551616) (w : World) :
    Calls Tryz.prog 52 #[.int .u64 (x : Int)] w fun e w' => RetStr w (numB x) e w' := by
  obtain ⟨i0, hi, hz0, hz1, hz2⟩ := info_parts info_u8
  by_cases h8 : x < 248
  · have hr : Reads (w.alloc (.cells #[.int .u8 (x : Int)] 5)) (w.alloc (.cells #[.int .u8 (x : Int)] 5)).heap.size 1 (some ⟨w.heap.size, 0, none⟩) 1 (bv [UInt8.ofNat x]) := by
      have h := Reads.of_own (own_new (w := w) 5 (.int .u8 (x : Int)) (Nat.le_refl _))
      have e : bv [UInt8.ofNat x] = [.int .u8 (x : Int)] := by
        show [Value.int .u8 ((UInt8.ofNat x).toNat : Int)] = _
        rw [UInt8.toNat_ofNat', Nat.mod_eq_of_lt (by omega)]
      rw [e]; exact h
    have hcv := conv_str Tryz.underlying103 Tryz.underlying5 Tryz.underlying9 1 hr
    have e1 : Hid (numB x = [UInt8.ofNat x]) := by show _ = _; unfold numB; rw [if_pos h8]
    clear hr
    go_enter Tryz.func52, Tryz.ntmps52
    go_wp2
    go_ret
    rw [e1.out]
    exact ⟨rfl, (Below.refl _ w).alloc (Nat.le_refl _) _⟩
  · go_enter Tryz.func52, Tryz.ntmps52
    go_wp2_with fail
    go_loopw [0, 3] (fun n v wr => DigAt x w n v wr) (fun n _ _ => (intOf n).toNat)
    case atStart => exact ⟨0, x, by show x = x / 256 ^ 0; simp, hx, by omega, .inl rfl, rfl, World.ownsRow_nil _ _ _ _, Below.refl _ _⟩
    case round =>
      obtain ⟨j, m, hm, hm64, hj, hjx, rfl, hown, hB⟩ := hrel
      by_cases h0 : 0 < m
      · obtain ⟨n1, n2, n3, n4⟩ := dig_next hx hm h0
        obtain ⟨A, c, rfl, hr⟩ := own_slice1 hown
        have hn := own_new (w := wr) (base := wr.heap.size) 5 (.int .u8 ((m : Int) % 256)) (Nat.le_refl _)
        have hra := (hr.alloc (Nat.le_refl _) (.cells #[.int .u8 ((m : Int) % 256)] 5))
        have hbo := bv_one (beB j x)
        have hh := Lib.hid (half256 m)
        clear hown hr
        go_wp2_with (at_builtin; go_must (refine wpList_append_any _ rfl (.tmp 15) (.tmp 16) _ rfl w.heap.size 5 i0 (.int .u8 0) 1 1 Tryz.underlying103 hi hz0 hz1 hz2 rfl (by omega) (.slice (some ⟨wr.heap.size, 0, none⟩) 1 1) 1 [.int .u8 ((m : Int) % 256)] rfl (own_new _ _ hB.size) wr.heap.size A j c (bv (beB j x)) rfl hra hbo (by simp only [maxLen]; omega) (by omega) (by have := hB.size; simp; omega) ?_); intro v1 w1 hown1 hg1 hat1)
        have hB1 := own_append hB.size hg1 hB
        refine ⟨⟨j + 1, m / 256, n2, n4, n1, n3, by rw [hh.out], ?_, hB1⟩, by simp [intOf]; omega⟩
        rw [beB, ← hm.out]
        rw [byte_mod, Nat.add_comm] at hown1
        exact hown1
      · obtain rfl : m = 0 := by omega
        have hw := dig_done hx (by omega) hm hjx
        have e1 : Hid (bv (numB x) = [Value.int .u8 (247 + (j : Int))] ++ bv (beB j x)) := by
          show _ = _
          unfold numB
          rw [if_neg h8, hw]
          show Value.int .u8 ((UInt8.ofNat (247 + j)).toNat : Int) :: _ = _
          rw [UInt8.toNat_ofNat', Nat.mod_eq_of_lt (by omega)]
          rfl
        obtain ⟨A, c, rfl, hr⟩ := own_slice1 hown
        have hra := (hr.alloc (Nat.le_refl _) (.cells #[.int .u8 (247 + (j : Int))] 5))
        have hbo := bv_one (beB j x)
        clear hown hr hw
        go_wp2_with (at_builtin; go_must (refine wpList_append_any _ rfl (.tmp 24) (.tmp 25) _ rfl w.heap.size 5 i0 (.int .u8 0) 1 1 Tryz.underlying103 hi hz0 hz1 hz2 rfl (by omega) (.slice (some ⟨wr.heap.size, 0, none⟩) 1 1) 1 [.int .u8 (247 + (j : Int))] rfl (own_new _ _ hB.size) wr.heap.size A j c (bv (beB j x)) rfl hra hbo (by simp only [maxLen]; omega) (by omega) (by have := hB.size; simp; omega) ?_); intro v1 w1 hown1 hg1 hat1; have hB1 := own_append hB.size hg1 hB; obtain ⟨A1, c1, rfl, hr1⟩ := own_slice1 hown1; have hcv := conv_str (l := numB x) Tryz.underlying103 Tryz.underlying5 Tryz.underlying9 c1 (by rw [e1.out]; exact hr1); clear hown1 hg1 hat1 hr1)
        go_ret
        exact ⟨rfl, hB1⟩

theorem add_str (a b : List UInt8) : (ByteArray.mk a.toArray) ++ (ByteArray.mk b.toArray) = ByteArray.mk (a ++ b).toArray := by
  apply ByteArray.ext
  rw [ByteArray.data_append]
  simp
theorem refStr_any (s : List UInt8) (hs : s.length ≤ 1000000000) (w : World) :
    Calls Tryz.prog 54 #[.string ⟨s.toArray⟩] w fun e w' => RetStr w (strB s) e w' := by
  have hsz : (ByteArray.mk s.toArray).size = s.length := by simp [ByteArray.size]
  have ha := add_str (numB s.length) s
  have hn9 := (numB_length s.length (by omega)).1
  go_enter Tryz.func54, Tryz.ntmps54
  go_wp2_with fail
  refine (refNum_any s.length (by omega) _).mono ?_; rintro e w1 ⟨rfl, hB⟩
  go_wp2_with fail
  go_ret
  exact ⟨rfl, hB⟩
end Go.Proofs.YteiaiilfekojfaaGreat.Wire
