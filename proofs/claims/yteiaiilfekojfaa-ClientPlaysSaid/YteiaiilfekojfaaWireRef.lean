/- The reference's numbers and texts as bytes, walked: the same bytes. Conditions: the arguments are of their types. -/
import Derived.Test.YteiaiilfekojfaaWireWakes
import Derived.Deep.DeepMust
namespace Go.Proofs.Yteiaiilfekojfaa.Wire
open Go.RowKit

theorem own_new {w : World} {base : Nat} (t : TypeId) (v : Value) (hb : base ≤ w.heap.size) : (w.alloc (.cells #[v] t)).ownsRow base t 1 (.slice (some ⟨w.heap.size, 0, none⟩) 1 1) 1 [v] :=
  ⟨rfl, .inr ⟨w.heap.size, 1, #[v], rfl, hb, heap_alloc_new w _, Nat.le_refl _, by decide, rfl, rfl⟩⟩
theorem own_append {w w1 : World} {base : Nat} {v : Value} {t : TypeId} (hB : base ≤ w.heap.size) (hg : (w.alloc (.cells #[v] t)).grownBy w1 (some w.heap.size)) {w0 : World} (h : Below base w0 w) : Below base w0 w1 :=
  (h.alloc hB _).grown hg (by simp; omega) (fun k hk => by cases hk; exact hB)

/-- What holds at the head of a round of the reference's loop. -/
def DigAt (x : Nat) (w : World) (nv v : Value) (wr : World) : Prop :=
  ∃ j m : Nat, Hid (m = x / 256 ^ j) ∧ m < 18446744073709551616 ∧ j ≤ 8 ∧ Hid (j = 0 ∨ 256 ^ (j - 1) ≤ x) ∧ nv = .int .u64 (m : Int) ∧ wr.ownsRow w.heap.size 5 1 v j (bv (beB j x)) ∧ Below w.heap.size w wr
theorem dig_next {x j m : Nat} (hx : x < 18446744073709551616) (h : Hid (m = x / 256 ^ j)) (h0 : 0 < m) : j + 1 ≤ 8 ∧ Hid (m / 256 = x / 256 ^ (j + 1)) ∧ Hid (j + 1 = 0 ∨ 256 ^ (j + 1 - 1) ≤ x) ∧ m / 256 < 18446744073709551616 := by
  have h1 := h.out
  have hp : 0 < 256 ^ j := Nat.pow_pos (by omega)
  have hle : 256 ^ j ≤ x := by
    rcases Nat.lt_or_ge x (256 ^ j) with hl | hl
    · rw [Nat.div_eq_of_lt hl] at h1; omega
    · exact hl
  have h8 : (256 : Nat) ^ 8 = 18446744073709551616 := by decide
  refine ⟨?_, ?_, .inr hle, ?_⟩
  · have hlt : 256 ^ j < 256 ^ 8 := by omega
    exact (Nat.pow_lt_pow_iff_right (a := 256) (by omega)).1 hlt
  · show _ = _
    rw [h1, Nat.pow_succ, ← Nat.div_div_eq_div_mul]
  · have : x / 256 ^ j ≤ x := Nat.div_le_self _ _
    omega
theorem dig_done {x j : Nat} (hx : x < 18446744073709551616) (hx8 : 248 ≤ x) (h : Hid (0 = x / 256 ^ j)) (hj : Hid (j = 0 ∨ 256 ^ (j - 1) ≤ x)) : widthN x = j := by
  have h1 := h.out
  have hp : 0 < 256 ^ j := Nat.pow_pos (by omega)
  have hlt : x < 256 ^ j := by
    rcases Nat.lt_or_ge x (256 ^ j) with hl | hl
    · exact hl
    · have := Nat.div_pos hl hp; omega
  rcases hj.out with h0 | hle
  · subst h0; simp at hlt; omega
  · rcases Nat.eq_zero_or_pos j with h0 | h0
    · subst h0; simp at hlt; omega
    · exact width_unique x j (by omega) hx (by omega) hle hlt
theorem byte_mod (m : Nat) : Value.int .u8 ((m : Int) % 256) = byteV (UInt8.ofNat m) := by
  unfold byteV
  rw [UInt8.toNat_ofNat']
  rfl
theorem half256 (m : Nat) : ((m : Int) / 256) = ((m / 256 : Nat) : Int) := by omega

def RetStr (w : World) (l : List UInt8) (e : Ending) (w' : World) : Prop := e = .returned (.string ⟨l.toArray⟩) ∧ Below w.heap.size w w'
theorem add_str (a b : List UInt8) : (ByteArray.mk a.toArray) ++ (ByteArray.mk b.toArray) = ByteArray.mk (a ++ b).toArray := by
  apply ByteArray.ext
  rw [ByteArray.data_append]
  simp
end Go.Proofs.Yteiaiilfekojfaa.Wire
