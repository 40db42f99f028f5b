/- Slices of bytes cut, and their cells. Conditions: the bytes can be read. -/
import Derived.Test.YtgbnaifjdfoahaaWireConv
import Derived.Lib.SlBytesConst
namespace Go.Proofs.Ytgbnaifjdfoahaa
open Go.RowKit Wire

theorem own_slice1c {w : World} {base : Nat} {e : TypeId} {v : Value} {n : Nat} {xs : List Value} (h : w.ownsRow base e 1 v n xs) : ∃ A c, v = .slice A n c ∧ n ≤ c ∧ Reads w w.heap.size 1 A n xs := by
  have h' := h
  rcases h.2 with ⟨rfl, rfl⟩ | ⟨g, cap, cur, rfl, _, _, hc, _⟩
  · obtain rfl : xs = [] := List.eq_nil_of_length_eq_zero (by simpa using h.1)
    exact ⟨none, 0, rfl, Nat.le_refl _, Reads.none_⟩
  · exact ⟨_, _, rfl, hc, Reads.of_own h'⟩
theorem elem_bytes : Try.prog.elem 40 = 5 := by kernel_rfl
theorem size_bytes (w : World) : (sizeOf (Try.prog.elem 40)).run Try.prog w = .ok 1 w := by rw [elem_bytes]; kernel_rfl
theorem under_bytes : Try.prog.underlying 40 = some (.slice (Try.prog.elem 40)) := by kernel_rfl
/-- A slice of bytes from a place on. -/
theorem bytes_from {w : World} {B n c k : Nat} {A : Option Addr} {l : List UInt8} (h : Reads w B 1 A n (bv l)) (hk : k ≤ n) (hc : n ≤ c) :
    ∃ A' c', (∀ W : World, (Instr.slice 40 (.slice A n c) (some (.int .i64 (k : Int))) none none).run Try.prog W = .ok (.slice A' (n - k) c') W) ∧ n - k ≤ c' ∧ Reads w B 1 A' (n - k) (bv (l.drop k)) := by
  refine ⟨if c = k then A else A.map (·.add (k * 1)), c - k, fun W => ?_, by omega, ?_⟩
  · rw [run_slice_l W _ _ _ _ under_bytes .i64 (k : Int) (by omega) (by omega), size_bytes]
    rfl
  · have := h.cut hk hc
    rw [Nat.mul_one] at this
    have e : bv (l.drop k) = (bv l).drop k := List.map_drop
    rw [e]
    simpa using this
/-- A slice of bytes up to a place. -/
theorem bytes_to {w : World} {B n c k : Nat} {A : Option Addr} {l : List UInt8} (h : Reads w B 1 A n (bv l)) (hk : k ≤ n) (hc : n ≤ c) :
    ∃ A' c', (∀ W : World, (Instr.slice 40 (.slice A n c) none (some (.int .i64 (k : Int))) none).run Try.prog W = .ok (.slice A' k c') W) ∧ k ≤ c' ∧ Reads w B 1 A' k (bv (l.take k)) := by
  refine ⟨if c = 0 then A else A.map (·.add (0 * 1)), c - 0, fun W => ?_, by omega, ?_⟩
  · rw [run_slice_h W _ _ _ _ under_bytes .i64 (k : Int) (by omega) (by omega), size_bytes]
    rfl
  · have hl := h.1
    rw [bv_length, Nat.mul_one] at hl
    refine ⟨by rw [bv_length, List.length_take]; omega, fun hk0 => ?_⟩
    obtain ⟨ad, rfl, hb, hcell⟩ := h.2 (by omega)
    rw [if_neg (by omega)]
    refine ⟨ad.add (0 * 1), rfl, by rw [block_of_add]; exact hb, fun j u hu => ?_⟩
    rw [add_of_add, Nat.zero_mul, Nat.zero_add]
    refine hcell j u ?_
    unfold bv at hu ⊢
    rw [List.getElem?_map, List.getElem?_take] at hu
    rw [List.getElem?_map]
    split at hu
    · exact hu
    · cases hu
theorem bytes_one_f (W : World) {r : Nat} (hb : r < 256) (fz : Nat × Nat) : Reads (W.alloc (.cells #[.int .u8 (r : Int)] 5 fz)) (W.alloc (.cells #[.int .u8 (r : Int)] 5 fz)).heap.size 1 (some ⟨W.heap.size, 0, none⟩) 1 (bv [UInt8.ofNat r]) := by
  have hv : bv [UInt8.ofNat r] = [.int .u8 (r : Int)] := by
    show [Value.int .u8 ((UInt8.ofNat r).toNat : Int)] = _
    rw [UInt8.toNat_ofNat', Nat.mod_eq_of_lt (by omega)]
  rw [hv]
  refine ⟨rfl, fun _ => ⟨_, rfl, by simp, fun j u hu => ?_⟩⟩
  match j, hu with
  | 0, hu =>
    have hu' : u = .int .u8 (r : Int) := (Option.some.inj hu).symm
    subst hu'
    show World.cell? _ ⟨W.heap.size, 0, none⟩ = _
    exact cell_of_row _ _ 0 #[.int .u8 (r : Int)] _ _ (heap_alloc_new W _)
theorem bytes_const (w : World) (C : Array Value) (n c : Nat) : (convert 40 40 (.slice (some ⟨w.heap.size, 0, none⟩) n c)).run Try.prog (w.alloc (.cells C 5)) = .ok (.slice (some ⟨w.heap.size, 0, none⟩) n c) (w.alloc (.cells C 5 (C.size, C.size + 1))) :=
  Lib.run_convert_bytes_const (P := Try.prog) w 40 5 C n c Try.underlying40 Try.underlying5
end Go.Proofs.Ytgbnaifjdfoahaa
