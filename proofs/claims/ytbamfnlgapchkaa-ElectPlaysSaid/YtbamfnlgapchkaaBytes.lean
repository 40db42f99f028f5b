/- Bytes and texts: lists of numbers below 256 as bytes in memory; conversions. Conditions: none. -/
import Derived.Test.YtbamfnlgapchkaaBase
import Derived.Laws.BytesArg
import Derived.Test.YtbamfnlgapchkaaProg
import Derived.WalkKit
namespace Go.Proofs.Ytbamfnlgapchkaa.Byt
open Go.RowKit

def byteV (b : UInt8) : Value := .int .u8 (b.toNat : Int)
def bv (l : List UInt8) : List Value := l.map byteV
theorem bv_one (l : List UInt8) : ∀ u ∈ bv l, u.oneCell' = true := by
  intro u hu
  obtain ⟨b, _, rfl⟩ := List.mem_map.1 hu
  rfl
theorem bv_length (l : List UInt8) : (bv l).length = l.length := List.length_map ..
theorem bv_append (a b : List UInt8) : bv (a ++ b) = bv a ++ bv b := List.map_append
theorem own_slice1 {w : World} {base : Nat} {e : TypeId} {v : Value} {n : Nat} {xs : List Value} (h : w.ownsRow base e 1 v n xs) : ∃ A c, v = .slice A n c ∧ n ≤ c ∧ Reads w w.heap.size 1 A n xs := by
  have h' := h
  rcases h.2 with ⟨rfl, rfl⟩ | ⟨g, cap, cur, rfl, _, _, hc, _⟩
  · obtain rfl : xs = [] := List.eq_nil_of_length_eq_zero (by simpa using h.1)
    exact ⟨none, 0, rfl, Nat.le_refl _, Reads.none_⟩
  · exact ⟨_, _, rfl, hc, Reads.of_own h'⟩
theorem size_str (l : List UInt8) : (ByteArray.mk l.toArray).size = l.length := by simp [ByteArray.size]
theorem conv_str {P : Program} {w : World} {src dst e : TypeId} (hs : P.underlying src = some (.slice e)) (he : P.underlying e = some (.int .u8)) (hd : P.underlying dst = some .string)
    {B : Nat} {A : Option Addr} {n : Nat} {l : List UInt8} (c : Nat) (hr : Reads w B 1 A n (bv l)) :
    (convert src dst (.slice A n c)).run P w = .ok (.string ⟨l.toArray⟩) w := by
  have hn : l.length = n := by have := hr.1; rw [bv_length] at this; omega
  rcases A with _ | ad
  · have h0 : n = 0 := by
      rcases Nat.eq_zero_or_pos n with h0 | h0
      · exact h0
      · obtain ⟨ad, h, _⟩ := hr.2 h0
        cases h
    obtain rfl : l = [] := List.eq_nil_of_length_eq_zero (by omega)
    exact run_convert_bytes_nil w src e hs he n c dst hd
  · have hl : (loadCells ad n).run P w = .ok ((l.map fun b => (b.toNat : Int)).map (Value.int .u8)).toArray w := by
      have := run_loadCells_list (P := P) w ad ((l.map fun b => (b.toNat : Int)).map (Value.int .u8)) (fun j v hj => by
        rw [List.map_map] at hj
        have hjn : j < n := by
          have := (List.getElem?_eq_some_iff.1 hj).1
          simp at this; omega
        obtain ⟨ad', h1, _, h2⟩ := hr.2 (by omega)
        cases h1
        exact h2 j v hj)
      simpa [hn] using this
    rw [run_convert_bytes_string w src dst e _ n c hs he hd, run_bytesToString w _ n c _ hl, foldl_push_bytes]
    congr 2
    simp [ByteArray.empty, ByteArray.emptyWithCapacity, Function.comp_def]
    rfl
/-- Numbers below 256 as bytes. -/
def by8 (l : List Nat) : List UInt8 := l.map UInt8.ofNat
theorem by8_bv {l : List Nat} (h : ∀ x ∈ l, x < 256) : bv (by8 l) = l.map fun x : Nat => Value.int .u8 (x : Int) := by
  unfold bv by8
  rw [List.map_map]
  refine List.map_congr_left fun x hx => ?_
  show Value.int .u8 ((UInt8.ofNat x).toNat : Int) = _
  rw [UInt8.toNat_ofNat', Nat.mod_eq_of_lt (h x hx)]
theorem by8_nat (l : List UInt8) : by8 (l.map UInt8.toNat) = l := by
  unfold by8
  rw [List.map_map]
  conv => rhs; rw [← List.map_id l]
  exact List.map_congr_left fun x _ => by simp
theorem nat_lt (l : List UInt8) : ∀ x ∈ l.map UInt8.toNat, x < 256 := by
  intro x hx
  obtain ⟨b, _, rfl⟩ := List.mem_map.1 hx
  exact b.toNat_lt
theorem by8_length (l : List Nat) : (by8 l).length = l.length := List.length_map ..
theorem by8_inj {a b : List Nat} (ha : ∀ x ∈ a, x < 256) (hb : ∀ x ∈ b, x < 256) (h : by8 a = by8 b) : a = b := by
  have e : ∀ {l : List Nat}, (∀ x ∈ l, x < 256) → (by8 l).map UInt8.toNat = l := fun {l} hl => by
    unfold by8
    rw [List.map_map]
    conv => rhs; rw [← List.map_id l]
    exact List.map_congr_left fun x hx => by
      show (UInt8.ofNat x).toNat = x
      rw [UInt8.toNat_ofNat', Nat.mod_eq_of_lt (hl x hx)]
  rw [← e ha, ← e hb, h]
theorem index_at (l : List UInt8) (k : Nat) (b : UInt8) (h : l[k]? = some b) (hz : k < (ByteArray.mk l.toArray).size) : (ByteArray.mk l.toArray)[k] = b := by
  have hk : k < l.length := (List.getElem?_eq_some_iff.1 h).1
  rw [List.getElem?_eq_getElem hk] at h
  rw [← Option.some.inj h]
  rfl
/-- append(bytes, x), behind the making of the row of x. -/
theorem app_byte {w : World} {B n : Nat} {v : Value} {xs : List Value} (ho : w.ownsRow B 5 1 v n xs) (hB : B ≤ w.heap.size) (hn : n ≤ 100000) (s : Nat) :
    ∃ v' w', (Builtin.append_ #[22, 22] 22 #[v, .slice (some ⟨w.heap.size, 0, none⟩) 1 1]).run Try.prog (w.alloc (.cells #[.int .u8 (s : Int)] 5)) = .ok v' w' ∧ w'.ownsRow B 5 1 v' (n + 1) (xs ++ [.int .u8 (s : Int)]) ∧ Below B w w' := by
  have hinf : (Try.prog.info? 5).map (fun i => (i.zero, i.size, i.bytes)) = some (some (.int .u8 0), 1, 1) := by kernel_rfl
  obtain ⟨i, hi, hz, hs, hby⟩ := info_parts hinf
  have hb : Below w.heap.size w (w.alloc (.cells #[.int .u8 (s : Int)] 5)) := (Below.refl _ w).alloc (Nat.le_refl _) _
  have ho1 : (w.alloc (.cells #[.int .u8 (s : Int)] 5)).ownsRow B 5 1 v n xs := by
    refine ⟨ho.1, ?_⟩
    rcases ho.2 with h' | ⟨g, cap, cur, rfl, hg, hh, rest⟩
    · exact .inl h'
    · exact .inr ⟨g, cap, cur, rfl, hg, (hb.block g (Blk.lt hh)).trans hh, rest⟩
  have k1 := Blk.new w 5 #[.int .u8 (s : Int)]
  have hr : Reads (w.alloc (.cells #[.int .u8 (s : Int)] 5)) (w.alloc (.cells #[.int .u8 (s : Int)] 5)).heap.size 1 (some ⟨w.heap.size, 0, none⟩) 1 [.int .u8 (s : Int)] :=
    Reads.of_own (base := 0) (e := 5) (c := 1) ⟨rfl, .inr ⟨_, 1, _, rfl, Nat.zero_le _, k1, Nat.le_refl _, by unfold maxLen; omega, rfl, rfl⟩⟩
  obtain ⟨v', w', h1, h2, h3, h4⟩ := run_append_any (P := Try.prog) (w.alloc (.cells #[.int .u8 (s : Int)] 5)) B 22 22 5 i (.int .u8 0) 1 1 Try.underlying22 hi hz hs hby rfl (by omega) v n _ ho1 _ _ 1 1 _ hr (by simp [Value.oneCell']) (by unfold maxLen; omega) (by omega) (Nat.le_trans hB hb.size)
  exact ⟨v', w', h1, h2, ((Below.refl B w).alloc hB _).grown h3 (Nat.le_trans hB hb.size) (fun k hk => (ho1.lt k hk).1)⟩
end Go.Proofs.Ytbamfnlgapchkaa.Byt
