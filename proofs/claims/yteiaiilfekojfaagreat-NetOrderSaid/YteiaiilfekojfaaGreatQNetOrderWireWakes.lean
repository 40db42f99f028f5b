/- Bytes as a text; the known bytes of the statements of layer 1. Conditions: none. -/
import Derived.Laws.BytesArg
import Derived.Test.YteiaiilfekojfaaGreatQNetOrderWirePut
import Derived.Test.YteiaiilfekojfaaGreatQNetOrderWireNum
namespace Go.Proofs.YteiaiilfekojfaaGreat.Wire
open Go.RowKit

theorem conv_str {P : Program} {w : World} {src dst e : TypeId} (hs : P.underlying src = some (.slice e)) (he : P.underlying e = some (.int .u8)) (hd : P.underlying dst = some .string)
    {B : Nat} {A : Option Addr} {n : Nat} {l : List UInt8} (c : Nat) (hr : Reads w B 1 A n (bv l)) :
    (convert src dst (.slice A n c)).run P w = .ok (.string ⟨l.toArray⟩) w := by
  have hn : l.length = n := by have := hr.1; rw [bv_length] at this; omega
  rcases A with _ | ad
  · have h0 : n = 0 := by
      rcases Nat.eq_zero_or_pos n with h0 | h0
      · exact h0
      · obtain ⟨ad, h, _⟩ := hr.2 h0
        cases h
    obtain rfl : l = [] := List.eq_nil_of_length_eq_zero (by omega)
    exact run_convert_bytes_nil w src e hs he n c dst hd
  · have hl : (loadCells ad n).run P w = .ok ((l.map fun b => (b.toNat : Int)).map (Value.int .u8)).toArray w := by
      have := run_loadCells_list (P := P) w ad ((l.map fun b => (b.toNat : Int)).map (Value.int .u8)) (fun j v hj => by
        rw [List.map_map] at hj
        have hjn : j < n := by
          have := (List.getElem?_eq_some_iff.1 hj).1
          simp at this; omega
        obtain ⟨ad', h1, _, h2⟩ := hr.2 (by omega)
        cases h1
        exact h2 j v hj)
      simpa [hn] using this
    rw [run_convert_bytes_string w src dst e _ n c hs he hd, run_bytesToString w _ n c _ hl, foldl_push_bytes]
    congr 2
    simp [ByteArray.empty, ByteArray.emptyWithCapacity, Function.comp_def]
    rfl

theorem alloc_rd (w : World) (r : Rd) : RdAt (w.alloc (.cells (rdC r) 157)) w.heap.size r := Blk.new w _ _
theorem only_below {w w' : World} {g B : Nat} (h : w.grownBy w' (some g)) (hg : B ≤ g) (hB : B ≤ w.heap.size) : Below B w w' :=
  (Below.refl B w).grown h hB (fun k hk => by cases hk; exact hg)

theorem num_eq {g : Nat} {r : Rd} {p : Nat × Rd} (e : r.num = p) (hl : r.rest.length < 4611686018427387904) (w : World) (h : RdAt w g r) :
    Calls Tryz.prog 140 #[.pointer (some ⟨g, 0, none⟩)] w fun e w' => NumRet w g p e w' := e ▸ num_any g r hl w h
theorem str_eq {g : Nat} {r : Rd} {m : Int} {p : List UInt8 × Rd} (e : r.str m = p) (h1 : -9223372036854775808 ≤ m) (h2 : m ≤ 9223372036854775807) (hl : r.rest.length < 4611686018427387904) (w : World) (h : RdAt w g r) :
    Calls Tryz.prog 124 #[.pointer (some ⟨g, 0, none⟩), .int .i64 m] w fun e w' => StrRet w g p e w' := e ▸ str_any g r m h1 h2 hl w h
/-- A call hands back a slice of bytes: its text. -/
def RetS (w w' : World) (e : Ending) (l : List UInt8) : Prop :=
  ∃ A c, e = .returned (.slice A l.length c) ∧ Reads w' w'.heap.size 1 A l.length (bv l) ∧ Below w.heap.size w w'
theorem RetB.s {w w' : World} {e : Ending} {l : List UInt8} (h : RetB w w' e l) : RetS w w' e l := by
  obtain ⟨v, rfl, hown, hB⟩ := h
  obtain ⟨A, c, rfl, hr⟩ := own_slice1 hown
  exact ⟨A, c, rfl, hr, hB⟩
end Go.Proofs.YteiaiilfekojfaaGreat.Wire
