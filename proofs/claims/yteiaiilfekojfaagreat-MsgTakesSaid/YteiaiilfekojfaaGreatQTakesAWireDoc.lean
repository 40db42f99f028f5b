/- The document's reader of bytes, walked: none, Byte, End. Conditions: the arguments are of their types. -/
import Derived.Deep.RegionHeld3
import Derived.Test.YteiaiilfekojfaaGreatQTakesAWireLaw
import Derived.Test.YteiaiilfekojfaaGreatQTakesAWireRef
import Derived.Test.YteiaiilfekojfaaGreatQTakesAKeep
namespace Go.Proofs.YteiaiilfekojfaaGreat.Wire
open Go.RowKit

/-- The document's reader: what is left, and the error. -/
structure Dr where
  s : List UInt8
  e : Nat
def drC (r : Dr) : Array Value := #[.string ⟨r.s.toArray⟩, .int .i64 (r.e : Int)]
def drV (r : Dr) : Value := .agg (drC r)
def Dr.byte (r : Dr) : Nat × Dr :=
  if r.e ≠ 0 then (0, r) else match r.s with
  | [] => (0, ⟨[], 3⟩)
  | b :: l => (b.toNat, ⟨l, 0⟩)
def Dr.end_ (r : Dr) : Dr := if r.e = 0 ∧ 0 < r.s.length then ⟨[], 4⟩ else r
/-- What the document's reader is, where the program's is this one. -/
def Rd.doc (r : Rd) : Dr := if r.err = 0 then ⟨r.rest, 0⟩ else ⟨[], r.err⟩
theorem doc_byte (r : Rd) : (r.doc).byte = (r.byte.1, r.byte.2.doc) := by
  obtain ⟨e, l⟩ := r
  unfold Rd.doc
  by_cases h : e = 0
  · subst h
    match l with
    | [] => rfl
    | b :: l => rw [byte_cons]; rfl
  · rw [byte_failed _ h]
    simp only [if_neg h]
    unfold Dr.byte
    rw [if_pos h]
theorem doc_end (r : Rd) : (r.doc).end_ = r.end_.doc := by
  obtain ⟨e, l⟩ := r
  unfold Rd.doc Dr.end_ Rd.end_ Rd.fail
  by_cases h : e = 0
  · subst h
    by_cases h2 : 0 < l.length
    · simp [h2]
    · simp [h2]
  · by_cases h2 : 0 < l.length
    · simp [h, h2]
    · simp [h, h2]

set_option linter.unusedSimpArgs false in
theorem none_any (n : Nat) (w : World) : Calls Tryz.prog 99 #[.int .i64 (n : Int)] w fun e w' => e = .returned (.agg #[.string ⟨#[]⟩, .int .i64 (n : Int)]) ∧ Below w.heap.size w w' := by
  go_enter Tryz.func99, Tryz.ntmps99
  go_wp2
  refine bodyPost_ret (v := .agg #[.string ⟨#[]⟩, .int .i64 (n : Int)]) (by simp [results, Tryz.results99, go_sem]) rfl ⟨rfl, ?_⟩
  exact below_one w _
def DocRet (w : World) (v : Value) (e : Ending) (w' : World) : Prop := e = .returned v ∧ Below w.heap.size w w'

set_option linter.unusedSimpArgs false in
set_option maxRecDepth 100000 in
set_option maxHeartbeats 2000000 in
theorem docByte_any (r : Dr) (hl : r.s.length < 4611686018427387904) (w : World) : Calls Tryz.prog 61 #[drV r] w fun e w' => DocRet w (.tuple #[.int .u8 ((r.byte).1 : Int), drV r.byte.2]) e w' := by
  obtain ⟨s, e⟩ := r
  have k := ((Kg.refl w).new 121 #[.string ⟨s.toArray⟩, .int .i64 (e : Int)]).new 121 #[.string ⟨#[]⟩, .int .i64 0]
  have e1 : (w.alloc (.cells #[.string ⟨s.toArray⟩, .int .i64 (e : Int)] 121)).heap.size = w.heap.size + 1 := by simp
  rw [e1] at k
  have kn : ∀ a b : Value, Kg [(w.heap.size + 1, 121, #[a, b]), (w.heap.size, 121, #[.string ⟨s.toArray⟩, .int .i64 (e : Int)])] w ((w.alloc (.cells #[.string ⟨s.toArray⟩, .int .i64 (e : Int)] 121)).alloc (.cells #[a, b] 121)) := by
    intro a b
    have := ((Kg.refl w).new 121 #[.string ⟨s.toArray⟩, .int .i64 (e : Int)]).new 121 #[a, b]
    rw [e1] at this
    exact this
  have KN := Lib.hid kn
  clear e1 kn
  by_cases he : e = 0
  · subst he
    by_cases hs : s = []
    · subst hs
      have hp : (Dr.byte ⟨[], 0⟩) = (0, ⟨[], 3⟩) := rfl
      rw [hp]
      clear hp
      unfold drV drC at *
      go_enter Tryz.func61, Tryz.ntmps61
      go_wp2_with fail
      refine (none_any 3 _).mono ?_; rintro e w1 ⟨rfl, B1⟩
      have k := k.below B1
      obtain ⟨c0, c1⟩ := k.i1.c2
      obtain ⟨f0, f1⟩ := k.i1.f2
      clear B1
      go_wp2_with fail
      have kk := k.set2 (v0 := .string ⟨#[]⟩) (v1 := .int .i64 3) (by simp) (Nat.le_succ _)
      obtain ⟨y0, y1⟩ := kk.i1.c2
      refine bodyPost_ret (v := .tuple #[.int .u8 (0), .agg #[.string ⟨#[]⟩, .int .i64 3]]) (by simp [results, Tryz.results61, go_sem, y0, y1]) rfl ⟨rfl, kk.bw⟩
    · obtain ⟨b, l, rfl⟩ : ∃ b l, s = b :: l := by
        match s, hs with
        | b :: l, _ => exact ⟨b, l, rfl⟩
      have hp : (Dr.byte ⟨b :: l, 0⟩) = (b.toNat, ⟨(b :: l).tail, 0⟩) := rfl
      rw [hp]
      have hidx := index_str (b :: l) 0 b rfl
      have hi2 : ∀ h, (ByteArray.mk (b :: l).toArray)[0]'h = b := fun h => by
        have := hidx
        rw [getElem?_pos _ 0 h] at this
        exact Option.some.inj this
      have HI2 := Lib.hid hi2
      have hsz := size_str (b :: l)
      have E2 := drop_str (b :: l) 1
      rw [hsz, List.drop_one] at E2
      have hpos : (1 : Int) ≤ ((b :: l).length : Int) := by simp only [List.length_cons]; omega
      have hne : (((b :: l).length : Int) == 0) = false := beq_eq_false_iff_ne.2 (by omega)
      generalize b :: l = s at *
      clear hp hs hi2
      unfold drV drC at *
      go_enter Tryz.func61, Tryz.ntmps61
      go_wp2_with fail
      go_region_held3 (fun W : World => W.cell? ⟨w.heap.size, 0, none⟩ = some (.string ⟨s.toArray⟩)) (first | exact k.drew.i2.cell 0 | exact (KN.out _ _).drew.i2.cell 0) (fail)
      all_goals
        go_wp2_with fail
        have kk := (KN.out (.string ⟨s.tail.toArray⟩) (.int .i64 0)).drew
        obtain ⟨y0, y1⟩ := kk.i1.c2
        refine bodyPost_ret (v := .tuple #[.int .u8 ((b.toNat : Int)), .agg #[.string ⟨s.tail.toArray⟩, .int .i64 0]]) (by simp [results, Tryz.results61, go_sem, y0, y1, HI2.out]) rfl ⟨rfl, kk.bw⟩
  · have hp : (Dr.byte ⟨s, e⟩) = (0, ⟨s, e⟩) := by unfold Dr.byte; rw [if_pos he]
    rw [hp]
    have hne : ((e : Int) != 0) = true := by rw [bne_iff_ne]; omega
    clear hp he
    unfold drV drC at *
    go_enter Tryz.func61, Tryz.ntmps61
    go_wp2_with fail
    go_region_held3 (fun W : World => W.cell? ⟨w.heap.size, 0, none⟩ = some (.string ⟨s.toArray⟩) ∧ W.cell? ⟨w.heap.size, 1, none⟩ = some (.int .i64 (e : Int))) (first | exact ⟨k.drew.i2.cell 0, k.drew.i2.cell 1⟩ | exact ⟨(KN.out _ _).drew.i2.cell 0, (KN.out _ _).drew.i2.cell 1⟩) (fail)
    all_goals
      go_wp2_with fail
      have kk := (KN.out (.string ⟨s.toArray⟩) (.int .i64 (e : Int))).drew
      obtain ⟨y0, y1⟩ := kk.i1.c2
      refine bodyPost_ret (v := .tuple #[.int .u8 (0), .agg #[.string ⟨s.toArray⟩, .int .i64 (e : Int)]]) (by simp [results, Tryz.results61, go_sem, y0, y1]) rfl ⟨rfl, kk.bw⟩
end Go.Proofs.YteiaiilfekojfaaGreat.Wire
