/- The reader of package wire, walked: each method does what its plain law says to the reader's block, and to nothing else. Conditions: the reader's block holds it; its bytes are fewer than 2^62. -/
import Derived.Test.YteiaiilfekojfaaGreatProg
import Derived.WalkKit
import Derived.Outline
import Derived.LaidEqlPtr
import Derived.Lib.Strings
import Derived.Test.YteiaiilfekojfaaGreatQNetOrderBase
import Derived.Test.YteiaiilfekojfaaGreatQNetOrderWirePure
namespace Go.Proofs.YteiaiilfekojfaaGreat.Wire
open Go.RowKit

def rdC (r : Rd) : Array Value := #[.int .i64 (r.err : Int), .string ⟨r.rest.toArray⟩]
/-- Block g holds the reader r. -/
def RdAt (w : World) (g : Nat) (r : Rd) : Prop := Blk w g 157 (rdC r)
/-- Block g alone has turned: it holds the reader r now. -/
def RdGo (w : World) (g : Nat) (r : Rd) (w' : World) : Prop := RdAt w' g r ∧ w.grownBy w' (some g)

theorem RdAt.c0 {w : World} {g : Nat} {r : Rd} (h : RdAt w g r) : w.cell? ⟨g, 0, none⟩ = some (.int .i64 (r.err : Int)) := Blk.cell h 0
theorem RdAt.c1 {w : World} {g : Nat} {r : Rd} (h : RdAt w g r) : w.cell? ⟨g, 1, none⟩ = some (.string ⟨r.rest.toArray⟩) := Blk.cell h 1
theorem RdAt.f0 {w : World} {g : Nat} {r : Rd} (h : RdAt w g r) : w.frozen? ⟨g, 0, none⟩ = false := Blk.frozen h 0
theorem RdAt.f1 {w : World} {g : Nat} {r : Rd} (h : RdAt w g r) : w.frozen? ⟨g, 1, none⟩ = false := Blk.frozen h 1
theorem RdAt.go {w : World} {g : Nat} {r : Rd} (h : RdAt w g r) : RdGo w g r w := ⟨h, World.grownBy.refl w _⟩
theorem RdAt.set0 {w : World} {g : Nat} {r : Rd} (h : RdAt w g r) (e : Nat) : RdGo w g ⟨e, r.rest⟩ (w.setCell ⟨g, 0, none⟩ (.int .i64 (e : Int))) :=
  ⟨Blk.set_ h 0 _, only_setCell (World.grownBy.refl w _) (.inl rfl) _⟩
theorem RdAt.set1 {w : World} {g : Nat} {r : Rd} (h : RdAt w g r) (l : List UInt8) : RdGo w g ⟨r.err, l⟩ (w.setCell ⟨g, 1, none⟩ (.string ⟨l.toArray⟩)) :=
  ⟨Blk.set_ h 1 _, only_setCell (World.grownBy.refl w _) (.inl rfl) _⟩
theorem grown_step {a b c : World} {g : Nat} (h : a.grownBy b (some g)) (k : b.grownBy c (some g)) : a.grownBy c (some g) :=
  ⟨k.os.trans h.os, k.tape.trans h.tape, k.output.trans h.output, Nat.le_trans h.size k.size, fun i hi hne => (k.block i (Nat.lt_of_lt_of_le hi h.size) hne).trans (h.block i hi hne)⟩
theorem RdGo.trans {w w1 w2 : World} {g : Nat} {r1 r2 : Rd} (h : RdGo w g r1 w1) (k : RdGo w1 g r2 w2) : RdGo w g r2 w2 := ⟨k.1, grown_step h.2 k.2⟩

def failB (r : Rd) : Bool := (r.err : Int) != 0
theorem failB_no {r : Rd} (h : r.err = 0) : failB r = false := by unfold failB; rw [h]; rfl
theorem failB_yes {r : Rd} (h : r.err ≠ 0) : failB r = true := by unfold failB; rw [bne_iff_ne]; omega
theorem failed_any (w : World) (g : Nat) (r : Rd) (h : RdAt w g r) :
    Calls Tryz.prog 165 #[.pointer (some ⟨g, 0, none⟩)] w fun e w' => e = .returned (.bool (failB r)) ∧ w = w' := by
  have c0 := h.c0
  go_enter Tryz.func165, Tryz.ntmps165
  go_wp2
  go_ret
  exact ⟨rfl, rfl⟩

theorem fail_any (w : World) (g : Nat) (r : Rd) (e0 : Nat) (h : RdAt w g r) :
    Calls Tryz.prog 97 #[.pointer (some ⟨g, 0, none⟩), .int .i64 (e0 : Int)] w fun e w' => (∃ v, e = .returned v) ∧ RdGo w g (r.fail e0) w' := by
  have c0 := h.c0
  have f0 := h.f0
  by_cases hz : r.err = 0
  · have hb : ((r.err : Int) == 0) = true := by rw [hz]; rfl
    have e1 : r.fail e0 = ⟨e0, r.rest⟩ := by unfold Rd.fail; rw [if_pos hz]
    rw [e1]
    have H := Lib.hid (h.set0 e0)
    clear e1 hz
    go_enter Tryz.func97, Tryz.ntmps97
    go_wp2
    go_end0
    exact ⟨⟨_, rfl⟩, H.out⟩
  · have hb : ((r.err : Int) == 0) = false := beq_eq_false_iff_ne.2 (by omega)
    have e1 : r.fail e0 = r := by unfold Rd.fail; rw [if_neg hz]
    rw [e1]
    have H := Lib.hid h.go
    clear e1 hz
    go_enter Tryz.func97, Tryz.ntmps97
    go_wp2
    go_end0
    exact ⟨⟨_, rfl⟩, H.out⟩

theorem of_any (l : List UInt8) (w : World) :
    Calls Tryz.prog 57 #[.string ⟨l.toArray⟩] w fun e w' => e = .returned (.pointer (some ⟨w.heap.size, 0, none⟩)) ∧ w.alloc (.cells (rdC ⟨0, l⟩) 157) = w' := by
  go_enter Tryz.func57, Tryz.ntmps57
  go_wp2
  go_ret
  exact ⟨rfl, rfl⟩

/-- What 'take' answers. -/
def TakeRet (w : World) (g : Nat) (p : List UInt8 × Bool × Rd) (e : Ending) (w' : World) : Prop :=
  e = .returned (.tuple #[.string ⟨p.1.toArray⟩, .bool p.2.1]) ∧ RdGo w g p.2.2 w'
theorem drop_str (l : List UInt8) (n : Nat) : (ByteArray.mk l.toArray).extract n (ByteArray.mk l.toArray).size = ByteArray.mk (l.drop n).toArray := by
  rw [ByteArray.extract_mk]
  congr 2
  exact List.take_of_length_le (by simp [ByteArray.size])
theorem take_str (l : List UInt8) (n : Nat) : (ByteArray.mk l.toArray).extract 0 n = ByteArray.mk (l.take n).toArray := by
  rw [ByteArray.extract_mk]; simp
theorem size_str (l : List UInt8) : (ByteArray.mk l.toArray).size = l.length := by simp [ByteArray.size]
set_option maxHeartbeats 1000000 in
theorem take_any (g : Nat) (r : Rd) (n : Nat) (hl : r.rest.length < 4611686018427387904) (w : World) (h : RdAt w g r) :
    Calls Tryz.prog 96 #[.pointer (some ⟨g, 0, none⟩), .int .u64 (n : Int)] w fun e w' => TakeRet w g (r.take n) e w' := by
  have c1 := h.c1
  have f1 := h.f1
  have hsz := size_str r.rest
  by_cases hz : r.err = 0
  · have hf := failB_no hz
    by_cases hs : r.rest.length < n
    · have ht : r.take n = ([], false, r.fail 3) := by unfold Rd.take; rw [if_neg (by omega), if_pos hs]
      rw [ht]
      clear ht hz
      have hs2 : ((r.rest.length : Nat) : Int) < (n : Int) := by omega
      go_enter Tryz.func96, Tryz.ntmps96
      go_wp2_with fail
      refine (failed_any _ g r h).mono ?_; rintro e w' ⟨rfl, rfl⟩
      go_wp2_with fail
      refine (fail_any _ g r 3 h).mono ?_; rintro e w1 ⟨⟨v, rfl⟩, hgo⟩
      go_wp2_with fail
      go_ret2
      exact ⟨rfl, hgo⟩
    · have ht : r.take n = (r.rest.take n, true, { r with rest := r.rest.drop n }) := by unfold Rd.take; rw [if_neg (by omega), if_neg hs]
      rw [ht]
      clear ht hz
      have hs2 : ¬ ((r.rest.length : Nat) : Int) < (n : Int) := by omega
      have E1 := take_str r.rest n
      have E2 := drop_str r.rest n
      rw [hsz] at E2
      have hs1 := Lib.hid (h.set1 (r.rest.drop n))
      go_enter Tryz.func96, Tryz.ntmps96
      go_wp2_with fail
      refine (failed_any _ g r h).mono ?_; rintro e w' ⟨rfl, rfl⟩
      go_wp2_with fail
      go_ret2
      exact ⟨rfl, hs1.out⟩
  · have hf := failB_yes hz
    have ht : r.take n = ([], false, r) := by unfold Rd.take; rw [if_pos hz]
    rw [ht]
    have H := Lib.hid h.go
    clear ht hz
    go_enter Tryz.func96, Tryz.ntmps96
    go_wp2_with fail
    refine (failed_any _ g r h).mono ?_; rintro e w' ⟨rfl, rfl⟩
    go_wp2_with fail
    go_ret2
    exact ⟨rfl, H.out⟩

def NumRet (w : World) (g : Nat) (p : Nat × Rd) (e : Ending) (w' : World) : Prop := e = .returned (.int .u64 (p.1 : Int)) ∧ RdGo w g p.2 w'
def ByteRet (w : World) (g : Nat) (p : Nat × Rd) (e : Ending) (w' : World) : Prop := e = .returned (.int .u8 (p.1 : Int)) ∧ RdGo w g p.2 w'
theorem index_str (l : List UInt8) (k : Nat) (b : UInt8) (h : l[k]? = some b) : (ByteArray.mk l.toArray)[k]? = some b := by
  have hk : k < l.length := (List.getElem?_eq_some_iff.1 h).1
  have hz : k < (ByteArray.mk l.toArray).size := by rw [size_str]; exact hk
  rw [getElem?_pos (ByteArray.mk l.toArray) k hz]
  rw [List.getElem?_eq_getElem hk] at h
  rw [← Option.some.inj h]
  rfl
theorem byte_any (g : Nat) (r : Rd) (hl : r.rest.length < 4611686018427387904) (w : World) (h : RdAt w g r) :
    Calls Tryz.prog 58 #[.pointer (some ⟨g, 0, none⟩)] w fun e w' => ByteRet w g r.byte e w' := by
  have ht := take_any g r 1 hl w h
  unfold Rd.byte
  obtain ⟨s, ok, r', hp⟩ : ∃ s ok r', r.take 1 = (s, ok, r') := ⟨_, _, _, rfl⟩
  rw [hp] at ht ⊢
  have HT := Lib.hid ht
  clear ht
  cases ok
  · go_enter Tryz.func58, Tryz.ntmps58
    go_wp2_with fail
    refine HT.out.mono ?_; rintro e w' ⟨rfl, hgo⟩
    go_wp2_with fail
    go_ret
    exact ⟨rfl, hgo⟩
  · have hs : s.length = 1 := by
      unfold Rd.take at hp
      split at hp
      · cases hp
      · split at hp
        · cases hp
        · cases hp
          rw [List.length_take]; omega
    match s, hs with
    | [b], _ =>
      clear hp
      go_enter Tryz.func58, Tryz.ntmps58
      go_wp2_with fail
      refine HT.out.mono ?_; rintro e w' ⟨rfl, hgo⟩
      go_wp2_with fail
      go_ret
      exact ⟨rfl, hgo⟩
end Go.Proofs.YteiaiilfekojfaaGreat.Wire
