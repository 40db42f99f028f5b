/- Whether a list of commands is great, walked. Conditions: the list can be read. -/
import Derived.Test.YteiaiilfekojfaaCmdL
import Derived.Test.YteiaiilfekojfaaOpenRows
import Derived.Deep.LoopGhost
namespace Go.Proofs.Yteiaiilfekojfaa.Cmd
open Go.RowKit Wire

def longB (c : Cm) : Bool := decide (300 < c.key.length ∨ 300 < c.old.length ∨ 300 < c.new.length)
/-- More than 100 commands, or texts of more than 300 bytes. -/
def greatB (l : List Cm) : Bool := decide (100 < l.length) || l.any longB
def GreatAt (l : List Cm) (w : World) (gk : Nat) (vc : Value) (wr : World) : Prop :=
  ∃ k : Nat, k + gk = l.length ∧ vc = .int .i64 (k : Int) ∧ Hid ((l.take k).any longB = false) ∧ Below w.heap.size w wr
set_option maxRecDepth 100000 in
set_option maxHeartbeats 4000000 in
theorem great_any (l : List Cm) (hl : l.length ≤ 9223372036854775807) (A : Option Addr) (c : Nat) (w : World) (hA : Rows w A 7 cmL l) :
    Calls Try.prog 28 #[.slice A l.length c] w fun e w' => e = .returned (.bool (greatB l)) ∧ Below w.heap.size w w' := by
  obtain ⟨b, hb⟩ : ∃ b, b = greatB l := ⟨_, rfl⟩
  rw [← hb]
  unfold greatB at hb
  have HB := Lib.hid hb
  clear hb
  by_cases hne : 100 < l.length
  · have e1 : (100 : Int) < (l.length : Int) := by omega
    have hbf : b = true := HB.out.trans (by rw [decide_eq_true hne]; rfl)
    subst hbf
    clear hne HB
    go_enter Try.func28, Try.ntmps28
    go_wp2
    go_ret
    exact ⟨rfl, Below.refl _ _⟩
  · have e1 : ¬ (100 : Int) < (l.length : Int) := by omega
    have hb2 : b = l.any longB := HB.out.trans (by rw [decide_eq_false hne]; rfl)
    have HB2 := Lib.hid hb2
    clear hne HB hb2
    go_enter Try.func28, Try.ntmps28
    go_wp2_with fail
    go_loopg [3] l.length (fun gk i wr => GreatAt l w gk i wr)
    case atStart => exact ⟨0, by omega, rfl, rfl, Below.refl _ _⟩
    case round =>
      obtain ⟨k, hk, rfl, hT, bw⟩ := hrel
      by_cases h4 : k < l.length
      · have hk4 : (k : Int) < (l.length : Int) := by omega
        obtain ⟨x, hx⟩ : ∃ x, l[k]? = some x := ⟨_, List.getElem?_eq_getElem h4⟩
        obtain ⟨ad, rfl, hadl, a0, a1⟩ := hA.at_ hx
        obtain ⟨xa, xb, xk, xs, xt, xu, xz⟩ := x
        have a3 : wr.cell? { block := (ad.add (k * 7)).block, off := (ad.add (k * 7)).off + 3 } = some (.string ⟨xs.toArray⟩) := (bw.cell (by show (ad.add (k * 7)).block < _; rw [block_of_add]; exact hadl)).trans (a1 2 _ rfl)
        have a4 : wr.cell? { block := (ad.add (k * 7)).block, off := (ad.add (k * 7)).off + 4 } = some (.string ⟨xt.toArray⟩) := (bw.cell (by show (ad.add (k * 7)).block < _; rw [block_of_add]; exact hadl)).trans (a1 3 _ rfl)
        have a5 : wr.cell? { block := (ad.add (k * 7)).block, off := (ad.add (k * 7)).off + 5 } = some (.string ⟨xu.toArray⟩) := (bw.cell (by show (ad.add (k * 7)).block < _; rw [block_of_add]; exact hadl)).trans (a1 4 _ rfl)
        have s3 := size_str xs
        have s4 := size_str xt
        have s5 := size_str xu
        clear a0 a1
        by_cases hg : 300 < xs.length ∨ 300 < xt.length ∨ 300 < xu.length
        · have hbt : b = true := HB2.out.trans (List.any_eq_true.2 ⟨_, List.mem_of_getElem? hx, decide_eq_true hg⟩)
          subst hbt
          clear HB2 hx
          by_cases q3 : (300 : Int) < (xs.length : Int)
          · clear hg
            go_wp2_with fail
            go_ret
            exact ⟨rfl, bw⟩
          by_cases q4 : (300 : Int) < (xt.length : Int)
          · clear hg
            go_wp2_with fail
            go_ret
            exact ⟨rfl, bw⟩
          have q5 : (300 : Int) < (xu.length : Int) := by omega
          clear hg
          go_wp2_with fail
          go_ret
          exact ⟨rfl, bw⟩
        · have q3 : ¬ (300 : Int) < (xs.length : Int) := by omega
          have q4 : ¬ (300 : Int) < (xt.length : Int) := by omega
          have q5 : ¬ (300 : Int) < (xu.length : Int) := by omega
          have HT2 : Hid ((l.take (k + 1)).any longB = false) := by
            have hlx : longB ⟨xa, xb, xk, xs, xt, xu, xz⟩ = false := decide_eq_false hg
            show _ = _
            rw [List.take_add_one, hx, List.any_append, hT.out]
            simp [hlx]
          clear hg hx
          go_wp2_with fail
          go_roundg (l.length - (k + 1))
          case measure => omega
          case rel => exact ⟨k + 1, by omega, by go_num, HT2, bw⟩
      · have hk4 : ¬ (k : Int) < (l.length : Int) := by omega
        have hbt : b = false := by
          have h := hT.out
          rw [List.take_of_length_le (by omega)] at h
          exact HB2.out.trans h
        subst hbt
        go_wp2_with fail
        go_ret
        exact ⟨rfl, bw⟩
end Go.Proofs.Yteiaiilfekojfaa.Cmd
