/- Two lists of commands, alike or not, walked; whether a list is great. Conditions: the lists can be read. -/
import Derived.Test.YtgpdggojajjppaaCmdL
import Derived.Test.YtgpdggojajjppaaOpenRows
import Derived.Deep.LoopGhost
namespace Go.Proofs.Ytgpdggojajjppaa.Cmd
open Go.RowKit Wire

def SameAt (l m : List Cm) (w : World) (gk : Nat) (vc : Value) (wr : World) : Prop :=
  ∃ k : Nat, k + gk = l.length ∧ vc = .int .i64 (k : Int) ∧ Hid (l.take k = m.take k) ∧ Below w.heap.size w wr
theorem same_any (l m : List Cm) (_hl : l.length ≤ 9223372036854775807) (hm : m.length ≤ 9223372036854775807) (A B : Option Addr) (c d : Nat) (w : World) (hA : Rows w A 7 cmL l) (hB : Rows w B 7 cmL m) :
    Calls Try.prog 33 #[.slice A l.length c, .slice B m.length d] w fun e w' => e = .returned (.bool (decide (l = m))) ∧ Below w.heap.size w w' := by
  obtain ⟨b, hb⟩ : ∃ b, b = decide (l = m) := ⟨_, rfl⟩
  rw [← hb]
  have HB := Lib.hid hb
  clear hb
  by_cases hne : l.length = m.length
  · have e1 : ((l.length : Int) != (m.length : Int)) = false := by rw [hne]; simp
    have HN := Lib.hid hne
    clear hne
    go_enter Try.func33, Try.ntmps33
    go_wp2_with fail
    go_loopg [5] l.length (fun gk i wr => SameAt l m w gk i wr)
    case atStart => exact ⟨0, by omega, rfl, by show _ = _; simp, Below.refl _ _⟩
    case round =>
      obtain ⟨k, hk, rfl, hT, bw⟩ := hrel
      by_cases h4 : k < l.length
      · have hk4 : (k : Int) < (l.length : Int) := by omega
        obtain ⟨x, hx⟩ : ∃ x, l[k]? = some x := ⟨_, List.getElem?_eq_getElem h4⟩
        obtain ⟨y, hy⟩ : ∃ y, m[k]? = some y := ⟨_, List.getElem?_eq_getElem (by have := HN.out; omega)⟩
        have hky : (k : Int) < (m.length : Int) := by have := HN.out; omega
        obtain ⟨ad, rfl, hadl, a0, a1⟩ := hA.at_ hx
        obtain ⟨bd, rfl, hbdl, b0, b1⟩ := hB.at_ hy
        obtain ⟨xa, xb, xk, xs, xt, xu, xz⟩ := x
        obtain ⟨ya, yb, yk, ys, yt, yu, yz⟩ := y
        have a0' : wr.cell? (ad.add (k * 7)) = some (.int .u8 (xa : Int)) := (bw.cell (by rw [block_of_add]; exact hadl)).trans (a0 _ rfl)
        have a1' : wr.cell? { block := (ad.add (k * 7)).block, off := (ad.add (k * 7)).off + 1 } = some (.int .u32 (xb : Int)) := (bw.cell (by show (ad.add (k * 7)).block < _; rw [block_of_add]; exact hadl)).trans (a1 0 _ rfl)
        have a2' : wr.cell? { block := (ad.add (k * 7)).block, off := (ad.add (k * 7)).off + 2 } = some (.int .u8 (xk : Int)) := (bw.cell (by show (ad.add (k * 7)).block < _; rw [block_of_add]; exact hadl)).trans (a1 1 _ rfl)
        have a3' : wr.cell? { block := (ad.add (k * 7)).block, off := (ad.add (k * 7)).off + 3 } = some (.string ⟨xs.toArray⟩) := (bw.cell (by show (ad.add (k * 7)).block < _; rw [block_of_add]; exact hadl)).trans (a1 2 _ rfl)
        have a4' : wr.cell? { block := (ad.add (k * 7)).block, off := (ad.add (k * 7)).off + 4 } = some (.string ⟨xt.toArray⟩) := (bw.cell (by show (ad.add (k * 7)).block < _; rw [block_of_add]; exact hadl)).trans (a1 3 _ rfl)
        have a5' : wr.cell? { block := (ad.add (k * 7)).block, off := (ad.add (k * 7)).off + 5 } = some (.string ⟨xu.toArray⟩) := (bw.cell (by show (ad.add (k * 7)).block < _; rw [block_of_add]; exact hadl)).trans (a1 4 _ rfl)
        have a6' : wr.cell? { block := (ad.add (k * 7)).block, off := (ad.add (k * 7)).off + 6 } = some (.int .u8 (xz : Int)) := (bw.cell (by show (ad.add (k * 7)).block < _; rw [block_of_add]; exact hadl)).trans (a1 5 _ rfl)
        have b0' : wr.cell? (bd.add (k * 7)) = some (.int .u8 (ya : Int)) := (bw.cell (by rw [block_of_add]; exact hbdl)).trans (b0 _ rfl)
        have b1' : wr.cell? { block := (bd.add (k * 7)).block, off := (bd.add (k * 7)).off + 1 } = some (.int .u32 (yb : Int)) := (bw.cell (by show (bd.add (k * 7)).block < _; rw [block_of_add]; exact hbdl)).trans (b1 0 _ rfl)
        have b2' : wr.cell? { block := (bd.add (k * 7)).block, off := (bd.add (k * 7)).off + 2 } = some (.int .u8 (yk : Int)) := (bw.cell (by show (bd.add (k * 7)).block < _; rw [block_of_add]; exact hbdl)).trans (b1 1 _ rfl)
        have b3' : wr.cell? { block := (bd.add (k * 7)).block, off := (bd.add (k * 7)).off + 3 } = some (.string ⟨ys.toArray⟩) := (bw.cell (by show (bd.add (k * 7)).block < _; rw [block_of_add]; exact hbdl)).trans (b1 2 _ rfl)
        have b4' : wr.cell? { block := (bd.add (k * 7)).block, off := (bd.add (k * 7)).off + 4 } = some (.string ⟨yt.toArray⟩) := (bw.cell (by show (bd.add (k * 7)).block < _; rw [block_of_add]; exact hbdl)).trans (b1 3 _ rfl)
        have b5' : wr.cell? { block := (bd.add (k * 7)).block, off := (bd.add (k * 7)).off + 5 } = some (.string ⟨yu.toArray⟩) := (bw.cell (by show (bd.add (k * 7)).block < _; rw [block_of_add]; exact hbdl)).trans (b1 4 _ rfl)
        have b6' : wr.cell? { block := (bd.add (k * 7)).block, off := (bd.add (k * 7)).off + 6 } = some (.int .u8 (yz : Int)) := (bw.cell (by show (bd.add (k * 7)).block < _; rw [block_of_add]; exact hbdl)).trans (b1 5 _ rfl)
        clear a0 a1 b0 b1
        by_cases q0 : xa = ya
        rotate_left
        · have hbf : b = false := HB.out.trans (decide_eq_false (fun h => q0 (by rw [h, hy] at hx; injection hx with hx; injection hx with h1 h2 h3 h4 h5 h6 h7; exact h1.symm)))
          have n0 : ((xa : Int) == (ya : Int)) = false := beq_eq_false_iff_ne.2 (by omega)
          subst hbf
          clear HB hx hy
          go_wp2_with fail
          go_region_held3 (fun W : World => W.cell? (ad.add (k * 7)) = some (.int .u8 (xa : Int)) ∧ W.cell? { block := (ad.add (k * 7)).block, off := (ad.add (k * 7)).off + 1 } = some (.int .u32 (xb : Int)) ∧ W.cell? { block := (ad.add (k * 7)).block, off := (ad.add (k * 7)).off + 2 } = some (.int .u8 (xk : Int)) ∧ W.cell? { block := (ad.add (k * 7)).block, off := (ad.add (k * 7)).off + 3 } = some (.string ⟨xs.toArray⟩) ∧ W.cell? { block := (ad.add (k * 7)).block, off := (ad.add (k * 7)).off + 4 } = some (.string ⟨xt.toArray⟩) ∧ W.cell? { block := (ad.add (k * 7)).block, off := (ad.add (k * 7)).off + 5 } = some (.string ⟨xu.toArray⟩) ∧ W.cell? { block := (ad.add (k * 7)).block, off := (ad.add (k * 7)).off + 6 } = some (.int .u8 (xz : Int)) ∧ W.cell? (bd.add (k * 7)) = some (.int .u8 (ya : Int)) ∧ W.cell? { block := (bd.add (k * 7)).block, off := (bd.add (k * 7)).off + 1 } = some (.int .u32 (yb : Int)) ∧ W.cell? { block := (bd.add (k * 7)).block, off := (bd.add (k * 7)).off + 2 } = some (.int .u8 (yk : Int)) ∧ W.cell? { block := (bd.add (k * 7)).block, off := (bd.add (k * 7)).off + 3 } = some (.string ⟨ys.toArray⟩) ∧ W.cell? { block := (bd.add (k * 7)).block, off := (bd.add (k * 7)).off + 4 } = some (.string ⟨yt.toArray⟩) ∧ W.cell? { block := (bd.add (k * 7)).block, off := (bd.add (k * 7)).off + 5 } = some (.string ⟨yu.toArray⟩) ∧ W.cell? { block := (bd.add (k * 7)).block, off := (bd.add (k * 7)).off + 6 } = some (.int .u8 (yz : Int))) (first | go_keep | exact ⟨a0', a1', a2', a3', a4', a5', a6', b0', b1', b2', b3', b4', b5', b6'⟩) (fail)
          all_goals
            go_wp2_with fail
            go_ret
            exact ⟨rfl, bw.drew⟩
        subst q0
        by_cases q1 : xb = yb
        rotate_left
        · have hbf : b = false := HB.out.trans (decide_eq_false (fun h => q1 (by rw [h, hy] at hx; injection hx with hx; injection hx with h1 h2 h3 h4 h5 h6 h7; exact h2.symm)))
          have n1 : ((xb : Int) == (yb : Int)) = false := beq_eq_false_iff_ne.2 (by omega)
          subst hbf
          clear HB hx hy
          go_wp2_with fail
          go_region_held3 (fun W : World => W.cell? (ad.add (k * 7)) = some (.int .u8 (xa : Int)) ∧ W.cell? { block := (ad.add (k * 7)).block, off := (ad.add (k * 7)).off + 1 } = some (.int .u32 (xb : Int)) ∧ W.cell? { block := (ad.add (k * 7)).block, off := (ad.add (k * 7)).off + 2 } = some (.int .u8 (xk : Int)) ∧ W.cell? { block := (ad.add (k * 7)).block, off := (ad.add (k * 7)).off + 3 } = some (.string ⟨xs.toArray⟩) ∧ W.cell? { block := (ad.add (k * 7)).block, off := (ad.add (k * 7)).off + 4 } = some (.string ⟨xt.toArray⟩) ∧ W.cell? { block := (ad.add (k * 7)).block, off := (ad.add (k * 7)).off + 5 } = some (.string ⟨xu.toArray⟩) ∧ W.cell? { block := (ad.add (k * 7)).block, off := (ad.add (k * 7)).off + 6 } = some (.int .u8 (xz : Int)) ∧ W.cell? (bd.add (k * 7)) = some (.int .u8 (xa : Int)) ∧ W.cell? { block := (bd.add (k * 7)).block, off := (bd.add (k * 7)).off + 1 } = some (.int .u32 (yb : Int)) ∧ W.cell? { block := (bd.add (k * 7)).block, off := (bd.add (k * 7)).off + 2 } = some (.int .u8 (yk : Int)) ∧ W.cell? { block := (bd.add (k * 7)).block, off := (bd.add (k * 7)).off + 3 } = some (.string ⟨ys.toArray⟩) ∧ W.cell? { block := (bd.add (k * 7)).block, off := (bd.add (k * 7)).off + 4 } = some (.string ⟨yt.toArray⟩) ∧ W.cell? { block := (bd.add (k * 7)).block, off := (bd.add (k * 7)).off + 5 } = some (.string ⟨yu.toArray⟩) ∧ W.cell? { block := (bd.add (k * 7)).block, off := (bd.add (k * 7)).off + 6 } = some (.int .u8 (yz : Int))) (first | go_keep | exact ⟨a0', a1', a2', a3', a4', a5', a6', b0', b1', b2', b3', b4', b5', b6'⟩) (fail)
          all_goals
            go_wp2_with fail
            go_ret
            exact ⟨rfl, bw.drew⟩
        subst q1
        by_cases q2 : xk = yk
        rotate_left
        · have hbf : b = false := HB.out.trans (decide_eq_false (fun h => q2 (by rw [h, hy] at hx; injection hx with hx; injection hx with h1 h2 h3 h4 h5 h6 h7; exact h3.symm)))
          have n2 : ((xk : Int) == (yk : Int)) = false := beq_eq_false_iff_ne.2 (by omega)
          subst hbf
          clear HB hx hy
          go_wp2_with fail
          go_region_held3 (fun W : World => W.cell? (ad.add (k * 7)) = some (.int .u8 (xa : Int)) ∧ W.cell? { block := (ad.add (k * 7)).block, off := (ad.add (k * 7)).off + 1 } = some (.int .u32 (xb : Int)) ∧ W.cell? { block := (ad.add (k * 7)).block, off := (ad.add (k * 7)).off + 2 } = some (.int .u8 (xk : Int)) ∧ W.cell? { block := (ad.add (k * 7)).block, off := (ad.add (k * 7)).off + 3 } = some (.string ⟨xs.toArray⟩) ∧ W.cell? { block := (ad.add (k * 7)).block, off := (ad.add (k * 7)).off + 4 } = some (.string ⟨xt.toArray⟩) ∧ W.cell? { block := (ad.add (k * 7)).block, off := (ad.add (k * 7)).off + 5 } = some (.string ⟨xu.toArray⟩) ∧ W.cell? { block := (ad.add (k * 7)).block, off := (ad.add (k * 7)).off + 6 } = some (.int .u8 (xz : Int)) ∧ W.cell? (bd.add (k * 7)) = some (.int .u8 (xa : Int)) ∧ W.cell? { block := (bd.add (k * 7)).block, off := (bd.add (k * 7)).off + 1 } = some (.int .u32 (xb : Int)) ∧ W.cell? { block := (bd.add (k * 7)).block, off := (bd.add (k * 7)).off + 2 } = some (.int .u8 (yk : Int)) ∧ W.cell? { block := (bd.add (k * 7)).block, off := (bd.add (k * 7)).off + 3 } = some (.string ⟨ys.toArray⟩) ∧ W.cell? { block := (bd.add (k * 7)).block, off := (bd.add (k * 7)).off + 4 } = some (.string ⟨yt.toArray⟩) ∧ W.cell? { block := (bd.add (k * 7)).block, off := (bd.add (k * 7)).off + 5 } = some (.string ⟨yu.toArray⟩) ∧ W.cell? { block := (bd.add (k * 7)).block, off := (bd.add (k * 7)).off + 6 } = some (.int .u8 (yz : Int))) (first | go_keep | exact ⟨a0', a1', a2', a3', a4', a5', a6', b0', b1', b2', b3', b4', b5', b6'⟩) (fail)
          all_goals
            go_wp2_with fail
            go_ret
            exact ⟨rfl, bw.drew⟩
        subst q2
        by_cases q3 : xs = ys
        rotate_left
        · have hbf : b = false := HB.out.trans (decide_eq_false (fun h => q3 (by rw [h, hy] at hx; injection hx with hx; injection hx with h1 h2 h3 h4 h5 h6 h7; exact h4.symm)))
          subst hbf
          clear HB hx hy
          go_wp2_with fail
          go_region_held3 (fun W : World => W.cell? (ad.add (k * 7)) = some (.int .u8 (xa : Int)) ∧ W.cell? { block := (ad.add (k * 7)).block, off := (ad.add (k * 7)).off + 1 } = some (.int .u32 (xb : Int)) ∧ W.cell? { block := (ad.add (k * 7)).block, off := (ad.add (k * 7)).off + 2 } = some (.int .u8 (xk : Int)) ∧ W.cell? { block := (ad.add (k * 7)).block, off := (ad.add (k * 7)).off + 3 } = some (.string ⟨xs.toArray⟩) ∧ W.cell? { block := (ad.add (k * 7)).block, off := (ad.add (k * 7)).off + 4 } = some (.string ⟨xt.toArray⟩) ∧ W.cell? { block := (ad.add (k * 7)).block, off := (ad.add (k * 7)).off + 5 } = some (.string ⟨xu.toArray⟩) ∧ W.cell? { block := (ad.add (k * 7)).block, off := (ad.add (k * 7)).off + 6 } = some (.int .u8 (xz : Int)) ∧ W.cell? (bd.add (k * 7)) = some (.int .u8 (xa : Int)) ∧ W.cell? { block := (bd.add (k * 7)).block, off := (bd.add (k * 7)).off + 1 } = some (.int .u32 (xb : Int)) ∧ W.cell? { block := (bd.add (k * 7)).block, off := (bd.add (k * 7)).off + 2 } = some (.int .u8 (xk : Int)) ∧ W.cell? { block := (bd.add (k * 7)).block, off := (bd.add (k * 7)).off + 3 } = some (.string ⟨ys.toArray⟩) ∧ W.cell? { block := (bd.add (k * 7)).block, off := (bd.add (k * 7)).off + 4 } = some (.string ⟨yt.toArray⟩) ∧ W.cell? { block := (bd.add (k * 7)).block, off := (bd.add (k * 7)).off + 5 } = some (.string ⟨yu.toArray⟩) ∧ W.cell? { block := (bd.add (k * 7)).block, off := (bd.add (k * 7)).off + 6 } = some (.int .u8 (yz : Int))) (first | go_keep | exact ⟨a0', a1', a2', a3', a4', a5', a6', b0', b1', b2', b3', b4', b5', b6'⟩) (fail)
          all_goals
            go_wp2_with fail
            go_ret
            exact ⟨rfl, bw.drew⟩
        subst q3
        by_cases q4 : xt = yt
        rotate_left
        · have hbf : b = false := HB.out.trans (decide_eq_false (fun h => q4 (by rw [h, hy] at hx; injection hx with hx; injection hx with h1 h2 h3 h4 h5 h6 h7; exact h5.symm)))
          subst hbf
          clear HB hx hy
          go_wp2_with fail
          go_region_held3 (fun W : World => W.cell? (ad.add (k * 7)) = some (.int .u8 (xa : Int)) ∧ W.cell? { block := (ad.add (k * 7)).block, off := (ad.add (k * 7)).off + 1 } = some (.int .u32 (xb : Int)) ∧ W.cell? { block := (ad.add (k * 7)).block, off := (ad.add (k * 7)).off + 2 } = some (.int .u8 (xk : Int)) ∧ W.cell? { block := (ad.add (k * 7)).block, off := (ad.add (k * 7)).off + 3 } = some (.string ⟨xs.toArray⟩) ∧ W.cell? { block := (ad.add (k * 7)).block, off := (ad.add (k * 7)).off + 4 } = some (.string ⟨xt.toArray⟩) ∧ W.cell? { block := (ad.add (k * 7)).block, off := (ad.add (k * 7)).off + 5 } = some (.string ⟨xu.toArray⟩) ∧ W.cell? { block := (ad.add (k * 7)).block, off := (ad.add (k * 7)).off + 6 } = some (.int .u8 (xz : Int)) ∧ W.cell? (bd.add (k * 7)) = some (.int .u8 (xa : Int)) ∧ W.cell? { block := (bd.add (k * 7)).block, off := (bd.add (k * 7)).off + 1 } = some (.int .u32 (xb : Int)) ∧ W.cell? { block := (bd.add (k * 7)).block, off := (bd.add (k * 7)).off + 2 } = some (.int .u8 (xk : Int)) ∧ W.cell? { block := (bd.add (k * 7)).block, off := (bd.add (k * 7)).off + 3 } = some (.string ⟨xs.toArray⟩) ∧ W.cell? { block := (bd.add (k * 7)).block, off := (bd.add (k * 7)).off + 4 } = some (.string ⟨yt.toArray⟩) ∧ W.cell? { block := (bd.add (k * 7)).block, off := (bd.add (k * 7)).off + 5 } = some (.string ⟨yu.toArray⟩) ∧ W.cell? { block := (bd.add (k * 7)).block, off := (bd.add (k * 7)).off + 6 } = some (.int .u8 (yz : Int))) (first | go_keep | exact ⟨a0', a1', a2', a3', a4', a5', a6', b0', b1', b2', b3', b4', b5', b6'⟩) (fail)
          all_goals
            go_wp2_with fail
            go_ret
            exact ⟨rfl, bw.drew⟩
        subst q4
        by_cases q5 : xu = yu
        rotate_left
        · have hbf : b = false := HB.out.trans (decide_eq_false (fun h => q5 (by rw [h, hy] at hx; injection hx with hx; injection hx with h1 h2 h3 h4 h5 h6 h7; exact h6.symm)))
          subst hbf
          clear HB hx hy
          go_wp2_with fail
          go_region_held3 (fun W : World => W.cell? (ad.add (k * 7)) = some (.int .u8 (xa : Int)) ∧ W.cell? { block := (ad.add (k * 7)).block, off := (ad.add (k * 7)).off + 1 } = some (.int .u32 (xb : Int)) ∧ W.cell? { block := (ad.add (k * 7)).block, off := (ad.add (k * 7)).off + 2 } = some (.int .u8 (xk : Int)) ∧ W.cell? { block := (ad.add (k * 7)).block, off := (ad.add (k * 7)).off + 3 } = some (.string ⟨xs.toArray⟩) ∧ W.cell? { block := (ad.add (k * 7)).block, off := (ad.add (k * 7)).off + 4 } = some (.string ⟨xt.toArray⟩) ∧ W.cell? { block := (ad.add (k * 7)).block, off := (ad.add (k * 7)).off + 5 } = some (.string ⟨xu.toArray⟩) ∧ W.cell? { block := (ad.add (k * 7)).block, off := (ad.add (k * 7)).off + 6 } = some (.int .u8 (xz : Int)) ∧ W.cell? (bd.add (k * 7)) = some (.int .u8 (xa : Int)) ∧ W.cell? { block := (bd.add (k * 7)).block, off := (bd.add (k * 7)).off + 1 } = some (.int .u32 (xb : Int)) ∧ W.cell? { block := (bd.add (k * 7)).block, off := (bd.add (k * 7)).off + 2 } = some (.int .u8 (xk : Int)) ∧ W.cell? { block := (bd.add (k * 7)).block, off := (bd.add (k * 7)).off + 3 } = some (.string ⟨xs.toArray⟩) ∧ W.cell? { block := (bd.add (k * 7)).block, off := (bd.add (k * 7)).off + 4 } = some (.string ⟨xt.toArray⟩) ∧ W.cell? { block := (bd.add (k * 7)).block, off := (bd.add (k * 7)).off + 5 } = some (.string ⟨yu.toArray⟩) ∧ W.cell? { block := (bd.add (k * 7)).block, off := (bd.add (k * 7)).off + 6 } = some (.int .u8 (yz : Int))) (first | go_keep | exact ⟨a0', a1', a2', a3', a4', a5', a6', b0', b1', b2', b3', b4', b5', b6'⟩) (fail)
          all_goals
            go_wp2_with fail
            go_ret
            exact ⟨rfl, bw.drew⟩
        subst q5
        by_cases q6 : xz = yz
        rotate_left
        · have hbf : b = false := HB.out.trans (decide_eq_false (fun h => q6 (by rw [h, hy] at hx; injection hx with hx; injection hx with h1 h2 h3 h4 h5 h6 h7; exact h7.symm)))
          have n6 : ((xz : Int) == (yz : Int)) = false := beq_eq_false_iff_ne.2 (by omega)
          subst hbf
          clear HB hx hy
          go_wp2_with fail
          go_region_held3 (fun W : World => W.cell? (ad.add (k * 7)) = some (.int .u8 (xa : Int)) ∧ W.cell? { block := (ad.add (k * 7)).block, off := (ad.add (k * 7)).off + 1 } = some (.int .u32 (xb : Int)) ∧ W.cell? { block := (ad.add (k * 7)).block, off := (ad.add (k * 7)).off + 2 } = some (.int .u8 (xk : Int)) ∧ W.cell? { block := (ad.add (k * 7)).block, off := (ad.add (k * 7)).off + 3 } = some (.string ⟨xs.toArray⟩) ∧ W.cell? { block := (ad.add (k * 7)).block, off := (ad.add (k * 7)).off + 4 } = some (.string ⟨xt.toArray⟩) ∧ W.cell? { block := (ad.add (k * 7)).block, off := (ad.add (k * 7)).off + 5 } = some (.string ⟨xu.toArray⟩) ∧ W.cell? { block := (ad.add (k * 7)).block, off := (ad.add (k * 7)).off + 6 } = some (.int .u8 (xz : Int)) ∧ W.cell? (bd.add (k * 7)) = some (.int .u8 (xa : Int)) ∧ W.cell? { block := (bd.add (k * 7)).block, off := (bd.add (k * 7)).off + 1 } = some (.int .u32 (xb : Int)) ∧ W.cell? { block := (bd.add (k * 7)).block, off := (bd.add (k * 7)).off + 2 } = some (.int .u8 (xk : Int)) ∧ W.cell? { block := (bd.add (k * 7)).block, off := (bd.add (k * 7)).off + 3 } = some (.string ⟨xs.toArray⟩) ∧ W.cell? { block := (bd.add (k * 7)).block, off := (bd.add (k * 7)).off + 4 } = some (.string ⟨xt.toArray⟩) ∧ W.cell? { block := (bd.add (k * 7)).block, off := (bd.add (k * 7)).off + 5 } = some (.string ⟨xu.toArray⟩) ∧ W.cell? { block := (bd.add (k * 7)).block, off := (bd.add (k * 7)).off + 6 } = some (.int .u8 (yz : Int))) (first | go_keep | exact ⟨a0', a1', a2', a3', a4', a5', a6', b0', b1', b2', b3', b4', b5', b6'⟩) (fail)
          all_goals
            go_wp2_with fail
            go_ret
            exact ⟨rfl, bw.drew⟩
        subst q6
        have HT2 : Hid (l.take (k + 1) = m.take (k + 1)) := by show _ = _; rw [List.take_add_one, List.take_add_one, hT.out, hx, hy]
        clear hx hy
        go_wp2_with fail
        go_region_held3 (fun W : World => W.cell? (ad.add (k * 7)) = some (.int .u8 (xa : Int)) ∧ W.cell? { block := (ad.add (k * 7)).block, off := (ad.add (k * 7)).off + 1 } = some (.int .u32 (xb : Int)) ∧ W.cell? { block := (ad.add (k * 7)).block, off := (ad.add (k * 7)).off + 2 } = some (.int .u8 (xk : Int)) ∧ W.cell? { block := (ad.add (k * 7)).block, off := (ad.add (k * 7)).off + 3 } = some (.string ⟨xs.toArray⟩) ∧ W.cell? { block := (ad.add (k * 7)).block, off := (ad.add (k * 7)).off + 4 } = some (.string ⟨xt.toArray⟩) ∧ W.cell? { block := (ad.add (k * 7)).block, off := (ad.add (k * 7)).off + 5 } = some (.string ⟨xu.toArray⟩) ∧ W.cell? { block := (ad.add (k * 7)).block, off := (ad.add (k * 7)).off + 6 } = some (.int .u8 (xz : Int)) ∧ W.cell? (bd.add (k * 7)) = some (.int .u8 (xa : Int)) ∧ W.cell? { block := (bd.add (k * 7)).block, off := (bd.add (k * 7)).off + 1 } = some (.int .u32 (xb : Int)) ∧ W.cell? { block := (bd.add (k * 7)).block, off := (bd.add (k * 7)).off + 2 } = some (.int .u8 (xk : Int)) ∧ W.cell? { block := (bd.add (k * 7)).block, off := (bd.add (k * 7)).off + 3 } = some (.string ⟨xs.toArray⟩) ∧ W.cell? { block := (bd.add (k * 7)).block, off := (bd.add (k * 7)).off + 4 } = some (.string ⟨xt.toArray⟩) ∧ W.cell? { block := (bd.add (k * 7)).block, off := (bd.add (k * 7)).off + 5 } = some (.string ⟨xu.toArray⟩) ∧ W.cell? { block := (bd.add (k * 7)).block, off := (bd.add (k * 7)).off + 6 } = some (.int .u8 (xz : Int))) (first | go_keep | exact ⟨a0', a1', a2', a3', a4', a5', a6', b0', b1', b2', b3', b4', b5', b6'⟩) (fail)
        all_goals
          go_wp2_with fail
          go_roundg (l.length - (k + 1))
          case measure => omega
          case rel => exact ⟨k + 1, by omega, by go_num, HT2, bw.drew⟩
      · have hk4 : ¬ (k : Int) < (l.length : Int) := by omega
        have hbt : b = true := HB.out.trans (decide_eq_true (by
          have h := hT.out
          have hn := HN.out
          rwa [List.take_of_length_le (by omega), List.take_of_length_le (by omega)] at h))
        subst hbt
        go_wp2_with fail
        go_ret
        exact ⟨rfl, bw⟩
  · have e1 : ((l.length : Int) != (m.length : Int)) = true := by rw [bne_iff_ne]; omega
    have hbf : b = false := HB.out.trans (decide_eq_false (fun h => hne (by rw [h])))
    subst hbf
    clear hne
    go_enter Try.func33, Try.ntmps33
    go_wp2
    go_ret
    exact ⟨rfl, Below.refl _ _⟩
end Go.Proofs.Ytgpdggojajjppaa.Cmd
