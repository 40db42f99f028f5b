/- The reference of a chain, walked: Tail. Conditions: the lists can be read. -/
import Derived.Test.YtbamfnlgapchkaaChRef
import Derived.Test.YtbamfnlgapchkaaChY
namespace Go.Proofs.Ytbamfnlgapchkaa.Chn
open Go.RowKit Mem DrawInv

theorem cutb_reads {w : World} {A : Option Addr} {n cap l : Nat} {xs : List Nat} (h : Reads w w.heap.size 1 A n (xs.map u8v)) (hl : l ≤ n) (hc : n ≤ cap) : Reads w w.heap.size 1 (cut1 A l cap) (n - l) ((xs.drop l).map u8v) := cut1_reads h hl hc
set_option linter.unusedVariables false in
set_option maxRecDepth 100000 in
set_option maxHeartbeats 2000000 in
theorem rtail_any (c : Ch) (hc : c.Ok) (A : Option Addr) (u : Value) (w : World) (h : RefC w c A u) : Calls Try.prog 33 #[u] w fun e w' => e = .returned (.string ⟨(Byt.by8 c.tail).toArray⟩) ∧ Below w.heap.size w w' := by
  obtain ⟨cp, rfl, hcp, hr⟩ := h
  have HC := Lib.hid (tail_lt hc)
  obtain ⟨n, hn⟩ : ∃ n, n = c.dirs.length := ⟨_, rfl⟩
  have hn1 : n ≤ 1000 := by rw [hn]; exact hc.len
  have hn0 : 0 < n := by rw [hn]; exact hc.ne
  have ht : c.tail = c.dirs.drop (n - 3) := by rw [hn]; rfl
  rw [← hn] at hcp hr ⊢
  obtain ⟨t, htt⟩ : ∃ t, t = c.tail := ⟨_, rfl⟩
  rw [← htt] at HC ht ⊢
  generalize c.low = lo
  have kb := Blk.new w 36 #[.int .u64 (lo : Int), .slice A n cp]
  have bw : Below w.heap.size w (w.alloc (.cells #[.int .u64 (lo : Int), .slice A n cp] 36)) := (Below.refl _ w).alloc (Nat.le_refl _) _
  have hr2 := cutb_reads (l := n - 3) ((hr.below bw).more bw.size) (by omega) hcp
  rw [← ht] at hr2
  have x0 := kb.cell 0
  have x1 := kb.cell 1
  have hbv := Byt.by8_bv HC.out
  have hcv := Byt.conv_str Try.underlying22 Try.underlying5 Try.underlying9 (l := Byt.by8 t) (cp - (n - 3)) (by rw [hbv]; exact hr2)
  clear hn htt ht hbv hr hr2 kb
  by_cases h3 : 3 < n
  · have h3i : (3 : Int) < (n : Int) := by omega
    have hw : IntKind.i64.wrap ((n : Int) - 3) = ((n - 3 : Nat) : Int) := by rw [IntKind.wrap_i64]; omega
    have hw2 : (n : Int) - 3 = ((n - 3 : Nat) : Int) := by omega
    obtain ⟨l, hl⟩ : ∃ l, l = n - 3 := ⟨_, rfl⟩
    rw [← hl] at hcv hw hw2
    have hl1 : l ≤ n := by omega
    have h15 := fun W => slb_from A n cp l hl1 hcp W
    clear hl
    go_enter Try.func33, Try.ntmps33
    go_wp2_with fail
    go_ret
    exact ⟨rfl, bw⟩
  · have h3i : ¬ (3 : Int) < (n : Int) := by omega
    have h15 : ∀ W, (Instr.slice 22 (.slice A n cp) (some (.int .i64 0)) none none).run Try.prog W = .ok (.slice (cut1 A (n - 3) cp) (n - (n - 3)) (cp - (n - 3))) W := fun W => by
      have := slb_from A n cp 0 (by omega) hcp W
      rw [show n - 3 = 0 by omega]
      exact this
    generalize cut1 A (n - 3) cp = AT at *
    generalize cp - (n - 3) = cT at *
    generalize n - (n - 3) = nT at *
    go_enter Try.func33, Try.ntmps33
    go_wp2_with fail
    go_ret
    exact ⟨rfl, bw⟩
end Go.Proofs.Ytbamfnlgapchkaa.Chn
