/- Package thrift, walked: a memory in its place; New. Conditions: the memory lies in memory of its own. -/
import Derived.Test.YtbamfnlgapchkaaThRefB
namespace Go.Proofs.Ytbamfnlgapchkaa.Thr
open Go.RowKit Mem DrawInv Chn

/-- A memory of who was heard of, in its block with its row. -/
structure ThS (B g me : Nat) (row : List Nat) (v : Value) (w : World) : Prop where
  hg : Blk w g 116 #[.int .u8 (me : Int), v]
  ho : w.ownsRow B 5 1 v row.length (row.map u8v)
  hB : B ≤ g
  ok : RowOk me row
  nz : row = [] → v = .slice none 0 0
theorem tnew_bad (me : Nat) (h : 6 < me) (w : World) : Calls Try.prog 35 #[.int .u8 (me : Int)] w fun e w' => e = .returned (.tuple #[.pointer none, .int .i64 2]) ∧ w = w' := by
  have hi : (7 : Int) ≤ (me : Int) := by omega
  have hn : 7 ≤ me := by omega
  clear h
  go_enter Try.func35, Try.ntmps35
  go_wp2_with fail
  exact bodyPost_ret (v := .tuple #[.pointer none, .int .i64 2]) (by simp [results, Try.results35]) rfl ⟨rfl, rfl⟩
def NewTh (w : World) (me : Nat) (e : Ending) (w' : World) : Prop := ∃ g v, e = .returned (.tuple #[.pointer (some ⟨g, 0, none⟩), .int .i64 0]) ∧ ThS w.heap.size g me [] v w' ∧ Below w.heap.size w w'
theorem tnew_any (me : Nat) (h : me ≤ 6) (w : World) : Calls Try.prog 35 #[.int .u8 (me : Int)] w fun e w' => NewTh w me e w' := by
  have hi : ¬ (7 : Int) ≤ (me : Int) := by omega
  have hn : ¬ 7 ≤ me := by omega
  have k := Blk.new w 116 #[.int .u8 (me : Int), .slice none 0 0]
  have bw : Below w.heap.size w (w.alloc (.cells #[.int .u8 (me : Int), .slice none 0 0] 116)) := (Below.refl _ w).alloc (Nat.le_refl _) _
  have HQ := Lib.hid (And.intro k bw)
  clear h k bw
  go_enter Try.func35, Try.ntmps35
  go_wp2_with fail
  exact bodyPost_ret (v := .tuple #[.pointer (some ⟨w.heap.size, 0, none⟩), .int .i64 0]) (by simp [results, Try.results35]) rfl ⟨_, _, rfl, ⟨HQ.out.1, World.ownsRow_nil _ _ _ _, Nat.le_refl _, ⟨List.nodup_nil, by simp, by simp⟩, fun _ => rfl⟩, HQ.out.2⟩
set_option maxRecDepth 100000 in
set_option maxHeartbeats 2000000 in
theorem tclone_any (xs : List Nat) (n : Nat) (h0 : 0 < n) (hn : n ≤ 100000) (A : Option Addr) (c : Nat) (w : World) (hr : Reads w w.heap.size 1 A n (xs.map u8v)) :
    Calls Try.prog 76 #[.slice A n c] w fun e w' => ∃ v, e = .returned v ∧ w'.ownsRow w.heap.size 5 1 v n (xs.map u8v) ∧ Below w.heap.size w w' := by
  obtain ⟨ad, rfl, _⟩ := hr.2 h0
  have hb : Below w.heap.size w (w.alloc (.cells #[] 5)) := (Below.refl _ w).alloc (Nat.le_refl _) _
  obtain ⟨v, w2, happ, hown, hb2, _⟩ := app_b (w := w.alloc (.cells #[] 5)) (B := w.heap.size) (n := 0) (xs := []) (own1_of_blk (n := 0) (size := 1) (Blk.new w 5 #[]) (Nat.le_refl _) rfl rfl (by unfold maxLen; omega)) hb.size (by omega) (c := c) ((hr.below hb).more hb.size) (by omega)
  rw [Nat.zero_add, List.nil_append] at hown
  have hq : (binOp .eql 22 (.slice (some ad) n c) (.slice none 0 0)).run Try.prog w = .ok (.bool false) w := Lib.run_eql_slice_nil (P := Try.prog) w 22 5 (some ad) n c 0 0 Try.underlying22
  have HB := Lib.hid (hb.trans hb2)
  have HO := Lib.hid hown
  clear hb hb2 hown hr
  go_enter Try.func76, Try.ntmps76
  go_wp2_with (refine wpList_run_append (by rfl) (.tmp 5) (.tmp 6) 22 (by rfl) (by rfl) (by rfl) happ ?_)
  go_ret
  exact ⟨_, rfl, HO.out, HB.out⟩
set_option maxRecDepth 100000 in
theorem tclone_nil (w : World) : Calls Try.prog 76 #[.slice none 0 0] w fun e w' => e = .returned (.slice none 0 0) ∧ w = w' := by
  have hq : (binOp .eql 22 (.slice none 0 0) (.slice none 0 0)).run Try.prog w = .ok (.bool true) w := Lib.run_eql_slice_nil (P := Try.prog) w 22 5 none 0 0 0 0 Try.underlying22
  go_enter Try.func76, Try.ntmps76
  go_wp2_with fail
  go_ret
  exact ⟨rfl, rfl⟩
end Go.Proofs.Ytbamfnlgapchkaa.Thr
