/- Package cmd, walked: Put. Conditions: the bytes that came in can be read. -/
import Derived.Deep.LoopGhost
import Derived.Deep.DeepCutAuto
import Derived.Test.YteiaiilfekojfaaGreatQNetOrderCmdP
import Derived.Test.YteiaiilfekojfaaGreatQNetOrderWireRef
import Derived.Test.YteiaiilfekojfaaGreatQNetOrderKeep
namespace Go.Proofs.YteiaiilfekojfaaGreat.Cmd
open Go.RowKit Wire

def oneB (c : Cm) : List UInt8 := UInt8.ofNat c.client :: (numB c.seq ++ (UInt8.ofNat c.kind :: (strB c.key ++ (strB c.old ++ (strB c.new ++ [UInt8.ofNat c.set])))))
set_option maxRecDepth 100000 in
set_option maxHeartbeats 4000000 in
theorem clone_any (A : Option Addr) (c : Nat) (l : List UInt8) (hl : l.length ≤ 1000000000) (w : World) (hr : Reads w w.heap.size 1 A l.length (bv l)) :
    Calls Tryz.prog 177 #[.slice A l.length c] w fun e w' => RetB w w' e l := by
  obtain ⟨i0, hi, hz0, hz1, hz2⟩ := info_parts info_u8
  have hbo := bv_one l
  cases A with
  | none =>
    have h0 : l.length = 0 := by
      rcases Nat.eq_zero_or_pos l.length with h | h
      · exact h
      · obtain ⟨ad, e, _⟩ := hr.2 h
        cases e
    obtain rfl : l = [] := List.length_eq_zero_iff.1 h0
    have hf : ∀ W : World, (binOp .eql 103 (.slice none ([] : List UInt8).length c) (.slice none 0 0)).run Tryz.prog W = .ok (.bool true) W := fun W => by kernel_rfl
    have hf2 : ∀ W : World, (binOp .eql 103 (.slice none 0 c) (.slice none 0 0)).run Tryz.prog W = .ok (.bool true) W := fun W => by kernel_rfl
    go_enter Tryz.func177, Tryz.ntmps177
    go_wp2
    go_ret
    exact ⟨_, rfl, World.ownsRow_nil _ _ _ _, Below.refl _ _⟩
  | some ad =>
    have hf : ∀ W : World, (binOp .eql 103 (.slice (some ad) l.length c) (.slice none 0 0)).run Tryz.prog W = .ok (.bool false) W := fun W => by kernel_rfl
    have own0 : (w.alloc (.cells #[] 5)).ownsRow w.heap.size 5 1 (.slice (some ⟨w.heap.size, 0, none⟩) 0 0) 0 [] := ⟨rfl, .inr ⟨w.heap.size, 0, #[], rfl, Nat.le_refl _, heap_alloc_new w _, Nat.le_refl _, by decide, rfl, rfl⟩⟩
    have hr0 := hr.alloc (Nat.le_refl _) (.cells #[] 5)
    have hsz : w.heap.size ≤ (w.alloc (.cells #[] 5)).heap.size := by simp
    have hm1 : 0 + l.length ≤ maxLen := by unfold maxLen; omega
    have hm2 : (0 + l.length) * 1 ≤ 140737488355328 := by omega
    go_enter Tryz.func177, Tryz.ntmps177
    go_wp2_with (at_builtin; go_must (refine wpList_append_any _ rfl (.tmp 5) (.tmp 6) _ rfl w.heap.size 5 i0 (.int .u8 0) 1 1 Tryz.underlying103 hi hz0 hz1 hz2 rfl (by omega) (.slice (some ⟨w.heap.size, 0, none⟩) 0 0) 0 [] rfl own0 w.heap.size (some ad) l.length c (bv l) rfl hr0 hbo hm1 hm2 hsz ?_); intro v1 w1 own1 g1 at1)
    go_ret
    rw [Nat.zero_add, List.nil_append] at own1
    exact ⟨_, rfl, own1, ((Below.refl _ w).alloc (Nat.le_refl _) _).grown g1 (by simp) (fun k hk => by cases hk; exact Nat.le_refl _)⟩
end Go.Proofs.YteiaiilfekojfaaGreat.Cmd
