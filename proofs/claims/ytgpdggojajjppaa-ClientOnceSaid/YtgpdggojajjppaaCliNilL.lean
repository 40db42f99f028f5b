/- The law ClientNil walked. Conditions: the argument can be read. -/
import Derived.Test.YtgpdggojajjppaaCliWakes
import Derived.Test.YtgpdggojajjppaaCliOpen
namespace Go.Proofs.Ytgpdggojajjppaa.Cli
open Go.RowKit Wire Cmd

theorem wpList_load {P : Program} {ty : TypeId} {w : World} {ops : Array Oper} {rest : List Oper} {o : Oper} {a : Act} {Q : Exit → Act → World → Prop} (hgd : o.guard = none) (p : Operand) (ho : o.op = .load ty p) {pv v : Value} (hp : a.eval p = pv)
    (hrun : (Instr.loadAt ty pv).run P w = .ok v w) (h : wpList P ops Q rest (a.put o.dst v) w) : wpList P ops Q (o :: rest) a w :=
  wpList_plain hgd fun _ hK => by
    unfold Oper.wp execOp
    simp only [ho, hp, Sem.run_bind, Sem.run_pure, Result.andThen_ok, hrun]
    exact hK _ _ h
set_option linter.unusedSimpArgs false in
set_option maxRecDepth 100000 in
set_option maxHeartbeats 8000000 in
theorem cnil_any (d : Nat) (c : Cm) (l : Lt) (w : World) : Calls Try.prog 4 #[.agg (actC d c l).toArray] w fun e w' => e = .returned (.bool true) ∧ Below w.heap.size w w' := by
  have HI := Lib.hid (fun W => invoke_nil c W)
  have HH := Lib.hid (fun W => hear_nil l W)
  obtain ⟨xa, xb, xk, xs, xt, xu, xz⟩ := c
  obtain ⟨ls, ld, lk, lbn, lbr, lba, lsl, lno, lv, lvo, lit, ⟨ya, yb, yk, ys, yt, yu, yz⟩, lco, lte⟩ := l
  have HI2 : Hid (∀ W, Calls Try.prog 18 #[.pointer none, .agg #[.int .u8 (xa : Int), .int .u32 (xb : Int), .int .u8 (xk : Int), .string ⟨xs.toArray⟩, .string ⟨xt.toArray⟩, .string ⟨xu.toArray⟩, .int .u8 (xz : Int)]] W fun e w' => e = .returned (.tuple #[.agg #[.int .u8 0, .int .u8 0, .int .u8 0, .int .u64 0, .int .u8 0, .int .u64 0, .int .u64 0, .int .u8 0, .string ⟨#[]⟩, .slice none 0 0, .slice none 0 0, .int .u8 0, .int .u32 0, .int .u8 0, .string ⟨#[]⟩, .string ⟨#[]⟩, .string ⟨#[]⟩, .int .u8 0, .int .u8 0, .string ⟨#[]⟩], .int .i64 1]) ∧ Below W.heap.size W w') := HI.out
  have HH2 : Hid (∀ W, Calls Try.prog 22 #[.pointer none, .agg #[.int .u8 (ls : Int), .int .u8 (ld : Int), .int .u8 (lk : Int), .int .u64 (lbn : Int), .int .u8 (lbr : Int), .int .u64 (lba : Int), .int .u64 (lsl : Int), .int .u8 (lno : Int), .string ⟨lv.toArray⟩, lvo, lit, .int .u8 (ya : Int), .int .u32 (yb : Int), .int .u8 (yk : Int), .string ⟨ys.toArray⟩, .string ⟨yt.toArray⟩, .string ⟨yu.toArray⟩, .int .u8 (yz : Int), .int .u8 (lco : Int), .string ⟨lte.toArray⟩]] W fun e w' => e = .returned (.tuple #[.agg #[.int .u8 0, .int .u8 0, .int .u8 0, .int .u64 0, .int .u8 0, .int .u64 0, .int .u64 0, .int .u8 0, .string ⟨#[]⟩, .slice none 0 0, .slice none 0 0, .int .u8 0, .int .u32 0, .int .u8 0, .string ⟨#[]⟩, .string ⟨#[]⟩, .string ⟨#[]⟩, .int .u8 0, .int .u8 0, .string ⟨#[]⟩], .bool false, .agg #[.int .u8 0, .string ⟨#[]⟩], .bool false]) ∧ Below W.heap.size W w') := HH.out
  have HN2 : Hid (∀ W, Calls Try.prog 20 #[.pointer none] W fun e w' => e = .returned (.tuple #[.agg #[.int .u8 0, .int .u8 0, .int .u8 0, .int .u64 0, .int .u8 0, .int .u64 0, .int .u64 0, .int .u8 0, .string ⟨#[]⟩, .slice none 0 0, .slice none 0 0, .int .u8 0, .int .u32 0, .int .u8 0, .string ⟨#[]⟩, .string ⟨#[]⟩, .string ⟨#[]⟩, .int .u8 0, .int .u8 0, .string ⟨#[]⟩], .int .i64 1]) ∧ Below W.heap.size W w') := fun W => nudge_nil W
  have HW2 : Hid (∀ W, Calls Try.prog 24 #[.pointer none] W fun e w' => e = .returned (.tuple #[.agg #[.int .u8 0, .int .u32 0, .int .u8 0, .string ⟨#[]⟩, .string ⟨#[]⟩, .string ⟨#[]⟩, .int .u8 0], .bool false]) ∧ Below W.heap.size W w') := fun W => waits_nil W
  clear HI HH
  have ha : (actC d ⟨xa, xb, xk, xs, xt, xu, xz⟩ ⟨ls, ld, lk, lbn, lbr, lba, lsl, lno, lv, lvo, lit, ⟨ya, yb, yk, ys, yt, yu, yz⟩, lco, lte⟩).toArray = #[.int .u8 (d : Int), .int .u8 (xa : Int), .int .u32 (xb : Int), .int .u8 (xk : Int), .string ⟨xs.toArray⟩, .string ⟨xt.toArray⟩, .string ⟨xu.toArray⟩, .int .u8 (xz : Int), .int .u8 (ls : Int), .int .u8 (ld : Int), .int .u8 (lk : Int), .int .u64 (lbn : Int), .int .u8 (lbr : Int), .int .u64 (lba : Int), .int .u64 (lsl : Int), .int .u8 (lno : Int), .string ⟨lv.toArray⟩, lvo, lit, .int .u8 (ya : Int), .int .u32 (yb : Int), .int .u8 (yk : Int), .string ⟨ys.toArray⟩, .string ⟨yt.toArray⟩, .string ⟨yu.toArray⟩, .int .u8 (yz : Int), .int .u8 (lco : Int), .string ⟨lte.toArray⟩] := rfl
  rw [ha]
  clear ha
  have ba := Blk.new w 49 #[.int .u8 (d : Int), .int .u8 (xa : Int), .int .u32 (xb : Int), .int .u8 (xk : Int), .string ⟨xs.toArray⟩, .string ⟨xt.toArray⟩, .string ⟨xu.toArray⟩, .int .u8 (xz : Int), .int .u8 (ls : Int), .int .u8 (ld : Int), .int .u8 (lk : Int), .int .u64 (lbn : Int), .int .u8 (lbr : Int), .int .u64 (lba : Int), .int .u64 (lsl : Int), .int .u8 (lno : Int), .string ⟨lv.toArray⟩, lvo, lit, .int .u8 (ya : Int), .int .u32 (yb : Int), .int .u8 (yk : Int), .string ⟨ys.toArray⟩, .string ⟨yt.toArray⟩, .string ⟨yu.toArray⟩, .int .u8 (yz : Int), .int .u8 (lco : Int), .string ⟨lte.toArray⟩]
  have bw : Below w.heap.size w (w.alloc (.cells #[.int .u8 (d : Int), .int .u8 (xa : Int), .int .u32 (xb : Int), .int .u8 (xk : Int), .string ⟨xs.toArray⟩, .string ⟨xt.toArray⟩, .string ⟨xu.toArray⟩, .int .u8 (xz : Int), .int .u8 (ls : Int), .int .u8 (ld : Int), .int .u8 (lk : Int), .int .u64 (lbn : Int), .int .u8 (lbr : Int), .int .u64 (lba : Int), .int .u64 (lsl : Int), .int .u8 (lno : Int), .string ⟨lv.toArray⟩, lvo, lit, .int .u8 (ya : Int), .int .u32 (yb : Int), .int .u8 (yk : Int), .string ⟨ys.toArray⟩, .string ⟨yt.toArray⟩, .string ⟨yu.toArray⟩, .int .u8 (yz : Int), .int .u8 (lco : Int), .string ⟨lte.toArray⟩] 49)) := (Below.refl _ w).alloc (Nat.le_refl _) _
  go_enter Try.func4, Try.ntmps4
  go_upto_region 2 with fail
  obtain ⟨g, hg⟩ : ∃ g, g = w.heap.size := ⟨_, rfl⟩
  have hwg : w.heap.size ≤ g := by omega
  rw [← hg] at ba ⊢
  generalize w.alloc (.cells #[.int .u8 (d : Int), .int .u8 (xa : Int), .int .u32 (xb : Int), .int .u8 (xk : Int), .string ⟨xs.toArray⟩, .string ⟨xt.toArray⟩, .string ⟨xu.toArray⟩, .int .u8 (xz : Int), .int .u8 (ls : Int), .int .u8 (ld : Int), .int .u8 (lk : Int), .int .u64 (lbn : Int), .int .u8 (lbr : Int), .int .u64 (lba : Int), .int .u64 (lsl : Int), .int .u8 (lno : Int), .string ⟨lv.toArray⟩, lvo, lit, .int .u8 (ya : Int), .int .u32 (yb : Int), .int .u8 (yk : Int), .string ⟨ys.toArray⟩, .string ⟨yt.toArray⟩, .string ⟨yu.toArray⟩, .int .u8 (yz : Int), .int .u8 (lco : Int), .string ⟨lte.toArray⟩] 49) = w1 at *
  clear hg
  have hld := blk_part (P := Try.prog) (ty := 36) ba 1 #[.int .u8 (xa : Int), .int .u32 (xb : Int), .int .u8 (xk : Int), .string ⟨xs.toArray⟩, .string ⟨xt.toArray⟩, .string ⟨xu.toArray⟩, .int .u8 (xz : Int)] rfl Try.underlying36 rfl size_cmd
  go_wp2_with (refine wpList_load (by rfl) (.tmp 16) (by rfl) (by rfl) hld ?_)
  clear hld
  refine (HI2.out _).mono ?_; rintro e w2 ⟨rfl, B2⟩
  have ba := ba.below B2 ba.lt
  have bw := bw.trans (B2.mono bw.size)
  clear B2
  have kn := Blk.new w2 47 #[.int .u8 0, .int .u8 0, .int .u8 0, .int .u64 0, .int .u8 0, .int .u64 0, .int .u64 0, .int .u8 0, .string ⟨#[]⟩, .slice none 0 0, .slice none 0 0, .int .u8 0, .int .u32 0, .int .u8 0, .string ⟨#[]⟩, .string ⟨#[]⟩, .string ⟨#[]⟩, .int .u8 0, .int .u8 0, .string ⟨#[]⟩]
  have hww := bw.size
  have lba' := ba.lt
  obtain ⟨wA, hst, bw, ba⟩ : ∃ wA, (Instr.storeAt 47 (.pointer (some ⟨w2.heap.size, 0, none⟩)) (.agg #[.int .u8 0, .int .u8 0, .int .u8 0, .int .u64 0, .int .u8 0, .int .u64 0, .int .u64 0, .int .u8 0, .string ⟨#[]⟩, .slice none 0 0, .slice none 0 0, .int .u8 0, .int .u32 0, .int .u8 0, .string ⟨#[]⟩, .string ⟨#[]⟩, .string ⟨#[]⟩, .int .u8 0, .int .u8 0, .string ⟨#[]⟩])).run Try.prog (w2.alloc (.cells #[.int .u8 0, .int .u8 0, .int .u8 0, .int .u64 0, .int .u8 0, .int .u64 0, .int .u64 0, .int .u8 0, .string ⟨#[]⟩, .slice none 0 0, .slice none 0 0, .int .u8 0, .int .u32 0, .int .u8 0, .string ⟨#[]⟩, .string ⟨#[]⟩, .string ⟨#[]⟩, .int .u8 0, .int .u8 0, .string ⟨#[]⟩] 47)) = .ok () wA ∧ Below w.heap.size w wA ∧ Blk wA g 49 #[.int .u8 (d : Int), .int .u8 (xa : Int), .int .u32 (xb : Int), .int .u8 (xk : Int), .string ⟨xs.toArray⟩, .string ⟨xt.toArray⟩, .string ⟨xu.toArray⟩, .int .u8 (xz : Int), .int .u8 (ls : Int), .int .u8 (ld : Int), .int .u8 (lk : Int), .int .u64 (lbn : Int), .int .u8 (lbr : Int), .int .u64 (lba : Int), .int .u64 (lsl : Int), .int .u8 (lno : Int), .string ⟨lv.toArray⟩, lvo, lit, .int .u8 (ya : Int), .int .u32 (yb : Int), .int .u8 (yk : Int), .string ⟨ys.toArray⟩, .string ⟨yt.toArray⟩, .string ⟨yu.toArray⟩, .int .u8 (yz : Int), .int .u8 (lco : Int), .string ⟨lte.toArray⟩] :=
    ⟨_, blk_store kn rfl size_lt rfl, below_setRow (bw.alloc bw.size _) hww, (ba.alloc _).setRowFar (by omega)⟩
  clear kn hww lba'
  go_wp2_with (first | refine wpList_store (by rfl) (.tmp 4) (.tmp 19) (by rfl) (by rfl) (by rfl) hst ?_)
  clear hst
  refine (HN2.out _).mono ?_; rintro e w3 ⟨rfl, B3⟩
  have ba := ba.below B3 ba.lt
  have bw := bw.trans (B3.mono bw.size)
  clear B3
  have kn := Blk.new w3 47 #[.int .u8 0, .int .u8 0, .int .u8 0, .int .u64 0, .int .u8 0, .int .u64 0, .int .u64 0, .int .u8 0, .string ⟨#[]⟩, .slice none 0 0, .slice none 0 0, .int .u8 0, .int .u32 0, .int .u8 0, .string ⟨#[]⟩, .string ⟨#[]⟩, .string ⟨#[]⟩, .int .u8 0, .int .u8 0, .string ⟨#[]⟩]
  have hww := bw.size
  have lba' := ba.lt
  obtain ⟨wB, hst, bw, ba⟩ : ∃ wA, (Instr.storeAt 47 (.pointer (some ⟨w3.heap.size, 0, none⟩)) (.agg #[.int .u8 0, .int .u8 0, .int .u8 0, .int .u64 0, .int .u8 0, .int .u64 0, .int .u64 0, .int .u8 0, .string ⟨#[]⟩, .slice none 0 0, .slice none 0 0, .int .u8 0, .int .u32 0, .int .u8 0, .string ⟨#[]⟩, .string ⟨#[]⟩, .string ⟨#[]⟩, .int .u8 0, .int .u8 0, .string ⟨#[]⟩])).run Try.prog (w3.alloc (.cells #[.int .u8 0, .int .u8 0, .int .u8 0, .int .u64 0, .int .u8 0, .int .u64 0, .int .u64 0, .int .u8 0, .string ⟨#[]⟩, .slice none 0 0, .slice none 0 0, .int .u8 0, .int .u32 0, .int .u8 0, .string ⟨#[]⟩, .string ⟨#[]⟩, .string ⟨#[]⟩, .int .u8 0, .int .u8 0, .string ⟨#[]⟩] 47)) = .ok () wA ∧ Below w.heap.size w wA ∧ Blk wA g 49 #[.int .u8 (d : Int), .int .u8 (xa : Int), .int .u32 (xb : Int), .int .u8 (xk : Int), .string ⟨xs.toArray⟩, .string ⟨xt.toArray⟩, .string ⟨xu.toArray⟩, .int .u8 (xz : Int), .int .u8 (ls : Int), .int .u8 (ld : Int), .int .u8 (lk : Int), .int .u64 (lbn : Int), .int .u8 (lbr : Int), .int .u64 (lba : Int), .int .u64 (lsl : Int), .int .u8 (lno : Int), .string ⟨lv.toArray⟩, lvo, lit, .int .u8 (ya : Int), .int .u32 (yb : Int), .int .u8 (yk : Int), .string ⟨ys.toArray⟩, .string ⟨yt.toArray⟩, .string ⟨yu.toArray⟩, .int .u8 (yz : Int), .int .u8 (lco : Int), .string ⟨lte.toArray⟩] :=
    ⟨_, blk_store kn rfl size_lt rfl, below_setRow (bw.alloc bw.size _) hww, (ba.alloc _).setRowFar (by omega)⟩
  clear kn hww lba'
  have hldL := blk_part (P := Try.prog) (ty := 47) ba 8 #[.int .u8 (ls : Int), .int .u8 (ld : Int), .int .u8 (lk : Int), .int .u64 (lbn : Int), .int .u8 (lbr : Int), .int .u64 (lba : Int), .int .u64 (lsl : Int), .int .u8 (lno : Int), .string ⟨lv.toArray⟩, lvo, lit, .int .u8 (ya : Int), .int .u32 (yb : Int), .int .u8 (yk : Int), .string ⟨ys.toArray⟩, .string ⟨yt.toArray⟩, .string ⟨yu.toArray⟩, .int .u8 (yz : Int), .int .u8 (lco : Int), .string ⟨lte.toArray⟩] rfl Try.underlying47 rfl size_lt
  go_wp2_with (first | refine wpList_store (by rfl) (.tmp 6) (.tmp 24) (by rfl) (by rfl) (by rfl) hst ?_ | refine wpList_load (by rfl) (.tmp 28) (by rfl) (by rfl) hldL ?_)
  clear hst
  clear hldL
  refine (HH2.out _).mono ?_; rintro e w4 ⟨rfl, B4⟩
  have bw := bw.trans (B4.mono bw.size)
  clear B4 ba
  have kl := (Blk.new w4 47 #[.int .u8 0, .int .u8 0, .int .u8 0, .int .u64 0, .int .u8 0, .int .u64 0, .int .u64 0, .int .u8 0, .string ⟨#[]⟩, .slice none 0 0, .slice none 0 0, .int .u8 0, .int .u32 0, .int .u8 0, .string ⟨#[]⟩, .string ⟨#[]⟩, .string ⟨#[]⟩, .int .u8 0, .int .u8 0, .string ⟨#[]⟩]).alloc (.cells #[.int .u8 0, .string ⟨#[]⟩] 43)
  have kr := Blk.new (w4.alloc (.cells #[.int .u8 0, .int .u8 0, .int .u8 0, .int .u64 0, .int .u8 0, .int .u64 0, .int .u64 0, .int .u8 0, .string ⟨#[]⟩, .slice none 0 0, .slice none 0 0, .int .u8 0, .int .u32 0, .int .u8 0, .string ⟨#[]⟩, .string ⟨#[]⟩, .string ⟨#[]⟩, .int .u8 0, .int .u8 0, .string ⟨#[]⟩] 47)) 43 #[.int .u8 0, .string ⟨#[]⟩]
  have es : (w4.alloc (.cells #[.int .u8 0, .int .u8 0, .int .u8 0, .int .u64 0, .int .u8 0, .int .u64 0, .int .u64 0, .int .u8 0, .string ⟨#[]⟩, .slice none 0 0, .slice none 0 0, .int .u8 0, .int .u32 0, .int .u8 0, .string ⟨#[]⟩, .string ⟨#[]⟩, .string ⟨#[]⟩, .int .u8 0, .int .u8 0, .string ⟨#[]⟩] 47)).heap.size = w4.heap.size + 1 := by simp
  have hww := bw.size
  rw [es] at kr
  obtain ⟨wA4, hstA, wB4, hstB, bw⟩ : ∃ wA, (Instr.storeAt 47 (.pointer (some ⟨w4.heap.size, 0, none⟩)) (.agg #[.int .u8 0, .int .u8 0, .int .u8 0, .int .u64 0, .int .u8 0, .int .u64 0, .int .u64 0, .int .u8 0, .string ⟨#[]⟩, .slice none 0 0, .slice none 0 0, .int .u8 0, .int .u32 0, .int .u8 0, .string ⟨#[]⟩, .string ⟨#[]⟩, .string ⟨#[]⟩, .int .u8 0, .int .u8 0, .string ⟨#[]⟩])).run Try.prog ((w4.alloc (.cells #[.int .u8 0, .int .u8 0, .int .u8 0, .int .u64 0, .int .u8 0, .int .u64 0, .int .u64 0, .int .u8 0, .string ⟨#[]⟩, .slice none 0 0, .slice none 0 0, .int .u8 0, .int .u32 0, .int .u8 0, .string ⟨#[]⟩, .string ⟨#[]⟩, .string ⟨#[]⟩, .int .u8 0, .int .u8 0, .string ⟨#[]⟩] 47)).alloc (.cells #[.int .u8 0, .string ⟨#[]⟩] 43)) = .ok () wA ∧ ∃ wB, (Instr.storeAt 43 (.pointer (some ⟨w4.heap.size + 1, 0, none⟩)) (.agg #[.int .u8 0, .string ⟨#[]⟩])).run Try.prog wA = .ok () wB ∧ Below w.heap.size w wB :=
    ⟨_, blk_store kl rfl size_lt rfl, _, blk_store (kr.setRowFar (by omega)) rfl size_reply rfl, below_setRow (below_setRow ((bw.alloc bw.size _).alloc (by rw [es]; omega) _) (by omega)) (by omega)⟩
  clear kl kr es hww
  go_wp2_with (first | refine wpList_store (by rfl) (.tmp 8) (.tmp 31) (by rfl) (by rfl) (by rfl) hstA ?_ | refine wpList_store (by rfl) (.tmp 10) (.tmp 33) (by rfl) (by rfl) (by rfl) hstB ?_)
  clear hstA hstB
  refine (HW2.out _).mono ?_; rintro e w5 ⟨rfl, B5⟩
  have bw := bw.trans (B5.mono bw.size)
  have bz := bw.alloc bw.size (.cells #[.int .u8 0, .int .u32 0, .int .u8 0, .string ⟨#[]⟩, .string ⟨#[]⟩, .string ⟨#[]⟩, .int .u8 0] 36)
  clear bw B5
  go_wp2_with fail
  refine (wakes_any _).mono ?_; rintro e w6 ⟨rfl, B6⟩
  have bw := bz.trans (B6.mono bz.size)
  go_wp2_with fail
  go_ret
  exact ⟨rfl, bw⟩
end Go.Proofs.Ytgpdggojajjppaa.Cli
