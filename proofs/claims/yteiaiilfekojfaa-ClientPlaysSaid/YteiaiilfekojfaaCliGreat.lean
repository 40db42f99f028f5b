/- Whether acts of a client are great, walked: some bool comes back, and where it is false there are 200 acts at most. Conditions: the acts can be read. -/
import Derived.Test.YteiaiilfekojfaaCliOpen
import Derived.Test.YteiaiilfekojfaaCmdGreat
import Derived.Test.YteiaiilfekojfaaInv
namespace Go.Proofs.Yteiaiilfekojfaa.Cli
open Go.RowKit Wire Cmd DrawInv

theorem two_rows {w : World} {g : Nat} {t : TypeId} {x y : Cm} (h : Blk w g t (cmC x ++ cmC y)) : Rows w (some ⟨g, 0, none⟩) 7 cmL [x, y] := by
  refine reads_rows (l := [x, y]) cmL_len ⟨by simp [cmL_len], fun _ => ⟨_, rfl, h.lt, fun j u hu => ?_⟩⟩
  have e : (⟨g, 0, none⟩ : Addr).add j = ⟨g, j, none⟩ := by unfold Addr.add; by_cases h : j = 0 <;> simp [h]
  rw [e, h.cell j, ← hu]
  simp only [cmL, List.flatMap_cons, List.flatMap_nil, List.append_nil]
  rw [← Array.toList_append, Array.getElem?_toList]
def TwoAt (x y : Cm) (v : Value) (W : World) : Prop := ∃ g, v = .slice (some ⟨g, 0, none⟩) 2 2 ∧ Rows W (some ⟨g, 0, none⟩) 7 cmL [x, y]
theorem TwoAt.below (x y : Cm) (v : Value) (w w' : World) (h : TwoAt x y v w) (hb : Below w.heap.size w w') : TwoAt x y v w' := by
  obtain ⟨g, e, r⟩ := h
  exact ⟨g, e, r.below hb⟩
inductive GrEnd (ln : Nat) : Ending → Prop
  | small (h : ln ≤ 200) : GrEnd ln (.returned (.bool false))
  | great : GrEnd ln (.returned (.bool true))
def GrAt (ln : Nat) (w : World) (gk : Nat) (vc : Value) (wr : World) : Prop :=
  ∃ k : Nat, k + gk = ln ∧ vc = .int .i64 (k : Int) ∧ Below w.heap.size w wr
set_option linter.unusedSimpArgs false in
set_option linter.unusedVariables false in
set_option maxRecDepth 100000 in
set_option maxHeartbeats 16000000 in
theorem cgreat_any (l : List Ac) (ln : Nat) (hln : ln = l.length) (hQ : ∀ x ∈ l, x.Fits) (hl : l.length ≤ 9223372036854775807) (A : Option Addr) (cl : Nat) (w : World) (hA : Rows w A 28 acC l) :
    Calls Try.prog 8 #[.slice A ln cl] w fun e w' => GrEnd ln e ∧ Below w.heap.size w w' := by
  rw [← hln] at hl
  have HLN := Lib.hid hln
  clear hln
  by_cases h2 : 200 < (ln : Int)
  · go_enter Try.func8, Try.ntmps8
    go_wp2_with fail
    go_ret
    exact ⟨GrEnd.great, Below.refl _ _⟩
  have H2 := Lib.hid (show ln ≤ 200 by omega)
  go_enter Try.func8, Try.ntmps8
  go_wp2_with fail
  go_loopg [3] ln (fun gk i wr => GrAt ln w gk i wr)
  case atStart => exact ⟨0, by omega, rfl, Below.refl _ _⟩
  case round =>
    obtain ⟨k, hk, rfl, bw⟩ := hrel
    by_cases h4 : k < ln
    · have hk4 : (k : Int) < (ln : Int) := by omega
      obtain ⟨x, hx⟩ : ∃ x, l[k]? = some x := ⟨_, List.getElem?_eq_getElem (by rw [← HLN.out]; exact h4)⟩
      have hxf := hQ x (List.mem_of_getElem? hx)
      obtain ⟨ad, rfl, hadl, q0, q1⟩ := hA.at_ hx
      obtain ⟨d, ⟨xa, xb, xk, xs, xt, xu, xz⟩, ⟨ls, ld, lk, lbn, lbr, lba, lsl, lno, lv, lvo, lit, ⟨ya, yb, yk, ys, yt, yu, yz⟩, lco, lte⟩⟩ := x
      obtain ⟨_, _, _, v1, v2, v3, v4⟩ := hxf
      obtain ⟨vA, vn, vc, h5, v1⟩ := v1
      obtain ⟨iA, im, ic, h6, v2⟩ := v2
      dsimp only at h5 h6 v3 v4
      subst h5
      subst h6
      have hb0 : (ad.add (k * 28)).block < w.heap.size := by rw [block_of_add]; exact hadl
      have a1 : wr.drew.cell? { block := (ad.add (k * 28)).block, off := (ad.add (k * 28)).off + 1 } = some (.int .u8 (xa : Int)) := (bw.drew.cell (by exact hb0)).trans (q1 0 _ rfl)
      have a2 : wr.drew.cell? { block := (ad.add (k * 28)).block, off := (ad.add (k * 28)).off + 2 } = some (.int .u32 (xb : Int)) := (bw.drew.cell (by exact hb0)).trans (q1 1 _ rfl)
      have a3 : wr.drew.cell? { block := (ad.add (k * 28)).block, off := (ad.add (k * 28)).off + 3 } = some (.int .u8 (xk : Int)) := (bw.drew.cell (by exact hb0)).trans (q1 2 _ rfl)
      have a4 : wr.drew.cell? { block := (ad.add (k * 28)).block, off := (ad.add (k * 28)).off + 4 } = some (.string ⟨xs.toArray⟩) := (bw.drew.cell (by exact hb0)).trans (q1 3 _ rfl)
      have a5 : wr.drew.cell? { block := (ad.add (k * 28)).block, off := (ad.add (k * 28)).off + 5 } = some (.string ⟨xt.toArray⟩) := (bw.drew.cell (by exact hb0)).trans (q1 4 _ rfl)
      have a6 : wr.drew.cell? { block := (ad.add (k * 28)).block, off := (ad.add (k * 28)).off + 6 } = some (.string ⟨xu.toArray⟩) := (bw.drew.cell (by exact hb0)).trans (q1 5 _ rfl)
      have a7 : wr.drew.cell? { block := (ad.add (k * 28)).block, off := (ad.add (k * 28)).off + 7 } = some (.int .u8 (xz : Int)) := (bw.drew.cell (by exact hb0)).trans (q1 6 _ rfl)
      have a16 : wr.drew.cell? { block := (ad.add (k * 28)).block, off := (ad.add (k * 28)).off + 16 } = some (.string ⟨lv.toArray⟩) := (bw.drew.cell (by exact hb0)).trans (q1 15 _ rfl)
      have a17 : wr.drew.cell? { block := (ad.add (k * 28)).block, off := (ad.add (k * 28)).off + 17 } = some (.slice vA vn vc) := (bw.drew.cell (by exact hb0)).trans (q1 16 _ rfl)
      have a18 : wr.drew.cell? { block := (ad.add (k * 28)).block, off := (ad.add (k * 28)).off + 18 } = some (.slice iA im ic) := (bw.drew.cell (by exact hb0)).trans (q1 17 _ rfl)
      have a19 : wr.drew.cell? { block := (ad.add (k * 28)).block, off := (ad.add (k * 28)).off + 19 } = some (.int .u8 (ya : Int)) := (bw.drew.cell (by exact hb0)).trans (q1 18 _ rfl)
      have a20 : wr.drew.cell? { block := (ad.add (k * 28)).block, off := (ad.add (k * 28)).off + 20 } = some (.int .u32 (yb : Int)) := (bw.drew.cell (by exact hb0)).trans (q1 19 _ rfl)
      have a21 : wr.drew.cell? { block := (ad.add (k * 28)).block, off := (ad.add (k * 28)).off + 21 } = some (.int .u8 (yk : Int)) := (bw.drew.cell (by exact hb0)).trans (q1 20 _ rfl)
      have a22 : wr.drew.cell? { block := (ad.add (k * 28)).block, off := (ad.add (k * 28)).off + 22 } = some (.string ⟨ys.toArray⟩) := (bw.drew.cell (by exact hb0)).trans (q1 21 _ rfl)
      have a23 : wr.drew.cell? { block := (ad.add (k * 28)).block, off := (ad.add (k * 28)).off + 23 } = some (.string ⟨yt.toArray⟩) := (bw.drew.cell (by exact hb0)).trans (q1 22 _ rfl)
      have a24 : wr.drew.cell? { block := (ad.add (k * 28)).block, off := (ad.add (k * 28)).off + 24 } = some (.string ⟨yu.toArray⟩) := (bw.drew.cell (by exact hb0)).trans (q1 23 _ rfl)
      have a25 : wr.drew.cell? { block := (ad.add (k * 28)).block, off := (ad.add (k * 28)).off + 25 } = some (.int .u8 (yz : Int)) := (bw.drew.cell (by exact hb0)).trans (q1 24 _ rfl)
      have a27 : wr.drew.cell? { block := (ad.add (k * 28)).block, off := (ad.add (k * 28)).off + 27 } = some (.string ⟨lte.toArray⟩) := (bw.drew.cell (by exact hb0)).trans (q1 26 _ rfl)
      have hc1 : (ad.add (k * 28)).block < wr.drew.heap.size := Nat.lt_of_lt_of_le hb0 bw.drew.size
      clear q0 q1 hx hA
      have HGR := Lib.hid (fun (g : Nat) W r => great_any [⟨xa, xb, xk, xs, xt, xu, xz⟩, ⟨ya, yb, yk, ys, yt, yu, yz⟩] (by simp) (some ⟨g, 0, none⟩) 2 W r)
      generalize greatB [⟨xa, xb, xk, xs, xt, xu, xz⟩, ⟨ya, yb, yk, ys, yt, yu, yz⟩] = b27 at *
      obtain ⟨b37, hb37⟩ : ∃ b, decide ((300 : Int) < (lte.length : Int)) = b := ⟨_, rfl⟩
      obtain ⟨b48, hb48⟩ : ∃ b, decide ((300 : Int) < (lv.length : Int)) = b := ⟨_, rfl⟩
      obtain ⟨b59, hb59⟩ : ∃ b, decide ((100 : Int) < (vn : Int)) = b := ⟨_, rfl⟩
      obtain ⟨b70, hb70⟩ : ∃ b, decide ((100 : Int) < (im : Int)) = b := ⟨_, rfl⟩
      have hb37 := Lib.hid hb37
      have hb48 := Lib.hid hb48
      have hb59 := Lib.hid hb59
      have hb70 := Lib.hid hb70
      have BW := Lib.hid bw
      clear bw
      go_upto_region 6 with fail
      obtain ⟨c38, hc38⟩ : ∃ b : Bool, b = ((b27 || b37)) := ⟨_, rfl⟩
      have Hc38 := Lib.hid hc38
      clear hc38
      obtain ⟨c49, hc49⟩ : ∃ b : Bool, b = ((c38 || b48)) := ⟨_, rfl⟩
      have Hc49 := Lib.hid hc49
      clear hc49
      obtain ⟨c60, hc60⟩ : ∃ b : Bool, b = ((c49 || b59)) := ⟨_, rfl⟩
      have Hc60 := Lib.hid hc60
      clear hc60
      obtain ⟨c71, hc71⟩ : ∃ b : Bool, b = ((c60 || b70)) := ⟨_, rfl⟩
      have Hc71 := Lib.hid hc71
      clear hc71
      refine region_inv2 (by kernel_rfl) [(25, TwoAt ⟨xa, xb, xk, xs, xt, xu, xz⟩ ⟨ya, yb, yk, ys, yt, yu, yz⟩)] [(13, .slice (some ad) ln cl), (14, .int .i64 (k : Int)), (15, .pointer (some (ad.add (k * 28)))), (16, .pointer (some { block := (ad.add (k * 28)).block, off := (ad.add (k * 28)).off + 1 })), (17, .agg #[.int .u8 (xa : Int), .int .u32 (xb : Int), .int .u8 (xk : Int), .string ⟨xs.toArray⟩, .string ⟨xt.toArray⟩, .string ⟨xu.toArray⟩, .int .u8 (xz : Int)]), (18, .slice (some ad) ln cl), (19, .int .i64 (k : Int)), (20, .pointer (some (ad.add (k * 28)))), (21, .pointer (some { block := (ad.add (k * 28)).block, off := (ad.add (k * 28)).off + 8 })), (22, .pointer (some { block := (ad.add (k * 28)).block, off := (ad.add (k * 28)).off + 10 })), (23, .pointer (some { block := (ad.add (k * 28)).block, off := (ad.add (k * 28)).off + 19 })), (24, .agg #[.int .u8 (ya : Int), .int .u32 (yb : Int), .int .u8 (yk : Int), .string ⟨ys.toArray⟩, .string ⟨yt.toArray⟩, .string ⟨yu.toArray⟩, .int .u8 (yz : Int)]), (26, .bool b27), (27, .bool b27), (28, (bif b27 then undef else .slice (some ad) ln cl)), (29, (bif b27 then undef else .int .i64 (k : Int))), (30, (bif b27 then undef else .pointer (some (ad.add (k * 28))))), (31, (bif b27 then undef else .pointer (some { block := (ad.add (k * 28)).block, off := (ad.add (k * 28)).off + 8 }))), (32, (bif b27 then undef else .pointer (some { block := (ad.add (k * 28)).block, off := (ad.add (k * 28)).off + 10 }))), (33, (bif b27 then undef else .pointer (some { block := (ad.add (k * 28)).block, off := (ad.add (k * 28)).off + 26 }))), (34, (bif b27 then undef else .pointer (some { block := (ad.add (k * 28)).block, off := (ad.add (k * 28)).off + 27 }))), (35, (bif b27 then undef else .string ⟨lte.toArray⟩)), (36, (bif b27 then undef else .int .i64 (lte.length : Int))), (37, (bif b27 then undef else .bool b37)), (38, .bool c38), (39, .bool c38), (40, (bif c38 then undef else .slice (some ad) ln cl)), (41, (bif c38 then undef else .int .i64 (k : Int))), (42, (bif c38 then undef else .pointer (some (ad.add (k * 28))))), (43, (bif c38 then undef else .pointer (some { block := (ad.add (k * 28)).block, off := (ad.add (k * 28)).off + 8 }))), (44, (bif c38 then undef else .pointer (some { block := (ad.add (k * 28)).block, off := (ad.add (k * 28)).off + 10 }))), (45, (bif c38 then undef else .pointer (some { block := (ad.add (k * 28)).block, off := (ad.add (k * 28)).off + 16 }))), (46, (bif c38 then undef else .string ⟨lv.toArray⟩)), (47, (bif c38 then undef else .int .i64 (lv.length : Int))), (48, (bif c38 then undef else .bool b48)), (49, .bool c49), (50, .bool c49), (51, (bif c49 then undef else .slice (some ad) ln cl)), (52, (bif c49 then undef else .int .i64 (k : Int))), (53, (bif c49 then undef else .pointer (some (ad.add (k * 28))))), (54, (bif c49 then undef else .pointer (some { block := (ad.add (k * 28)).block, off := (ad.add (k * 28)).off + 8 }))), (55, (bif c49 then undef else .pointer (some { block := (ad.add (k * 28)).block, off := (ad.add (k * 28)).off + 10 }))), (56, (bif c49 then undef else .pointer (some { block := (ad.add (k * 28)).block, off := (ad.add (k * 28)).off + 17 }))), (57, (bif c49 then undef else .slice vA vn vc)), (58, (bif c49 then undef else .int .i64 (vn : Int))), (59, (bif c49 then undef else .bool b59)), (60, .bool c60), (61, .bool c60), (62, (bif c60 then undef else .slice (some ad) ln cl)), (63, (bif c60 then undef else .int .i64 (k : Int))), (64, (bif c60 then undef else .pointer (some (ad.add (k * 28))))), (65, (bif c60 then undef else .pointer (some { block := (ad.add (k * 28)).block, off := (ad.add (k * 28)).off + 8 }))), (66, (bif c60 then undef else .pointer (some { block := (ad.add (k * 28)).block, off := (ad.add (k * 28)).off + 10 }))), (67, (bif c60 then undef else .pointer (some { block := (ad.add (k * 28)).block, off := (ad.add (k * 28)).off + 18 }))), (68, (bif c60 then undef else .slice iA im ic)), (69, (bif c60 then undef else .int .i64 (im : Int))), (70, (bif c60 then undef else .bool b70)), (71, .bool c71)] (by kernel_rfl) (by kernel_rfl) rfl (by kernel_rfl) ?_ ?_ ?_
      · intro q hq
        obtain rfl := List.mem_singleton.1 hq
        exact TwoAt.below _ _
      · refine And.intro ?_ ?_
        · intro d hd ρ W hcs bw hn hg
          cases hd
          have e0 : ρ (.tmp 0) = .slice (some ad) ln cl := hn 0 (by decide)
          clear hn hg
          refine .inl ⟨trivial, ?_⟩
          refine .inl ⟨_, W, rfl, e0, Below.refl _ _⟩
        refine And.intro ?_ ?_
        · intro d hd ρ W hcs bw hn hg
          cases hd
          have e3 : ρ (.tmp 3) = .int .i64 (k : Int) := hn 3 (by decide)
          clear hn hg
          refine .inl ⟨trivial, ?_⟩
          refine .inl ⟨_, W, rfl, e3, Below.refl _ _⟩
        refine And.intro ?_ ?_
        · intro d hd ρ W hcs bw hn hg
          cases hd
          have e13 : ρ (.tmp 13) = .slice (some ad) ln cl := hn 13 (by decide)
          have e14 : ρ (.tmp 14) = .int .i64 (k : Int) := hn 14 (by decide)
          clear hn hg
          refine .inl ⟨trivial, ?_⟩
          refine .inl ⟨.pointer (some (ad.add (k * 28))), W, ?_, rfl, Below.refl _ _⟩
          go_simp
        refine And.intro ?_ ?_
        · intro d hd ρ W hcs bw hn hg
          cases hd
          have e15 : ρ (.tmp 15) = .pointer (some (ad.add (k * 28))) := hn 15 (by decide)
          clear hn hg
          refine .inl ⟨trivial, ?_⟩
          refine .inl ⟨.pointer (some { block := (ad.add (k * 28)).block, off := (ad.add (k * 28)).off + 1 }), W, ?_, rfl, Below.refl _ _⟩
          go_simp
        refine And.intro ?_ ?_
        · intro d hd ρ W hcs bw hn hg
          cases hd
          have e16 : ρ (.tmp 16) = .pointer (some { block := (ad.add (k * 28)).block, off := (ad.add (k * 28)).off + 1 }) := hn 16 (by decide)
          clear hn hg
          refine .inl ⟨trivial, ?_⟩
          have z1 : W.cell? { block := (ad.add (k * 28)).block, off := (ad.add (k * 28)).off + 1 } = some (.int .u8 (xa : Int)) := (bw.cell (by exact hc1)).trans a1
          have z2 : W.cell? { block := (ad.add (k * 28)).block, off := (ad.add (k * 28)).off + 2 } = some (.int .u32 (xb : Int)) := (bw.cell (by exact hc1)).trans a2
          have z3 : W.cell? { block := (ad.add (k * 28)).block, off := (ad.add (k * 28)).off + 3 } = some (.int .u8 (xk : Int)) := (bw.cell (by exact hc1)).trans a3
          have z4 : W.cell? { block := (ad.add (k * 28)).block, off := (ad.add (k * 28)).off + 4 } = some (.string ⟨xs.toArray⟩) := (bw.cell (by exact hc1)).trans a4
          have z5 : W.cell? { block := (ad.add (k * 28)).block, off := (ad.add (k * 28)).off + 5 } = some (.string ⟨xt.toArray⟩) := (bw.cell (by exact hc1)).trans a5
          have z6 : W.cell? { block := (ad.add (k * 28)).block, off := (ad.add (k * 28)).off + 6 } = some (.string ⟨xu.toArray⟩) := (bw.cell (by exact hc1)).trans a6
          have z7 : W.cell? { block := (ad.add (k * 28)).block, off := (ad.add (k * 28)).off + 7 } = some (.int .u8 (xz : Int)) := (bw.cell (by exact hc1)).trans a7
          refine .inl ⟨.agg #[.int .u8 (xa : Int), .int .u32 (xb : Int), .int .u8 (xk : Int), .string ⟨xs.toArray⟩, .string ⟨xt.toArray⟩, .string ⟨xu.toArray⟩, .int .u8 (xz : Int)], W, ?_, rfl, Below.refl _ _⟩
          go_simp
        refine And.intro ?_ ?_
        · intro d hd ρ W hcs bw hn hg
          cases hd
          have e0 : ρ (.tmp 0) = .slice (some ad) ln cl := hn 0 (by decide)
          clear hn hg
          refine .inl ⟨trivial, ?_⟩
          refine .inl ⟨_, W, rfl, e0, Below.refl _ _⟩
        refine And.intro ?_ ?_
        · intro d hd ρ W hcs bw hn hg
          cases hd
          have e3 : ρ (.tmp 3) = .int .i64 (k : Int) := hn 3 (by decide)
          clear hn hg
          refine .inl ⟨trivial, ?_⟩
          refine .inl ⟨_, W, rfl, e3, Below.refl _ _⟩
        refine And.intro ?_ ?_
        · intro d hd ρ W hcs bw hn hg
          cases hd
          have e18 : ρ (.tmp 18) = .slice (some ad) ln cl := hn 18 (by decide)
          have e19 : ρ (.tmp 19) = .int .i64 (k : Int) := hn 19 (by decide)
          clear hn hg
          refine .inl ⟨trivial, ?_⟩
          refine .inl ⟨.pointer (some (ad.add (k * 28))), W, ?_, rfl, Below.refl _ _⟩
          go_simp
        refine And.intro ?_ ?_
        · intro d hd ρ W hcs bw hn hg
          cases hd
          have e20 : ρ (.tmp 20) = .pointer (some (ad.add (k * 28))) := hn 20 (by decide)
          clear hn hg
          refine .inl ⟨trivial, ?_⟩
          refine .inl ⟨.pointer (some { block := (ad.add (k * 28)).block, off := (ad.add (k * 28)).off + 8 }), W, ?_, rfl, Below.refl _ _⟩
          go_simp
        refine And.intro ?_ ?_
        · intro d hd ρ W hcs bw hn hg
          cases hd
          have e21 : ρ (.tmp 21) = .pointer (some { block := (ad.add (k * 28)).block, off := (ad.add (k * 28)).off + 8 }) := hn 21 (by decide)
          clear hn hg
          refine .inl ⟨trivial, ?_⟩
          refine .inl ⟨.pointer (some { block := (ad.add (k * 28)).block, off := (ad.add (k * 28)).off + 10 }), W, ?_, rfl, Below.refl _ _⟩
          go_simp
        refine And.intro ?_ ?_
        · intro d hd ρ W hcs bw hn hg
          cases hd
          have e22 : ρ (.tmp 22) = .pointer (some { block := (ad.add (k * 28)).block, off := (ad.add (k * 28)).off + 10 }) := hn 22 (by decide)
          clear hn hg
          refine .inl ⟨trivial, ?_⟩
          refine .inl ⟨.pointer (some { block := (ad.add (k * 28)).block, off := (ad.add (k * 28)).off + 19 }), W, ?_, rfl, Below.refl _ _⟩
          go_simp
        refine And.intro ?_ ?_
        · intro d hd ρ W hcs bw hn hg
          cases hd
          have e23 : ρ (.tmp 23) = .pointer (some { block := (ad.add (k * 28)).block, off := (ad.add (k * 28)).off + 19 }) := hn 23 (by decide)
          clear hn hg
          refine .inl ⟨trivial, ?_⟩
          have z19 : W.cell? { block := (ad.add (k * 28)).block, off := (ad.add (k * 28)).off + 19 } = some (.int .u8 (ya : Int)) := (bw.cell (by exact hc1)).trans a19
          have z20 : W.cell? { block := (ad.add (k * 28)).block, off := (ad.add (k * 28)).off + 20 } = some (.int .u32 (yb : Int)) := (bw.cell (by exact hc1)).trans a20
          have z21 : W.cell? { block := (ad.add (k * 28)).block, off := (ad.add (k * 28)).off + 21 } = some (.int .u8 (yk : Int)) := (bw.cell (by exact hc1)).trans a21
          have z22 : W.cell? { block := (ad.add (k * 28)).block, off := (ad.add (k * 28)).off + 22 } = some (.string ⟨ys.toArray⟩) := (bw.cell (by exact hc1)).trans a22
          have z23 : W.cell? { block := (ad.add (k * 28)).block, off := (ad.add (k * 28)).off + 23 } = some (.string ⟨yt.toArray⟩) := (bw.cell (by exact hc1)).trans a23
          have z24 : W.cell? { block := (ad.add (k * 28)).block, off := (ad.add (k * 28)).off + 24 } = some (.string ⟨yu.toArray⟩) := (bw.cell (by exact hc1)).trans a24
          have z25 : W.cell? { block := (ad.add (k * 28)).block, off := (ad.add (k * 28)).off + 25 } = some (.int .u8 (yz : Int)) := (bw.cell (by exact hc1)).trans a25
          refine .inl ⟨.agg #[.int .u8 (ya : Int), .int .u32 (yb : Int), .int .u8 (yk : Int), .string ⟨ys.toArray⟩, .string ⟨yt.toArray⟩, .string ⟨yu.toArray⟩, .int .u8 (yz : Int)], W, ?_, rfl, Below.refl _ _⟩
          go_simp
        refine And.intro ?_ ?_
        · intro d hd ρ W hcs bw hn hg
          cases hd
          have e17 : ρ (.tmp 17) = .agg #[.int .u8 (xa : Int), .int .u32 (xb : Int), .int .u8 (xk : Int), .string ⟨xs.toArray⟩, .string ⟨xt.toArray⟩, .string ⟨xu.toArray⟩, .int .u8 (xz : Int)] := hn 17 (by decide)
          have e24 : ρ (.tmp 24) = .agg #[.int .u8 (ya : Int), .int .u32 (yb : Int), .int .u8 (yk : Int), .string ⟨ys.toArray⟩, .string ⟨yt.toArray⟩, .string ⟨yu.toArray⟩, .int .u8 (yz : Int)] := hn 24 (by decide)
          clear hn hg
          refine .inl ⟨trivial, ?_⟩
          have hr : (Instr.buildSlice 30 2 #[(0, .agg #[.int .u8 (xa : Int), .int .u32 (xb : Int), .int .u8 (xk : Int), .string ⟨xs.toArray⟩, .string ⟨xt.toArray⟩, .string ⟨xu.toArray⟩, .int .u8 (xz : Int)]), (1, .agg #[.int .u8 (ya : Int), .int .u32 (yb : Int), .int .u8 (yk : Int), .string ⟨ys.toArray⟩, .string ⟨yt.toArray⟩, .string ⟨yu.toArray⟩, .int .u8 (yz : Int)])]).run Try.prog W = .ok (.slice (some ⟨W.heap.size, 0, none⟩) 2 2) (W.alloc (.cells #[.int .u8 (xa : Int), .int .u32 (xb : Int), .int .u8 (xk : Int), .string ⟨xs.toArray⟩, .string ⟨xt.toArray⟩, .string ⟨xu.toArray⟩, .int .u8 (xz : Int), .int .u8 (ya : Int), .int .u32 (yb : Int), .int .u8 (yk : Int), .string ⟨ys.toArray⟩, .string ⟨yt.toArray⟩, .string ⟨yu.toArray⟩, .int .u8 (yz : Int)] 36)) := by go_simp
          refine .inl ⟨.slice (some ⟨W.heap.size, 0, none⟩) 2 2, W.alloc (.cells #[.int .u8 (xa : Int), .int .u32 (xb : Int), .int .u8 (xk : Int), .string ⟨xs.toArray⟩, .string ⟨xt.toArray⟩, .string ⟨xu.toArray⟩, .int .u8 (xz : Int), .int .u8 (ya : Int), .int .u32 (yb : Int), .int .u8 (yk : Int), .string ⟨ys.toArray⟩, .string ⟨yt.toArray⟩, .string ⟨yu.toArray⟩, .int .u8 (yz : Int)] 36), ?_, ⟨W.heap.size, rfl, two_rows (Blk.new W _ _)⟩, (Below.refl _ W).alloc (Nat.le_refl _) _⟩
          go_simp
        refine And.intro ?_ ?_
        · intro d hd ρ W hcs bw hn hg
          cases hd
          have e25 : (TwoAt ⟨xa, xb, xk, xs, xt, xu, xz⟩ ⟨ya, yb, yk, ys, yt, yu, yz⟩) (ρ (.tmp 25)) W := hn 25 (by decide)
          clear hn hg
          refine .inl ⟨trivial, ?_⟩
          obtain ⟨g5, e5, r5⟩ := e25
          have ef : ρ (.func 28) = .func (.func 28) #[] #[] := hcs.2 _
          refine .inr ⟨28, #[.slice (some ⟨g5, 0, none⟩) 2 2], ?_, (HGR.out g5 W r5).mono ?_⟩
          · go_simp
          · rintro e w2 ⟨rfl, B2⟩; exact ⟨_, rfl, rfl, B2⟩
        refine And.intro ?_ ?_
        · intro d hd ρ W hcs bw hn hg
          cases hd
          have e26 : ρ (.tmp 26) = .bool b27 := hn 26 (by decide)
          clear hn hg
          refine .inl ⟨trivial, ?_⟩
          refine .inl ⟨_, W, rfl, e26, Below.refl _ _⟩
        refine And.intro ?_ ?_
        · intro d hd ρ W hcs bw hn hg
          cases hd
          have eg : ρ (.tmp 27) = .bool b27 := hg _ _ _ _ rfl rfl rfl
          have e0 : ρ (.tmp 0) = .slice (some ad) ln cl := hn 0 (by decide)
          clear hn hg
          cases b27
          · refine .inl ⟨⟨_, _, rfl, rfl, eg⟩, ?_⟩
            refine .inl ⟨_, W, rfl, e0, Below.refl _ _⟩
          · exact .inr ⟨⟨_, _, _, rfl, rfl, eg, nofun⟩, rfl⟩
        refine And.intro ?_ ?_
        · intro d hd ρ W hcs bw hn hg
          cases hd
          have eg : ρ (.tmp 27) = .bool b27 := hg _ _ _ _ rfl rfl rfl
          have e3 : ρ (.tmp 3) = .int .i64 (k : Int) := hn 3 (by decide)
          clear hn hg
          cases b27
          · refine .inl ⟨⟨_, _, rfl, rfl, eg⟩, ?_⟩
            refine .inl ⟨_, W, rfl, e3, Below.refl _ _⟩
          · exact .inr ⟨⟨_, _, _, rfl, rfl, eg, nofun⟩, rfl⟩
        refine And.intro ?_ ?_
        · intro d hd ρ W hcs bw hn hg
          cases hd
          have eg : ρ (.tmp 27) = .bool b27 := hg _ _ _ _ rfl rfl rfl
          have e28 : ρ (.tmp 28) = (bif b27 then undef else .slice (some ad) ln cl) := hn 28 (by decide)
          have e29 : ρ (.tmp 29) = (bif b27 then undef else .int .i64 (k : Int)) := hn 29 (by decide)
          clear hn hg
          cases b27
          · dsimp only [cond] at e28 e29
            refine .inl ⟨⟨_, _, rfl, rfl, eg⟩, ?_⟩
            refine .inl ⟨.pointer (some (ad.add (k * 28))), W, ?_, rfl, Below.refl _ _⟩
            go_simp
          · dsimp only [cond] at e28 e29
            exact .inr ⟨⟨_, _, _, rfl, rfl, eg, nofun⟩, rfl⟩
        refine And.intro ?_ ?_
        · intro d hd ρ W hcs bw hn hg
          cases hd
          have eg : ρ (.tmp 27) = .bool b27 := hg _ _ _ _ rfl rfl rfl
          have e30 : ρ (.tmp 30) = (bif b27 then undef else .pointer (some (ad.add (k * 28)))) := hn 30 (by decide)
          clear hn hg
          cases b27
          · dsimp only [cond] at e30
            refine .inl ⟨⟨_, _, rfl, rfl, eg⟩, ?_⟩
            refine .inl ⟨.pointer (some { block := (ad.add (k * 28)).block, off := (ad.add (k * 28)).off + 8 }), W, ?_, rfl, Below.refl _ _⟩
            go_simp
          · dsimp only [cond] at e30
            exact .inr ⟨⟨_, _, _, rfl, rfl, eg, nofun⟩, rfl⟩
        refine And.intro ?_ ?_
        · intro d hd ρ W hcs bw hn hg
          cases hd
          have eg : ρ (.tmp 27) = .bool b27 := hg _ _ _ _ rfl rfl rfl
          have e31 : ρ (.tmp 31) = (bif b27 then undef else .pointer (some { block := (ad.add (k * 28)).block, off := (ad.add (k * 28)).off + 8 })) := hn 31 (by decide)
          clear hn hg
          cases b27
          · dsimp only [cond] at e31
            refine .inl ⟨⟨_, _, rfl, rfl, eg⟩, ?_⟩
            refine .inl ⟨.pointer (some { block := (ad.add (k * 28)).block, off := (ad.add (k * 28)).off + 10 }), W, ?_, rfl, Below.refl _ _⟩
            go_simp
          · dsimp only [cond] at e31
            exact .inr ⟨⟨_, _, _, rfl, rfl, eg, nofun⟩, rfl⟩
        refine And.intro ?_ ?_
        · intro d hd ρ W hcs bw hn hg
          cases hd
          have eg : ρ (.tmp 27) = .bool b27 := hg _ _ _ _ rfl rfl rfl
          have e32 : ρ (.tmp 32) = (bif b27 then undef else .pointer (some { block := (ad.add (k * 28)).block, off := (ad.add (k * 28)).off + 10 })) := hn 32 (by decide)
          clear hn hg
          cases b27
          · dsimp only [cond] at e32
            refine .inl ⟨⟨_, _, rfl, rfl, eg⟩, ?_⟩
            refine .inl ⟨.pointer (some { block := (ad.add (k * 28)).block, off := (ad.add (k * 28)).off + 26 }), W, ?_, rfl, Below.refl _ _⟩
            go_simp
          · dsimp only [cond] at e32
            exact .inr ⟨⟨_, _, _, rfl, rfl, eg, nofun⟩, rfl⟩
        refine And.intro ?_ ?_
        · intro d hd ρ W hcs bw hn hg
          cases hd
          have eg : ρ (.tmp 27) = .bool b27 := hg _ _ _ _ rfl rfl rfl
          have e33 : ρ (.tmp 33) = (bif b27 then undef else .pointer (some { block := (ad.add (k * 28)).block, off := (ad.add (k * 28)).off + 26 })) := hn 33 (by decide)
          clear hn hg
          cases b27
          · dsimp only [cond] at e33
            refine .inl ⟨⟨_, _, rfl, rfl, eg⟩, ?_⟩
            refine .inl ⟨.pointer (some { block := (ad.add (k * 28)).block, off := (ad.add (k * 28)).off + 27 }), W, ?_, rfl, Below.refl _ _⟩
            go_simp
          · dsimp only [cond] at e33
            exact .inr ⟨⟨_, _, _, rfl, rfl, eg, nofun⟩, rfl⟩
        refine And.intro ?_ ?_
        · intro d hd ρ W hcs bw hn hg
          cases hd
          have eg : ρ (.tmp 27) = .bool b27 := hg _ _ _ _ rfl rfl rfl
          have e34 : ρ (.tmp 34) = (bif b27 then undef else .pointer (some { block := (ad.add (k * 28)).block, off := (ad.add (k * 28)).off + 27 })) := hn 34 (by decide)
          clear hn hg
          cases b27
          · dsimp only [cond] at e34
            refine .inl ⟨⟨_, _, rfl, rfl, eg⟩, ?_⟩
            have z27 : W.cell? { block := (ad.add (k * 28)).block, off := (ad.add (k * 28)).off + 27 } = some (.string ⟨lte.toArray⟩) := (bw.cell (by exact hc1)).trans a27
            have zs := size_str lte
            refine .inl ⟨.string ⟨lte.toArray⟩, W, ?_, rfl, Below.refl _ _⟩
            go_simp
          · dsimp only [cond] at e34
            exact .inr ⟨⟨_, _, _, rfl, rfl, eg, nofun⟩, rfl⟩
        refine And.intro ?_ ?_
        · intro d hd ρ W hcs bw hn hg
          cases hd
          have eg : ρ (.tmp 27) = .bool b27 := hg _ _ _ _ rfl rfl rfl
          have e35 : ρ (.tmp 35) = (bif b27 then undef else .string ⟨lte.toArray⟩) := hn 35 (by decide)
          clear hn hg
          cases b27
          · dsimp only [cond] at e35
            refine .inl ⟨⟨_, _, rfl, rfl, eg⟩, ?_⟩
            have zs := size_str lte
            refine .inl ⟨.int .i64 (lte.length : Int), W, ?_, rfl, Below.refl _ _⟩
            go_simp
          · dsimp only [cond] at e35
            exact .inr ⟨⟨_, _, _, rfl, rfl, eg, nofun⟩, rfl⟩
        refine And.intro ?_ ?_
        · intro d hd ρ W hcs bw hn hg
          cases hd
          have eg : ρ (.tmp 27) = .bool b27 := hg _ _ _ _ rfl rfl rfl
          have e36 : ρ (.tmp 36) = (bif b27 then undef else .int .i64 (lte.length : Int)) := hn 36 (by decide)
          clear hn hg
          cases b27
          · dsimp only [cond] at e36
            refine .inl ⟨⟨_, _, rfl, rfl, eg⟩, ?_⟩
            have zb := hb37.out
            have hc1 := hcs.1
            refine .inl ⟨.bool b37, W, ?_, rfl, Below.refl _ _⟩
            go_simp
          · dsimp only [cond] at e36
            exact .inr ⟨⟨_, _, _, rfl, rfl, eg, nofun⟩, rfl⟩
        refine And.intro ?_ ?_
        · intro d hd ρ W hcs bw hn hg
          cases hd
          have e27 : ρ (.tmp 27) = .bool b27 := hn 27 (by decide)
          have e37 : ρ (.tmp 37) = (bif b27 then undef else .bool b37) := hn 37 (by decide)
          clear hn hg
          cases b27
          · dsimp only [cond] at e37
            refine .inl ⟨trivial, ?_⟩
            have hc1 := hcs.1
            have hcc := Hc38.out
            simp only [Bool.or_true, Bool.or_false, Bool.true_or, Bool.false_or, Bool.and_true, Bool.and_false, Bool.true_and, Bool.false_and, Bool.not_true, Bool.not_false] at hcc
            rw [hcc]
            refine .inl ⟨.bool _, W, ?_, rfl, Below.refl _ _⟩
            clear hcc
            go_simp
          · dsimp only [cond] at e37
            refine .inl ⟨trivial, ?_⟩
            have hc1 := hcs.1
            have hcc := Hc38.out
            simp only [Bool.or_true, Bool.or_false, Bool.true_or, Bool.false_or, Bool.and_true, Bool.and_false, Bool.true_and, Bool.false_and, Bool.not_true, Bool.not_false] at hcc
            rw [hcc]
            refine .inl ⟨.bool _, W, ?_, rfl, Below.refl _ _⟩
            clear hcc
            go_simp
        refine And.intro ?_ ?_
        · intro d hd ρ W hcs bw hn hg
          cases hd
          have e38 : ρ (.tmp 38) = .bool c38 := hn 38 (by decide)
          clear hn hg
          refine .inl ⟨trivial, ?_⟩
          refine .inl ⟨_, W, rfl, e38, Below.refl _ _⟩
        refine And.intro ?_ ?_
        · intro d hd ρ W hcs bw hn hg
          cases hd
          have eg : ρ (.tmp 39) = .bool c38 := hg _ _ _ _ rfl rfl rfl
          have e0 : ρ (.tmp 0) = .slice (some ad) ln cl := hn 0 (by decide)
          clear hn hg
          cases c38
          · refine .inl ⟨⟨_, _, rfl, rfl, eg⟩, ?_⟩
            refine .inl ⟨_, W, rfl, e0, Below.refl _ _⟩
          · exact .inr ⟨⟨_, _, _, rfl, rfl, eg, nofun⟩, rfl⟩
        refine And.intro ?_ ?_
        · intro d hd ρ W hcs bw hn hg
          cases hd
          have eg : ρ (.tmp 39) = .bool c38 := hg _ _ _ _ rfl rfl rfl
          have e3 : ρ (.tmp 3) = .int .i64 (k : Int) := hn 3 (by decide)
          clear hn hg
          cases c38
          · refine .inl ⟨⟨_, _, rfl, rfl, eg⟩, ?_⟩
            refine .inl ⟨_, W, rfl, e3, Below.refl _ _⟩
          · exact .inr ⟨⟨_, _, _, rfl, rfl, eg, nofun⟩, rfl⟩
        refine And.intro ?_ ?_
        · intro d hd ρ W hcs bw hn hg
          cases hd
          have eg : ρ (.tmp 39) = .bool c38 := hg _ _ _ _ rfl rfl rfl
          have e40 : ρ (.tmp 40) = (bif c38 then undef else .slice (some ad) ln cl) := hn 40 (by decide)
          have e41 : ρ (.tmp 41) = (bif c38 then undef else .int .i64 (k : Int)) := hn 41 (by decide)
          clear hn hg
          cases c38
          · dsimp only [cond] at e40 e41
            refine .inl ⟨⟨_, _, rfl, rfl, eg⟩, ?_⟩
            refine .inl ⟨.pointer (some (ad.add (k * 28))), W, ?_, rfl, Below.refl _ _⟩
            go_simp
          · dsimp only [cond] at e40 e41
            exact .inr ⟨⟨_, _, _, rfl, rfl, eg, nofun⟩, rfl⟩
        refine And.intro ?_ ?_
        · intro d hd ρ W hcs bw hn hg
          cases hd
          have eg : ρ (.tmp 39) = .bool c38 := hg _ _ _ _ rfl rfl rfl
          have e42 : ρ (.tmp 42) = (bif c38 then undef else .pointer (some (ad.add (k * 28)))) := hn 42 (by decide)
          clear hn hg
          cases c38
          · dsimp only [cond] at e42
            refine .inl ⟨⟨_, _, rfl, rfl, eg⟩, ?_⟩
            refine .inl ⟨.pointer (some { block := (ad.add (k * 28)).block, off := (ad.add (k * 28)).off + 8 }), W, ?_, rfl, Below.refl _ _⟩
            go_simp
          · dsimp only [cond] at e42
            exact .inr ⟨⟨_, _, _, rfl, rfl, eg, nofun⟩, rfl⟩
        refine And.intro ?_ ?_
        · intro d hd ρ W hcs bw hn hg
          cases hd
          have eg : ρ (.tmp 39) = .bool c38 := hg _ _ _ _ rfl rfl rfl
          have e43 : ρ (.tmp 43) = (bif c38 then undef else .pointer (some { block := (ad.add (k * 28)).block, off := (ad.add (k * 28)).off + 8 })) := hn 43 (by decide)
          clear hn hg
          cases c38
          · dsimp only [cond] at e43
            refine .inl ⟨⟨_, _, rfl, rfl, eg⟩, ?_⟩
            refine .inl ⟨.pointer (some { block := (ad.add (k * 28)).block, off := (ad.add (k * 28)).off + 10 }), W, ?_, rfl, Below.refl _ _⟩
            go_simp
          · dsimp only [cond] at e43
            exact .inr ⟨⟨_, _, _, rfl, rfl, eg, nofun⟩, rfl⟩
        refine And.intro ?_ ?_
        · intro d hd ρ W hcs bw hn hg
          cases hd
          have eg : ρ (.tmp 39) = .bool c38 := hg _ _ _ _ rfl rfl rfl
          have e44 : ρ (.tmp 44) = (bif c38 then undef else .pointer (some { block := (ad.add (k * 28)).block, off := (ad.add (k * 28)).off + 10 })) := hn 44 (by decide)
          clear hn hg
          cases c38
          · dsimp only [cond] at e44
            refine .inl ⟨⟨_, _, rfl, rfl, eg⟩, ?_⟩
            refine .inl ⟨.pointer (some { block := (ad.add (k * 28)).block, off := (ad.add (k * 28)).off + 16 }), W, ?_, rfl, Below.refl _ _⟩
            go_simp
          · dsimp only [cond] at e44
            exact .inr ⟨⟨_, _, _, rfl, rfl, eg, nofun⟩, rfl⟩
        refine And.intro ?_ ?_
        · intro d hd ρ W hcs bw hn hg
          cases hd
          have eg : ρ (.tmp 39) = .bool c38 := hg _ _ _ _ rfl rfl rfl
          have e45 : ρ (.tmp 45) = (bif c38 then undef else .pointer (some { block := (ad.add (k * 28)).block, off := (ad.add (k * 28)).off + 16 })) := hn 45 (by decide)
          clear hn hg
          cases c38
          · dsimp only [cond] at e45
            refine .inl ⟨⟨_, _, rfl, rfl, eg⟩, ?_⟩
            have z16 : W.cell? { block := (ad.add (k * 28)).block, off := (ad.add (k * 28)).off + 16 } = some (.string ⟨lv.toArray⟩) := (bw.cell (by exact hc1)).trans a16
            refine .inl ⟨.string ⟨lv.toArray⟩, W, ?_, rfl, Below.refl _ _⟩
            go_simp
          · dsimp only [cond] at e45
            exact .inr ⟨⟨_, _, _, rfl, rfl, eg, nofun⟩, rfl⟩
        refine And.intro ?_ ?_
        · intro d hd ρ W hcs bw hn hg
          cases hd
          have eg : ρ (.tmp 39) = .bool c38 := hg _ _ _ _ rfl rfl rfl
          have e46 : ρ (.tmp 46) = (bif c38 then undef else .string ⟨lv.toArray⟩) := hn 46 (by decide)
          clear hn hg
          cases c38
          · dsimp only [cond] at e46
            refine .inl ⟨⟨_, _, rfl, rfl, eg⟩, ?_⟩
            have zs := size_str lv
            refine .inl ⟨.int .i64 (lv.length : Int), W, ?_, rfl, Below.refl _ _⟩
            go_simp
          · dsimp only [cond] at e46
            exact .inr ⟨⟨_, _, _, rfl, rfl, eg, nofun⟩, rfl⟩
        refine And.intro ?_ ?_
        · intro d hd ρ W hcs bw hn hg
          cases hd
          have eg : ρ (.tmp 39) = .bool c38 := hg _ _ _ _ rfl rfl rfl
          have e47 : ρ (.tmp 47) = (bif c38 then undef else .int .i64 (lv.length : Int)) := hn 47 (by decide)
          clear hn hg
          cases c38
          · dsimp only [cond] at e47
            refine .inl ⟨⟨_, _, rfl, rfl, eg⟩, ?_⟩
            have zb := hb48.out
            have hc1 := hcs.1
            refine .inl ⟨.bool b48, W, ?_, rfl, Below.refl _ _⟩
            go_simp
          · dsimp only [cond] at e47
            exact .inr ⟨⟨_, _, _, rfl, rfl, eg, nofun⟩, rfl⟩
        refine And.intro ?_ ?_
        · intro d hd ρ W hcs bw hn hg
          cases hd
          have e39 : ρ (.tmp 39) = .bool c38 := hn 39 (by decide)
          have e48 : ρ (.tmp 48) = (bif c38 then undef else .bool b48) := hn 48 (by decide)
          clear hn hg
          cases c38
          · dsimp only [cond] at e48
            refine .inl ⟨trivial, ?_⟩
            have hc1 := hcs.1
            have hcc := Hc49.out
            simp only [Bool.or_true, Bool.or_false, Bool.true_or, Bool.false_or, Bool.and_true, Bool.and_false, Bool.true_and, Bool.false_and, Bool.not_true, Bool.not_false] at hcc
            rw [hcc]
            refine .inl ⟨.bool _, W, ?_, rfl, Below.refl _ _⟩
            clear hcc
            go_simp
          · dsimp only [cond] at e48
            refine .inl ⟨trivial, ?_⟩
            have hc1 := hcs.1
            have hcc := Hc49.out
            simp only [Bool.or_true, Bool.or_false, Bool.true_or, Bool.false_or, Bool.and_true, Bool.and_false, Bool.true_and, Bool.false_and, Bool.not_true, Bool.not_false] at hcc
            rw [hcc]
            refine .inl ⟨.bool _, W, ?_, rfl, Below.refl _ _⟩
            clear hcc
            go_simp
        refine And.intro ?_ ?_
        · intro d hd ρ W hcs bw hn hg
          cases hd
          have e49 : ρ (.tmp 49) = .bool c49 := hn 49 (by decide)
          clear hn hg
          refine .inl ⟨trivial, ?_⟩
          refine .inl ⟨_, W, rfl, e49, Below.refl _ _⟩
        refine And.intro ?_ ?_
        · intro d hd ρ W hcs bw hn hg
          cases hd
          have eg : ρ (.tmp 50) = .bool c49 := hg _ _ _ _ rfl rfl rfl
          have e0 : ρ (.tmp 0) = .slice (some ad) ln cl := hn 0 (by decide)
          clear hn hg
          cases c49
          · refine .inl ⟨⟨_, _, rfl, rfl, eg⟩, ?_⟩
            refine .inl ⟨_, W, rfl, e0, Below.refl _ _⟩
          · exact .inr ⟨⟨_, _, _, rfl, rfl, eg, nofun⟩, rfl⟩
        refine And.intro ?_ ?_
        · intro d hd ρ W hcs bw hn hg
          cases hd
          have eg : ρ (.tmp 50) = .bool c49 := hg _ _ _ _ rfl rfl rfl
          have e3 : ρ (.tmp 3) = .int .i64 (k : Int) := hn 3 (by decide)
          clear hn hg
          cases c49
          · refine .inl ⟨⟨_, _, rfl, rfl, eg⟩, ?_⟩
            refine .inl ⟨_, W, rfl, e3, Below.refl _ _⟩
          · exact .inr ⟨⟨_, _, _, rfl, rfl, eg, nofun⟩, rfl⟩
        refine And.intro ?_ ?_
        · intro d hd ρ W hcs bw hn hg
          cases hd
          have eg : ρ (.tmp 50) = .bool c49 := hg _ _ _ _ rfl rfl rfl
          have e51 : ρ (.tmp 51) = (bif c49 then undef else .slice (some ad) ln cl) := hn 51 (by decide)
          have e52 : ρ (.tmp 52) = (bif c49 then undef else .int .i64 (k : Int)) := hn 52 (by decide)
          clear hn hg
          cases c49
          · dsimp only [cond] at e51 e52
            refine .inl ⟨⟨_, _, rfl, rfl, eg⟩, ?_⟩
            refine .inl ⟨.pointer (some (ad.add (k * 28))), W, ?_, rfl, Below.refl _ _⟩
            go_simp
          · dsimp only [cond] at e51 e52
            exact .inr ⟨⟨_, _, _, rfl, rfl, eg, nofun⟩, rfl⟩
        refine And.intro ?_ ?_
        · intro d hd ρ W hcs bw hn hg
          cases hd
          have eg : ρ (.tmp 50) = .bool c49 := hg _ _ _ _ rfl rfl rfl
          have e53 : ρ (.tmp 53) = (bif c49 then undef else .pointer (some (ad.add (k * 28)))) := hn 53 (by decide)
          clear hn hg
          cases c49
          · dsimp only [cond] at e53
            refine .inl ⟨⟨_, _, rfl, rfl, eg⟩, ?_⟩
            refine .inl ⟨.pointer (some { block := (ad.add (k * 28)).block, off := (ad.add (k * 28)).off + 8 }), W, ?_, rfl, Below.refl _ _⟩
            go_simp
          · dsimp only [cond] at e53
            exact .inr ⟨⟨_, _, _, rfl, rfl, eg, nofun⟩, rfl⟩
        refine And.intro ?_ ?_
        · intro d hd ρ W hcs bw hn hg
          cases hd
          have eg : ρ (.tmp 50) = .bool c49 := hg _ _ _ _ rfl rfl rfl
          have e54 : ρ (.tmp 54) = (bif c49 then undef else .pointer (some { block := (ad.add (k * 28)).block, off := (ad.add (k * 28)).off + 8 })) := hn 54 (by decide)
          clear hn hg
          cases c49
          · dsimp only [cond] at e54
            refine .inl ⟨⟨_, _, rfl, rfl, eg⟩, ?_⟩
            refine .inl ⟨.pointer (some { block := (ad.add (k * 28)).block, off := (ad.add (k * 28)).off + 10 }), W, ?_, rfl, Below.refl _ _⟩
            go_simp
          · dsimp only [cond] at e54
            exact .inr ⟨⟨_, _, _, rfl, rfl, eg, nofun⟩, rfl⟩
        refine And.intro ?_ ?_
        · intro d hd ρ W hcs bw hn hg
          cases hd
          have eg : ρ (.tmp 50) = .bool c49 := hg _ _ _ _ rfl rfl rfl
          have e55 : ρ (.tmp 55) = (bif c49 then undef else .pointer (some { block := (ad.add (k * 28)).block, off := (ad.add (k * 28)).off + 10 })) := hn 55 (by decide)
          clear hn hg
          cases c49
          · dsimp only [cond] at e55
            refine .inl ⟨⟨_, _, rfl, rfl, eg⟩, ?_⟩
            refine .inl ⟨.pointer (some { block := (ad.add (k * 28)).block, off := (ad.add (k * 28)).off + 17 }), W, ?_, rfl, Below.refl _ _⟩
            go_simp
          · dsimp only [cond] at e55
            exact .inr ⟨⟨_, _, _, rfl, rfl, eg, nofun⟩, rfl⟩
        refine And.intro ?_ ?_
        · intro d hd ρ W hcs bw hn hg
          cases hd
          have eg : ρ (.tmp 50) = .bool c49 := hg _ _ _ _ rfl rfl rfl
          have e56 : ρ (.tmp 56) = (bif c49 then undef else .pointer (some { block := (ad.add (k * 28)).block, off := (ad.add (k * 28)).off + 17 })) := hn 56 (by decide)
          clear hn hg
          cases c49
          · dsimp only [cond] at e56
            refine .inl ⟨⟨_, _, rfl, rfl, eg⟩, ?_⟩
            have z17 : W.cell? { block := (ad.add (k * 28)).block, off := (ad.add (k * 28)).off + 17 } = some (.slice vA vn vc) := (bw.cell (by exact hc1)).trans a17
            refine .inl ⟨.slice vA vn vc, W, ?_, rfl, Below.refl _ _⟩
            go_simp
          · dsimp only [cond] at e56
            exact .inr ⟨⟨_, _, _, rfl, rfl, eg, nofun⟩, rfl⟩
        refine And.intro ?_ ?_
        · intro d hd ρ W hcs bw hn hg
          cases hd
          have eg : ρ (.tmp 50) = .bool c49 := hg _ _ _ _ rfl rfl rfl
          have e57 : ρ (.tmp 57) = (bif c49 then undef else .slice vA vn vc) := hn 57 (by decide)
          clear hn hg
          cases c49
          · dsimp only [cond] at e57
            refine .inl ⟨⟨_, _, rfl, rfl, eg⟩, ?_⟩
            refine .inl ⟨.int .i64 (vn : Int), W, ?_, rfl, Below.refl _ _⟩
            go_simp
          · dsimp only [cond] at e57
            exact .inr ⟨⟨_, _, _, rfl, rfl, eg, nofun⟩, rfl⟩
        refine And.intro ?_ ?_
        · intro d hd ρ W hcs bw hn hg
          cases hd
          have eg : ρ (.tmp 50) = .bool c49 := hg _ _ _ _ rfl rfl rfl
          have e58 : ρ (.tmp 58) = (bif c49 then undef else .int .i64 (vn : Int)) := hn 58 (by decide)
          clear hn hg
          cases c49
          · dsimp only [cond] at e58
            refine .inl ⟨⟨_, _, rfl, rfl, eg⟩, ?_⟩
            have zb := hb59.out
            have hc1 := hcs.1
            refine .inl ⟨.bool b59, W, ?_, rfl, Below.refl _ _⟩
            go_simp
          · dsimp only [cond] at e58
            exact .inr ⟨⟨_, _, _, rfl, rfl, eg, nofun⟩, rfl⟩
        refine And.intro ?_ ?_
        · intro d hd ρ W hcs bw hn hg
          cases hd
          have e50 : ρ (.tmp 50) = .bool c49 := hn 50 (by decide)
          have e59 : ρ (.tmp 59) = (bif c49 then undef else .bool b59) := hn 59 (by decide)
          clear hn hg
          cases c49
          · dsimp only [cond] at e59
            refine .inl ⟨trivial, ?_⟩
            have hc1 := hcs.1
            have hcc := Hc60.out
            simp only [Bool.or_true, Bool.or_false, Bool.true_or, Bool.false_or, Bool.and_true, Bool.and_false, Bool.true_and, Bool.false_and, Bool.not_true, Bool.not_false] at hcc
            rw [hcc]
            refine .inl ⟨.bool _, W, ?_, rfl, Below.refl _ _⟩
            clear hcc
            go_simp
          · dsimp only [cond] at e59
            refine .inl ⟨trivial, ?_⟩
            have hc1 := hcs.1
            have hcc := Hc60.out
            simp only [Bool.or_true, Bool.or_false, Bool.true_or, Bool.false_or, Bool.and_true, Bool.and_false, Bool.true_and, Bool.false_and, Bool.not_true, Bool.not_false] at hcc
            rw [hcc]
            refine .inl ⟨.bool _, W, ?_, rfl, Below.refl _ _⟩
            clear hcc
            go_simp
        refine And.intro ?_ ?_
        · intro d hd ρ W hcs bw hn hg
          cases hd
          have e60 : ρ (.tmp 60) = .bool c60 := hn 60 (by decide)
          clear hn hg
          refine .inl ⟨trivial, ?_⟩
          refine .inl ⟨_, W, rfl, e60, Below.refl _ _⟩
        refine And.intro ?_ ?_
        · intro d hd ρ W hcs bw hn hg
          cases hd
          have eg : ρ (.tmp 61) = .bool c60 := hg _ _ _ _ rfl rfl rfl
          have e0 : ρ (.tmp 0) = .slice (some ad) ln cl := hn 0 (by decide)
          clear hn hg
          cases c60
          · refine .inl ⟨⟨_, _, rfl, rfl, eg⟩, ?_⟩
            refine .inl ⟨_, W, rfl, e0, Below.refl _ _⟩
          · exact .inr ⟨⟨_, _, _, rfl, rfl, eg, nofun⟩, rfl⟩
        refine And.intro ?_ ?_
        · intro d hd ρ W hcs bw hn hg
          cases hd
          have eg : ρ (.tmp 61) = .bool c60 := hg _ _ _ _ rfl rfl rfl
          have e3 : ρ (.tmp 3) = .int .i64 (k : Int) := hn 3 (by decide)
          clear hn hg
          cases c60
          · refine .inl ⟨⟨_, _, rfl, rfl, eg⟩, ?_⟩
            refine .inl ⟨_, W, rfl, e3, Below.refl _ _⟩
          · exact .inr ⟨⟨_, _, _, rfl, rfl, eg, nofun⟩, rfl⟩
        refine And.intro ?_ ?_
        · intro d hd ρ W hcs bw hn hg
          cases hd
          have eg : ρ (.tmp 61) = .bool c60 := hg _ _ _ _ rfl rfl rfl
          have e62 : ρ (.tmp 62) = (bif c60 then undef else .slice (some ad) ln cl) := hn 62 (by decide)
          have e63 : ρ (.tmp 63) = (bif c60 then undef else .int .i64 (k : Int)) := hn 63 (by decide)
          clear hn hg
          cases c60
          · dsimp only [cond] at e62 e63
            refine .inl ⟨⟨_, _, rfl, rfl, eg⟩, ?_⟩
            refine .inl ⟨.pointer (some (ad.add (k * 28))), W, ?_, rfl, Below.refl _ _⟩
            go_simp
          · dsimp only [cond] at e62 e63
            exact .inr ⟨⟨_, _, _, rfl, rfl, eg, nofun⟩, rfl⟩
        refine And.intro ?_ ?_
        · intro d hd ρ W hcs bw hn hg
          cases hd
          have eg : ρ (.tmp 61) = .bool c60 := hg _ _ _ _ rfl rfl rfl
          have e64 : ρ (.tmp 64) = (bif c60 then undef else .pointer (some (ad.add (k * 28)))) := hn 64 (by decide)
          clear hn hg
          cases c60
          · dsimp only [cond] at e64
            refine .inl ⟨⟨_, _, rfl, rfl, eg⟩, ?_⟩
            refine .inl ⟨.pointer (some { block := (ad.add (k * 28)).block, off := (ad.add (k * 28)).off + 8 }), W, ?_, rfl, Below.refl _ _⟩
            go_simp
          · dsimp only [cond] at e64
            exact .inr ⟨⟨_, _, _, rfl, rfl, eg, nofun⟩, rfl⟩
        refine And.intro ?_ ?_
        · intro d hd ρ W hcs bw hn hg
          cases hd
          have eg : ρ (.tmp 61) = .bool c60 := hg _ _ _ _ rfl rfl rfl
          have e65 : ρ (.tmp 65) = (bif c60 then undef else .pointer (some { block := (ad.add (k * 28)).block, off := (ad.add (k * 28)).off + 8 })) := hn 65 (by decide)
          clear hn hg
          cases c60
          · dsimp only [cond] at e65
            refine .inl ⟨⟨_, _, rfl, rfl, eg⟩, ?_⟩
            refine .inl ⟨.pointer (some { block := (ad.add (k * 28)).block, off := (ad.add (k * 28)).off + 10 }), W, ?_, rfl, Below.refl _ _⟩
            go_simp
          · dsimp only [cond] at e65
            exact .inr ⟨⟨_, _, _, rfl, rfl, eg, nofun⟩, rfl⟩
        refine And.intro ?_ ?_
        · intro d hd ρ W hcs bw hn hg
          cases hd
          have eg : ρ (.tmp 61) = .bool c60 := hg _ _ _ _ rfl rfl rfl
          have e66 : ρ (.tmp 66) = (bif c60 then undef else .pointer (some { block := (ad.add (k * 28)).block, off := (ad.add (k * 28)).off + 10 })) := hn 66 (by decide)
          clear hn hg
          cases c60
          · dsimp only [cond] at e66
            refine .inl ⟨⟨_, _, rfl, rfl, eg⟩, ?_⟩
            refine .inl ⟨.pointer (some { block := (ad.add (k * 28)).block, off := (ad.add (k * 28)).off + 18 }), W, ?_, rfl, Below.refl _ _⟩
            go_simp
          · dsimp only [cond] at e66
            exact .inr ⟨⟨_, _, _, rfl, rfl, eg, nofun⟩, rfl⟩
        refine And.intro ?_ ?_
        · intro d hd ρ W hcs bw hn hg
          cases hd
          have eg : ρ (.tmp 61) = .bool c60 := hg _ _ _ _ rfl rfl rfl
          have e67 : ρ (.tmp 67) = (bif c60 then undef else .pointer (some { block := (ad.add (k * 28)).block, off := (ad.add (k * 28)).off + 18 })) := hn 67 (by decide)
          clear hn hg
          cases c60
          · dsimp only [cond] at e67
            refine .inl ⟨⟨_, _, rfl, rfl, eg⟩, ?_⟩
            have z18 : W.cell? { block := (ad.add (k * 28)).block, off := (ad.add (k * 28)).off + 18 } = some (.slice iA im ic) := (bw.cell (by exact hc1)).trans a18
            refine .inl ⟨.slice iA im ic, W, ?_, rfl, Below.refl _ _⟩
            go_simp
          · dsimp only [cond] at e67
            exact .inr ⟨⟨_, _, _, rfl, rfl, eg, nofun⟩, rfl⟩
        refine And.intro ?_ ?_
        · intro d hd ρ W hcs bw hn hg
          cases hd
          have eg : ρ (.tmp 61) = .bool c60 := hg _ _ _ _ rfl rfl rfl
          have e68 : ρ (.tmp 68) = (bif c60 then undef else .slice iA im ic) := hn 68 (by decide)
          clear hn hg
          cases c60
          · dsimp only [cond] at e68
            refine .inl ⟨⟨_, _, rfl, rfl, eg⟩, ?_⟩
            refine .inl ⟨.int .i64 (im : Int), W, ?_, rfl, Below.refl _ _⟩
            go_simp
          · dsimp only [cond] at e68
            exact .inr ⟨⟨_, _, _, rfl, rfl, eg, nofun⟩, rfl⟩
        refine And.intro ?_ ?_
        · intro d hd ρ W hcs bw hn hg
          cases hd
          have eg : ρ (.tmp 61) = .bool c60 := hg _ _ _ _ rfl rfl rfl
          have e69 : ρ (.tmp 69) = (bif c60 then undef else .int .i64 (im : Int)) := hn 69 (by decide)
          clear hn hg
          cases c60
          · dsimp only [cond] at e69
            refine .inl ⟨⟨_, _, rfl, rfl, eg⟩, ?_⟩
            have zb := hb70.out
            have hc1 := hcs.1
            refine .inl ⟨.bool b70, W, ?_, rfl, Below.refl _ _⟩
            go_simp
          · dsimp only [cond] at e69
            exact .inr ⟨⟨_, _, _, rfl, rfl, eg, nofun⟩, rfl⟩
        refine And.intro ?_ ?_
        · intro d hd ρ W hcs bw hn hg
          cases hd
          have e61 : ρ (.tmp 61) = .bool c60 := hn 61 (by decide)
          have e70 : ρ (.tmp 70) = (bif c60 then undef else .bool b70) := hn 70 (by decide)
          clear hn hg
          cases c60
          · dsimp only [cond] at e70
            refine .inl ⟨trivial, ?_⟩
            have hc1 := hcs.1
            have hcc := Hc71.out
            simp only [Bool.or_true, Bool.or_false, Bool.true_or, Bool.false_or, Bool.and_true, Bool.and_false, Bool.true_and, Bool.false_and, Bool.not_true, Bool.not_false] at hcc
            rw [hcc]
            refine .inl ⟨.bool _, W, ?_, rfl, Below.refl _ _⟩
            clear hcc
            go_simp
          · dsimp only [cond] at e70
            refine .inl ⟨trivial, ?_⟩
            have hc1 := hcs.1
            have hcc := Hc71.out
            simp only [Bool.or_true, Bool.or_false, Bool.true_or, Bool.false_or, Bool.and_true, Bool.and_false, Bool.true_and, Bool.false_and, Bool.not_true, Bool.not_false] at hcc
            rw [hcc]
            refine .inl ⟨.bool _, W, ?_, rfl, Below.refl _ _⟩
            clear hcc
            go_simp
        trivial
      · intro a' w' hsz hdf hb hVs
        have q0 : a'.eval (.tmp 0) = .slice (some ad) ln cl := hVs 0
        have q1 : a'.eval (.tmp 1) = undef := hVs 1
        have q3 : a'.eval (.tmp 3) = .int .i64 (k : Int) := hVs 3
        have q4 : a'.eval (.tmp 4) = .slice (some ad) ln cl := hVs 4
        have q5 : a'.eval (.tmp 5) = .int .i64 (ln : Int) := hVs 5
        have q6 : a'.eval (.tmp 6) = .bool false := hVs 6
        have q71 : a'.eval (.tmp 71) = .bool c71 := hVs 71
        have ha := act_slots a' 72 hsz hdf
        clear hVs hsz hdf
        rw [show List.range 72 = [0, 1, 2, 3, 4, 5, 6, 7, 8, 9, 10, 11, 12, 13, 14, 15, 16, 17, 18, 19, 20, 21, 22, 23, 24, 25, 26, 27, 28, 29, 30, 31, 32, 33, 34, 35, 36, 37, 38, 39, 40, 41, 42, 43, 44, 45, 46, 47, 48, 49, 50, 51, 52, 53, 54, 55, 56, 57, 58, 59, 60, 61, 62, 63, 64, 65, 66, 67, 68, 69, 70, 71] from rfl] at ha
        simp only [List.map_cons, List.map_nil, q0, q1, q3, q4, q5, q6, q71] at ha
        clear q0 q1 q3 q4 q5 q6 q71
        generalize a'.eval (.tmp 2) = x2 at ha
        generalize a'.eval (.tmp 7) = x7 at ha
        generalize a'.eval (.tmp 8) = x8 at ha
        generalize a'.eval (.tmp 9) = x9 at ha
        generalize a'.eval (.tmp 10) = x10 at ha
        generalize a'.eval (.tmp 11) = x11 at ha
        generalize a'.eval (.tmp 12) = x12 at ha
        generalize a'.eval (.tmp 13) = x13 at ha
        generalize a'.eval (.tmp 14) = x14 at ha
        generalize a'.eval (.tmp 15) = x15 at ha
        generalize a'.eval (.tmp 16) = x16 at ha
        generalize a'.eval (.tmp 17) = x17 at ha
        generalize a'.eval (.tmp 18) = x18 at ha
        generalize a'.eval (.tmp 19) = x19 at ha
        generalize a'.eval (.tmp 20) = x20 at ha
        generalize a'.eval (.tmp 21) = x21 at ha
        generalize a'.eval (.tmp 22) = x22 at ha
        generalize a'.eval (.tmp 23) = x23 at ha
        generalize a'.eval (.tmp 24) = x24 at ha
        generalize a'.eval (.tmp 25) = x25 at ha
        generalize a'.eval (.tmp 26) = x26 at ha
        generalize a'.eval (.tmp 27) = x27 at ha
        generalize a'.eval (.tmp 28) = x28 at ha
        generalize a'.eval (.tmp 29) = x29 at ha
        generalize a'.eval (.tmp 30) = x30 at ha
        generalize a'.eval (.tmp 31) = x31 at ha
        generalize a'.eval (.tmp 32) = x32 at ha
        generalize a'.eval (.tmp 33) = x33 at ha
        generalize a'.eval (.tmp 34) = x34 at ha
        generalize a'.eval (.tmp 35) = x35 at ha
        generalize a'.eval (.tmp 36) = x36 at ha
        generalize a'.eval (.tmp 37) = x37 at ha
        generalize a'.eval (.tmp 38) = x38 at ha
        generalize a'.eval (.tmp 39) = x39 at ha
        generalize a'.eval (.tmp 40) = x40 at ha
        generalize a'.eval (.tmp 41) = x41 at ha
        generalize a'.eval (.tmp 42) = x42 at ha
        generalize a'.eval (.tmp 43) = x43 at ha
        generalize a'.eval (.tmp 44) = x44 at ha
        generalize a'.eval (.tmp 45) = x45 at ha
        generalize a'.eval (.tmp 46) = x46 at ha
        generalize a'.eval (.tmp 47) = x47 at ha
        generalize a'.eval (.tmp 48) = x48 at ha
        generalize a'.eval (.tmp 49) = x49 at ha
        generalize a'.eval (.tmp 50) = x50 at ha
        generalize a'.eval (.tmp 51) = x51 at ha
        generalize a'.eval (.tmp 52) = x52 at ha
        generalize a'.eval (.tmp 53) = x53 at ha
        generalize a'.eval (.tmp 54) = x54 at ha
        generalize a'.eval (.tmp 55) = x55 at ha
        generalize a'.eval (.tmp 56) = x56 at ha
        generalize a'.eval (.tmp 57) = x57 at ha
        generalize a'.eval (.tmp 58) = x58 at ha
        generalize a'.eval (.tmp 59) = x59 at ha
        generalize a'.eval (.tmp 60) = x60 at ha
        generalize a'.eval (.tmp 61) = x61 at ha
        generalize a'.eval (.tmp 62) = x62 at ha
        generalize a'.eval (.tmp 63) = x63 at ha
        generalize a'.eval (.tmp 64) = x64 at ha
        generalize a'.eval (.tmp 65) = x65 at ha
        generalize a'.eval (.tmp 66) = x66 at ha
        generalize a'.eval (.tmp 67) = x67 at ha
        generalize a'.eval (.tmp 68) = x68 at ha
        generalize a'.eval (.tmp 69) = x69 at ha
        generalize a'.eval (.tmp 70) = x70 at ha
        subst ha
        have bw := BW.out.drew.trans (hb.mono BW.out.drew.size)
        cases c71
        · go_wp2_with fail
          go_roundg (ln - (k + 1))
          case measure => omega
          case rel => exact ⟨k + 1, by omega, by go_num, bw⟩
        · go_wp2_with fail
          go_ret
          exact ⟨GrEnd.great, bw⟩
    · have hk4 : ¬ (k : Int) < (ln : Int) := by omega
      go_wp2_with fail
      go_ret
      exact ⟨GrEnd.small H2.out, bw⟩
end Go.Proofs.Yteiaiilfekojfaa.Cli
