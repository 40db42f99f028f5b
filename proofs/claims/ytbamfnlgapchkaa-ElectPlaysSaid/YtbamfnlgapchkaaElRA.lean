/- The reference of chapter 19, walked: Add. Conditions: the lists can be read. -/
import Derived.Test.YtbamfnlgapchkaaElR
namespace Go.Proofs.Ytbamfnlgapchkaa.Ele
open Go Go.RowKit Bal Mem DrawInv

/-- Numbers that can be read, as a value. -/
def NumsAt (l : List Nat) (v : Value) (W : World) : Prop := ∃ A c, v = .slice A l.length c ∧ Reads W W.heap.size 1 A l.length (l.map u8v)
theorem NumsAt.below_ (l : List Nat) (v : Value) (w w' : World) (q : NumsAt l v w) (hb : Below w.heap.size w w') : NumsAt l v w' := by
  obtain ⟨A, c, e, h⟩ := q
  exact ⟨A, c, e, (h.below hb).more hb.size⟩
theorem rwho_at {w0 w : World} {b : B} {L : List Td} {A : Option Addr} {cp : Nat} (h : RefR w0 w b L A cp) (k : Nat) (hk : L.length = k) : Calls Try.prog 65 #[.agg (rrC b A k cp)] w fun e w' => ∃ u, e = .returned u ∧ NumsAt (nodesT L) u w' ∧ Below w.heap.size w w' :=
  (rwho_any h k hk).mono fun e w' ⟨u, e1, ho, hb⟩ => by
    obtain ⟨A', c', e2, _, hr⟩ := Byt.own_slice1 ho
    exact ⟨u, e1, ⟨A', c', e2, hr⟩, hb⟩
theorem exec_build1 {P : Program} {w w' : World} {ρ : Operand → Value} {o : Oper} {t : TypeId} {x : Operand} {vx v : Value} (ho : o.op = .buildSlice t 1 #[(0, x)]) (hx : ρ x = vx) (hr : (Instr.buildSlice t 1 #[(0, vx)]).run P w = .ok v w') : (execOp ρ o).run P w = .ok (.value v) w' := by
  unfold execOp
  simp only [ho, hx, List.map_toArray, List.map_cons, List.map_nil, Sem.run_bind, Sem.run_pure, Result.andThen_ok, hr]
theorem size_rr : (Try.prog.info? 93).map (·.size) = some 3 := by kernel_rfl
theorem size_td : (Try.prog.info? 95).map (·.size) = some 3 := by kernel_rfl
theorem size_ba : (Try.prog.info? 71).map (·.size) = some 2 := by kernel_rfl
theorem td_len (x : Td) : (tdL x).length = 3 := rfl
theorem td_one (x : Td) : ∀ u ∈ tdL x, u.oneCell' = true := by
  intro u hu
  simp only [tdL, List.mem_cons, List.not_mem_nil, or_false] at hu
  rcases hu with rfl | rfl | rfl <;> rfl
theorem info_td : ∃ i, Try.prog.info? 95 = some i ∧ i.size = 3 ∧ i.zero = some (.agg #[.int .u8 0, .int .u64 0, .slice none 0 0]) ∧ i.bytes = 40 := by
  cases h : Try.prog.info? 95 with
  | none =>
    have : (Try.prog.info? 95).isSome = true := by kernel_rfl
    rw [h] at this
    cases this
  | some i =>
    have e1 : (Try.prog.info? 95).map (·.size) = some 3 := by kernel_rfl
    have e2 : (Try.prog.info? 95).map (·.zero) = some (some (.agg #[.int .u8 0, .int .u64 0, .slice none 0 0])) := by kernel_rfl
    have e3 : (Try.prog.info? 95).map (·.bytes) = some 40 := by kernel_rfl
    rw [h] at e1 e2 e3
    exact ⟨i, rfl, Option.some.inj e1, Option.some.inj e2, Option.some.inj e3⟩
theorem app_tds {w : World} {B : Nat} (hb : B ≤ w.heap.size) {v : Value} {l m : List Td} (ho : w.ownsRow B 95 3 v l.length (l.flatMap tdL)) {A : Option Addr} {c : Nat} (hr : Rows w A 3 tdL m) (hn : l.length + m.length ≤ 1000000) :
    ∃ v' w', (Builtin.append_ #[89, 89] 89 #[v, .slice A m.length c]).run Try.prog w = .ok v' w' ∧ w'.ownsRow B 95 3 v' (l ++ m).length ((l ++ m).flatMap tdL) ∧ Below B w w' ∧ w.grownBy w' v.ownBlock := by
  obtain ⟨i, hi, hs, hz, hby⟩ := info_td
  obtain ⟨v', w', h1, h2, h3, h4⟩ := run_append_any (P := Try.prog) w B 89 89 95 i _ 3 40 Try.underlying89 hi hz hs hby rfl (by omega) v l.length _ ho w.heap.size A m.length c _ (rows_reads td_len (by omega) hr) (flat_one td_one m) (by unfold maxLen; omega) (by omega) hb
  exact ⟨v', w', h1, by rw [List.length_append, List.flatMap_append]; exact h2, (Below.refl B w).grown h3 hb (fun k hk => (ho.lt k hk).1), h3⟩
theorem td_row {w : World} {g : Nat} {x : Td} (h : Blk w g 95 (tdL x).toArray) : Rows w (some ⟨g, 0, none⟩) 3 tdL [x] := by
  have hr : Reads w w.heap.size 3 (some ⟨g, 0, none⟩) 1 (tdL x) := blk_reads (cells := tdL) (x := x) rfl h
  exact reads_rows (l := [x]) td_len (by simpa using hr)
theorem build_td (x : Td) (w : World) : (Instr.buildSlice 89 1 #[(0, .agg (tdL x).toArray)]).run Try.prog w = .ok (.slice (some ⟨w.heap.size, 0, none⟩) 1 1) (w.alloc (.cells (tdL x).toArray 95)) := by
  unfold tdL
  go_simp
/-- append(append(nil, l...), t): whichever comes first, the clone or the row of t. -/
theorem app_told {w : World} {L : List Td} {k : Nat} (hk : L.length = k) {A : Option Addr} {c : Nat} (hr : Rows w A 3 tdL L) (hl : k ≤ 1000) (x : Td) :
    (∃ v1 w1 g wc A2 k2 w2, (Builtin.append_ #[89, 89] 89 #[.slice none 0 0, .slice A k c]).run Try.prog w = .ok v1 w1 ∧
      (Instr.buildSlice 89 1 #[(0, .agg (tdL x).toArray)]).run Try.prog w1 = .ok (.slice (some ⟨g, 0, none⟩) 1 1) wc ∧
      (Builtin.append_ #[89, 89] 89 #[v1, .slice (some ⟨g, 0, none⟩) 1 1]).run Try.prog wc = .ok (.slice A2 (k + 1) k2) w2 ∧
      w2.ownsRow w.heap.size 95 3 (.slice A2 (k + 1) k2) (L ++ [x]).length ((L ++ [x]).flatMap tdL) ∧ Below w.heap.size w w2 ∧ Below w.heap.size w w1 ∧ Below w.heap.size w wc) ∧
    (∃ g wc v1 w1 A2 k2 w2, (Instr.buildSlice 89 1 #[(0, .agg (tdL x).toArray)]).run Try.prog w = .ok (.slice (some ⟨g, 0, none⟩) 1 1) wc ∧
      (Builtin.append_ #[89, 89] 89 #[.slice none 0 0, .slice A k c]).run Try.prog wc = .ok v1 w1 ∧
      (Builtin.append_ #[89, 89] 89 #[v1, .slice (some ⟨g, 0, none⟩) 1 1]).run Try.prog w1 = .ok (.slice A2 (k + 1) k2) w2 ∧
      w2.ownsRow w.heap.size 95 3 (.slice A2 (k + 1) k2) (L ++ [x]).length ((L ++ [x]).flatMap tdL) ∧ Below w.heap.size w w2 ∧ Below w.heap.size w w1 ∧ Below w.heap.size w wc) := by
  subst hk
  constructor
  · obtain ⟨v1, w1, happ1, ho1, b1, _⟩ := app_tds (w := w) (B := w.heap.size) (l := []) (Nat.le_refl _) (World.ownsRow_nil _ _ _ _) (c := c) hr (by simp; omega)
    rw [List.nil_append] at ho1
    have bz : Below w1.heap.size w1 (w1.alloc (.cells (tdL x).toArray 95)) := (Below.refl _ w1).alloc (Nat.le_refl _) _
    have b2 := b1.trans (bz.mono b1.size)
    have ho2 := own_below (h0 := w1.heap.size) ho1 bz (fun g hg => (ho1.lt g hg).2)
    obtain ⟨v2, w2, happ2, ho3, b3, _⟩ := app_tds b2.size ho2 (m := [x]) (A := some ⟨w1.heap.size, 0, none⟩) (c := 1) (td_row (Blk.new w1 95 _)) (by simp; omega)
    obtain ⟨A2, k2, rfl, _, _⟩ := own_rows td_len (by omega) ho3
    rw [List.length_append] at ho3 happ2
    exact ⟨v1, w1, _, _, A2, k2, w2, happ1, build_td x w1, happ2, by rw [List.length_append]; exact ho3, b2.trans b3, b1, b2⟩
  · have b0 : Below w.heap.size w (w.alloc (.cells (tdL x).toArray 95)) := (Below.refl _ w).alloc (Nat.le_refl _) _
    have hn0 := Blk.new w 95 (tdL x).toArray
    obtain ⟨v1, w1, happ1, ho1, b1, hg1⟩ := app_tds (w := w.alloc (.cells (tdL x).toArray 95)) (B := w.heap.size) (l := []) b0.size (World.ownsRow_nil _ _ _ _) (c := c) (hr.below b0) (by simp; omega)
    rw [List.nil_append] at ho1
    have hb1 := b0.trans b1
    obtain ⟨v2, w2, happ2, ho3, b3, _⟩ := app_tds hb1.size ho1 (m := [x]) (A := some ⟨w.heap.size, 0, none⟩) (c := 1) (td_row (hn0.grown hg1 (fun h => by cases h))) (by simp; omega)
    obtain ⟨A2, k2, rfl, _, _⟩ := own_rows td_len (by omega) ho3
    rw [List.length_append] at ho3 happ2
    exact ⟨_, _, v1, w1, A2, k2, w2, build_td x w, happ1, happ2, by rw [List.length_append]; exact ho3, hb1.trans b3, hb1, b0⟩
/-- A round stored whole. -/
theorem st_rr {w : World} {g : Nat} {old : Array Value} (h : Blk w g 93 old) (ho : old.size = 3) (n r : Nat) (A : Option Addr) (k c : Nat) : ∃ w', (Instr.storeAt 93 (.pointer (some ⟨g, 0, none⟩)) (.agg #[.int .u64 (n : Int), .int .u8 (r : Int), .slice A k c])).run Try.prog w = .ok () w' ∧ Blk w' g 93 #[.int .u64 (n : Int), .int .u8 (r : Int), .slice A k c] ∧ w.grownBy w' (some g) :=
  ⟨_, blk_store h ho size_rr rfl, Blk.setRow h, grown_setRow (World.grownBy.refl _ _) (.inr rfl)⟩
theorem ld_l {w : World} {g : Nat} {a b : Value} {A : Option Addr} {n k : Nat} (h : Blk w g 93 #[a, b, .slice A n k]) : (Instr.loadAt 89 (.pointer (some ⟨g, 2, none⟩))).run Try.prog w = .ok (.slice A n k) w := by
  have c1 := h.cell 2
  go_simp
/-- What the document's Add hands back. -/
def AddR (w0 w : World) (b : B) (L : List Td) (A : Option Addr) (x : Td) (e : Ending) (w' : World) : Prop := ∃ A' c', e = .returned (.tuple #[.agg (rrC b A' (nextL L x).length c'), .int .i64 ((addR L x.node : Nat) : Int)]) ∧ RefR w0 w' b (nextL L x) A' c' ∧ (∀ ad, A' = some ad → A = some ad ∨ (w.heap.size ≤ ad.block ∧ ad.block < w'.heap.size)) ∧ Below w.heap.size w w'
set_option linter.unusedSimpArgs false in
set_option linter.unusedVariables false in
set_option maxRecDepth 100000 in
set_option maxHeartbeats 2000000 in
theorem radd_any {w0 w : World} {b : B} {L : List Td} {A : Option Addr} {cp : Nat} (h : RefR w0 w b L A cp) (k : Nat) (hk : L.length = k) (hk50 : k ≤ 50) (x : Td) (hx : x.Fits w0) (hv : (flatT L).length + x.V.length ≤ 10000) (vn : Nat) (hvn : x.V.length = vn) :
    Calls Try.prog 60 #[.agg (rrC b A k cp), .agg #[.int .u8 (x.node : Int), .int .u64 (x.base : Int), .slice x.A vn x.c]] w fun e w' => AddR w0 w b L A x e w' := by
  have HWH := Lib.hid (fun (W : World) (hb : Below w.heap.size w W) => rwho_at (h.below hb) k hk)
  have HTD : Hid ((tdL x).toArray = #[.int .u8 (x.node : Int), .int .u64 (x.base : Int), .slice x.A vn x.c]) := by show _ = _; rw [← hvn]; rfl
  have HH := Lib.hid (And.intro h (And.intro hx (And.intro hk hv)))
  have hkn : (nodesT L).length = k := by unfold nodesT; rw [List.length_map]; exact hk
  have HHAS := Lib.hid (fun (A : Option Addr) (c : Nat) (W : World) (hr : Nums W A (nodesT L)) => hasRef_any A k c (nodesT L) x.node hkn.symm (by unfold maxLen; omega) W hr)
  have HKN := Lib.hid hkn
  have hrows := h.rows
  unfold rrC at HWH ⊢
  obtain ⟨bn, hbn⟩ : ∃ x, b.n = x := ⟨_, rfl⟩
  obtain ⟨br, hbr⟩ : ∃ x, b.r = x := ⟨_, rfl⟩
  rw [hbn, hbr] at HWH ⊢
  obtain ⟨xn, hxn⟩ : ∃ y, x.node = y := ⟨_, rfl⟩
  obtain ⟨xb, hxb⟩ : ∃ y, x.base = y := ⟨_, rfl⟩
  obtain ⟨xA, hxA⟩ : ∃ y, x.A = y := ⟨_, rfl⟩
  obtain ⟨xc, hxc⟩ : ∃ y, x.c = y := ⟨_, rfl⟩
  rw [hxn] at HHAS
  rw [hxn, hxb, hxA, hxc] at HTD ⊢
  have HAPP := Lib.hid (fun (W : World) (hr : Rows W A 3 tdL L) => app_told (c := cp) hk hr (by omega) x)
  rw [HTD.out] at HAPP
  have HB2 := Lib.hid (And.intro hbn hbr)
  have HN := Lib.hid hxn
  clear hbn hbr hxb hxA hxc hvn hv hx h hkn HTD
  obtain ⟨gx, hgx⟩ : ∃ g, g = w.heap.size := ⟨_, rfl⟩
  obtain ⟨gt, hgt⟩ : ∃ g, g = w.heap.size + 1 := ⟨_, rfl⟩
  obtain ⟨ga, hga⟩ : ∃ g, g = w.heap.size + 1 + 1 := ⟨_, rfl⟩
  obtain ⟨w1, hw1⟩ : ∃ W, W = w.alloc (.cells #[.int .u64 (bn : Int), .int .u8 (br : Int), .slice A k cp] 93) := ⟨_, rfl⟩
  obtain ⟨w2, hw2⟩ : ∃ W, W = w1.alloc (.cells #[.int .u8 (xn : Int), .int .u64 (xb : Int), .slice xA vn xc] 95) := ⟨_, rfl⟩
  obtain ⟨wA, hwA⟩ : ∃ W, W = w2.alloc (.cells #[.int .u64 0, .int .u8 0, .slice none 0 0] 93) := ⟨_, rfl⟩
  have hs1 : w1.heap.size = gt := by rw [hw1, hgt, World.alloc, Array.size_push]
  have hs2 : w2.heap.size = ga := by rw [hw2, hga, World.alloc, Array.size_push, hs1, hgt]
  have bw : Below w.heap.size w wA := by
    rw [hwA, hw2, hw1]
    refine (((Below.refl _ w).alloc (Nat.le_refl _) _).alloc ?_ _).alloc ?_ _
    · rw [← hw1, hs1, hgt]; omega
    · rw [← hw1, ← hw2, hs2, hga]; omega
  have kx : Blk wA gx 93 #[.int .u64 (bn : Int), .int .u8 (br : Int), .slice A k cp] := by rw [hwA, hw2, hw1, hgx]; exact ((Blk.new w 93 #[.int .u64 (bn : Int), .int .u8 (br : Int), .slice A k cp]).alloc _).alloc _
  have kt : Blk wA gt 95 #[.int .u8 (xn : Int), .int .u64 (xb : Int), .slice xA vn xc] := by rw [hwA, hw2, ← hs1]; exact (Blk.new w1 95 #[.int .u8 (xn : Int), .int .u64 (xb : Int), .slice xA vn xc]).alloc _
  have ka : Blk wA ga 93 #[.int .u64 0, .int .u8 0, .slice none 0 0] := by rw [hwA, ← hs2]; exact Blk.new w2 93 #[.int .u64 0, .int .u8 0, .slice none 0 0]
  have hgl : w.heap.size ≤ ga := by omega
  have hgn : gx ≠ ga ∧ gt ≠ ga := by omega
  have hup : Hid (((w.alloc (.cells #[.int .u64 (bn : Int), .int .u8 (br : Int), .slice A k cp] 93)).alloc (.cells #[.int .u8 (xn : Int), .int .u64 (xb : Int), .slice xA vn xc] 95)).alloc (.cells #[.int .u64 0, .int .u8 0, .slice none 0 0] 93) = wA) := by show _ = _; rw [hwA, hw2, hw1]
  have hug : Hid (w.heap.size = gx ∧ w.heap.size + 1 = gt ∧ w.heap.size + 1 + 1 = ga) := ⟨hgx.symm, hgt.symm, hga.symm⟩
  have hug2 : Hid (w.heap.size + 2 = ga) := hga.symm
  have HW1 : Hid (wA.heap.size = ga + 1) := by show _ = _; rw [hwA, World.alloc, Array.size_push, hs2]
  clear hwA hw2 hw1 hs1 hs2 hgx hgt hga
  have x0 := kx.cell 0
  have x1 := kx.cell 1
  have x2 := kx.cell 2
  have t0 := kt.cell 0
  by_cases h6 : 6 < xn
  · have h6i : (7 : Int) ≤ (xn : Int) := by omega
    have he : addR L xn = 2 := if_pos h6
    obtain ⟨w3, hst, k3, hg3⟩ := st_rr ka rfl bn br A k cp
    have b3 := bw.grown hg3 bw.size (fun k hk => by cases hk; exact hgl)
    have HLD := Lib.hid (blk_loadVar (P := Try.prog) (ty := 93) k3 Try.underlying93 rfl size_rr)
    have HQ : Hid (AddR w0 w b L A x (.returned (.tuple #[.agg #[.int .u64 (bn : Int), .int .u8 (br : Int), .slice A k cp], .int .i64 (2 : Nat)])) w3) := by
      have hnx : nextL L x = L := by unfold nextL; rw [HN.out, he, if_neg (by omega)]
      exact ⟨A, cp, by rw [hnx, HN.out, he, HH.out.2.2.1]; unfold rrC; rw [HB2.out.1, HB2.out.2], by rw [hnx]; exact HH.out.1.below b3, fun ad e => .inl e, b3⟩
    clear ka k3 hg3 b3 bw he h6 hgl hgn hrows
    go_enter Try.func60, Try.ntmps60
    go_upto_region 1 with fail
    rw [show ((w.alloc (.cells #[.int .u64 (bn : Int), .int .u8 (br : Int), .slice A k cp] 93)).alloc (.cells #[.int .u8 (xn : Int), .int .u64 (xb : Int), .slice xA vn xc] 95)).alloc (.cells #[.int .u64 0, .int .u8 0, .slice none 0 0] 93) = wA from hup.out]
    first | rw [hug.out.2.2] | rw [hug2.out]
    rw [hug.out.2.1, hug.out.1]
    go_wp2_with (refine wpList_store (by rfl) (.tmp 4) (.tmp 9) (by rfl) (by rfl) (by rfl) hst ?_)
    exact bodyPost_ret (v := .tuple #[.agg #[.int .u64 (bn : Int), .int .u8 (br : Int), .slice A k cp], .int .i64 2]) (by simp [results, Try.results60, asAddr, HLD.out]) rfl HQ.out
  have h6i : ¬ (7 : Int) ≤ (xn : Int) := by omega
  have kxd : Blk wA.drew gx 93 #[.int .u64 (bn : Int), .int .u8 (br : Int), .slice A k cp] := kx
  have ktd : Blk wA.drew gt 95 #[.int .u8 (xn : Int), .int .u64 (xb : Int), .slice xA vn xc] := kt
  have bwd := bw.drew
  cases hh : hasL (nodesT L) xn
  rotate_left
  · have he : addR L xn = 13 := by unfold addR; rw [if_neg h6, if_pos hh]
    simp only [hh] at HHAS
    clear x0 x1 x2 hh kx kt
    go_enter Try.func60, Try.ntmps60
    go_upto_region 1 with fail
    rw [show ((w.alloc (.cells #[.int .u64 (bn : Int), .int .u8 (br : Int), .slice A k cp] 93)).alloc (.cells #[.int .u8 (xn : Int), .int .u64 (xb : Int), .slice xA vn xc] 95)).alloc (.cells #[.int .u64 0, .int .u8 0, .slice none 0 0] 93) = wA from hup.out]
    first | rw [hug.out.2.2] | rw [hug2.out]
    rw [hug.out.2.1, hug.out.1]
    go_wp2_with fail
    refine region_inv2 (by kernel_rfl) [(11, NumsAt (nodesT L))] [(10, .agg #[.int .u64 (bn : Int), .int .u8 (br : Int), .slice A k cp]), (12, .pointer (some ⟨gt, 0, none⟩)), (13, .int .u8 (xn : Int)), (14, .bool true)] (by kernel_rfl) (by kernel_rfl) rfl (by kernel_rfl) ?_ ?_ ?_
    · intro q hq
      obtain rfl := List.mem_singleton.1 hq
      exact NumsAt.below_ _
    · refine And.intro ?_ ?_
      · intro d hd ρ W hcs bw hn hg
        cases hd
        have e2 : ρ (.tmp 2) = .pointer (some ⟨gx, 0, none⟩) := hn 2 (by decide)
        clear hn hg
        refine .inl ⟨trivial, ?_⟩
        have z0 : W.cell? ⟨gx, 0, none⟩ = some (.int .u64 (bn : Int)) := (Blk.below kxd bw (Blk.lt kxd)).cell 0
        have z1 : W.cell? ⟨gx, 1, none⟩ = some (.int .u8 (br : Int)) := (Blk.below kxd bw (Blk.lt kxd)).cell 1
        have z2 : W.cell? ⟨gx, 2, none⟩ = some (.slice A k cp) := (Blk.below kxd bw (Blk.lt kxd)).cell 2
        refine .inl ⟨.agg #[.int .u64 (bn : Int), .int .u8 (br : Int), .slice A k cp], W, ?_, rfl, Below.refl _ _⟩
        go_simp
      refine And.intro ?_ ?_
      · intro d hd ρ W hcs bw hn hg
        cases hd
        have e10 : ρ (.tmp 10) = .agg #[.int .u64 (bn : Int), .int .u8 (br : Int), .slice A k cp] := hn 10 (by decide)
        clear hn hg
        refine .inl ⟨trivial, ?_⟩
        have ef : ρ (.func 65) = .func (.func 65) #[] #[] := hcs.2 _
        refine .inr ⟨65, #[.agg #[.int .u64 (bn : Int), .int .u8 (br : Int), .slice A k cp]], ?_, (HWH.out W (bwd.trans (bw.mono bwd.size))).mono ?_⟩
        · go_simp
        · rintro e w2 ⟨u, rfl, hu, B2⟩; exact ⟨_, rfl, hu, B2⟩
      refine And.intro ?_ ?_
      · intro d hd ρ W hcs bw hn hg
        cases hd
        have e3 : ρ (.tmp 3) = .pointer (some ⟨gt, 0, none⟩) := hn 3 (by decide)
        clear hn hg
        refine .inl ⟨trivial, ?_⟩
        refine .inl ⟨.pointer (some ⟨gt, 0, none⟩), W, ?_, rfl, Below.refl _ _⟩
        go_simp
      refine And.intro ?_ ?_
      · intro d hd ρ W hcs bw hn hg
        cases hd
        have e12 : ρ (.tmp 12) = .pointer (some ⟨gt, 0, none⟩) := hn 12 (by decide)
        clear hn hg
        refine .inl ⟨trivial, ?_⟩
        have z0 : W.cell? ⟨gt, 0, none⟩ = some (.int .u8 (xn : Int)) := (Blk.below ktd bw (Blk.lt ktd)).cell 0
        refine .inl ⟨.int .u8 (xn : Int), W, ?_, rfl, Below.refl _ _⟩
        go_simp
      refine And.intro ?_ ?_
      · intro d hd ρ W hcs bw hn hg
        cases hd
        have e11 : (NumsAt (nodesT L)) (ρ (.tmp 11)) W := hn 11 (by decide)
        have e13 : ρ (.tmp 13) = .int .u8 (xn : Int) := hn 13 (by decide)
        clear hn hg
        refine .inl ⟨trivial, ?_⟩
        obtain ⟨A11, c11, er11, hn11⟩ := e11
        rw [HKN.out] at er11
        have ef : ρ (.func 78) = .func (.func 78) #[] #[] := hcs.2 _
        refine .inr ⟨78, #[.slice A11 k c11, .int .u8 (xn : Int)], ?_, (HHAS.out A11 c11 W (nums_reads hn11)).mono ?_⟩
        · go_simp
        · rintro e w2 ⟨rfl, rfl⟩; exact ⟨_, rfl, rfl, Below.refl _ _⟩
      trivial
    · intro a' w' hsz hdf hb hVs
      have q14 : a'.eval (.tmp 14) = .bool true := hVs 14
      have ha := slot_over_seg 10 5 [] rfl (by kernel_rfl) (of_decide_eq_true (by kernel_rfl)) hsz hdf hVs
      clear hVs hsz hdf
      rw [show List.range' 10 5 = [10, 11, 12, 13, 14] from rfl] at ha
      simp only [List.take_succ_cons, List.take_zero, List.drop_succ_cons, List.drop_zero, List.map_cons, List.map_nil, List.cons_append, List.nil_append, List.foldl_cons, List.foldl_nil, List.set_cons_zero, List.set_cons_succ, q14] at ha
      clear q14
      generalize a'.eval (.tmp 10) = x10 at ha
      generalize a'.eval (.tmp 11) = x11 at ha
      generalize a'.eval (.tmp 12) = x12 at ha
      generalize a'.eval (.tmp 13) = x13 at ha
      subst ha
      have bz := bwd.trans (hb.mono bwd.size)
      have kx := kxd.below hb kxd.lt
      have ka2 : Blk w' ga 93 _ := Blk.below (h := ka) ((below_drewN (Below.refl _ wA) 1).trans hb) ka.lt
      obtain ⟨w3, hst, k3, hg3⟩ := st_rr ka2 rfl bn br A k cp
      have b3 := bz.grown hg3 bz.size (fun k hk => by cases hk; exact hgl)
      have HLD := Lib.hid (blk_loadVar (P := Try.prog) (ty := 93) k3 Try.underlying93 rfl size_rr)
      have HQ : Hid (AddR w0 w b L A x (.returned (.tuple #[.agg #[.int .u64 (bn : Int), .int .u8 (br : Int), .slice A k cp], .int .i64 (13 : Nat)])) w3) := by
        have hnx : nextL L x = L := by unfold nextL; rw [HN.out, he, if_neg (by omega)]
        exact ⟨A, cp, by rw [hnx, HN.out, he, HH.out.2.2.1]; unfold rrC; rw [HB2.out.1, HB2.out.2], by rw [hnx]; exact HH.out.1.below b3, fun ad e => .inl e, b3⟩
      have x0 := kx.cell 0
      have x1 := kx.cell 1
      have x2 := kx.cell 2
      clear ka ka2 k3 hg3 b3 bz he hgl hgn hrows kx bw bwd kxd ktd hb t0
      go_wp2_with (refine wpList_store (by rfl) (.tmp 4) (.tmp 15) (by rfl) (by rfl) (by rfl) hst ?_)
      exact bodyPost_ret (v := .tuple #[.agg #[.int .u64 (bn : Int), .int .u8 (br : Int), .slice A k cp], .int .i64 13]) (by simp [results, Try.results60, asAddr, HLD.out]) rfl HQ.out
  have he : addR L xn = 0 := by unfold addR; rw [if_neg h6, if_neg (by rw [hh]; decide)]
  simp only [hh] at HHAS
  clear x0 x1 x2 hh kx kt
  go_enter Try.func60, Try.ntmps60
  go_upto_region 1 with fail
  rw [show ((w.alloc (.cells #[.int .u64 (bn : Int), .int .u8 (br : Int), .slice A k cp] 93)).alloc (.cells #[.int .u8 (xn : Int), .int .u64 (xb : Int), .slice xA vn xc] 95)).alloc (.cells #[.int .u64 0, .int .u8 0, .slice none 0 0] 93) = wA from hup.out]
  first | rw [hug.out.2.2] | rw [hug2.out]
  rw [hug.out.2.1, hug.out.1]
  go_wp2_with fail
  refine region_inv2 (by kernel_rfl) [(11, NumsAt (nodesT L))] [(10, .agg #[.int .u64 (bn : Int), .int .u8 (br : Int), .slice A k cp]), (12, .pointer (some ⟨gt, 0, none⟩)), (13, .int .u8 (xn : Int)), (14, .bool false)] (by kernel_rfl) (by kernel_rfl) rfl (by kernel_rfl) ?_ ?_ ?_
  · intro q hq
    obtain rfl := List.mem_singleton.1 hq
    exact NumsAt.below_ _
  · refine And.intro ?_ ?_
    · intro d hd ρ W hcs bw hn hg
      cases hd
      have e2 : ρ (.tmp 2) = .pointer (some ⟨gx, 0, none⟩) := hn 2 (by decide)
      clear hn hg
      refine .inl ⟨trivial, ?_⟩
      have z0 : W.cell? ⟨gx, 0, none⟩ = some (.int .u64 (bn : Int)) := (Blk.below kxd bw (Blk.lt kxd)).cell 0
      have z1 : W.cell? ⟨gx, 1, none⟩ = some (.int .u8 (br : Int)) := (Blk.below kxd bw (Blk.lt kxd)).cell 1
      have z2 : W.cell? ⟨gx, 2, none⟩ = some (.slice A k cp) := (Blk.below kxd bw (Blk.lt kxd)).cell 2
      refine .inl ⟨.agg #[.int .u64 (bn : Int), .int .u8 (br : Int), .slice A k cp], W, ?_, rfl, Below.refl _ _⟩
      go_simp
    refine And.intro ?_ ?_
    · intro d hd ρ W hcs bw hn hg
      cases hd
      have e10 : ρ (.tmp 10) = .agg #[.int .u64 (bn : Int), .int .u8 (br : Int), .slice A k cp] := hn 10 (by decide)
      clear hn hg
      refine .inl ⟨trivial, ?_⟩
      have ef : ρ (.func 65) = .func (.func 65) #[] #[] := hcs.2 _
      refine .inr ⟨65, #[.agg #[.int .u64 (bn : Int), .int .u8 (br : Int), .slice A k cp]], ?_, (HWH.out W (bwd.trans (bw.mono bwd.size))).mono ?_⟩
      · go_simp
      · rintro e w2 ⟨u, rfl, hu, B2⟩; exact ⟨_, rfl, hu, B2⟩
    refine And.intro ?_ ?_
    · intro d hd ρ W hcs bw hn hg
      cases hd
      have e3 : ρ (.tmp 3) = .pointer (some ⟨gt, 0, none⟩) := hn 3 (by decide)
      clear hn hg
      refine .inl ⟨trivial, ?_⟩
      refine .inl ⟨.pointer (some ⟨gt, 0, none⟩), W, ?_, rfl, Below.refl _ _⟩
      go_simp
    refine And.intro ?_ ?_
    · intro d hd ρ W hcs bw hn hg
      cases hd
      have e12 : ρ (.tmp 12) = .pointer (some ⟨gt, 0, none⟩) := hn 12 (by decide)
      clear hn hg
      refine .inl ⟨trivial, ?_⟩
      have z0 : W.cell? ⟨gt, 0, none⟩ = some (.int .u8 (xn : Int)) := (Blk.below ktd bw (Blk.lt ktd)).cell 0
      refine .inl ⟨.int .u8 (xn : Int), W, ?_, rfl, Below.refl _ _⟩
      go_simp
    refine And.intro ?_ ?_
    · intro d hd ρ W hcs bw hn hg
      cases hd
      have e11 : (NumsAt (nodesT L)) (ρ (.tmp 11)) W := hn 11 (by decide)
      have e13 : ρ (.tmp 13) = .int .u8 (xn : Int) := hn 13 (by decide)
      clear hn hg
      refine .inl ⟨trivial, ?_⟩
      obtain ⟨A11, c11, er11, hn11⟩ := e11
      rw [HKN.out] at er11
      have ef : ρ (.func 78) = .func (.func 78) #[] #[] := hcs.2 _
      refine .inr ⟨78, #[.slice A11 k c11, .int .u8 (xn : Int)], ?_, (HHAS.out A11 c11 W (nums_reads hn11)).mono ?_⟩
      · go_simp
      · rintro e w2 ⟨rfl, rfl⟩; exact ⟨_, rfl, rfl, Below.refl _ _⟩
    trivial
  · intro a' w' hsz hdf hb hVs
    have q14 : a'.eval (.tmp 14) = .bool false := hVs 14
    have ha := slot_over_seg 10 5 [] rfl (by kernel_rfl) (of_decide_eq_true (by kernel_rfl)) hsz hdf hVs
    clear hVs hsz hdf
    rw [show List.range' 10 5 = [10, 11, 12, 13, 14] from rfl] at ha
    simp only [List.take_succ_cons, List.take_zero, List.drop_succ_cons, List.drop_zero, List.map_cons, List.map_nil, List.cons_append, List.nil_append, List.foldl_cons, List.foldl_nil, List.set_cons_zero, List.set_cons_succ, q14] at ha
    clear q14
    generalize a'.eval (.tmp 10) = x10 at ha
    generalize a'.eval (.tmp 11) = x11 at ha
    generalize a'.eval (.tmp 12) = x12 at ha
    generalize a'.eval (.tmp 13) = x13 at ha
    subst ha
    have bz := bwd.trans (hb.mono bwd.size)
    have kx := kxd.below hb kxd.lt
    have kt := ktd.below hb ktd.lt
    have ka2 : Blk w' ga 93 _ := Blk.below (h := ka) ((below_drewN (Below.refl _ wA) 1).trans hb) ka.lt
    have hsz : ga < w'.heap.size := ka2.lt
    have hr2 := (HH.out.1.below bz).rows
    clear ka kxd ktd bw bwd hb t0 hrows
    go_upto_region 5 with fail
    have hrd : Rows w'.drew A 3 tdL L := hr2
    have bwd : Below w.heap.size w w'.drew := bz.drew
    obtain ⟨⟨v1, wB, gB, wBc, A2, k2, wE, a1, ab, a2, a3, a4, a5, a6⟩, ⟨gC, wC, v1', wC', A2', k2', wE', bb, b1, b2, b3, b4, b5, b6⟩⟩ := HAPP.out w'.drew hrd
    have hx : Blk w'.drew gx 93 #[.int .u64 (bn : Int), .int .u8 (br : Int), .slice A k cp] ∧ Blk w'.drew gt 95 #[.int .u8 (xn : Int), .int .u64 (xb : Int), .slice xA vn xc] := ⟨kx, kt⟩
    have ha : Blk w'.drew ga 93 _ := ka2
    have hx1 := And.intro (hx.1.below a5 hx.1.lt) (hx.2.below a5 hx.2.lt)
    have hx2 := And.intro (hx.1.below a6 hx.1.lt) (hx.2.below a6 hx.2.lt)
    have hx3 := And.intro (hx.1.below a4 hx.1.lt) (hx.2.below a4 hx.2.lt)
    have hx4 := And.intro (hx.1.below b6 hx.1.lt) (hx.2.below b6 hx.2.lt)
    have hx5 := And.intro (hx.1.below b5 hx.1.lt) (hx.2.below b5 hx.2.lt)
    have hx6 := And.intro (hx.1.below b4 hx.1.lt) (hx.2.below b4 hx.2.lt)
    obtain ⟨wF, sa, k3, hg3⟩ := st_rr (ha.below a4 ha.lt) rfl bn br A2 (k + 1) k2
    obtain ⟨wF', sb, k3', hg3'⟩ := st_rr (ha.below b4 ha.lt) rfl bn br A2' (k + 1) k2'
    have hx7 : Blk wF gx 93 #[.int .u64 (bn : Int), .int .u8 (br : Int), .slice A k cp] ∧ Blk wF gt 95 #[.int .u8 (xn : Int), .int .u64 (xb : Int), .slice xA vn xc] := ⟨hx3.1.grown hg3 (fun h => hgn.1 (Option.some.inj h)), hx3.2.grown hg3 (fun h => hgn.2 (Option.some.inj h))⟩
    have hx8 : Blk wF' gx 93 #[.int .u64 (bn : Int), .int .u8 (br : Int), .slice A k cp] ∧ Blk wF' gt 95 #[.int .u8 (xn : Int), .int .u64 (xb : Int), .slice xA vn xc] := ⟨hx6.1.grown hg3' (fun h => hgn.1 (Option.some.inj h)), hx6.2.grown hg3' (fun h => hgn.2 (Option.some.inj h))⟩
    have bzA := (bwd.trans (a4.mono bwd.size)).grown hg3 (Nat.le_trans bwd.size a4.size) (fun k hk => by cases hk; exact hgl)
    have bzB := (bwd.trans (b4.mono bwd.size)).grown hg3' (Nat.le_trans bwd.size b4.size) (fun k hk => by cases hk; exact hgl)
    have HLA := Lib.hid (blk_loadVar (P := Try.prog) (ty := 93) k3 Try.underlying93 rfl size_rr)
    have HLB := Lib.hid (blk_loadVar (P := Try.prog) (ty := 93) k3' Try.underlying93 rfl size_rr)
    have HQ0 := Lib.hid (fun (A2 : Option Addr) (k2 : Nat) (wE wF : World) (a3 : wE.ownsRow w'.drew.heap.size 95 3 (.slice A2 (k + 1) k2) (L ++ [x]).length ((L ++ [x]).flatMap tdL)) (hg3 : wE.grownBy wF (some ga)) (bzA : Below w.heap.size w wF) => (show AddR w0 w b L A x (.returned (.tuple #[.agg #[.int .u64 (bn : Int), .int .u8 (br : Int), .slice A2 (k + 1) k2], .int .i64 (0 : Nat)])) wF from by
      have hnx : nextL L x = L ++ [x] := by unfold nextL; rw [HN.out, he, if_pos rfl]
      have o2 := own_grown2 a3 hg3 (fun r hr he => by have h1 := (a3.lt r hr).1; have h2 : w'.drew.heap.size = w'.heap.size := rfl; have := Option.some.inj he; omega)
      obtain ⟨A9, c9, e9, _, hr9, hb9⟩ := own_rows_at td_len (by omega) o2
      obtain ⟨rfl, -, rfl⟩ := Value.slice.inj e9
      refine ⟨A2, k2, ?_, ⟨by rw [hnx]; exact hr9, ?_, ?_, ?_⟩, fun ad e => .inr ⟨Nat.le_trans bwd.size (hb9 ad e), (o2.lt ad.block (by rw [e]; rfl)).2⟩, bzA⟩
      · rw [hnx, HN.out, he, List.length_append, HH.out.2.2.1]
        unfold rrC
        rw [HB2.out.1, HB2.out.2]
        rfl
      · intro y hy
        rw [hnx] at hy
        rcases List.mem_append.1 hy with hy | hy
        · exact HH.out.1.fits y hy
        · rw [List.mem_singleton.1 hy]; exact HH.out.2.1
      · rw [hnx, List.length_append, HH.out.2.2.1]; simp; omega
      · rw [hnx, flat_snoc, List.length_append]; exact HH.out.2.2.2))
    have HQA := Lib.hid (HQ0.out A2 k2 wE wF a3 hg3 bzA)
    have HQB := Lib.hid (HQ0.out A2' k2' wE' wF' b3 hg3' bzB)
    clear a3 a4 a5 a6 b3 b4 b5 b6 k3 k3' hg3 hg3' hrd bwd hr2 ka2 bz ha HQ0 kx kt hsz HWH HHAS he
    refine wp_region_held_drew (S := (fun W : World => Blk W gx 93 #[.int .u64 (bn : Int), .int .u8 (br : Int), .slice A k cp] ∧ Blk W gt 95 #[.int .u8 (xn : Int), .int .u64 (xb : Int), .slice xA vn xc])) (by kernel_rfl) (hx) (fun hHeld => ?_)
    refine take1 (i := 0) (d := 16) (v := ?_) rfl (by kernel_rfl) (by kernel_rfl) (by kernel_rfl) rfl (fun _ _ _ h => h) (Or.inl ⟨by rfl, ?_⟩) (by assumption) ?_
    rotate_left
    · (intro w hSw; (try dsimp only at hSw); go_simp); with_reducible rfl
    simp only [List.set_cons_zero, List.set_cons_succ]
    refine take1 (i := 1) (d := 17) (v := ?_) rfl (by kernel_rfl) (by kernel_rfl) (by kernel_rfl) rfl (fun _ _ _ h => h) (Or.inl ⟨by rfl, ?_⟩) (by assumption) ?_
    rotate_left
    · intro w hSw; refine (exec_load (.tmp 16) (by rfl) (by rfl) (blk_part (P := Try.prog) (ty := 71) hSw.1 0 #[.int .u64 (bn : Int), .int .u8 (br : Int)] rfl Try.underlying71 rfl size_ba)).trans ?_; with_reducible rfl
    simp only [List.set_cons_zero, List.set_cons_succ]
    refine take1 (i := 2) (d := 18) (v := ?_) rfl (by kernel_rfl) (by kernel_rfl) (by kernel_rfl) rfl (fun _ _ _ h => h) (Or.inl ⟨by rfl, ?_⟩) (by assumption) ?_
    rotate_left
    · (intro w hSw; (try dsimp only at hSw); go_simp); with_reducible rfl
    simp only [List.set_cons_zero, List.set_cons_succ]
    refine take1 (i := 3) (d := 19) (v := ?_) rfl (by kernel_rfl) (by kernel_rfl) (by kernel_rfl) rfl (fun _ _ _ h => h) (Or.inl ⟨by rfl, ?_⟩) (by assumption) ?_
    rotate_left
    · intro w hSw; refine (exec_load (.tmp 18) (by rfl) (by rfl) (ld_l hSw.1)).trans ?_; with_reducible rfl
    simp only [List.set_cons_zero, List.set_cons_succ]
    refine take1 (i := 5) (d := 21) (v := ?_) rfl (by kernel_rfl) (by kernel_rfl) (by kernel_rfl) rfl (fun _ _ _ h => h) (Or.inl ⟨by rfl, ?_⟩) (by assumption) ?_
    rotate_left
    · intro w hSw; refine (exec_load (.tmp 3) (by rfl) (by rfl) (blk_load (P := Try.prog) (ty := 95) hSw.2 Try.underlying95 rfl size_td)).trans ?_; with_reducible rfl
    simp only [List.set_cons_zero, List.set_cons_succ]
    refine wpAnyH_ready (rs := [4, 6]) (by kernel_rfl) (by simp) (AllReadyH.cons rfl (fun Kreg hKreg => ?_) (AllReadyH.cons rfl (fun Kreg hKreg => ?_) AllReadyH.nil))
    · refine step_run_append (by rfl) (.const (.slice none 0 0)) (.tmp 19) 89 (by rfl) (by rfl) (by rfl) (by first | exact a1 | exact b1) ?_
      refine hKreg.out _ _ ((by first | exact hx1 | exact hx2 | exact hx3 | exact hx4 | exact hx5 | exact hx6 | exact hx7 | exact hx8)) (fun hHeld => ?_)
      clear hKreg Kreg
      refine wpAnyH_put (d := 20) (by rfl) ?_
      simp only [List.set_cons_zero, List.set_cons_succ]
      refine wpAnyH_ready (rs := [6]) (by kernel_rfl) (by simp) (AllReadyH.cons rfl (fun Kreg hKreg => ?_) AllReadyH.nil)
      refine step_exec (by rfl) _ _ (exec_build1 (t := 89) (x := .tmp 21) (by rfl) (by rfl) (by first | exact ab | exact bb)) ?_
      refine hKreg.out _ _ ((by first | exact hx1 | exact hx2 | exact hx3 | exact hx4 | exact hx5 | exact hx6 | exact hx7 | exact hx8)) (fun hHeld => ?_)
      clear hKreg Kreg
      refine wpAnyH_put (d := 22) (by rfl) ?_
      simp only [List.set_cons_zero, List.set_cons_succ]
      refine wpAnyH_ready (rs := [7]) (by kernel_rfl) (by simp) (AllReadyH.cons rfl (fun Kreg hKreg => ?_) AllReadyH.nil)
      refine step_run_append (by rfl) (.tmp 20) (.tmp 22) 89 (by rfl) (by rfl) (by rfl) (by first | exact a2 | exact b2) ?_
      refine hKreg.out _ _ ((by first | exact hx1 | exact hx2 | exact hx3 | exact hx4 | exact hx5 | exact hx6 | exact hx7 | exact hx8)) (fun hHeld => ?_)
      clear hKreg Kreg
      refine wpAnyH_put (d := 23) (by rfl) ?_
      simp only [List.set_cons_zero, List.set_cons_succ]
      refine take1 (i := 8) (d := 24) (v := ?_) rfl (by kernel_rfl) (by kernel_rfl) (by kernel_rfl) rfl (fun _ _ _ h => h) (Or.inl ⟨by rfl, ?_⟩) (by assumption) ?_
      rotate_left
      · (intro w hSw; (try dsimp only at hSw); go_simp); with_reducible rfl
      simp only [List.set_cons_zero, List.set_cons_succ]
      refine wpAnyH_ready (rs := [9]) (by kernel_rfl) (by simp) (AllReadyH.cons rfl (fun Kreg hKreg => ?_) AllReadyH.nil)
      refine step_store (by rfl) (.tmp 4) (.tmp 24) (by rfl) (by rfl) (by rfl) (by first | exact sa | exact sb) ?_
      refine hKreg.out _ _ ((by first | exact hx1 | exact hx2 | exact hx3 | exact hx4 | exact hx5 | exact hx6 | exact hx7 | exact hx8)) (fun hHeld => ?_)
      clear hKreg Kreg
      try simp only [Act.put, List.setIfInBounds_toArray, List.set_cons_zero, List.set_cons_succ]
      refine take1 (i := 10) (d := 5) (v := ?_) rfl (by kernel_rfl) (by kernel_rfl) (by kernel_rfl) rfl (fun _ _ _ h => h) (Or.inl ⟨by rfl, ?_⟩) (by assumption) ?_
      rotate_left
      · (intro w hSw; (try dsimp only at hSw); go_simp); with_reducible rfl
      simp only [List.set_cons_zero, List.set_cons_succ]
      refine wpAnyH_done (by kernel_rfl) ?_ _
      go_wp2_with fail
      first
        | exact bodyPost_ret (v := .tuple #[.agg #[.int .u64 (bn : Int), .int .u8 (br : Int), .slice A2 (k + 1) k2], .int .i64 0]) (by simp [results, Try.results60, asAddr, HLA.out]) rfl HQA.out
        | exact bodyPost_ret (v := .tuple #[.agg #[.int .u64 (bn : Int), .int .u8 (br : Int), .slice A2' (k + 1) k2'], .int .i64 0]) (by simp [results, Try.results60, asAddr, HLB.out]) rfl HQB.out
    · refine step_exec (by rfl) _ _ (exec_build1 (t := 89) (x := .tmp 21) (by rfl) (by rfl) (by first | exact ab | exact bb)) ?_
      refine hKreg.out _ _ ((by first | exact hx1 | exact hx2 | exact hx3 | exact hx4 | exact hx5 | exact hx6 | exact hx7 | exact hx8)) (fun hHeld => ?_)
      clear hKreg Kreg
      refine wpAnyH_put (d := 22) (by rfl) ?_
      simp only [List.set_cons_zero, List.set_cons_succ]
      refine wpAnyH_ready (rs := [4]) (by kernel_rfl) (by simp) (AllReadyH.cons rfl (fun Kreg hKreg => ?_) AllReadyH.nil)
      refine step_run_append (by rfl) (.const (.slice none 0 0)) (.tmp 19) 89 (by rfl) (by rfl) (by rfl) (by first | exact a1 | exact b1) ?_
      refine hKreg.out _ _ ((by first | exact hx1 | exact hx2 | exact hx3 | exact hx4 | exact hx5 | exact hx6 | exact hx7 | exact hx8)) (fun hHeld => ?_)
      clear hKreg Kreg
      refine wpAnyH_put (d := 20) (by rfl) ?_
      simp only [List.set_cons_zero, List.set_cons_succ]
      refine wpAnyH_ready (rs := [7]) (by kernel_rfl) (by simp) (AllReadyH.cons rfl (fun Kreg hKreg => ?_) AllReadyH.nil)
      refine step_run_append (by rfl) (.tmp 20) (.tmp 22) 89 (by rfl) (by rfl) (by rfl) (by first | exact a2 | exact b2) ?_
      refine hKreg.out _ _ ((by first | exact hx1 | exact hx2 | exact hx3 | exact hx4 | exact hx5 | exact hx6 | exact hx7 | exact hx8)) (fun hHeld => ?_)
      clear hKreg Kreg
      refine wpAnyH_put (d := 23) (by rfl) ?_
      simp only [List.set_cons_zero, List.set_cons_succ]
      refine take1 (i := 8) (d := 24) (v := ?_) rfl (by kernel_rfl) (by kernel_rfl) (by kernel_rfl) rfl (fun _ _ _ h => h) (Or.inl ⟨by rfl, ?_⟩) (by assumption) ?_
      rotate_left
      · (intro w hSw; (try dsimp only at hSw); go_simp); with_reducible rfl
      simp only [List.set_cons_zero, List.set_cons_succ]
      refine wpAnyH_ready (rs := [9]) (by kernel_rfl) (by simp) (AllReadyH.cons rfl (fun Kreg hKreg => ?_) AllReadyH.nil)
      refine step_store (by rfl) (.tmp 4) (.tmp 24) (by rfl) (by rfl) (by rfl) (by first | exact sa | exact sb) ?_
      refine hKreg.out _ _ ((by first | exact hx1 | exact hx2 | exact hx3 | exact hx4 | exact hx5 | exact hx6 | exact hx7 | exact hx8)) (fun hHeld => ?_)
      clear hKreg Kreg
      try simp only [Act.put, List.setIfInBounds_toArray, List.set_cons_zero, List.set_cons_succ]
      refine take1 (i := 10) (d := 5) (v := ?_) rfl (by kernel_rfl) (by kernel_rfl) (by kernel_rfl) rfl (fun _ _ _ h => h) (Or.inl ⟨by rfl, ?_⟩) (by assumption) ?_
      rotate_left
      · (intro w hSw; (try dsimp only at hSw); go_simp); with_reducible rfl
      simp only [List.set_cons_zero, List.set_cons_succ]
      refine wpAnyH_done (by kernel_rfl) ?_ _
      go_wp2_with fail
      first
        | exact bodyPost_ret (v := .tuple #[.agg #[.int .u64 (bn : Int), .int .u8 (br : Int), .slice A2 (k + 1) k2], .int .i64 0]) (by simp [results, Try.results60, asAddr, HLA.out]) rfl HQA.out
        | exact bodyPost_ret (v := .tuple #[.agg #[.int .u64 (bn : Int), .int .u8 (br : Int), .slice A2' (k + 1) k2'], .int .i64 0]) (by simp [results, Try.results60, asAddr, HLB.out]) rfl HQB.out

end Go.Proofs.Ytbamfnlgapchkaa.Ele
