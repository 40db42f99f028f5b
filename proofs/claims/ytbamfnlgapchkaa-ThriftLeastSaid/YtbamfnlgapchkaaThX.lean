/- Package thrift, walked: Row, Heard, and what package slices does for it. Conditions: the memory lies in memory of its own. -/
import Derived.Test.YtbamfnlgapchkaaThW
import Derived.RangeFuncBox
namespace Go.Proofs.Ytbamfnlgapchkaa.Thr
open Go.RowKit Mem DrawInv Chn

theorem ThS.below {B g me : Nat} {row : List Nat} {v : Value} {w w' : World} (q : ThS B g me row v w) (hb : Below w.heap.size w w') : ThS B g me row v w' := ⟨q.hg.below hb q.hg.lt, own1_below q.ho hb (fun r hr => (q.ho.lt r hr).2), q.hB, q.ok, q.nz⟩
theorem ThS.ne {B g me : Nat} {row : List Nat} {v : Value} {w : World} (q : ThS B g me row v w) : v.ownBlock ≠ some g := own_blk_ne q.ho q.hg (by decide)
theorem trow_nil (w : World) : Calls Try.prog 36 #[.pointer none] w fun e w' => e = .returned (.slice none 0 0) ∧ w = w' := by
  go_enter Try.func36, Try.ntmps36
  go_wp2_with fail
  go_ret
  exact ⟨rfl, rfl⟩
/-- A copy of a row, in new memory. -/
def RowRet (w : World) (row : List Nat) (e : Ending) (w' : World) : Prop := ∃ u, e = .returned u ∧ (row = [] → u = .slice none 0 0) ∧ w'.ownsRow w.heap.size 5 1 u row.length (row.map u8v) ∧ Below w.heap.size w w'
theorem trow_any {B g me : Nat} {row : List Nat} {v : Value} {w : World} (q : ThS B g me row v w) : Calls Try.prog 36 #[.pointer (some ⟨g, 0, none⟩)] w fun e w' => RowRet w row e w' := by
  have hl := row_len q.ok
  have HC : Hid (Calls Try.prog 76 #[v] w fun e w' => RowRet w row e w') := by
    by_cases h0 : row = []
    · rw [q.nz h0]
      refine (tclone_nil w).mono ?_
      rintro e w' ⟨rfl, rfl⟩
      exact ⟨_, rfl, fun _ => rfl, by rw [h0]; exact World.ownsRow_nil _ _ _ _, Below.refl _ _⟩
    · have hp : 0 < row.length := List.length_pos_iff.2 h0
      obtain ⟨A, c, rfl, _, hr⟩ := Byt.own_slice1 q.ho
      refine (tclone_any row row.length hp (by omega) A c w hr).mono ?_
      rintro e w' ⟨u, rfl, ho, hb⟩
      exact ⟨u, rfl, fun h => absurd h h0, ho, hb⟩
  have g0 := q.hg.cell 0
  have g1 := q.hg.cell 1
  obtain ⟨A, c, hv, _, _⟩ := Byt.own_slice1 q.ho
  obtain ⟨n, hn⟩ : ∃ n, n = row.length := ⟨_, rfl⟩
  rw [← hn] at hv
  subst hv
  clear q hl hn
  go_enter Try.func36, Try.ntmps36
  go_wp2_with fail
  refine HC.out.mono ?_; rintro e w2 hrr
  obtain ⟨u, rfl, hu⟩ := hrr
  have HU := Lib.hid hu
  clear hu
  go_wp2_with fail
  go_ret
  exact ⟨u, rfl, HU.out⟩
/-- Is a node the one that a box holds? -/
theorem is_node (x node r : Nat) (w : World) (hr : w.cell? ⟨r, 0, none⟩ = some (.int .u8 (node : Int))) : Calls Try.prog 80 #[.int .u8 (x : Int), .pointer (some ⟨r, 0, none⟩)] w fun e w' => e = .returned (.bool (decide (x = node))) ∧ w = w' := by
  have hd : ((x : Int) == (node : Int)) = decide (x = node) := by
    by_cases h : x = node
    · rw [decide_eq_true h, h]; simp
    · rw [decide_eq_false h]; exact beq_eq_false_iff_ne.2 (by omega)
  generalize decide (x = node) = b at *
  go_enter Try.func80, Try.ntmps80
  go_wp2_with fail
  go_ret
  exact ⟨rfl, rfl⟩
set_option maxRecDepth 100000 in
set_option maxHeartbeats 2000000 in
theorem tindex_any (row : List Nat) (n node r : Nat) (hn : row.length = n) (hn7 : n ≤ 1000) (A : Option Addr) (c : Nat) (w : World) (hA : Reads w w.heap.size 1 A n (row.map u8v)) (hr : w.cell? ⟨r, 0, none⟩ = some (.int .u8 (node : Int)))
    (res : Int) (hres : (res = -1 ∧ node ∉ row) ∨ ∃ i : Nat, res = (i : Int) ∧ row[i]? = some node ∧ ∀ j, j < i → row[j]? ≠ some node) :
    Calls Try.prog 93 #[.slice A n c, .func (.func 80) #[] #[.pointer (some ⟨r, 0, none⟩)]] w fun e w' => e = .returned (.int .i64 res) ∧ w = w' := by
  have HR := Lib.hid hres
  have HN := Lib.hid hn
  have HI := Lib.hid (fun x => is_node x node r w hr)
  have HA := Lib.hid hA
  clear hres hn hA
  go_enter Try.func93, Try.ntmps93
  go_wp2_with fail
  go_loopg [8] n (fun gk v8 wr => ∃ i : Nat, i + gk = n ∧ v8 = .int .i64 (i : Int) ∧ Hid (∀ j, j < i → row[j]? ≠ some node) ∧ w = wr)
  case atStart => exact ⟨0, by omega, rfl, (fun j hj => by omega), rfl⟩
  case round =>
    obtain ⟨i, hi, rfl, hT, rfl⟩ := hrel
    by_cases h4 : i < n
    · have hk4 : (i : Int) < (n : Int) := by omega
      obtain ⟨ad, ux, rfl, hadl, hu, hcell⟩ := HA.out.at_ h4
      obtain ⟨x, hx, hux⟩ : ∃ x, row[i]? = some x ∧ ux = .int .u8 (x : Int) := by
        rw [List.getElem?_map] at hu
        cases hd : row[i]? with
        | none => rw [hd] at hu; cases hu
        | some y => rw [hd] at hu; exact ⟨y, rfl, (Option.some.inj hu).symm⟩
      subst hux
      have HC := Lib.hid (HI.out x)
      have HX := Lib.hid hx
      clear hx hu
      by_cases hq : x = node
      · rw [decide_eq_true hq] at HC
        have hf : res = (i : Int) := by
          rcases HR.out with ⟨_, h2⟩ | ⟨j, h1, h2, h3⟩
          · exact absurd (List.mem_of_getElem? (hq ▸ HX.out)) h2
          · rcases Nat.lt_trichotomy i j with h | h | h
            · exact absurd (hq ▸ HX.out) (h3 i h)
            · rw [h1, h]
            · exact absurd h2 (hT.out j h)
        subst hf
        clear HR hT HX hq
        go_wp2_with fail
        refine HC.out.mono ?_; rintro e w2 ⟨rfl, rfl⟩
        clear HC
        go_wp2_with fail
        go_ret
        exact ⟨rfl, rfl⟩
      · rw [decide_eq_false hq] at HC
        have HT2 : Hid (∀ j, j < i + 1 → row[j]? ≠ some node) := fun j hj hc => by
          rcases Nat.lt_or_ge j i with h | h
          · exact hT.out j h hc
          · obtain rfl : j = i := by omega
            rw [HX.out] at hc
            exact hq (Option.some.inj hc)
        clear HR hT HX hq
        go_wp2_with fail
        refine HC.out.mono ?_; rintro e w2 ⟨rfl, rfl⟩
        clear HC
        go_wp2_with fail
        go_roundg (n - (i + 1))
        case measure => omega
        case rel => exact ⟨i + 1, by omega, by go_num, HT2, rfl⟩
    · have hk4 : ¬ (i : Int) < (n : Int) := by omega
      have hf : res = -1 := by
        rcases HR.out with ⟨h1, _⟩ | ⟨j, h1, h2, h3⟩
        · exact h1
        · exact absurd h2 (hT.out j (by have := (List.getElem?_eq_some_iff.1 h2).1; have := HN.out; omega))
      subst hf
      go_wp2_with fail
      go_ret
      exact ⟨rfl, rfl⟩
/-- clear(s) of one byte. -/
theorem clear_u8 {w : World} {g : Nat} {cur : Array Value} (hg : Blk w g 5 cur) {o c : Nat} (ho : o < cur.size) : (Builtin.clear_ #[22] 0 #[.slice (some ⟨g, o, none⟩) 1 c]).run Try.prog w = .ok (.tuple #[]) (w.setCells g o [.int .u8 0]) := by
  have hzc : (Builtin.zeroCells (Value.int .u8 0).cells 1).toList = [.int .u8 0] := by simp [Builtin.zeroCells, Value.cells]
  have hth := blk_there (w := w) (n := 1) hg (by omega : o + 1 ≤ cur.size)
  have hst := run_storeCells_cells (P := Try.prog) g o [.int .u8 0] 0 w (by intro j hj; rw [Nat.add_zero]; exact (hth j (by simpa using hj)).1) (by intro j hj; rw [Nat.add_zero]; exact (hth j (by simpa using hj)).2) (by intro v hv'; rw [List.mem_singleton.1 hv']; rfl)
  simp only [Nat.add_zero] at hst
  simp [Builtin.clear_, run_underlying Try.underlying22, hzc, hst]
theorem slb_to (a : Option Addr) (n cap h : Nat) (hh : h ≤ cap) (w : World) : (Instr.slice 22 (.slice a n cap) none (some (.int .i64 (h : Int))) none).run Try.prog w = .ok (.slice a h cap) w := by
  rw [run_slice_h w 22 a n cap ht_tb .i64 (h : Int) (by omega) (by omega), size_tb]
  have hz : a.map (·.add (0 * 1)) = a := by cases a <;> simp [Addr.add]
  simp only [Result.andThen, sliced, hz, Int.toNat_natCast, Nat.sub_zero]
  split <;> rfl
/-- One node taken out of a row without repeats. -/
theorem filter_is : ∀ {row : List Nat} {i node : Nat}, row.Nodup → row[i]? = some node → (row.filter fun y => y != node) = row.eraseIdx i
  | [], _, _, _, h => by simp at h
  | x :: l, 0, node, hn, h => by
    obtain ⟨h1, h2⟩ := List.nodup_cons.1 hn
    simp at h
    subst h
    rw [List.filter_cons_of_neg (by simp), List.eraseIdx_zero, List.tail_cons]
    exact List.filter_eq_self.2 fun a ha => by simp; intro e; exact h1 (e ▸ ha)
  | x :: l, i + 1, node, hn, h => by
    obtain ⟨h1, h2⟩ := List.nodup_cons.1 hn
    have h' : l[i]? = some node := by simpa using h
    have hx : x ≠ node := fun e => h1 (e ▸ List.mem_of_getElem? h')
    rw [List.filter_cons_of_pos (by simpa using hx), List.eraseIdx_cons_succ, filter_is h2 h']
theorem filter_no {row : List Nat} {node : Nat} (h : node ∉ row) : (row.filter fun y => y != node) = row := List.filter_eq_self.2 fun a ha => by simp; intro e; exact h (e ▸ ha)
theorem erase_get {row : List Nat} {i0 j : Nat} {x : Nat} (hij : i0 < j) (hx : row[j]? = some x) : (row.eraseIdx i0)[j - 1]? = some x := by
  rw [List.getElem?_eraseIdx, if_neg (by omega), show j - 1 + 1 = j by omega]
  exact hx
theorem below_setCells {B g : Nat} (hg : B ≤ g) : ∀ (vs : List Value) {a w : World} (o : Nat), Below B a w → Below B a (w.setCells g o vs)
  | [], _, _, _, h => h
  | v :: vs, _, _, o, h => below_setCells hg vs (o + 1) (h.setCell (p := ⟨g, o, none⟩) hg v)
theorem nodup_get : ∀ {l : List Nat} {i j x : Nat}, l.Nodup → l[i]? = some x → l[j]? = some x → i = j
  | [], _, _, _, _, h, _ => by simp at h
  | y :: l, 0, 0, _, _, _, _ => rfl
  | y :: l, 0, j + 1, x, hn, h1, h2 => by
    simp at h1 h2; subst h1
    exact absurd (List.mem_of_getElem? h2) (List.nodup_cons.1 hn).1
  | y :: l, i + 1, 0, x, hn, h1, h2 => by
    simp at h1 h2; subst h2
    exact absurd (List.mem_of_getElem? h1) (List.nodup_cons.1 hn).1
  | y :: l, i + 1, j + 1, x, hn, h1, h2 => by
    exact congrArg (· + 1) (nodup_get (List.nodup_cons.1 hn).2 (by simpa using h1) (by simpa using h2))
/-- A row, one node of which is taken out. -/
def DelRet (B : Nat) (w0 : World) (row : List Nat) (e : Ending) (w' : World) : Prop := ∃ u, e = .returned u ∧ w'.ownsRow B 5 1 u row.length (row.map u8v) ∧ Below B w0 w'
set_option linter.unusedVariables false in
set_option maxRecDepth 100000 in
set_option maxHeartbeats 2000000 in
theorem tdel_any (row : List Nat) (hnd : row.Nodup) (n node r B : Nat) (hn : row.length = n) (hn7 : n ≤ 1000) (v : Value) (w : World) (ho : w.ownsRow B 5 1 v n (row.map u8v)) (hB : B ≤ w.heap.size) (hr : w.cell? ⟨r, 0, none⟩ = some (.int .u8 (node : Int))) (hrB : r < B) :
    Calls Try.prog 79 #[v, .func (.func 80) #[] #[.pointer (some ⟨r, 0, none⟩)]] w fun e w' => DelRet B w (row.filter fun y => y != node) e w' := by
  obtain ⟨A, cap, rfl, hnc, hrd⟩ := Byt.own_slice1 ho
  by_cases hmem : node ∈ row
  rotate_left
  · have HI := Lib.hid (tindex_any row n node r hn hn7 A cap w hrd hr (-1) (.inl ⟨rfl, hmem⟩))
    have HQ : Hid (DelRet B w (row.filter fun y => y != node) (.returned (.slice A n cap)) w) := ⟨_, rfl, by rw [filter_no hmem, hn]; exact ho, Below.refl _ _⟩
    clear hmem hnd hrd ho hn hB
    go_enter Try.func79, Try.ntmps79
    go_wp2_with fail
    refine HI.out.mono ?_; rintro e w2 ⟨rfl, rfl⟩
    go_wp2_with fail
    go_ret
    exact HQ.out
  obtain ⟨i0, hi0⟩ := List.getElem?_of_mem hmem
  have hi0n : i0 < n := by rw [← hn]; exact (List.getElem?_eq_some_iff.1 hi0).1
  have hother : ∀ j x, row[j]? = some x → j ≠ i0 → x ≠ node := fun j x hj hne he => by
    subst he
    exact hne (nodup_get hnd hj hi0)
  have HI := Lib.hid (tindex_any row n node r hn hn7 A cap w hrd hr (i0 : Int) (.inr ⟨i0, rfl, hi0, fun j hj he => hother j node he (by omega) rfl⟩))
  obtain ⟨ad0, hA, _⟩ := hrd.2 (by omega)
  subst hA
  have hform := ho.form (by omega)
  obtain ⟨g, cap', hv, hBg, hgl⟩ := hform
  cases hv
  obtain ⟨cur, hg, _, _, hm, hsz, hta⟩ := own_cells ho
  rw [Nat.mul_one] at hsz hta
  obtain ⟨ad, had⟩ : ∃ ad : Addr, ad = ⟨g, 0, none⟩ := ⟨_, rfl⟩
  have HAD : Hid (∀ j, ad.add j = ⟨g, j, none⟩) := fun j => by subst had; unfold Addr.add; by_cases h : j = 0 <;> simp [h]
  have hlt := (List.getElem?_eq_some_iff.1 hi0).1
  have hcur : ∀ k, k < n → cur[k]? = (row.map u8v)[k]? := fun k hk => by rw [← hta, List.getElem?_take, if_pos hk, Array.getElem?_toList]
  have HF : Hid ((row.filter fun y => y != node) = row.eraseIdx i0) := filter_is hnd hi0
  have HO := Lib.hid hother
  have HLE : Hid ((row.eraseIdx i0).length = n - 1) := by show _ = _; rw [List.length_eraseIdx, if_pos hlt, hn]
  have HT0 : Hid (cur.toList.take i0 = ((row.eraseIdx i0).take i0).map u8v) := by
    show _ = _
    have e1 : cur.toList.take i0 = (row.map u8v).take i0 := by rw [← hta, List.take_take, Nat.min_eq_left (by omega)]
    rw [e1, ← List.map_take]
    congr 1
    rw [List.eraseIdx_eq_take_drop_succ, List.take_append, List.take_take, Nat.min_self, List.length_take, Nat.min_eq_left (by omega), Nat.sub_self, List.take_zero, List.append_nil]
  have HH := Lib.hid (And.intro hcur (And.intro hm (And.intro hBg (And.intro hrB hB))))
  have HN := Lib.hid hn
  have hne1 : ((i0 : Int) == -1) = false := beq_eq_false_iff_ne.2 (by omega)
  rw [← had] at HI ⊢
  clear had hta hcur ho hrd hmem hnd hi0 hother hlt hn hB hrB hm hBg
  go_enter Try.func79, Try.ntmps79
  go_wp2_with fail
  refine HI.out.mono ?_; rintro e w2 ⟨rfl, rfl⟩
  clear HI
  go_wp2_with fail
  clear hne1
  have HB0 := Below.refl B w
  go_loopg [5, 6] (n - (i0 + 1)) (fun gk v5 v6 wr => ∃ (i : Nat) (cs : Array Value), i + 1 + gk = n ∧ v5 = .int .i64 (i : Int) ∧ v6 = .int .i64 ((i + 1 : Nat) : Int) ∧ Hid (i0 ≤ i) ∧ Blk wr g 5 cs ∧ Hid (cs.size = cap) ∧ Hid (cs.toList.take i = ((row.eraseIdx i0).take i).map u8v) ∧ Hid (∀ k, i < k → k < n → cs[k]? = (row.map u8v)[k]?) ∧ Below B w wr)
  case atStart => exact ⟨i0, cur, by omega, rfl, by go_num, Nat.le_refl _, hg, hsz, HT0.out, (fun k h1 h2 => HH.out.1 k h2), HB0⟩
  case round =>
    clear hg HT0 HB0 hsz
    obtain ⟨i, cs, hi, rfl, rfl, hii, hg, hsz, hT, hK, bw⟩ := hrel
    obtain ⟨j, hj⟩ : ∃ j, j = i + 1 := ⟨_, rfl⟩
    rw [← hj]
    by_cases h4 : j < n
    · have hk4 : (j : Int) < (n : Int) := by omega
      obtain ⟨x, hx⟩ : ∃ x, row[j]? = some x := ⟨_, List.getElem?_eq_getElem (by rw [HN.out]; exact h4)⟩
      have hcj : cs[j]? = some (.int .u8 (x : Int)) := by rw [hK.out j (by omega) h4, List.getElem?_map, hx]; rfl
      have c0 : wr.cell? (ad.add j) = some (.int .u8 (x : Int)) := by rw [HAD.out]; exact (hg.cell j).trans hcj
      have hrr := (bw.cell (p := ⟨r, 0, none⟩) HH.out.2.2.2.1).trans hr
      have HC := Lib.hid (is_node x node r wr hrr)
      have hxn := HO.out j x hx (by have := hii.out; omega)
      rw [decide_eq_false hxn] at HC
      obtain ⟨u, hu⟩ : ∃ u, wr.cell? (ad.add i) = some u := ⟨cs[i]'(by have := hsz.out; omega), by rw [HAD.out, hg.cell]; exact Array.getElem?_eq_getElem _⟩
      have f0 : wr.frozen? (ad.add i) = false := by rw [HAD.out]; exact hg.frozen i
      have HS : Hid (Blk (wr.setCell (ad.add i) (.int .u8 (x : Int))) g 5 (cs.setIfInBounds i (.int .u8 (x : Int)))) := by show Blk _ _ _ _; rw [HAD.out]; exact hg.set_ i _
      have HBW : Hid (Below B w (wr.setCell (ad.add i) (.int .u8 (x : Int)))) := bw.setCell (by rw [HAD.out]; exact HH.out.2.2.1) _
      have HT2 : Hid ((cs.setIfInBounds i (.int .u8 (x : Int))).toList.take (i + 1) = ((row.eraseIdx i0).take (i + 1)).map u8v) := by
        show _ = _
        have e1 : (row.eraseIdx i0)[i]? = some x := by have := erase_get (i0 := i0) (j := j) (by have := hii.out; omega) hx; rwa [show j - 1 = i by omega] at this
        rw [Array.toList_setIfInBounds, List.take_add_one, List.take_add_one, e1, List.take_set_of_le (Nat.le_refl _), hT.out, List.map_append]
        rw [List.getElem?_set_self (by have := hsz.out; simp; omega)]
        rfl
      have HK2 : Hid (∀ k, i + 1 < k → k < n → (cs.setIfInBounds i (.int .u8 (x : Int)))[k]? = (row.map u8v)[k]?) := fun k h1 h2 => by
        rw [Array.getElem?_setIfInBounds_ne (by omega)]
        exact hK.out k (by omega) h2
      have HSZ2 : Hid ((cs.setIfInBounds i (.int .u8 (x : Int))).size = cap) := by show _ = _; rw [Array.size_setIfInBounds]; exact hsz.out
      have HJ := Lib.hid hj
      have HI2 := Lib.hid hi
      have hin1 : i < n := by omega
      have hin2 : (i : Int) < (n : Int) := by omega
      clear hcj hx hK hT hxn hg hrr bw hj hi h4
      go_wp2_with fail
      refine HC.out.mono ?_; rintro e w3 ⟨rfl, rfl⟩
      clear HC
      go_wp2_with fail
      go_roundg (n - (j + 1))
      case measure => have := HJ.out; have := HI2.out; omega
      case rel => exact ⟨i + 1, _, by have := HJ.out; have := HI2.out; omega, by go_num, by rw [HJ.out]; go_num, by have := hii.out; show _ ≤ _; omega, HS.out, HSZ2, HT2, HK2, HBW.out⟩
    · have hk4 : ¬ (j : Int) < (n : Int) := by omega
      have hin : i + 1 = n := by omega
      have hcut : cut1 (some ad) i cap = some ⟨g, i, none⟩ := by
        unfold cut1
        rw [if_neg (by have := hsz.out; have : n ≤ cap := hnc; omega), Option.map_some, Nat.mul_one, HAD.out]
      have h1 : ∀ W, (Instr.slice 22 (.slice (some ad) n cap) (some (.int .i64 (i : Int))) none none).run Try.prog W = .ok (.slice (some ⟨g, i, none⟩) 1 (cap - i)) W := fun W => by
        rw [slb_from (some ad) n cap i (by omega) hnc W, hcut, show n - i = 1 by omega]
      have h2 : ∀ W, (Instr.slice 22 (.slice (some ad) n cap) none (some (.int .i64 (i : Int))) none).run Try.prog W = .ok (.slice (some ad) i cap) W := fun W => slb_to (some ad) n cap i (by omega) W
      have hclr := clear_u8 hg (o := i) (c := cap - i) (by have := hsz.out; omega)
      have hgz := hg.setCells [.int .u8 0] i
      have bz : Below B w (wr.setCells g i [.int .u8 0]) := below_setCells HH.out.2.2.1 _ i bw
      have HQ : Hid (DelRet B w (row.filter fun y => y != node) (.returned (.slice (some ad) i cap)) (wr.setCells g i [.int .u8 0])) := by
        refine ⟨_, rfl, ?_, bz⟩
        have e0 : ad = ⟨g, 0, none⟩ := by have := HAD.out 0; rwa [show ad.add 0 = ad by simp [Addr.add]] at this
        have hle := HLE.out
        rw [HF.out, hle, show n - 1 = i by omega, e0]
        refine own_of_cells (by rw [List.length_map, hle]; omega) hgz HH.out.2.2.1 (by omega) HH.out.2.1 (by rw [putA_size, Nat.mul_one]; exact hsz.out) ?_
        rw [Nat.mul_one, putA_take _ _ _ _ (Nat.le_refl _), hT.out, List.take_of_length_le (by omega)]
      generalize wr.setCells g i [.int .u8 0] = wz at *
      clear hcut hgz bz bw hK hT hg
      go_wp2_with (first | refine wpList_run_slice (t := 22) (x := .tmp 36) (lo := some (.tmp 37)) (hi := none) (mx := none) (by rfl) (by rfl) ht_tb (by rfl) (by rfl) (by rfl) (by rfl) (h1 _) ?_ | refine wpList_run_slice (t := 22) (x := .tmp 39) (lo := none) (hi := some (.tmp 40)) (mx := none) (by rfl) (by rfl) ht_tb (by rfl) (by rfl) (by rfl) (by rfl) (h2 _) ?_ | refine wpList_run_clear (by rfl) (.tmp 38) 22 (by rfl) (by rfl) hclr ?_)
      go_ret
      exact HQ.out
end Go.Proofs.Ytbamfnlgapchkaa.Thr
