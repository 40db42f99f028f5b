/- What package slices does to rows of commands, and where a client's command waits, walked. Conditions: the rows can be read. -/
import Derived.Test.YtgpdggojajjppaaBatP
import Derived.Test.YtgpdggojajjppaaBatRow
import Derived.Test.YtgpdggojajjppaaOpenRows
import Derived.Test.YtgpdggojajjppaaCmdTake
import Derived.Test.YtgpdggojajjppaaInvS
import Derived.Deep.LoopGhost
namespace Go.Proofs.Ytgpdggojajjppaa.Bat
open Go.RowKit Wire Cmd DrawInv

theorem info_cmd : ∃ i, Try.prog.info? 36 = some i ∧ i.size = 7 ∧ i.zero = some (.agg #[.int .u8 0, .int .u32 0, .int .u8 0, .string ⟨#[]⟩, .string ⟨#[]⟩, .string ⟨#[]⟩, .int .u8 0]) ∧ i.bytes = 72 := by
  cases h : Try.prog.info? 36 with
  | none =>
    have : (Try.prog.info? 36).isSome = true := by kernel_rfl
    rw [h] at this
    cases this
  | some i =>
    have e1 : (Try.prog.info? 36).map (·.size) = some 7 := by kernel_rfl
    have e2 : (Try.prog.info? 36).map (·.zero) = some (some (.agg #[.int .u8 0, .int .u32 0, .int .u8 0, .string ⟨#[]⟩, .string ⟨#[]⟩, .string ⟨#[]⟩, .int .u8 0])) := by kernel_rfl
    have e3 : (Try.prog.info? 36).map (·.bytes) = some 72 := by kernel_rfl
    rw [h] at e1 e2 e3
    exact ⟨i, rfl, Option.some.inj e1, Option.some.inj e2, Option.some.inj e3⟩
theorem own_one (w : World) (t : TypeId) : (w.alloc (.cells #[] t)).ownsRow w.heap.size t 7 (.slice (some ⟨w.heap.size, 0, none⟩) 0 0) 0 [] :=
  ⟨rfl, .inr ⟨_, 0, #[], rfl, Nat.le_refl _, heap_alloc_new w _, Nat.le_refl _, Nat.zero_le _, rfl, rfl⟩⟩
/-- append, told as a row grows. -/
theorem app_any {w : World} {base : Nat} (hb : base ≤ w.heap.size) {v : Value} {l m : List Cm} (ho : w.ownsRow base 36 7 v l.length (l.flatMap cmL)) {A : Option Addr} {c : Nat} (hr : Rows w A 7 cmL m) (hn : l.length + m.length ≤ 1000000) (ty : TypeId) :
    ∃ v' w', (Builtin.append_ #[30, 30] ty #[v, .slice A m.length c]).run Try.prog w = .ok v' w' ∧ w'.ownsRow base 36 7 v' (l ++ m).length ((l ++ m).flatMap cmL) ∧ w.grownBy w' v.ownBlock ∧ (v'.ownBlock = v.ownBlock ∨ v'.ownBlock = some w.heap.size) := by
  obtain ⟨i, hi, hs, hz, hby⟩ := info_cmd
  obtain ⟨v', w', h1, h2, h3, h4⟩ := run_append_any (P := Try.prog) w base 30 ty 36 i _ 7 72 Try.underlying30 hi hz hs hby rfl (by omega) v l.length _ ho w.heap.size A m.length c _ (rows_reads cmL_len (by omega) hr) (flat_one cmL_one m) (by unfold maxLen; omega) (by omega) hb
  exact ⟨v', w', h1, by rw [List.length_append, List.flatMap_append]; exact h2, h3, h4⟩
set_option maxRecDepth 100000 in
theorem clone_any (l : List Cm) (hl : l.length ≤ 100000) (A : Option Addr) (c : Nat) (w : World) (hr : Rows w A 7 cmL l) (hA : l = [] ∨ A.isSome = true) :
    Calls Try.prog 53 #[.slice A l.length c] w fun e w' => ∃ v, e = .returned v ∧ w'.ownsRow w.heap.size 36 7 v l.length (l.flatMap cmL) ∧ Below w.heap.size w w' := by
  cases A with
  | none =>
    obtain rfl : l = [] := by
      rcases hA with h | h
      · exact h
      · cases h
    have hq : (binOp .eql 30 (.slice none 0 c) (.slice none 0 0)).run Try.prog w = .ok (.bool true) w := Lib.run_eql_slice_nil (P := Try.prog) w 30 36 none 0 c 0 0 Try.underlying30
    go_enter Try.func53, Try.ntmps53
    go_wp2_with fail
    go_ret
    exact ⟨_, rfl, World.ownsRow_nil _ _ _ _, Below.refl _ _⟩
  | some ad =>
    have hb : Below w.heap.size w (w.alloc (.cells #[] 36)) := (Below.refl _ w).alloc (Nat.le_refl _) _
    have ho := own_one w 36
    obtain ⟨v, w2, happ, hown, hgr, _⟩ := app_any (base := w.heap.size) (l := []) (m := l) (by simp) ho (hr.below hb) (c := c) (by simp; omega) 30
    have hq : (binOp .eql 30 (.slice (some ad) l.length c) (.slice none 0 0)).run Try.prog w = .ok (.bool false) w := Lib.run_eql_slice_nil (P := Try.prog) w 30 36 (some ad) l.length c 0 0 Try.underlying30
    have hbz : (Instr.buildSlice 30 0 #[]).run Try.prog w = .ok (.slice (some ⟨w.heap.size, 0, none⟩) 0 0) (w.alloc (.cells #[] 36)) := by go_simp
    have HB := Lib.hid (hb.grown hgr hb.size (fun k hk => by cases hk; exact Nat.le_refl _))
    have HO := Lib.hid hown
    clear ho hgr hown hr
    go_enter Try.func53, Try.ntmps53
    go_wp2_with (refine wpList_run_append (by rfl) (.tmp 5) (.tmp 6) 30 (by rfl) (by rfl) (by rfl) happ ?_)
    go_ret
    exact ⟨_, rfl, HO.out, HB.out⟩
/-- The function that find hands on. -/
theorem is_any (x : Cm) (k r : Nat) (w : World) (hr : w.cell? ⟨r, 0, none⟩ = some (.int .u8 (k : Int))) : Calls Try.prog 68 #[cmV x, .pointer (some ⟨r, 0, none⟩)] w fun e w' => e = .returned (.bool (decide (x.client = k))) ∧ Below w.heap.size w w' := by
  obtain ⟨xa, xb, xk, xs, xt, xu, xz⟩ := x
  unfold cmV cmC
  dsimp only
  have kn := Blk.new w 36 #[.int .u8 (xa : Int), .int .u32 (xb : Int), .int .u8 (xk : Int), .string ⟨xs.toArray⟩, .string ⟨xt.toArray⟩, .string ⟨xu.toArray⟩, .int .u8 (xz : Int)]
  have bw : Below w.heap.size w (w.alloc (.cells #[.int .u8 (xa : Int), .int .u32 (xb : Int), .int .u8 (xk : Int), .string ⟨xs.toArray⟩, .string ⟨xt.toArray⟩, .string ⟨xu.toArray⟩, .int .u8 (xz : Int)] 36)) := (Below.refl _ w).alloc (Nat.le_refl _) _
  have hr1 : (w.alloc (.cells #[.int .u8 (xa : Int), .int .u32 (xb : Int), .int .u8 (xk : Int), .string ⟨xs.toArray⟩, .string ⟨xt.toArray⟩, .string ⟨xu.toArray⟩, .int .u8 (xz : Int)] 36)).cell? ⟨r, 0, none⟩ = some (.int .u8 (k : Int)) := (bw.cell (cell_lt hr)).trans hr
  have h0 := kn.cell 0
  have hd : ((xa : Int) == (k : Int)) = decide (xa = k) := by
    by_cases h : xa = k
    · rw [decide_eq_true h, h]; simp
    · rw [decide_eq_false h]; exact beq_eq_false_iff_ne.2 (by omega)
  generalize decide (xa = k) = b at *
  clear kn
  go_enter Try.func68, Try.ntmps68
  go_wp2_with fail
  go_ret
  exact ⟨rfl, bw⟩
def IdxAt (l : List Cm) (k : Nat) (w : World) (gk : Nat) (vi : Value) (wr : World) : Prop :=
  ∃ i : Nat, i + gk = l.length ∧ vi = .int .i64 (i : Int) ∧ Hid (∀ j, j < i → ∀ c : Cm, l[j]? = some c → c.client ≠ k) ∧ Below w.heap.size w wr
set_option maxRecDepth 100000 in
set_option maxHeartbeats 4000000 in
theorem index_any (l : List Cm) (hl : l.length ≤ 100000) (A : Option Addr) (c k r : Nat) (w : World) (hA : Rows w A 7 cmL l) (hr : w.cell? ⟨r, 0, none⟩ = some (.int .u8 (k : Int))) :
    Calls Try.prog 67 #[.slice A l.length c, .func (.func 68) #[] #[.pointer (some ⟨r, 0, none⟩)]] w fun e w' => e = .returned (.int .i64 (findI l k)) ∧ Below w.heap.size w w' := by
  obtain ⟨res, hres⟩ : ∃ x, x = findI l k := ⟨_, rfl⟩
  rw [← hres]
  have HR := Lib.hid hres
  have HI := Lib.hid (fun x W h => is_any x k r W h)
  have hrl := cell_lt hr
  clear hres
  go_enter Try.func67, Try.ntmps67
  go_wp2_with fail
  go_loopg [8] l.length (fun gk i wr => IdxAt l k w gk i wr)
  case atStart => exact ⟨0, by omega, rfl, (fun j hj => by omega), Below.refl _ _⟩
  case round =>
    obtain ⟨i, hi, rfl, hT, bw⟩ := hrel
    by_cases h4 : i < l.length
    · have hk4 : (i : Int) < (l.length : Int) := by omega
      obtain ⟨x, hx⟩ : ∃ x, l[i]? = some x := ⟨_, List.getElem?_eq_getElem h4⟩
      obtain ⟨ad, rfl, hadl, a0, a1⟩ := hA.at_ hx
      have hr1 := (bw.cell (p := ⟨r, 0, none⟩) hrl).trans hr
      obtain ⟨xa, xb, xk, xs, xt, xu, xz⟩ := x
      have c0 : wr.cell? (ad.add (i * 7)) = some (.int .u8 (xa : Int)) := (bw.cell (by show (ad.add (i * 7)).block < _; rw [block_of_add]; exact hadl)).trans (a0 _ rfl)
      have c1 : wr.cell? { block := (ad.add (i * 7)).block, off := (ad.add (i * 7)).off + 1 } = some (.int .u32 (xb : Int)) := (bw.cell (by show (ad.add (i * 7)).block < _; rw [block_of_add]; exact hadl)).trans (a1 0 _ rfl)
      have c2 : wr.cell? { block := (ad.add (i * 7)).block, off := (ad.add (i * 7)).off + 2 } = some (.int .u8 (xk : Int)) := (bw.cell (by show (ad.add (i * 7)).block < _; rw [block_of_add]; exact hadl)).trans (a1 1 _ rfl)
      have c3 : wr.cell? { block := (ad.add (i * 7)).block, off := (ad.add (i * 7)).off + 3 } = some (.string ⟨xs.toArray⟩) := (bw.cell (by show (ad.add (i * 7)).block < _; rw [block_of_add]; exact hadl)).trans (a1 2 _ rfl)
      have c4 : wr.cell? { block := (ad.add (i * 7)).block, off := (ad.add (i * 7)).off + 4 } = some (.string ⟨xt.toArray⟩) := (bw.cell (by show (ad.add (i * 7)).block < _; rw [block_of_add]; exact hadl)).trans (a1 3 _ rfl)
      have c5 : wr.cell? { block := (ad.add (i * 7)).block, off := (ad.add (i * 7)).off + 5 } = some (.string ⟨xu.toArray⟩) := (bw.cell (by show (ad.add (i * 7)).block < _; rw [block_of_add]; exact hadl)).trans (a1 4 _ rfl)
      have c6 : wr.cell? { block := (ad.add (i * 7)).block, off := (ad.add (i * 7)).off + 6 } = some (.int .u8 (xz : Int)) := (bw.cell (by show (ad.add (i * 7)).block < _; rw [block_of_add]; exact hadl)).trans (a1 5 _ rfl)
      have HC := Lib.hid (HI.out ⟨xa, xb, xk, xs, xt, xu, xz⟩ wr hr1)
      have HX := Lib.hid hx
      clear a0 a1 hx
      unfold cmV cmC at HC
      by_cases hq : xa = k
      · rw [show decide ((⟨xa, xb, xk, xs, xt, xu, xz⟩ : Cm).client = k) = true from decide_eq_true hq] at HC
        have hf : res = (i : Int) := by
          rw [HR.out]
          unfold findI
          rw [find_is HX.out hq hT.out]
        subst hf
        clear HR hT HX hq
        go_wp2_with fail
        refine HC.out.mono ?_; rintro e w2 ⟨rfl, B2⟩
        have bz := bw.trans (B2.mono bw.size)
        clear HC
        go_wp2_with fail
        go_ret
        exact ⟨rfl, bz⟩
      · rw [show decide ((⟨xa, xb, xk, xs, xt, xu, xz⟩ : Cm).client = k) = false from decide_eq_false hq] at HC
        have HT2 : Hid (∀ j, j < i + 1 → ∀ c : Cm, l[j]? = some c → c.client ≠ k) := fun j hj c hc => by
          rcases Nat.lt_or_ge j i with h | h
          · exact hT.out j h c hc
          · obtain rfl : j = i := by omega
            rw [HX.out] at hc
            cases hc
            exact hq
        clear HR hT HX hq
        go_wp2_with fail
        refine HC.out.mono ?_; rintro e w2 ⟨rfl, B2⟩
        have bz := bw.trans (B2.mono bw.size)
        clear HC B2
        go_wp2_with fail
        go_roundg (l.length - (i + 1))
        case measure => omega
        case rel => exact ⟨i + 1, by omega, by go_num, HT2, bz⟩
    · have hk4 : ¬ (i : Int) < (l.length : Int) := by omega
      have hf : res = -1 := by
        rw [HR.out]
        unfold findI
        rw [find_isnone (fun j c hc => hT.out j (by have := (List.getElem?_eq_some_iff.1 hc).1; omega) c hc)]
      subst hf
      go_wp2_with fail
      go_ret
      exact ⟨rfl, bw⟩
/-- A queue's row lies in its own block. -/
def QRow (w : World) (g : Nat) (A : Option Addr) (n c : Nat) : Prop := Blk w g 105 #[.slice A n c]
set_option maxRecDepth 100000 in
theorem find_any (g : Nat) (l : List Cm) (hl : l.length ≤ 100000) (A : Option Addr) (c k : Nat) (w : World) (hA : Rows w A 7 cmL l) (hg : QRow w g A l.length c) :
    Calls Try.prog 54 #[.pointer (some ⟨g, 0, none⟩), .int .u8 (k : Int)] w fun e w' => e = .returned (.int .i64 (findI l k)) ∧ Below w.heap.size w w' := by
  have kn := Blk.new w 5 #[.int .u8 (k : Int)]
  have bw : Below w.heap.size w (w.alloc (.cells #[.int .u8 (k : Int)] 5)) := (Below.refl _ w).alloc (Nat.le_refl _) _
  have g1 : (w.alloc (.cells #[.int .u8 (k : Int)] 5)).cell? ⟨g, 0, none⟩ = some (.slice A l.length c) := (Blk.alloc hg _).cell 0
  have HC := Lib.hid (index_any l hl A c k w.heap.size _ (hA.below bw) (kn.cell 0))
  clear kn hg hA
  go_enter Try.func54, Try.ntmps54
  go_wp2_with fail
  refine HC.out.mono ?_; rintro e w2 ⟨rfl, B2⟩
  have bz := bw.trans (B2.mono bw.size)
  go_wp2_with fail
  go_ret
  exact ⟨rfl, bz⟩
/-- Slices cut. -/
def cutA (a : Option Addr) (l cap : Nat) : Option Addr := if cap = l then a else a.map (·.add (l * 7))
theorem add_zero (a : Addr) : a.add 0 = a := by simp [Addr.add]
theorem map_add0 (a : Option Addr) : a.map (·.add (0 * 7)) = a := by cases a <;> simp [add_zero]
theorem elem_ts : Try.prog.elem 30 = 36 := by kernel_rfl
theorem ht_ts : Try.prog.underlying 30 = some (.slice (Try.prog.elem 30)) := by rw [elem_ts]; exact Try.underlying30
theorem size_ts (w : World) : (sizeOf (Try.prog.elem 30)).run Try.prog w = .ok 7 w := by
  obtain ⟨i, hi, hs, _⟩ := info_cmd
  rw [elem_ts]
  simp [sizeOf, typeInfo, hi, hs]
theorem sl_to (a : Option Addr) (n cap h : Nat) (hh : h ≤ cap) (w : World) : (Instr.slice 30 (.slice a n cap) none (some (.int .i64 (h : Int))) none).run Try.prog w = .ok (.slice a h cap) w := by
  rw [run_slice_h w 30 a n cap ht_ts .i64 (h : Int) (by omega) (by omega), size_ts]
  simp only [Result.andThen, sliced, map_add0, Int.toNat_natCast, Nat.sub_zero]
  split <;> rfl
theorem sl_to3 (a : Option Addr) (n cap h : Nat) (hh : h ≤ cap) (w : World) : (Instr.slice 30 (.slice a n cap) none (some (.int .i64 (h : Int))) (some (.int .i64 (h : Int)))).run Try.prog w = .ok (.slice a h h) w := by
  rw [run_slice_hm w 30 a n cap ht_ts .i64 .i64 (h : Int) (h : Int) (by omega) (by omega) (by omega), size_ts]
  simp only [Result.andThen, sliced, map_add0, Int.toNat_natCast, Nat.sub_zero]
  split <;> rfl
theorem sl_from (a : Option Addr) (n cap l : Nat) (hl : l ≤ n) (_hn : n ≤ cap) (w : World) : (Instr.slice 30 (.slice a n cap) (some (.int .i64 (l : Int))) none none).run Try.prog w = .ok (.slice (cutA a l cap) (n - l) (cap - l)) w := by
  rw [run_slice_l w 30 a n cap ht_ts .i64 (l : Int) (by omega) (by omega), size_ts]
  simp only [Result.andThen, sliced, Int.toNat_natCast, cutA]
theorem sl_mid (a : Option Addr) (n cap l h : Nat) (hl : l ≤ h) (hh : h ≤ cap) (w : World) : (Instr.slice 30 (.slice a n cap) (some (.int .i64 (l : Int))) (some (.int .i64 (h : Int))) none).run Try.prog w = .ok (.slice (cutA a l cap) (h - l) (cap - l)) w := by
  rw [run_slice_lh w 30 a n cap ht_ts .i64 .i64 (l : Int) (h : Int) (by omega) (by omega) (by omega), size_ts]
  simp only [Result.andThen, sliced, Int.toNat_natCast, cutA]
theorem sl_chk (a : Option Addr) (n cap l h m : Nat) (hl : l ≤ h) (hh : h ≤ m) (hm : m ≤ cap) (w : World) : ∃ v, (Instr.slice 30 (.slice a n cap) (some (.int .i64 (l : Int))) (some (.int .i64 (h : Int))) (some (.int .i64 (m : Int)))).run Try.prog w = .ok v w := by
  rw [run_slice_lhm w 30 a n cap ht_ts .i64 .i64 .i64 (l : Int) (h : Int) (m : Int) (by omega) (by omega) (by omega) (by omega), size_ts]
  exact ⟨_, rfl⟩
theorem zero_cmd (w : World) : (zeroValue 36).run Try.prog w = .ok (.agg #[.int .u8 0, .int .u32 0, .int .u8 0, .string ⟨#[]⟩, .string ⟨#[]⟩, .string ⟨#[]⟩, .int .u8 0]) w := by
  obtain ⟨i, hi, _, hz, _⟩ := info_cmd
  simp [zeroValue, typeInfo, hi, hz]
set_option linter.unusedSimpArgs false in
set_option maxRecDepth 100000 in
set_option maxHeartbeats 4000000 in
/-- slices.Delete of one. -/
theorem delete_any (l : List Cm) (n cap g i base : Nat) (hn : n = l.length) (hi : i < n) (w : World) (ho : w.ownsRow base 36 7 (.slice (some ⟨g, 0, none⟩) n cap) n (l.flatMap cmL)) (hs : n ≤ 100000) :
    Calls Try.prog 55 #[.slice (some ⟨g, 0, none⟩) n cap, .int .i64 (i : Int), .int .i64 ((i : Int) + 1)] w fun e w' => e = .returned (.slice (some ⟨g, 0, none⟩) (n - 1) cap) ∧
      w'.ownsRow base 36 7 (.slice (some ⟨g, 0, none⟩) (n - 1) cap) (n - 1) ((l.eraseIdx i).flatMap cmL) ∧ w.grownBy w' (some g) := by
  obtain ⟨cur, hg, hb, hnc, hm, hsz, hta⟩ := own_cells ho
  obtain ⟨a, haA, haE⟩ : ∃ a, cutA (some ⟨g, 0, none⟩) (i + 1) cap = some a ∧ (i + 1 < n → a = ⟨g, (i + 1) * 7, none⟩) := by
    unfold cutA
    by_cases h : cap = i + 1
    · exact ⟨_, if_pos h, fun h' => by omega⟩
    · refine ⟨_, if_neg h, fun _ => ?_⟩
      simp [Addr.add]
  obtain ⟨i0, hi0, hi1, _⟩ := info_cmd
  obtain ⟨w2, happ, ho2, hg2⟩ := run_append_del (P := Try.prog) (cells := cmL) (ty := 30) cmL_len cmL_one Try.underlying30 hi0 hi1 hn (w := w.drew) ho hi (a := a) (c := cap - (i + 1)) haE
  obtain ⟨cur2, hk2, _, _, _, hs2, _⟩ := own_cells ho2
  have hadd : (⟨g, 0, none⟩ : Addr).add ((n - 1) * 7) = ⟨g, (n - 1) * 7, none⟩ := by
    unfold Addr.add
    by_cases h : (n - 1) * 7 = 0 <;> simp [h]
  have hclr := run_clear_one (P := Try.prog) (t := 30) (ty := 0) (z := #[.int .u8 0, .int .u32 0, .int .u8 0, .string ⟨#[]⟩, .string ⟨#[]⟩, .string ⟨#[]⟩, .int .u8 0]) Try.underlying30 zero_cmd rfl hk2 (o := (n - 1) * 7) (c := cap - (n - 1)) (by rw [hs2]; show (n - 1) * 7 + 7 ≤ cap * 7; omega)
  have ho3 := own_behind ho2 (#[.int .u8 0, .int .u32 0, .int .u8 0, .string ⟨#[]⟩, .string ⟨#[]⟩, .string ⟨#[]⟩, .int .u8 0] : Array Value).toList (o := (n - 1) * 7) (Nat.le_refl _)
  have hg3 : w.grownBy (w2.setCells g ((n - 1) * 7) (#[.int .u8 0, .int .u32 0, .int .u8 0, .string ⟨#[]⟩, .string ⟨#[]⟩, .string ⟨#[]⟩, .int .u8 0] : Array Value).toList) (some g) := by
    have h := grown_setCells (#[.int .u8 0, .int .u32 0, .int .u8 0, .string ⟨#[]⟩, .string ⟨#[]⟩, .string ⟨#[]⟩, .int .u8 0] : Array Value).toList ((n - 1) * 7) hg2
    exact ⟨h.os, h.tape, h.output, h.size, h.block⟩
  generalize w2.setCells g ((n - 1) * 7) (#[.int .u8 0, .int .u32 0, .int .u8 0, .string ⟨#[]⟩, .string ⟨#[]⟩, .string ⟨#[]⟩, .int .u8 0] : Array Value).toList = w3 at *
  have h1 : ∀ W, (Instr.slice 30 (.slice (some ⟨g, 0, none⟩) n cap) none (some (.int .i64 (i : Int))) none).run Try.prog W = .ok (.slice (some ⟨g, 0, none⟩) i cap) W := fun W => sl_to _ n cap i (by omega) W
  have h2 : ∀ W, (Instr.slice 30 (.slice (some ⟨g, 0, none⟩) n cap) (some (.int .i64 ((i : Int) + 1))) none none).run Try.prog W = .ok (.slice (some a) (n - (i + 1)) (cap - (i + 1))) W := fun W => by
    rw [show ((i : Int) + 1) = ((i + 1 : Nat) : Int) by omega, sl_from _ n cap (i + 1) (by omega) hnc W, haA]
  have h3 : ∀ W, (Instr.slice 30 (.slice (some ⟨g, 0, none⟩) (n - 1) cap) (some (.int .i64 ((n - 1 : Nat) : Int))) (some (.int .i64 (n : Int))) none).run Try.prog W = .ok (.slice (some ⟨g, (n - 1) * 7, none⟩) 1 (cap - (n - 1))) W := fun W => by
    rw [sl_mid _ (n - 1) cap (n - 1) n (by omega) hnc W]
    unfold cutA
    rw [if_neg (by omega), Option.map_some, hadd, show n - (n - 1) = 1 by omega]
  obtain ⟨v4, h4⟩ : ∃ v, (Instr.slice 30 (.slice (some ⟨g, 0, none⟩) n cap) (some (.int .i64 (i : Int))) (some (.int .i64 ((i : Int) + 1))) (some (.int .i64 (n : Int)))).run Try.prog w = .ok v w := by
    rw [show ((i : Int) + 1) = ((i + 1 : Nat) : Int) by omega]
    exact sl_chk _ n cap i (i + 1) n (by omega) (by omega) hnc w
  have hne : ((i : Int) == (i : Int) + 1) = false := beq_eq_false_iff_ne.2 (by omega)
  have HO := Lib.hid ho3
  have HG := Lib.hid hg3
  clear ho ho2 ho3 hg hg2 hg3 hk2 hs2 hta hsz hm hb haA haE hadd hn
  go_enter Try.func55, Try.ntmps55
  go_upto_region 5 with (refine wpList_run_slice (t := 30) (x := .tmp 8) (lo := some (.tmp 9)) (hi := some (.tmp 10)) (mx := some (.tmp 12)) (by rfl) (by rfl) ht_ts (by rfl) (by rfl) (by rfl) (by rfl) h4 ?_)
  refine wp_region_held_drew (S := (fun _ : World => True)) (by kernel_rfl) (trivial) (fun hHeld => ?_)
  refine take1 (i := 0) (d := 20) (v := ?_) rfl (by kernel_rfl) (by kernel_rfl) (by kernel_rfl) rfl (fun _ _ _ h => h) (Or.inl ⟨by rfl, ?_⟩) (by assumption) ?_
  rotate_left
  · (intro w hSw; (try dsimp only at hSw); go_simp); with_reducible rfl
  simp only [List.set_cons_zero, List.set_cons_succ]
  refine take1 (i := 1) (d := 21) (v := ?_) rfl (by kernel_rfl) (by kernel_rfl) (by kernel_rfl) rfl (fun _ _ _ h => h) (Or.inl ⟨by rfl, ?_⟩) (by assumption) ?_
  rotate_left
  · (intro w hSw; (try dsimp only at hSw); go_simp); with_reducible rfl
  simp only [List.set_cons_zero, List.set_cons_succ]
  refine take1 (i := 2) (d := 22) (v := ?_) rfl (by kernel_rfl) (by kernel_rfl) (by kernel_rfl) rfl (fun _ _ _ h => h) (Or.inl ⟨by rfl, ?_⟩) (by assumption) ?_
  rotate_left
  · intro w hSw; refine (exec_slice (t := 30) (x := .tmp 20) (lo := none) (hi := some (.tmp 21)) (mx := none) (by rfl) ht_ts (by rfl) (by rfl) (by rfl) (by rfl) (h1 w)).trans ?_; with_reducible rfl
  simp only [List.set_cons_zero, List.set_cons_succ]
  refine take1 (i := 3) (d := 23) (v := ?_) rfl (by kernel_rfl) (by kernel_rfl) (by kernel_rfl) rfl (fun _ _ _ h => h) (Or.inl ⟨by rfl, ?_⟩) (by assumption) ?_
  rotate_left
  · (intro w hSw; (try dsimp only at hSw); go_simp); with_reducible rfl
  simp only [List.set_cons_zero, List.set_cons_succ]
  refine take1 (i := 4) (d := 24) (v := ?_) rfl (by kernel_rfl) (by kernel_rfl) (by kernel_rfl) rfl (fun _ _ _ h => h) (Or.inl ⟨by rfl, ?_⟩) (by assumption) ?_
  rotate_left
  · (intro w hSw; (try dsimp only at hSw); go_simp); with_reducible rfl
  simp only [List.set_cons_zero, List.set_cons_succ]
  refine take1 (i := 5) (d := 25) (v := ?_) rfl (by kernel_rfl) (by kernel_rfl) (by kernel_rfl) rfl (fun _ _ _ h => h) (Or.inl ⟨by rfl, ?_⟩) (by assumption) ?_
  rotate_left
  · intro w hSw; refine (exec_slice (t := 30) (x := .tmp 23) (lo := some (.tmp 24)) (hi := none) (mx := none) (by rfl) ht_ts (by rfl) (by rfl) (by rfl) (by rfl) (h2 w)).trans ?_; with_reducible rfl
  simp only [List.set_cons_zero, List.set_cons_succ]
  refine wpAnyH_ready (rs := [6]) (by kernel_rfl) (by simp) (AllReadyH.cons rfl (fun Kreg hKreg => ?_) AllReadyH.nil)
  refine step_run_append (by rfl) (.tmp 22) (.tmp 25) 30 (by rfl) (by rfl) (by rfl) happ ?_
  refine hKreg.out _ _ (trivial) (fun hHeld => ?_)
  clear hKreg Kreg
  refine wpAnyH_put (d := 26) (by rfl) ?_
  simp only [List.set_cons_zero, List.set_cons_succ]
  refine take1 (i := 7) (d := 0) (v := ?_) rfl (by kernel_rfl) (by kernel_rfl) (by kernel_rfl) rfl (fun _ _ _ h => h) (Or.inl ⟨by rfl, ?_⟩) (by assumption) ?_
  rotate_left
  · (intro w hSw; (try dsimp only at hSw); go_simp); with_reducible rfl
  simp only [List.set_cons_zero, List.set_cons_succ]
  refine wpAnyH_done (by kernel_rfl) ?_ _
  go_wp2_with (first | refine wpList_run_slice (t := 30) (x := .tmp 27) (lo := some (.tmp 29)) (hi := some (.tmp 30)) (mx := none) (by rfl) (by rfl) ht_ts (by rfl) (by rfl) (by rfl) (by rfl) (h3 _) ?_ | refine wpList_run_clear (by rfl) (.tmp 31) 30 (by rfl) (by rfl) hclr ?_)
  go_ret
  exact ⟨rfl, HO.out, HG.out⟩
end Go.Proofs.Ytgpdggojajjppaa.Bat
