/- The reference's functions on lists of nodes, walked. Conditions: the arguments are of their types; a list is one that can be read. -/
import Derived.Test.YtbamfnlgapchkaaBase
import Derived.Deep.DeepMust
import Derived.Test.YtbamfnlgapchkaaMemWalk
import Derived.Test.YtbamfnlgapchkaaMemRefPure
namespace Go.Proofs.Ytbamfnlgapchkaa.Mem
open Go.RowKit

def u8v (x : Nat) : Value := .int .u8 (x : Int)
theorem one_u8v (l : List Nat) : ∀ u ∈ l.map u8v, u.oneCell' = true := by
  intro u hu
  obtain ⟨x, _, rfl⟩ := List.mem_map.1 hu
  rfl
/-- A call hands back a list of nodes, in new memory or nil; what lay stays. -/
def RetNums (w w' : World) (e : Ending) (l : List Nat) : Prop :=
  ∃ A c, e = .returned (.slice A l.length c) ∧ Reads w' w'.heap.size 1 A l.length (l.map u8v) ∧ Below w.heap.size w w'
theorem nums_reads {w : World} {B : Nat} {A : Option Addr} {n : Nat} {l : List Nat} (h : Reads w B 1 A n (l.map u8v)) : Nums w A l := by
  intro k x hx
  have hl : (l.map u8v).length = n * 1 := h.1
  have hk : k < l.length := (List.getElem?_eq_some_iff.1 hx).1
  obtain ⟨ad, u, rfl, _, hu, hc⟩ := h.at_ (k := k) (by simp at hl; omega)
  refine ⟨ad, rfl, ?_⟩
  rw [hc, ← hu, List.getElem?_map, hx]
  rfl
theorem own_slice {w : World} {base : Nat} {e : TypeId} {v : Value} {n : Nat} {xs : List Value} (h : w.ownsRow base e 1 v n xs) : ∃ A c, v = .slice A n c ∧ Reads w w.heap.size 1 A n xs := by
  have h' := h
  rcases h.2 with ⟨rfl, rfl⟩ | ⟨g, cap, cur, rfl, _⟩
  · obtain rfl : xs = [] := List.eq_nil_of_length_eq_zero (by simpa using h.1)
    exact ⟨none, 0, rfl, Reads.none_⟩
  · exact ⟨_, _, rfl, Reads.of_own h'⟩

theorem own_step {w wr w1 : World} {base : Nat} {e : TypeId} {size : Nat} {v : Value} {n : Nat} {xs : List Value} {o : Obj} (hown : wr.ownsRow base e size v n xs) (hB : Below base w wr) (hbase : base ≤ wr.heap.size) (hg : (wr.alloc o).grownBy w1 v.ownBlock) : Below base w w1 :=
  (hB.alloc hbase o).grown hg (by simp; omega) (fun k hk => (hown.lt k hk).1)

theorem info_u8 : (Try.prog.info? 5).map (fun i => (i.zero, i.size, i.bytes)) = some (some (.int .u8 0), 1, 1) := by kernel_rfl

theorem div_succ {x k y : Nat} (h : Hid (y = x / 2 ^ k)) : Hid (y / 2 = x / 2 ^ (k + 1)) := by
  have h := h.out
  show _ = _
  rw [h, Nat.pow_succ, ← Nat.div_div_eq_div_mul]
theorem half_u8 (y : Nat) : ((y : Int) / 2) = ((y / 2 : Nat) : Int) := by omega
theorem test_yes {x k y : Nat} (h : Hid (y = x / 2 ^ k)) (ht : x.testBit k = true) : (((y : Nat) : Int) % 2 == 1) = true := by
  rw [test_div, ← h.out] at ht
  have := of_decide_eq_true ht
  rw [beq_iff_eq]; omega
theorem test_no {x k y : Nat} (h : Hid (y = x / 2 ^ k)) (ht : x.testBit k = false) : (((y : Nat) : Int) % 2 == 1) = false := by
  rw [test_div, ← h.out] at ht
  have := of_decide_eq_false ht
  rw [beq_eq_false_iff_ne]; omega

/-- What holds at the head of a round of List's loop. -/
def ListAt (x : Nat) (w : World) (s v i : Value) (wr : World) : Prop :=
  ∃ k y : Nat, k ≤ 7 ∧ Hid (y = x / 2 ^ k) ∧ y < 256 ∧ s = .int .u8 (y : Int) ∧ i = .int .i64 k ∧ wr.ownsRow w.heap.size 5 1 v (listTo x k).length ((listTo x k).map u8v) ∧ Below w.heap.size w wr

set_option maxRecDepth 100000 in
set_option maxHeartbeats 1000000 in
theorem list_any (x : Nat) (hx : x < 256) (w : World) :
    Calls Try.prog 69 #[.int .u8 (x : Int)] w fun e w' => RetNums w w' e (listN x) := by
  obtain ⟨i0, hi, hz0, hz1, hz2⟩ := info_parts info_u8
  go_enter Try.func69, Try.ntmps69
  go_wp2
  go_loopw [0, 3, 4] (fun s v i wr => ListAt x w s v i wr) (fun _ _ i _ => 7 - (intOf i).toNat)
  case atStart => exact ⟨0, x, by omega, by show x = x / 2 ^ 0; simp, hx, rfl, rfl, World.ownsRow_nil _ _ _ _, Below.refl _ _⟩
  case round =>
    obtain ⟨k, y, hk, hy, hy2, rfl, rfl, hown, hB⟩ := hrel
    have hlen := listTo_len x k
    have hd := div_succ hy
    have hh := Lib.hid (half_u8 y)
    by_cases hlt : k < 7
    · cases ht : x.testBit k
      · have htd := test_no hy ht
        have HT := Lib.hid (listTo_no x k ht)
        clear ht
        go_wp2
        exact ⟨⟨k + 1, y / 2, by omega, hd, by omega, by rw [hh.out], by go_num, by rw [HT.out]; exact hown, hB⟩, by simp [intOf]; omega⟩
      · have htd := test_yes hy ht
        have HT := Lib.hid (listTo_yes x k ht)
        clear ht
        go_wp2_with (at_builtin; go_must (refine wpList_append_own _ rfl (.tmp 12) (.tmp 15) 22 rfl w.heap.size 5 i0 (.int .u8 0) 1 1 Try.underlying22 hi hz0 hz1 hz2 rfl (by decide) _ _ _ rfl (hown.alloc _) ⟨wr.heap.size, 0, none⟩ 1 1 [.int .u8 (k : Int)] rfl rfl (cell_one_new _ _ _) (by simp [Value.oneCell']) (by unfold maxLen; omega) (by omega) (by have := hB.size; simp; omega) ?_); intro v' w1 hown' hgrow _)
        have hB1 := own_step hown hB hB.size hgrow
        exact ⟨⟨k + 1, y / 2, by omega, hd, by omega, by rw [hh.out], by go_num, by rw [HT.out]; simpa [u8v] using hown', hB1⟩, by simp [intOf]; omega⟩
    · obtain rfl : k = 7 := by omega
      go_wp2
      go_ret
      obtain ⟨A, c, rfl, hr⟩ := own_slice hown
      exact ⟨A, c, rfl, hr, hB⟩

/-- What holds at the head of a round of Has's loop: none of those before is the one. -/
theorem has_take {l : List Nat} {k x n : Nat} (hx : l[k]? = some x) (hne : x ≠ n) (h : hasL (l.take k) n = false) : hasL (l.take (k + 1)) n = false := by
  unfold hasL at h ⊢
  rw [List.take_add_one, hx]
  simp only [decide_eq_false_iff_not] at h ⊢
  simp only [Option.toList_some, List.mem_append, List.mem_singleton, not_or]
  exact ⟨h, fun e => hne e.symm⟩
theorem has_at {l : List Nat} {k x n : Nat} (hx : l[k]? = some x) (he : x = n) : hasL l n = true := by
  unfold hasL
  subst he
  simpa using List.mem_of_getElem? hx
theorem hasRef_any (A : Option Addr) (n c : Nat) (l : List Nat) (x : Nat) (hn : n = l.length) (hlen : n ≤ maxLen) (w : World) (hr : Nums w A l) :
    Calls Try.prog 78 #[.slice A n c, .int .u8 (x : Int)] w fun e w' => e = .returned (.bool (hasL l x)) ∧ w = w' := by
  subst hn
  unfold maxLen at hlen
  have HR := Lib.hid hr
  clear hr
  go_enter Try.func78, Try.ntmps78
  go_wp2
  go_loop [5] (fun i => ∃ k : Nat, k ≤ l.length ∧ i = .int .i64 k ∧ Hid (hasL (l.take k) x = false)) (fun i => l.length - (intOf i).toNat)
  case atStart => exact ⟨0, Nat.zero_le _, rfl, by simp [Hid, hasL]⟩
  case round =>
    obtain ⟨k, hk, rfl, hno⟩ := hrel
    by_cases hlt : k < l.length
    · obtain ⟨y, hy⟩ : ∃ y, l[k]? = some y := ⟨l[k], List.getElem?_eq_getElem hlt⟩
      obtain ⟨ad, rfl, hc⟩ := HR.out k y hy
      have HY := Lib.hid hy
      clear hy
      by_cases he : y = x
      · have ht : ((y : Int) == (x : Int)) = true := by rw [beq_iff_eq]; omega
        have HE := Lib.hid he
        clear he
        go_wp2
        go_ret
        exact ⟨ret_bool (has_at HY.out HE.out).symm, rfl⟩
      · have ht : ((y : Int) == (x : Int)) = false := by rw [beq_eq_false_iff_ne]; omega
        go_wp2
        exact ⟨⟨k + 1, by omega, by go_num, has_take HY.out he hno.out⟩, by simp [intOf]; omega⟩
    · go_wp2
      go_ret
      exact ⟨ret_bool (by have := hno.out; rw [List.take_of_length_le (by omega)] at this; exact this.symm), rfl⟩

theorem pow_le (k : Nat) (h : k ≤ 7) : 2 ^ k ≤ 128 := (Nat.pow_le_pow_right (n := 2) (by omega) h : 2 ^ k ≤ 2 ^ 7)
/-- What holds at the head of a round of Set's loop. -/
def SetAt (l : List Nat) (s v i : Value) : Prop :=
  ∃ k p q : Nat, k ≤ 7 ∧ Hid (p = setTo l k) ∧ Hid (q = 2 ^ k) ∧ p < q ∧ q ≤ 128 ∧ s = .int .i64 (p : Int) ∧ v = .int .i64 (q : Int) ∧ i = .int .i64 k
set_option maxRecDepth 100000 in
theorem setRef_any (A : Option Addr) (n c : Nat) (l : List Nat) (hn : n = l.length) (hlen : n ≤ maxLen) (w : World) (hr : Nums w A l) :
    Calls Try.prog 64 #[.slice A n c] w fun e w' => e = .returned (.int .u8 (setN l : Nat)) ∧ w = w' := by
  subst hn
  have HR := Lib.hid hr
  clear hr
  go_enter Try.func64, Try.ntmps64
  go_wp2
  go_loop [3, 4, 5] (fun s v i => SetAt l s v i) (fun _ _ i => 7 - (intOf i).toNat)
  case atStart => exact ⟨0, 0, 1, by omega, rfl, rfl, by omega, by omega, rfl, rfl, rfl⟩
  case round =>
    obtain ⟨k, p, q, hk, hp, hq, hpq, hq8, rfl, rfl, rfl⟩ := hrel
    by_cases hlt : k < 7
    · have hq2 : Hid (q * 2 = 2 ^ (k + 1)) := by show _ = _; rw [hq.out, Nat.pow_succ]
      have hq3 : q * 2 ≤ 128 := by rw [hq2.out]; exact pow_le (k + 1) (by omega)
      cases hh : hasL l k
      · have HH : Hid (p = setTo l (k + 1)) := by show _ = _; rw [setTo, hh, hp.out]; rfl
        go_wp2_with (go_at_call 78; refine (hasRef_any _ _ _ l k rfl hlen _ HR.out).mono ?_; rintro e w' ⟨rfl, rfl⟩)
        exact ⟨⟨k + 1, p, q * 2, by omega, HH, hq2, by omega, hq3, rfl, by go_num, by go_num⟩, by simp [intOf]; omega⟩
      · have HH : Hid (p + q = setTo l (k + 1)) := by show _ = _; rw [setTo, hh, hp.out, hq.out]; rfl
        go_wp2_with (go_at_call 78; refine (hasRef_any _ _ _ l k rfl hlen _ HR.out).mono ?_; rintro e w' ⟨rfl, rfl⟩)
        exact ⟨⟨k + 1, p + q, q * 2, by omega, HH, hq2, by omega, hq3, by go_num, by go_num, by go_num⟩, by simp [intOf]; omega⟩
    · obtain rfl : k = 7 := by omega
      have hp8 : p < 128 := by omega
      go_wp2
      go_ret
      exact ⟨ret_u8 (by rw [hp.out]; rfl), rfl⟩

theorem pick_yes {a b : List Nat} {inn : Bool} {k x : Nat} (hx : a[k]? = some x) (h : (hasL b x == inn) = true) : pickL (a.take (k + 1)) b inn = pickL (a.take k) b inn ++ [x] := by
  unfold pickL
  rw [List.take_add_one, hx, List.filter_append]
  simp [h]
theorem pick_no {a b : List Nat} {inn : Bool} {k x : Nat} (hx : a[k]? = some x) (h : (hasL b x == inn) = false) : pickL (a.take (k + 1)) b inn = pickL (a.take k) b inn := by
  unfold pickL
  rw [List.take_add_one, hx, List.filter_append]
  simp [h]
theorem pick_len (a b : List Nat) (inn : Bool) (k : Nat) : (pickL (a.take k) b inn).length ≤ k :=
  Nat.le_trans (List.length_filter_le _ _) (List.length_take_le _ _)
theorem reads_u8 {w : World} {B : Nat} {A : Option Addr} {n : Nat} {l : List Nat} (h : Reads w B 1 A n (l.map u8v)) (k : Nat) (hk : k < l.length) :
    ∃ ad x, A = some ad ∧ l[k]? = some x ∧ w.cell? (ad.add k) = some (.int .u8 (x : Int)) := by
  obtain ⟨ad, hA, hc⟩ := nums_reads h k l[k] (List.getElem?_eq_getElem hk)
  exact ⟨ad, l[k], hA, List.getElem?_eq_getElem hk, hc⟩

def PickAt (a b : List Nat) (inn : Bool) (w : World) (v i : Value) (wr : World) : Prop :=
  ∃ k : Nat, k ≤ a.length ∧ i = .int .i64 k ∧ wr.ownsRow w.heap.size 5 1 v (pickL (a.take k) b inn).length ((pickL (a.take k) b inn).map u8v) ∧ Below w.heap.size w wr
set_option maxRecDepth 100000 in
set_option maxHeartbeats 1000000 in
theorem pick_any (A B : Option Addr) (n m c d : Nat) (a b : List Nat) (inn : Bool) (hn : n = a.length) (hm : m = b.length) (hla : n ≤ 1000) (hlb : m ≤ 1000) (w : World)
    (ha : Reads w w.heap.size 1 A n (a.map u8v)) (hb : Reads w w.heap.size 1 B m (b.map u8v)) :
    Calls Try.prog 88 #[.slice A n c, .slice B m d, .bool inn] w fun e w' => RetNums w w' e (pickL a b inn) := by
  obtain ⟨i0, hi, hz0, hz1, hz2⟩ := info_parts info_u8
  subst hn
  subst hm
  go_enter Try.func88, Try.ntmps88
  go_wp2
  go_loopw [7, 8] (fun v i wr => PickAt a b inn w v i wr) (fun _ i _ => a.length - (intOf i).toNat)
  case atStart => exact ⟨0, by omega, rfl, World.ownsRow_nil _ _ _ _, Below.refl _ _⟩
  case round =>
    obtain ⟨k, hk, rfl, hown, hB⟩ := hrel
    have hlen := pick_len a b inn k
    by_cases hlt : k < a.length
    · have hbn := Lib.hid (nums_reads (hb.below hB))
      obtain ⟨ad, x, hA, hx, hc⟩ := reads_u8 (ha.below hB) k hlt
      subst hA
      have HX := Lib.hid hx
      clear hx
      cases ht : (hasL b x == inn)
      · have HT := Lib.hid (pick_no HX.out ht)
        go_wp2_with (go_at_call 78; refine (hasRef_any _ _ _ b x rfl (by unfold maxLen; omega) _ hbn.out).mono ?_; rintro e w' ⟨rfl, rfl⟩)
        exact ⟨⟨k + 1, by omega, by go_num, by rw [HT.out]; exact hown, hB⟩, by simp [intOf]; omega⟩
      · have HT := Lib.hid (pick_yes HX.out ht)
        have hc2 : (wr.alloc (.cells #[.int .u8 (x : Int)] 5)).cell? (ad.add k) = some (.int .u8 (x : Int)) := by
          obtain ⟨ad', h1, h2, _⟩ := (ha.below hB).2 (by omega)
          injection h1 with h1
          subst h1
          rw [World.cell?_alloc_lt _ _ _ (by rw [block_of_add]; have := hB.size; omega)]
          exact hc
        go_wp2_with (first | (go_at_call 78; refine (hasRef_any _ _ _ b x rfl (by unfold maxLen; omega) _ hbn.out).mono ?_; rintro e w' ⟨rfl, rfl⟩) | (at_builtin; go_must (refine wpList_append_own _ rfl (.tmp 23) (.tmp 28) 22 rfl w.heap.size 5 i0 (.int .u8 0) 1 1 Try.underlying22 hi hz0 hz1 hz2 rfl (by decide) _ _ _ rfl (hown.alloc _) ⟨wr.heap.size, 0, none⟩ 1 1 [.int .u8 (x : Int)] rfl rfl (cell_one_new _ _ _) (by simp [Value.oneCell']) (by unfold maxLen; omega) (by omega) (by have := hB.size; simp; omega) ?_); intro v' w1 hown' hgrow _))
        have hB1 := own_step hown hB hB.size hgrow
        exact ⟨⟨k + 1, by omega, by go_num, by rw [HT.out]; simpa [u8v] using hown', hB1⟩, by simp [intOf]; omega⟩
    · obtain rfl : k = a.length := by omega
      go_wp2
      go_ret
      obtain ⟨A', c', rfl, hr⟩ := own_slice hown
      rw [List.take_length] at hr ⊢
      exact ⟨A', c', rfl, hr, hB⟩

theorem majorRef_any (A B : Option Addr) (n m c d : Nat) (a b : List Nat) (hn : n = a.length) (hm : m = b.length) (hla : n ≤ 1000) (hlb : m ≤ 1000) (w : World)
    (ha : Reads w w.heap.size 1 A n (a.map u8v)) (hb : Reads w w.heap.size 1 B m (b.map u8v)) :
    Calls Try.prog 68 #[.slice A n c, .slice B m d] w fun e w' => e = .returned (.bool (majorL a b)) ∧ Below w.heap.size w w' := by
  have hp : (pickL a b true).length ≤ 1000 := Nat.le_trans (List.length_filter_le _ _) (by omega)
  subst hn
  subst hm
  have HA := Lib.hid ha
  have HB := Lib.hid hb
  clear ha hb
  go_enter Try.func68, Try.ntmps68
  go_wp2_with fail
  refine (pick_any _ _ _ _ _ _ a b true rfl rfl hla hlb _ HA.out HB.out).mono ?_
  rintro e w' ⟨A', c', rfl, hr, hb'⟩
  go_wp2_with fail
  go_ret
  exact ⟨ret_bool (by unfold majorL; rw [decide_eq_decide]; omega), hb'⟩
end Go.Proofs.Ytbamfnlgapchkaa.Mem
