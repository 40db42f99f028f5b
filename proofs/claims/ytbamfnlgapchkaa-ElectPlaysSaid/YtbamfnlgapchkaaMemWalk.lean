/- The functions of package member, walked: each returns what its plain law computes; the world is as it was, but for new blocks. Conditions: the arguments are of their types. -/
import Derived.Test.YtbamfnlgapchkaaMemPure
import Derived.Test.YtbamfnlgapchkaaProg
import Derived.WalkKit
import Derived.Outline
import Derived.Lib.Hide
import Derived.Shelf.Small.Bits
namespace Go.Proofs.Ytbamfnlgapchkaa.Mem
open Go.RowKit

theorem grown_trans {a b c : World} (h : Grown a b) (k : Grown b c) : Grown a c :=
  ⟨World.keptBut_trans h.1 k.1, fun x => (k.2.1 x).trans (h.2.1 x), Nat.le_trans h.2.2 k.2.2⟩
theorem ret_u8 {a : Int} {b : Nat} (h : a = (b : Int)) : Ending.returned (.int .u8 a) = .returned (.int .u8 (b : Int)) := by rw [h]
theorem ret_bool {a b : Bool} (h : a = b) : Ending.returned (.bool a) = .returned (.bool b) := by rw [h]
theorem ret_i64 {a b : Int} (h : a = b) : Ending.returned (.int .i64 a) = .returned (.int .i64 b) := by rw [h]

theorem or_and (a b : Nat) (ha : a < 256) (hb : b < 256) : bits .and .u8 (bits .or .u8 (a : Int) (b : Int)) 127 = ((withN a b : Nat) : Int) := by
  have h := Nat.or_lt_two_pow (n := 8) ha hb
  rw [u8_or_nat a b ha hb]; exact u8_and_nat (a ||| b) 127 h (by omega)
theorem and_and (a b : Nat) (ha : a < 256) (hb : b < 256) : bits .and .u8 (bits .and .u8 (a : Int) (b : Int)) 127 = ((bothN a b : Nat) : Int) := by
  have h : a &&& b < 256 := Nat.lt_of_le_of_lt Nat.and_le_left ha
  rw [u8_and_nat a b ha hb]; exact u8_and_nat (a &&& b) 127 h (by omega)
theorem not_and (a b : Nat) (ha : a < 256) (hb : b < 256) : bits .and .u8 (bits .andNot .u8 (a : Int) (b : Int)) 127 = ((withoutN a b : Nat) : Int) := by
  have h : a &&& (255 - b) < 256 := Nat.lt_of_le_of_lt Nat.and_le_left ha
  rw [u8_andNot_nat a b ha hb]; exact u8_and_nat (a &&& (255 - b)) 127 h (by omega)

theorem with_any (a b : Nat) (ha : a < 256) (hb : b < 256) (w : World) :
    Calls Try.prog 41 #[.int .u8 (a : Int), .int .u8 (b : Int)] w fun e w' => e = .returned (.int .u8 (withN a b : Nat)) ∧ w = w' := by
  go_enter Try.func41, Try.ntmps41
  go_wp2
  go_ret
  exact ⟨ret_u8 (or_and a b ha hb), rfl⟩
theorem both_any (a b : Nat) (ha : a < 256) (hb : b < 256) (w : World) :
    Calls Try.prog 45 #[.int .u8 (a : Int), .int .u8 (b : Int)] w fun e w' => e = .returned (.int .u8 (bothN a b : Nat)) ∧ w = w' := by
  go_enter Try.func45, Try.ntmps45
  go_wp2
  go_ret
  exact ⟨ret_u8 (and_and a b ha hb), rfl⟩
theorem without_any (a b : Nat) (ha : a < 256) (hb : b < 256) (w : World) :
    Calls Try.prog 43 #[.int .u8 (a : Int), .int .u8 (b : Int)] w fun e w' => e = .returned (.int .u8 (withoutN a b : Nat)) ∧ w = w' := by
  go_enter Try.func43, Try.ntmps43
  go_wp2
  go_ret
  exact ⟨ret_u8 (not_and a b ha hb), rfl⟩

theorem pop_eq (x : Int) (h0 : 0 ≤ x) (h1 : x ≤ 255) : wrap64 (Lib.pop8 x) = (Lib.onesCount x.toNat : Int) := by
  rw [← Lib.pop8_int x h0 h1]; unfold wrap64; exact Eq.refl _
theorem ones_any (x : Int) (w : World) (h0 : 0 ≤ x) (h1 : x ≤ 255) :
    Calls Try.prog 81 #[.int .u8 x] w fun e w' => e = .returned (.int .i64 (Lib.onesCount x.toNat)) ∧ w = w' := by
  rw [← pop_eq x h0 h1]
  go_enter Try.func81, Try.ntmps81
  go_wp2
  go_ret
  exact ⟨ret_i64 rfl, rfl⟩
theorem beq_no {n : Nat} (h : n ≠ 0) : ((n : Int) == 0) = false := beq_eq_false_iff_ne.2 (by omega)
theorem ones_len : ∀ x : Fin 128, Lib.onesCount x.val = lenN x.val := by decide +kernel
theorem len_and (a : Nat) : lenN (a &&& 127) = lenN a := by
  unfold lenN
  simp only [bt, Nat.testBit_and, bt127 0 (by omega), bt127 1 (by omega), bt127 2 (by omega), bt127 3 (by omega), bt127 4 (by omega), bt127 5 (by omega), bt127 6 (by omega), Bool.and_true]
theorem len_any (a : Nat) (ha : a < 256) (w : World) :
    Calls Try.prog 42 #[.int .u8 (a : Int)] w fun e w' => e = .returned (.int .i64 (lenN a : Nat)) ∧ w = w' := by
  have h := u8_and_nat a 127 ha (by omega)
  have hlt : a &&& 127 < 128 := Nat.lt_of_le_of_lt Nat.and_le_right (by omega)
  have H := Lib.hid h
  clear h
  go_enter Try.func42, Try.ntmps42
  go_wp2_with fail
  rw [show bits BinOp.and IntKind.u8 (a : Int) 127 = ((a &&& 127 : Nat) : Int) from H.out]
  refine (ones_any _ _ (by omega) (by omega)).mono ?_
  rintro e w' ⟨rfl, rfl⟩
  go_wp2_with fail
  go_ret
  exact ⟨ret_i64 (by rw [← len_and a, ← ones_len ⟨a &&& 127, hlt⟩]), rfl⟩
theorem need_any (a : Nat) (ha : a < 256) (w : World) :
    Calls Try.prog 48 #[.int .u8 (a : Int)] w fun e w' => e = .returned (.int .i64 (needN a : Nat)) ∧ w = w' := by
  have hl := lenN_le a
  go_enter Try.func48, Try.ntmps48
  go_wp2_with (go_at_call 42; refine (len_any _ ha _).mono ?_; rintro e w' ⟨rfl, rfl⟩)
  go_ret
  exact ⟨ret_i64 (by unfold needN; omega), rfl⟩
theorem major_any (a b : Nat) (ha : a < 256) (hb : b < 256) (w : World) :
    Calls Try.prog 44 #[.int .u8 (a : Int), .int .u8 (b : Int)] w fun e w' => e = .returned (.bool (majorB a b)) ∧ w = w' := by
  have hb2 : bothN a b < 256 := by have := both_lt a b; omega
  go_enter Try.func44, Try.ntmps44
  go_wp2_with fail
  refine (both_any _ _ ha hb _).mono ?_; rintro e w' ⟨rfl, rfl⟩
  go_wp2_with fail
  refine (len_any _ hb2 _).mono ?_; rintro e w' ⟨rfl, rfl⟩
  go_wp2_with fail
  refine (need_any _ ha _).mono ?_; rintro e w' ⟨rfl, rfl⟩
  go_wp2_with fail
  go_ret
  exact ⟨ret_bool (by unfold majorB; simp), rfl⟩

theorem ofN_snoc (l : List Nat) (x : Nat) : ofN (l ++ [x]) = ofN l ||| oneN x := by
  induction l with
  | nil => simp [ofN]
  | cons y l ih => simp only [List.cons_append, ofN, ih, Nat.or_assoc]
theorem ofN_take (l : List Nat) (k x : Nat) (h : l[k]? = some x) : ofN (l.take (k + 1)) = ofN (l.take k) ||| oneN x := by
  rw [List.take_add_one, h]; exact ofN_snoc _ _

theorem or_one (a x : Nat) (ha : a < 128) (hx : x < 7) : bits .or .u8 (a : Int) (2 ^ x % 256) = ((a ||| oneN x : Nat) : Int) := by
  have e : (2 ^ x % 256 : Int) = ((oneN x : Nat) : Int) := by
    match x, hx with
    | 0, _ | 1, _ | 2, _ | 3, _ | 4, _ | 5, _ | 6, _ => decide
  have := one_lt x
  rw [e]; exact u8_or_nat a (oneN x) (by omega) (by omega)

/-- A slice of numbers: its k-th cell, wherever there is one. -/
def Nums (w : World) (A : Option Addr) (l : List Nat) : Prop :=
  ∀ (k x : Nat), l[k]? = some x → ∃ ad, A = some ad ∧ w.cell? (ad.add k) = some (.int .u8 (x : Int))

set_option maxHeartbeats 400000 in
theorem of_any (A : Option Addr) (n c : Nat) (l : List Nat) (hn : n = l.length) (hl : ∀ x ∈ l, x < 256) (w : World) (hr : Nums w A l) (hlen : l.length ≤ maxLen) :
    Calls Try.prog 47 #[.slice A n c] w fun e w' => e = .returned (.int .u8 (ofN l : Nat)) ∧ w = w' := by
  subst hn
  unfold maxLen at hlen
  have HL := Lib.hid hl
  have HR := Lib.hid hr
  clear hl hr
  go_enter Try.func47, Try.ntmps47
  go_wp2
  go_loop [3, 8] (fun s i => ∃ k : Nat, k ≤ l.length ∧ i = .int .i64 k ∧ s = .int .u8 (ofN (l.take k) : Nat)) (fun _ i => l.length - (intOf i).toNat)
  case atStart => exact ⟨0, Nat.zero_le _, rfl, rfl⟩
  case round =>
    obtain ⟨k, hk, rfl, rfl⟩ := hrel
    by_cases hlt : k < l.length
    · obtain ⟨x, hx⟩ : ∃ x, l[k]? = some x := ⟨l[k], List.getElem?_eq_getElem hlt⟩
      obtain ⟨ad, rfl, hc⟩ := HR.out k x hx
      have hx2 := HL.out x (List.mem_of_getElem? hx)
      have hs := Lib.hid (ofN_take l k x hx)
      have hb := of_lt (l.take k)
      clear hx
      by_cases h7 : x < 7
      · go_wp2
        exact ⟨⟨k + 1, by omega, by go_num, by rw [hs.out, or_one _ x hb h7]⟩, by simp [intOf]; omega⟩
      · have ho : ofN (l.take k) ||| oneN x = ofN (l.take k) := by unfold oneN; rw [if_neg h7, Nat.or_zero]
        have HO := Lib.hid ho
        clear ho
        go_wp2
        exact ⟨⟨k + 1, by omega, by go_num, by rw [hs.out, HO.out]⟩, by simp [intOf]; omega⟩
    · go_wp2
      go_ret
      exact ⟨ret_u8 (by rw [List.take_of_length_le (by omega)]), rfl⟩

theorem nums_of (w : World) (b : Nat) (hb : b = w.heap.size) (vs : List Value) (t : TypeId) (l : List Nat) (h : vs = l.map (fun x : Nat => Value.int .u8 (x : Int))) : Nums (w.alloc (.cells vs.toArray t)) (some ⟨b, 0, none⟩) l := by
  subst hb
  intro k x hx
  refine ⟨_, rfl, ?_⟩
  have hk : vs[k]? = some (.int .u8 (x : Int)) := by rw [h, List.getElem?_map, hx]; rfl
  rw [Addr.add_lit, cell_of_row _ _ _ vs.toArray t (0, 0) (heap_alloc_new w _)]
  simpa using hk

theorem has_eq (s n : Nat) (hs : s < 256) (ho : ofN [n] < 256) : (bits .and .u8 (s : Int) ((ofN [n] : Nat) : Int) != 0) = hasB s n := by
  rw [u8_and_nat s _ hs ho]
  unfold hasB
  by_cases h : s &&& ofN [n] = 0
  · rw [h]; rfl
  · have h2 : ((s &&& ofN [n] : Nat) : Int) ≠ 0 := by omega
    simp [h, bne_iff_ne.2 h2]
theorem has_any (s n : Nat) (hs : s < 256) (hn : n < 256) (w : World) :
    Calls Try.prog 46 #[.int .u8 (s : Int), .int .u8 (n : Int)] w fun e w' => e = .returned (.bool (hasB s n)) ∧ w.alloc (.cells #[.int .u8 (n : Int)] 5) = w' := by
  have ho : ofN [n] < 256 := by have := of_lt [n]; omega
  go_enter Try.func46, Try.ntmps46
  go_wp2_with fail
  refine (of_any _ _ _ [n] rfl (by simpa using hn) _ (nums_of _ _ (by simp) [_] _ [n] rfl) (by unfold maxLen; simp)).mono ?_
  rintro e w' ⟨rfl, rfl⟩
  go_wp2_with fail
  go_ret
  exact ⟨ret_bool (has_eq s n hs ho), rfl⟩

theorem first_eq (n : Int) : (2 ^ (min (max n 0) 7).toNat % 256 - 1) % 256 = ((firstN n : Nat) : Int) := by
  unfold firstN
  generalize hd : (min (max n 0) 7).toNat = d
  have h7 : d ≤ 7 := by omega
  clear hd
  match d, h7 with
  | 0, _ | 1, _ | 2, _ | 3, _ | 4, _ | 5, _ | 6, _ | 7, _ => decide
theorem first_lt (n : Int) : firstN n < 128 := by
  unfold firstN
  generalize hd : (min (max n 0) 7).toNat = d
  have h7 : d ≤ 7 := by omega
  clear hd
  match d, h7 with
  | 0, _ | 1, _ | 2, _ | 3, _ | 4, _ | 5, _ | 6, _ | 7, _ => decide

end Go.Proofs.Ytbamfnlgapchkaa.Mem
