/- Plain laws on frames in a row: cut anywhere, a byte turned. No program in sight. Conditions: insides of 1 to 200 bytes. -/
import Derived.Test.YtgbnaifjdfoahaaFrameTakesL
namespace Go.Proofs.Ytgbnaifjdfoahaa.Frame
open Wire

/-! ### A checksum finds a byte that turned -/
theorem xor_left_inj (n m b : Nat) (h : n ^^^ b = m ^^^ b) : n = m := by
  have h2 := congrArg (· ^^^ b) h
  simpa [Nat.xor_assoc] using h2
theorem xor_right_inj' (n m b : Nat) (h : b ^^^ n = b ^^^ m) : n = m := xor_left_inj n m b (by rw [Nat.xor_comm n, Nat.xor_comm m]; exact h)
theorem poly_bit : poly.testBit 63 = true := by decide
theorem crcStep_inj (n m : Nat) (hn : n < 18446744073709551616) (hm : m < 18446744073709551616) (h : crcStep n = crcStep m) : n = m := by
  have hb : ∀ x, x < 18446744073709551616 → (x / 2).testBit 63 = false := fun x hx => Nat.testBit_lt_two_pow (by show x / 2 < 9223372036854775808; omega)
  have hx : ∀ x, x < 18446744073709551616 → ((x / 2) ^^^ poly).testBit 63 = true := fun x hx => by rw [Nat.testBit_xor, hb x hx, poly_bit]; rfl
  unfold crcStep at h
  by_cases h1 : n % 2 = 1 <;> by_cases h2 : m % 2 = 1
  · rw [if_pos h1, if_pos h2] at h
    have := xor_left_inj _ _ _ h
    omega
  · rw [if_pos h1, if_neg h2] at h
    have := hx n hn
    rw [h, hb m hm] at this
    cases this
  · rw [if_neg h1, if_pos h2] at h
    have := hx m hm
    rw [← h, hb n hn] at this
    cases this
  · rw [if_neg h1, if_neg h2] at h
    omega
theorem crcN_inj (n m k : Nat) (hn : n < 18446744073709551616) (hm : m < 18446744073709551616) (h : crcN n k = crcN m k) : n = m := by
  induction k with
  | zero => exact h
  | succ k ih => exact ih (crcStep_inj _ _ (crcN_lt n k hn) (crcN_lt m k hm) h)
theorem crcMore_inj (l : List UInt8) : ∀ (n m : Nat), n < 18446744073709551616 → m < 18446744073709551616 → crcMore n l = crcMore m l → n = m := by
  induction l with
  | nil => intro n m _ _ h; exact h
  | cons b l ih =>
    intro n m hn hm h
    have h2 := ih _ _ (crcN_lt _ 8 (xor_byte_lt n b hn)) (crcN_lt _ 8 (xor_byte_lt m b hm)) h
    exact xor_left_inj _ _ _ (crcN_inj _ _ 8 (xor_byte_lt n b hn) (xor_byte_lt m b hm) h2)
theorem crcMore_app (n : Nat) (a b : List UInt8) : crcMore n (a ++ b) = crcMore (crcMore n a) b := by unfold crcMore; rw [List.foldl_append]
theorem cpl_inj (n m : Nat) (hn : n < 18446744073709551616) (hm : m < 18446744073709551616) (h : cpl n = cpl m) : n = m := by unfold cpl at h; omega
theorem crc_byte (p t : List UInt8) (b c : UInt8) (h : crcSum (p ++ b :: t) = crcSum (p ++ c :: t)) : b = c := by
  unfold crcSum at h
  have h0 := cpl_lt 0
  generalize cpl 0 = n at *
  have h1 := cpl_inj _ _ (crcMore_lt _ _ h0) (crcMore_lt _ _ h0) h
  rw [crcMore_app, crcMore_app] at h1
  have hp := crcMore_lt n p h0
  generalize crcMore n p = m at *
  have h2 := crcMore_inj t _ _ (crcN_lt _ 8 (xor_byte_lt m b hp)) (crcN_lt _ 8 (xor_byte_lt m c hp)) h1
  have h3 := crcN_inj _ _ 8 (xor_byte_lt m b hp) (xor_byte_lt m c hp) h2
  exact UInt8.toNat_inj.1 (xor_right_inj' _ _ _ h3)
theorem crc_set (a : List UInt8) (j : Nat) (v : UInt8) (hj : j < a.length) (hv : v ≠ a[j]) : crcSum (a.set j v) ≠ crcSum a := by
  intro h
  rw [List.set_eq_take_append_cons_drop, if_pos hj] at h
  conv at h => rhs; rw [← List.take_append_drop j a, List.drop_eq_getElem_cons hj]
  exact hv (crc_byte _ _ _ _ h)

/-! ### Rows of frames -/
def allB (l : List (List UInt8)) : List UInt8 := (l.map frameB).flatten
def Fine (l : List (List UInt8)) : Prop := ∀ x ∈ l, 0 < x.length ∧ x.length ≤ 200
theorem allB_snoc (l : List (List UInt8)) (x : List UInt8) : allB (l ++ [x]) = allB l ++ frameB x := by unfold allB; rw [List.map_append, List.flatten_append]; simp
theorem allB_cons (l : List (List UInt8)) (x : List UInt8) : allB (x :: l) = frameB x ++ allB l := by unfold allB; simp
theorem allB_app (a b : List (List UInt8)) : allB (a ++ b) = allB a ++ allB b := by unfold allB; rw [List.map_append, List.flatten_append]
theorem small_frame (x : List UInt8) (h : x.length ≤ 200) : frameB x = UInt8.ofNat x.length :: (leB 8 (crcSum x) ++ x) := by
  unfold frameB numB
  rw [if_pos (by omega)]
  rfl
theorem small_len (x : List UInt8) (h : x.length ≤ 200) : (frameB x).length = 9 + x.length := by
  rw [small_frame x h, List.length_cons, List.length_append, leB_length]; omega
theorem small_num (x : Nat) (h : x ≤ 200) (l : List UInt8) : Rd.num ⟨0, UInt8.ofNat x :: l⟩ = (x, ⟨0, l⟩) := by
  have e : (UInt8.ofNat x).toNat = x := by rw [UInt8.toNat_ofNat', Nat.mod_eq_of_lt (by omega)]
  rw [num_small _ _ (by omega), e]
/-- A frame that is cut is short. -/
theorem take_cut (x : List UInt8) (h1 : 0 < x.length) (h2 : x.length ≤ 200) (m : Nat) (hm : 0 < m) (hm2 : m < (frameB x).length) : (takeF ((frameB x).take m)).2.2 = 3 := by
  obtain ⟨j, rfl⟩ : ∃ j, m = j + 1 := ⟨m - 1, by omega⟩
  rw [small_len x h2] at hm2
  unfold takeF
  rw [small_frame x h2, List.take_succ_cons, small_num _ h2]
  simp only
  rw [if_neg (by simp), if_neg (by omega), if_pos (by rw [List.length_take, List.length_append, leB_length]; omega)]
/-- A frame of which a byte behind the length turned has another sum. -/
theorem take_turned (x rest : List UInt8) (h1 : 0 < x.length) (h2 : x.length ≤ 200) (j : Nat) (hj : j < 8 + x.length) (v : UInt8) (hv : (leB 8 (crcSum x) ++ x)[j]? ≠ some v) :
    (takeF (UInt8.ofNat x.length :: (((leB 8 (crcSum x) ++ x).set j v) ++ rest))).2.2 = 5 := by
  have h8 := leB_length 8 (crcSum x)
  have hcl := leV_leB 8 (crcSum x) (by have := crcSum_lt x; omega)
  unfold takeF
  rw [small_num _ h2]
  simp only
  have hl : ((leB 8 (crcSum x) ++ x).set j v ++ rest).length = 8 + x.length + rest.length := by rw [List.length_append, List.length_set, List.length_append, h8]
  rw [if_neg (by simp), if_neg (by omega), if_neg (by rw [hl]; omega)]
  by_cases h9 : j < 8
  · rw [List.getElem?_append_left (by omega)] at hv
    rw [List.set_append_left _ _ (by omega)]
    have t1 : ((leB 8 (crcSum x)).set j v ++ x ++ rest).take 8 = (leB 8 (crcSum x)).set j v := by rw [List.append_assoc]; exact List.take_left' (by rw [List.length_set, h8])
    have t2 : ((leB 8 (crcSum x)).set j v ++ x ++ rest).drop 8 = x ++ rest := by rw [List.append_assoc]; exact List.drop_left' (by rw [List.length_set, h8])
    rw [t1, t2, List.take_left' rfl, if_pos ?_]
    intro he
    have hb := leB_leV ((leB 8 (crcSum x)).set j v)
    rw [List.length_set, h8, he] at hb
    apply hv
    rw [hb, List.getElem?_set_self (by omega)]
  · rw [List.getElem?_append_right (by omega), h8] at hv
    rw [List.set_append_right _ _ (by omega), h8]
    have t1 : (leB 8 (crcSum x) ++ x.set (j - 8) v ++ rest).take 8 = leB 8 (crcSum x) := by rw [List.append_assoc]; exact List.take_left' h8
    have t2 : (leB 8 (crcSum x) ++ x.set (j - 8) v ++ rest).drop 8 = x.set (j - 8) v ++ rest := by rw [List.append_assoc]; exact List.drop_left' h8
    rw [t1, t2, List.take_left' (by rw [List.length_set]), if_pos ?_]
    rw [hcl]
    have hjx : j - 8 < x.length := by omega
    exact (crc_set x (j - 8) v hjx (fun e => hv (by rw [List.getElem?_eq_getElem hjx, e]))).symm

/-! ### What a row of frames tells -/
theorem split_row : ∀ (l : List (List UInt8)) (p : List UInt8) (k at_ : Nat), Fine l → (allB l ++ p).length < k →
    ∃ j, p.length < j ∧ (splitF k (allB l ++ p) at_).1.map Prod.snd = l ++ (splitF j p (at_ + (allB l).length)).1.map Prod.snd ∧ (splitF k (allB l ++ p) at_).2 = (splitF j p (at_ + (allB l).length)).2 := by
  intro l
  induction l with
  | nil => intro p k at_ _ hk; exact ⟨k, by simpa [allB] using hk, by simp [allB], by simp [allB]⟩
  | cons x l ih =>
    intro p k at_ hf hk
    obtain ⟨hx1, hx2⟩ := hf x (List.mem_cons_self ..)
    have hfl : Fine l := fun y hy => hf y (List.mem_cons_of_mem _ hy)
    obtain ⟨i, rfl⟩ : ∃ i, k = i + 1 := ⟨k - 1, by omega⟩
    have e : allB (x :: l) ++ p = frameB x ++ (allB l ++ p) := by rw [allB_cons, List.append_assoc]
    have ht := take_put x (allB l ++ p) hx1 (by omega)
    have hl := small_len x hx2
    have hne : frameB x ++ (allB l ++ p) ≠ [] := fun h => by have := congrArg List.length h; rw [List.length_append, List.length_nil] at this; omega
    have hk2 : (allB l ++ p).length < i := by
      rw [e, List.length_append] at hk
      omega
    obtain ⟨j, g1, g2, g3⟩ := ih p i (at_ + (frameB x).length) hfl hk2
    refine ⟨j, g1, ?_, ?_⟩
    · rw [e, splitF, if_neg hne, ht, if_neg (by simp)]
      simp only [List.map_cons, List.drop_left]
      rw [g2, allB_cons, List.length_append, Nat.add_assoc]
      rfl
    · rw [e, splitF, if_neg hne, ht, if_neg (by simp)]
      simp only [List.drop_left]
      rw [g3, allB_cons, List.length_append, Nat.add_assoc]
theorem split_nil (j at_ : Nat) (h : 0 < j) : splitF j [] at_ = ([], at_, 0) := by
  obtain ⟨i, rfl⟩ : ∃ i, j = i + 1 := ⟨j - 1, by omega⟩
  rw [splitF, if_pos rfl]
theorem split_bad (p : List UInt8) (j at_ e : Nat) (h : 0 < j) (hp : p ≠ []) (ht : (takeF p).2.2 = e) (he : e ≠ 0) : splitF j p at_ = ([], at_, e) := by
  obtain ⟨i, rfl⟩ : ∃ i, j = i + 1 := ⟨j - 1, by omega⟩
  rw [splitF, if_neg hp, ht, if_pos he]
theorem texts_of (s : List UInt8) (l : List (List UInt8)) (p : List UInt8) (hs : s = allB l ++ p) (hf : Fine l) :
    (p = [] → (framesOf s).map Prod.snd = l ∧ endOf s = (allB l).length ∧ whyOf s = 0) ∧
    (∀ e, p ≠ [] → (takeF p).2.2 = e → e ≠ 0 → (framesOf s).map Prod.snd = l ∧ endOf s = (allB l).length ∧ whyOf s = e) := by
  subst hs
  obtain ⟨j, h1, h2, h3⟩ := split_row l p ((allB l ++ p).length + 1) 0 hf (Nat.lt_succ_self _)
  rw [Nat.zero_add] at h2 h3
  have e1 : (framesOf (allB l ++ p)).map Prod.snd = l ++ (splitF j p (allB l).length).1.map Prod.snd := h2
  have e2 : endOf (allB l ++ p) = (splitF j p (allB l).length).2.1 := congrArg Prod.fst h3
  have e3 : whyOf (allB l ++ p) = (splitF j p (allB l).length).2.2 := congrArg Prod.snd h3
  rw [e1, e2, e3]
  refine ⟨fun hp => ?_, fun e hp ht he => ?_⟩
  · subst hp
    rw [split_nil _ _ (by omega)]
    simp
  · rw [split_bad p j _ e (by omega) hp ht he]
    simp
/-- A row that is cut at n: those that are whole, and why they end. -/
theorem row_cut (l : List (List UInt8)) (hf : Fine l) (k n : Nat) (h1 : (allB (l.take k)).length ≤ n) (hn : n ≤ (allB l).length) (h2 : k < l.length → n < (allB (l.take (k + 1))).length) :
    (framesOf ((allB l).take n)).map Prod.snd = l.take k ∧ endOf ((allB l).take n) = (allB (l.take k)).length ∧ whyOf ((allB l).take n) = if (allB (l.take k)).length = n then 0 else 3 := by
  have hft : Fine (l.take k) := fun x hx => hf x (List.mem_of_mem_take hx)
  have hsplit : allB l = allB (l.take k) ++ allB (l.drop k) := by rw [← allB_app, List.take_append_drop]
  have hcut : (allB l).take n = allB (l.take k) ++ (allB (l.drop k)).take (n - (allB (l.take k)).length) := by
    conv => lhs; rw [hsplit]
    rw [List.take_append]
    congr 1
    exact List.take_of_length_le h1
  obtain ⟨g1, g2⟩ := texts_of _ _ _ hcut hft
  by_cases he : (allB (l.take k)).length = n
  · rw [if_pos he]
    exact g1 (by rw [he]; simp)
  · rw [if_neg he]
    have hkl : k < l.length := by
      rcases Nat.lt_or_ge k l.length with h | h
      · exact h
      · rw [List.take_of_length_le h] at he h1
        omega
    have hd : l.drop k = l[k] :: l.drop (k + 1) := List.drop_eq_getElem_cons hkl
    obtain ⟨hx1, hx2⟩ := hf l[k] (List.getElem_mem hkl)
    have hn2 := h2 hkl
    rw [List.take_add_one, List.getElem?_eq_getElem hkl] at hn2
    have e3 : allB (l.take k ++ (some l[k]).toList) = allB (l.take k) ++ frameB l[k] := allB_snoc _ _
    rw [e3, List.length_append] at hn2
    have hp : (allB (l.drop k)).take (n - (allB (l.take k)).length) = (frameB l[k]).take (n - (allB (l.take k)).length) := by
      rw [hd, allB_cons, List.take_append_of_le_length (by omega)]
    rw [hp] at g2
    exact g2 3 (fun h => by have := congrArg List.length h; rw [List.length_take, List.length_nil] at this; omega) (take_cut _ hx1 hx2 _ (by omega) (by omega)) (by decide)
/-- A row with a byte turned in the frame i, behind its length. -/
theorem row_turned (l : List (List UInt8)) (hf : Fine l) (i j : Nat) (hi : i < l.length) (hj : j < 8 + (l[i]).length) (v : UInt8)
    (hv : (allB l)[(allB (l.take i)).length + 1 + j]? ≠ some v) :
    (framesOf ((allB l).set ((allB (l.take i)).length + 1 + j) v)).map Prod.snd = l.take i ∧ endOf ((allB l).set ((allB (l.take i)).length + 1 + j) v) = (allB (l.take i)).length ∧ whyOf ((allB l).set ((allB (l.take i)).length + 1 + j) v) = 5 := by
  have hft : Fine (l.take i) := fun x hx => hf x (List.mem_of_mem_take hx)
  obtain ⟨hx1, hx2⟩ := hf l[i] (List.getElem_mem hi)
  have hd : l.drop i = l[i] :: l.drop (i + 1) := List.drop_eq_getElem_cons hi
  have hsplit : allB l = allB (l.take i) ++ (UInt8.ofNat (l[i]).length :: ((leB 8 (crcSum l[i]) ++ l[i]) ++ allB (l.drop (i + 1)))) := by
    conv => lhs; rw [← List.take_append_drop i l, hd, allB_app, allB_cons, small_frame _ hx2]
    rw [List.cons_append]
  generalize l[i] = x at *
  have h8 : (leB 8 (crcSum x) ++ x).length = 8 + x.length := by rw [List.length_append, leB_length]
  have e1 : (allB (l.take i)).length + 1 + j - (allB (l.take i)).length = j + 1 := by omega
  have hset : (allB l).set ((allB (l.take i)).length + 1 + j) v = allB (l.take i) ++ (UInt8.ofNat x.length :: (((leB 8 (crcSum x) ++ x).set j v) ++ allB (l.drop (i + 1)))) := by
    rw [hsplit, List.set_append_right _ _ (by omega), e1, List.set_cons_succ, List.set_append_left _ _ (by omega)]
  have hv2 : (leB 8 (crcSum x) ++ x)[j]? ≠ some v := by
    rw [hsplit, List.getElem?_append_right (by omega), e1, List.getElem?_cons_succ, List.getElem?_append_left (by omega)] at hv
    exact hv
  rw [hset]
  exact (texts_of _ _ _ rfl hft).2 5 (by simp) (take_turned x _ hx1 hx2 j hj v hv2) (by decide)
theorem allB_take_le (l : List (List UInt8)) (k : Nat) : (allB (l.take k)).length ≤ (allB l).length := by
  conv => rhs; rw [← List.take_append_drop k l, allB_app, List.length_append]
  omega
theorem allB_take_succ (l : List (List UInt8)) (k : Nat) (x : List UInt8) (h : l[k]? = some x) : allB (l.take (k + 1)) = allB (l.take k) ++ frameB x := by
  rw [List.take_add_one, h]
  exact allB_snoc _ _
theorem allB_le (l : List (List UInt8)) (hf : Fine l) : (allB l).length ≤ 209 * l.length := by
  induction l with
  | nil => simp [allB]
  | cons x l ih =>
    have h := ih (fun y hy => hf y (List.mem_cons_of_mem _ hy))
    obtain ⟨_, h2⟩ := hf x (List.mem_cons_self ..)
    rw [allB_cons, List.length_append, small_len x h2, List.length_cons]
    omega
end Go.Proofs.Ytgbnaifjdfoahaa.Frame
