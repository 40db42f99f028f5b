/- Plain laws: numbers and texts put one behind the other are read one by one; with the last byte gone the last one is cut short. No program in sight. Conditions: numbers below 2^64, texts of at most 100 bytes. -/
import Derived.Test.YtgoppdllknimfaaWireLaw
namespace Go.Proofs.Ytgoppdllknimfaa.Wire

structure It where
  text : Bool
  n : Nat
  s : List UInt8
def It.Ok (x : It) : Prop := x.n < 18446744073709551616 ∧ x.s.length ≤ 100
def itB (x : It) : List UInt8 := if x.text then strB x.s else numB x.n
def itsB (l : List It) : List UInt8 := l.flatMap itB
theorem numB_short (n : Nat) (h : n ≤ 100) : numB n = [UInt8.ofNat n] := by unfold numB; rw [if_pos (by omega)]
theorem itB_len (x : It) (h : x.Ok) : 1 ≤ (itB x).length ∧ (itB x).length ≤ 109 := by
  obtain ⟨h1, h2⟩ := h
  unfold itB
  split
  · unfold strB; rw [List.length_append, numB_short _ h2, List.length_singleton]; omega
  · have := numB_length x.n h1; omega
theorem itsB_len (l : List It) (h : ∀ x ∈ l, x.Ok) : l.length ≤ (itsB l).length ∧ (itsB l).length ≤ 109 * l.length := by
  induction l with
  | nil => simp [itsB]
  | cons x l ih =>
    have h1 := itB_len x (h x (by simp))
    have h2 := ih (fun y hy => h y (by simp [hy]))
    unfold itsB at *
    rw [List.flatMap_cons, List.length_append, List.length_cons]
    omega
theorem itsB_snoc (l : List It) (x : It) : itsB (l ++ [x]) = itsB l ++ itB x := by simp [itsB]
theorem itsB_take (l : List It) (k : Nat) (x : It) (h : l[k]? = some x) : itsB (l.take (k + 1)) = itsB (l.take k) ++ itB x := by
  rw [List.take_add_one, h]
  exact itsB_snoc _ _
theorem itsB_drop (l : List It) (k : Nat) (x : It) (h : l[k]? = some x) : itsB (l.drop k) = itB x ++ itsB (l.drop (k + 1)) := by
  obtain ⟨hk, he⟩ := List.getElem?_eq_some_iff.1 h
  rw [List.drop_eq_getElem_cons hk, he]
  rfl
theorem str_put_back (s : List UInt8) (h : s.length ≤ 100) (rest : List UInt8) : Rd.str ⟨0, strB s ++ rest⟩ 100 = (s, ⟨0, rest⟩) := by
  unfold Rd.str Rd.below strB
  rw [List.append_assoc, num_put_back _ (by omega)]
  have e : (max (100 : Int) 0).toNat + 1 = 101 := rfl
  simp only [e]
  rw [if_neg (by simp), if_neg (by omega)]
  simp only
  rw [take_ok _ _ (by simp)]
  simp
theorem cut_num (n : Nat) (hn : n < 18446744073709551616) : (Rd.num ⟨0, (numB n).dropLast⟩).2.err = 3 := by
  unfold numB
  by_cases h : n < 248
  · rw [if_pos h]; rfl
  · rw [if_neg h]
    obtain ⟨h1, h2, _, _⟩ := width_bounds n (by omega) hn
    have e : (UInt8.ofNat (247 + widthN n)).toNat = 247 + widthN n := by rw [UInt8.toNat_ofNat', Nat.mod_eq_of_lt (by omega)]
    have hb := beB_length (widthN n) n
    generalize hB : beB (widthN n) n = B at *
    match B, hb with
    | [], hb => simp at hb; omega
    | b :: B, hb =>
      rw [List.dropLast_cons_of_ne_nil (by simp), num_short _ _ (by omega) (by rw [e, List.length_dropLast, hb]; omega)]
theorem cut_str (s : List UInt8) (h : s.length ≤ 100) : (Rd.str ⟨0, (strB s).dropLast⟩ 100).2.err = 3 := by
  unfold strB
  by_cases h0 : s = []
  · subst h0; rfl
  · rw [List.dropLast_append_of_ne_nil h0]
    unfold Rd.str Rd.below
    rw [num_put_back _ (by omega)]
    have e : (max (100 : Int) 0).toNat + 1 = 101 := rfl
    simp only [e]
    rw [if_neg (by simp), if_neg (by omega)]
    simp only
    have hl : 0 < s.length := List.length_pos_iff.2 h0
    rw [take_short _ _ (by rw [List.length_dropLast]; omega)]
/-- The reader behind an item. -/
def itR (q : Rd) (x : It) : Rd := if x.text then (q.str 100).2 else q.num.2
theorem itR_put (x : It) (h : x.Ok) (rest : List UInt8) : itR ⟨0, itB x ++ rest⟩ x = ⟨0, rest⟩ := by
  unfold itR itB
  split
  · rw [str_put_back _ h.2]
  · rw [num_put_back _ h.1]
theorem itR_cut (x : It) (h : x.Ok) : (itR ⟨0, (itB x).dropLast⟩ x).err = 3 := by
  unfold itR itB
  split
  · exact cut_str _ h.2
  · exact cut_num _ h.1
/-- What a reader of all but the last byte is behind k items. -/
def LessAt (l : List It) (k : Nat) (q : Rd) : Prop := (k < l.length → q = ⟨0, (itsB (l.drop k)).dropLast⟩) ∧ (k = l.length → q.err = 3)
theorem less_step (l : List It) (hok : ∀ x ∈ l, x.Ok) (k : Nat) (x : It) (hx : l[k]? = some x) (q : Rd) (h : LessAt l k q) : LessAt l (k + 1) (itR q x) := by
  obtain ⟨hk, he⟩ := List.getElem?_eq_some_iff.1 hx
  have hxo := hok x (List.mem_of_getElem? hx)
  rw [h.1 hk, itsB_drop l k x hx]
  by_cases hl : k + 1 < l.length
  · refine ⟨fun _ => ?_, fun h => by omega⟩
    have h1 := (itsB_len (l.drop (k + 1)) (fun y hy => hok y (List.mem_of_mem_drop hy))).1
    rw [List.length_drop] at h1
    have hne : itsB (l.drop (k + 1)) ≠ [] := by intro e; rw [e] at h1; simp at h1; omega
    rw [List.dropLast_append_of_ne_nil hne]
    exact itR_put x hxo _
  · refine ⟨fun h => by omega, fun _ => ?_⟩
    have e : itsB (l.drop (k + 1)) = [] := by rw [List.drop_of_length_le (by omega)]; rfl
    rw [e, List.append_nil]
    exact itR_cut x hxo
theorem left_of_err (q : Rd) (h : q.err = 3) : q.left = 0 := by unfold Rd.left; rw [if_pos (by omega)]
end Go.Proofs.Ytgoppdllknimfaa.Wire
